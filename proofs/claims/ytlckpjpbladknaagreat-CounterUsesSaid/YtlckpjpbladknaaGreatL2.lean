/- part 2 of the proof -/
import Derived.Test.YtlckpjpbladknaaGreatL1
set_option linter.unusedVariables false
set_option linter.unusedSimpArgs false
set_option linter.unusedSectionVars false
noncomputable section
namespace Go.Gb
class Cy(R:FP->Pred):Prop where
 keep:∀{F G:FP}{v:Value}{k k':K},R F v k->Chg G k k'->bj F G->(∀b,G b->¬k.sh b)->R F v k'
 lt:∀{F:FP}{v:Value}{k:K},R F v k->∀b,F b->b<k.w.heap.size/\¬k.sh b
instance{R:FP->Pred}[Rsc R]:Cy R:=⟨λh c f g=>Rsc.keep h c f g,λh b e=>⟨Rsc.lt h b e,Rsc.nsh h b e⟩⟩
theorem wy{R:Pred}(h:∀{v:Value}{k f:K}{G:FP},R v k->Chg G k f->(∀b,G b->¬k.sh b)->R v f):Cy (dF R):=⟨λ⟨e,r⟩c _ j=>⟨e,h r c j⟩,λ⟨e,_⟩b g=>by rw[e]at g;exact g.elim⟩
structure ShL where
 vs:Nat
 need:List (Nat×Option Nat)cons:List Nat
def mP.sh(e:mP):ShL:=⟨e.vs,e.need,e.cons⟩
def ObX(P:Program)(f:List mP)(a0:Act)(g:K)(F:FP)(o:Oper)(e:mP):Prop:=Cy e.R/\∀a k G,a.tmps.size=a0.tmps.size->Chg F g k->p7 f a0 a k e.need->wK f a k e.cons G->G4 P o a k G e.R e.vs
def Km(n N:Nat)(f:List Oper)(g:List ShL)(m:List Nat)(i:Nat)(o:Oper)(e:ShL):Bool:=o.guard.isNone&&(match o.dst with|some d=>decide (d<n)&&Nat.beq e.vs d&&allI (λx ex=>Nat.beq x i||!(Nat.beq ex.vs d)||ed m x i) 0 g&&allI (λx u=>Nat.beq x i||u.dst !=some d) 0 f|none=>e.cons.length==1&&e.cons.all (λj=>(match nth g j with|some q=>Nat.beq q.vs e.vs|none=>false)))&&(aT o).all (λj=>decide (j<i))&&e.need.all (λx=>match x.2 with|some j=>(Nat.beq j N||(aT o).contains j)&&(match nth g j with|some q=>Nat.beq q.vs x.1|none=>false)&&allI (λh ex=>Nat.beq h i||!(ex.cons.contains j)||ed m h i) 0 g|none=>allI (λj w=>w.dst !=some x.1||Nat.beq j i||ed m j i) 0 f)&&e.cons.all (λj=>(Nat.beq j N||ed m i j)&&allI (λh ex=>Nat.beq h i||!(ex.cons.contains j)) 0 g)
def qa(n N:Nat)(f:List Oper)(g:List ShL)(m:List Nat):Nat->List Oper->List ShL->Bool|i,o::h,e::j=>Km n N f g m i o e&&qa n N f g m (i+1) h j|_,[],[e]=>e.cons.isEmpty|_,_,_=>false
theorem wE{n N:Nat}{g:List Oper}{m:List ShL}{w:List Nat}:∀{f:List Oper}{q:List ShL}{i:Nat},qa n N g m w i f q=true->∀j o,nth f j=some o->∃e,nth q j=some e/\Km n N g m w (i+j) o e=true|[],_,_,_,j,o,h=>by simp[nth]at h;|o::f,e::q,i,h,0,x,u=>by simp[qa]at h;simp[nth]at u;subst u;exact⟨e,rfl,h.1⟩;|o::f,e::q,i,h,j+1,x,u=>by simp[qa]at h;obtain⟨y,h1,z⟩:=wE h.2 j x (by simpa[nth]using u);exact⟨y,by simpa[nth]using h1,by rw[show i+(j+1)=i+1+j by omega];exact z⟩
theorem En{e g:Type}(f:e->g):∀(l:List e)(i:Nat),nth (l.map f) i=(nth l i).map f|[],_=>rfl|_::_,0=>rfl|_::l,i+1=>En f l i
structure MG(ops:List Oper)(es:List mP)(a0:Act)(k0:K)(F0:FP)(D:Nat->Prop)(Fs:Nat->FP)(a:Act)(k:K):Prop where
 chg:Chg F0 k0 k
 size:a.tmps.size=a0.tmps.size
 defers:a.defers=a0.defers
 vals:∀i e,D i->¬NA es D i->nth es i=some e->e.R (Fs i) (a.get e.vs) k
 apart:∀i j,i≠j->bj (Fs i) (Fs j)own:∀i b,Fs i b->(F0 b∨k0.w.heap.size<=b)/\b<k.w.heap.size/\¬k.sh b
 rest:∀t,(∀i o,D i->nth ops i=some o->o.dst≠some t)->a.get t=a0.get t
 closed:∀j o,nth ops j=some o->D j->∀e∈aT o,D e
 mem:∀i,D i->i<ops.length∨i=ops.length
 first:D ops.length
section
variable{P:Program}{a0:Act}{k0:K}{F0:FP}{es:List mP}{A:Array Oper}{n:Nat}
theorem Og{D:Nat->Prop}{Fs:Nat->FP}{a:Act}{k:K}{i:Nat}{o:Oper}{Q:Exit->Act->World->Prop}{C:Act->World->Prop}(hn:a0.tmps.size=n)(hchk:qa n A.size A.toList (es.map mP.sh) (eB A.toList []) 0 A.toList (es.map mP.sh)=true)(hst:∀i o e,nth A.toList i=some o->nth es i=some e->ObX P es a0 k0 F0 o e)(hall:∀e,nth es A.size=some e->Cy e.R)(hinv:MG A.toList es a0 k0 F0 D Fs a k)(hi:nth A.toList i=some o)(hb:∀j∈aT o,D j)(hDi:¬D i)(hQ:LetsOut Q)(hC:∀Fs' a' k',MG A.toList es a0 k0 F0 (λj=>D j∨j=i) Fs' a' k'->C a' k'.w):wpOp P A Q i C a k.w:=by
 obtain⟨e0,he0,hc⟩:=wE hchk i o hi;rw[En]at he0;obtain⟨e,he,rfl⟩:∃e,nth es i=some e/\e.sh=e0:=by cases hh:nth es i with|none=>rw[hh]at he0;simp at he0;|some e=>rw[hh]at he0;exact⟨e,rfl,ae he0⟩
 rw[bw]at hc;obtain⟨hR,hob⟩:=hst i o e hi he;have hsh:∀j ej,nth es j=some ej->nth (es.map mP.sh) j=some ej.sh:=λj ej h=>by rw[En,h];rfl
 simp only[Km,aD,Option.isNone_iff_eq_none]at hc;obtain⟨⟨⟨⟨hgd,hdst⟩,hedge⟩,hneed⟩,hcons⟩:=hc;have hbit:∀{x j:Nat},D x->ed (eB A.toList []) x j=true->D j:=λ {x j}hx h=>cq (L:=A.toList) (D:=D) hinv.closed (λo' ho'=>hinv.closed x o' ho' hx) h;have hbiti:∀{j:Nat},ed (eB A.toList []) i j=true->D j:=λ {j}h=>cq (L:=A.toList) (D:=D) hinv.closed (λo' ho'=>by rw[hi,aU]at ho';subst ho';exact hb) h;have hsz:a.tmps.size=n:=hinv.size.trans hn;have hAi:A[i]?=some o:=by rw[<-aH];exact hi
 have hDN:D A.size:=by have:=hinv.first;simpa using this
 have hcj:∀j∈e.cons,D j/\¬NA es D j:=λj hj=>by
  have h:=bG.1 hcons j hj;simp only[aD,bT]at h;refine⟨h.1.elim (λh=>by rw[ba h];exact hDN) hbiti,λ ⟨x,ex,hx,hex,hm⟩=>?_⟩;have:=bc h.2 x ex.sh (hsh x ex hex);simp only[bw,bT,Nat.beq_eq,cN,List.contains_eq_mem,decide_eq_false_iff_not]at this;rcases this with h'|h';.exact hDi (h'▸hx)
  .exact h' hm
 have hlen:∀{ops:List Oper} {l:List ShL} {i:Nat},qa n A.size A.toList (es.map mP.sh) (eB A.toList []) i ops l=true->l.length=ops.length+1:=by intro ops;induction ops with
 |nil=>intro l i h;match l,h with|[e],_=>rfl;|[],h=>simp[qa]at h;|_::_::_,h=>simp[qa]at h
 |cons o ops ih=>intro l i h;cases l with|nil=>simp[qa]at h;|cons e l=>simp only[qa,aD]at h;simp[ih h.2]
 have hesl:es.length=A.toList.length+1:=by simpa using hlen hchk
 have hes:∀j,D j->∃ej,nth es j=some ej:=λj hj=>by have hl:=hinv.mem j hj;exact⟨_,by rw[fH];exact bZ (by omega)⟩
 let G:FP:=λb=>∃j∈e.cons,Fs j b;have hG:∀b,G b->(F0 b∨k0.w.heap.size<=b)/\b<k.w.heap.size/\¬k.sh b:=λb ⟨j,_,hb⟩=>hinv.own j b hb;have htk:wK es a k e.cons G:=CF hinv.apart e.cons λj hj=>by obtain⟨hD,hU⟩:=hcj j hj;obtain⟨ej,hej⟩:=hes j hD;exact⟨ej,hej,hinv.vals j ej hD hU hej⟩
 have hkn:p7 es a0 a k e.need:=xV (Fs:=Fs) e.need (λt j htj ej hej=>by
 have h:=bG.1 hneed _ htj;simp only[aD,bT,iW,hsh j ej hej]at h;obtain⟨⟨h1,h2⟩,h3⟩:=h;have hD:D j:=h1.elim (λh=>by rw[ba h];exact hDN) (hb j);obtain rfl:ej.vs=t:=by simpa[mP.sh]using h2
 refine hinv.vals j ej hD (λ ⟨x,ex,hx,hex,hm⟩=>?_) hej;have:=bc h3 x ex.sh (hsh x ex hex);simp only[bw,bT,Nat.beq_eq,cN,List.contains_eq_mem,decide_eq_false_iff_not]at this;rcases this with(h'|h')|h';.exact hDi (h'▸hx)
 .exact h' hm
 .exact hDi (hbit hx h')) (λt ht=>by
 have h:=bG.1 hneed _ ht;simp only at h;refine hinv.rest t λj oj hDj hoj hdj=>?_;have hj:=bc h j oj hoj;simp only[bw,bT,bne_iff_ne,Nat.beq_eq]at hj;rcases hj with(h|h)|h;.exact h hdj
 .exact hDi (h▸hDj)
 .exact hDi (hbit hDj h));unfold wpOp;rw[hAi];simp only[];have hw:Region.wanted o (yielded A a.tmps)=true:=by simp[Region.wanted,hgd]
 rw[if_pos hw];refine .inl (hob a k G hinv.size hinv.chg hkn htk C Q hQ λv k' F hch hF hv=>?_);have hns:∀b,G b->¬k.sh b:=λb hb=>(hG b hb).2.2;have hgrow:Chg F0 k0 k':=hinv.chg.step hch λb hb=>(hG b hb).1;have hFl:∀b,F b->(F0 b∨k0.w.heap.size<=b)/\b<k'.w.heap.size/\¬k'.sh b:=λb hb=>by have h2:=hR.lt hv b hb;exact⟨(hF b hb).elim (λh=>(hG b h).1) (λh=> .inr (bB hinv.chg.size h)),h2.1,h2.2⟩
 have hget:∀x ex,nth es x=some ex->D x->x≠i->(a.put o.dst v).get ex.vs=a.get ex.vs:=λx ex hex hx hxi=>by cases hod:o.dst with|none=>rfl;|some d=>
  rw[hod]at hdst;simp only[aD,decide_eq_true_eq]at hdst;obtain⟨⟨⟨hdn,_⟩,hvs⟩,_⟩:=hdst;rw[dD _ _ _ _ (by rw[hsz];exact hdn)];have:=bc hvs x ex.sh (hsh x ex hex);simp only[bw,bT,Nat.beq_eq,cN,Nat.beq_eq_true_eq]at this;rw[if_neg];intro hd;rcases this with(h|h)|h;.exact hxi h
  .rw[show ex.sh.vs=d from hd.symm]at h;simp at h
  .exact hDi (hbit hx h)
 refine hC (λx=>if x=i then F else if x∈e.cons then noF else Fs x) _ _ ⟨hgrow,by rw[fG];exact hinv.size,by rw[ez];exact hinv.defers,?_,?_,?_,?_,?_,?_, .inl hinv.first⟩
 · intro x ex hx hU hex;by_cases hxi:x=i;·subst hxi;rw[he,aU]at hex;subst hex;rw[if_pos rfl];exact hv
   · have hDx:=hx.resolve_right hxi;have hxc:x∉e.cons:=λh=>hU ⟨i,e, .inr rfl,he,h⟩;rw[if_neg hxi,if_neg hxc,hget x ex hex hDx hxi];have hUx:¬NA es D x:=λ ⟨y,ey,hy,hey,hm⟩=>hU ⟨y,ey, .inl hy,hey,hm⟩;have hRx:Cy ex.R:=by
      rcases hinv.mem x hDx with hl|hl;·obtain⟨ox,hox⟩:∃ox,nth A.toList x=some ox:=⟨_,by rw[fH];exact bZ hl⟩;exact(hst x ox ex hox hex).1
      ·refine hall ex ?_;rw[hl]at hex;simpa using hex
     exact hRx.keep (hinv.vals x ex hDx hUx hex) hch (λb h ⟨j,hj,h'⟩=>hinv.apart x j (λe'=>hxc (e'▸hj)) b h h') hns
 · intro x y hxy b h1 h2;have key:∀z,z≠i->F b->(if z∈e.cons then noF else Fs z) b->False:=λz hz hf hz'=>by
    by_cases hzc:z∈e.cons;.rw[if_pos hzc]at hz';exact hz'
    · rw[if_neg hzc]at hz';rcases hF b hf with⟨j,hj,hj'⟩|h;.exact hinv.apart z j (λe'=>hzc (e'▸hj)) b hz' hj'
      .have:=(hinv.own z b hz').2.1;omega
   by_cases hxi:x=i;·have hyi:y≠i:=λe=>hxy (hxi.trans e.symm);rw[if_pos hxi]at h1;rw[if_neg hyi]at h2;exact key y hyi h1 h2
   · rw[if_neg hxi]at h1;by_cases hyi:y=i;·rw[if_pos hyi]at h2;exact key x hxi h2 h1
     · rw[if_neg hyi]at h2;split at h1;.exact h1
       · split at h2;.exact h2
         .exact hinv.apart x y hxy b h1 h2
 · intro x b h;split at h;.exact hFl b h
   · split at h;.exact h.elim
     · rename_i hxc;obtain⟨h1,h2,h3⟩:=hinv.own x b h;refine⟨h1,gk h2 hch.size,λhs=>?_⟩;rcases hch.new b h2 hs with hs|⟨j,hj,hj'⟩;.exact h3 hs
       .exact hinv.apart x j (λe'=>hxc (e'▸hj)) b h hj'
 ·intro t ht;have h1:a.get t=a0.get t:=hinv.rest t λj o' hj=>ht j o' (.inl hj);cases hod:o.dst with|none=>exact h1;|some d=>rw[hod]at hdst;simp only[aD,decide_eq_true_eq]at hdst;rw[dD _ _ _ _ (by rw[hsz];exact hdst.1.1.1),if_neg λe'=>ht i o (.inr rfl) hi (by rw[hod,e'])];exact h1
 · intro j o' ho' hj x hx;rcases hj with hj|rfl;.exact .inl (hinv.closed j o' ho' hj x hx)
   .rw[hi,aU]at ho';subst ho';exact .inl (hb x hx)
 · intro j hj;rcases hj with hj|rfl;.exact hinv.mem j hj
   .exact .inl (qU hi)
theorem Ui{Q:Exit->Act->World->Prop}(hn:a0.tmps.size=n)(I:qa n A.size A.toList (es.map mP.sh) (eB A.toList []) 0 A.toList (es.map mP.sh)=true)(hst:∀i o e,nth A.toList i=some o->nth es i=some e->ObX P es a0 k0 F0 o e)(q:∀e,nth es A.size=some e->Cy e.R)(hQ:LetsOut Q)(J:∀F a k,MG A.toList es a0 k0 F0 (λj=>j<A.size∨j=A.size) F a k->Q .normal a k.w):∀(u:Nat)(f:Array Bool)(F:Nat->FP)(a:Act)(k:K),f.size=A.size->u=(f.toList.filter (.=false)).length->MG A.toList es a0 k0 F0 (λj=>f.getD j false=true∨j=A.size) F a k->wpAny P .any A Q u f a k.w:=by
 have hout:∀(f:Array Bool),f.size=A.size->∀j,f.getD j false=true->j<A.size:=λf g j E=>by grind
 have x:∀(f:Array Bool)(F:Nat->FP)(a:Act)(k:K),f.size=A.size->(∀j,j<A.size->f.getD j false=true)->MG A.toList es a0 k0 F0 (λj=>f.getD j false=true∨j=A.size) F a k->Q .normal a k.w:=by intro f F a k g G m;refine J F a k ?_;have:(λj=>f.getD j false=true∨j=A.size)=(λj=>j<A.size∨j=A.size):=funext λj=>propext ⟨λh=>h.imp (hout f g j) id,λh=>h.imp (G j) id⟩;rw[this]at m;exact m
 have T:∀(f:Array Bool),f.size=A.size->∀j,j<A.size->f.getD j true=f.getD j false:=by grind
 have M:∀j o,nth A.toList j=some o->∀e∈aT o,e<j:=by intro j o ho e he;obtain⟨ej,_,hc⟩:=wE I j o ho;simp only[Km,aD,bw]at hc;simpa using bG.1 hc.1.1.2 e he
 have H:∀(f:Array Bool),f.size=A.size->(∃j,j<A.size/\f.getD j false=false)->Region.ready .any A f≠[]:=by
   intro f g⟨j,E⟩;have hex:∃j,j<A.size/\f.getD j false=false/\∀i,i<j->f.getD i false=true:=by induction j using Nat.strongRecOn with|_ j ihj=>
  by_cases q:∀i,i<j->f.getD i false=true;.exact⟨j,E.1,E.2,q⟩
  · obtain⟨i,hi⟩:=Classical.not_forall.1 q;obtain⟨hij,hib⟩:i<j/\¬f.getD i false=true:=⟨Classical.byContradiction λh=>hi λh'=>absurd h' h,λh=>hi λ _=>h⟩;exact ihj i hij ⟨by omega,by simpa using hib⟩
   obtain⟨j,O,U,hlow⟩:=hex;intro z;have hjr:j∈Region.ready .any A f:=by
    simp only[Region.ready,bQ,eH,aD,cN];refine⟨O,by rw[T f g j O];exact U,?_⟩;have hA:A[j]?=some A[j]:=by simp[O]
    rw[hA];simp only[dW,eD,fh];intro y hy;cases V:Region.binds .any y with|false=>rfl;|true=>
    simp only[fV,ga];have ho:nth A.toList j=some A[j]:=by rw[aH];exact hA
    exact hlow _ (M j _ ho y.on (by simp only[aT,aM,bQ,dO];exact⟨y,⟨hy,V⟩,rfl⟩))
   rw[z]at hjr;simp at hjr
 intro u;induction u with|zero=>
 intro f F a k g hf m;have G:∀j,j<A.size->f.getD j false=true:=by
  intro j E;have hz:=iA hf.symm;have:f[j]'(by omega)∉f.toList.filter (.=false):=by rw[hz];simp
  simp only[bQ,dO,Array.getElem_mem,true_and,decide_eq_true_eq,vf]at this;simp[cA,dU (show j<f.size by omega),this]
 refine⟨?_,x f F a k g G m⟩;unfold Region.ready;rw[List.filter_eq_nil_iff];intro j E;rw[eH]at E;simp only[aD,cN,not_and];intro h;rw[T f g j E,G j E]at h;simp at h;|succ u ih=>
 intro f F a k g hf m;refine⟨λz=>?_,λi hi=>?_⟩;·refine x f F a k g (λj E=>?_) m;cases U:f.getD j false with|true=>rfl;|false=>exact absurd z (H f g ⟨j,E,U⟩)
 · simp only[Region.ready,bQ,eH,aD,cN]at hi;obtain⟨hiA,W,hi2⟩:=hi;rw[T f g i hiA]at W;have hA:A[i]?=some A[i]:=by simp[hiA]
   have ho:nth A.toList i=some A[i]:=by rw[aH];exact hA
   have hb:∀e∈aT A[i],f.getD e false=true∨e=A.size:=by intro e he;rw[hA]at hi2;simp only[dW,eD,fh]at hi2;simp only[aT,aM,bQ,dO]at he;obtain⟨y,⟨hy,V⟩,rfl⟩:=he;have:=hi2 y hy;exact .inl (by simpa only[V,fV,ga]using this)
   have hil:i<f.size:=by omega
   have hcnt:=count_set hil W;rw[<-hf]at hcnt;refine Og hn I hst q m ho hb (by simp[W];omega) hQ λFs' a' k' hinv'=>?_;refine ih _ Fs' a' k' (by simp[g]) (by omega) ?_;have he:(λj=>(f.setIfInBounds i true).getD j false=true∨j=A.size)=(λj=>(f.getD j false=true∨j=A.size)∨j=i):=by
    funext j;refine propext ?_;by_cases hji:j=i;.subst hji;simp[cA,show j<f.size by omega]
    .rw[getD_set_ne _ (λe=>hji e.symm)];simp[hji]
   rw[he];exact hinv'
structure T5(A:Array Oper)(es:List mP)(a0:Act)(k0:K)(F0:FP)(Fs:Nat->FP)(a:Act)(k:K):Prop where
 chg:Chg F0 k0 k
 size:a.tmps.size=a0.tmps.size
 defers:a.defers=a0.defers
 out:∀i e,nth es i=some e->es.all (λx=>!(x.cons.contains i))=true->e.R (Fs i) (a.get e.vs) k
 apart:∀i j,i≠j->bj (Fs i) (Fs j)own:∀i b,Fs i b->(F0 b∨k0.w.heap.size<=b)/\b<k.w.heap.size/\¬k.sh b
 old:∀t,A.toList.all (λo=>o.dst !=some t)=true->a.get t=a0.get t
theorem Hc{id:Nat}{Q:Exit->Act->World->Prop}(es:List mP)(hm:P.follows .mixedOrders=true)(hn:a0.tmps.size=n)(u:qa n A.size A.toList (es.map mP.sh) (eB A.toList []) 0 A.toList (es.map mP.sh)=true)(U:∀i o e,nth A.toList i=some o->nth es i=some e->ObX P es a0 k0 F0 o e)(hQ:LetsOut Q)(e0:mP)(G:nth es A.size=some e0)(z:Cy e0.R)(h0:e0.R F0 (a0.get e0.vs) k0)(E:∀V a k,T5 A es a0 k0 F0 V a k->Q .normal a k.w):(Code.region id A true).wp P Q a0 k0.w:=by
  refine wp_region_any hm ?_;let kd:Gb.K:=⟨{k0.w with drawn:=k0.w.drawn+1},k0.sh,k0.lt⟩;have H:bE k0 kd:=⟨rfl,rfl,rfl,aA _,λ _ _=>rfl,λ _ h=>h,λ _ _ h=>h,gN _⟩;have hF:∀j,(Array.replicate A.size false).getD j false=true->False:=by intro j m;simp[cA,rK]at m;split at m<;>simp at m
  have I:∀e,nth es A.size=some e->Cy e.R:=λe y=>by rw[G,aU]at y;subst y;exact z
  have J:∀{q:List Oper}{l:List ShL}{i:Nat},qa n A.size A.toList (es.map mP.sh) (eB A.toList []) i q l=true->l.length=q.length+1:=by intro q;induction q with
 |nil=>intro l i h;match l,h with|[e],_=>rfl
 |cons o q ih=>intro l i h;cases l with|nil=>simp[qa]at h;|cons e l=>simp only[qa,aD]at h;simp[ih h.2]
  have hesl:es.length=A.size+1:=by simpa using J u
  refine Ui hn u U I hQ (λV a k g=>E V a k ⟨g.chg,g.size,g.defers,λi e y hu=>g.vals i e (by have:=qU y;omega) (λ ⟨x,ex,hx,M,hm⟩=>?_) y,g.apart,g.own,λt ht=>g.rest t λi o _ O e=>?_⟩) A.size _ (λj=>if j=A.size then F0 else noF) a0 kd (by simp) (by simp) ⟨Chg.of H,rfl,rfl,λi e hi _ y=>?_,λi j hij b h1 T=>?_,λi b h=>?_,λ _ _=>rfl,λj o O m=>?_,λi hi=>?_,by simp⟩;·have:=bG.1 hu ex (by rw[fH]at M;exact jx M);grind
  ·have:=bG.1 ht o (by rw[fH]at O;exact jx O);simp only[bne_iff_ne]at this;exact this e
  · rcases hi with hi|rfl;.exact(hF i hi).elim
    ·rw[if_pos rfl];rw[G,aU]at y;subst y;exact z.keep h0 (Chg.of (F:=noF) H) (λ _ _ f=>f) (λ _ f=>f.elim)
  · by_cases hi:i=A.size
    · by_cases m:j=A.size;.exact hij (hi.trans m.symm)
      .rw[if_neg m]at T;exact T
    .rw[if_neg hi]at h1;exact h1
  · split at h;·obtain⟨h1,T⟩:=z.lt h0 b h;exact⟨.inl h,h1,T⟩
    .exact h.elim
  · rcases m with m|m;.exact(hF j m).elim
    .have:=qU O;simp at this;omega
  grind
end
variable{T:Tb}{R:Type}
abbrev OpL:=List (Nat×Oper)
def uU(g:Option (Nat×Bool)):OpL->OpL×OpL|[]=>([],[])|x::l=>if x.2.guard=g then([],x::l)else((x::(uU g l).1),(uU g l).2)
def US(o:Oper):Bool:=match o.op with
 | .move _| .assign _| .load _ _| .fieldAddr _ _ _| .nilCheck _| .pick _ _ _| .extract _ _| .unOp .not _ _| .convert _ _ _| .build _ _| .buildSlice _ _ _=>true| .binOp .lss _ _ _ _| .binOp .leq _ _ _ _| .binOp .gtr _ _ _ _| .binOp .geq _ _ _ _| .binOp .eql _ _ _ _| .binOp .neq _ _ _ _| .binOp .and _ _ _ _=>true| .call c=>match c.callee with| .builtin .len| .builtin .max| .builtin .min=>true|_=>false
 |_=>false
def aJ:AV T->Bool| .own _ _ _ _=>true| .box _ _ _=>true| .rs _ _ _=>true| .tr _ _ _ _=>true|_=>false
def De(C:Cx T)(f:FuncId)(e:Option Nat):Option (FnR T):=match Cj C.rdeps f with|some q=>bif(dep C.deps f).isSome&&(match e with|some d=>!(C.own.contains d)|none=>true)then none else some q|none=>none
def GF(C:Cx T)(e:Env T)(o:Oper):Bool:=match o.dst with|none=>true|some d=>aJ (lk e d)||match o.op with
 | .store _ _ _=>true| .alloc _=>true| .makeMap _ _=>true| .makeSlice _ _ _=>true| .box _ _=>C.own.contains d| .assign x=>C.own.contains d&&(match x with| .tmp t=>(match lk e t with| .al _=>true|a=>aJ a)|_=>false)| .buildSlice _ _ _=>C.own.contains d| .call c=>match c.callee with| .builtin .append=>C.own.contains d||(match c.args.toList with|x::_=>aJ (res e (opv e x))|_=>false)| .value (.func f)=>(De C f (some d)).isSome| .value (.tmp s)=>(match lk e s with| .mv _ _=>true|_=>false)|_=>false
 | .extract x 0=>(match mvv e x with| .al _=>true|_=>false)|_=>false
def J4(e:List Oper)(j:Nat):Option Nat:=(nth e j).bind (·.dst)
def lastIdx(t:Nat):List Oper->Nat->Option Nat->Option Nat|[],_,r=>r|o::l,i,r=>lastIdx t l (i+1) (bif (match o.dst with|some d=>Nat.beq d t|none=>false)then some i else r)
def IX(t:Nat)(l:List Oper)(j:Nat):Bool:=match lastIdx t l 0 none with|some e=>Nat.beq e j|none=>false
def tmpsOf(o:Oper):List Nat:=o.op.operands.toList.filterMap λ| .tmp t=>some t|_=>none
def mZ(e:List Oper)(o:Oper):List (Nat×Option Nat):=(tmpsOf o).map λt=>(t,lastIdx t e 0 none)
def oN(e:List Oper):List Oper->List (List (Nat×Option Nat))|[]=>[]|o::l=>mZ e o::oN (e++[o]) l
def Co(e:List Oper):List Ent:=(oN [] e).map λnd=>⟨none,nd⟩
def ixs:Nat->List Oper->OpL|_,[]=>[]|i,o::l=>(i,o)::ixs (i+1) l
def RH(e:Env T)(c j:Nat)(w:Bool)(g:OpL):Bool:=g.all λx=>(match x.2.guard with|some (f,h)=>(Nat.beq f j&&h==w)||g.any λy=>Nat.beq y.1 f|none=>false)&&match x.2.dst with|some d=>!(aJ (lk e d))&&!(Nat.beq d c)|none=>false
def eT:OpL->Env T->Env T|[],e=>e|(_,o)::l,e=>match o.dst with|some d=>(d, .top)::eT l e|none=>eT l e
def On(e w m:Bool)(run h:Option Bool)(k:Bool->Option R):Option R:=bif e then match run,h with|some b,some true=>bif w then none else k (m||b)|some b,some false=>bif w then k (m&&b)else none|_,_=>none else match w with|true=>(if m then run else h).bind k|false=>(if m then h else run).bind k
inductive Hd where|no|old(s:Nat)|new(s:Nat)(t:Tp)
inductive Hv where|adr(off:Nat)|box(t:Tp)
def zL(C:Cx T)(h:Hd)(o:Oper):Option Hv:=match h,o.op with
 | .old s, .fieldAddr st (.tmp g) f=>bif Nat.beq s g then(match uo C.P st f with|some off=>some (.adr off)|none=>none)else none| .new s t, .alloc y=>match o.dst with|some d=>bif Nat.beq s d&&oP C.P T y t then some (.box t)else none|none=>none
 |_,_=>none
def ev1(C:Cx T)(q:Hd)(h:List Oper):Nat->(R:Type)->Option (Nat×Bool)->OpL->Env T->(OpL->Env T->Option R)->Option R|0,_,_,_,_,_=>none|_+1,_,_,[],e,k=>k [] e|f+1,R,g,(i,o)::l,e,k=>if o.guard=g then match zL C q o,o.dst with|some _,some d=>bif aJ (lk e d)then none else ev1 C q h f R g l ((d, .top)::e) k|_,_=>bif GF C e o then(match g with|none=>k ((i,o)::l) e|some _=>none)else match o.dst with|some d=>rk C e o λa=>ev1 C q h f R g l ((d,a)::e) k|none=>none else match o.guard with|none=>none|some (j,w)=>bif g.isNone&&(uU g ((i,o)::l)).1.any (λx=>GF C e x.2)then k ((i,o)::l) e else match uU g ((i,o)::l)with
 |(z,(_,p)::E)=>match p.op,p.dst,J4 h j with
  | .pick (.tmp c) x y,some d,some F=>match asB (lk e c)with|some m=>bif Nat.beq F c&&IX c (h.take i) j&&RH e c j w z&&!(aJ (lk e d))then On (z.all λx=>US x.2) w m (ev1 C q h f Bool (some (j,w)) z e λ_ G=>asB (opv G (if w then x else y))) (asB (opv (eT z e) (if w then y else x))) λb=>ev1 C q h f R g E ((d, .v .bool b)::eT z e) k else none|none=>none
  |_,_,_=>none
 |_=>none
def kl(s:Nat):AV T->AV T| .ab s' t x u L=>bif Nat.beq s' s then .top else .ab s' t x u L| .ao s' e t xs i x u L=>bif Nat.beq s' s then .top else .ao s' e t xs i x u L| .sp s' m=>bif Nat.beq s' s then .top else .sp s' m|a=>a
def klA(s:Nat):AV T->AV T| .al e=>bif Nat.beq e s then .top else .al e| .mv f e=>bif Nat.beq e s then .top else .mv f e|a=>kl s a
def tP(f:AV T->AV T):Env T->(Env T->Option R)->Option R|[],k=>k []|(t,a)::e,k=>tP f e λg=>k ((t,f a)::g)
def AV.bP:AV T->Nat->Bool| .al s,t=>Nat.beq s t| .ab s _ _ _ _,t=>Nat.beq s t| .ao s _ _ _ _ _ _ _,t=>Nat.beq s t| .mv _ s,t=>Nat.beq s t| .sp s _,t=>Nat.beq s t|_,_=>false
def put(e:Env T)(d:Nat)(a:AV T)(k:Env T->Option R):Option R:=bif a.bP d then none else bif aJ (lk e d)then tP (klA d) e λg=>k ((d,a)::g)else k ((d,a)::e)
def qu(e:Env T):Operand->Option Nat
 | .tmp t=>match lk e t with| .al s=>some s| .own _ _ _ _=>some t| .box _ _ _=>some t| .rs _ _ _=>some t| .tr _ _ _ _=>some t|_=>none
 |_=>none
def ki:(f:Rk)->AV T->Option (f.D T)
 | .n,_=>some ()| .o el t, .own false e u g=>bif Nat.beq el e then cast? (.list u) (.list t) g else none| .o _ _, .e0=>some []| .b t, .box false u x=>cast? u t x| .c m, .rs false q x=>match vp q m with|some h=>some (h.down▸x)|none=>none
 |_,_=>none
def Ps(e:Operand->AV T):(p:Pm)->Operand->(l:List Pm)->Option (HL T.S (eY l))->Option (HL T.S (eY (p::l)))
 | .v t,x,_,r=>match asT t (e x),r with|some y,some f=>some (Jw y f)|_,_=>none
 | .tu,_,_,r=>r| .tk,_,_,r=>r| .fn g,x,_,r=>match x with| .func h=>bif Nat.beq g h then r else none|_=>none
def JW(e:Operand->AV T):(l:List Pm)->List Operand->Option (HL T.S (eY l))|[],[]=>some ()|p::l,x::f=>Ps e p x l (JW e l f)|[],_::_=>none|_::_,[]=>none
def sX(tk:Bool):List Pm->List Operand->Option Operand| .v _::l,_::e=>sX tk l e| .tu::l,x::e=>bif tk then sX tk l e else some x| .tk::l,x::e=>bif tk then some x else sX tk l e| .fn _::l,_::e=>sX tk l e|_,_=>none
def HF(e:Env T)(f:Rk)(x:Option Operand):Option (Option Nat×f.D T):=match f,x with
 | .n,none=>some (none,())| .n,some _=>none| .c m,none=>match PE m e e with
  |some s=>match ki (.c m) (lk e s)with|some y=>bif aJ (lk e s)then some (some s,y)else none|none=>none
  |none=>none
 |f,some x=>match qu e x with
  |some s=>match ki f (lk e s)with|some y=>bif aJ (lk e s)then some (some s,y)else none|none=>none
  |none=>none
 |_,none=>none
def neO:Option Nat->Option Nat->Bool|some a,some b=>!(Nat.beq a b)|_,_=>true
def klO(f:Nat->AV T->AV T):Option Nat->AV T->AV T|some s,a=>f s a|none,a=>a
def Cf(s:Option Nat)(a:AV T)(e:Env T):Env T:=match s with|some s=>(s,a)::e|none=>e
def noP(tk:Bool):List Pm->Bool|[]=>true| .v _::l=>noP tk l| .tu::l=>tk&&noP tk l| .tk::l=>!tk&&noP tk l| .fn _::l=>noP tk l
def tK:List Pm->Bool|[]=>true| .v _::l=>tK l| .tu::l=>noP false l&&tK l| .tk::l=>noP true l&&tK l| .fn _::l=>tK l
def DG(C:Cx T)(e:Env T)(d:FnR T)(g:List Operand)(f:Option Nat)(k:Env T->Option R):Option R:=match JW (Cs C e) d.pm g,HF e d.tu (sX false d.pm g),HF e d.tk (sX true d.pm g)with|some x,some (h,y),some (j,z)=>bif tK d.pm&&neO h j&&neO f h&&neO f j&&(match f with|some _=>true|none=>isN d.ro&&d.cod.isEmpty)then(d.run x y z).bind λq=>tP (λa=>klO kl h (klO klA j (klO klA f a))) e λu=>k (Cf f (uJ d.ro d.cod (d.inj q).2.1 (d.inj q).2.2) (Cf h (d.tu.av (d.inj q).1) (Cf j .top u)))else none|_,_,_=>none
def S9(e:Env T)(x:Operand)(k:Env T->Option R):Option R:=match x with
 | .tmp t=>match lk e t with
  | .own false _ u g=>tP (klA t) e λf=>k ((t, .v (.list u) g)::f)| .box false u x=>tP (klA t) e λf=>k ((t, .ref u x)::f)| .al s=>match lk e s with| .own false _ u g=>tP (klA s) e λf=>bif aJ (lk f t)then none else k ((t, .v (.list u) g)::(s, .v (.list u) g)::f)| .box false u x=>tP (klA s) e λf=>bif aJ (lk f t)then none else k ((t, .ref u x)::(s, .ref u x)::f)|_=>k e
  |_=>k e
 |_=>k e
def frz(e:Env T):List Operand->(Env T->Option R)->Option R|[],k=>k e|x::l,k=>S9 e x λf=>frz f l k
def Ab:List Pm->List Operand->List Operand| .v _::l,x::e=>x::Ab l e|_::l,_::e=>Ab l e|_,_=>[]
def ED(C:Cx T)(e:Env T)(o:Oper):List Operand:=match o.op with
 | .build _ g=>g.toList.map (·.2)| .buildSlice _ _ g=>g.toList.map (·.2)| .box _ x=>[x]| .slice _ x _ _ _=>[x]| .store _ _ y=>[y]| .call c=>match c.callee with
  | .value (.func f)=>match De C f o.dst with|some d=>Ab d.pm c.args.toList|none=>c.args.toList
  | .value (.tmp s)=>match lk e s with
   | .mv f _=>match Cj C.rdeps f with|some d=>Ab d.pm.tail c.args.toList|none=>[]
   |_=>c.args.toList
  | .value _=>c.args.toList|_=>[]
 |_=>[]
def u9:Operand->Operand->Bool| .tmp a, .tmp b=>Nat.beq a b|_,_=>false
def UT(e:Env T)(x:Operand)(d:Nat)(l:List (Σ t,T.D t))(E:Env T):Env T:=match x with
 | .tmp t=>match lk e t with| .al _=>bif Nat.beq t d then E else(t, .tq l)::E|_=>E
 |_=>E
def zw(C:Cx T)(e:Env T)(o:Oper)(k:Env T->Option R):Option R:=match o.op,o.dst with
 | .store ty p y,none=>match p with
  | .tmp pt=>match(match lk e pt with
   | .al s=>match lk e s with| .box _ t x=>AV.ab s t x t (iu.id t)|_=> .top
   | .box _ t x=>AV.ab pt t x t (iu.id t)|a=>a)with
   | .ab s t x u L=>match lk e s with
    | .box false _ _=>match asT u (opv e y)with|some z=>bif tyB C.P T ty u then tP (kl s) e λe'=>k ((s, .box false t (L.set x z))::e')else none|none=>none
    |_=>none
   | .ao s el t xs i x u L=>match lk e s with
    | .own false _ _ _=>match asT u (opv e y)with|some z=>bif tyB C.P T ty u then tP (kl s) e λe'=>k ((s, .own false el t (xs.set i (L.set x z)))::e')else none|none=>none
    |_=>none
   |_=>none
  |_=>none
 | .mapUpdate ty x y z,none=>match qu e x with
  |some s=>match lk e s with
   | .rs false m r=>match T.MM m with|some q=>bif Nat.beq ty q.ty then(match asT q.kt (opv e y),asT q.vt (opv e z)with|some n,some w=>(q.set r n w).bind λr'=>tP (kl s) e λe'=>k ((s, .rs false m r')::e')|_,_=>none)else none|none=>none
   |_=>none
  |none=>none
 | .makeMap ty none,some d=>match T.MT ty with
  |some m=>match T.MM m with|some q=>bif Nat.beq ty q.ty then put e d (.rs false m q.new) k else none|none=>none
  |none=>none
 | .alloc ty,some d=>match C.tid ty with|some t=>bif oP C.P T ty t then put e d (.box false t (T.zJ t)) k else none|none=>none
 | .box ty x,some d=>match opv e x with| .v t y=>bif tyB C.P T ty t then put e d (.box false t y) k else none|_=>none
 | .assign x,some d=>match qu e x with
  |some s=>match lk e s with| .own false el t xs=>tP (klA s) e λe'=>put ((s, .top)::e') d (.own false el t xs) λe''=>bif aJ (lk e'' s)then none else k ((s, .al d)::e'')| .rs false m z=>bif Nat.beq s d then none else tP (λa=>klA s (klA d a)) e λe'=>k ((d, .rs false m z)::(s, .top)::e')|_=>none
  |none=>rk C e o λa=>put e d a k
 | .extract x i,some d=>match i,qu e x with
  |0,some s=>match lk e s with| .tr false κ w l=>bif Nat.beq s d||isN κ then none else tP (λa=>klA s (klA d a)) e λe'=>k (UT e x d l ((d,κ.av w)::(s, .tq l)::e'))|_=>rk C e o λa=>put e d a k
  |_,_=>rk C e o λa=>put e d a k
 | .buildSlice ty m ps,some d=>match m with|0=>rk C e o λa=>put e d a k|_=>match EN C e ty m ps with|some ⟨t,(el,xs)⟩=>put e d (.own false el t xs) k|none=>none
 | .makeSlice ty lx cx,some d=>match asI (opv e lx),Cz C.P ty with
  |some n,some el=>match C.tid el with|some t=>bif u9 lx cx&&elB C.P T el t&&oP C.P T el t then(CX n (T.zJ t)).bind λr=>put e d (.own false el t r) k else none|none=>none
  |_,_=>none
 | .call c,some d=>match c.callee with
  | .builtin .append=>match c.args.toList,c.argTypes.toList with
   |[x,y],[ty,ty']=>bif Nat.beq ty ty' then match Cz C.P ty,asL e (opv e y)with|some el,some ⟨t,ys⟩=>bif elB C.P T el t then(match qu e x with
 |some s=>match lk e s with
  | .own false el' t' xs=>match cast? (.list t') (.list t) xs with|some xs=>bif Nat.beq el el' then(eb xs ys).bind λr=>tP (klA s) e λe'=>put ((s, .top)::e') d (.own false el t r) k else none|none=>none
  |_=>none
 |none=>match res e (opv e x)with| .e0=>(eb [] ys).bind λr=>put e d (.own false el t r) k|_=>none)else none|_,_=>none else none|_,_=>none
  | .value (.func f)=>match De C f (some d)with|some q=>DG C e q c.args.toList (some d) k|none=>rk C e o λa=>put e d a k
  | .value (.tmp s)=>match lk e s with
   | .mv f s'=>match Cj C.rdeps f with|some q=>DG C e q (.tmp s'::c.args.toList) (some d) k|none=>none
   |_=>rk C e o λa=>put e d a k
  |_=>rk C e o λa=>put e d a k
 | .call c,none=>match c.callee with
  | .value (.func f)=>match De C f none with|some q=>DG C e q c.args.toList none k|none=>none
  | .value (.tmp s)=>match lk e s with
   | .mv f s'=>match Cj C.rdeps f with|some q=>DG C e q (.tmp s'::c.args.toList) none k|none=>none
   |_=>none
  |_=>none
 |_,some d=>rk C e o λa=>put e d a k|_,none=>none
def CL(e:Env T)(o:Oper)(k:Env T->Option R):Option R:=match o.dst with|some d=>put e d (.tup []) k|none=>k e
def ev2(C:Cx T)(g:List Oper):OpL->Env T->(Env T->Option R)->Option R|[],e,k=>k e|(_,o)::l,e,k=>match o.guard,(match o.dst with|some d=>Nat.blt d C.n|none=>true)with
 |none,true=>frz e (ED C e o) λh=>zw C h o λf=>ev2 C g l f k|some (j,w),true=>match J4 g j with
  |some c=>match asB (lk e c)with
   |some m=>match w with|true=>if m then frz ((c, .v .bool true)::e) (ED C ((c, .v .bool true)::e) o) λh=>zw C h o λf=>ev2 C g l f k else CL ((c, .v .bool false)::e) o λf=>ev2 C g l f k|false=>if m then CL ((c, .v .bool true)::e) o λf=>ev2 C g l f k else frz ((c, .v .bool false)::e) (ED C ((c, .v .bool false)::e) o) λh=>zw C h o λf=>ev2 C g l f k
   |none=>match lk e c with| .tup []=>CL e o λf=>ev2 C g l f k|_=>none
  |none=>none
 |_,_=>none
def qe(C:Cx T):List Oper->Env T->(Env T->Option R)->Option R|[],e,k=>k e|o::l,e,k=>match o.op,o.dst with
 | .alloc _,some d=>bif C.own.contains d then qe C l e k else match lk e d with| .box false t x=>tP (klA d) e λg=>qe C l ((d, .ref t x)::g) k|_=>qe C l e k
 |_,_=>qe C l e k
def Em:List Oper->Nat->Option (Nat×Oper)|[],_=>none|o::l,i=>match o.op with| .store _ _ _=>some (i,o)|_=>Em l (i+1)
def NS(e:List Oper):Bool:=match Em e 0 with|some (m,_)=>!(allI (λj _=>Nat.blt j m||(List.range j).all λi=>ed (eB e []) j i) 0 e)|none=>false
def uL(s:Nat)(e:List Oper):Bool:=e.all λo=>match o.dst with|some d=>!(Nat.beq d s)|none=>true
def qS(m:Nat)(e:List Oper):Operand->Bool
 | .tmp t=>match lastIdx t (e.take m) 0 none with|some j=>ed (eB e []) m j|none=>uL t e
 | .const _=>true|_=>false
def ux(e:List Oper)(m f:Nat):Nat:=match lastIdx f (e.take m) 0 none with
 |some j=>match nth e j with
  |some o=>match o.op with| .fieldAddr _ (.tmp s) _=>s|_=>f
  |none=>f
 |none=>f
def T8(P:Program)(st f:Nat):(t:Tp)->Option (Σ u,iu T t u)
 | .st n=>match uo P st f,Hq (T:=T) n f with|some off,some ⟨w,L⟩=>bif Nat.beq L.off off then some ⟨w,L⟩else none|_,_=>none
 |_=>none
def M9(C:Cx T)(e:List Oper)(m s h:Nat)(t:Tp):Option (Σ u,iu T t u):=bif Nat.beq h s then(bif uL h e then some ⟨t,iu.id t⟩else none)else match lastIdx h (e.take m) 0 none with
 |some j=>match nth e j with
  |some o=>match o.op,o.guard with| .fieldAddr st (.tmp q) f,none=>bif Nat.beq s q&&ed (eB e []) m j then T8 C.P st f t else none|_,_=>none
  |none=>none
 |none=>none
def evX(C:Cx T)(f:List Oper)(e:Env T)(k:Env T->Option R):Option R:=match Em f 0 with
 |some (m,o)=>match o.op,o.dst,o.guard with
  | .store q (.tmp g) y,none,none=>match lk e (ux f m g)with
   | .box false t x0=>match M9 C f m (ux f m g) g t with
    |some ⟨u,L⟩=>bif !(uL (ux f m g) f)then none else tP (klA (ux f m g)) e λe0=>ev1 C (.old (ux f m g)) f (f.length+1) R none (ixs 0 f) ((ux f m g, .top)::e0) λl e1=>match l with|[]=>none|_::w=>bif Nat.beq (f.length-l.length) m&&lU C.n m f (Co (f.take m))&&PR m f&&qS m f y&&tyB C.P T q u then match asT u (opv e1 y)with|some z=>ev2 C f w ((ux f m g, .box false t (L.set x0 z))::e1) λj=>qe C f j k|none=>none else none
    |none=>none
   |_=>none
  |_,_,_=>none
 |none=>none
def Eo(s j:Nat)(e:List Oper):Bool:=allI (λi o=>Nat.beq i j||(match o.dst with|some d=>!(Nat.beq d s)|none=>true)) 0 e
def M3:AV T->Bool| .top=>true|_=>false
def Ka(m:Nat)(e:List Oper):List Nat:=(List.range m).filter λl=>!(ed (eB e []) m l)&&BW e.toArray l
def evN(C:Cx T)(f:List Oper)(e:Env T)(k:Env T->Option R):Option R:=match Em f 0 with
 |some (m,o)=>match o.op,o.dst,o.guard with
  | .store w (.tmp g) y,none,none=>match lastIdx g (f.take m) 0 none with
   |some j=>match nth f j with
    |some u=>match u.op,u.guard with
     | .alloc h,none=>match C.tid h with
      |some t=>ev1 C (.new g t) f (f.length+1) R none (ixs 0 f) e λl e1=>match l with|[]=>none|_::x=>bif Nat.beq (f.length-l.length) m&&lU C.n m f (Co (f.take m))&&PB m (Ka m f) f&&Bl m (Ka m f) f.toArray&&ed (eB f []) m j&&Eo g j f&&qS m f y&&tyB C.P T w t&&oP C.P T h t&&M3 (lk e1 g)&&!(aJ (lk e g))then match asT t (opv e1 y)with|some z=>ev2 C f x ((g, .box false t z)::e1) λq=>qe C f q k|none=>none else none
      |none=>none
     |_,_=>none
    |none=>none
   |none=>none
  |_,_,_=>none
 |none=>none
def Jp(e:List Oper):Bool:=match Em e 0 with
 |some (m,o)=>match o.op with
  | .store _ (.tmp f) _=>match lastIdx f (e.take m) 0 none with
   |some j=>match nth e j with
    |some g=>match g.op with| .alloc _=>true|_=>false
    |none=>false
   |none=>false
  |_=>false
 |none=>false
def RT(e:List Oper):Bool:=match Em e 0 with
 |some (m,o)=>match o.op with
  | .store _ (.tmp f) _=>match lastIdx f (e.take m) 0 none with|some j=>!((List.range j).all λi=>ed (eB e []) j i)|none=>false
  |_=>false
 |none=>false
def unl:AV T->Bool| .own false _ _ _=>true| .box false _ _=>true| .rs false _ _=>true| .tr false _ _ _=>true|_=>false
def Qp(P:Program)(T:Tb)(y:TypeId)(t:Tp):Bool:=match P.info? y with
 |some i=>match i.zero with|some (.agg z)=>(T.e t).agg&&Nat.beq z.size (szT T t)&&z.toList.all λv=>v.oneCell'|_=>false
 |none=>false
def F6(C:Cx T)(e:Env T)(f os:Oper):Option (Nat×Σ t,T.D t):=match f.op,f.dst,f.guard,os.op,os.dst,os.guard with| .alloc g,some d,none, .store h (.tmp m) y,none,none=>bif Nat.beq m d&&Nat.blt d C.n&&!(u9 (.tmp d) y)then(match C.tid g with|some t=>bif !(oP C.P T g t)&&Qp C.P T g t&&tyB C.P T h t then(match asT t (opv e y)with|some z=>some (d,⟨t,z⟩)|none=>none)else none|none=>none)else none|_,_,_,_,_,_=>none
def evT(C:Cx T)(f:List Oper)(l:OpL)(e:Env T)(k:Env T->Option R):Option R:=match l with
 |[(_,h),(_,os)]=>match F6 C e h os with|some (d,⟨t,z⟩)=>put e d (.box false t z) k|none=>ev2 C f l e λg=>qe C f g k
 |l=>ev2 C f l e λg=>qe C f g k
def evR(C:Cx T)(ops:List Oper)(draw:Bool)(e:Env T)(k:Env T->Option R):Option R:=bif draw&&(NS ops||(Jp ops&&RT ops))then(bif Jp ops then evN C ops e k else evX C ops e k)else ev1 C .no ops (ops.length+1) R none (ixs 0 ops) e λl e'=>bif (bif draw then chk else lU) C.n (ops.length-l.length) ops (Co (ops.take (ops.length-l.length)))then evT C ops l e' k else none
inductive Kd where|v(t:Tp)|o(e:TypeId)(t:Tp)|b(t:Tp)|c(m:Nat)
@[reducible]def Kd.D(T:Tb):Kd->Type| .v t=>T.D t| .o _ t=>List (T.D t)| .b t=>T.D t| .c m=>T.RD m
abbrev Sp:=List (Nat×Kd)
@[reducible]def SpD(T:Tb):Sp->Type|[]=>Unit|[a]=>a.2.D T|a::b::l=>a.2.D T×SpD T (b::l)
def Kd.zJ:(e:Kd)->e.D T| .v t=>T.zJ t| .o _ _=>[]| .b t=>T.zJ t| .c m=>T.RZ m
def eV(e:Env T)(s:Nat):(g:Kd)->Option (g.D T)
 | .v t=>asT t (nrm (lk e s))| .o el t=>match lk e s with| .own false f u j=>bif Nat.beq el f then cast? (.list u) (.list t) j else none| .e0=>some []|_=>none
 | .b t=>match lk e s with| .box false u x=>cast? u t x|_=>none
 | .c m=>match lk e s with
 | .rs false w x=>match vp w m with|some h=>some (h.down▸x)|none=>none
 |_=>none
def take(f:List Nat)(e:Env T):(h:Sp)->Option (SpD T h)|[]=>some ()|[a]=>bif f.contains a.1 then some a.2.zJ else eV e a.1 a.2|a::b::l=>match(bif f.contains a.1 then some a.2.zJ else eV e a.1 a.2),take f e (b::l)with|some x,some y=>some (x,y)|_,_=>none
def Et(e:List Nat):Sp->List Operand|[]=>[]|(s, .v _)::l=>bif e.contains s then Et e l else .tmp s::Et e l|_::l=>Et e l
def qD(g:List Nat)(e:Env T)(f:Sp)(k:SpD T f->Option R):Option R:=frz e (Et g f) λh=>match take g h f with|some s=>k s|none=>none
def avK:(f:Kd)->f.D T->AV T| .v t,x=>mkv t x| .o e t,x=> .own false e t x| .b t,x=> .box false t x| .c m,x=> .rs false m x
def gz(f:List Nat):(h:Sp)->SpD T h->Env T->Env T|[],_,e=>e|[a],x,e=>(a.1,bif f.contains a.1 then .top else avK a.2 x)::e|a::b::l,x,e=>(a.1,bif f.contains a.1 then .top else avK a.2 x.1)::gz f (b::l) x.2 e
def wrs:Code->List Nat| .region _ A _=>A.toList.filterMap (·.dst)| .seq a b=>wrs a++wrs b| .cond _ a b=>wrs a++wrs b| .block _ a=>wrs a| .loop a=>wrs a|_=>[]
def ff(lock:Bool)(W:List Nat):AV T->AV T| .v t x=> .v t x| .fl t xs=> .fl t xs| .ref t x=> .ref t x| .e0=> .e0| .nil=> .nil| .own b e t xs=> .own (lock||b) e t xs| .box b t x=> .box (lock||b) t x| .rs b m x=> .rs (lock||b) m x| .tq l=> .tq l| .tr b κ x l=> .tr (lock||b) κ x l| .al s=>bif W.contains s then .top else .al s| .mv f s=>bif W.contains s then .top else .mv f s| .sp s m=>bif lock||W.contains s then .top else .sp s m|_=> .top
def xI(lock:Bool)(W:List Nat)(Wd Wv:List Nat):Env T->(Env T->Option R)->Option R|[],k=>k []|(t,a)::e,k=>xI lock W Wd Wv e λe'=>k (bif W.contains t then e' else(t,bif Wd.contains t then a else ff lock (W++Wv) a)::e')
def lkA:AV T->AV T| .own _ el t e=> .own true el t e| .box _ t x=> .box true t x| .rs _ m x=> .rs true m x| .tr _ f x l=> .tr true f x l|a=>a
def Az(W:List Nat):Env T->(Env T->Option R)->Option R|[],k=>k []|(t,a)::e,k=>Az W e λf=>k ((t,bif W.contains t then a else lkA a)::f)
abbrev Ls:=List Nat×List Nat
inductive Hn(T:Tb)where|n|h(i:Nat)|s(a b:Hn T)|f(l:List Nat)(a:Hn T)|j(fz:List Nat)(sp:Sp)(xs:Ls)(a:Hn T)|jf(fz:List Nat)(sp:Sp)(xs:Ls)(exs:List (Nat×Ls))(a:Hn T)|l(fz:List Nat)(sp:Sp)(exs:List (Nat×Ls))(fuel:Env T->Nat)(a:Hn T)
structure Kt(T:Tb)(ρ R:Type)where
 go:Env T->Option R
 ex:Nat->Env T->Option R
 rv:ρ->Option R
def Eh:List (Nat×Ls)->Nat->Option Ls|[],_=>none|(i,x)::l,j=>bif Nat.beq i j then some x else Eh l j
def exF{ρ:Type}(f:List (Nat×Ls))(g:Sp)(i:Nat)(e:Env T):Option (aY (SpD T g) ρ):=match Eh f i with|some x=>qD x.2 e g λs=>some (.ex i s)|none=>none
def exK{ρ:Type}{f:Sp}(e:Env T)(K:Kt T ρ R):List (Nat×Ls)->Nat->SpD T f->Option R|[],_,_=>none|[(i,x)],_,s=>K.ex i (gz (x.1++x.2) f s e)|(i,x)::y::l,j,s=>if j=i then K.ex i (gz (x.1++x.2) f s e)else exK e K (y::l) j s
def HQ(C:Cx T)(e:Env T):(l:List Tp)->List ResultVar->Option (HL T.S l)
 |[],[]=>some ()|[a],[r]=>resH1 e a r|a::b::l,r::rs=>match resH1 e a r,HQ C e (b::l) rs with|some x,some y=>some (x,y)|_,_=>none
 |_,_=>none where resH1(e:Env T)(t:Tp):ResultVar->Option (T.D t)| .tmp s=>asT t (nrm (lk e s))| .cell s f=>match lk e s with| .box _ u x=>bif tyB C.P T f u then cast? u t x else none|_=>none
def spW(e:Sp):List Nat:=e.map (·.1)
def spV:Sp->List Nat|[]=>[]|(s, .v _)::l=>s::spV l|_::l=>spV l
structure Rv(T:Tb)where
 sl:Nat
 tu:Rk
 ro:Rk
 cod:List Tp
 ρ:Type
 pr:tu.D T×ro.D T×HL T.S cod->ρ
 inj:ρ->tu.D T×ro.D T×HL T.S cod
 hpr:∀r,inj (pr r)=r
abbrev Rv.D(T:Tb)(e:Rv T):Type:=e.ρ
def Kf(ro:Rk)(rs:List ResultVar):List ResultVar:=bif isN ro then rs else rs.tail
def ro1(e:Env T)(f:Rk):List ResultVar->Option (f.D T)| .tmp s::_=>ki f (lk e s)|_=>none
def roR(C:Cx T)(e:Env T):(f:Rk)->Option (f.D T)| .n=>some ()| .o el t=>ro1 e (.o el t) C.rs| .b t=>ro1 e (.b t) C.rs| .c m=>ro1 e (.c m) C.rs
def EF(rs:List ResultVar)(sl:Nat):Bool:=match rs with| .tmp s::_=>Nat.beq s sl|_=>true
def Qw(C:Cx T)(e:Env T)(f:Rv T):Option (f.D T):=bif !(isN f.tu)&&!(isN f.ro)&&EF C.rs f.sl then none else match ki f.tu (lk e f.sl),roR C e f.ro,HQ C e f.cod (Kf f.ro C.rs)with|some y,some w,some r=>some (f.pr (y,w,r))|_,_,_=>none
def ev(C:Cx T)(cod:Rv T):Code->Hn T->(R:Type)->Env T->Kt T (cod.D T) R->Option R
 | .skip,_,_,e,K=>K.go e| .region id A d,h,R,e,K=>match h with| .f l _=>frz e (l.map .tmp) λe'=>evR C A.toList d e' K.go| .h i=>C.hk i (.region id A d) e R K.go|_=>evR C A.toList d e K.go
 | .seq a b,h,R,e,K=>match h with| .s x y=>ev C cod a x R e {K with go:=λe'=>ev C cod b y R e' K}|_=>ev C cod a .n R e {K with go:=λe'=>ev C cod b .n R e' K}
 | .cond c a b,h,R,e,K=>match h with
  | .j fz sp xs (.s x y)=>frz e (fz.map .tmp) λe0=>Az (wrs a++wrs b++spW sp) e0 λe=>xI false (wrs a++wrs b) (spW sp) (spW sp) e0 λe1=>match asB (opv e c)with|some m=>(if m then ev C cod a x (SpD T sp) e ⟨λe'=>qD xs.2 e' sp some,λ _ _=>none,λ _=>none⟩else ev C cod b y (SpD T sp) e ⟨λe'=>qD xs.2 e' sp some,λ _ _=>none,λ _=>none⟩).bind λs=>K.go (gz (xs.1++xs.2) sp s e1)|none=>none
  | .jf fz sp xs exs (.s x y)=>frz e (fz.map .tmp) λe0=>Az (wrs a++wrs b++spW sp) e0 λe=>xI false (wrs a++wrs b) (spW sp) (spW sp) e0 λe1=>match asB (opv e c)with
   |some m=>let K':Kt T (cod.D T) (aY (SpD T sp) (cod.D T)):=⟨λe'=>qD xs.2 e' sp λs=>some (.go s),exF exs sp,λr=>some (.ret r)⟩
 (if m then ev C cod a x _ e K' else ev C cod b y _ e K').bind λf=>match f with| .go s=>K.go (gz (xs.1++xs.2) sp s e1)| .ex i s=>exK e1 K exs i s| .ret r=>K.rv r
   |none=>none
  | .s x y=>match asB (opv e c)with|some m=>if m then ev C cod a x R e K else ev C cod b y R e K|none=>none
  |_=>match asB (opv e c)with|some m=>if m then ev C cod a .n R e K else ev C cod b .n R e K|none=>none
 | .block id a,h,R,e,K=>match h with
  | .j fz sp xs x=>frz e (fz.map .tmp) λe0=>Az (wrs a++spW sp) e0 λe=>xI false (wrs a) (spW sp) (spW sp) e0 λe1=>(ev C cod a x (SpD T sp) e ⟨λe'=>qD xs.2 e' sp some,λi e'=>bif Nat.beq i id then qD xs.2 e' sp some else none,λ _=>none⟩).bind λs=>K.go (gz (xs.1++xs.2) sp s e1)| .jf fz sp xs exs x=>frz e (fz.map .tmp) λe0=>Az (wrs a++spW sp) e0 λe=>xI false (wrs a) (spW sp) (spW sp) e0 λe1=>(ev C cod a x (aY (SpD T sp) (cod.D T)) e ⟨λe'=>qD xs.2 e' sp λs=>some (.go s),λi e'=>bif Nat.beq i id then qD xs.2 e' sp λs=>some (.go s)else exF exs sp i e',λr=>some (.ret r)⟩).bind λf=>match f with| .go s=>K.go (gz (xs.1++xs.2) sp s e1)| .ex i s=>exK e1 K exs i s| .ret r=>K.rv r
  | .h i=>C.hk i (.block id a) e R K.go|x=>ev C cod a x R e {K with ex:=λi e'=>bif Nat.beq i id then K.go e' else K.ex i e'}
 | .loop a,h,_,e,K=>match h with
  | .l fz sp exs fuel x=>frz e (fz.map .tmp) λe=>xI true (wrs a) (spW sp) (spV sp) e λei=>xI false (wrs a) (spW sp) (spW sp) e λe1=>match take [] e sp with
   |some s0=>(ar (λs=>ev C cod a x (aY (SpD T sp) (cod.D T)) (gz [] sp s ei) ⟨λe'=>qD [] e' sp λs=>some (.go s),exF exs sp,λr=>some (.ret r)⟩) (fuel e) s0).bind λf=>match f with| .go _=>none| .ex i s=>exK e1 K exs i s| .ret r=>K.rv r
   |none=>none
  |_=>none
 | .exit i,_,_,e,K=>K.ex i e| .ret,_,_,e,K=>frz e ((Kf cod.ro C.rs).filterMap λ| .tmp s=>some (.tmp s)|_=>none) λe'=>match Qw C e' cod with|some r=>K.rv r|none=>none
 |_,_,_,_,_=>none
def fQ:Code->List Code| .region i A d=>[.region i A d]| .seq a b=>fQ a++fQ b| .cond _ a b=>fQ a++fQ b| .block i a=> .block i a::fQ a| .loop a=>fQ a|_=>[]
def vU:Nat->Code->Env T->(R:Type)->(Env T->Option R)->Option R:=λ_ _ _ _ _=>none
def B8:(i:Nat)->(l:List Tp)->HL T.S l->Env T|_,[],_=>[]|i,[a],x=>[(i,mkv a x)]|i,a::b::l,x=>(i,mkv a x.1)::B8 (i+1) (b::l) x.2
def evF(C:Cx T)(c:Code)(h:Hn T)(m cod:List Tp)(x:HL T.S m):Option (HL T.S cod):=ev C ⟨0, .n, .n,cod,HL T.S cod,λr=>r.2.2,λr=>((),(),r),λ_=>rfl⟩ c h (HL T.S cod) (B8 0 m x) ⟨λ_=>none,λ_ _=>none,some⟩
def ql:(i:Nat)->(l:List Pm)->HL T.S (eY l)->(tu tk:AV T)->Env T|_,[],_,_,_=>[]|i, .v t::l,x,y,z=>(i,mkv t (hdH x))::ql (i+1) l (tlH x) y z|i, .tu::l,x,y,z=>(i,y)::ql (i+1) l x y z|i, .tk::l,x,y,z=>(i,z)::ql (i+1) l x y z|i, .fn _::l,x,y,z=>ql (i+1) l x y z
def SL(C:Cx T)(c:Code)(h:Hn T)(d:FnR T)(pr:d.tu.D T×d.ro.D T×HL T.S d.cod->d.ρ)(hpr:∀r,d.inj (pr r)=r)(sl:Nat)(x:HL T.S (eY d.pm))(y:d.tu.D T)(z:d.tk.D T):Option d.ρ:=ev C ⟨sl,d.tu,d.ro,d.cod,d.ρ,pr,d.inj,hpr⟩ c h d.ρ (ql 0 d.pm x (d.tu.av y) (d.tk.av z)) ⟨λe=>Qw C e ⟨sl,d.tu,d.ro,d.cod,d.ρ,pr,d.inj,hpr⟩,λ_ _=>none,some⟩
end Go.Gb
namespace Go.Gb
variable{T:Tb}{R:Type}
def iu.ok{t u:Tp}(L:iu T t u):Prop:=(∀(x:T.D t)(f:Addr)(k:K),At x f k->At (L.get x) (f.add L.off) k)/\Upd L.off L.set/\L.off+(T.e u).sz<=(T.e t).sz
def Fa2:List (Σ t,T.D t)->List Value->K->Prop|[],[],_=>True|p::l,v::e,k=>IsV p.2 v k/\Fa2 l e k|_,_,_=>False
theorem Fa2.le{k e:K}(h:Le k e):∀{l:List (Σ t,T.D t)}{f:List Value},Fa2 l f k->Fa2 l f e|[],[],_=>trivial|_::_,_::_,g=>⟨aW.pers h g.1,Fa2.le h g.2⟩
theorem Fa2.get{k:K}:∀{l:List (Σ t,T.D t)}{e:List Value}{i:Nat}{p:Σ t,T.D t},Fa2 l e k->l[i]?=some p->∃v,e[i]?=some v/\IsV p.2 v k|p::l,v::e,0,q,g,h=>by simp at h;subst h;exact⟨v,rfl,g.1⟩;|p::l,v::e,i+1,q,g,h=>by obtain⟨u,j,m⟩:=Fa2.get g.2 (by simpa using h);exact⟨u,by simpa using j,m⟩
def Rk.is:(f:Rk)->f.D T->Value->K->Prop| .n,_,_,_=>True| .o e _,g,v,k=>ah 0 e g v k| .b _,x,v,k=>∃b,v= .pointer (some ⟨b,0,none⟩)/\Box b x k| .c m,x,v,k=>∃F,T.RP m x F v k
def Rk.fp(T:Tb):Rk->Value->K->FP| .n,_,_=>noF| .o _ _,v,_=>obF v| .b _,v,_=>λb=>v= .pointer (some ⟨b,0,none⟩)| .c m,v,k=>λb=>∃(y:T.RD m)(F:FP),T.RP m y F v k/\F b
theorem iB{m:Nat}{x:T.RD m}{F:FP}{v:Value}{k:K}(h:T.RP m x F v k):Rk.fp T (.c m) v k=F:=by funext b;refine propext ⟨λ⟨y,G,h1,e⟩=>?_,λh1=>⟨x,F,h,h1⟩⟩;rw[T.RPone m x y F G v k h h1];exact e
theorem Rk.lt{κ:Rk}{x:κ.D T}{v:Value}{k:K}(h:κ.is x v k):∀b,κ.fp T v k b->b<k.w.heap.size/\¬k.sh b:=by intro b f;cases κ with|n=>exact f.elim;|o e t=>exact⟨(ah.lt h b f).2.1,(ah.lt h b f).2.2⟩;|b t=>obtain⟨c,e,h⟩:=h;rw[f]at e;simp[Value.pointer.injEq]at e;subst e;exact⟨h.lt,h.own⟩;|c m=>obtain⟨F,h⟩:=h;rw[iB h]at f;have:=T.RPok m x;exact⟨Rsc.lt h b f,Rsc.nsh h b f⟩
theorem Rk.keep{κ:Rk}{x:κ.D T}{v:Value}{k g:K}{G:FP}(h:κ.is x v k)(c:Chg G k g)(j:∀b,G b->¬k.sh b)(f:bj (κ.fp T v k) G):κ.is x v g/\κ.fp T v g=κ.fp T v k:=by cases κ with|n=>exact⟨trivial,rfl⟩;|o e t=>exact⟨ah.keep h c f j,rfl⟩;|b t=>obtain⟨b,e,h⟩:=h;exact⟨⟨b,e,h.keep c (f b e) j⟩,rfl⟩;|c m=>obtain⟨F,h⟩:=h;have hi:=T.RPok m x;rw[iB h]at f⊢;have q:=Rsc.keep h c f j;exact⟨⟨F,q⟩,iB q⟩
theorem Rk.handed{κ:Rk}{x:κ.D T}{v:Value}{k g:K}{G:FP}(h:κ.is x v k)(c:Handed k g G)(f:bj (κ.fp T v k) G):κ.is x v g/\κ.fp T v g=κ.fp T v k:=by cases κ with|n=>exact⟨trivial,rfl⟩;|o e t=>exact⟨ah.handed h c f,rfl⟩;|b t=>obtain⟨b,e,h⟩:=h;exact⟨⟨b,e,h.handed c (f b e)⟩,rfl⟩;|c m=>obtain⟨F,h⟩:=h;have hi:=T.RPok m x;rw[iB h]at f⊢;have j:=Rsc.handed h c f;exact⟨⟨F,j⟩,iB j⟩
theorem Rk.grow{κ:Rk}{x:κ.D T}{v:Value}{k e:K}(h:κ.is x v k)(g:bE k e):κ.is x v e/\κ.fp T v e=κ.fp T v k:=Rk.keep h (Chg.of (F:=noF) g) (λ _ f=>f.elim) (λ _ _ f=>f.elim)
def XE:Value->Value| .tuple u=>u[0]?.getD undef|v=>v
def SPV(T:Tb)(m:Nat)(u v:Value)(k:K):Prop:=∃(t:Tp) (g:T.D t->Option Addr) (b:Nat) (x:T.D t) (q:Addr),T.SG m=some ⟨t,g⟩/\u= .pointer (some ⟨b,0,none⟩)/\Box b x k/\g x=some q/\v= .pointer (some q)
def AV.is(a:Act):AV T->Value->K->Prop| .top,_,_=>True| .any,_,_=>True| .nil,y,_=>y= .pointer none| .v _ x,y,k=>IsV x y k| .e0,y,k=>ij y k| .tup l,y,k=>∃vs:List Value,y= .tuple vs.toArray/\Fa2 l vs k| .ref _ x,y,k=>aS x y k| .fl _ xs,y,k=>tH xs y k| .own _ e _ xs,y,k=>ah 0 e xs y k| .box _ _ x,y,k=>∃b,y= .pointer (some ⟨b,0,none⟩)/\Box b x k| .al s,y,_=>y=a.get s| .ab s _ x _ L,y,k=>L.ok/\∃b,a.get s= .pointer (some ⟨b,0,none⟩)/\y= .pointer (some ⟨b,L.off,none⟩)/\Box b x k| .ao s e t xs i x _ L,y,k=>L.ok/\s5 (a.get s) (i*(T.e t).sz+L.off) y k/\ah 0 e xs (a.get s) k/\xs[i]?=some x| .rs _ m x,y,k=>(Rk.c m).is x y k| .tr _ κ x l,y,k=>∃(u:Value)(vs:List Value),y= .tuple (u::vs).toArray/\κ.is x u k/\Fa2 l vs k| .tq l,y,k=>∃(u:Value)(vs:List Value),y= .tuple (u::vs).toArray/\Fa2 l vs k| .mv f s,y,_=>y= .func (.func f) #[a.get s] #[]| .sp s m,y,k=>SPV T m (a.get s) y k
theorem tg{t:Tp}{x:T.D t}{v:Value}{k:K}:@IsV (T.D (.rf t)) (T.e (.rf t)) x v k↔@aS (T.D t) (T.e t) x v k:=TR (α:=T.D t)
theorem JA{b:Tp}{g:T.D (.f0 b)}{v:Value}{k:K}:@IsV (T.D (.f0 b)) (T.e (.f0 b)) g v k↔@zd (T.D b) (T.e b) T.P g v k:=Sk
theorem Ag{a b:Tp}{g:T.D (.f1 a b)}{v:Value}{k:K}:@IsV (T.D (.f1 a b)) (T.e (.f1 a b)) g v k↔@rF (T.D a) (T.D b) (T.e a) (T.e b) T.P g v k:=S1
theorem Ac{a b c:Tp}{g:T.D (.f2 a b c)}{v:Value}{k:K}:@IsV (T.D (.f2 a b c)) (T.e (.f2 a b c)) g v k↔@wZ (T.D a) (T.D b) (T.D c) (T.e a) (T.e b) (T.e c) T.P g v k:=Sy
theorem gQ{a:Act}{t:Tp}{x:T.D t}{v:Value}{k:K}:(mkv t x).is a v k↔IsV x v k:=by cases t with|rf t=>exact tg.symm;|_=>exact iD
theorem vn{t:Tp}{x:T.D t}:aJ (mkv t x)=false:=by cases t<;>rfl
theorem sr{t:Tp}{x:T.D t}{s:Nat}:(mkv t x).bP s=false:=by cases t<;>rfl
def AV.jU:AV T->Nat->Bool| .sp s _,t=>Nat.beq s t| .ab s _ _ _ _,t=>Nat.beq s t| .ao s _ _ _ _ _ _ _,t=>Nat.beq s t|_,_=>false
theorem AV.lj{av:AV T}{s:Nat}(h:av.jU s=true):av.bP s=true:=by cases av<;>first|exact h|simp[AV.jU]at h
def AV.fp:AV T->Value->K->FP| .own _ _ _ _,y,_=>obF y| .box _ _ _,y,_=>λb=>y= .pointer (some ⟨b,0,none⟩)| .rs _ m _,y,k=>Rk.fp T (.c m) y k| .tr _ e _ _,y,k=>Rk.fp T e (XE y) k|_,_,_=>noF
theorem AV.mono{a:Act}(av:AV T){v:Value}{k k':K}(g:bE k k')(h:av.is a v k):av.is a v k':=by cases av with|top=>trivial;|any=>trivial;|nil=>exact h;|v t x=>exact aZ.mono (R:=IsV x) g h;|fl t xs=>exact aZ.mono (R:=tH xs) g h;|e0=>exact h;|tup l=>obtain⟨vs,e,h⟩:=h;exact⟨vs,e,h.le g.le⟩;|ref t x=>exact aZ.mono (R:=aS x) g h;|own b e t xs=>exact aZ.mono (R:=ah 0 e xs) g h;|box b t x=>obtain⟨b,e,h⟩:=h;exact⟨b,e,h.grow g⟩;|al s=>exact h;|ab s t x u L=>obtain⟨h0,b,e1,e2,h⟩:=h;exact⟨h0,b,e1,e2,h.grow g⟩;|ao s e t xs i x u L=>exact⟨h.1,h.2.1,aZ.mono (R:=ah 0 e xs) g h.2.2.1,h.2.2.2⟩;|rs b m x=>exact(Rk.grow (κ:= .c m) h g).1;|tr lf κ x l=>obtain⟨u,vs,e,h1,h2⟩:=h;exact⟨u,vs,e,(Rk.grow h1 g).1,h2.le g.le⟩;|tq l=>obtain⟨u,vs,e,h2⟩:=h;exact⟨u,vs,e,h2.le g.le⟩;|mv f s=>exact h;|sp s m=>obtain⟨t,f,b,x,q,h1,h2,h3,h4⟩:=h;exact⟨t,f,b,x,q,h1,h2,h3.grow g,h4⟩
instance{a:Act}{av:AV T}:aZ (av.is a):=⟨λg h=>av.mono g h⟩
theorem AV.congr{a a':Act}(av:AV T){v:Value}{k:K}(e:∀s,av.bP s=true->a'.get s=a.get s)(h:av.is a v k):av.is a' v k:=by cases av with|al s=>exact(show v=a.get s from h).trans (e s (cL s)).symm;|ab s t x u L=>obtain⟨h0,b,e1,r⟩:=h;exact⟨h0,b,(e s (cL s)).trans e1,r⟩;|ao s el t xs i x u L=>have e:=e s (cL s);obtain⟨h0,h1,h2,h3⟩:=h;exact⟨h0,by rw[e];exact h1,by rw[e];exact h2,h3⟩|mv f s=>have e:=e s (cL s);show v=_;rw[e];exact h;|sp s m=>have e:=e s (cL s);show SPV T m (a'.get s) v k;rw[e];exact h;|_=>exact h
theorem AV.lt{a:Act}(av:AV T){v:Value}{k:K}(h:av.is a v k):∀b,av.fp v k b->b<k.w.heap.size/\¬k.sh b:=by intro b f;cases av with|own l e t g=>exact⟨(ah.lt h b f).2.1,(ah.lt h b f).2.2⟩;|box l t x=>obtain⟨c,e,h⟩:=h;rw[f]at e;simp[Value.pointer.injEq]at e;subst e;exact⟨h.lt,h.own⟩;|rs l m x=>exact Rk.lt (κ:= .c m) h b f;|tr q κ x l=>obtain⟨u,y,rfl,h1,z⟩:=h;exact Rk.lt h1 b f;|_=>exact f.elim
theorem dG{av:AV T}(h:aJ av=false)(v:Value)(k:K)(b:Nat):¬av.fp v k b:=by intro f;cases av with|own l e t g=>simp[aJ]at h;|box l t x=>simp[aJ]at h;|rs l m x=>simp[aJ]at h;|tr q u x l=>simp[aJ]at h;|_=>exact f.elim
theorem tC{av:AV T}(h:unl av=true):aJ av=true:=by cases av with|own l e t f=>rfl;|box l t x=>rfl;|rs l m x=>rfl;|tr j q x l=>rfl;|_=>simp[unl]at h
def HP:AV T->Bool| .own _ _ _ _=>true| .box _ _ _=>true|_=>false
theorem AV.keep{a:Act}(av:AV T){v:Value}{k k':K}{G:FP}(c:Chg G k k')(hn:∀b,G b->¬k.sh b)(hf:bj (av.fp v k) G)(hm:∀s,av.jU s=true->∀u:AV T,HP u=true->u.is a (a.get s) k->bj (u.fp (a.get s) k) G)(h:av.is a v k):av.is a v k':=by have hle:=c.le hn;cases av with|top=>trivial;|any=>trivial;|nil=>exact h;|v t x=>exact aW.pers (R:=IsV x) hle h;|fl t xs=>exact aW.pers (R:=tH xs) hle h;|e0=>exact h;|tup l=>obtain⟨vs,e,h⟩:=h;exact⟨vs,e,h.le hle⟩;|ref t x=>exact aW.pers (R:=aS x) hle h;|own b e t xs=>exact ah.keep h c hf hn;|box b t x=>obtain⟨b,e,h⟩:=h;exact⟨b,e,h.keep c (hf b e) hn⟩;|al s=>exact h;|ab s t x u L=>obtain⟨h0,b,e1,e2,h⟩:=h;exact⟨h0,b,e1,e2,h.keep c (hm s (cL s) (.box false t x) rfl ⟨b,e1,h⟩ b e1) hn⟩|ao s e t xs i x u L=>exact⟨h.1,h.2.1,ah.keep h.2.2.1 c (hm s (cL s) (.own false e t xs) rfl h.2.2.1) hn,h.2.2.2⟩|rs b m x=>exact(Rk.keep (κ:= .c m) h c hn hf).1;|tr lf κ x l=>obtain⟨u,vs,rfl,h1,h2⟩:=h;exact⟨u,vs,rfl,(Rk.keep h1 c hn hf).1,h2.le hle⟩;|tq l=>obtain⟨u,vs,e,h2⟩:=h;exact⟨u,vs,e,h2.le hle⟩;|mv f s=>exact h;|sp s m=>obtain⟨t,f,b,x,q,h1,h2,h3,h4⟩:=h;exact⟨t,f,b,x,q,h1,h2,h3.keep c (hm s (cL s) (.box false t x) rfl ⟨b,h2,h3⟩ b h2) hn,h4⟩
theorem AV.oZ{a:Act}(av:AV T){v:Value}{k e:K}{G:FP}(c:Chg G k e)(f:∀b,G b->¬k.sh b)(g:bj (av.fp v k) G)(h:av.is a v k):av.fp v e=av.fp v k:=by cases av with|rs b m x=>exact(Rk.keep (κ:= .c m) h c f g).2;|tr w κ x l=>obtain⟨u,y,rfl,h1,z⟩:=h;exact(Rk.keep h1 c f g).2;|_=>rfl
theorem AV.iN{a:Act}(av:AV T){v:Value}{k e:K}(g:bE k e)(h:av.is a v k):av.fp v e=av.fp v k:=av.oZ (Chg.of (F:=noF) g) (λ_ f=>f.elim) (λ_ _ f=>f.elim) h
theorem AV.handed{a:Act}(av:AV T){v:Value}{k k':K}{G:FP}(c:Handed k k' G)(hf:bj (av.fp v k) G)(hm:∀s,av.jU s=true->∀u:AV T,HP u=true->u.is a (a.get s) k->bj (u.fp (a.get s) k) G)(h:av.is a v k):av.is a v k':=by have hle:=c.le;cases av with|top=>trivial;|any=>trivial;|nil=>exact h;|v t x=>exact aW.pers (R:=IsV x) hle h;|fl t xs=>exact aW.pers (R:=tH xs) hle h;|e0=>exact h;|tup l=>obtain⟨vs,e,h⟩:=h;exact⟨vs,e,h.le hle⟩;|ref t x=>exact aW.pers (R:=aS x) hle h;|own b e t xs=>exact ah.handed h c hf;|box b t x=>obtain⟨b,e,h⟩:=h;exact⟨b,e,h.handed c (hf b e)⟩;|al s=>exact h;|ab s t x u L=>obtain⟨h0,b,e1,e2,h⟩:=h;exact⟨h0,b,e1,e2,h.handed c (hm s (cL s) (.box false t x) rfl ⟨b,e1,h⟩ b e1)⟩|ao s e t xs i x u L=>exact⟨h.1,h.2.1,ah.handed h.2.2.1 c (hm s (cL s) (.own false e t xs) rfl h.2.2.1),h.2.2.2⟩|rs b m x=>exact(Rk.handed (κ:= .c m) h c hf).1;|tr lf κ x l=>obtain⟨u,vs,rfl,h1,h2⟩:=h;exact⟨u,vs,rfl,(Rk.handed h1 c hf).1,h2.le hle⟩;|tq l=>obtain⟨u,vs,e,h2⟩:=h;exact⟨u,vs,e,h2.le hle⟩;|mv f s=>exact h;|sp s m=>obtain⟨t,f,b,x,q,h1,h2,h3,h4⟩:=h;exact⟨t,f,b,x,q,h1,h2,h3.handed c (hm s (cL s) (.box false t x) rfl ⟨b,h2,h3⟩ b h2),h4⟩
theorem AV.LJ{a:Act}(av:AV T){v:Value}{k e:K}{G:FP}(c:Handed k e G)(f:bj (av.fp v k) G)(h:av.is a v k):av.fp v e=av.fp v k:=by cases av with|rs b m x=>exact(Rk.handed (κ:= .c m) h c f).2;|tr q κ x l=>obtain⟨u,w,rfl,h1,y⟩:=h;exact(Rk.handed h1 c f).2;|_=>rfl
theorem Ec{s t:Nat}(h:s≠t):Nat.beq s t=false:=by cases e:Nat.beq s t with|true=>exact absurd (ba e) h;|false=>rfl
theorem we(d:Nat)(x:AV T):kl d x=x∨kl d x= .top:=by
 unfold kl;split;.cases Nat.beq _ d<;>simp
 .cases Nat.beq _ d<;>simp
 .cases Nat.beq _ d<;>simp
 .exact .inl rfl
theorem iI(d:Nat)(x:AV T):klA d x=x∨klA d x= .top:=by
 unfold klA;split;.cases Nat.beq _ d<;>simp
 .cases Nat.beq _ d<;>simp
 .exact we d _
theorem p8{d s:Nat}{x:AV T}(h:(klA d x).bP s=true):x.bP s=true/\s≠d:=by
 have ne:∀s':Nat,Nat.beq s' d=false->Nat.beq s' s=true->s≠d:=λs' h1 h2 e=>by rw[<-e,h2]at h1;simp at h1
 cases x with
 |al s'=>simp only[klA]at h;cases hb:Nat.beq s' d with|true=>rw[hb]at h;simp[AV.bP]at h;|false=>rw[hb]at h;exact⟨h,ne _ hb h⟩
 |mv f s'=>simp only[klA]at h;cases hb:Nat.beq s' d with|true=>rw[hb]at h;simp[AV.bP]at h;|false=>rw[hb]at h;exact⟨h,ne _ hb h⟩
 |ab s' t x u L=>simp only[klA,kl]at h;cases hb:Nat.beq s' d with|true=>rw[hb]at h;simp[AV.bP]at h;|false=>rw[hb]at h;exact⟨h,ne _ hb h⟩
 |ao s' e t xs i x u L=>simp only[klA,kl]at h;cases hb:Nat.beq s' d with|true=>rw[hb]at h;simp[AV.bP]at h;|false=>rw[hb]at h;exact⟨h,ne _ hb h⟩
 |sp s' m=>simp only[klA,kl]at h;cases hb:Nat.beq s' d with|true=>rw[hb]at h;simp[AV.bP]at h;|false=>rw[hb]at h;exact⟨h,ne _ hb h⟩
 |_=>simp[klA,kl,AV.bP]at h
theorem Kq{d s:Nat}{x:AV T}(h:(kl d x).bP s=true):x.bP s=true:=by
 rcases we d x with e|e;.rwa[e]at h
 .rw[e]at h;simp[AV.bP]at h
theorem Hz{d s:Nat}{x:AV T}(h:(kl d x).jU s=true):x.jU s=true/\s≠d:=by
 have ne:∀s':Nat,Nat.beq s' d=false->Nat.beq s' s=true->s≠d:=λs' h1 h2 e=>by rw[<-e,h2]at h1;simp at h1
 cases x with
 |ab s' t x u L=>simp only[kl]at h;cases hb:Nat.beq s' d with|true=>rw[hb]at h;simp[AV.jU]at h;|false=>rw[hb]at h;exact⟨h,ne _ hb h⟩
 |ao s' e t xs i x u L=>simp only[kl]at h;cases hb:Nat.beq s' d with|true=>rw[hb]at h;simp[AV.jU]at h;|false=>rw[hb]at h;exact⟨h,ne _ hb h⟩
 |sp s' m=>simp only[kl]at h;cases hb:Nat.beq s' d with|true=>rw[hb]at h;simp[AV.jU]at h;|false=>rw[hb]at h;exact⟨h,ne _ hb h⟩
 |_=>simp[kl,AV.jU]at h
theorem ta{d:Nat}{x:AV T}(h:aJ x=true):klA d x=x:=by cases x<;>first|rfl|simp[aJ]at h
theorem Mc{d:Nat}{x:AV T}(h:aJ x=true):kl d x=x:=by cases x<;>first|rfl|simp[aJ]at h
theorem bg(s:Nat)(x:AV T)(e:Env T)(t:Nat):lk ((s,x)::e) t=if s=t then x else lk e t:=by simp only[lk];simp_all
def iV(f:AV T->AV T)(e:Env T):Env T:=e.map λp=>(p.1,f p.2)
theorem gD(f:AV T->AV T):∀(e:Env T)(k:Env T->Option R),tP f e k=k (iV f e)|[],_=>rfl|(t,a)::e,k=>by rw[tP,gD f e];rfl
theorem kB{f:AV T->AV T}(h:f .top= .top):∀(e:Env T)(t:Nat),lk (iV f e) t=f (lk e t)|[],t=>h.symm|(s,x)::e,t=>by show lk ((s,f x)::iV f e) t=_;rw[bg,bg,kB h e];split<;>rfl
def GOk(T:Tb)(k:K):Prop:=(∀g t x,T.gl g=some ⟨t,x⟩->aS (α:=T.D t) x (.pointer (some ⟨g,0,none⟩)) k)/\∀g,T.gi=some g->∃m:Int,aS m (.pointer (some ⟨g,0,none⟩)) k
theorem GOk.le{k f:K}(h:Le k f)(g:GOk T k):GOk T f:=⟨λi t x e=>aW.pers h (g.1 i t x e),λi e=>(g.2 i e).imp λ_ r=>aW.pers h r⟩
structure Hl(n:Nat)(F:FP)(k0:K)(W:List Nat)(a0:Act)(e:Env T)(a:Act)(k:K):Prop where
 g:Chg F k0 k
 s:a.tmps.size=n
 d:a.defers=[]old:∀t,t∉W->a.get t=a0.get t
 sl:∀t,(lk e t).is a (a.get t) k
 inv:∀t s,(lk e t).bP s=true->aJ (lk e s)=true
 wr:∀t,unl (lk e t)=true->Wr F k0 ((lk e t).fp (a.get t) k)ap:∀t t',t≠t'->bj ((lk e t).fp (a.get t) k) ((lk e t').fp (a.get t') k)gl:GOk T k
section
variable{n:Nat}{F:FP}{k0:K}{W:List Nat}{a0:Act}{e:Env T}{a a':Act}{k k':K}
theorem Hl.lt(h:Hl n F k0 W a0 e a k)(t:Nat):∀b,(lk e t).fp (a.get t) k b->b<k.w.heap.size/\¬k.sh b:=(lk e t).lt (h.sl t)
theorem Hl.apm(h:Hl n F k0 W a0 e a k){s w:Nat}(E:aJ (lk e s)=true)(G:s≠w){u:AV T}(P:HP u=true)(hi:u.is a (a.get s) k):bj (u.fp (a.get s) k) ((lk e w).fp (a.get w) k):=by
 have H:=h.ap s w G;have f:=h.sl s;have I:∀b,u.fp (a.get s) k b->(lk e s).fp (a.get s) k b:=by intro b g;have j:=(u.lt hi b g).2;generalize lk e s=x at E f;generalize a.get s=v at*;cases u with
 |own l e' t xs=>cases x with|own q J M O=>exact g;|box q M Q=>obtain⟨c,rfl,_⟩:=f;simp[AV.fp,obF,ob]at g;|rs q m z=>obtain⟨F,h1⟩:=f;show Rk.fp T (.c m) v k b;rw[iB h1];exact T.RProot _ _ _ _ _ _ h1 (.inr g) j;|tr V κ z q=>obtain⟨u,vs,rfl,_⟩:=f;simp[AV.fp,obF,ob]at g;|_=>simp[aJ]at E
 |box l t y=>cases x with|own q J M O=>obtain⟨c,rfl,_⟩:=hi;rcases(f)with⟨e1,_⟩|⟨_,e1,_⟩|⟨_,_,_,_,_,e1,_⟩<;>simp at e1;|box q M Q=>exact g;|rs q m z=>obtain⟨F,h1⟩:=f;show Rk.fp T (.c m) v k b;rw[iB h1];exact T.RProot _ _ _ _ _ _ h1 (.inl g) j;|tr V κ z q=>obtain⟨u,vs,rfl,_⟩:=f;obtain⟨c,e,_⟩:=hi;simp at e;|_=>simp[aJ]at E
 |_=>simp[HP]at P
 exactλb g=>H b (I b g)
theorem Hl.put(h:Hl n F k0 W a0 e a k){d:Nat}{av:AV T}(hd:d∈W)(I:bE k k')(hs:a'.tmps.size=a.tmps.size)(Q:a'.defers=a.defers)(J:∀t,t≠d->a'.get t=a.get t)(hv:av.is a' (a'.get d) k')(hm:∀s,av.bP s=true->aJ (lk e s)=true)(hw:unl av=true->Wr F k0 (av.fp (a'.get d) k'))(ha:∀t,t≠d->bj (av.fp (a'.get d) k') ((lk e t).fp (a.get t) k)){r:R}{K:Env T->Option R}(hk:Gb.put e d av K=some r):∃E,K E=some r/\Hl n F k0 W a0 E a' k'/\lk E d=av/\∀t,t≠d->lk E t=lk e t∨lk E t= .top:=by
 have M:(av.bP d=false)->∀e1:Env T,(∀t,t≠d->lk e1 t=lk e t∨lk e1 t= .top)->(∀t s,t≠d->(lk e1 t).bP s=true->s≠d)->(∀s,aJ (lk e s)=true->s≠d->lk e1 s=lk e s)->Hl n F k0 W a0 ((d,av)::e1) a' k'/\lk ((d,av)::e1) d=av/\∀t,t≠d->lk ((d,av)::e1) t=lk e t∨lk ((d,av)::e1) t= .top:=by
  intro w e1 h1 h2 h3;have q:∀t,t≠d->lk ((d,av)::e1) t=lk e1 t:=λt j=>by rw[bg,if_neg (Ne.symm j)]
  have u:lk ((d,av)::e1) d=av:=by rw[bg,if_pos rfl]
  refine⟨?_,u,λt j=>by rw[q t j];exact h1 t j⟩;refine⟨h.g.then I,hs.trans h.s,Q.trans h.d,λt j=>?_,λt=>?_,λt s m=>?_,λt G=>?_,λt O H=>?_,h.gl.le I.le⟩;.rw[J t (λe=>j (e▸hd))];exact h.old t j
  · by_cases j:t=d;.subst j;rw[u];exact hv
    · rw[q t j,J t j];rcases h1 t j with f|f;·rw[f];refine(lk e t).congr (λs U=>J s (h2 t s j (by rw[f];exact U))) ((lk e t).mono I (h.sl t))
      .rw[f];trivial
  · by_cases j:t=d;·subst j;rw[u]at m;grind
    · rw[q t j]at m;have h4:=h2 t s j m;rcases h1 t j with f|f;·rw[f]at m;have h5:=h.inv t s m;rw[q s h4,h3 s h5 h4];exact h5
      .rw[f]at m;simp[AV.bP]at m
  · by_cases j:t=d;.subst j;rw[u]at G⊢;exact hw G
    · rw[q t j]at G⊢;rw[J t j];rcases h1 t j with f|f;.rw[f]at G⊢;rw[AV.iN _ I (h.sl t)];exact h.wr t G
      .rw[f]at G;simp[unl]at G
  · have z:∀t,t≠d->∀b,(lk ((d,av)::e1) t).fp (a'.get t) k' b->(lk e t).fp (a.get t) k b:=by
     intro t j b x;rw[q t j,J t j]at x;rcases h1 t j with f|f;.rw[f,AV.iN _ I (h.sl t)]at x;exact x
     .rw[f]at x;exact x.elim
    by_cases j:t=d;·subst j;rw[u];exactλb x y=>ha O (Ne.symm H) b x (z O (Ne.symm H) b y)
    · by_cases P:O=d;·subst P;rw[u];exactλb x y=>ha t j b y (z t j b x)
      .exactλb x y=>h.ap t O H b (z t j b x) (z O P b y)
 unfold Gb.put at hk;cases w:av.bP d with|true=>rw[w]at hk;simp at hk;|false=>rw[w]at hk;simp only[cond_false]at hk;cases V:aJ (lk e d)with
 |true=>
 rw[V]at hk;simp only[cond_true]at hk;rw[gD]at hk;have hl:∀t,lk (iV (klA d) e) t=klA d (lk e t):=λt=>kB rfl e t;refine⟨_,hk,M w _ (λt _=>?_) (λt s _ m=>?_) (λs hsr _=>?_)⟩;.rw[hl];exact iI d _
 ·rw[hl]at m;exact(p8 m).2
 .rw[hl];exact ta hsr;|false=>rw[V]at hk;simp only[cond_false]at hk;refine⟨_,hk,M w e (λt _=> .inl rfl) (λt s _ m=>?_) (λs _ _=>rfl)⟩;intro E;subst E;have:=h.inv t s m;rw[V]at this;simp at this
end
end Go.Gb
namespace Go.Gb
variable{T:Tb}{R:Type}
theorem qP{P:Program}{t:TypeId}{u:Tp}(h:tyB P T t u=true):(P.info? t).map (·.size)=some (T.e u).sz:=by unfold tyB at h;grind
theorem wQ{P:Program}{t:TypeId}{u:Tp}(h:tyB P T t u=true):Ty P t (T.D u):=by refine⟨?_,qP h⟩;unfold tyB at h;grind
theorem jE{P:Program}{t e:TypeId}(h:Cz P t=some e):P.underlying t=some (.slice e):=by unfold Cz at h;grind
theorem wO{P:Program}{e:TypeId}{u:Tp}(h:elB P T e u=true):dJ P e (T.D u):=by unfold elB at h;cases hi:P.info? e with|none=>rw[hi]at h;simp at h;|some i=>rw[hi]at h;simp only[aD]at h;obtain⟨⟨⟨h1,g⟩,j⟩,m⟩:=h;cases f:i.zero with|none=>rw[f]at h1;simp at h1;|some z=>rw[f]at h1;exact⟨i,z,hi,f,by simpa[szT]using g,by simpa[szT]using h1,gk Nat.zero_lt_one (by simpa[szT]using oD j),oD m⟩
theorem DP{P:Program}{s f off:Nat}(h:uo P s f=some off):cT P s f off:=by
 unfold uo at h;split at h
 · rename_i e u;split at h
   · rename_i d g;split at h
     · rename_i i hi;split at h;.simp at h
       .rename_i m j;exact⟨e,d,m,u,g,ae h,by rw[hi];simp[j]⟩
     .simp at h
   .simp at h
 .simp at h
theorem Hg:∀{l:List Tp}{i:Nat}{u:Tp}{L:Ro T l u},BX l i=some ⟨u,L⟩->(∀(x:HL T.S l)(f:Addr)(k:K),At x f k->At (L.get x) (f.add L.off) k)/\Upd L.off L.set/\L.off+(T.e u).sz<=(T.h l).sz
 |[],_,_,_,h=>by simp[BX]at h;|[a],0,u,L,h=>by simp[BX]at h;obtain⟨rfl,h⟩:=h;subst h;exact⟨λx f k g=>At.zero g,Upd.self,rY (bw _)⟩;|a::b::l,0,u,L,h=>by simp[BX]at h;obtain⟨rfl,h⟩:=h;subst h;exact⟨λx f k g=>At.zero (At.fst g),Upd.fst Upd.self,by show 0+(T.e a).sz<=(T.e a).sz+(T.h (b::l)).sz;omega⟩;|a::b::l,i+1,u,L,h=>by
  simp[BX]at h;split at h;.rename_i j m q;obtain⟨h1,w,y⟩:=Hg q;simp[aU]at h;obtain⟨rfl,h⟩:=h;subst h;refine⟨λx f k g=>?_,Upd.snd w,by show(T.e a).sz+m.off+(T.e j).sz<=(T.e a).sz+(T.h (b::l)).sz;omega⟩;have:=h1 _ _ _ (At.snd g);rw[add_add]at this;exact this
  .simp at h
theorem Vf{n:Nat}{x:T.S n}{f:Addr}{k:K}:@At (T.D (.st n)) (T.e (.st n)) x f k↔At (T.to n x) f k:=by show@At (T.S n) (T.enc n) x f k↔_;rw[T.enc_eq n];exact iD
theorem yv{n:Nat}{x:T.S n}{k:K}{f:List Value}:@Enc.rep (T.D (.st n)) (T.e (.st n)) k f x↔Enc.rep k f (T.to n x):=by show@Enc.rep (T.S n) (T.enc n) k f x↔_;rw[T.enc_eq n];exact iD
theorem Oz{n:Nat}:(T.e (.st n)).sz=(T.h (T.fs n)).sz:=by show(T.enc n).sz=_;rw[T.enc_eq n];rfl
theorem IH{n:Nat}:(T.e (.st n)).agg=true:=by show(T.enc n).agg=_;rw[T.enc_eq n];rfl
theorem cast?_eq'{S:Nat->Type}{a b:Tp}{x:a.den S}{y:b.den S}(h:cast? a b x=some y):∃e:a=b,y=e▸x:=by unfold cast? at h;grind
theorem wu{k:K}{t:Tp}:∀{l:List Tp}{x:HL T.S l}{f:List (T.D t)}{cs:List Value},pT t l x=some f->Enc.rep k cs x->∀j (g:j<f.length),Enc.rep k ((cs.drop (j*(T.e t).sz)).take (T.e t).sz) f[j]
 |[],x,f,cs,h,m,j,g=>by simp[pT]at h;subst h;simp at g;|[a],x,f,cs,h,m,j,g=>by
  simp[pT]at h;split at h
  · rename_i y q;obtain rfl:=ae h;obtain⟨rfl,rfl⟩:=cast?_eq' q;have E:j=0:=by simp at g;omega
    subst E;have u:Enc.rep k cs _:=m;have F:cs.length=(T.e a).sz:=Enc.len u;grind
  .simp at h|a::b::l,x,f,cs,h,m,j,g=>by
  simp[pT]at h;split at h;.rename_i y r q h1;obtain rfl:=ae h;obtain⟨rfl,rfl⟩:=cast?_eq' q;obtain⟨F,G,H⟩:=m;cases j with|zero=>rw[rn];exact G;|succ j=>have:=wu h1 H j (by simpa using g);rw[iz]at this;rw[Nat.succ_mul,Nat.add_comm];exact this
  .simp at h
theorem IV{k:K}{t:Tp}{l:List Tp}{x:HL T.S l}{g:List (T.D t)}{m:List Value}(h:wS l x=some ⟨t,g⟩)(q:Enc.rep k m x):∀j(u:j<g.length),Enc.rep k ((m.drop (j*(T.e t).sz)).take (T.e t).sz) g[j]:=by
 unfold wS at h;split at h;.simp at h
 · split at h;.rename_i r f;simp[aU]at h;obtain⟨rfl,h⟩:=h;obtain rfl:=eq_of_heq h;exact wu f q
   .simp at h
 · split at h;.rename_i r f;simp[aU]at h;obtain⟨rfl,h⟩:=h;obtain rfl:=eq_of_heq h;exact wu f q
   .simp at h
theorem yD{k:K}{t:Tp}:∀{l:List Tp}{x:HL T.S l}{f:List (T.D t)}{m:Addr},pT t l x=some f->At x m k->∀j(g:j<f.length),At f[j] (m.add (j*(T.e t).sz)) k
 |[],x,f,m,h,q,j,g=>by simp[pT]at h;subst h;simp at g;|[a],x,f,m,h,q,j,g=>by
  simp[pT]at h;split at h
  · rename_i y u;obtain rfl:=ae h;obtain⟨rfl,rfl⟩:=cast?_eq' u;have E:j=0:=by simp at g;omega
    subst E;rw[rn];exact At.zero q
  .simp at h|a::b::l,x,f,m,h,q,j,g=>by
  simp[pT]at h;split at h;.rename_i y r u h1;obtain rfl:=ae h;obtain⟨rfl,rfl⟩:=cast?_eq' u;cases j with|zero=>rw[rn];exact At.zero (At.fst q);|succ j=>have:=yD h1 (At.snd q) j (by simpa using g);rw[add_add]at this;grind
  .simp at h
theorem LW{k:K}{t:Tp}{l:List Tp}{x:HL T.S l}{g:List (T.D t)}{m:Addr}(h:wS l x=some ⟨t,g⟩)(q:At x m k):∀j (u:j<g.length),At g[j] (m.add (j*(T.e t).sz)) k:=by
 unfold wS at h;split at h;.simp at h
 · split at h;.rename_i r f;simp[aU]at h;obtain⟨rfl,h⟩:=h;obtain rfl:=eq_of_heq h;exact yD f q
   .simp at h
 · split at h;.rename_i r f;simp[aU]at h;obtain⟨rfl,h⟩:=h;obtain rfl:=eq_of_heq h;exact yD f q
   .simp at h
theorem AZ{n i:Nat}{u:Tp}{L:iu T (.st n) u}(h:Hq n i=some ⟨u,L⟩):L.ok:=by
 unfold Hq at h;split at h;.rename_i F G f;obtain⟨h1,g,j⟩:=Hg f;simp[aU]at h;obtain⟨rfl,h⟩:=h;subst h;refine⟨λx H k e=>h1 _ _ _ (Vf.1 e),λk m q x y e w=>?_,by rw[Oz];exact j⟩;obtain⟨z,E⟩:=g k m q _ y (yv.1 e) w;refine⟨by rw[Oz];exact z,yv.2 ?_⟩;rw[T.to_of];exact E
 .simp at h
theorem iu.Ki{t:Tp}:(iu.id (T:=T) t).ok:=⟨λx e k h=>At.zero h,Upd.self,rY (bw _)⟩
theorem Upd.comp{α β m:Type}[Enc α][Enc β][Enc m]{o p:Nat}{g:α->β}{s:α->β->α}{r:β->m->β}(h:Upd o s)(q:∀(k:K)(f:List Value)(x:α),Enc.rep k f x->Enc.rep k ((f.drop o).take (Enc.sz β)) (g x))(E:Upd p r):Upd (α:=α) (β:=m) (o+p) (λx y=>s x (r (g x) y)):=by
 intro k f j x y u w;have q:=q k f x u;obtain⟨h1,z⟩:=E k _ j _ y q w;obtain⟨H,F⟩:=h k f _ x _ u z;have I:=Enc.len w;have l3:=Enc.len z;refine⟨by omega,?_⟩;have e:f.take (o+p)++j++f.drop (o+p+j.length)=f.take o++(((f.drop o).take (Enc.sz β)).take p++j++((f.drop o).take (Enc.sz β)).drop (p+j.length))++f.drop (o+(((f.drop o).take (Enc.sz β)).take p++j++((f.drop o).take (Enc.sz β)).drop (p+j.length)).length):=by
  rw[l3,mj,mb (by omega),rp];simp;rw[om,iz];have G:f.drop (o+Enc.sz β)=(f.drop (o+p+j.length)).drop (Enc.sz β-(p+j.length)):=by rw[iz];congr 1;omega
  rw[G,show o+(p+j.length)=o+p+j.length by omega,gO]
 rw[e];exact F
theorem OW{m u:Type}[Enc m][Enc u]{o:Nat}{g:m->u}(J:∀(k:K)(e:List Value)(x:m),Enc.rep k e x->o+Enc.sz u<=Enc.sz m)(h:∀(x:m)(G:Addr)(k:K),At x G k->At (g x) (G.add o) k)(k:K)(e:List Value)(x:m)(M:Enc.rep k e x):Enc.rep k ((e.drop o).take (Enc.sz u)) (g x):=by
 let q:World:={k.w with heap:=k.w.heap.push (.cells e.toArray 0 (0,0))};have z:∀b,k.sh b->b<q.heap.size:=λb y=>by have:=k.lt b y;simp[q];omega
 let k':K:=⟨q,k.sh,z⟩;have E:Le k k':=⟨λb y=>by simp[k',q,Array.getElem?_push,Nat.ne_of_lt (k.lt b y)],λ _ h=>h⟩;have F:At x ⟨k.w.heap.size,0,none⟩ k':=⟨e,Enc.mono E M,rfl,e.toArray,0,(0,0),by simp[k',q],by simp,λj O=>by simp⟩;obtain⟨P,H,Q⟩:=h _ _ _ F;obtain⟨_,U,t,W,hh,I,O⟩:=Q;have l:=Enc.len H;have ea:(Addr.add ⟨k.w.heap.size,0,none⟩ o).block=k.w.heap.size/\(Addr.add ⟨k.w.heap.size,0,none⟩ o).off=o:=by unfold Addr.add;split<;>simp_all
 have V:P=(e.drop o).take (Enc.sz u):=by refine oC λj=>?_;grind
 rw[<-V];refine Enc.mono (k:=k') (k':=k) ⟨λb y=>?_,λ _ h=>h⟩ H;have:=k.lt b y;simp[k',q,Array.getElem?_push,Nat.ne_of_lt this]
theorem iu.J8{t u w:Tp}{L:iu T t u}{M:iu T u w}(h:L.ok)(g:M.ok):(L.comp M).ok:=by have f:=h.2.2;have j:=g.2.2;refine⟨λx q k e=>?_,Upd.comp h.2.1 (λk m x e=>OW (λ _ _ _ _=>f) h.1 k m x e) g.2.1,by show L.off+M.off+_<=_;omega⟩;have:=g.1 _ _ _ (h.1 _ _ _ e);rw[add_add]at this;exact this
end Go.Gb
namespace Go.Gb
def HS(s:ByteArray)(i:Int):Option (IK .u8):=if 0<=i then(s[i.toNat]?).map λb=>⟨b.toNat⟩else none
def GQ(s t:ByteArray):Option ByteArray:=if((s.size+t.size:Nat):Int)<=IntKind.i64.max then some (s++t)else none
theorem xi(a b:ByteArray):(a==b)=decide (a=b):=by cases a with|mk x=>cases b with|mk y=>
 have h:((⟨x⟩:ByteArray)==⟨y⟩)=(x==y):=rfl;rw[h];by_cases e:x=y;.simp[e]
 .simp[e]
theorem SB{l:List Value}(h:l.length=9):∃a b c d e f g i j,l=[a,b,c,d,e,f,g,i,j]:=by match l,h with|[a,b,c,d,e,f,g,i,j],_=>exact⟨a,b,c,d,e,f,g,i,j,rfl⟩
section
variable{P:Program}{o:Oper}{a:Act}{k:K}{κ:IntKind}{p q:IK κ}{t u:TypeId}{x y:Operand}{s r:ByteArray}{i:Int}{z:IK .u8}
theorem Es{f:Array TypeId}(j:o.op= .call {callee:= .builtin .len,args:=#[x],argTypes:=f})(m:f[0]?=some t) (w:P.underlying t=some .string)(h:IsV s (a.eval x) k):aX P o a k (IsV (s.size:Int)):=by have h:=cY.1 h;refine ak ?_ (au.2 rfl);simp[execOp,j,resolve,invoke,builtin,h,Builtin.len_,m,run_underlying w,goInt]
theorem JI(g:o.op= .index t x y)(j:P.underlying t=some .string)(e:IsV s (a.eval x) k)(f:IsV i (a.eval y) k)(h:HS s i=some z):aX P o a k (IsV z):=by
 have e:=cY.1 e;have f:=au.1 f;unfold HS at h;split at h;.rename_i m;obtain⟨b,w,rfl⟩:=Option.map_eq_some_iff.1 h;refine ak ?_ (dr.2 rfl);simp[execOp,g,f,e];simp[Instr.index,asIntOf,run_underlying j,m,w]
 .cases h
theorem Kl(g:o.op= .binOp .add t x y u)(e:IsV s (a.eval x) k)(f:IsV r (a.eval y) k){z:ByteArray}(h:GQ s r=some z):aX P o a k (IsV z):=by
 have e:=cY.1 e;have f:=cY.1 f;unfold GQ at h;split at h;.rename_i j;obtain rfl:=ae h;refine ak ?_ (cY.2 rfl);simp[execOp,g,e,f];simp[eqGuard,binOp,Op.stringOp];simpa[IntKind.signed]using j
 .cases h
theorem Ke(f:o.op= .binOp .leq t x y u)(h:IsV p (a.eval x) k)(e:IsV q (a.eval y) k):aX P o a k (IsV (decide (p.n<=q.n))):=by have h:=dr.1 h;have e:=dr.1 e;refine ak ?_ (aE.2 rfl);simp[execOp,f,h,e];simp[eqGuard,binOp,Op.intCmp]
theorem PF(f:o.op= .binOp .gtr t x y u)(h:IsV p (a.eval x) k)(e:IsV q (a.eval y) k):aX P o a k (IsV (decide (q.n<p.n))):=by have h:=dr.1 h;have e:=dr.1 e;refine ak ?_ (aE.2 rfl);simp[execOp,f,h,e];simp[eqGuard,binOp,Op.intCmp]
theorem Ko(f:o.op= .binOp .geq t x y u)(h:IsV p (a.eval x) k)(e:IsV q (a.eval y) k):aX P o a k (IsV (decide (q.n<=p.n))):=by have h:=dr.1 h;have e:=dr.1 e;refine ak ?_ (aE.2 rfl);simp[execOp,f,h,e];simp[eqGuard,binOp,Op.intCmp]
end
variable{T:Tb}{R:Type}
def Opk(e:Env T)(a0 a:Act)(k:K):Operand->Prop| .tmp t=>(lk e t).is a0 (a.get t) k/\(aJ (lk e t)=true->a.get t=a0.get t)| .global _=>GOk T k|_=>True
structure Rd1(e:Env T)(o:Oper)(a0 a:Act)(k:K):Prop where
 op:∀x∈o.op.operands.toList,Opk e a0 a k x
 rs:∀s,aJ (lk e s)=true->(lk e s).is a0 (a0.get s) k
 gl:GOk T k
theorem cast?_eq{S:Nat->Type}{a b:Tp}{x:a.den S}{y:b.den S}(h:cast? a b x=some y):∃e:a=b,y=e▸x:=by unfold cast? at h;grind
section
variable{e:Env T}{a0 a:Act}{k:K}{P:Program}{o:Oper}
theorem EX{av:AV T}{v:Value}(h:av.is a0 v k):(nrm av).is a0 v k:=by cases av with|fl t x=>exact h.2;|_=>exact h
theorem FE{av:AV T}{s:Nat}(h:(nrm av).bP s=true):av.bP s=true:=by cases av with|_=>exact h
theorem fa{x:Operand}(h:Opk e a0 a k x):(opv e x).is a0 (a.eval x) k:=by cases x with
 |tmp t=>exact EX h.1;|const v=>
 unfold opv;split;all_goals try trivial
 all_goals rename_i q;try(injection q with q);all_goals try(subst q)
 .exact au.2 rfl
 .exact dr.2 rfl
 .exact aE.2 rfl
 .exact cY.2 rfl
 .exact je (k:=k)|global g=>
 unfold opv;dsimp;split;.rename_i t x e1;exact h.1 g t x e1
 .trivial|func f=>trivial
theorem js{x:Operand}(hi:∀t s,(lk e t).bP s=true->aJ (lk e s)=true):∀s,(opv e x).bP s=true->aJ (lk e s)=true:=by intro s h;cases x with
 |tmp t=>exact hi t s (FE h);|const v=>unfold opv at h;split at h<;>first|(simp[AV.bP]at h;done)|skip;rename_i q;cases q
 |global g=>unfold opv at h;dsimp at h;split at h<;>simp[AV.bP]at h;|func f=>simp[opv,AV.bP]at h
theorem qK{x:Operand}(h:Opk e a0 a k x):(mvv e x).is a0 (a.eval x) k:=by cases x with
 |tmp t=>
 unfold mvv;dsimp;split;.rename_i q;exact h.2 (by rw[q];rfl)
 .rename_i q;exact h.2 (by rw[q];rfl)
 .rename_i q;exact h.2 (by rw[q];rfl)
 .rename_i q;exact h.2 (by rw[q];rfl)
 .exact h.1|_=>exact fa h
theorem su{x:Operand}(hi:∀t s,(lk e t).bP s=true->aJ (lk e s)=true):∀s,(mvv e x).bP s=true->aJ (lk e s)=true:=by intro s h;cases x with
 |tmp t=>
 unfold mvv at h;dsimp at h;split at h;.rename_i q;rw[<-ba h,q];rfl
 .rename_i q;rw[<-ba h,q];rfl
 .rename_i q;rw[<-ba h,q];rfl
 .rename_i q;rw[<-ba h,q];rfl
 .exact hi t s h|const v=>exact js hi s h;|global g=>exact js (x:= .global g) hi s h;|func f=>exact js (x:= .func f) hi s h
theorem BE{x:Operand}:aJ (mvv e x)=false:=by cases x with
 |tmp t=>
 unfold mvv;dsimp;split;.rfl
 .rfl
 .rfl
 .rfl
 .rename_i h1 z E F;generalize J:lk e t=y at*;cases y with|own l el t G=>exact absurd rfl (h1 l el t G);|box l t x=>exact absurd rfl (z l t x);|rs l m x=>exact absurd rfl (E l m x);|tr H I x l=>exact absurd rfl (F H I x l);|_=>rfl
 |const v=>unfold mvv opv;dsimp;split<;>first|rfl|(rename_i q;cases q)
 |global g=>unfold mvv opv;dsimp;split<;>rfl;|func f=>rfl
theorem gJ{t:Tp}{av:AV T}{y:T.D t}{v:Value}(h:asT t av=some y)(f:av.is a v k):IsV y v k:=by
 unfold asT at h;split at h;.obtain⟨rfl,rfl⟩:=cast?_eq h;exact f
 · split at h;.obtain rfl:=ae h;exact ij.isV f
   .simp at h
 · split at h;.obtain⟨rfl,rfl⟩:=cast?_eq h;exact tg.2 f
   .simp at h
 .simp at h
theorem ec{av:AV T}{n:Int}{v:Value}(h:asI av=some n)(f:av.is a v k):IsV n v k:=by
 unfold asI at h;split at h;.obtain rfl:=ae h;exact f
 .simp at h
theorem mW{av:AV T}{n:Bool}{v:Value}(h:asB av=some n)(f:av.is a v k):IsV n v k:=by
 unfold asB at h;split at h;.obtain rfl:=ae h;exact f
 .simp at h
theorem xW{av:AV T}{v:Value}(h:av.is a0 v k)(m:∀s,av.bP s=true->aJ (lk e s)=true)(f:∀s,aJ (lk e s)=true->(lk e s).is a0 (a0.get s) k):(res e av).is a0 v k:=by
 unfold res;split;.rename_i s;rw[h];exact f s (m s (cL s))
 .exact h
theorem D6{av:AV T}{t:Tp}{x:List (T.D t)}{v:Value}(g:asL e av=some ⟨t,x⟩)(h:av.is a0 v k)(m:∀s,av.bP s=true->aJ (lk e s)=true)(j:∀s,aJ (lk e s)=true->(lk e s).is a0 (a0.get s) k):cM x v k:=by
 have f:=xW h m j;unfold asL at g;split at g;.rename_i q;rw[q]at f;simp[aU]at g;obtain⟨rfl,g⟩:=g;obtain rfl:=eq_of_heq g;exact IsV.rd f
 .rename_i q;rw[q]at f;simp[aU]at g;obtain⟨rfl,g⟩:=g;obtain rfl:=eq_of_heq g;exact ah.rd f
 .rename_i q;rw[q]at f;obtain⟨F,f⟩:=f;exact IsV.rd (T.RLok _ _ _ _ _ _ _ f g)
 .simp at g
theorem Gv{m q:Type}[Enc m][Enc q]{s f off:Nat}{x:Operand}{y:m}{z:q}(u:o.op= .fieldAddr s x f)(w:cT P s f off)(E:∀g k,At y g k->At z (g.add off) k)(h:aS y (a.eval x) k):aX P o a k (aS z):=by obtain⟨g,e,F,j⟩:=h;refine ak ?_ ⟨_,rfl,by rw[vQ];exact F,E _ _ j⟩;simp[execOp,u,e];simp[nU w]
def cd(P:Program)(e:Env T)(o:Oper)(av:AV T):Prop:=(∀s,av.bP s=true->aJ (lk e s)=true)/\aJ av=false/\∀a0 a k,Rd1 e o a0 a k->aX P o a k (av.is a0)
theorem nu{t:Tp}{x:T.D t}(h:∀a0 a k,Rd1 e o a0 a k->aX P o a k (IsV x)):cd P e o (mkv t x):=⟨λs h=>by rw[sr]at h;simp at h,vn,λa0 a k g=>cu (h a0 a k g) λv j _ f=>gQ.2 f⟩
theorem bf{t:Tp}{x:T.D t}(h:∀a0 a k,Rd1 e o a0 a k->aX P o a k (IsV x)):cd P e o (.v t x):=⟨λs h=>by simp[AV.bP]at h,rfl,h⟩
theorem Me{wr:Bool}{op:BinOp}{E w:TypeId}{x y:Operand}{n m:Int}{K:AV T->Option R}{r:R}(f:o.op= .binOp op E x y w)(F:opv e x= .v .int n)(G:opv e y= .v .int m)(h:Mr wr op n m K=some r):∃av,K av=some r/\cd P e o av:=by
 have j:∀a0 a k,Rd1 e o a0 a k->IsV n _ k:=λa0 a k g=>by have:=fa (g.op x (by rw[f];simp[Op.operands]));rw[F]at this;exact this
 have q:∀a0 a k,Rd1 e o a0 a k->IsV m _ k:=λa0 a k g=>by have:=fa (g.op y (by rw[f];simp[Op.operands]));rw[G]at this;exact this
 cases op<;>simp[Mr]at h<;>first|(simp at h)|skip
 .cases wr with|false=>obtain⟨z,u,h⟩:=bind_some (h);exact⟨_,h,bf λa0 a k g=>iK f (j _ _ _ g) (q _ _ _ g) u⟩;|true=>obtain⟨z,u,h⟩:=bind_some (h);exact⟨_,h,bf λa0 a k g=>PH f (j _ _ _ g) (q _ _ _ g) u⟩
 .cases wr with|false=>obtain⟨z,u,h⟩:=bind_some (h);exact⟨_,h,bf λa0 a k g=>Ak f (j _ _ _ g) (q _ _ _ g) u⟩;|true=>obtain⟨z,u,h⟩:=bind_some (h);exact⟨_,h,bf λa0 a k g=>QB f (j _ _ _ g) (q _ _ _ g) u⟩
 .obtain⟨z,u,h⟩:=bind_some h;exact⟨_,h,bf λa0 a k g=>R8 f (j _ _ _ g) (q _ _ _ g) u⟩
 .obtain⟨z,u,h⟩:=bind_some h;exact⟨_,h,bf λa0 a k g=>S0 f (j _ _ _ g) (q _ _ _ g) u⟩
 .obtain⟨z,u,h⟩:=bind_some h;exact⟨_,h,bf λa0 a k g=>R5 f (j _ _ _ g) (q _ _ _ g) u⟩
 .exact⟨_,h,bf λa0 a k g=>Tw f (j _ _ _ g) (q _ _ _ g)⟩
 .exact⟨_,h,bf λa0 a k g=>Ve f (j _ _ _ g) (q _ _ _ g)⟩
 .exact⟨_,h,bf λa0 a k g=>QT f (j _ _ _ g) (q _ _ _ g)⟩
 .exact⟨_,h,bf λa0 a k g=>Eb f (j _ _ _ g) (q _ _ _ g)⟩
 .exact⟨_,h,bf λa0 a k g=>EB f (j _ _ _ g) (q _ _ _ g)⟩
 .exact⟨_,h,bf λa0 a k g=>jY f (j _ _ _ g) (q _ _ _ g)⟩
 .exact⟨_,h,bf λa0 a k g=>DW f (j _ _ _ g) (q _ _ _ g)⟩
 .exact⟨_,h,bf λa0 a k g=>sU f (j _ _ _ g) (q _ _ _ g)⟩
 .exact⟨_,h,bf λa0 a k g=>NX f (j _ _ _ g) (q _ _ _ g)⟩
theorem MA{P:Program}{o:Oper}{a:Act}{k:K}{t u:TypeId}{x y:Operand}{b c:ByteArray}(g:o.op= .binOp .geq t x y u)(h:IsV b (a.eval x) k)(f:IsV c (a.eval y) k):aX P o a k (IsV (!(Op.bytesLess b.toList c.toList))):=by have h:=cY.1 h;have f:=cY.1 f;refine ak ?_ (aE.2 rfl);simp[execOp,g,h,f];simp[eqGuard,binOp,Op.stringOp]
theorem P0{wr:Bool}{op:BinOp}{G H:TypeId}{x y:Operand}{E:Bool}{F:Nat->Bool}{K:AV T->Option R}{r:R}(f:o.op= .binOp op G x y H)(M:E=true->P.underlying G=some .bool)(U:∀n,F n=true->letI:=T.deq n;@zQ P G (T.S n) (T.enc n) (T.deq n))(h:Ss wr op E F (opv e x) (opv e y) K=some r):∃av,K av=some r/\cd P e o av:=by
  unfold Ss at h;split at h;.rename_i w z;exact Me f w z h
  · rename_i n m w z;have j:∀a0 a k,Rd1 e o a0 a k->IsV n _ k:=λa0 a k g=>by have:=fa (g.op x (by rw[f];simp[Op.operands]));rw[w]at this;exact this
    have u:∀a0 a k,Rd1 e o a0 a k->IsV m _ k:=λa0 a k g=>by have:=fa (g.op y (by rw[f];simp[Op.operands]));rw[z]at this;exact this
    cases E with|false=>simp at h;|true=>
   simp only[cond_true]at h;split at h;.exact⟨_,h,bf λa0 a k g=>Tg f (M rfl) (j _ _ _ g) (u _ _ _ g)⟩
   .exact⟨_,h,bf λa0 a k g=>Tt f (M rfl) (j _ _ _ g) (u _ _ _ g)⟩
   .simp at h
  · rename_i n m w z;have j:∀a0 a k,Rd1 e o a0 a k->IsV n _ k:=λa0 a k g=>by have:=fa (g.op x (by rw[f];simp[Op.operands]));rw[w]at this;exact this
    have u:∀a0 a k,Rd1 e o a0 a k->IsV m _ k:=λa0 a k g=>by have:=fa (g.op y (by rw[f];simp[Op.operands]));rw[z]at this;exact this
    split at h;.exact⟨_,h,bf λa0 a k g=>Nh f (j _ _ _ g) (u _ _ _ g)⟩
    .exact⟨_,h,bf λa0 a k g=>MV f (j _ _ _ g) (u _ _ _ g)⟩
    .exact⟨_,h,bf λa0 a k g=>MA f (j _ _ _ g) (u _ _ _ g)⟩
    .simp at h
  · rename_i n p m q w z;split at h
    · rename_i I _;obtain rfl:=I.down;have j:∀a0 a k,Rd1 e o a0 a k->@IsV (T.S m) (T.enc m) p (a.eval x) k:=λa0 a k g=>by have:=fa (g.op x (by rw[f];simp[Op.operands]));rw[w]at this;exact this
      have u:∀a0 a k,Rd1 e o a0 a k->@IsV (T.S m) (T.enc m) q (a.eval y) k:=λa0 a k g=>by have:=fa (g.op y (by rw[f];simp[Op.operands]));rw[z]at this;exact this
      cases J:F m with|false=>rw[J]at h;simp at h;|true=>
 rw[J]at h;simp only[cond_true]at h;have Q:=U m J;split at h;.exact⟨_,h,bf λa0 a k g=>@Sl P o a k (T.S m) (T.enc m) (T.deq m) _ _ _ _ _ _ f Q (j _ _ _ g) (u _ _ _ g)⟩
 .exact⟨_,h,bf λa0 a k g=>@TT P o a k (T.S m) (T.enc m) (T.deq m) _ _ _ _ _ _ f Q (j _ _ _ g) (u _ _ _ g)⟩
 .simp at h
    .simp at h
  · rename_i W p V q w z;split at h
    · rename_i I _;obtain rfl:=I.down;have j:∀a0 a k,Rd1 e o a0 a k->IsV p (a.eval x) k:=λa0 a k g=>by have:=fa (g.op x (by rw[f];simp[Op.operands]));rw[w]at this;exact this
      have u:∀a0 a k,Rd1 e o a0 a k->IsV q (a.eval y) k:=λa0 a k g=>by have:=fa (g.op y (by rw[f];simp[Op.operands]));rw[z]at this;exact this
      split at h;.exact⟨_,h,bf λa0 a k g=>Qe f (j _ _ _ g) (u _ _ _ g)⟩
      .exact⟨_,h,bf λa0 a k g=>PX f (j _ _ _ g) (u _ _ _ g)⟩
      .exact⟨_,h,bf λa0 a k g=>Pe f (j _ _ _ g) (u _ _ _ g)⟩
      .exact⟨_,h,bf λa0 a k g=>P9 f (j _ _ _ g) (u _ _ _ g)⟩
      .exact⟨_,h,bf λa0 a k g=>PF f (j _ _ _ g) (u _ _ _ g)⟩
      .simp at h
    .simp at h
  .simp at h
theorem JE{t s:TypeId}(h:P.underlying t=some (.pointer s))(p:Option Addr)(k:K):(Op.equal t (.pointer p) (.pointer none)).run P k.w= .ok p.isNone k.w:=by show(Op.equalIn (9999+1) t _ _).run P k.w=_;rw[Op.equalIn];cases p<;>simp[run_underlying h]
theorem Dr{t u s:TypeId}{x:Operand}{p:Option Addr}{b:Bool}(h:o.op= .binOp .eql t x (.const (.pointer none)) u)(f:P.underlying t=some (.pointer s))(g:a.eval x= .pointer p)(j:p.isNone=b):aX P o a k (IsV b):=by have ev:a.eval (.const _)= .pointer none:=rfl;refine ak ?_ (aE.2 rfl);simp[execOp,h,g,ev];have:=JE f p k;simp[eqGuard,binOp,this,j]
theorem Du{t u s:TypeId}{x:Operand}{p:Option Addr}{b:Bool}(h:o.op= .binOp .neq t x (.const (.pointer none)) u)(f:P.underlying t=some (.pointer s))(g:a.eval x= .pointer p)(j:p.isNone=b):aX P o a k (IsV (!b)):=by have ev:a.eval (.const _)= .pointer none:=rfl;refine ak ?_ (aE.2 rfl);simp[execOp,h,g,ev];have:=JE f p k;simp[eqGuard,binOp,this,j]
theorem QE{op:BinOp}{ty uty:TypeId}{x y:Operand}{b:Bool}(ho:o.op= .binOp op ty x y uty)(hi:∀t s,(lk e t).bP s=true->aJ (lk e s)=true)(h:Tj P ty e op x y=some b):cd P e o (.v .bool b):=by
 unfold Tj at h;split at h
 · rename_i s ps hx hu;split at h
   · rename_i lck m z hl;have hm:aJ (lk e s)=true:=by rw[hl];rfl
     refine bf λa0 a k g=>?_;have h1:a.eval x=a0.get s:=by have:=qK (g.op x (by rw[ho];simp[Op.operands]));rw[hx]at this;exact this
     have h2:=g.rs s hm;rw[hl]at h2;obtain⟨F,h2⟩:=h2;split at h;·rename_i b' hb;obtain rfl:=ae h;obtain⟨p,h3,h4⟩:=T.RNok _ _ _ _ _ _ h2 hb;exact Dr ho hu (h1.trans h3) h4
     ·rename_i b' hb;obtain rfl:=ae h;obtain⟨p,h3,h4⟩:=T.RNok _ _ _ _ _ _ h2 hb;exact Du ho hu (h1.trans h3) h4
     .simp at h
   .simp at h
 · rename_i s m ps hx hu;refine bf λa0 a k g=>?_;have h1:=qK (g.op x (by rw[ho];simp[Op.operands]));rw[hx]at h1;obtain⟨_,_,_,_,q,_,_,_,_,h1⟩:=h1;split at h;·obtain rfl:=ae h;exact Dr ho hu h1 rfl
   ·obtain rfl:=ae h;exact Du ho hu h1 rfl
   .simp at h
 .simp at h
theorem Mo{av:AV T}{m:Int}{v:Value}(h:JC av=some m)(g:av.is a v k):∃f,v= .int f m:=by
 unfold JC at h;split at h;.obtain rfl:=ae h;exact⟨_,au.1 g⟩
 .obtain rfl:=ae h;exact⟨_,dr.1 g⟩
 .simp at h
theorem Lh{op:BinOp}{H w:TypeId}{x y:Operand}{m:Int}{K:AV T->Option R}{r:R}(f:o.op= .binOp op H x y w)(I:JC (opv e y)=some m)(h:Iw op (opv e x) m K=some r):∃av,K av=some r/\cd P e o av:=by
 have u:∀a0 a k,Rd1 e o a0 a k->∃E,a.eval y= .int E m:=λa0 a k g=>Mo I (fa (g.op y (by rw[f];simp[Op.operands])));unfold Iw at h;split at h
 · rename_i n F;have q:∀a0 a k,Rd1 e o a0 a k->IsV n _ k:=λa0 a k g=>by have:=fa (g.op x (by rw[f];simp[Op.operands]));rw[F]at this;exact this
   split at h;.obtain⟨z,G,h⟩:=bind_some h;exact⟨_,h,bf λa0 a k g=>Sg f (q _ _ _ g) (u _ _ _ g) G⟩
   .obtain⟨z,G,h⟩:=bind_some h;exact⟨_,h,bf λa0 a k g=>Sh f (q _ _ _ g) (u _ _ _ g) G⟩
   .simp at h
 · rename_i J p F;have q:∀a0 a k,Rd1 e o a0 a k->IsV p _ k:=λa0 a k g=>by have:=fa (g.op x (by rw[f];simp[Op.operands]));rw[F]at this;exact this
   cases j:(decide (0<=m)&&Nat.ble m.toNat J.bits)with|false=>rw[j]at h;simp at h;|true=>
  rw[j]at h;simp only[aD,decide_eq_true_eq]at j;have h1:=oD j.2;split at h;.exact⟨_,h,bf λa0 a k g=>OT f (q _ _ _ g) (u _ _ _ g) j.1 h1⟩
  .exact⟨_,h,bf λa0 a k g=>Nt f (q _ _ _ g) (u _ _ _ g) j.1 h1⟩
  .simp at h
 .simp at h
end
end Go.Gb
namespace Go.Gb
variable{T:Tb}{R:Type}
section
variable{e:Env T}{a0 a:Act}{k:K}{P:Program}{o:Oper}
theorem Ar{s f off b m:Nat}{x:Operand}(g:o.op= .fieldAddr s x f)(j:cT P s f off)(h:a.eval x= .pointer (some ⟨b,m,none⟩)):aX P o a k (λv _=>v= .pointer (some ⟨b,m+off,none⟩)):=by
 refine ak ?_ rfl;simp[execOp,g,h];have e:(Addr.add ⟨b,m,none⟩ off)=⟨b,m+off,none⟩:=by unfold Addr.add;split<;>simp_all
 simp[nU j,e]
theorem L7{s f:Nat}{x:Operand}{K:AV T->Option R}{r:R}(Q:o.op= .fieldAddr s x f)(hi:∀t s,(lk e t).bP s=true->aJ (lk e s)=true)(h:HK P s f (mvv e x) (lk e) K=some r):∃av,K av=some r/\cd P e o av:=by have U:∀a0 a k,Rd1 e o a0 a k->(mvv e x).is a0 (a.eval x) k:=λa0 a k g=>qK (g.op x (by rw[Q];simp[Op.operands]));have im:=su (x:=x) hi;generalize mvv e x=y at h U im;unfold HK at h;cases E:uo P s f with|none=>rw[E]at h;simp at h;|some off=>rw[E]at h;have V:=DP E;dsimp at h;cases j:Ij f off y (lk e)with|none=>rw[j]at h;simp at h;|some av=>
 rw[j]at h;refine⟨av,h,?_⟩;have ext:∀{u:Tp}{g:(w:Tp)->iu T u w->AV T},Lv f off u g=some av->∃w,∃L:iu T u w,L.ok/\L.off=off/\av=g w L:=by
  intro u g m;unfold Lv at m;split at m
  · split at m;·rename_i w L hl;cases hb:Nat.beq L.off off with|false=>rw[hb]at m;simp at m;|true=>rw[hb]at m;exact⟨w,L,AZ hl,ba hb,(ae m).symm⟩
    .simp at m
  .simp at m
 unfold Ij at j;split at j;.rename_i t z;obtain⟨w,L,G,q,rfl⟩:=ext j;exact⟨λs H=>by simp[AV.bP]at H,rfl,λa0 a k g=>Gv Q (by rw[<-q]at V;exact V) (λad k' hx=>G.1 _ _ _ hx) (U _ _ _ g)⟩
 · rename_i I;split at j;.rename_i lck t z heq;obtain⟨w,L,G,q,rfl⟩:=ext j;have F:aJ (lk e I)=true:=im I (cL I);refine⟨λs H=>by rw[<-ba H];exact F,rfl,λa0 a k g=>?_⟩;have h1:a.eval x=a0.get I:=U _ _ _ g;have J:=g.rs I F;rw[heq]at J;obtain⟨b,O,h4⟩:=J;refine cu (Ar Q V (h1.trans O)) λv k' m W=>⟨G,b,O,by rw[W,q,bw],h4.grow m⟩
   .simp at j
 .rename_i I t z u M;obtain⟨w,L,G,q,rfl⟩:=ext j;refine⟨λs H=>im s H,rfl,λa0 a k g=>?_⟩;obtain⟨h0,b,h1,J,O⟩:=U _ _ _ g;exact cu (Ar Q V J) λv k' m W=>⟨iu.J8 h0 G,b,h1,by rw[W,<-q];rfl,O.grow m⟩
 .rename_i I el t xs i z u M;obtain⟨w,L,G,q,rfl⟩:=ext j;refine⟨λs H=>im s H,rfl,λa0 a k g=>?_⟩;obtain⟨h0,h1,J,O⟩:=U _ _ _ g;refine cu (D8 Q V h1) λv k' m W=>⟨iu.J8 h0 G,?_,aZ.mono m J,O⟩;rw[show i*(T.e t).sz+(M.comp L).off=i*(T.e t).sz+M.off+off by show _+(M.off+L.off)=_;omega];exact W
 .simp at j
theorem S6{s:Nat}{t u:Tp}{x:T.D t}{L:iu T t u}{v:Value}(h:(AV.ab s t x u L).is a v k):eE (L.get x) v k:=by obtain⟨f,b,_,g,j⟩:=h;exact⟨_,g,by have:=f.1 _ _ _ j.at;simp[Addr.add]at this;split at this<;>simp_all⟩
theorem R9{s i:Nat}{el:TypeId}{t u:Tp}{F:List (T.D t)}{x:T.D t}{L:iu T t u}{v:Value}(h:(AV.ao s el t F i x u L).is a v k):eE (L.get x) v k:=by
 obtain⟨G,h1,z,E⟩:=h;obtain⟨b,f,n,c,H,I⟩:=h1;rw[H]at z;rcases z with⟨g,_⟩|⟨_,g,rfl⟩|⟨b',off,J,M,O,g,_,Q,U,j,V,W,hsz,m,hr⟩;.simp at g
 .simp at E
 · simp[Value.slice.injEq]at g;obtain⟨⟨rfl,rfl,_⟩,rfl,rfl⟩:=g;have q:fk k.w ⟨b,f,none⟩ O:=by rw[<-m];refine gW U ?_;have:=ep (T.e t).sz j;omega
   have y:=q.elem hr E;have:=G.1 _ _ _ y;rw[add_add]at this;refine⟨_,I,?_⟩;have e:(Addr.add ⟨b,f,none⟩ (i*(T.e t).sz+L.off))=⟨b,f+(i*(T.e t).sz+L.off),none⟩:=by unfold Addr.add;split<;>simp_all
   rw[<-e];exact this
theorem NG{m:TypeId}{x:Operand}{av:AV T}(F:o.op= .load m x)(hi:∀t s,(lk e t).bP s=true->aJ (lk e s)=true)(h:NJ P T m (mvv e x) (lk e)=some av):cd P e o av:=by
 have j:∀a0 a k,Rd1 e o a0 a k->(mvv e x).is a0 (a.eval x) k:=λa0 a k g=>qK (g.op x (by rw[F];simp[Op.operands]));have G:=su (x:=x) hi;generalize mvv e x=y at h j G;unfold NJ at h;have f:∀{u:Tp}{z:T.D u},(bif tyB P T m u then some (mkv u z)else none)=some av->(∀a0 a k,Rd1 e o a0 a k->eE z (a.eval x) k)->cd P e o av:=by intro u z h J;cases w:tyB P T m u with|false=>rw[w]at h;simp at h;|true=>rw[w]at h;obtain rfl:=ae h;exact nu λa0 a k g=>aR F (wQ w) (J _ _ _ g)
 split at h;.exact f h λa0 a k g=>(j _ _ _ g).ptr
 · rename_i q;split at h;.rename_i M t z E;refine f h λa0 a k g=>?_;have h1:a.eval x=a0.get q:=j _ _ _ g;have H:=g.rs q (G q (cL q));rw[E]at H;obtain⟨b,O,Q⟩:=H;exact⟨_,h1.trans O,Q.at⟩
   .simp at h
 .exact f h λa0 a k g=>S6 (j _ _ _ g)
 .exact f h λa0 a k g=>R9 (j _ _ _ g)
 .simp at h
theorem SA{a b:Value}(h:vEq a b=true):a=b:=by
 unfold vEq at h;split at h;.simp[aD]at h;rw[h.1,h.2]
 .simp[beq_iff_eq]at h;rw[h]
 .simp_all
 .rfl
 .simp at h
theorem Ej:∀{l m:List Value},MP l m=true->l=m|[],[],_=>rfl|a::l,b::m,h=>by simp[MP]at h;rw[SA h.1,Ej h.2]
theorem N1:∀(f:Nat)(t:Tp)(g:List Value),zc T f t=some g->∀k,Enc.rep k g (T.zJ t)
 |0,_,_,h,_=>by simp[zc]at h;|_+1, .int,_,h,_=>(ae h).symm|_+1, .bool,_,h,_=>(ae h).symm|_+1, .str,_,h,_=>(ae h).symm|_+1, .ik F,_,h,_=>(ae h).symm|_+1, .list t,_,h,_=>⟨_,(ae h).symm, .inl ⟨rfl,rfl⟩⟩|_+1, .op,_,h,_=>⟨_,(ae h).symm,rfl⟩|f+1, .st n,g,h,k=>by
  refine yv.2 ?_;show Enc.rep k g (T.to n (T.zero n));rw[T.zero_eq];have j:∀(l:List Tp)g,Jy (l.map (zc T f))=some g->Enc.rep k g (N4 T.zero l):=by intro l;induction l with|nil=>intro g h;exact(ae h).symm;|cons b l w=>
   intro g h;simp[Jy]at h;split at h;.rename_i x y z E;obtain rfl:=ae h;have h1:=N1 f b x z k;have q:=w y E;have u:=Enc.len h1;cases l with|nil=>have:y=[]:=q;subst this;rw[mn];exact h1;|cons c l=>
    refine⟨?_,?_,?_⟩;.rw[bA,u,Enc.len q]
    .rw[il u];exact h1
    .rw[qW u];exact q
   .simp at h
  exact j _ _ h
theorem xd{y:TypeId}{t:Tp}(h:oP P T y t=true):∃i z g,P.info? y=some i/\i.zero=some z/\z.cells=g/\(∀w,(zeroValue y).run P w= .ok z w)/\(∀k,Enc.rep k g.toList (T.zJ t))/\∀k,IsV (T.zJ t) z k:=by
 unfold oP at h;split at h
 · rename_i i hi;split at h
   · rename_i z g j m;have f:=N1 9 t g m;have u:∀w,(zeroValue y).run P w= .ok z w:=λw=>by simp[zeroValue,typeInfo,hi,j]
     split at h;.rename_i c;simp[aD]at h;obtain⟨h1,q⟩:=h;obtain rfl:=Ej q;exact⟨i,_,_,hi,j,rfl,u,f,λk=>⟨c.toList,by rw[h1];simp[mkV],f k⟩⟩
     · rename_i x;simp[aD]at h;obtain⟨h1,q⟩:=h;obtain rfl:=Ej q;have E:z.cells=#[z]:=by cases z<;>first|rfl|exact absurd rfl (x _)
       exact⟨i,z,#[z],hi,j,E,u,f,λk=>⟨[z],by rw[h1];rfl,f k⟩⟩
   .simp at h
 .simp at h
end
end Go.Gb
namespace Go.Gb
variable{T:Tb}{R:Type}
theorem G7{P:Program}{w:World}{e j:Type}{f:e->Sem j}{g:e->j}:∀(l:List e),(∀x∈l,(f x).run P w= .ok (g x) w)->(l.mapM f).run P w= .ok (l.map g) w|[],_=>by simp;|x::l,h=>by have h1:=h x (by simp);have m:=G7 l λy q=>h y (by simp[q]);simp[h1,m]
theorem DI{P:Program}{w:World}{e j:Type}{f:e->Sem j}{g:e->j}(A:Array e)(h:∀x∈A.toList,(f x).run P w= .ok (g x) w):(A.mapM f).run P w= .ok (A.map g) w:=by rw[Array.mapM_eq_mapM_toList];have:=G7 A.toList h;simp[this];apply Array.ext';simp
def HIs:(l:List Tp)->HL T.S l->List Value->K->Prop|[],_,[],_=>True|[_],x,[u],k=>IsV x u k|_::b::l,x,u::e,k=>IsV x.1 u k/\HIs (b::l) x.2 e k|_,_,_,_=>False
structure LI(P:Program)(f:FuncId)(d:FnE T):Prop where
 call:∀args w,(callFunc f args).run P w= .ok (.enter f args) w
 ok:∀(k0:K)(vs:List Value)(x:HL T.S d.dom)(r:HL T.S d.cod),GOk T k0->HIs d.dom x vs k0->d.run x=some r->Calls P f vs.toArray k0.w (Ret k0 λu k=>(mH d.cod r).is ⟨#[],[]⟩ u k)
def PIs:(l:List Pm)->HL T.S (eY l)->(u e:Value)->List Value->K->Prop|[],_,_,_,[],_=>True| .v t::l,x,u,e,v::f,k=>IsV (α:=T.D t) (hdH x) v k/\PIs l (tlH x) u e f k| .tu::l,x,u,e,v::f,k=>v=u/\PIs l x u e f k| .tk::l,x,u,e,v::f,k=>v=e/\PIs l x u e f k| .fn g::l,x,u,e,v::f,k=>v= .func (.func g) #[] #[]/\PIs l x u e f k|_,_,_,_,_,_=>False
structure Rn(d:FnR T)(F:FP)(u1:Value)(r:d.tu.D T×d.ro.D T×HL T.S d.cod)(k0:K)(u:Value)(k:K):Prop where
 tu:d.tu.is r.1 u1 k
 res:(uJ d.ro d.cod r.2.1 r.2.2).is ⟨#[],[]⟩ u k
 ap:bj (d.tu.fp T u1 k) ((uJ d.ro d.cod r.2.1 r.2.2).fp u k)w1:∀b,d.tu.fp T u1 k b->F b∨k0.w.heap.size<=b
 w2:∀b,(uJ d.ro d.cod r.2.1 r.2.2).fp u k b->F b∨k0.w.heap.size<=b
structure xE(P:Program)(f:FuncId)(d:FnR T):Prop where
 call:∀args w,(callFunc f args).run P w= .ok (.enter f args) w
 ok:∀(k0:K)(vs:List Value)(u1 u2:Value)(x:HL T.S (eY d.pm))(y:d.tu.D T)(z:d.tk.D T)(q:d.ρ),GOk T k0->PIs d.pm x u1 u2 vs k0->d.tu.is y u1 k0->d.tk.is z u2 k0->bj (d.tu.fp T u1 k0) (d.tk.fp T u2 k0)->d.run x y z=some q->Calls P f vs.toArray k0.w (cr (λb=>d.tu.fp T u1 k0 b∨d.tk.fp T u2 k0 b) k0 (Rn d (λb=>d.tu.fp T u1 k0 b∨d.tk.fp T u2 k0 b) u1 (d.inj q) k0))
structure NB (P:Program)(f:FuncId)(d:FnQ T):Prop where
 call:∀args w,(callFunc f args).run P w= .ok (.enter f args) w
 ok:∀(k0:K)(u:Value)(vs:List Value)(z:T.RD d.m)(F:FP)(x:HL T.S d.dom)(r:HL T.S d.cod),GOk T k0->T.RP d.m z F u k0->HIs d.dom x vs k0->d.run z x=some r->Calls P f (bif d.amb then vs else u::vs).toArray k0.w (Ret k0 λv k=>bif d.sq then SPV T d.m u v k else(mH d.cod r).is ⟨#[],[]⟩ v k)
structure rX(C:Cx T):Prop where
 deps:∀f d,dep C.deps f=some d->LI C.P f d
 rdeps:∀f d,Cj C.rdeps f=some d->xE C.P f d
 eqs:∀t n,C.eqs.contains (t,n)=true->@zQ C.P t (T.S n) (T.enc n) (T.deq n)mix:C.P.follows .mixedOrders=true
 pe:C.P=T.P
 qdeps:∀f d,KV C.qdeps f=some d->NB C.P f d
section
variable{e:Env T}{a0 a:Act}{k:K}{P:Program}{o:Oper}
theorem xc(j:Operand->AV T):∀{l:List Tp}{f:List Operand}{z:HL T.S l},args l (f.map j)=some z->(∀x∈f,(j x).is a0 (a.eval x) k)->HIs l z (f.map a.eval) k
 |[],[],_,_,_=>trivial|[b],[x],z,h,g=>gJ h (g x (by simp))|b::c::l,x::f,z,h,g=>by
  simp[args]at h;split at h;.rename_i y E u m;obtain rfl:=ae h;exact⟨gJ u (g x (by simp)),xc j m λw q=>g w (by simp[q])⟩
  .simp at h
theorem HIs.le{k g:K}(f:Le k g):∀{l:List Tp}{x:HL T.S l}{j:List Value},HIs l x j k->HIs l x j g|[],_,[],_=>trivial|[t],x,[_],h=>aW.pers f h|t::_::_,x,_::_,h=>⟨aW.pers f h.1,HIs.le f h.2⟩
theorem Oa{f:FuncId}{x:Array Value}{w:World}{k:K}{R S:Pred}(h:Calls P f x w (Ret k R))(hi:∀v m,R v m->S v m):Calls P f x w (Ret k S):=by refine Calls.mono h λe E q=>?_;cases e with|returned v=>obtain⟨m,h1,y,z⟩:=q;exact⟨m,h1,y,hi _ _ z⟩;|panicked c=>exact q.elim;|outgrown=>exact q.elim
theorem Iq:∀{m cod:List Tp}{run:HL T.S m->Option (HL T.S cod)}{f:List (AV T)}{av:AV T},KG m cod run f=some av->(∀s,av.bP s=false)/\aJ av=false:=by
 intro m cod run f av h;unfold KG at h;split at h
 · split at h
   · split at h;.obtain rfl:=ae h;exact⟨λ _=>rfl,rfl⟩
     .simp at h
   · split at h;.obtain rfl:=ae h;exact⟨λ _=>rfl,rfl⟩
     · split at h;.obtain rfl:=ae h;exact⟨λ _=>rfl,rfl⟩
       .simp at h
     .simp at h
   · split at h;.obtain rfl:=ae h;exact⟨λ _=>rfl,rfl⟩
     · split at h;.obtain rfl:=ae h;exact⟨λ _=>rfl,rfl⟩
       .simp at h
     .simp at h
   .simp at h
 .simp at h
theorem JK{f:FuncId}{d:FnE T}(hP:P=T.P)(j:LI P f d){J:List (AV T)}{us:List Value}{av:AV T}(h:KG d.dom d.cod d.run J=some av)(V:us.length=J.length)(M:∀(l:List Tp)(z:HL T.S l),args l J=some z->HIs l z us k)(H:GOk T k):(∀s,av.bP s=false)/\aJ av=false/\av.is a0 (.func (.func f) #[] us.toArray) k:=by
 subst hP;obtain⟨dom,cod,run⟩:=d;dsimp only at h;have one:∀(b:Tp)(r:T.D b)(O:Array Value)(g:K),Calls T.P f O g.w (Ret g λu k=>(mH [b] r).is ⟨#[],[]⟩ u k)->Calls T.P f O g.w _:=λb r O g h=>Oa h λv k h=>gQ.1 h;unfold KG at h;split at h
 · rename_i b run;split at h
   · split at h;·rename_i z I;obtain rfl:=ae h;refine⟨λ _=>rfl,rfl,JA.2 ⟨f,#[],us.toArray,rfl,j.call,λg hk y m=>?_⟩⟩;have:=one b y _ g (j.ok g us z y (H.le hk) ((M _ _ I).le hk) m);simpa using this
     .simp at h
   · rename_i Q;split at h
     · rename_i a run;obtain rfl:=ae h;refine⟨λ _=>rfl,rfl,Ag.2 ⟨f,#[],us.toArray,rfl,j.call,λg hk x q y E m=>?_⟩⟩;have U:us=[]:=by
        have:us.length=0:=by rw[V];simp at Q;omega
        exact pR.1 this
       subst U;have:=one b y _ g (j.ok g [q] x y (H.le hk) E m);simpa using this
     · rename_i a c l run;split at h;·rename_i z I;obtain rfl:=ae h;refine⟨λ _=>rfl,rfl,Ag.2 ⟨f,#[],us.toArray,rfl,j.call,λg hk x q y E m=>?_⟩⟩;have:=one b y _ g (j.ok g (q::us) (x,z) y (H.le hk) ⟨E,(M _ _ I).le hk⟩ m);simpa using this
       .simp at h
     .simp at h
   · rename_i Q;split at h
     · rename_i a a' run;obtain rfl:=ae h;refine⟨λ _=>rfl,rfl,Ac.2 ⟨f,#[],us.toArray,rfl,j.call,λg hk x q W F y E G m=>?_⟩⟩;have U:us=[]:=by
        have:us.length=0:=by rw[V];simp at Q;omega
        exact pR.1 this
       subst U;have:=one b y _ g (j.ok g [q,F] (x,W) y (H.le hk) ⟨E,G⟩ m);simpa using this
     · rename_i a a' c l run;split at h;·rename_i z I;obtain rfl:=ae h;refine⟨λ _=>rfl,rfl,Ac.2 ⟨f,#[],us.toArray,rfl,j.call,λg hk x q W F y E G m=>?_⟩⟩;have:=one b y _ g (j.ok g (q::F::us) _ y (H.le hk) ⟨E,G,(M _ _ I).le hk⟩ m);simpa using this
       .simp at h
     .simp at h
   .simp at h
 .simp at h
theorem Qi:∀{l:List Tp}{f:List Operand}{z:HL T.S l},args l (f.map (opv e))=some z->(∀x∈f,(opv e x).is a0 (a.eval x) k)->HIs l z (f.map a.eval) k:=xc (opv e)
theorem qZ{l:List Tp}{x:HL T.S l}{s:Nat}:(mH l x).bP s=false:=by match l,x with|[],_=>rfl;|[_],_=>exact sr;|_::_::_,_=>rfl
theorem uv{l:List Tp}{x:HL T.S l}:aJ (mH l x)=false:=by match l,x with|[],_=>rfl;|[_],_=>exact vn;|_::_::_,_=>rfl
theorem Jd{av:AV T}(h:∀s,av.bP s=false){a g:Act}{v:Value}{k:K}(j:av.is a v k):av.is g v k:=av.congr (λs f=>by rw[h]at f;simp at f) j
theorem CR{t:Tp}:∀{m:List (Nat×Operand)}{i:Nat}{q:List (T.D t)},sQ t e i m=some q->(∀x∈m.map (·.2),(opv e x).is a0 (a.eval x) k)->zA a k i m q|[],_,_,h,_=>by obtain rfl:=ae h;trivial;|(j,x)::l,i,q,h,g=>by simp[sQ]at h;cases u:Nat.beq i j with|false=>rw[u]at h;simp at h;|true=>
 rw[u]at h;split at h;.rename_i y F z w;obtain rfl:=ae h;exact⟨(ba u).symm,gJ z (g x (by simp)),CR w λE f=>g E (by simp at f⊢;exact .inr f)⟩
 .simp at h
theorem HD{y j off sz:Nat}(h:Gn P y j=some (off,sz)):∃f d i,P.underlying y=some (.struct f)/\f[j]?=some d/\P.info? d.type=some i/\d.offset=off/\i.size=sz:=by unfold Gn at h;grind
theorem Dd{ty n:Nat}{places:Nat->Option (Nat×Nat)}(q:∀j off sz,Gn P ty j=some (off,sz)->places j=some (off,sz)):∀{J:List (Nat×Operand)}{x z:T.S n}{f:List Value},AM P ty n e J x=some z->(∀y∈J.map (·.2),(opv e y).is a0 (a.eval y) k)->@Enc.rep (T.D (.st n)) (T.e (.st n)) k f x->∃m,Instr.fill places f.toArray (J.map λp=>(p.1,a.eval p.2))=some m.toArray/\@Enc.rep (T.D (.st n)) (T.e (.st n)) k m z
  |[],x,z,f,h,_,H=>by obtain rfl:=ae h;exact⟨f,rfl,H⟩;|(j,y)::l,x,z,f,h,g,H=>by
    simp[AM]at h;split at h
    · rename_i u L off sz W hp;split at h;.rename_i w hw;cases E:(Nat.beq off L.off&&Nat.beq sz _)with|false=>rw[E]at h;simp at h;|true=>
 rw[E]at h;rw[aD]at E;have h1:=ba E.1;have h2:=ba E.2;have M:=AZ W;obtain⟨I,hcy,O,Q⟩:=eK (gJ hw (g y (by simp)));obtain⟨hle,F⟩:=M.2.1 k f I x w H O;have V:=Enc.len H;obtain⟨m,hf,hr'⟩:=Dd q h (λy' G=>g y' (by simp at G⊢;exact .inr G)) F;simp[cf,Instr.fill,q _ _ _ hp];have hsz:I.toArray.size=sz:=by rw[h2];simpa[szT]using Q
 have U:=q8 I I off 0 (f.take off) (f.drop off) (by rw[dY];omega) rfl (by rw[fg];omega);simp_all
      .simp at h
    .simp at h
theorem run_build{G n:Nat}{M:List (Nat×Operand)}{z:T.S n}(hz:oP P T G (.st n)=true)(h:yz P G=true)(hb:AM P G n e M (T.zero n)=some z)(g:∀y∈M.map (·.2),(opv e y).is a0 (a.eval y) k):∃v,(∀w,(Instr.build G (M.map λp=>(p.1,a.eval p.2)).toArray).run P w= .ok v w)/\@IsV (T.D (.st n)) (T.e (.st n)) z v k:=by
  obtain⟨i,zv,cs,hi,hiz,hc,u,q,_⟩:=xd hz;unfold yz at h;split at h
  · rename_i x hu;rw[bG]at h;let H:Field->Nat×Nat:=λf=>(f.offset,((P.info? f.type).map (·.size)).getD 0);have O:∀w,(x.mapM λf=>Prod.mk f.offset<$>sizeOf f.type).run P w= .ok (x.map H) w:=λw=>DI x λf I=>by have:=h f I;cases m:P.info? f.type with|none=>rw[m]at this;simp at this;|some i'=>simp[run_sizeOf (show(P.info? f.type).map _=some i'.size by rw[m];rfl),H,m]
    obtain⟨E,I,Q⟩:=Dd (places:=λj=>(x.map H)[j]?) (λj off sz hp=>by
 obtain⟨U,d,i',F,hd,V,h1,h2⟩:=HD hp;rw[hu]at F;obtain rfl:x=U:=by simpa using F
 simp[hd,H,V,h1,h2]) hb g (q k);refine⟨.agg E.toArray,λw=>?_,⟨E,by rw[IH];rfl,Q⟩⟩;have W:zv.cells=cs.toList.toArray:=by rw[hc]
    simp[Instr.build,u,run_underlying hu,O,W];simp at I;rw[I];simp
  .simp at h
theorem uf{ty:Nat}{places:Nat->Option (Nat×Nat)}{ov:Operand->AV T}(F:∀j p,plc P ty j=some p->places j=some p):∀{l:List Tp}{i off:Nat}{U:List (Nat×Operand)}{y:HL T.S l}{pre suf:List Value},re P ty ov l i off U=some y->(∀x∈U.map (·.2),(ov x).is a0 (a.eval x) k)->pre.length=off->suf.length=(T.h l).sz->∃V:List Value,Instr.fill places (pre++suf).toArray (U.map λp=>(p.1,a.eval p.2))=some (pre++V).toArray/\Enc.rep k V y
  |[],i,off,[],y,pre,suf,_,_,_,E=>by obtain rfl:=pR.1 E;exact⟨[],rfl,rfl⟩|[b],i,off,[(j,x)],y,pre,suf,h,g,O,E=>by
    have E:suf.length=(T.e b).sz:=E;simp only[re]at h;split at h;·rename_i o s G;cases q:(Nat.beq j i&&(Nat.beq o off&&Nat.beq s _))with|false=>rw[q]at h;simp at h;|true=>rw[q]at h;simp only[cond_true]at h;simp only[aD]at q;obtain rfl:=ba q.1;obtain rfl:=ba q.2.1;have H:=ba q.2.2;obtain⟨u,I,J,M⟩:=eK (gJ h (g x (by simp)));have m:u.length=(T.e b).sz:=M;have w:s=(T.e b).sz:=H;have f:=q8 u u o 0 pre suf (by rw[O];omega) rfl (by omega);refine⟨u,?_,J⟩;simp only[cf,ir,Instr.fill,F _ _ G];rw[I,if_neg (by simp[m,w,O,E])];rw[show suf.drop u.length=[]from vu (by omega)]at f;simp at f⊢;exact f
    .simp at h|b::c::l,i,off,(j,x)::U,y,pre,suf,h,g,O,E=>by
    have E:suf.length=(T.e b).sz+(T.h (c::l)).sz:=E;simp only[re]at h;split at h;·rename_i o s G;cases q:(Nat.beq j i&&(Nat.beq o off&&Nat.beq s _))with|false=>rw[q]at h;simp at h;|true=>
 rw[q]at h;simp only[cond_true]at h;simp only[aD]at q;obtain rfl:=ba q.1;obtain rfl:=ba q.2.1;have H:=ba q.2.2;split at h
 · rename_i z r hz hr;obtain rfl:=ae h;obtain⟨u,I,J,M⟩:=eK (gJ hz (g x (by simp)));have m:u.length=(T.e b).sz:=M;have w:s=(T.e b).sz:=H;have f:=q8 u u o 0 pre suf (by rw[O];omega) rfl (by omega);obtain⟨V,h1,h2⟩:=uf (pre:=pre++u) (suf:=suf.drop u.length) F hr (λx' Q=>g x' (by simp at Q⊢;exact .inr Q)) (by rw[bA,O,m];rfl) (by rw[fg];omega);refine⟨u++V,?_,?_⟩;·simp only[cf,Instr.fill,F _ _ G];rw[I,if_neg (by simp[m,w,O,E]<;>omega)];simp at f h1⊢;rw[f];exact h1
   ·have W:=Enc.len h2;exact⟨by rw[bA,m,W],by show Enc.rep k _ z;rw[<-m,vk];exact J,by show Enc.rep k _ r;rw[<-m,List.drop_left];exact h2⟩
 .simp at h
    .simp at h
theorem IS{ty n:Nat}{ps:List (Nat×Operand)}{ov:Operand->AV T}{y:HL T.S (T.fs n)}(O:JF P T ty n=true)(q:JT P ty=true)(hb:re P ty ov (T.fs n) 0 0 ps=some y)(g:∀x∈ps.map (·.2),(ov x).is a0 (a.eval x) k):∃v,(∀w,(Instr.build ty (ps.map λp=>(p.1,a.eval p.2)).toArray).run P w= .ok v w)/\@IsV (T.D (.st n)) (T.e (.st n)) (T.of n y) v k:=by
  unfold JF at O;split at O
  · rename_i i hi;split at O
    · rename_i z hiz;have hsz:=ba O;have H:∀w,(zeroValue ty).run P w= .ok (.agg z) w:=λw=>by simp[zeroValue,typeInfo,hi,hiz]
      have I:z.toList.length=(T.h (T.fs n)).sz:=by have:z.size=(T.e (.st n)).sz:=hsz;rw[Oz]at this;simpa using this
      have Q:∀{J:List Value},Enc.rep k J y->@IsV _ _ _ (.agg J.toArray) k:=λ{J}hr=>⟨J,by rw[IH];rfl,yv.2 (by rw[T.to_of];exact hr)⟩;unfold JT at q;split at q
      · rename_i U M;unfold yz at q;rw[M]at q;dsimp only at q;rw[bG]at q;let pl:Field->Nat×Nat:=λf=>(f.offset,((P.info? f.type).map (·.size)).getD 0);have hpl:∀w,(U.mapM λf=>Prod.mk f.offset<$>sizeOf f.type).run P w= .ok (U.map pl) w:=λw=>DI U λf hf=>by have:=q f hf;cases u:P.info? f.type with|none=>rw[u]at this;simp at this;|some V=>simp[run_sizeOf (show(P.info? f.type).map _=some V.size by rw[u];rfl),pl,u]
        obtain⟨J,h1,W⟩:=uf (P:=P) (ty:=ty) (a0:=a0) (a:=a) (k:=k) (places:=λj=>(U.map pl)[j]?) (pre:=[]) (suf:=z.toList) (λj p G=>by
 unfold plc at G;rw[M]at G;obtain⟨off,sz⟩:=p;obtain⟨fs',d,V,hu',hd,hi',h1,W⟩:=HD G;rw[M]at hu';obtain rfl:U=fs':=by simpa using hu'
 simp[hd,pl,hi',h1,W]) hb g rfl I;refine⟨.agg J.toArray,λw=>?_,Q W⟩;simp[Instr.build,H,run_underlying M,hpl,Value.cells];simp at h1;rw[h1];simp
      ·rename_i m el M;cases u:P.info? el with|none=>rw[u]at q;simp at q;|some V=>have hs:∀w,(sizeOf el).run P w= .ok V.size w:=λw=>run_sizeOf (P:=P) (show(P.info? el).map _=some V.size by rw[u];rfl);obtain⟨J,h1,W⟩:=uf (P:=P) (ty:=ty) (a0:=a0) (a:=a) (k:=k) (places:=λj=>some _) (pre:=[]) (suf:=z.toList) (λj p G=>by unfold plc at G;rw[M]at G;dsimp only at G;rw[u]at G;exact G) hb g rfl I;refine⟨.agg J.toArray,λw=>?_,Q W⟩;simp[Instr.build,H,run_underlying M,hs,Value.cells];simp at h1;rw[h1];simp
      .simp at q
    .simp at O
  .simp at O
theorem OE{E m el n:Nat}{x y:Operand}{z:T.S n}{t:Tp}{g:List (T.D t)}{i:Int}{r:T.D t}(G:o.op= .indexAddr E x y)(H:P.underlying E=some (.array m el))(I:Ty P el (T.D t))(W:g.length=m)(j:wS (T.fs n) (T.to n z)=some ⟨t,g⟩)(J:@aS (T.D (.st n)) (T.e (.st n)) z (a.eval x) k)(q:IsV i (a.eval y) k)(h:aL g i=some r):aX P o a k (@aS (T.D t) (T.e t) r):=by
 obtain⟨M,e1,O,Q,f,U⟩:=J;have u:At _ M k:=⟨Q,yv.1 f,U⟩;have q:=au.1 q;obtain⟨h0,h1,F,h3⟩:=nn h;have V:g[i.toNat]=r:=by rw[bZ F]at h1;exact ae h1
 refine ak ?_ ⟨_,rfl,by rw[vQ];exact O,V▸LW j u _ F⟩;simp[execOp,G,q,e1];have w:(P.info? el).map _=some (T.e t).sz:=I.2;simp[Instr.indexAt,asIntOf,run_underlying H,run_sizeOf w,Instr.sureAddr];omega
end
end Go.Gb
namespace Go.Gb
variable {T:Tb}{R:Type}
section
variable {e:Env T}{o:Oper}{C:Cx T}
theorem Nc{f:IntKind}{n:Int}{t u:TypeId}{x:Operand}{P:Program}(m:∀a0 a k,Rd1 e o a0 a k->aX P o a k (IsV (IK.mk (f.wrap n):IK f))):cd P e o (wrI (T:=T) f n):=by
 have y:∀a0 a k,Rd1 e o a0 a k->aX P o a k ((wrI (T:=T) f n).is a0):=by intro a0 a k g;refine cu (m a0 a k g) λv q _ j=>?_;have j:=dr.1 j;cases f<;>first|exact dr.2 j|exact au.2 j
 refine⟨λs h=>?_,?_,y⟩;.cases f<;>simp[wrI,AV.bP]at h
 .cases f<;>rfl
theorem EK{a:Act}{k:K}{P:Program}{x:Operand}{i:Nat}{g:Value}{f:List Value}{l:List (Σ t,T.D t)}{t:Tp}{y:T.D t}(h:o.op= .extract x (i+1))(e1:a.eval x= .tuple (g::f).toArray)(j:Fa2 l f k)(m:l[i]?=some ⟨t,y⟩):aX P o a k (IsV y):=by obtain⟨u,q,w⟩:=j.get m;refine ak (v:=u) ?_ w;simp only[execOp,h,e1];simp[Instr.extract,q]
theorem zZ(m:rX C){a0 a:Act}{k:K}{x:Operand}(h:(opv e x).is a0 (a.eval x) k)(G:GOk T k):(Cs C e x).is a0 (a.eval x) k:=by cases x with
 |func f=>
 unfold Cs;dsimp only;split
 · rename_i d q;split;·rename_i av j;exact(JK (us:=[]) m.pe (m.deps f d q) j rfl (λl z g=>by match l,z,g with|[],_,_=>trivial;|[_],_,g=>simp[args]at g;|_::_::_,_,g=>simp[args]at g) G).2.2
   .trivial
 .trivial|_=>exact h
theorem SN{f:Type}{A:Array f}{x:f}(h:A.toList=[x]):A=#[x]:=by cases A;simp at h;rw[h]
theorem Ir{f:Type}{A:Array f}{x y:f}(h:A.toList=[x,y]):A=#[x,y]:=by cases A;simp at h;rw[h]
theorem Vn{f:Type}{A:Array f}{x y z:f}(h:A.toList=[x,y,z]):A=#[x,y,z]:=by cases A;simp at h;rw[h]
theorem DA{z n:Nat}{j:Array (Nat×Operand)}{t:Tp}{el:TypeId}{x:List (T.D t)}(h:EN C e z n j=some ⟨t,(el,x)⟩):C.P.underlying z=some (.slice el)/\dJ C.P el (T.D t)/\n=x.length/\n*(T.e t).sz<=16777216/\∀a0 a k,(∀y∈j.toList.map (·.2),(opv e y).is a0 (a.eval y) k)->zA a k 0 j.toList x:=by
 unfold EN at h;split at h
 · rename_i m q;split at h
   · rename_i E H;split at h;·rename_i u w;cases f:(Nat.beq u.length n&&elB C.P T m E&&Nat.ble (n*szT T E) 16777216)with|false=>rw[f]at h;simp at h;|true=>rw[f]at h;simp only[cond_true,aU,Sigma.mk.injEq]at h;obtain⟨rfl,h⟩:=h;have h:=eq_of_heq h;simp only[Prod.mk.injEq]at h;obtain⟨rfl,rfl⟩:=h;simp only[aD]at f;obtain⟨⟨h1,F⟩,G⟩:=f;exact⟨jE q,wO F,(ba h1).symm,oD G,λa0 a k g=>CR (a0:=a0) w g⟩
     .simp at h
   .simp at h
 .simp at h
theorem Kn{m:Nat}{av:AV T}{v:Value}{z:T.RD m}{a0:Act}{k:K}(h:Ku e m av=some z)(hv:av.is a0 v k)(hr:∀s,aJ (lk e s)=true->(lk e s).is a0 (a0.get s) k):∃F,T.RP m z F v k:=by cases av with
 |sp s n=>
 unfold Ku at h;dsimp only at h;split at h
 · rename_i lck m' z' hl;split at h
   · rename_i hm _;obtain rfl:=hm.down;obtain⟨F,hF⟩:∃F,T.RP m' z' F (a0.get s) k:=by have:=hr s (by rw[hl];rfl);rw[hl]at this;exact this
     split at h;·rename_i f hf;obtain rfl:=ae h;obtain⟨t,g,b,x,q,h1,h2,h3,h4,h5⟩:=hv;rw[h2]at hF;rw[h5];exact T.SDok _ _ _ _ _ _ _ _ _ _ _ hF h1 h3 h4 hf
     .simp at h
   .simp at h
 .simp at h;|al s=>
 obtain rfl:v=a0.get s:=hv;unfold Ku at h;dsimp only at h;split at h
 · rename_i lck m' z' hl;split at h;·rename_i hm _;obtain rfl:=hm.down;obtain rfl:=ae h;have:=hr s (by rw[hl];rfl);rw[hl]at this;exact this
   .simp at h
 .simp at h|_=>simp[Ku]at h
theorem K0{d:FnQ T}{xs:List Operand}{r:HL T.S d.cod}(hi:∀t s,(lk e t).bP s=true->aJ (lk e s)=true)(s:Nat)(h:(Ix e d xs r).bP s=true):aJ (lk e s)=true:=by unfold Ix at h;cases hq:d.sq with|false=>rw[hq]at h;simp only[cond_false]at h;rw[qZ]at h;simp at h;|true=>
 rw[hq]at h;simp only[cond_true]at h;split at h
 · rename_i x _;split at h;·rename_i s' hx;exact su hi s (x:=x) (by rw[hx];exact h)
   .simp[AV.bP]at h
 .simp[AV.bP]at h
theorem Fl{d:FnQ T}{xs:List Operand}{r:HL T.S d.cod}:aJ (Ix e d xs r)=false:=by unfold Ix;cases d.sq with|false=>exact uv;|true=>
 simp only[cond_true];split;.split<;>rfl
 .rfl
theorem PL{d:FnQ T}{as_ xs:List Operand}{r:HL T.S d.cod}{a0 a:Act}{k k':K}{u v:Value}(g:Rd1 e o a0 a k)(ho:∀x∈as_,x∈o.op.operands.toList)(hu:as_.map a.eval=(bif d.amb then xs.map a.eval else u::xs.map a.eval))(h:bif d.sq then SPV T d.m u v k' else(mH d.cod r).is ⟨#[],[]⟩ v k'):(Ix e d as_ r).is a0 v k':=by unfold Ix;cases hq:d.sq with|false=>rw[hq]at h;exact Jd (λs=>qZ) h;|true=>
 rw[hq]at h;simp only[cond_true]at h⊢;split
 · rename_i x _;split
   · rename_i s hx;have h1:=qK (g.op x (ho x (by simp)));rw[hx]at h1;have ha:d.amb=false:=by unfold FnQ.sq at hq;simp only[aD,cN]at hq;exact hq.2
     rw[ha]at hu;simp only[cond_false,cf,pn]at hu;have h1:a.eval x=a0.get s:=h1;show SPV T d.m (a0.get s) v k';rw[<-h1,hu.1];exact h
   .trivial
 .trivial
theorem MI{amb:Bool}{m:Nat}{as_ xs:List Operand}{z:T.RD m}{a0 a:Act}{k:K}(hi:∀t s,(lk e t).bP s=true->aJ (lk e s)=true)(g:Rd1 e o a0 a k)(ho:∀x∈as_,x∈o.op.operands.toList)(h:MD e amb m as_=some (z,xs)):∃(u:Value)(F:FP),T.RP m z F u k/\as_.map a.eval=(bif amb then xs.map a.eval else u::xs.map a.eval)/\∀x∈xs,x∈as_:=by unfold MD at h;cases amb with
 |true=>
 simp only[cond_true]at h;split at h
 · rename_i s hs;split at h;·rename_i z' hz;simp only[aU,Prod.mk.injEq]at h;obtain⟨rfl,rfl⟩:=h;obtain⟨F,hF⟩:=Kn (v:=a0.get s) hz rfl g.rs;exact⟨_,F,hF,rfl,λx hx=>hx⟩
   .simp at h
 .simp at h;|false=>
 simp only[cond_false]at h;split at h
 · rename_i x xs';split at h;·rename_i z' hz;simp only[aU,Prod.mk.injEq]at h;obtain⟨rfl,rfl⟩:=h;have hx:=g.op x (ho x (by simp));have hm:=qK hx;obtain⟨F,hF⟩:=Kn hz hm g.rs;exact⟨_,F,hF,rfl,λx hx=>by simp[hx]⟩
   .simp at h
 .simp at h
theorem G9(hC:rX C)(hi:∀t s,(lk e t).bP s=true->aJ (lk e s)=true){K:AV T->Option R}{r:R}(h:rk C e o K=some r):∃av,K av=some r/\cd C.P e o av:=by
 have ix:∀x,x∈o.op.operands.toList->∀a0 a k,Rd1 e o a0 a k->(opv e x).is a0 (a.eval x) k:=λx hx a0 a k g=>fa (g.op x hx);unfold rk at h;cases ho:o.op<;>rw[ho]at h ix<;>first|exact nomatch (show(none:Option R)=some r from h)|skip
 case move x=>exact⟨_,h,su hi,BE,λa0 a k g=>du ho (qK (g.op x (by rw[ho];simp[Op.operands])))⟩
 case pick c x y =>
   try dsimp only at h
   split at h
   rotate_left
   .simp at h
   rename_i m hm
   have hc := λ a0 a k g => mW hm (ix c (by simp [Op.operands]) a0 a k g)
   cases m with
   | true =>
     simp only [if_true] at h
     split at h
     · rename_i b hb
       exact ⟨_, h, bf λ a0 a k g => rU ho (hc _ _ _ g) (λ _ => mW hb (ix x (by simp [Op.operands]) _ _ _ g)) (λ e => by simp at e)⟩
     .simp at h
   | false =>
     simp only [mB, if_false] at h
     split at h
     · rename_i b hb
       exact ⟨_, h, bf λ a0 a k g => rU ho (hc _ _ _ g) (λ e => by simp at e) (λ _ => mW hb (ix y (by simp [Op.operands]) _ _ _ g))⟩
     .simp at h
 case assign x=>exact⟨_,h,su hi,BE,λa0 a k g=>aQ ho (qK (g.op x (by rw[ho];simp[Op.operands])))⟩
 case binOp op ty x y uty =>
   try dsimp only at h
   cases hsh : UF op with
   | true =>
     rw [hsh] at h; simp only [cond_true] at h
     split at h
     .rename_i m hm; exact Lh ho hm h
     .simp at h
   | false =>
     rw [hsh] at h; simp only [cond_false] at h
     split at h
     · rename_i b hb
       exact ⟨_, h, QE ho hi hb⟩
     refine P0 ho (λ hb => ?_) (λ n hn => hC.eqs _ _ hn) h
     split at hb
     .assumption
     .simp at hb
 case unOp op ty x =>
   cases op
   case neg =>
     dsimp only at h
     split at h
     · rename_i n hn
       obtain ⟨z, hz, h⟩ := bind_some h
       exact ⟨_, h, bf λ a0 a k g => OD ho (ec hn (ix x (by simp [Op.operands]) _ _ _ g)) hz⟩
     .simp at h
   case not =>
     dsimp only at h
     split at h
     · rename_i b hb
       exact ⟨_, h, bf λ a0 a k g => pW ho (mW hb (ix x (by simp [Op.operands]) _ _ _ g))⟩
     .simp at h
   all_goals exact nomatch (show (none : Option R) = some r from h)
 case convert s d x =>
   try dsimp only at h
   split at h
   · rename_i ds κ n hs hd hx
     refine ⟨_, h, Nc (t := s) (u := d) (x := x) λ a0 a k g => Ii ho (by rw [hs]; rfl) hd ?_⟩
     have := ix x (by simp [Op.operands]) _ _ _ g; rw [hx] at this; exact this
   · rename_i ds κ κ' n hs hd hx
     refine ⟨_, h, Nc (t := s) (u := d) (x := x) λ a0 a k g => IJ ho (by rw [hs]; rfl) hd ?_⟩
     have := ix x (by simp [Op.operands]) _ _ _ g; rw [hx] at this; exact this
   .simp at h
 case load ty x =>
   try dsimp only at h
   split at h
   .rename_i av hav; exact ⟨_, h, NG ho hi hav⟩
   .simp at h
 case fieldAddr s x f=>exact L7 ho hi h
 case indexAddr ty x y =>
  try dsimp only at h
  split at h
  .rename_i i el hI hel;have hu:=jE hel;split at h
   .rename_i s;have hres:∀a0 a k,Rd1 e o a0 a k->(res e (nrm (lk e s))).is a0 (a.get s) k:=λa0 a k g=>xW (EX (g.op (.tmp s) (by rw[ho];simp[Op.operands])).1) (λs' h'=>hi s s' (FE h')) g.rs;split at h;·rename_i t xs heq;cases hb:tyB C.P T el t with|false=>rw[hb]at h;simp at h;|true=>rw[hb]at h;simp only[cond_true]at h;obtain⟨z,hz,h⟩:=bind_some h;refine⟨_,h,λs' hs'=>by simp[AV.bP]at hs',rfl,λa0 a k g=>zh ho hu (wQ hb) ?_ (ec hI (ix y (by simp[Op.operands]) _ _ _ g)) hz⟩;have:=hres _ _ _ g;rw[heq]at this;exact this
    · rename_i lck e' t xs heq
      cases hb : (tyB C.P T el t && Nat.beq el e') with
      | false => rw [hb] at h; simp at h
      | true =>
        rw [hb] at h; simp only [cond_true] at h
        rw [aD] at hb
        obtain ⟨hb, he⟩ := hb
        obtain rfl := ba he
        obtain ⟨z, hz, h⟩ := bind_some h
        have hsl : aJ (lk e (A4 e s)) = true /\ ∀ a0 a k, Rd1 e o a0 a k -> a.get s = a0.get (A4 e s) := by
          unfold A4
          cases hl : lk e s with
          | al s' => exact ⟨hi s s' (by rw [hl]; exact cL s'), λ a0 a k g => by have := (g.op (.tmp s) (by rw [ho]; simp [Op.operands])).1; rw [hl] at this; exact this⟩
          | own _ _ _ _ => exact ⟨by dsimp only; rw [hl]; rfl, λ a0 a k g => (g.op (.tmp s) (by rw [ho]; simp [Op.operands])).2 (by rw [hl]; rfl)⟩
          | _ => rw [hl] at heq; simp [nrm, res] at heq
        generalize A4 e s = s0 at h hsl
        refine ⟨_, h, λ s' hs' => by rw [<- ba hs']; exact hsl.1, rfl, λ a0 a k g => ?_⟩
        have h1 : ah 0 el xs (a.get s) k := by have := hres _ _ _ g; rw [heq] at this; exact this
        have h2 := hsl.2 _ _ _ g
        rw [h2] at h1
        refine cu (DM (u := a0.get s0) (B := 0) ho hu (wQ hb) ⟨h2, by rw [show a.eval (.tmp s) = a0.get s0 from h2]; exact h1⟩ (ec hI (ix y (by simp [Op.operands]) _ _ _ g)) hz) λ v k' hg hv => ⟨iu.Ki, hv, aZ.mono (R := ah 0 el xs) hg h1, (nn hz).2.1⟩
    · rename_i lck m z' heq;split at h;·rename_i t xs hRL;cases hb:tyB C.P T el t with|false=>rw[hb]at h;simp at h;|true=>rw[hb]at h;simp only[cond_true]at h;obtain⟨z,hz,h⟩:=bind_some h;refine⟨_,h,λs' hs'=>by simp[AV.bP]at hs',rfl,λa0 a k g=>zh ho hu (wQ hb) ?_ (ec hI (ix y (by simp[Op.operands]) _ _ _ g)) hz⟩;have:=hres _ _ _ g;rw[heq]at this;obtain⟨F,this⟩:=this;exact T.RLok _ _ _ _ _ _ _ this hRL
      .simp at h
    .simp at h
   .simp at h
  · rename_i i hI hel;split at h
    · rename_i m el n z hu hx;split at h;·rename_i t xs hxs;cases hb:(Nat.beq m xs.length&&tyB C.P T el t)with|false=>rw[hb]at h;simp at h;|true=>rw[hb]at h;simp only[cond_true]at h;rw[aD]at hb;obtain⟨r1,hr,h⟩:=bind_some h;have hlen:=ba hb.1;refine⟨_,h,λs' hs'=>by simp[AV.bP]at hs',rfl,λa0 a k g=>?_⟩;have h1:=ix x (by simp[Op.operands]) _ _ _ g;rw[hx]at h1;exact OE ho hu (wQ (T:=T) (u:=t) hb.2) hlen.symm hxs h1 (ec hI (ix y (by simp[Op.operands]) _ _ _ g)) hr
      .simp at h
    .simp at h
  .simp at h
 case lookup ty x y c =>
   try dsimp only at h
   split at h
   · rename_i lck m r' hx
     split at h
     · rename_i q hq
       cases hb : Nat.beq ty q.ty with
       | false => rw [hb] at h; simp at h
       | true =>
         rw [hb] at h; simp only [cond_true] at h
         obtain rfl := ba hb
         split at h
         · rename_i n hn
           refine ⟨_, h, nu λ a0 a k g => ?_⟩
           have h1 := xW (ix x (by simp [Op.operands]) _ _ _ g) (js hi) g.rs
           rw [hx] at h1
           obtain ⟨F, h1⟩ := h1
           rw [hC.pe]; exact q.get_ok ho h1 (gJ hn (ix y (by simp [Op.operands]) _ _ _ g))
         .simp at h
     .simp at h
   .simp at h
 case index ty x y =>
   try dsimp only at h
   split at h
   · rename_i n z i m el hx hi2 hu
     split at h
     · rename_i t xs hxs
       cases hb : (Nat.beq m xs.length && tyB C.P T el t) with
       | false => rw [hb] at h; simp at h
       | true =>
         rw [hb] at h; simp only [cond_true] at h
         rw [aD] at hb
         obtain ⟨r1, hr, h⟩ := bind_some h
         have hlen := ba hb.1
         refine ⟨_, h, nu λ a0 a k g => ?_⟩
         have h1 := ix x (by simp [Op.operands]) _ _ _ g; rw [hx] at h1
         exact E6 ho hu (wQ (T := T) (u := t) hb.2) hlen (IH (T := T) (n := n)) (λ k cs hr => IV hxs (yv.1 hr)) h1 (ec hi2 (ix y (by simp [Op.operands]) _ _ _ g)) hr
     .simp at h
   .simp at h
 case extract x i =>
  try dsimp only at h
  split at h
  · rename_i l hx;split at h;·rename_i t y hl;refine⟨_,h,nu λa0 a k g=>?_⟩;have:=ix x (by simp[Op.operands]) _ _ _ g;rw[hx]at this;obtain⟨vs,e1,hf⟩:=this;obtain⟨u,hu,hv⟩:=hf.get hl;refine ak (v:=u) ?_ hv;simp only[execOp,ho,e1];simp[Instr.extract,hu]
    .simp at h
  · rename_i l hx;split at h;.simp at h
    · rename_i i;split at h;·rename_i t y hl;refine⟨_,h,nu λa0 a k g=>?_⟩;have:=ix x (by simp[Op.operands]) _ _ _ g;rw[hx]at this;obtain⟨u0,vs,e1,hf⟩:=this;exact EK ho e1 hf hl
      .simp at h
  · rename_i lf κ w l hx;split at h;.simp at h
    · rename_i i;split at h;·rename_i t y hl;refine⟨_,h,nu λa0 a k g=>?_⟩;have:=ix x (by simp[Op.operands]) _ _ _ g;rw[hx]at this;obtain⟨u0,vs,e1,_,hf⟩:=this;exact EK ho e1 hf hl
      .simp at h
  · rename_i s hx;split at h
    · rename_i lf κ w l hs;split at h;.simp at h
      · rename_i i;split at h;·rename_i t y hl;refine⟨_,h,nu λa0 a k g=>?_⟩;have h1:=ix x (by simp[Op.operands]) _ _ _ g;rw[hx]at h1;have h2:=g.rs s (by rw[hs];rfl);rw[hs]at h2;obtain⟨u0,vs,e1,_,hf⟩:=h2;exact EK ho ((show a.eval x=a0.get s from h1).trans e1) hf hl
        .simp at h
    .simp at h
  .simp at h
 case box ty x =>
   try dsimp only at h
   split at h
   · rename_i t y hx
     cases hb : tyB C.P T ty t with
     | false => rw [hb] at h; simp at h
     | true =>
       rw [hb] at h; simp only [cond_true] at h
       refine ⟨_, h, λ s hs => by simp [AV.bP] at hs, rfl, λ a0 a k g => o7 ho ?_⟩
       have := ix x (by simp [Op.operands]) _ _ _ g; rw [hx] at this; exact this
   · rename_i t y hx
     cases hb : tyB C.P T ty (.rf t) with
     | false => rw [hb] at h; simp at h
     | true =>
       rw [hb] at h; simp only [cond_true] at h
       refine ⟨_, h, λ s hs => by simp [AV.bP] at hs, rfl, λ a0 a k g => o7 (α := T.D (.rf t)) ho ?_⟩
       have := ix x (by simp [Op.operands]) _ _ _ g; rw [hx] at this; exact tg.2 this
   .simp at h
 case nilCheck x =>
   try dsimp only at h
   have ixm : ∀ a0 a k, Rd1 e o a0 a k -> (mvv e x).is a0 (a.eval x) k := λ a0 a k g => qK (g.op x (by rw [ho]; simp [Op.operands]))
   split at h
   · rename_i t y hx
     refine ⟨_, h, λ s hs => by simp [AV.bP] at hs, rfl, λ a0 a k g => Ei ho ?_⟩
     have := ixm _ _ _ g; rw [hx] at this; exact this
   · rename_i s hx
     split at h
     · rename_i lck t y hs
       have hres : aJ (lk e s) = true := by rw [hs]; rfl
       refine ⟨_, h, λ s' hs' => by rw [<- ba hs']; exact hres, rfl, λ a0 a k g => ?_⟩
       have h1 := ixm _ _ _ g; rw [hx] at h1
       have h2 := g.rs s hres
       rw [hs] at h2
       obtain ⟨b, e1, _⟩ := h2
       refine aO ho ⟨_, (show a.eval x = a0.get s from h1).trans e1⟩ ?_
       exact h1
     .simp at h
   .simp at h
 case makeFunc fn first vX =>
   cases fn with
   | func f =>
     try dsimp only at h
     split at h
     · rename_i y hfi
       split at h
       · rename_i s hca hy
         have hms := su (x := y) hi
         rw [hy] at hms
         obtain rfl := SN hfi
         obtain rfl : vX = #[] := by cases vX; simp at hca; rw [hca]
         refine ⟨_, h, hms, rfl, λ a0 a k g => ?_⟩
         refine fq (fn := .func f) (first := [y]) (captured := []) ho ?_
         have h1 := qK (g.op y (by rw [ho]; simp [Op.operands]))
         rw [hy] at h1
         show Value.func (.func f) [a.eval y].toArray [].toArray = _
         rw [show a.eval y = a0.get s from h1]
       .simp at h
     · rename_i hfi
       split at h
       · rename_i d hd
         split at h
         · rename_i av hav
           obtain ⟨h1, h2⟩ := Iq hav
           refine ⟨_, h, λ s hs => by rw [h1] at hs; simp at hs, h2, λ a0 a k g => ?_⟩
           refine fq (fn := .func f) (first := []) (captured := vX.toList) (by rw [ho]; simp [<- hfi]) ?_
           exact (JK (us := vX.toList.map a.eval) hC.pe (hC.deps f d hd) hav (by simp) (λ l z hz => Qi hz λ x hx => ix x (by simp [Op.operands]; exact .inr (by simpa using hx)) _ _ _ g) g.gl).2.2
         .simp at h
       .simp at h
     .simp at h
   | _ => exact nomatch (show (none : Option R) = some r from h)
 case slice ty x lo hi' mx =>
  try dsimp only at h
  split at h;.simp at h
  .rename_i el hel;have hu:=jE hel;have ixx:=ix x (by simp[Op.operands]);split at h
   · split at h;·rename_i t xs hlo hl;cases hb:tyB C.P T el t with|false=>rw[hb]at h;simp at h;|true=>
   rw[hb]at h;simp only[cond_true]at h;refine⟨_,h,λs hs=>by simp[AV.bP]at hs,rfl,λa0 a k g=>IF (α:=T.D t) (xs:=xs) ho ?_ hu (qP hb) (D6 hl (ixx _ _ _ g) (js hi) g.rs)⟩;split at hlo;.exact .inl rfl
   .exact .inr rfl
   .simp at hlo
     .simp at h
   · split at h;·rename_i t xs hx;cases hb:tyB C.P T el t with|false=>rw[hb]at h;simp at h;|true=>
   rw[hb]at h;simp only[cond_true]at h;have ix':∀a0 a k,Rd1 e o a0 a k->IsV xs (a.eval x) k:=λa0 a k g=>by have:=ixx _ _ _ g;rw[hx]at this;exact this
   split at h
   · rename_i l h';split at h;·rename_i nl nh hl hh;obtain⟨z,hz,h⟩:=bind_some h;exact⟨_,h,bf λa0 a k g=>ok_slice ho hu (qP hb) (ix' _ _ _ g) (ec hl (ix l (by simp[Op.operands]) _ _ _ g)) (ec hh (ix h' (by simp[Op.operands]) _ _ _ g)) hz⟩
     .simp at h
   · rename_i l;split at h;·rename_i nl hl;obtain⟨z,hz,h⟩:=bind_some h;exact⟨_,h,bf λa0 a k g=>Ho ho hu (qP hb) (ix' _ _ _ g) (ec hl (ix l (by simp[Op.operands]) _ _ _ g)) hz⟩
     .simp at h
   · rename_i h';split at h;·rename_i nh hh;obtain⟨z,hz,h⟩:=bind_some h;exact⟨_,h,bf λa0 a k g=>Gc ho hu (qP hb) (ix' _ _ _ g) (ec hh (ix h' (by simp[Op.operands]) _ _ _ g)) hz⟩
     .simp at h
   .simp at h
     .simp at h
   .simp at h
 case build ty ps =>
   try dsimp only at h
   split at h
   · rename_i n hn
     cases hb : (oP C.P T ty (.st n) && yz C.P ty) with
     | false =>
       rw [hb] at h; simp only [cond_false] at h
       cases hb2 : (JF C.P T ty n && JT C.P ty) with
       | false => rw [hb2] at h; simp at h
       | true =>
         rw [hb2] at h; simp only [cond_true] at h
         rw [aD] at hb2
         split at h
         · rename_i z hz
           refine ⟨_, h, bf λ a0 a k g => fF (ps := ps.toList) (by rw [ho]) (IS hb2.1 hb2.2 hz (a0 := a0) λ y hy => zZ hC (ix y ?_ _ _ _ g) g.gl)⟩
           simpa [Op.operands] using hy
         .simp at h
     | true =>
       rw [hb] at h; simp only [cond_true] at h
       rw [aD] at hb
       split at h
       · rename_i z hz
         refine ⟨_, h, bf λ a0 a k g => fF (ps := ps.toList) (by rw [ho]) (run_build hb.1 hb.2 hz (a0 := a0) λ y hy => ix y ?_ _ _ _ g)⟩
         simpa [Op.operands] using hy
       .simp at h
   .simp at h
 case buildSlice ty n ps =>
   try dsimp only at h
   split at h
   · split at h
     · rename_i el hps hel
       split at h
       · rename_i t ht
         cases hb : elB C.P T el t with
         | false => rw [hb] at h; simp at h
         | true =>
           rw [hb] at h; simp only [cond_true] at h
           have : ps = #[] := by cases ps; simp at hps; rw [hps]
           subst this
           exact ⟨_, h, λ s hs => by simp [AV.bP] at hs, rfl, λ a0 a k g => mz (α := T.D t) ho (jE hel) (wO hb)⟩
       .simp at h
     .simp at h
   · rename_i hn0
     split at h
     · rename_i t el xs hb
       obtain ⟨h1, h2, h3, h4, h5⟩ := DA hb
       refine ⟨_, h, λ s hs => by simp [AV.bP] at hs, rfl, λ a0 a k g => B7 (ps := ps.toList) (by rw [ho]) h1 h2 h3 (uZ λ e => hn0 e) h4 (h5 a0 a k λ y hy => ix y ?_ _ _ _ g)⟩
       simpa [Op.operands] using hy
     .simp at h
 case call c =>
  try dsimp only at h
  obtain⟨cal,as_,ts⟩:=c;have ixa:∀x,x∈as_.toList->∀a0 a k,Rd1 e o a0 a k->(opv e x).is a0 (a.eval x) k:=λx hx=>ix x (by simp[Op.operands,Call.operands];exact .inr (by simpa using hx));dsimp only at h;split at h
  .split at h
   · rename_i x ty hx hty;obtain rfl:=SN hx;split at h
     · rename_i el hel;have hres:∀a0 a k,Rd1 e o a0 a k->(res e (opv e x)).is a0 (a.eval x) k:=λa0 a k g=>xW (ixa x (by simp) _ _ _ g) (js hi) g.rs;split at h;·rename_i t xs heq;exact⟨_,h,bf λa0 a k g=>gM ho hty (jE hel) (IsV.rd (by have:=hres _ _ _ g;rw[heq]at this;exact this))⟩
       ·rename_i l el' t xs heq;exact⟨_,h,bf λa0 a k g=>gM ho hty (jE hel) (ah.rd (by have:=hres _ _ _ g;rw[heq]at this;exact this))⟩
       ·rename_i heq;refine⟨_,h,bf λa0 a k g=>?_⟩;have h1:=hres _ _ _ g;rw[heq]at h1;exact gM (α:=Int) (xs:=[]) ho hty (jE hel) (IsV.rd (ij.isV h1))
       · rename_i lck m z' heq;split at h;·rename_i t xs hRL;refine⟨_,h,bf λa0 a k g=>gM ho hty (jE hel) (IsV.rd (α:=T.D t) (xs:=xs) ?_)⟩;have:=hres _ _ _ g;rw[heq]at this;obtain⟨F,this⟩:=this;exact T.RLok _ _ _ _ _ _ _ this hRL
         .simp at h
       .simp at h
     .simp at h
   .simp at h
  .split at h
   · rename_i x y hx;obtain rfl:=Ir hx;split at h;·rename_i n m hn hm;exact⟨_,h,bf λa0 a k g=>Qn ho (ec hn (ixa x (by simp) _ _ _ g)) (ec hm (ixa y (by simp) _ _ _ g))⟩
     .simp at h
   · rename_i x y z hx;obtain rfl:=Vn hx;split at h;·rename_i n m p hn hm hp;exact⟨_,h,bf λa0 a k g=>QX ho (ec hn (ixa x (by simp) _ _ _ g)) (ec hm (ixa y (by simp) _ _ _ g)) (ec hp (ixa z (by simp) _ _ _ g))⟩
     .simp at h
   · rename_i x y z u w hx;obtain rfl:=Xe hx;split at h;·rename_i n m p q t hn hm hp hq ht;exact⟨_,h,bf λa0 a k g=>O9 ho (ec hn (ixa x (by simp) _ _ _ g)) (ec hm (ixa y (by simp) _ _ _ g)) (ec hp (ixa z (by simp) _ _ _ g)) (ec hq (ixa u (by simp) _ _ _ g)) (ec ht (ixa w (by simp) _ _ _ g))⟩
     .simp at h
   .simp at h
  .split at h
   · rename_i x y hx;obtain rfl:=Ir hx;split at h;·rename_i n m hn hm;exact⟨_,h,bf λa0 a k g=>Pd ho (ec hn (ixa x (by simp) _ _ _ g)) (ec hm (ixa y (by simp) _ _ _ g))⟩
     .simp at h
   · rename_i x y z hx;obtain rfl:=Vn hx;split at h;·rename_i n m p hn hm hp;exact⟨_,h,bf λa0 a k g=>P5 ho (ec hn (ixa x (by simp) _ _ _ g)) (ec hm (ixa y (by simp) _ _ _ g)) (ec hp (ixa z (by simp) _ _ _ g))⟩
     .simp at h
   · rename_i x y z u hx;obtain rfl:=Xu hx;split at h;·rename_i n m p q hn hm hp hq;exact⟨_,h,bf λa0 a k g=>PG ho (ec hn (ixa x (by simp) _ _ _ g)) (ec hm (ixa y (by simp) _ _ _ g)) (ec hp (ixa z (by simp) _ _ _ g)) (ec hq (ixa u (by simp) _ _ _ g))⟩
     .simp at h
   .simp at h
  .
    split at h
    · rename_i x y ty ty' hx hty
      obtain rfl := Ir hx
      obtain rfl := Ir hty
      split at h
      · rename_i el hel
        split at h
        .
          rename_i t xs hF
          have hfull : ∀ a0 a k, Rd1 e o a0 a k -> tH xs (a.eval x) k := by
            intro a0 a k g
            unfold asF at hF
            split at hF
            · rename_i s
              split at hF
              · rename_i t' xs' hl
                cases hF
                have := (g.op (.tmp s) (by rw [ho]; simp [Op.operands, Call.operands])).1
                rw [hl] at this; exact this
              .simp at hF
            .simp at hF
          split at h
          · rename_i u ys hl
            split at h
            · rename_i ys' hcast
              cases hb : (Nat.beq ty ty' && elB C.P T el t) with
              | false => rw [hb] at h; simp at h
              | true =>
                rw [hb] at h; simp only [cond_true] at h
                rw [aD] at hb
                obtain rfl := ba hb.1
                obtain ⟨z, hz, h⟩ := bind_some h
                obtain ⟨e1, e2⟩ := cast?_eq hcast
                cases e1
                subst e2
                exact ⟨_, h, bf λ a0 a k g => Ip ho (jE hel) (wO hb.2) (hfull _ _ _ g) (D6 hl (ixa y (by simp) _ _ _ g) (js hi) g.rs) hz⟩
            .simp at h
          .simp at h
        split at h
        · rename_i t ys hres hl
          cases hb : (Nat.beq ty ty' && elB C.P T el t) with
          | false => rw [hb] at h; simp at h
          | true =>
            rw [hb] at h; simp only [cond_true] at h
            rw [aD] at hb
            obtain rfl := ba hb.1
            obtain ⟨z, hz, h⟩ := bind_some h
            refine ⟨_, h, bf λ a0 a k g => Fa ho (jE hel) (wO hb.2) ?_ (D6 hl (ixa y (by simp) _ _ _ g) (js hi) g.rs) hz⟩
            have := xW (ixa x (by simp) _ _ _ g) (js hi) g.rs
            rw [hres] at this; exact this
        .simp at h
      .simp at h
    .simp at h
  .rename_i f;split at h
   · rename_i d hd;split at h;·rename_i z hz;obtain⟨y,hy,h⟩:=bind_some h;have hf:=hC.deps f d hd;refine⟨_,h,λs hs=>by rw[qZ]at hs;simp at hs,uv,λa0 a k g=>?_⟩;have:=hf.ok k (as_.toList.map a.eval) z y g.gl (xc (Cs C e) hz λx hx=>zZ hC (ixa x hx _ _ _ g) g.gl) hy;refine cu (bU (as_:=as_.toList) (by rw[ho]) hf.call this) λv k' _ hv=>Jd (λs=>qZ) hv
     .simp at h
   .split at h
    · rename_i d hd;split at h
      · rename_i z xs hq;split at h;·rename_i y hy;obtain⟨r1,hr,h⟩:=bind_some h;have hf:=hC.qdeps f d hd;refine⟨_,h,K0 hi,Fl,λa0 a k g=>?_⟩;obtain⟨u,F,hRP,hv,hsub⟩:=MI hi g (λx hx=>by rw[ho];simp[Op.operands,Call.operands];exact .inr (by simpa using hx)) hq;have:=hf.ok k u (xs.map a.eval) z F y r1 g.gl hRP (xc (Cs C e) hy λx hx=>zZ hC (ixa x (hsub x hx) _ _ _ g) g.gl) hr;rw[<-hv]at this;exact cu (bU (as_:=as_.toList) (by rw[ho]) hf.call this) λv k' _ hv'=>PL g (λx hx=>by rw[ho];simp[Op.operands,Call.operands];exact .inr (by simpa using hx)) hv hv'
        .simp at h
      .simp at h
    .simp at h
  .rename_i s;have hpe:=hC.pe;have ixs:∀a0 a k,Rd1 e o a0 a k->(lk e s).is a0 (a.get s) k:=λa0 a k g=>(g.op (.tmp s) (by rw[ho];simp[Op.operands,Call.operands])).1;split at h
   · rename_i b f heq;split at h
     · rename_i hx;obtain rfl:as_=#[]:=by cases as_;simp at hx;rw[hx]
       obtain⟨y,hy,h⟩:=bind_some h;refine⟨_,h,nu λa0 a k g=>?_⟩;have hf:=ixs _ _ _ g;rw[heq]at hf;exact La ho (by rw[hpe];exact JA.1 hf) hy
     .simp at h
   · rename_i b c f heq;split at h
     · rename_i x hx;obtain rfl:=SN hx;split at h;·rename_i z hz;obtain⟨y,hy,h⟩:=bind_some h;refine⟨_,h,nu λa0 a k g=>?_⟩;have hf:=ixs _ _ _ g;rw[heq]at hf;exact C9 ho (by rw[hpe];exact Ag.1 hf) (gJ hz (ixa x (by simp) _ _ _ g)) hy
       .simp at h
     .simp at h
   · rename_i b b' c f heq;split at h
     · rename_i x x' hx;obtain rfl:=Ir hx;split at h;·rename_i z z' hz hz';obtain⟨y,hy,h⟩:=bind_some h;refine⟨_,h,nu λa0 a k g=>?_⟩;have hf:=ixs _ _ _ g;rw[heq]at hf;exact K2 ho (by rw[hpe];exact Ac.1 hf) (gJ hz (ixa x (by simp) _ _ _ g)) (gJ hz' (ixa x' (by simp) _ _ _ g)) hy
       .simp at h
     .simp at h
   .simp at h
  .simp at h
end
end Go.Gb
namespace Go.Gb
variable{T:Tb}{R:Type}
theorem lastIdx_none{t:Nat}:∀{l:List Oper}{i:Nat}{r:Option Nat},lastIdx t l i r=none->r=none/\∀o∈l,o.dst≠some t|[],_,_,h=>⟨h,by simp⟩|o::l,i,r,h=>by simp[lastIdx]at h;obtain⟨h1,j⟩:=lastIdx_none h;cases f:o.dst with|none=>rw[f]at h1;exact⟨h1,by simpa[f]using j⟩;|some d=>rw[f]at h1;cases g:Nat.beq d t with|true=>simp only[g]at h1;simp at h1;|false=>simp[g]at h1;refine⟨h1,?_⟩;simp;exact⟨by rw[f];intro e;rw[ae e]at g;simp at g,j⟩
theorem sR{t:Nat}{o:Oper}:∀{l:List Oper}{i:Nat}{r:Option Nat},lastIdx t (l++[o]) i r=if o.dst=some t then some (i+l.length)else lastIdx t l i r
 |[],i,r=>by simp[lastIdx];cases h:o.dst with|none=>simp;|some d=>simp_all
 |x::l,i,r=>by simp[lastIdx,sR];congr 2;omega
theorem fj{t:Nat}:∀{l:List Oper}{i:Nat}{r:Option Nat}{j:Nat},lastIdx t l i r=some j->r=some j∨∃o,i<=j/\nth l (j-i)=some o/\o.dst=some t
 |[],_,_,_,h=> .inl h|o::l,i,r,j,h=>by
  simp[lastIdx]at h;rcases fj h with h1|⟨g,h1,m,q⟩;.cases e:o.dst with|none=>rw[e]at h1;exact .inl h1;|some d=>rw[e]at h1;cases f:Nat.beq d t with|true=>simp[f]at h1;subst h1;exact .inr ⟨o,aA _,by simp[nth],by rw[e,ba f]⟩;|false=>simp[f]at h1;exact .inl h1
  .exact .inr ⟨g,by omega,by rw[show j-i=(j-(i+1))+1 by omega];exact m,q⟩
theorem uV{g:List Ent}{a0 a:Act}{k:K}:∀{f:List (Nat×Option Nat)},lp g a0 a k f->∀t s,(t,s)∈f->(match s with|some j=>(match nth g j with|some ⟨some R,_⟩=>R (a.get t) k|_=>True)|none=>a.get t=a0.get t)
 |[],_,_,_,h=>by simp at h;|(q,none)::l,h,t,s,m=>by
  rcases bD.1 m with e|m;.cases e;exact h.1
  .exact uV h.2 t s m|(q,some j)::l,h,t,s,m=>by
  rcases bD.1 m with e|m;.cases e;exact h.1
  .exact uV h.2 t s m
theorem kR{e:Type}:∀{l m:List e}{i:Nat}{x:e},nth l i=some x->nth (l++m) i=some x|_::_,_,0,_,h=>h|_::l,m,i+1,x,h=>kR (l:=l) h
theorem wC{e:Type}:∀{l:List e}{x:e}{m:List e},nth (l++x::m) l.length=some x|[],_,_=>rfl|_::l,x,m=>wC (l:=l)
theorem GI{o:Oper}{t:Nat}(h:Operand.tmp t∈o.op.operands.toList):t∈tmpsOf o:=List.mem_filterMap.2 ⟨_,h,rfl⟩
section
variable{C:Cx T}{n:Nat}{F:FP}{kk:K}{W:List Nat}{aa:Act}{e0:Env T}{a0:Act}{k0:K}
structure P1(e0:Env T)(a0:Act)(pre:List Oper)(es:List Ent)(e:Env T):Prop where
 len:es.length=pre.length
 slot:∀t,(match lastIdx t pre 0 none with|some j=>∃R nd,nth es j=some ⟨R,nd⟩/\(lk e t= .top∨∃R',R=some R'/\∀v k,R' v k->(lk e t).is a0 v k)|none=>lk e t=lk e0 t)res:∀t,aJ (lk e t)=true->lastIdx t pre 0 none=none
 inv:∀t s,(lk e t).bP s=true->aJ (lk e s)=true
theorem P1.rd1{f:List Oper}{w u:List Ent}{e:Env T}{o:Oper}{a:Act}{k:K}(p:P1 e0 a0 f w e)(h:Hl n F kk W aa e0 a0 k0)(hk:bE k0 k)(y:lp (w++u) a0 a k (mZ f o)):Rd1 e o a0 a k:=by
 have rs:∀s,aJ (lk e s)=true->(lk e s).is a0 (a0.get s) k:=λs z=>by have h1:=p.slot s;rw[p.res s z]at h1;rw[h1];exact(lk e0 s).mono hk (h.sl s)
 have gl:GOk T k:=h.gl.le hk.le;refine⟨λx E=>?_,rs,gl⟩;cases x with
 |tmp t=>have h1:=uV y t (lastIdx t f 0 none) (aM.2 ⟨t,GI E,rfl⟩);have g:=p.slot t;cases q:lastIdx t f 0 none with
  |some j=>
 rw[q]at h1 g;dsimp at h1 g;obtain⟨R,nd,H,m⟩:=g;rw[kR H]at h1;refine⟨?_,λI=>by rw[p.res t I]at q;simp at q⟩;rcases m with m|⟨J,rfl,m⟩;.rw[m];trivial
 .exact m _ _ h1|none=>rw[q]at h1 g;refine⟨?_,λ _=>h1⟩;rw[g,h1];exact(lk e0 t).mono hk (h.sl t)
 |_=>trivial
theorem P1.push{f:List Oper}{q:List Ent}{e:Env T}{o:Oper}{d:Nat}{av:AV T}{R':Pred}{nd:List (Nat×Option Nat)}(p:P1 e0 a0 f q e)(u:o.dst=some d)(w:aJ (lk e d)=false)(y:∀s,av.bP s=true->aJ (lk e s)=true)(m:aJ av=false)(z:∀v k,R' v k->av.is a0 v k):P1 e0 a0 (f++[o]) (q++[⟨some R',nd⟩]) ((d,av)::e):=by
 refine⟨by simp[p.len],λt=>?_,λt g=>?_,λt s h=>?_⟩
 · rw[sR,u,bg];by_cases e1:d=t;.subst e1;rw[if_pos rfl,if_pos rfl,bw];exact⟨_,_,by rw[<-p.len];exact wC, .inr ⟨_,rfl,z⟩⟩
   · rw[if_neg (λe=>e1 (ae e)),if_neg e1];have:=p.slot t;split;.rename_i j E;rw[E]at this;obtain⟨R,nd,h1,G⟩:=this;exact⟨R,nd,kR h1,G⟩
     grind
 · rw[bg]at g;rw[sR,u];by_cases e1:d=t;.rw[if_pos e1,m]at g;simp at g
   .rw[if_neg e1]at g;rw[if_neg (λe=>e1 (ae e))];exact p.res t g
 · rw[bg]at h;have x:aJ (lk e s)=true:=by
    by_cases e1:d=t;.rw[if_pos e1]at h;exact y s h
    .rw[if_neg e1]at h;exact p.inv t s h
   rw[bg,if_neg (λe=>by rw[e,x]at w;simp at w)];exact x
theorem qs{e:Env T}:∀{gr:OpL}{t:Nat},(lk (eT gr e) t= .top/\∃x∈gr,x.2.dst=some t)∨(lk (eT gr e) t=lk e t/\∀x∈gr,x.2.dst≠some t)|[],t=> .inr ⟨rfl,by simp⟩|(i,o)::l,t=>by simp only[eT];cases g:o.dst with
 |none=>
 rcases qs with⟨h1,x,f,h⟩|⟨h1,h⟩;.exact .inl ⟨h1,x,by simp[f],h⟩
 .exact .inr ⟨h1,by simpa[g]using h⟩|some d=>
 rw[bg];by_cases e1:d=t;.simp_all
 · rw[if_neg e1];rcases qs with⟨h1,x,f,h⟩|⟨h1,h⟩;.exact .inl ⟨h1,x,by simp[f],h⟩
   grind
theorem lastIdx_skip{t:Nat}:∀{m:List Oper}{i:Nat}{r:Option Nat},(∀o∈m,o.dst≠some t)->lastIdx t m i r=r|[],_,_,_=>rfl|o::m,i,r,h=>by simp[lastIdx];rw[lastIdx_skip λj f=>h j (by simp[f])];have:=h o (by simp);cases q:o.dst with|none=>rfl;|some d=>rw[q]at this;have g:d≠t:=λe=>this (congrArg some e);simp[Ec g]
theorem uj{t:Nat}:∀{l m:List Oper}{i:Nat}{r:Option Nat},(∀o∈m,o.dst≠some t)->lastIdx t (l++m) i r=lastIdx t l i r|[],m,i,r,h=>lastIdx_skip h|x::l,m,i,r,h=>by simp;exact uj h
theorem P1.eT{h w:List Oper}{E f:List Ent}{e e':Env T}{gr:OpL}(p:P1 e0 a0 h E e)(hg:gr.map (·.2)=w)(q:P1 e0 a0 (h++w) (E++f) e'∨f.length=w.length)(U:∀x∈gr,∀d,x.2.dst=some d->aJ (lk e d)=false):P1 e0 a0 (h++w) (E++f) (eT gr e):=by
  have y:f.length=w.length:=by
   rcases q with q|q;.have:=q.len;have:=p.len;simp at*;omega
   .exact q
  have H:∀t,(∃x∈gr,x.2.dst=some t)↔∃o∈w,o.dst=some t:=λt=>by grind
  refine⟨by simp[p.len,y],λt=>?_,λt I=>?_,λt s m=>?_⟩
  · rcases qs (e:=e) (gr:=gr) (t:=t)with⟨h1,z⟩|⟨h1,z⟩;·rw[h1];obtain⟨o,J,G⟩:=(H t).1 z;cases P:lastIdx t (h++w) 0 none with|none=>exact absurd G ((lastIdx_none P).2 o (by simp[J]));|some j=>
 rcases fj P with u|⟨o',_,u,_⟩;.simp at u
 · have Q:=qU u;have:j<(E++f).length:=by simp[p.len,y]at*;omega
   refine⟨((E++f)[j]).R,((E++f)[j]).need,?_, .inl rfl⟩;rw[fH,bZ this]
    · rw[h1];have u:∀o∈w,o.dst≠some t:=λo J G=>by grind
      rw[uj u];have:=p.slot t;split;·rename_i j Q;rw[Q]at this;obtain⟨R,nd,V,h5⟩:=this;exact⟨R,nd,kR V,h5⟩
      grind
  · rcases qs (e:=e) (gr:=gr) (t:=t)with⟨h1,z⟩|⟨h1,z⟩;.rw[h1]at I;simp[aJ]at I
    ·rw[h1]at I;rw[uj λo J G=>by obtain⟨x,M,O⟩:=(H t).2 ⟨o,J,G⟩;exact z x M O];exact p.res t I
  · have u:aJ (lk e s)=true:=by
     rcases qs (e:=e) (gr:=gr) (t:=t)with⟨h1,z⟩|⟨h1,z⟩;.rw[h1]at m;simp[AV.bP]at m
     .rw[h1]at m;exact p.inv t s m
    rcases qs (e:=e) (gr:=gr) (t:=s)with⟨h1,x,M,G⟩|⟨h1,z⟩;.rw[U x M s G]at u;simp at u
    .rw[h1];exact u
theorem Fq{g:Option (Nat×Bool)}:∀{l e f:OpL},uU g l=(e,f)->l=e++f
 |[],e,f,h=>by simp only[uU,Prod.mk.injEq]at h;rw[<-h.1,<-h.2];rfl;|x::l,e,f,h=>by
  simp[uU]at h;split at h;.simp at h;simp[<-h.1,<-h.2]
  .obtain⟨rfl,rfl⟩:=h;have:=Fq (g:=g) (l:=l) rfl;simp;rw[<-this]
theorem GG{g:Option (Nat×Bool)}:∀{l gr l':OpL}{x:Nat×Oper},uU g l=(gr,x::l')->x.2.guard=g
 |[],gr,l',x,h=>by simp[uU]at h;|y::l,gr,l',x,h=>by
  simp[uU]at h;split at h;.rename_i e;simp[Prod.mk.injEq]at h;rw[<-h.2.1];exact e
  .simp [Prod.mk.injEq]at h;exact GG (l':=l') (by rw[<-h.2])
theorem DD:∀{e:List Oper}{i:Nat}{a b:OpL},ixs i e=a++b->∃f g,e=f++g/\a=ixs i f/\b=ixs (i+f.length) g|e,i,[],b,h=>⟨[],e,rfl,rfl,by simpa using h.symm⟩|o::e,i,x::a,b,h=>by simp[ixs]at h;obtain⟨f,g,h1,j,m⟩:=DD h.2;exact⟨o::f,g,by rw[h1];rfl,by simp[ixs,h.1,j],by rw[m,eU,show i+1+f.length=i+(f.length+1)by omega]⟩
theorem Aj{l:List Oper}:∀{i:Nat},(ixs i l).map (·.2)=l:=by induction l with|nil=>intro i;rfl;|cons x l h=>intro i;simp[ixs,h]
theorem O7{l:List Oper}:∀{i j:Nat}{o:Oper},(j,o)∈ixs i l->i<=j/\nth l (j-i)=some o:=by induction l with|nil=>intro i j o h;simp[ixs]at h;|cons x l f=>
 intro i j o h;simp[ixs]at h;rcases h with⟨rfl,rfl⟩|h;.exact⟨aA _,by simp[nth]⟩
 .obtain⟨h1,g⟩:=f h;exact⟨by omega,by rw[show j-i=(j-(i+1))+1 by omega];exact g⟩
theorem Dp{P:Program}{e:List Ent}{a0:Act}{k0:K}:∀{l m:List Oper}{a b:List Ent},a.length=l.length->Steps P e a0 k0 l a->Steps P e a0 k0 m b->Steps P e a0 k0 (l++m) (a++b)|[],m,[],b,_,_,h=>h|o::l,m,x::a,b,f,h,g=>⟨h.1,Dp (by simpa using f) h.2 g⟩
theorem Dm:∀{l m e:List Oper},oN e (l++m)=oN e l++oN (e++l) m|[],m,e=>by simp[oN];|x::l,m,e=>by simp[oN,Dm]
theorem M7{f w m:Bool}{run e:Option Bool}{K:Bool->Option R}{r:R}(h:On f w m run e K=some r):∃b,K b=some r/\(m=w->run=some b)/\(m≠w->e=some b):=by unfold On at h;cases f with
 |true=>cases run with|none=>simp at h;|some b=>cases e with|none=>simp at h;|some d=>cases d<;>cases w<;>simp at h<;>(refine⟨_,h,?_,?_⟩<;>cases m<;>simp)
 |false=>simp[cond_false]at h;split at h<;>(obtain⟨b,g,h⟩:=bind_some h;refine⟨b,h,?_,?_⟩<;>cases m<;>simp at g⊢<;>exact g)
end
end Go.Gb
namespace Go.Gb
variable{T:Tb}{R:Type}
section
variable{C:Cx T}{n:Nat}{F:FP}{kk:K}{W:List Nat}{aa:Act}{e0:Env T}{a0:Act}{k0:K}
theorem Fv{P:Program}{j f:List Ent}:∀{l:List Oper}{e:List (List (Nat×Option Nat))},e.length=l.length->(∀o∈l,iT (j++f) o false)->Steps P (j++f) a0 k0 l (e.map λnd=>⟨none,nd⟩)|[],[],_,_=>trivial|o::l,nd::e,m,h=>⟨h o (by simp),Fv (by simpa using m) λq g=>h q (by simp[g])⟩
theorem pd:∀{l e:List Oper},(oN e l).length=l.length|[],_=>rfl|_::l,e=>by simp[oN,pd]
theorem J7{e:Type}:∀{l m r:List e}{i:Nat},l.length<=i->i<l.length+m.length->nth (l++(m++r)) i=nth m (i-l.length)|[],m,r,i,_,h=>by simp;rw[fH,fH,rA (by simpa using h)];|x::l,m,r,i+1,h,f=>by simp only[rm,nth,eU];rw[J7 (by simpa using h) (by simp at f;omega)];congr 1;omega
theorem oy{s:Nat}{e:List Oper}(h:uL s e=true):∀i o,nth e i=some o->o.dst≠some s:=by intro i o f g;rw[fH]at f;have:=bG.1 h o (jx f);rw[g]at this;simp[cL]at this
theorem zp{s:Nat}{e rest:List Oper}(h:uL s (e++rest)=true):lastIdx s e 0 none=none:=by cases f:lastIdx s e 0 none with|none=>rfl;|some j=>
 rcases fj f with h1|⟨o,_,h1,g⟩;.simp at h1
 .exact absurd g (oy h _ o (kR h1))
def I1(T:Tb)(H B:Nat):Hv->Pred| .adr off=>cw H off| .box t=>Bm (T.D t) B
instance{H B:Nat}:∀y:Hv,aZ (I1 T H B y)| .adr off=>inferInstanceAs (aZ (cw H off))| .box t=>inferInstanceAs (aZ (Bm (T.D t) B))
theorem GM{e:Hd}{o:Oper}{off:Nat}(h:zL C e o=some (.adr off)):∃s st f,e= .old s/\o.op= .fieldAddr st (.tmp s) f/\uo C.P st f=some off:=by
 unfold zL at h;split at h;.rename_i s st j f m;cases g:Nat.beq s j with|false=>rw[g]at h;simp at h;|true=>obtain rfl:=ba g;grind
 · split at h;.grind
   .simp at h
 .simp at h
theorem xe{e:Hd}{o:Oper}{t:Tp}(h:zL C e o=some (.box t)):∃s y,e= .new s t/\o.op= .alloc y/\o.dst=some s/\oP C.P T y t=true:=by
 unfold zL at h;split at h;.grind
 · rename_i s f y g;split at h;.rename_i d m;cases j:(Nat.beq s d&&oP C.P T y f)with|false=>rw[j]at h;simp at h;|true=>simp_all
   .simp at h
 .simp at h
def Plain(C:Cx T)(h:Hd)(e0:Env T)(a0:Act)(H B:Nat)(e:List Ent):Prop:=∀x∈e,∀R,x.R=some R->(∃av:AV T,R=av.is a0/\aJ av=false/\∀s,av.bP s=true->aJ (lk e0 s)=true)∨∃o y,zL C h o=some y/\R=I1 T H B y
def qQ(C:Cx T)(h:Hd)(H B:Nat)(g:Option (Nat×Bool))(e:List Oper)(f:List Ent):Prop:=g=none->∀j o y,nth e j=some o->o.guard=none->zL C h o=some y->∃nd,nth f j=some ⟨some (I1 T H B y),nd⟩
theorem qQ.cons{e:Hd}{H B:Nat}{g:Option (Nat×Bool)}{q:List Oper}{u:List Ent}{o:Oper}{x:Ent}(h:qQ C e H B g q u)(G:∀y,zL C e o=some y->o.guard=none->∃nd,x=⟨some (I1 T H B y),nd⟩):qQ C e H B g (o::q) (x::u):=by intro I j J y m f w;cases j with|zero=>simp[nth]at m;subst m;obtain⟨nd,h1⟩:=G y w f;exact⟨nd,by simp[nth,h1]⟩;|succ j=>exact h I j J y (by simpa[nth]using m) f w
theorem qQ.skip{f:Hd}{H B:Nat}{g:Option (Nat×Bool)}:∀{j q:List Oper}{e u:List Ent},e.length=j.length->(∀o∈j,o.guard≠none)->qQ C f H B g q u->qQ C f H B g (j++q) (e++u)|[],_,[],_,_,_,h=>h|o::j,_,x::e,_,y,w,h=>qQ.cons (qQ.skip (by simpa using y) (λz m=>w z (by simp[m])) h) λ_ _ E=>absurd E (w o (by simp))
theorem P1.Pj{f:List Oper}{j:List Ent}{e:Env T}(p:P1 e0 a0 f j e){s:Nat}(h:aJ (lk e s)=true):aJ (lk e0 s)=true:=by have h1:=p.res s h;have g:=p.slot s;rw[h1]at g;exact(g)▸h
theorem wI(hC:rX C){hid:Hd}{bH B:Nat}(J:List Oper)(hH:∀s,hid= .old s->a0.get s= .pointer (some ⟨bH,0,none⟩)/\uL s J=true):∀(f:Nat)(R:Type)(g:Option (Nat×Bool))(u rest rr:List Oper)(e:Env T)(K:OpL->Env T->Option R)(r:R)(es:List Ent),J=u++(rest++rr)->P1 e0 a0 u es e->(∀E o,o.guard=g->iT (es++E) o true)->ev1 C hid J f R g (ixs u.length rest) e K=some r->∃(cs G:List Oper)(z:List Ent)(e':Env T),rest=cs++G/\z.length=cs.length/\(g≠none->G=[])/\z.map (·.need)=oN u cs/\K (ixs (u++cs).length G) e'=some r/\P1 e0 a0 (u++cs) (es++z) e'/\(∀k0,Hl n F kk W aa e0 a0 k0->B<=k0.w.heap.size->∀E,Steps C.P (es++(z++E)) a0 k0 cs z)/\Plain C hid e0 a0 bH B z/\qQ C hid bH B g cs z
  |0,_,_,_,_,_,_,_,_,_,_,_,_,h=>by simp[ev1]at h;|f+1,R,g,u,[],rr,e,K,r,es,V,p,hg,h=>by simp only[ixs,ev1]at h;exact⟨[],[],[],e,rfl,rfl,λ_=>rfl,rfl,by simpa[ixs]using h,by simpa using p,λ_ _ _ _=>trivial,λx M=>by simp at M,λ_ j o off hj=>by simp[nth]at hj⟩|f+1,R,g,u,o::rest,rr,e,K,r,es,V,p,hg,h=>by
    simp only[ixs,ev1]at h;split at h
    · rename_i hgo;split at h;·rename_i y d hho hd;cases hrd:aJ (lk e d)with|true=>rw[hrd]at h;simp at h;|false=>
     rw[hrd]at h;simp only[cond_false]at h;have O:=p.push (R':=I1 T bH B y) (nd:=mZ u o) (av:= .top) hd hrd (λs hs=>by simp[AV.bP]at hs) rfl (λ _ _ _=>trivial);have hops':J=(u++[o])++(rest++rr):=by rw[V];simp
     obtain⟨cs,G,z,e',h1,U,h3,h4,h5,h6,h7,h8,h9⟩:=wI hC J hH f R g (u++[o]) rest rr _ K r _ hops' O (λE o' Q=>by have:=hg ([⟨some (I1 T bH B y),mZ u o⟩]++E) o' Q;rwa[<-dm]at this) (by simpa using h);refine⟨o::cs,G,⟨some (I1 T bH B y),mZ u o⟩::z,e',by rw[h1];rfl,by simp[U],h3,by simp[oN,h4],by simpa using h5,by simpa using h6,λk0 h0 hB E=>⟨?_,?_⟩,λx M R hR=>?_,h9.cons λy' ho _=>(by rw[hho]at ho;exact⟨_,by rw[ae ho]⟩)⟩;·refine⟨inferInstance, .inl ⟨λa k hk' hn'=>?_,hg _ o hgo⟩⟩;cases y with|adr off=>obtain⟨s,st,f',hs1,hop,hfo⟩:=GM hho;obtain⟨hbs,hnd⟩:=hH s hs1;have hls:lastIdx s u 0 none=none:=zp (rest:=o::rest++rr) (by rw[V]at hnd;simpa using hnd);refine aV hop (DP hfo) ?_;have:=uV hn' s none (aM.2 ⟨s,GI (by rw[hop];simp[Op.operands]),by rw[hls]⟩);exact(show a.get s=a0.get s from this).trans hbs|box t=>obtain⟨s,ty,hs1,hop,hd',hz⟩:=xe hho;obtain⟨_,zv,_,_,_,_,hrun,_,hv⟩:=xd hz;exact cu (gu B (bB hB hk'.size) hop ⟨zv,hrun,hv⟩) λv k' _ hb=>⟨_,hb⟩
     ·have:=h7 k0 h0 hB E;simpa using this
     · rcases bD.1 M with rfl|M;·obtain rfl:=ae hR;exact .inr ⟨o,y,hho,rfl⟩
       .exact h8 x M R hR
      ·rename_i hno;cases hm:GF C e o with
 |true=>
 rw[hm]at h;simp only[cond_true]at h;split at h;.exact⟨[],o::rest,[],e,rfl,rfl,λhn=>absurd rfl hn,rfl,by simpa[ixs]using h,by simpa using p,λ _ _ _ _=>trivial,λx M=>by simp at M,λ _ j o off hj=>by simp[nth]at hj⟩
 .simp at h|false=>
 rw[hm]at h;simp only[cond_false]at h;split at h
 · rename_i d hd;have hho:zL C hid o=none:=by cases hh:zL C hid o with|none=>rfl;|some y=>exact(hno y d hh hd).elim
   obtain⟨av,hk,hgv⟩:=G9 hC p.inv h;have hrd:aJ (lk e d)=false:=by unfold GF at hm;rw[hd]at hm;simp only[pw]at hm;exact hm.1
   have O:=p.push (R':=av.is a0) (nd:=mZ u o) hd hrd hgv.1 hgv.2.1 (λ _ _ h=>h);have hops':J=(u++[o])++(rest++rr):=by rw[V];simp
   obtain⟨cs,G,z,e',h1,U,h3,h4,h5,h6,h7,h8,h9⟩:=wI hC J hH f R g (u++[o]) rest rr _ K r _ hops' O (λE o' Q=>by have:=hg ([⟨some (av.is a0),mZ u o⟩]++E) o' Q;rwa[<-dm]at this) (by simpa using hk);refine⟨o::cs,G,⟨some (av.is a0),mZ u o⟩::z,e',by rw[h1];rfl,by simp[U],h3,by simp[oN,h4],by simpa using h5,by simpa using h6,λk0 h0 hB E=>⟨?_,?_⟩,λx M R hR=>?_,h9.cons λoff ho _=>(by rw[hho]at ho;simp at ho)⟩;.refine⟨inferInstance, .inl ⟨λa k hk' hn'=>hgv.2.2 a0 a k (p.rd1 h0 hk' hn'),hg _ o hgo⟩⟩
   ·have:=h7 k0 h0 hB E;simpa using this
   · rcases bD.1 M with rfl|M;·obtain rfl:=ae hR;exact .inl ⟨av,rfl,hgv.2.1,λs hs=>p.Pj (hgv.1 s hs)⟩
     .exact h8 x M R hR
 .simp at h
    · rename_i hgo;split at h;.simp at h
      ·rename_i j w hjw;cases hst:(g.isNone&&(uU g _).1.any (λx=>GF C e x.2))with|true=>
 rw[hst]at h;simp only[cond_true]at h;rw[aD]at hst;obtain rfl:g=none:=by simpa using hst.1
 exact⟨[],o::rest,[],e,rfl,rfl,λhn=>absurd rfl hn,rfl,by simpa[ixs]using h,by simpa using p,λ _ _ _ _=>trivial,λx M=>by simp at M,λ _ j o off hj=>by simp[nth]at hj⟩|false=>
        rw[hst]at h;simp only[cond_false]at h;clear hst;split at h
        · rename_i gr ip O l' hsp;split at h
          · rename_i c x y d tj hpo hpd hdj;split at h;·rename_i m hmm;cases hchk:(Nat.beq tj c&&IX c (J.take u.length) j&&RH e c j w gr&&!(aJ (lk e d)))with|false=>rw[hchk]at h;simp at h;|true=>
                rw[hchk]at h;simp only[cond_true]at h;simp only[aD,cN]at hchk;obtain⟨⟨⟨hc1,hc2⟩,hc3⟩,hc4⟩:=hchk;obtain⟨b,hk,hrun,hoth⟩:=M7 h;have hl:=Fq hsp;have hl:ixs u.length (o::rest)=gr++(ip,O)::l':=hl;obtain⟨g1,g2,he1,he2,he3⟩:=DD hl;obtain⟨q,I,rfl,rfl,rfl⟩:∃q I,g2=q::I/\O=q/\l'=ixs (u.length+g1.length+1) I:=by cases g2 with|nil=>simp[ixs]at he3;|cons q I=>simp only[ixs,pn,Prod.mk.injEq]at he3;exact⟨q,I,rfl,he3.1.2,he3.2⟩
                have htake:J.take u.length=u:=by rw[V,il];rfl
                rw[htake]at hc2;unfold IX at hc2;have hslot:=p.slot c;obtain⟨Rj,ndj,hej,hRj⟩:∃Rj nd,nth es j=some ⟨some Rj,nd⟩/\∀v k,Rj v k->v= .bool m:=by cases hli:lastIdx c u 0 none with|none=>rw[hli]at hc2;simp at hc2;|some j'=>
 rw[hli]at hc2 hslot;obtain rfl:=ba hc2;obtain⟨R1,nd,h1,U⟩:=hslot;rcases U with U|⟨R',rfl,U⟩;.rw[U]at hmm;simp[asB]at hmm
 .exact⟨R',nd,h1,λv k hv=>aE.1 (mW hmm (U v k hv))⟩
                have hjl:j<es.length:=by have:=qU hej;simpa using this
                have hgr:∀x∈gr,(∃d,x.2.dst=some d/\aJ (lk e d)=false/\d≠c)/\∃j' w',x.2.guard=some (j',w')/\((j'=j/\w'=w)∨∃y∈gr,y.1=j'):=by
                 intro x M;have:=bG.1 hc3 x M;rw[aD]at this;obtain⟨h1,U⟩:=this;constructor;.cases hxd:x.2.dst with|none=>rw[hxd]at U;simp at U;|some dx=>rw[hxd]at U;simp only[aD,cN]at U;exact⟨dx,rfl,U.1,λe=>by rw[e,cL]at U;simp at U⟩
                 .cases hxg:x.2.guard with|none=>rw[hxg]at h1;simp at h1;|some jw=>
 obtain⟨j',w'⟩:=jw;rw[hxg]at h1;simp only[bT,aD,beq_iff_eq,oe]at h1;refine⟨j',w',rfl,?_⟩;rcases h1 with h1|⟨y,hy,h1⟩;.exact .inl ⟨ba h1.1,h1.2⟩
 .exact .inr ⟨y,hy,ba h1⟩
                have hcs:gr.map (·.2)=g1:=by rw[he2,Aj]
                have hnr:∀x∈gr,∀d,x.2.dst=some d->aJ (lk e d)=false:=λx M d hd=>by obtain⟨⟨d',h1,U,_⟩,_⟩:=hgr x M;rw[hd]at h1;obtain rfl:=ae h1;exact U
                have hg1:J=u++(g1++(O::I++rr)):=by rw[V,he1];simp
                obtain⟨z,q1,q2,q3,q4,q6,q5⟩:∃z:List Ent,z.length=g1.length/\z.map (·.need)=oN u g1/\(∀k0,Hl n F kk W aa e0 a0 k0->B<=k0.w.heap.size->∀E,Steps C.P (es++(z++E)) a0 k0 g1 z)/\P1 e0 a0 (u++g1) (es++z) (eT gr e)/\Plain C hid e0 a0 bH B z/\(m=w->∃e',P1 e0 a0 (u++g1) (es++z) e'/\asB (opv e' (if w then x else y))=some b):=by
                 by_cases hmw:m=w;·have hr:=hrun hmw;rw[he2]at hr;obtain⟨cs,G,z,e',h1,U,h3,h4,h5,h6,h7,h8,_⟩:=wI hC J hH f Bool (some (j,w)) u g1 (O::I++rr) e _ b es hg1 p (λE o' Q=>by unfold iT;rw[Q];dsimp only;rw[kR hej];intro v k hv;rw[hRj v k hv,hmw];rfl) hr;obtain rfl:=h3 (by simp);rw[mn]at h1;subst h1;exact⟨z,U,h4,h7,p.eT hcs (.inl h6) hnr,h8,λ _=>⟨e',h6,h5⟩⟩
                 · refine⟨(oN u g1).map λnd=>⟨none,nd⟩,by simp[pd],by simp[dX,Function.comp_def],λk0 h0 hB E=>?_,p.eT (e':=e) hcs (.inr (by simp[pd])) hnr,λx M R hR=>(by obtain⟨nd,_,rfl⟩:=aM.1 M;simp at hR),λh=>absurd h hmw⟩;refine Fv (by simp[pd]) λo' Q=>?_;rw[<-hcs]at Q;obtain⟨x',hx',rfl⟩:=aM.1 Q;obtain⟨_,j',w',hg',hor⟩:=hgr x' hx';unfold iT;rw[hg'];dsimp only;rcases hor with⟨rfl,rfl⟩|⟨y',hy',rfl⟩;·rw[kR hej];intro v k hv;rw[hRj v k hv];cases m<;>cases w'<;>simp_all
                   ·rw[he2]at hy';obtain⟨z1,z2⟩:=O7 (i:=u.length) (show(y'.1,y'.2)∈ixs u.length g1 from hy');have hlt:=qU z2;rw[J7 (by rw[p.len];exact z1) (by simp[pd,p.len];omega),p.len,fH,nX];rw[bZ (by rw[pd];exact hlt)];rfl
                have hlk:lk (eT gr e) c=lk e c:=by
                 rcases qs (e:=e) (gr:=gr) (t:=c)with⟨_,x',hx',hd'⟩|⟨h1,_⟩;·obtain⟨⟨d',h1,_,U⟩,_⟩:=hgr x' hx';rw[hd']at h1;exact absurd (ae h1).symm U
                 .exact h1
                have hrd:aJ (lk (eT gr e) d)=false:=by
                 rcases qs (e:=e) (gr:=gr) (t:=d)with⟨h1,_⟩|⟨h1,_⟩;.rw[h1];rfl
                 .rw[h1];exact hc4
                have p2:=q4.push (o:=O) (R':=(AV.v (T:=T) .bool b).is a0) (nd:=mZ (u++g1) O) hpd hrd (av:= .v .bool b) (λs hs=>by simp[AV.bP]at hs) rfl (λ _ _ h=>h);have hgp:O.guard=g:=by have:=GG hsp;exact this
                have hops2:J=((u++g1)++[O])++(I++rr):=by rw[V,he1];simp
                have hob:∀k0,Hl n F kk W aa e0 a0 k0->∀E,Ob C.P (es++(z++E)) a0 k0 O ⟨some ((AV.v (T:=T) .bool b).is a0),mZ (u++g1) O⟩:=by
                 intro k0 h0 E;refine⟨inferInstance, .inl ⟨λa k hk' hn'=>?_,hg _ O hgp⟩⟩;rw[<-dm]at hn';have rd:=q4.rd1 h0 hk' hn';have hmc:c∈O.op.operands.toList.filterMap (λ| .tmp t=>some t|_=>none):=by rw[hpo];simp[Op.operands]
                 have hx1:x∈O.op.operands.toList:=by rw[hpo];simp[Op.operands]
                 have hy1:y∈O.op.operands.toList:=by rw[hpo];simp[Op.operands]
                 have hcv:IsV m (a.eval (.tmp c)) k:=by have:=(rd.op (.tmp c) (by rw[hpo];simp[Op.operands])).1;rw[hlk]at this;exact mW hmm this
                 refine rU (m:=m) (r:=b) hpo hcv (λhm1=>?_) (λhm1=>?_);.cases w with|true=>obtain⟨e',O,hb⟩:=q5 hm1;exact mW hb (fa ((O.rd1 h0 hk' hn').op x hx1))|false=>have hb:=hoth (by rw[hm1];simp);exact mW hb (fa (rd.op x hx1))
                 .cases w with|true=>have hb:=hoth (by rw[hm1];simp);exact mW hb (fa (rd.op y hy1))|false=>obtain⟨e',O,hb⟩:=q5 hm1;exact mW hb (fa ((O.rd1 h0 hk' hn').op y hy1))
                obtain⟨cs,G,es2,e',h1,U,h3,h4,h5,h6,h7,h8,h9⟩:=wI hC J hH f R g ((u++g1)++[O]) I rr _ K r _ hops2 p2 (λE o' Q=>by have:=hg (z++([⟨some ((AV.v (T:=T) .bool b).is a0),mZ (u++g1) O⟩]++E)) o' Q;simpa using this) (by simpa[rl]using hk);refine⟨g1++O::cs,G,z++_::es2,e',by rw[he1,h1];simp,by simp[q1,U],h3,?_,by simpa using h5,by simpa using h6,λk0 h0 hB E=>?_,λx' M R hR=>?_,qQ.skip q1 (λo' Q=>?_) (h9.cons λoff ho _=>?_)⟩;·rw[Dm];simp[q2,oN,h4]
                · refine Dp q1 ?_ ⟨?_,?_⟩;·have:=q3 k0 h0 hB (⟨some ((AV.v (T:=T) .bool b).is a0),mZ (u++g1) O⟩::es2++E);simpa using this
                  ·have:=hob k0 h0 (⟨some ((AV.v (T:=T) .bool b).is a0),mZ (u++g1) O⟩::es2++E);simpa using this
                  ·have:=h7 k0 h0 hB E;simpa using this
                · rcases dq.1 M with M|M;.exact q6 x' M R hR
                  · rcases bD.1 M with rfl|M;·obtain rfl:=ae hR;exact .inl ⟨.v .bool b,rfl,rfl,λs hs=>by simp[AV.bP]at hs⟩
                    .exact h8 x' M R hR
                ·rw[<-hcs]at Q;obtain⟨x',hx',rfl⟩:=aM.1 Q;obtain⟨_,j',w',hg',_⟩:=hgr x' hx';rw[hg'];simp
                .cases off with|adr off=>obtain⟨_,_,_,_,hop',_⟩:=GM ho;rw[hpo]at hop';simp at hop'|box t=>obtain⟨_,_,_,hop',_⟩:=xe ho;rw[hpo]at hop';simp at hop'
            .simp at h
          .simp at h
        .simp at h
end
end Go.Gb
namespace Go.Gb
variable{T:Tb}{R:Type}
section
variable{C:Cx T}{n:Nat}{F:FP}{k0:K}{W:List Nat}{a0:Act}{e:Env T}{a a':Act}{k k':K}
theorem Hl.rd1(h:Hl n F k0 W a0 e a k)(o:Oper):Rd1 e o a a k:=by refine⟨λx _=>?_,λs _=>h.sl s,h.gl⟩;cases x with|tmp t=>exact⟨h.sl t,λ _=>rfl⟩;|global _=>exact h.gl;|_=>trivial
theorem Hl.Om(h:Hl n F k0 W a0 e a k){s:Nat}{av:AV T}{G:FP}(hs:unl (lk e s)=true)(c:Chg G k k')(z:∀b,G b->(lk e s).fp (a.get s) k b)(hv:av.is a (a.get s) k')(hm:∀t,av.bP t=false)(hu:unl av=true)(hf:∀b,av.fp (a.get s) k' b->(lk e s).fp (a.get s) k b):Hl n F k0 W a0 ((s,av)::iV (kl s) e) a k':=by
 have J:∀b,G b->¬k.sh b:=λb f=>(h.lt s b (z b f)).2;have q:lk ((s,av)::iV (kl s) e) s=av:=by rw[bg,if_pos rfl]
 have w:∀t,t≠s->lk ((s,av)::iV (kl s) e) t=kl s (lk e t):=λt j=>by rw[bg,if_neg (Ne.symm j),kB rfl]
 have E:∀t,t≠s->(lk e t).fp _ k'=(lk e t).fp _ k:=λt j=>AV.oZ _ c J (λb f m=>h.ap t s j b f (z b m)) (h.sl t);refine⟨h.g.step c (λb f=>h.wr s hs b (z b f)),h.s,h.d,h.old,λt=>?_,λt u x=>?_,λt j=>?_,λt t' M=>?_,h.gl.le (c.le J)⟩
 · by_cases j:t=s;.subst j;rw[q];exact hv
   · rw[w t j];have h1:(kl s (lk e t)).is a (a.get t) k:=by
      rcases we s (lk e t)with e1|e1;.rw[e1];exact h.sl t
      .rw[e1];trivial
     refine(kl s (lk e t)).keep c J (λb f m=>?_) (λu O u' P Q b f m=>?_) h1
     · rcases we s (lk e t)with e1|e1;.rw[e1]at f;exact h.ap t s j b f (z b m)
       .rw[e1]at f;exact f
     .have⟨U,V⟩:=Hz O;exact h.apm (h.inv t u (AV.lj U)) V P Q b f (z b m)
 · have:aJ (lk e u)=true:=by
    by_cases j:t=s;.subst j;rw[q,hm]at x;simp at x
    .rw[w t j]at x;exact h.inv t u (Kq x)
   by_cases H:u=s;.subst H;rw[q];exact tC hu
   .rw[w u H,Mc this];exact this
 · by_cases y:t=s;.subst y;rw[q];exactλb f=>h.wr t hs b (hf b f)
   · rw[w t y]at j⊢;rcases we s (lk e t)with e1|e1;.rw[e1]at j⊢;rw[E t y];exact h.wr t j
     .rw[e1]at j;simp[unl]at j
 · have I:∀t b,(lk ((s,av)::iV (kl s) e) t).fp (a.get t) k' b->(lk e t).fp (a.get t) k b:=by
    intro t b f;by_cases j:t=s;.subst j;rw[q]at f;exact hf b f
    · rw[w t j]at f;rcases we s (lk e t)with e1|e1;.rw[e1,E t j]at f;exact f
      .rw[e1]at f;exact f.elim
   exactλb f m=>h.ap t t' M b (I t b f) (I t' b m)
theorem Hl.swap(h:Hl n F k0 W a0 e a k){s:Nat}{av:AV T}{G:FP}(hg:Chg F k0 k')(q:∀(x:AV T)(v:Value),bj (x.fp v k) G->(∀u,x.jU u=true->∀y:AV T,HP y=true->y.is a (a.get u) k->bj (y.fp (a.get u) k) G)->x.is a v k->x.is a v k')(O:∀(x:AV T)(v:Value),bj (x.fp v k) G->x.is a v k->x.fp v k'=x.fp v k)(P:∀b,G b->(lk e s).fp (a.get s) k b)(hv:av.is a (a.get s) k')(hm:∀t,av.bP t=false)(hw:unl av=true->Wr F k0 (av.fp (a.get s) k'))(hf:∀b,av.fp (a.get s) k' b->(lk e s).fp (a.get s) k b):Hl n F k0 W a0 ((s,av)::iV (klA s) e) a k':=by
 have E:lk ((s,av)::iV (klA s) e) s=av:=by rw[bg,if_pos rfl]
 have z:∀t,t≠s->lk ((s,av)::iV (klA s) e) t=klA s (lk e t):=λt f=>by rw[bg,if_neg (Ne.symm f),kB rfl]
 have J:∀t,t≠s->(lk e t).fp _ k'=(lk e t).fp _ k:=λt f=>O _ _ (λb j w=>h.ap t s f b j (P b w)) (h.sl t);refine⟨hg,h.s,h.d,h.old,λt=>?_,λt u H=>?_,λt f=>?_,λt t' Q=>?_,⟨λg t x e1=>q (.ref t x) _ (λb j _=>j.elim) (λu U=>by simp[AV.jU]at U) (h.gl.1 g t x e1),λg e1=>(h.gl.2 g e1).imp λm r=>q (.ref .int m) _ (λb j _=>j.elim) (λu U=>by simp[AV.jU]at U) r⟩⟩
 · by_cases f:t=s;.subst f;rw[E];exact hv
   · rw[z t f];have h1:(klA s (lk e t)).is a (a.get t) k:=by
      rcases iI s (lk e t)with e1|e1;.rw[e1];exact h.sl t
      .rw[e1];trivial
     refine q _ _ (λb j w=>?_) (λu V u' hu2 hu3 b j w=>?_) h1
     · rcases iI s (lk e t)with e1|e1;.rw[e1]at j;exact h.ap t s f b j (P b w)
       .rw[e1]at j;exact j
     .have⟨hu4,hu5⟩:=p8 (AV.lj V);exact h.apm (h.inv t u hu4) hu5 hu2 hu3 b j (P b w)
 · by_cases f:t=s;.subst f;rw[E,hm]at H;simp at H
   .rw[z t f]at H;have⟨h1,h2⟩:=p8 H;have:=h.inv t u h1;rw[z u h2,ta this];exact this
 · by_cases I:t=s;.subst I;rw[E]at f⊢;exact hw f
   · rw[z t I]at f⊢;rcases iI s (lk e t)with e1|e1;.rw[e1]at f⊢;rw[J t I];exact h.wr t f
     .rw[e1]at f;simp[unl]at f
 · have M:∀t b,(lk ((s,av)::iV (klA s) e) t).fp (a.get t) k' b->(lk e t).fp (a.get t) k b:=by
    intro t b j;by_cases f:t=s;.subst f;rw[E]at j;exact hf b j
    · rw[z t f]at j;rcases iI s (lk e t)with e1|e1;.rw[e1,J t f]at j;exact j
      .rw[e1]at j;exact j.elim
   exactλb j w=>h.ap t t' Q b (M t b j) (M t' b w)
theorem Hl.TA(h:Hl n F k0 W a0 e a k){s:Nat}{G:FP}(q:unl (lk e s)=true)(c:Chg G k k')(j:∀b,G b->(lk e s).fp (a.get s) k b):Hl n F k0 W a0 ((s, .top)::iV (klA s) e) a k':=h.swap (h.g.step c λb f=>h.wr s q b (j b f)) (λx v h1 u m=>x.keep c (λb f=>(h.lt s b (j b f)).2) h1 u m) (λx v h1 m=>x.oZ c (λb f=>(h.lt s b (j b f)).2) h1 m) j trivial (λ_=>rfl) (λw=>by simp[unl]at w) (λb f=>f.elim)
theorem Hl.hand(h:Hl n F k0 W a0 e a k){s:Nat}{G:FP}{av:AV T}(u:unl (lk e s)=true)(c:Handed k k' G)(q:∀b,G b->(lk e s).fp (a.get s) k b)(w:av.is a (a.get s) k')(y:∀t,av.bP t=false)(f:aJ av=false):Hl n F k0 W a0 ((s,av)::iV (klA s) e) a k':=h.swap (h.g.hand c λb j=>h.wr s u b (q b j)) (λx v h1 z m=>x.handed c h1 z m) (λx v h1 m=>x.LJ c h1 m) q w y (λE=>by rw[tC E]at f;simp at f) (λb j=>absurd j (dG f _ _ b))
theorem Hl.set(h:Hl n F k0 W a0 e a k){s:Nat}{av:AV T}(I:aJ (lk e s)=false)(J:av.is a (a.get s) k)(M:∀t,av.bP t=true->aJ (lk e t)=true)(z:aJ av=false):Hl n F k0 W a0 ((s,av)::e) a k:=by
 have m:lk ((s,av)::e) s=av:=by rw[bg,if_pos rfl]
 have j:∀t,t≠s->lk ((s,av)::e) t=lk e t:=λt f=>by rw[bg,if_neg (Ne.symm f)]
 have O:∀t,aJ (lk e t)=true->t≠s:=λt f e=>by rw[e,I]at f;simp at f
 have w:∀t b,(lk ((s,av)::e) t).fp (a.get t) k b->(lk e t).fp (a.get t) k b:=by
  intro t b q;by_cases f:t=s;.subst f;rw[m]at q;exact absurd q (dG z _ _ b)
  .rw[j t f]at q;exact q
 refine⟨h.g,h.s,h.d,h.old,λt=>?_,λt u y=>?_,λt f=>?_,λt H E b q G=>h.ap t H E b (w t b q) (w H b G),h.gl⟩
 · by_cases f:t=s;.subst f;rw[m];exact J
   .rw[j t f];exact h.sl t
 · have:aJ (lk e u)=true:=by
    by_cases f:t=s;.subst f;rw[m]at y;exact M u y
    .rw[j t f]at y;exact h.inv t u y
   rw[j u (O u this)];exact this
 · by_cases x:t=s;.subst x;rw[m]at f;rw[tC f]at z;simp at z
   .rw[j t x]at f⊢;exact h.wr t f
theorem Hl.BP(h:Hl n F k0 W a0 e a k){d:Nat}{av:AV T}(x:d∈W)(y:bE k k')(z:a'.tmps.size=a.tmps.size)(j:a'.defers=a.defers)(E:∀t,t≠d->a'.get t=a.get t)(G:av.is a' (a'.get d) k')(H:∀s,av.bP s=true->aJ (lk e s)=true)(u:∀b,av.fp (a'.get d) k' b->k.w.heap.size<=b){r:R}{K:Env T->Option R}(hk:Gb.put e d av K=some r):∃f,K f=some r/\Hl n F k0 W a0 f a' k':=by have⟨f,h1,I,_⟩:=h.put x y z j E G H (λ _ b m=> .inr (bB h.g.size (u b m))) (λt _ b m q=>by have:=(h.lt t b q).1;have:=u b m;omega) hk;exact⟨f,h1,I⟩
theorem Hl.Oy(h:Hl n F k0 W a0 e a k){E:Env T}{G:FP}(S:Nat->Prop)(c:Chg G k k')(hG:∀b,G b->∃s,S s/\unl (lk e s)=true/\(lk e s).fp (a.get s) k b)(hs:a'.tmps.size=a.tmps.size)(hd:a'.defers=a.defers)(ho:∀t,t∉W->a'.get t=a.get t)(O:∀t,¬S t->a'.get t=a.get t)(h1:∀s,S s->(lk E s).is a' (a'.get s) k')(h2:∀s,S s->∀t,(lk E s).bP t=false)(h3:∀s,S s->unl (lk E s)=true->∀b,(lk E s).fp (a'.get s) k' b->G b∨(∃u,S u/\unl (lk e u)=true/\(lk e u).fp (a.get u) k b)∨k.w.heap.size<=b)(Q:∀s,S s->∀b,(lk E s).fp (a'.get s) k' b->(∃u,S u/\(lk e u).fp (a.get u) k b)∨k.w.heap.size<=b)(h4:∀s u,S s->S u->s≠u->bj ((lk E s).fp (a'.get s) k') ((lk E u).fp (a'.get u) k'))(h5:∀t,¬S t->lk E t= .top∨(lk E t=lk e t/\∀s,(lk e t).bP s=true->S s->a'.get s=a.get s/\aJ (lk E s)=true/\(lk e t).jU s=false))(h6:∀t,¬S t->aJ (lk e t)=true->lk E t=lk e t):Hl n F k0 W a0 E a' k':=by
  have hn:∀b,G b->¬k.sh b:=λb m=>let⟨s,_,_,j⟩:=hG b m;(h.lt s b j).2;have U:∀t,¬S t->bj _ G:=λt f b m q=>by obtain⟨s,j,_,H⟩:=hG b q;exact h.ap t s (λe1=>f (e1▸j)) b m H
  have V:Wr F k0 G:=λb m=>let⟨s,_,j,H⟩:=hG b m;h.wr s j b H;have fpk:∀t,¬S t->(lk e t).fp _ k'=(lk e t).fp _ k:=λt f=>AV.oZ _ c hn (U t f) (h.sl t);have J:∀t,¬S t->∀b,(lk E t).fp (a'.get t) k' b->(lk e t).fp _ k b:=λt f b m=>by
   rcases h5 t f with e1|⟨e1,_⟩;.rw[e1]at m;exact m.elim
   .rw[e1,O t f,fpk t f]at m;exact m
  refine⟨h.g.step c V,hs.trans h.s,hd.trans h.d,λt f=>(ho t f).trans (h.old t f),λt=>?_,λt s x=>?_,λt f b m=>?_,λt M hne b m q=>?_,h.gl.le (c.le hn)⟩
  · by_cases f:S t;.exact h1 t f
    · rcases h5 t f with e1|⟨e1,j⟩;.rw[e1];trivial
      ·rw[e1,O t f];have hk:(lk e t).is a _ k':=AV.keep _ c hn (U t f) (λu hu y hy hyi b m q=>by
 have hus:¬S u:=λz=>by have:=(j u (AV.lj hu) z).2.2;rw[hu]at this;simp at this
 obtain⟨s,H,_,P⟩:=hG b q;exact h.apm (h.inv t u (AV.lj hu)) (λe2=>hus (e2▸H)) hy hyi b m P) (h.sl t);exact AV.congr _ (λs hs'=>by
 by_cases z:S s;.exact(j s hs' z).1
 .exact O s z) hk
  · by_cases f:S t;.rw[h2 t f]at x;simp at x
    · rcases h5 t f with e1|⟨e1,j⟩;.rw[e1]at x;simp[AV.bP]at x
      · rw[e1]at x;by_cases z:S s;.exact(j s x z).2.1
        .rw[h6 s z (h.inv t s x)];exact h.inv t s x
  · by_cases z:S t
    · rcases h3 t z f b m with j|⟨u,_,H,P⟩|j;.exact V b j
      .exact h.wr u H b P
      .exact .inr (bB h.g.size j)
    · have j:=J t z b m;rcases h5 t z with e1|⟨e1,_⟩;.rw[e1]at f;simp[unl]at f
      .rw[e1]at f;exact h.wr t f b j
  · by_cases z:S t
    · by_cases I:S M;.exact h4 t M z I hne b m q
      · have j:=J M I b q;rcases Q t z b m with⟨u,H,P⟩|H;.exact h.ap u M (λe1=>I (e1▸H)) b P j
        .have:=(h.lt M b j).1;omega
    · have j:=J t z b m;by_cases I:S M
      · rcases Q M I b q with⟨u,H,P⟩|H;.exact h.ap u t (λe1=>z (e1▸H)) b P j
        .have:=(h.lt t b j).1;omega
      .exact h.ap t M hne b j (J M I b q)
theorem Pt(h:Hl n F k0 W a0 e a k){x:Operand}{K:Env T->Option R}{r:R}(hk:S9 e x K=some r):∃U k',K U=some r/\k'.w=k.w/\Hl n F k0 W a0 U a k':=by
 have V:∀{s:Nat}{el:TypeId}{u:Tp} {m:List (T.D u)},lk e s= .own false el u m->∃k',k'.w=k.w/\Hl n F k0 W a0 ((s, .v (.list u) m)::iV (klA s) e) a k'/\IsV m (a.get s) k':=by intro s el u m f;have g:=h.sl s;rw[f]at g;obtain⟨k',G,H⟩:=ah.gz (show ah 0 el m _ k from g);exact⟨k',G.w,h.hand (by rw[f];rfl) G (by rw[f];exactλb I=>I) H (λ _=>rfl) rfl,H⟩
 have J:∀{s:Nat}{u:Tp}{x:T.D u},lk e s= .box false u x->∃k',k'.w=k.w/\Hl n F k0 W a0 ((s, .ref u x)::iV (klA s) e) a k'/\aS x (a.get s) k':=by intro s u x f;have g:=h.sl s;rw[f]at g;obtain⟨b,I,M⟩:=g;obtain⟨k',G,H⟩:=M.gz;exact⟨k',G.w,h.hand (by rw[f];rfl) G (by rw[f];intro b' O;rw[<-O];exact I) (by rw[I];exact H) (λ _=>rfl) rfl,by rw[I];exact H⟩
 unfold S9 at hk;split at hk
 · rename_i t;split at hk;·rename_i el u m f;rw[gD]at hk;obtain⟨k',h1,q,_⟩:=V f;exact⟨_,k',hk,h1,q⟩
   ·rename_i u x f;rw[gD]at hk;obtain⟨k',h1,q,_⟩:=J f;exact⟨_,k',hk,h1,q⟩
   · rename_i s f;split at hk;·rename_i el u m j;rw[gD]at hk;obtain⟨k',h1,q,P⟩:=V j;cases y:aJ (lk _ t)with|true=>rw[y]at hk;simp at hk;|false=>
      rw[y]at hk;have z:a.get t=a.get s:=by have:=h.sl t;rw[f]at this;exact this
      have E:t≠s:=λe=>by rw[e,j]at f;simp at f
      refine⟨_,k',hk,h1,q.set ?_ (by rw[z];exact P) (λ _ Q=>by simp[AV.bP]at Q) rfl⟩;rw[bg,if_neg (Ne.symm E)];exact y
     ·rename_i u x j;rw[gD]at hk;obtain⟨k',h1,q,P⟩:=J j;cases y:aJ (lk _ t)with|true=>rw[y]at hk;simp at hk;|false=>
      rw[y]at hk;have z:a.get t=a.get s:=by have:=h.sl t;rw[f]at this;exact this
      have E:t≠s:=λe=>by rw[e,j]at f;simp at f
      refine⟨_,k',hk,h1,q.set ?_ (by rw[z];exact P) (λ _ Q=>by simp[AV.bP]at Q) rfl⟩;rw[bg,if_neg (Ne.symm E)];exact y
     .exact⟨e,k,hk,rfl,h⟩
   .exact⟨e,k,hk,rfl,h⟩
 .exact⟨e,k,hk,rfl,h⟩
end
section
variable{C:Cx T}{n:Nat}{F:FP}{k0:K}{W:List Nat}{a0:Act}{a:Act}
theorem p5:∀{l:List Operand}{e:Env T}{k:K}{K:Env T->Option R}{r:R},Hl n F k0 W a0 e a k->frz e l K=some r->∃f k',K f=some r/\k'.w=k.w/\Hl n F k0 W a0 f a k'|[],e,k,_,_,h,hk=>⟨e,k,hk,rfl,h⟩|x::l,e,k,_,_,h,hk=>by have⟨e1,E,h1,g,j⟩:=Pt h (hk);have⟨m,q,u,y,z⟩:=p5 j h1;exact⟨m,q,u,y.trans g,z⟩
theorem ng:∀{l:List Oper}{e:Env T}{k:K}{K:Env T->Option R}{r:R},Hl n F k0 W a0 e a k->qe C l e K=some r->∃q k',K q=some r/\k'.w=k.w/\Hl n F k0 W a0 q a k'
 |[],e,k,_,_,h,hk=>⟨e,k,hk,rfl,h⟩|o::l,e,k,K,r,h,hk=>by
  simp only[qe]at hk;split at hk;.rename_i d _ _;cases u:C.own.contains d with|true=>rw[u]at hk;exact ng h hk;|false=>
   rw[u]at hk;split at hk;.rename_i t x g;rw[gD]at hk;have f:=h.sl d;rw[g]at f;have⟨b,y,j⟩:=f;have⟨k',z,E⟩:=j.gz;have h1:=h.hand (av:= .ref t x) (by rw[g];rfl) z (by rw[g];intro O m;rw[<-m];exact y) (by rw[y];exact E) (λ _=>rfl) rfl;have⟨G,H,I,J,M⟩:=ng h1 hk;exact⟨G,H,I,J.trans z.w,M⟩
   .exact ng h hk
  .exact ng h hk
end
end Go.Gb
namespace Go.Gb
variable{T:Tb}{R:Type}
section
variable{C:Cx T}{n:Nat}{F:FP}{k0:K}{W:List Nat}{a0:Act}{e:Env T}{a a':Act}{k k':K}
theorem nf(h:Hl n F k0 W a0 e a k){x:Operand}{s:Nat}(f:qu e x=some s):a.eval x=a.get s:=by
 unfold qu at f;split at f
 · rename_i t;split at f;.rename_i j g;obtain rfl:=ae f;have:=h.sl t;rw[g]at this;exact this
   .obtain rfl:=ae f;rfl
   .obtain rfl:=ae f;rfl
   .obtain rfl:=ae f;rfl
   .obtain rfl:=ae f;rfl
   .simp at f
 .simp at f
theorem Rk.Hk{f:Rk}{w:f.D T}{v:Value}(h:isN f=false):(f.av w).is a v k↔f.is w v k:=by cases f<;>first|exact iD|simp[isN]at h
theorem Rk.C6{f:Rk}{w:f.D T}{v:Value}(h:isN f=false):(f.av w).fp v k=f.fp T v k:=by cases f<;>first|rfl|simp[isN]at h
theorem Rk.xx{f:Rk}{w:f.D T}{t:Nat}:(f.av w).bP t=false:=by cases f<;>rfl
theorem Rk.SF{f:Rk}{w:f.D T}(h:isN f=false):unl (f.av w)=true:=by cases f<;>first|rfl|simp[isN]at h
theorem Rk.fpN{g:Rk}{v:Value}(h:isN g=true):∀b,¬g.fp T v k b:=by cases g<;>first|exactλ _ f=>f|simp[isN]at h
theorem CH{ro:Rk}{cod:List Tp}{w:ro.D T}{r:HL T.S cod}{t:Nat}:(uJ ro cod w r).bP t=false:=by unfold uJ;cases isN ro with|true=>exact qZ;|false=>
 split;.exact Rk.xx
 .rfl
theorem AI{f:Rk}{av:AV T}{y:f.D T}{v:Value}(h:ki f av=some y)(g:av.is a v k)(z:aJ av=true):f.is y v k/\(isN f=false->f.fp T v k=av.fp v k/\unl av=true):=by cases f with
 |n=>exact⟨trivial,λh=>by simp[isN]at h⟩;|o e t=>cases av with
  |own l E u G=>cases l with|true=>simp[ki]at h;|false=>simp[ki]at h;cases j:Nat.beq e E with|false=>rw[j]at h;simp at h;|true=>rw[j]at h;obtain rfl:=ba j;have⟨q,w⟩:=cast?_eq h;injection q with q;subst q;obtain rfl:y=G:=w;exact⟨g,λ _=>⟨rfl,rfl⟩⟩
  |e0=>simp[aJ]at z;|_=>simp[ki]at h
 |b t=>cases av with
  |box l u x=>cases l with|true=>simp[ki]at h;|false=>obtain⟨rfl,w⟩:=cast?_eq h;obtain rfl:y=x:=w;exact⟨g,λ _=>⟨rfl,rfl⟩⟩
  |_=>simp[ki]at h
 |c m=>cases av with
 |rs l I x=>cases l with|true=>simp[ki]at h;|false=>
 simp[ki]at h;split at h;.rename_i H _;obtain rfl:=H.down;obtain rfl:=ae h;exact⟨g,λ _=>⟨rfl,rfl⟩⟩
 .simp at h
  |_=>simp[ki]at h
theorem Hf{c:Bool}{x:Option R}{r:R}(h:(bif c then x else none)=some r):c=true/\x=some r:=by
 cases c;.simp at h
 .exact⟨rfl,h⟩
theorem Ln{f:Rk}(h:isN f=false){x:Operand}:HF e f (some x)=(match qu e x with|some s=>(match ki f (lk e s)with|some y=>bif aJ (lk e s)then some (some s,y)else none|none=>none)|none=>none):=by cases f<;>first|rfl|simp[isN]at h
theorem KU{f:Rk}(g:isN f=false){r:Option Nat×f.D T}(h:HF e f none=some r):∃s z,ki f (lk e s)=some z/\aJ (lk e s)=true/\r=(some s,z):=by cases f with|c m=>simp[HF]at h;grind;|n=>simp[isN]at g;|o _ _=>simp[HF]at h;|b _=>simp[HF]at h
theorem CJ(h:Hl n F k0 W a0 e a k){g:Rk}{j:Option Operand}{s:Option Nat}{y:g.D T}(f:HF e g j=some (s,y)):∃u,g.is y u k/\(∀x,j=some x->a.eval x=u)/\((s=none/\isN g=true/\j=none)∨∃t,s=some t/\isN g=false/\u=a.get t/\unl (lk e t)=true/\g.fp T u k=(lk e t).fp (a.get t) k):=by cases m:isN g with
 |true=>cases g with
  |n=>cases j with|none=>have f:some _=some (s,y):=f;simp only[aU,Prod.mk.injEq]at f;exact⟨undef,trivial,λx H=>by simp at H, .inl ⟨f.1.symm,rfl,rfl⟩⟩;|some x=>exact nomatch(show(none:Option _)=some (s,y)from f)
  |_=>simp[isN]at m
 |false=>cases j with|none=>have⟨t,z,q,w,O⟩:=KU m f;have⟨h1,G⟩:=AI q (h.sl t) w;grind;|some x=>
 rw[Ln m]at f;split at f
 · rename_i t I;split at f;.rename_i z q;have⟨w,f⟩:=Hf f;obtain⟨rfl,rfl⟩:=f;have⟨h1,G⟩:=AI q (h.sl t) w;have⟨J,M⟩:=G m;refine⟨a.get t,h1,λP E=>?_, .inr ⟨t,rfl,rfl,rfl,M,J⟩⟩;obtain rfl:=ae E;exact nf h I
   .simp at f
 .simp at f
theorem vO{tk:Bool}:∀{l:List Pm}{x:List Operand},noP tk l=true->sX tk l x=none
 |[],[],_=>rfl|[],_::_,_=>rfl| .v _::_,[],_=>rfl| .v _::l,_::x,h=>vO (l:=l) h| .tu::_,[],_=>rfl| .tu::l,_::x,h=>by cases tk with|false=>simp[noP]at h;|true=>exact vO (l:=l) (by simpa[noP]using h)
 | .tk::_,[],_=>rfl| .tk::l,_::x,h=>by cases tk with|true=>simp[noP]at h;|false=>exact vO (l:=l) (by simpa[noP]using h)
 | .fn _::_,[],_=>rfl| .fn _::l,_::x,h=>vO (l:=l) h
theorem OJ{t:Tp}{l:List Tp}{x:T.D t}{y:HL T.S l}:hdH (S:=T.S) (Jw x y)=x:=by cases l<;>rfl
theorem MX{t:Tp}{l:List Tp}{x:T.D t}{y:HL T.S l}:tlH (S:=T.S) (t:=t) (Jw x y)=y:=by cases l with|nil=>cases y;rfl;|cons _ _=>rfl
theorem TE{f:Operand->AV T}{t:Tp}{x:Operand}{l:List Pm}{r:Option (HL T.S (eY l))}{z:HL T.S (eY (.v t::l))}(h:Ps f (.v t) x l r=some z):∃y j,asT t (f x)=some y/\r=some j/\z=Jw y j:=by have h:(match(generalizing:=false)asT t (f x),r with|some y,some j=>some _|_,_=>none)=some z:=h;grind
theorem SV{q:Operand->AV T}{g:Nat}{x:Operand}{l:List Pm}{r:Option (HL T.S (eY l))}{z:HL T.S (eY (.fn g::l))}(h:Ps q (.fn g) x l r=some z):x= .func g/\r=some z:=by cases x with
 |func m=>have f:(bif Nat.beq g m then r else none)=some z:=h;cases j:Nat.beq g m with|false=>rw[j]at f;exact nomatch f;|true=>rw[j]at f;exact⟨by rw[ba j],f⟩
 |_=>exact nomatch(show(none:Option _)=some z from h)
theorem NU(q:Operand->AV T){I J:Value}{b:Act}:∀(l:List Pm)(f:List Operand)(x:HL T.S (eY l)),JW q l f=some x->tK l=true->(∀y∈f,(q y).is b (a.eval y) k)->(∀y,sX false l f=some y->a.eval y=I)->(∀y,sX true l f=some y->a.eval y=J)->PIs l x I J (f.map a.eval) k:=by intro l;induction l with
 |nil=>intro f x h _ _ _ _;cases f with|nil=>exact trivial;|cons _ _=>exact nomatch(show(none:Option _)=some x from h)
 |cons p l E=>intro f z h u hi h1 G;cases f with|nil=>exact nomatch(show(none:Option _)=some z from h);|cons x f=>have j:∀y∈f,(q y).is b _ k:=λy m=>hi y (by simp[m]);have h:Ps q p x l _=some z:=h;generalize H:JW q l f=r at h;cases p with
 |v t=>
 obtain⟨y,M,m,rfl,rfl⟩:=TE h;refine⟨?_,?_⟩;.rw[OJ];exact gJ m (hi x (by simp))
 .rw[MX];exact E f M H u j h1 G|tu=>simp[tK]at u;exact⟨h1 x rfl,E f z (H.trans h) u.2 j (λy m=>by rw[vO u.1]at m;simp at m) G⟩;|tk=>simp[tK]at u;exact⟨G x rfl,E f z (H.trans h) u.2 j h1 (λy m=>by rw[vO u.1]at m;simp at m)⟩;|fn g=>obtain⟨rfl,rfl⟩:=SV h;exact⟨rfl,E f z H u j h1 G⟩
theorem Aq{f:FuncId}{g:Option Nat}{q:FnR T}(h:De C f g=some q):Cj C.rdeps f=some q:=by unfold De at h;grind
theorem ES{s:Option Nat}{x:AV T}{e:Env T}{t:Nat}:lk (Cf s x e) t=if s=some t then x else lk e t:=by cases s with|none=>simp[Cf];|some s=>simp[Cf,bg]
theorem xU{s t:Option Nat}{u:Nat}(h:neO s t=true)(f:s=some u):t≠some u:=by rintro rfl;subst f;simp[neO]at h
theorem Ev{f:Nat->AV T->AV T}(h:∀d x,f d x=x∨f d x= .top)(s:Option Nat)(x:AV T):klO f s x=x∨klO f s x= .top:=by cases s with|none=>exact .inl rfl;|some s=>exact h s x
theorem vj{f:Nat->AV T->AV T}(h:∀d x,f d x=x∨f d x= .top)(s:Option Nat):klO f s (.top:AV T)= .top:=by rcases Ev h s _ with e|e<;>exact e
theorem E7{f:Nat->AV T->AV T}(g:∀d x,aJ x=true->f d x=x)(s:Option Nat){x:AV T}(h:aJ x=true):klO f s x=x:=by cases s with|none=>rfl;|some s=>exact g s x h
theorem FH{s:Option Nat}{x:AV T}{t:Nat}(h:(klO klA s x).bP t=true):x.bP t=true/\s≠some t:=by cases s with|none=>exact⟨h,by simp⟩;|some s=>have⟨h1,f⟩:=p8 (show(klA s x).bP t=true from h);exact⟨h1,λe=>f (ae e).symm⟩
theorem K7{s:Option Nat}{x:AV T}{t:Nat}(h:(klO kl s x).bP t=true):x.bP t=true:=by cases s with|none=>exact h;|some s=>exact Kq h
theorem L0{s:Option Nat}{x:AV T}{t:Nat}(h:(klO kl s x).jU t=true):s≠some t:=by cases s with|none=>simp;|some s=>exactλe=>(Hz (h)).2 (ae e).symm
theorem HO{A:Array Oper}{i:Nat}{g:List Nat}{o:Oper}{Q:Exit->Act->World->Prop}{P:Program}{f:FuncId}{args:Array Value}{R:Pred}(H:nth A.toList i=some o)(E:o.guard=none)(I:(execOp a.eval o).run P k.w= .ok (.enter f args) k.w)(x:∀d,o.dst=some d->d<a.tmps.size)(j:Calls P f args k.w (cr F k R))(h:∀(a':Act)(k':K)(v:Value),a'.tmps.size=a.tmps.size->a'.defers=a.defers->(∀t,o.dst≠some t->a'.get t=a.get t)->(∀d,o.dst=some d->a'.get d=v)->Chg F k k'->R v k'->wpOps P A Q g a' k'.w):wpOps P A Q (i::g) a k.w:=by rw[wpOps_cons];rw[aH]at H;unfold wpOp;simp[H,Region.wanted,E];refine .inl ?_;unfold Oper.wp;rw[I];refine Calls.mono j λe U G=>?_;cases e with
 |returned v=>obtain⟨k',rfl,J,M⟩:=G;cases z:o.dst with|none=>have e1:a.put none v=a:=rfl;grind;|some d=>
 refine h _ k' v (fG _ _ _) (ez _ _ _) (λt O=>?_) (λV y=>?_) J M;.rw[dD _ _ _ _ (x d z),if_neg (λe=>O (by rw[z,e]))]
 .rw[z]at y;obtain rfl:=ae y;rw[dD _ _ _ _ (x d z)];simp
 |panicked c=>exact G.elim;|outgrown=>exact G.elim
theorem xA(hC:rX C)(h:Hl n F k0 W a0 e a k){A:Array Oper}{i:Nat}{rest:List Nat}{o:Oper}{Q:Exit->Act->World->Prop}{K:Env T->Option R}{r:R}(hA:nth A.toList i=some o)(hg:o.guard=none)(hn:∀d,o.dst=some d->d<n/\d∈W){f:FuncId}{d:FnR T}(hd:xE C.P f d){as_:List Operand}(hx:(execOp a.eval o).run C.P k.w= .ok (.enter f (as_.map a.eval).toArray) k.w)(hk:DG C e d as_ o.dst K=some r)(hQ:∀e' a' k',K e'=some r->Hl n F k0 W a0 e' a' k'->wpOps C.P A Q rest a' k'.w):wpOps C.P A Q (i::rest) a k.w:=by
 have is1:∀x,(Cs C e x).is a (a.eval x) k:=λx=>zZ hC (fa (e:=e) (a0:=a) (by cases x with|tmp t=>exact⟨h.sl t,λ _=>rfl⟩;|global _=>exact h.gl;|_=>trivial)) h.gl;unfold DG at hk;split at hk
 .rename_i x O y s2 z hx1 hl1 hl2;have⟨m,hk⟩:=Hf hk;have⟨Pj,hres,hk⟩:=bind_some hk;rw[gD]at hk;generalize hRes:d.inj Pj=res at hk;simp only[aD]at m;have⟨⟨⟨⟨hu,hne12⟩,hned1⟩,hned2⟩,_⟩:=m;have⟨u1,hi1,ho1,hc1⟩:=CJ h hl1;have⟨u2,hi2,ho2,hc2⟩:=CJ h hl2;have fp1:∀b,d.tu.fp T u1 k b->∃t,O=some t/\unl (lk e t)=true/\(lk e t).fp (a.get t) k b:=λb m=>by
   rcases hc1 with⟨_,h1,_⟩|⟨t,h1,_,_,I,h4⟩;.exact(Rk.fpN h1 b m).elim
   .exact⟨t,h1,I,by rw[<-h4];exact m⟩
  have fp2:∀b,d.tk.fp T u2 k b->∃t,s2=some t/\unl (lk e t)=true/\(lk e t).fp (a.get t) k b:=λb m=>by
   rcases hc2 with⟨_,h1,_⟩|⟨t,h1,_,_,I,h4⟩;.exact(Rk.fpN h1 b m).elim
   .exact⟨t,h1,I,by rw[<-h4];exact m⟩
  have ap12:bj _ _:=λb h1 H=>by have⟨t,e1,_,I⟩:=fp1 b h1;have⟨t',e2,_,h4⟩:=fp2 b H;exact h.ap t t' (λe3=>xU hne12 e1 (e3▸e2)) b I h4
  refine HO hA hg hx (λdd hdd=>by rw[h.s];exact(hn dd hdd).1) (hd.ok k _ u1 u2 x y z Pj h.gl (NU (Cs C e) _ _ _ hx1 hu (λy _=>is1 y) ho1 ho2) hi1 hi2 ap12 hres) λa' k' v hsz hdf U V hch q=>?_;rw[hRes]at q;have lkE:∀t,lk (Cf o.dst _ (Cf O (d.tu.av res.1) (Cf s2 .top (iV (λa=>klO kl O (klO klA s2 (klO klA o.dst a))) e)))) t=if o.dst=some t then uJ d.ro d.cod res.2.1 res.2.2 else if O=some t then d.tu.av res.1 else if s2=some t then .top else klO kl O _:=λt=>by rw[ES,ES,ES,kB (by rw[vj iI,vj iI,vj we])]
  generalize Cf o.dst _ _=E at hk lkE;have M:∀t,O=some t->a'.get t=a.get t:=λt g=>U t λe1=>xU hned1 e1 g;have keep2:∀t,s2=some t->a'.get t=a.get t:=λt g=>U t λe1=>xU hned2 e1 g;have lkd:∀t,o.dst=some t->lk E t=uJ d.ro d.cod res.2.1 res.2.2:=λt g=>by rw[lkE,if_pos g]
  have lk1:∀t,O=some t->lk E t=d.tu.av res.1:=λt g=>by rw[lkE,if_neg (λe1=>xU hned1 e1 g),if_pos g]
  have lk2:∀t,s2=some t->lk E t= .top:=λt g=>by rw[lkE,if_neg (λe1=>xU hned2 e1 g),if_neg (λe1=>xU hne12 e1 g),if_pos g]
  have tu1:∀t,O=some t->isN d.tu=false/\u1=a.get t:=λt g=>by
   rcases hc1 with⟨h1,_⟩|⟨t',h1,H,I,_⟩;.rw[h1]at g;simp at g
   .rw[h1]at g;obtain rfl:=ae g;exact⟨H,I⟩
  have fpd:∀t,o.dst=some t->∀b,(lk E t).fp (a'.get t) k' b->(d.tu.fp T u1 k b∨d.tk.fp T u2 k b)∨k.w.heap.size<=b:=λt g b m=>by rw[lkd t g,V t g]at m;exact q.w2 b m
  have fpe1:∀t,O=some t->(lk E t).fp (a'.get t) k'=d.tu.fp T u1 k':=λt g=>by rw[lk1 t g,M t g,(tu1 t g).2,Rk.C6 (tu1 t g).1]
  have fpS:∀t,(o.dst=some t∨O=some t∨s2=some t)->∀b,(lk E t).fp (a'.get t) k' b->(d.tu.fp T u1 k b∨d.tk.fp T u2 k b)∨k.w.heap.size<=b:=λt g b m=>by
   rcases g with g|g|g;.exact fpd t g b m
   .rw[fpe1 t g]at m;exact q.w1 b m
   .rw[lk2 t g]at m;exact m.elim
  refine hQ _ a' k' hk (h.Oy (G:=λb=>d.tu.fp T u1 k b∨d.tk.fp T u2 k b) (λt=>o.dst=some t∨O=some t∨s2=some t) hch (λb m=>?_) hsz hdf (λt g=>U t λe1=>g (hn t e1).2) (λt g=>U t λe1=>g (.inl e1)) (λt g=>?_) (λt g u=>?_) (λt g _ b m=>?_) (λt g b m=>?_) (λt u g j hne b m J=>?_) (λt g=>?_) (λt g hr=>?_))
  · rcases m with m|m;.have⟨t,h1,H,I⟩:=fp1 b m;exact⟨t, .inr (.inl h1),H,I⟩
    .have⟨t,h1,H,I⟩:=fp2 b m;exact⟨t, .inr (.inr h1),H,I⟩
  · rcases g with g|g|g;.rw[lkd t g,V t g];exact Jd (λs=>CH) q.res
    .rw[lk1 t g,M t g,<-(tu1 t g).2];exact(Rk.Hk (tu1 t g).1).2 q.tu
    .rw[lk2 t g];trivial
  · rcases g with g|g|g;.rw[lkd t g];exact CH
    .rw[lk1 t g];exact Rk.xx
    .rw[lk2 t g];rfl
  · rcases fpS t g b m with h1|h1;.exact .inl h1
    .exact .inr (.inr h1)
  · rcases fpS t g b m with h1|h1
    · rcases h1 with h1|h1;.have⟨t',H,_,I⟩:=fp1 b h1;exact .inl ⟨t', .inr (.inl H),I⟩
      .have⟨t',H,_,I⟩:=fp2 b h1;exact .inl ⟨t', .inr (.inr H),I⟩
    .exact .inr h1
  · rcases g with g|g|g
    · rcases j with j|j|j;.exact hne (ae (g.symm.trans j))
      ·rw[lkd t g,V t g]at m;rw[fpe1 u j]at J;exact q.ap b J m
      .rw[lk2 u j]at J;exact J
    · rcases j with j|j|j;·rw[lkd u j,V u j]at J;rw[fpe1 t g]at m;exact q.ap b m J
      .exact hne (ae (g.symm.trans j))
      .rw[lk2 u j]at J;exact J
    .rw[lk2 t g]at m;exact m
  · have e1:lk E t=klO kl O (klO klA s2 (klO klA o.dst (lk e t))):=by rw[lkE,if_neg (λe1=>g (.inl e1)),if_neg (λe1=>g (.inr (.inl e1))),if_neg (λe1=>g (.inr (.inr e1)))]
    have key:∀u,(lk E t).bP u=true->(o.dst≠some u/\s2≠some u):=λu j=>by rw[e1]at j;have⟨h1,H⟩:=FH (K7 j);exact⟨(FH h1).2,H⟩
    have key2:∀u,(lk E t).jU u=true->O≠some u:=λu j=>by rw[e1]at j;exact L0 j
    have hor:lk E t=lk e t∨lk E t= .top:=by
     rw[e1];rcases Ev iI o.dst (lk e t)with h1|h1
     · rw[h1];rcases Ev iI s2 (lk e t)with H|H;.rw[H];exact Ev we O (lk e t)
       .rw[H,vj we];exact .inr rfl
     .rw[h1,vj iI,vj we];exact .inr rfl
    rcases hor with h1|h1
    · refine .inr ⟨h1,λu j hS=>?_⟩;have⟨H,I⟩:=key u (by rw[h1];exact j);rcases hS with hS|hS|hS;.exact(H hS).elim
      · refine⟨M u hS,?_,?_⟩;.rw[lk1 u hS];exact tC (Rk.SF (tu1 u hS).1)
        .cases h4:(lk e t).jU u with|false=>rfl;|true=>exact absurd hS (key2 u (by rw[h1];exact h4))
      .exact(I hS).elim
    .exact .inl h1
  .rw[lkE,if_neg (λe1=>g (.inl e1)),if_neg (λe1=>g (.inr (.inl e1))),if_neg (λe1=>g (.inr (.inr e1))),E7 (λ _ _=>ta) _ hr,E7 (λ _ _=>ta) _ hr,E7 (λ _ _=>Mc) _ hr]
 .simp at hk
theorem Hl.MJ(h:Hl n F k0 W a0 e a k){s d:Nat}{x y:AV T}(M:s≠d)(O:d∈W)(hu:unl (lk e s)=true)(P:a'.tmps.size=a.tmps.size)(Q:a'.defers=a.defers)(w:∀t,t≠d->a'.get t=a.get t)(hv:x.is a' (a'.get d) k')(hm:∀t,x.bP t=false)(hf:∀b,x.fp (a'.get d) k' b->(lk e s).fp (a.get s) k b)(hy:y.is a' (a'.get s) k')(U:∀t,y.bP t=false)(E:aJ y=false)(V:bE k k'):Hl n F k0 W a0 ((d,x)::(s,y)::iV (λz=>klA s (klA d z)) e) a' k':=by
 have J:∀t,t≠d->t≠s->lk ((d,x)::(s,y)::iV (λz=>klA s (klA d z)) e) t=klA s _:=λt h1 h2=>by rw[bg,if_neg (Ne.symm h1),bg,if_neg (Ne.symm h2),kB rfl]
 have H:lk ((d,x)::(s,y)::iV (λz=>klA s (klA d z)) e) d=x:=by rw[bg,if_pos rfl]
 have q:lk ((d,x)::(s,y)::iV (λz=>klA s (klA d z)) e) s=y:=by rw[bg,if_neg (Ne.symm M),bg,if_pos rfl]
 have hS:∀t,(t=d∨t=s)->∀b,(lk _ t).fp (a'.get t) k' b->(lk e s).fp _ k b:=λt g b j=>by
  rcases g with rfl|rfl;.rw[H]at j;exact hf b j
  .rw[q]at j;exact absurd j (dG E _ _ b)
 refine h.Oy (G:=noF) _ (Chg.of V) (λ _ f=>f.elim) P Q (λt g=>w t λe1=>g (e1▸O)) (λt g=>w t λe1=>g (.inl e1)) (λt g=>?_) (λt g u=>?_) (λt g _ b j=> .inr (.inl ⟨s, .inr rfl,hu,hS t g b j⟩)) (λt g b j=> .inl ⟨s, .inr rfl,hS t g b j⟩) (λt u g m hne=>?_) (λt g=>?_) (λt g hr=>?_)
 · rcases g with rfl|rfl;.rw[H];exact hv
   .rw[q];exact hy
 · rcases g with rfl|rfl;.rw[H];exact hm u
   .rw[q];exact U u
 · rcases g with rfl|rfl
   · rcases m with rfl|rfl;.exact absurd rfl hne
     .intro b _ j;rw[q]at j;exact dG E _ _ b j
   .intro b j;rw[q]at j;exact(dG E _ _ b j).elim
 · rw[J t (λe1=>g (.inl e1)) (λe1=>g (.inr e1))];rcases iI d (lk e t)with e1|e1
   · rw[e1];rcases iI s (lk e t)with I|I
     · refine .inr ⟨I,λu m hSu=>?_⟩;rcases hSu with rfl|rfl;.rw[<-e1]at m;exact absurd rfl (p8 m).2
       .rw[<-I]at m;exact absurd rfl (p8 m).2
     .exact .inl I
   .rw[e1];exact .inl (by rcases iI s (.top:AV T)with I|I<;>exact I)
 .rw[J t (λe1=>g (.inl e1)) (λe1=>g (.inr e1)),ta hr,ta hr]
theorem Hl.SR{n:Nat}{F:FP}{k0:K}{W:List Nat}{a0:Act}{e:Env T}{a:Act}{k:K}(h:Hl n F k0 W a0 e a k){c:Nat}{av:AV T}(x:aJ (lk e c)=false)(y:aJ av=false)(H:∀s,av.bP s=false)(I:av.is a (a.get c) k):Hl n F k0 W a0 ((c,av)::e) a k:=by
 have f:∀t,lk _ t=if c=t then av else lk e t:=λt=>bg _ _ _ _;have m:∀t,aJ (lk _ t)=aJ (lk e t):=λt=>by
  rw[f];split;.rename_i h1;subst h1;rw[x,y]
  .rfl
 have q:∀t b,(lk _ t).fp _ k b->(lk e t).fp (a.get t) k b:=λt b j=>by
  rw[f]at j;split at j;.exact absurd j (dG y _ _ b)
  .exact j
 refine⟨h.g,h.s,h.d,h.old,λt=>?_,λt s u=>?_,λt w=>?_,λt G z b j E=>h.ap t G z b (q t b j) (q G b E),h.gl⟩
 · rw[f];split;.rename_i h1;subst h1;exact I
   .exact h.sl t
 · rw[f]at u;split at u;.rw[H]at u;simp at u
   .rw[m];exact h.inv t s u
 · rw[f]at w⊢;split at w;.have:=tC w;rw[y]at this;simp at this
   .rename_i h1;rw[if_neg h1];exact h.wr t w
theorem Gz(hC:rX C)(h:Hl n F k0 W a0 e a k){A:Array Oper}{i:Nat}{rest:List Nat}{o:Oper}{Q:Exit->Act->World->Prop}{K:Env T->Option R}{r:R}(hA:nth A.toList i=some o)(hg:o.guard=none)
    (hn:∀d,o.dst=some d->d<n/\d∈W)(hk:zw C e o K=some r)
    (hQ:∀e' a' k',K e'=some r->Hl n F k0 W a0 e' a' k'->wpOps C.P A Q rest a' k'.w):wpOps C.P A Q (i::rest) a k.w:=by
 have is1:∀x,(opv e x).is a (a.eval x) k:=λx=>fa (e:=e) (a0:=a) (by cases x with|tmp t=>exact⟨h.sl t,λ _=>rfl⟩;|global _=>exact h.gl;|_=>trivial);have pure1:∀d,o.dst=some d->∀{K1:AV T->Option R},rk C e o K1=some r->∃av,K1 av=some r/\(∀s,av.bP s=true->aJ (lk e s)=true)/\aJ av=false/\aX C.P o a k (av.is a):=by intro d hd K1 h1;obtain⟨av,h2,h3,h4,h5⟩:=G9 hC h.inv h1;exact⟨av,h2,h3,h4,h5 a a k (h.rd1 o)⟩
 have simple:∀d,o.dst=some d->(rk C e o λx=>put e d x K)=some r->wpOps C.P A Q (i::rest) a k.w:=by
  intro d hd h1;obtain⟨av,h2,h3,h4,h5⟩:=pure1 d hd h1;obtain⟨hdn,hdW⟩:=hn d hd;refine bL hA hg hd (by rw[h.s];exact hdn) trivial h5 λa' k' hs hdf hoth hgr hv=>?_;have hv':av.is a' (a'.get d) k':=av.congr (λs hs'=>hoth s (λe=>by
 have:av.bP d=false:=by cases hmd:av.bP d with|false=>rfl;|true=>unfold Gb.put at h2;rw[hmd]at h2;simp at h2
 rw[e,this]at hs';simp at hs')) hv;obtain⟨e',h6,h7⟩:=h.BP hdW hgr hs hdf hoth hv' h3 (λb hb=>absurd hb (dG h4 _ _ b)) h2;exact hQ e' a' k' h6 h7
 have fresh:∀d,o.dst=some d->∀{av:AV T},put e d av K=some r->(∀t,av.bP t=false)->aX C.P o a k (λv k'=>(∀a1:Act,av.is a1 v k')/\∀b,av.fp v k' b->k.w.heap.size<=b)->wpOps C.P A Q (i::rest) a k.w:=by intro d hd av h2 h3 h5;obtain⟨hdn,hdW⟩:=hn d hd;refine bL hA hg hd (by rw[h.s];exact hdn) trivial h5 λa' k' hs hdf hoth hgr hv=>?_;obtain⟨e',h6,h7⟩:=h.BP hdW hgr hs hdf hoth (hv.1 a') (λs hs=>by rw[h3]at hs;simp at hs) hv.2 h2;exact hQ e' a' k' h6 h7
 unfold zw at hk;split at hk
 .
   rename_i ty p y hop hd
   split at hk
   · rename_i pt
     have hsel : ∀ av : AV T, (match lk e pt with | .al s => (match lk e s with | .box _ t x => AV.ab s t x t (iu.id t) | _ => .top) | .box _ t x => AV.ab pt t x t (iu.id t) | a => a) = av -> av.is a (a.get pt) k := by
       intro av hav
       have hsl := h.sl pt
       split at hav
       · rename_i s hl
         rw [hl] at hsl
         split at hav
         · rename_i lck t x hl'
           have hsl' := h.sl s
           rw [hl'] at hsl'
           obtain ⟨b, hb, hbx⟩ := hsl'
           rw [<- hav]
           exact ⟨iu.Ki, b, hb, (show a.get pt = a.get s from hsl).trans hb, hbx⟩
         .rw [<- hav]; trivial
       · rename_i lck t x hl
         rw [hl] at hsl
         obtain ⟨b, hb, hbx⟩ := hsl
         rw [<- hav]
         exact ⟨iu.Ki, b, hb, hb, hbx⟩
       .rw [<- hav]; exact hsl
     split at hk
     · rename_i s t x u L hav
       have hp := hsel _ hav
       split at hk
       · rename_i t' x' hl
         split at hk
         · rename_i z hz
           cases hb : tyB C.P T ty u with
           | false => rw [hb] at hk; simp at hk
           | true =>
             rw [hb] at hk; simp only [cond_true] at hk
             rw [gD] at hk
             obtain ⟨hL, b, h1, h2, h3⟩ := hp
             have hfp : ∀ b', Eq b b' -> (lk e s).fp (a.get s) k b' := by rw [hl]; intro b' hb'; rw [<- hb']; exact h1
             refine cG hA hg hop hd (qP hb) hL.2.1 h2 h3 (gJ hz (is1 y)) λ k' hc hbx => ?_
             refine hQ _ a k' hk (h.Om (av := .box false t (L.set x z)) (by rw [hl]; rfl) hc hfp ⟨b, h1, hbx⟩ (λ _ => rfl) rfl λ b' hb' => ?_)
             rw [hl]; exact hb'
         .simp at hk
       .simp at hk
     · rename_i s el t xs i' x u L hav
       have hp := hsel _ hav
       split at hk
       · rename_i el' t' xs' hl
         split at hk
         · rename_i z hz
           cases hb : tyB C.P T ty u with
           | false => rw [hb] at hk; simp at hk
           | true =>
             rw [hb] at hk; simp only [cond_true] at hk
             rw [gD] at hk
             obtain ⟨hL, h1, h2, h3⟩ := hp
             have hfp : ∀ b', obF (a.get s) b' -> (lk e s).fp (a.get s) k b' := by rw [hl]; intro b' hb'; exact hb'
             refine za (u := a.get s) (xs := xs) (x := x) hA hg hop hd (qP hb) hL.2.1 h1 h2 h3 (gJ hz (is1 y)) λ k' hc hown => ?_
             refine hQ _ a k' hk (h.Om (av := .own false el t (xs.set i' (L.set x z))) (by rw [hl]; rfl) hc hfp hown (λ _ => rfl) rfl λ b' hb' => ?_)
             rw [hl]; exact hb'
         .simp at hk
       .simp at hk
     .simp at hk
   .simp at hk
 . rename_i ty x y z hop hd;split at hk
   · rename_i s hs;split at hk
     · rename_i m r' hl;split at hk;·rename_i q hq;cases hb:Nat.beq ty q.ty with|false=>rw[hb]at hk;simp at hk;|true=>
 rw[hb]at hk;simp only[cond_true]at hk;obtain rfl:=ba hb;split at hk
 · rename_i n' w hn' hw;obtain⟨r2,hr2,hk⟩:=bind_some hk;rw[gD]at hk;have hsl:=h.sl s;rw[hl]at hsl;obtain⟨F',hr⟩:=hsl;have hev:=nf h hs;rw[<-hev]at hr;have hQ':=hQ;rw[hC.pe]at hQ'⊢;refine q.set_ok hA hg hop hd hr (gJ hn' (is1 y)) (gJ hw (is1 z)) hr2 λk' hc hr'=>?_;rw[hev]at hr hr';have hF:(lk e s).fp (a.get s) k=F':=by rw[hl];exact iB hr
   refine hQ' _ a k' hk (h.Om (av:= .rs false m r2) (by rw[hl];rfl) hc (λb hb=>by rw[hF];exact hb) ⟨F',hr'⟩ (λ _=>rfl) rfl λb hb=>?_);rw[hF];rw[<-iB hr'];exact hb
 .simp at hk
       .simp at hk
     .simp at hk
   .simp at hk
 . rename_i ty d hop hd;split at hk
   · rename_i m hm;split at hk;·rename_i q hq;cases hb:Nat.beq ty q.ty with|false=>rw[hb]at hk;simp at hk;|true=>
      rw[hb]at hk;simp only[cond_true]at hk;obtain rfl:=ba hb;have h1:aX C.P o a k λv k'=>∃F,T.RP m q.new F v k'/\∀b,F b->k.w.heap.size<=b:=by rw[hC.pe];exact q.new_ok hop
      refine fresh d hd hk (λ _=>rfl) (cu h1 λv k' _ hb=>?_);obtain⟨F',h2,h3⟩:=hb;exact⟨λ _=>⟨F',h2⟩,λb hb'=>h3 b (by rw[<-iB h2];exact hb')⟩
     .simp at hk
   .simp at hk
 . rename_i ty d hop hd;split at hk;·rename_i t ht;cases hz:oP C.P T ty t with|false=>rw[hz]at hk;simp at hk;|true=>rw[hz]at hk;simp only[cond_true]at hk;obtain⟨_,zv,_,_,_,_,hrun,_,hv⟩:=xd hz;refine fresh d hd hk (λ _=>rfl) (cu (gu k.w.heap.size (aA _) hop ⟨zv,hrun,hv⟩) λv k' _ hb=>?_);obtain⟨b,rfl,h1,h2⟩:=hb;exact⟨λ _=>⟨b,rfl,h2⟩,λb' hb'=>by simp only[AV.fp,Value.pointer.injEq,aU,Addr.mk.injEq,and_true]at hb';omega⟩
   .simp at hk
 . rename_i ty x d hop hd;split at hk;·rename_i t y hx;cases hz:tyB C.P T ty t with|false=>rw[hz]at hk;simp at hk;|true=>rw[hz]at hk;simp only[cond_true]at hk;have hxv:=is1 x;rw[hx]at hxv;refine fresh d hd hk (λ _=>rfl) (cu (AX k.w.heap.size (aA _) hop (show IsV y (a.eval x) k from hxv)) λv k' _ hb=>?_);obtain⟨b,rfl,h1,h2⟩:=hb;exact⟨λ _=>⟨b,rfl,h2⟩,λb' hb'=>by simp only[AV.fp,Value.pointer.injEq,aU,Addr.mk.injEq,and_true]at hb';omega⟩
   .simp at hk
 .
   rename_i x d hop hd
   split at hk
   · rename_i s hs
     split at hk
     · rename_i el t xs hl
       rw [gD] at hk
       obtain ⟨hdn, hdW⟩ := hn d hd
       refine dg hA hg (.inl hop) hd (by rw [h.s]; exact hdn) λ a' hsz hdf hnew hoth => ?_
       have hsl := h.sl s
       rw [hl] at hsl
       have h1 := h.TA (k' := k) (G := noF) (s := s) (by rw [hl]; rfl) (Chg.refl _ k) (λ b hb => hb.elim)
       have hv : a'.get d = a.get s := hnew.trans (nf h hs)
       have hfp : ∀ b, obF (a.get s) b -> (lk e s).fp (a.get s) k b := by rw [hl]; exact λ b hb => hb
       obtain ⟨e', h2, h3, h4, h5⟩ := h1.put (av := .own false el t xs) hdW (bE.refl k) hsz hdf hoth (by rw [hv]; exact hsl) (λ s' hs' => by simp [AV.bP] at hs') (λ _ => by
           rw [hv]; exact λ b hb => h.wr s (by rw [hl]; rfl) b (hfp b hb)) (λ t' ht' b hb hb' => by
           rw [hv] at hb
           rw [bg] at hb'
           by_cases e1 : s = t'
           .rw [if_pos e1] at hb'; exact hb'
           · rw [if_neg e1, kB rfl] at hb'
             rcases iI s (lk e t') with e2 | e2
             .rw [e2] at hb'; exact h.ap s t' e1 b (hfp b hb) hb'
             .rw [e2] at hb'; exact hb') hk
       by_cases hsd : s = d
       .
         subst hsd
         have hn' : aJ (lk e' s) = true := by rw [h4]; rfl
         exact absurd h2 (by
           intro h2
           cases hb : aJ (lk e' s) with
           | false => rw [hn'] at hb; simp at hb
           | true => rw [hb] at h2; simp at h2)
       · have hns : aJ (lk e' s) = false := by
           rcases h5 s hsd with e1 | e1
           .rw [e1, bg, if_pos rfl]; rfl
           .rw [e1]; rfl
         rw [hns] at h2
         simp only [cond_false] at h2
         refine hQ _ a' k h2 (h3.set (av := .al d) hns ?_ (λ t' ht' => by rw [<- ba ht', h4]; rfl) rfl)
         exact (hoth s hsd).trans hv.symm
     · rename_i m z hl
       cases hsd : Nat.beq s d with
       | true => rw [hsd] at hk; simp at hk
       | false =>
       rw [hsd] at hk; simp only [cond_false] at hk
       rw [gD] at hk
       have hsd : s ≠ d := λ e => by rw [e, cL] at hsd; simp at hsd
       obtain ⟨hdn, hdW⟩ := hn d hd
       refine dg hA hg (.inl hop) hd (by rw [h.s]; exact hdn) λ a' hsz hdf hnew hoth => ?_
       have hv : a'.get d = a.get s := hnew.trans (nf h hs)
       exact hQ _ a' k hk (h.MJ (x := .rs false m z) (y := .top) hsd hdW (by rw [hl]; rfl) hsz hdf hoth (by rw [hv]; have := h.sl s; rw [hl] at this; exact this) (λ _ => rfl) (λ b hb => by rw [hv] at hb; rw [hl]; exact hb) trivial (λ _ => rfl) rfl (bE.refl k))
     .simp at hk
   .exact simple d hd hk
 .
   rename_i x ix d hop hd
   split at hk
   · rename_i s hs
     split at hk
     · rename_i κ w l hl
       cases hsd : (Nat.beq s d || isN κ) with
       | true => rw [hsd] at hk; simp at hk
       | false =>
       rw [hsd] at hk; simp only [cond_false] at hk
       simp only [pw] at hsd
       rw [gD] at hk
       have hsd' : s ≠ d := λ e => by rw [e, cL] at hsd; simp at hsd
       obtain ⟨hdn, hdW⟩ := hn d hd
       have hsl := h.sl s
       rw [hl] at hsl
       obtain ⟨u0, vs, e1, h1, h2⟩ := hsl
       have hx : a.eval x = .tuple (u0 :: vs).toArray := (nf h hs).trans e1
       refine bL hA hg hd (by rw [h.s]; exact hdn) trivial (ak (v := u0) (R := λ v _ => v = u0) (by simp only [execOp, hop, hx]; simp [Instr.extract]) rfl) λ a' k' hsz hdf hoth hgr hv => ?_
       have hv : a'.get d = u0 := hv
       have hg1 := Rk.grow h1 hgr
       have H := h.MJ (x := κ.av w) (y := .tq l) hsd' hdW (by rw [hl]; rfl) hsz hdf hoth ((Rk.Hk hsd.2).2 (by rw [hv]; exact hg1.1)) (λ _ => Rk.xx) (λ b hb => by
         rw [hv, Rk.C6 hsd.2, hg1.2] at hb
         rw [hl, e1]; exact hb) ⟨u0, vs, (hoth s hsd').trans e1, h2.le hgr.le⟩ (λ _ => rfl) rfl hgr
       refine hQ _ a' k' hk ?_
       unfold UT
       split
       · rename_i t
         split
         · rename_i s' hlt
           cases htd : Nat.beq t d with
           | true => exact H
           | false =>
             have htd' : t ≠ d := λ e => by rw [e, cL] at htd; simp at htd
             have hts : t ≠ s := λ e => by rw [e, hl] at hlt; simp at hlt
             refine H.SR ?_ rfl (λ _ => rfl) ⟨u0, vs, (hoth t htd').trans hx, h2.le hgr.le⟩
             rw [bg, if_neg (Ne.symm htd'), bg, if_neg (Ne.symm hts), kB rfl, hlt]
             simp only [klA]
             cases Nat.beq s' d
             · simp only [cond_false]
               cases Nat.beq s' s <;> rfl
             .rfl
         .exact H
       .exact H
     .exact simple d hd hk
   .exact simple d hd hk
 .rename_i ty m ps d hop hd;split at hk;.exact simple d hd hk
  · rename_i hm0;split at hk;·rename_i t el xs hb;obtain⟨h1,h2,h3,h4,h5⟩:=DA hb;refine fresh d hd hk (λ _=>rfl) (cu (pE (ps:=ps.toList) (B:=k.w.heap.size) (by rw[hop]) h1 h2 (aA _) h3 (uZ λe=>hm0 e) h4 (h5 a a k λy _=>is1 y)) λv k' _ hb=>⟨λ _=>hb.weaken (bY _),λb hb'=>(hb.lt b hb').1⟩)
    .simp at hk
 . rename_i ty lx cx d hop hd;split at hk
   · rename_i n el hn hel;split at hk;·rename_i t ht;cases hb:(u9 lx cx&&elB C.P T el t&&oP C.P T el t)with|false=>rw[hb]at hk;simp at hk;|true=>
      rw[hb]at hk;simp only[cond_true]at hk;simp only[aD]at hb;obtain⟨⟨h1,h2⟩,h3⟩:=hb;obtain⟨r,hr,hk⟩:=bind_some hk;obtain⟨i,z,cs,hi,hz,hcs,_,hrep,_⟩:=xd h3;have hev:a.eval cx=a.eval lx:=by cases lx<;>cases cx<;>simp only[u9]at h1<;>first|(rw[ba h1])|simp at h1
      have hlv:a.eval lx= .int .i64 n:=au.1 (ec hn (is1 lx));refine fresh d hd hk (λ _=>rfl) (cu (Cn (B:=k.w.heap.size) hop (jE hel) (wO h2) hi hz (by rw[hcs];exact hrep k) (aA _) hlv (hev.trans hlv) hr) λv k' _ hb=>⟨λ _=>hb.weaken (bY _),λb hb'=>(hb.lt b hb').1⟩)
     .simp at hk
   .simp at hk
 .
   rename_i c d hop hd
   obtain ⟨cal, as_, ts⟩ := c
   dsimp only at hk
   split at hk
   · split at hk
     · rename_i x y ty ty' hx hty
       obtain rfl := Ir hx
       obtain rfl := Ir hty
       cases hb : Nat.beq ty ty' with
       | false => rw [hb] at hk; simp at hk
       | true =>
         rw [hb] at hk; simp only [cond_true] at hk
         obtain rfl := ba hb
         split at hk
         · rename_i el t ys hel hl
           have hy := D6 hl (is1 y) (js h.inv) (λ s _ => h.sl s)
           cases hb : elB C.P T el t with
           | false => rw [hb] at hk; simp at hk
           | true =>
             rw [hb] at hk; simp only [cond_true] at hk
             split at hk
             · rename_i s hs
               split at hk
               · rename_i el' t' xs hls
                 split at hk
                 · rename_i xs' hxs
                   obtain ⟨he, hxe⟩ := cast?_eq hxs
                   injection he with he
                   subst he
                   obtain rfl : xs' = xs := hxe
                   cases hb2 : Nat.beq el el' with
                   | false => rw [hb2] at hk; simp at hk
                   | true =>
                     rw [hb2] at hk; simp only [cond_true] at hk
                     obtain rfl := ba hb2
                     obtain ⟨z, hz, hk⟩ := bind_some hk
                     rw [gD] at hk
                     obtain ⟨hdn, hdW⟩ := hn d hd
                     have hsl := h.sl s
                     rw [hls] at hsl
                     have hev := nf h hs
                     have hfp : ∀ b, obF (a.get s) b -> (lk e s).fp (a.get s) k b := by rw [hls]; exact λ b hb => hb
                     refine fZ hA hg hop hd (by rw [h.s]; exact hdn) (jE hel) (wO hb) (by rw [hev]; exact hsl) hy hz λ a' k' hsz hdf hoth hc hown hob => ?_
                     rw [hev] at hc hob
                     have h1 := h.TA (s := s) (by rw [hls]; rfl) hc hfp
                     obtain ⟨e', h2, h3, _⟩ := h1.put (av := .own false el t' z) hdW (bE.refl k') hsz hdf hoth hown (λ s' hs' => by simp [AV.bP] at hs') (λ _ b hb => by
                         rcases hob b hb with hb | hb
                         .exact h.wr s (by rw [hls]; rfl) b (hfp b hb)
                         .exact .inr (bB h.g.size hb)) (λ t2 ht2 b hb hb' => by
                         rw [bg] at hb'
                         by_cases e1 : s = t2
                         .rw [if_pos e1] at hb'; exact hb'
                         · rw [if_neg e1, kB rfl] at hb'
                           rcases iI s (lk e t2) with e2 | e2
                           · rw [e2, AV.oZ _ hc (λ b hb => (h.lt s b (hfp b hb)).2) (λ b hb hb' => h.ap s t2 e1 b (hfp b hb') hb) (h.sl t2)] at hb'
                             rcases hob b hb with hb | hb
                             .exact h.ap s t2 e1 b (hfp b hb) hb'
                             .have := (h.lt t2 b hb').1; omega
                           .rw [e2] at hb'; exact hb') hk
                     exact hQ e' a' k' h2 h3
                 .simp at hk
               .simp at hk
             · split at hk
               · rename_i hres
                 obtain ⟨z, hz, hk⟩ := bind_some hk
                 have hx0 := xW (is1 x) (js h.inv) (λ s _ => h.sl s)
                 rw [hres] at hx0
                 exact fresh d hd hk (λ _ => rfl) (cu (sC (B := k.w.heap.size) hop (jE hel) (wO hb) (aA _) hx0 hy hz) λ v k' _ hb => ⟨λ _ => hb.weaken (bY _), λ b hb' => (hb.lt b hb').1⟩)
               .simp at hk
         .simp at hk
     .simp at hk
   · rename_i f
     split at hk
     · rename_i q hq
       have hf := hC.rdeps f q (Aq hq)
       exact xA (as_ := as_.toList) hC h hA hg hn hf (by simp [execOp, hop, resolve, invoke, Deferred.ofValue, Act.eval, hf.call]; apply Array.ext'; simp) (by rw [hd]; exact hk) hQ
     .exact simple d hd hk
   · rename_i s
     split at hk
     · rename_i f s' hl
       split at hk
       · rename_i q hq
         have hf := hC.rdeps f q hq
         have hs := h.sl s
         rw [hl] at hs
         exact xA (as_ := .tmp s' :: as_.toList) hC h hA hg hn hf (by
           have e1 : a.eval (.tmp s) = .func (.func f) #[a.get s'] #[] := hs
           have e2 : a.eval (.tmp s') = a.get s' := rfl
           simp [execOp, hop, resolve, invoke, Deferred.ofValue, e1, e2, hf.call]) (by rw [hd]; exact hk) hQ
       .simp at hk
     .exact simple d hd hk
   .exact simple d hd hk
 . rename_i c hop hd;obtain⟨cal,as_,ts⟩:=c;dsimp only at hk;split at hk
   · rename_i f;split at hk;·rename_i q hq;have hf:=hC.rdeps f q (Aq hq);exact xA (as_:=as_.toList) hC h hA hg hn hf (by simp[execOp,hop,resolve,invoke,Deferred.ofValue,Act.eval,hf.call];apply Array.ext';simp) (by rw[hd];exact hk) hQ
     .simp at hk
   · rename_i s;split at hk
     · rename_i f s' hl;split at hk;·rename_i q hq;have hf:=hC.rdeps f q hq;have hs:=h.sl s;rw[hl]at hs;exact xA (as_:= .tmp s'::as_.toList) hC h hA hg hn hf (by have e1:a.eval (.tmp s)= .func (.func f) #[a.get s'] #[]:=hs;have e2:a.eval (.tmp s')=a.get s':=rfl;simp[execOp,hop,resolve,invoke,Deferred.ofValue,e1,e2,hf.call]) (by rw[hd];exact hk) hQ
       .simp at hk
     .simp at hk
   .simp at hk
 .exact simple _ (by assumption) hk
 .simp at hk
end
end Go.Gb
namespace Go.Gb
variable {T:Tb}{R:Type}
section
variable {C:Cx T}{F:FP}{k0:K}{W:List Nat}{a0:Act}{A:Array Oper}{Q:Exit->Act->World->Prop}
theorem Hl.lit{n:Nat}{e:Env T}{a:Act}{k:K}(h:Hl n F k0 W a0 e a k){c:Nat}{m:Bool}(z:asB (lk e c)=some m):Hl n F k0 W a0 ((c, .v .bool m)::e) a k:=by
 have E:aJ (lk e c)=false:=by generalize lk e c=av at z;cases av with|v t x=>rfl;|_=>simp[asB]at z
 have f:∀t,lk ((c,AV.v (T:=T) .bool m)::e) t=if c=t then .v .bool m else lk e t:=λt=>bg _ _ _ _;have q:∀t,aJ (lk ((c,AV.v (T:=T) .bool m)::e) t)=aJ (lk e t):=λt=>by
  rw[f];split;.rename_i h1;subst h1;rw[E];rfl
  .rfl
 have u:∀t b,(lk ((c,AV.v (T:=T) .bool m)::e) t).fp (a.get t) k b->(lk e t).fp (a.get t) k b:=λt b j=>by
  rw[f]at j;split at j;.exact j.elim
  .exact j
 refine⟨h.g,h.s,h.d,h.old,λt=>?_,λt s w=>?_,λt y=>?_,λt I G b j H=>h.ap t I G b (u t b j) (u I b H),h.gl⟩
 · rw[f];split;.rename_i h1;subst h1;exact mW z (h.sl c)
   .exact h.sl t
 · rw[f]at w;split at w;.simp[AV.bP]at w
   .rw[q];exact h.inv t s w
 · rw[f]at y⊢;split at y;.simp[unl]at y
   .rename_i h1;rw[if_neg h1];exact h.wr t y
theorem yE{A:Array Oper}{i:Nat}{o:Oper}(h:i<A.size)(j:Nat):(A.setIfInBounds i o)[j]?=if i=j then some o else A[j]?:=by rw[Array.getElem?_setIfInBounds];split<;>simp_all
theorem uH{f:Array Oper}(g:∀j:Nat,(A[j]?).bind (λo:Oper=>o.dst)=(f[j]?).bind (λo:Oper=>o.dst)):∀{e:List Nat}{a:Act}{w:World},(∀j∈e,A[j]?=f[j]?)->wpOps C.P A Q e a w->wpOps C.P f Q e a w
 |[],_,_,_,h=>h|i::e,a,w,q,h=>by
  have y:∀m,yielded A m=yielded f m:=λm=>by funext j;unfold yielded;rw[g]
  rw[wpOps_cons]at h⊢;have u:wpOp C.P A Q i (wpOps C.P f Q e) a w:=wpOp_mono (λa w h=>uH g (λj x=>q j (by simp[x])) h) h;unfold wpOp at u⊢;rw[<-q i (by simp),<-y];exact u
theorem D1{i:Nat}{f:List Nat}{o:Oper}{a:Act}{w:World}(u:nth A.toList i=some o)(x:i∉f)(y:Region.wanted o (yielded A a.tmps)=true)(h:wpOps C.P (A.setIfInBounds i {o with guard:=none}) Q (i::f) a w):wpOps C.P A Q (i::f) a w:=by
 have g:A[i]?=some o:=by rw[<-aH];exact u
 have m:i<A.size:=(bO.1 g).1;have z:∀j:Nat,((A.setIfInBounds i {o with guard:=none})[j]?).bind (λo:Oper=>o.dst)=(A[j]?).bind (λo:Oper=>o.dst):=λj=>by
  rw[yE m];split;.rename_i e;subst e;rw[g];rfl
  .rfl
 rw[wpOps_cons]at h⊢;have q:=wpOp_mono (K':=wpOps C.P A Q f) (λa w h=>uH z (λj E=>by rw[yE m,if_neg (λe1:i=j=>x (e1▸E))]) h) h;unfold wpOp at q⊢;rw[g];rw[yE m,if_pos rfl]at q;dsimp only at q⊢;rw[if_pos y];rw[if_pos (by rfl)]at q;exact q
theorem Kb{o:Oper}{i:Nat}{f:List Nat}{e:Env T}{a:Act}{k:K}{K:Env T->Option R}{r:R}(h:Hl C.n F k0 W a0 e a k)(E:nth A.toList i=some o)(G:Region.wanted o (yielded A a.tmps)=false)(H:∀d,o.dst=some d->d<C.n/\d∈W)(hk:CL e o K=some r)(y:∀j a' z,K j=some r->Hl C.n F k0 W a0 j a' z->wpOps C.P A Q f a' z.w):wpOps C.P A Q (i::f) a k.w:=by
 have q:A[i]?=some o:=by rw[<-aH];exact E
 rw[wpOps_cons];unfold wpOp;rw[q];dsimp only;rw[if_neg (by rw[G];simp)];unfold CL at hk;cases u:o.dst with|none=>rw[u]at hk;exact y e a k hk h|some d=>rw[u]at hk;obtain⟨g,x⟩:=H d u;obtain⟨j,h1,I,_,_⟩:=h.put (d:=d) (av:= .tup []) (a':=a.put (some d) undef) x (bE.refl k) (fG _ _ _) (ez _ _ _) (λt J=>by rw[dD _ _ _ _ (by rw[h.s];exact g),if_neg (Ne.symm J)]) ⟨[],by rw[dD _ _ _ _ (by rw[h.s];exact g),if_pos rfl];rfl,trivial⟩ (λs M=>by simp[AV.bP]at M) (λO=>by simp[unl]at O) (λt _ b U=>U.elim) hk;exact y j _ k h1 I
theorem Ky{a:Act}{c:Nat}{m:Bool}(h:a.get c= .bool m):(match(some c).bind (a.tmps[.]?)with|some (.bool b)=>some b|_=>none)=some m:=by
 have h1:a.tmps[c]?=some (.bool m):=by unfold Act.get at h;rw[cA]at h;cases e:a.tmps[c]?with|none=>rw[e]at h;simp[undef]at h;|some v=>rw[e]at h;simp at h;rw[h]
 simp[h1]
theorem Mz{a:Act}{c:Nat}(h:a.get c= .tuple #[]):(match(some c).bind (a.tmps[.]?)with|some (.bool b)=>some b|_=>none)=none:=by unfold Act.get at h;rw[cA]at h;cases e:a.tmps[c]?with|none=>simp[e];|some v=>rw[e]at h;simp at h;simp[e,h]
theorem F7{e:Env T}{o:Oper}{K:Env T->Option R}:zw C e {o with guard:=none} K=zw C e o K:=rfl
theorem EL(hC:rX C):∀{l pre:List Oper}{e:Env T}{a:Act}{k:K}{K:Env T->Option R}{r:R},A.toList=pre++l->(∀o∈l,∀d,o.dst=some d->d∈W)->Hl C.n F k0 W a0 e a k->ev2 C A.toList (ixs pre.length l) e K=some r->(∀g u x,K g=some r->Hl C.n F k0 W a0 g u x->Q .normal u x.w)->wpOps C.P A Q (List.range' pre.length l.length) a k.w
  |[],pre,e,a,k,K,r,hA,hW,h,hk,hQ=>by simp only[ixs,ev2]at hk;exact hQ e a k hk h|o::l,pre,e,a,k,K,r,hA,hW,h,hk,hQ=>by
    simp only[ixs,ev2]at hk;have q:nth A.toList pre.length=some o:=by rw[hA];exact wC
    have U:pre.length∉List.range' (pre.length+1) l.length:=λV=>by have:=(List.mem_range'_1.1 V).1;omega
    have y:∀g u x,ev2 C A.toList (ixs (pre.length+1) l) g K=some r->Hl C.n F k0 W a0 g u x->wpOps C.P A Q (List.range' (pre.length+1) l.length) u x.w:=λg u x f G=>by have:=EL hC (l:=l) (pre:=pre++[o]) (e:=g) (a:=u) (k:=x) (K:=K) (r:=r) (by rw[hA];simp) (λo' ho'=>hW o' (by simp[ho'])) G (by simpa using f) hQ;simpa using this
    rw[eU,uW];split at hk;·rename_i hg M;obtain⟨e1,k1,h1,h2,h3⟩:=p5 h hk;rw[<-h2];refine Gz hC h3 q hg (λd z=>⟨?_,hW o (by simp) d z⟩) h1 λg u x f G=>y g u x f G;rw[z]at M;simp only[Nat.blt_eq]at M;exact M
    · rename_i j w hg M;have H:∀d,o.dst=some d->d<C.n/\d∈W:=λd z=>⟨by rw[z]at M;simpa using M,hW o (by simp) d z⟩;split at hk;rotate_left;.simp at hk
      rename_i c O;split at hk;rotate_left
      · split at hk;·rename_i hlc;obtain⟨vs,hv,hF⟩:=(hlc▸h.sl c:(AV.tup (T:=T) []).is a (a.get c) k);cases vs with
 |cons _ _=>exact hF.elim
 | nil =>have hy:yielded A a.tmps j=none:=by unfold yielded;unfold J4 at O;rw[aH]at O;rw[O];exact Mz hv
         exact Kb h q (by unfold Region.wanted;rw[hg];simp[hy]) H hk λg u x f G=>y g u x f G
        .simp at hk
      rename_i m V;have hcv:a.get c= .bool m:=aE.1 (mW V (h.sl c));have hy:yielded A a.tmps j=some m:=by unfold yielded;unfold J4 at O;rw[aH]at O;rw[O];exact Ky hcv
      have run:∀E,w=E->m=E->(frz ((c, .v .bool E)::e) (ED C ((c, .v .bool E)::e) o) λg=>zw C g o λI=>ev2 C A.toList (ixs (pre.length+1) l) I K)=some r->wpOps C.P A Q (pre.length::List.range' (pre.length+1) l.length) a k.w:=by
       rintro E rfl rfl hk;refine D1 q U (by unfold Region.wanted;rw[hg];simp[hy]) ?_;have hAi:A[pre.length]?=some o:=by rw[<-aH];exact q
       have J:pre.length<A.size:=(bO.1 hAi).1;obtain⟨e1,k1,h1,h2,h3⟩:=p5 (h.lit V) hk;rw[<-h2];refine Gz (o:={o with guard:=none}) hC h3 (by rw[aH,yE J,if_pos rfl]) rfl H (by rw[F7];exact h1) λg u x f G=>?_;refine uH (A:=A) (λjj=>?_) (λjj hj=>?_) (y g u x f G)
       · rw[yE J];split;.rename_i e;subst e;rw[hAi];rfl
         .rfl
       .rw[yE J,if_neg (λe1:pre.length=jj=>U (e1▸hj))]
      have skip:∀E,w=!E->m=E->(CL ((c, .v .bool E)::e) o λI=>ev2 C A.toList (ixs (pre.length+1) l) I K)=some r->wpOps C.P A Q (pre.length::List.range' (pre.length+1) l.length) a k.w:=by rintro E rfl rfl hk;exact Kb (h.lit V) q (by unfold Region.wanted;rw[hg];simp[hy]) H hk λg u x f G=>y g u x f G
      cases w with
 |true=>cases m with|true=>exact run true rfl rfl (by simpa using hk);|false=>exact skip false rfl rfl (by simpa using hk)
 |false=>cases m with|true=>exact skip true rfl rfl (by simpa using hk);|false=>exact run false rfl rfl (by simpa using hk)
    .simp at hk
theorem AB{n:Nat}{f:List Oper}{m:List Nat}:∀{e:List Oper}{j g:List Ent}{i:Nat},j.map (·.need)=g.map (·.need)->EH n f m i e j=EH n f m i e g|[],_,_,_,_=>by simp[EH];|o::e,[],[],i,_=>rfl|o::e,[],_::_,i,h=>by simp at h;|o::e,_::_,[],i,h=>by simp at h;|o::e,x::j,y::g,i,h=>by simp only[cf,pn]at h;simp only[EH,AB h.2];congr 1;unfold wg;rw[h.1]
theorem tp{n m:Nat}{f:List Oper}{g e:List Ent}(h:g.map (·.need)=e.map (·.need)):lU n m f g=lU n m f e:=by
 have j:g.length=e.length:=by simpa using congrArg List.length h
 unfold lU;rw[j,AB h]
theorem KH{n m:Nat}{e:List Oper}{g f:List Ent}(h:g.map (·.need)=f.map (·.need)):chk n m e g=chk n m e f:=by unfold chk;rw[tp h]
theorem ym{l:List Oper}:(Co l).map (·.need)=oN [] l:=by simp[Co,dX,Function.comp_def]
theorem JV{e:Type}{f:Nat->e->Bool}:∀{l:List e}{i:Nat},(∀j x,nth l j=some x->f (i+j) x=true)->allI f i l=true|[],_,_=>rfl|x::l,i,h=>by simp only[allI,aD];exact⟨h 0 x rfl,JV λj y g=>by have:=h (j+1) y g;rwa[show i+(j+1)=i+1+j by omega]at this⟩
theorem D5{e0 e:Env T}{a:Act}{k:K}{x:Act}{I:K}{f l:List Oper}{V:List Ent}(m:Hl C.n F k0 W a0 e0 x I)(hW:∀o∈f,∀d,o.dst=some d->d∈W)(p:P1 e0 x f V e)(q:mf (f++l) V f.length x I a k):Hl C.n F k0 W a0 e a k:=by
  have y:∀t,lastIdx t f 0 none=none->a.get t=x.get t:=by
   intro t u;refine q.old t (JV λj o ho=>?_);simp only[bw,bT,decide_eq_true_eq,bne_iff_ne];by_cases J:j<f.length;·refine .inr ((lastIdx_none u).2 o ?_);rw[fH,rA J]at ho;exact jx ho
   .exact .inl (by omega)
  have O:∀t,aJ (lk e t)=true->lk e t=lk e0 t/\a.get t=x.get t:=by intro t u;have h1:=p.res t u;have w:=p.slot t;rw[h1]at w;exact⟨w,y t h1⟩
  have h:∀t b,(lk e t).fp (a.get t) k b->(lk e0 t).fp (x.get t) I b:=by intro t b E;cases hr:aJ (lk e t)with|false=>exact absurd E (dG hr _ _ b);|true=>obtain⟨h1,w⟩:=O t hr;rw[h1,w,AV.iN _ q.grow (m.sl t)]at E;exact E
  refine⟨m.g.then q.grow,q.size.trans m.s,q.defers.trans m.d,λt u=>?_,λt=>?_,p.inv,λt u=>?_,λt t' M b E P=>m.ap t t' M b (h t b E) (h t' b P),m.gl.le q.grow.le⟩;·rw[<-m.old t u];refine y t ?_;cases z:lastIdx t f 0 none with|none=>rfl;|some j=>
 rcases fj z with h1|⟨o,_,h1,w⟩;.simp at h1
 · rw[fH]at h1;exact absurd (hW o (jx h1) t w) u
  · have U:(lk e t).is x (a.get t) k:=by have h1:=p.slot t;cases z:lastIdx t f 0 none with|none=>rw[z]at h1;dsimp only at h1;rw[h1,y t z];exact(lk e0 t).mono q.grow (m.sl t)|some j=>
 rw[z]at h1;obtain⟨Rr,nd,w,G⟩:=h1;rcases G with G|⟨R',rfl,G⟩;.rw[G];trivial
 · rcases fj z with H|⟨o,_,H,h5⟩;.simp at H
   · have J:=qU H;exact G _ _ (q.val j t R' nd (by simpa using J) (by rw[kR (show nth f j=some o by simpa using H)];exact h5) w)
    refine(lk e t).congr (λs hs=>?_) U;exact(O s (p.inv t s hs)).2
  ·obtain⟨h1,w⟩:=O t (tC u);rw[h1]at u⊢;rw[w,AV.iN _ q.grow (m.sl t)];exact m.wr t u
theorem Hl.grow{n:Nat}{a:Act}{e:Env T}{k m:K}(h:Hl n F k0 W a0 e a k)(f:bE k m):Hl n F k0 W a0 e a m:=⟨h.g.then f,h.s,h.d,h.old,λt=>(lk e t).mono f (h.sl t),h.inv,λt u=>by rw[AV.iN _ f (h.sl t)];exact h.wr t u,λt q j=>by rw[AV.iN _ f (h.sl t),AV.iN _ f (h.sl q)];exact h.ap t q j,h.gl.le f.le⟩
theorem Hl.M8{n:Nat}{a:Act}{e:Env T}{k:K}(h:Hl n F k0 W a0 e a k){s b:Nat}{t:Tp}{z:T.D t}(M:lk e s= .top)(I:a.get s= .pointer (some ⟨b,0,none⟩))(O:Box b z k)(P:Wr F k0 (Eq b))(J:∀f,f≠s->bj (Eq b) ((lk e f).fp (a.get f) k)):Hl n F k0 W a0 ((s, .box false t z)::e) a k:=by
 have q:lk ((s,AV.box false t z)::e) s= .box false t z:=by rw[bg,if_pos rfl]
 have j:∀f,f≠s->lk ((s,AV.box false t z)::e) f=lk e f:=λf w=>by rw[bg,if_neg (Ne.symm w)]
 have y:∀c,(AV.box (T:=T) false t z).fp (a.get s) k c->b=c:=λc x=>by have:a.get s= .pointer (some ⟨c,0,none⟩):=x;rw[I]at this;simpa using this
 refine⟨h.g,h.s,h.d,h.old,λf=>?_,λf u E=>?_,λf E=>?_,λt1 t2 G c x m=>?_,h.gl⟩
 · by_cases w:f=s;.subst w;rw[q];exact⟨b,I,O⟩
   .rw[j f w];exact h.sl f
 · by_cases w:f=s;.subst w;rw[q]at E;simp[AV.bP]at E
   · rw[j f w]at E;have h1:=h.inv f u E;have H:u≠s:=λU=>by rw[U,M]at h1;simp[aJ]at h1
     rw[j u H];exact h1
 · by_cases w:f=s;.subst w;rw[q];exactλc x=>P c (y c x)
   .rw[j f w]at E⊢;exact h.wr f E
 · by_cases h1:t1=s;·subst h1;rw[q]at x;rw[j t2 (Ne.symm G)]at m;exact J t2 (Ne.symm G) c (y c x) m
   · rw[j t1 h1]at x;by_cases H:t2=s;·subst H;rw[q]at m;exact J t1 h1 c (y c m) x
     ·rw[j t2 H]at m;exact h.ap t1 t2 G c x m
theorem yT:∀{l:List Oper}{i m:Nat}{o:Oper},Em l i=some (m,o)->i<=m/\nth l (m-i)=some o
 |[],_,_,_,h=>by simp[Em]at h;|x::l,i,m,o,h=>by
  simp only[Em]at h;split at h;·simp only[aU,Prod.mk.injEq]at h;obtain⟨rfl,rfl⟩:=h;exact⟨aA _,by simp[nth]⟩
  ·obtain⟨h1,e⟩:=yT h;exact⟨by omega,by rw[show m-i=(m-(i+1))+1 by omega];exact e⟩
theorem IT{e:List Oper}{m s q:Nat}{t u:Tp}{L:iu T t u}(h:M9 C e m s q t=some ⟨u,L⟩):L.ok/\((q=s/\L.off=0)∨∃j o st f,lastIdx q (e.take m) 0 none=some j/\nth e j=some o/\o.op= .fieldAddr st (.tmp s) f/\o.guard=none/\ed (eB e []) m j=true/\uo C.P st f=some L.off):=by unfold M9 at h;cases z:Nat.beq q s with
 |true=>rw[z]at h;simp only[cond_true]at h;cases I:uL q e with|false=>rw[I]at h;simp at h;|true=>rw[I]at h;simp only[cond_true,aU,Sigma.mk.injEq]at h;obtain⟨rfl,h⟩:=h;obtain rfl:=eq_of_heq h;exact⟨iu.Ki, .inl ⟨ba z,rfl⟩⟩
 |false=>
 rw[z]at h;simp only[cond_false]at h;split at h;rotate_left;.simp at h
 rename_i j J;split at h;rotate_left;.simp at h
 rename_i o M;split at h;rotate_left;.simp at h
 rename_i st O f E G;cases x:(Nat.beq s O&&ed (eB e []) m j)with|false=>rw[x]at h;simp at h;|true=>
 rw[x]at h;simp only[cond_true]at h;rw[aD]at x;obtain rfl:=ba x.1;unfold T8 at h;split at h;rotate_left;.simp at h
 rename_i n;split at h;rotate_left;.simp at h
 rename_i off w U y H;cases g:Nat.beq U.off off with|false=>rw[g]at h;simp at h;|true=>rw[g]at h;simp only[cond_true,aU,Sigma.mk.injEq]at h;obtain⟨rfl,h⟩:=h;obtain rfl:=eq_of_heq h;obtain rfl:=ba g;exact⟨AZ H, .inr ⟨j,o,st,f,J,M,E,G,x.2,y⟩⟩
theorem Th(hC:rX C){id:Nat}{e:Env T}{a:Act}{k:K}{K:Env T->Option R}{r:R}(hW:∀o∈A.toList,∀d,o.dst=some d->d∈W)(h:Hl C.n F k0 W a0 e a k)(hk:evX C A.toList e K=some r)
    (hQ:∀e' a' k',K e'=some r->Hl C.n F k0 W a0 e' a' k'->Q .normal a' k'.w):(Code.region id A true).wp C.P Q a k.w:=by
 unfold evX at hk;split at hk;rotate_left;.simp at hk
 rename_i m o hst;split at hk;rotate_left;.simp at hk
 rename_i ty pt y hop hdst hgd;split at hk;rotate_left;.simp at hk
 rename_i t x0 hls;split at hk;rotate_left;.simp at hk
 rename_i u L hptr;generalize hsdef:ux A.toList m pt=s at hk hls hptr;cases c4:uL s A.toList with
 | false => rw [c4] at hk; simp at hk
 | true =>
 rw[c4]at hk;simp only[fV,cond_false]at hk;obtain⟨hL,hpt⟩:=IT hptr;obtain⟨_,hno⟩:=yT hst;simp only[rq]at hno;rw[gD]at hk;have hsl:=h.sl s;rw[hls]at hsl;obtain⟨b,hb,hbx⟩:=hsl;have hunl:unl (lk e s)=true:=by rw[hls];rfl
 have I:∀(kx:Gb.K) c,b=c->(lk e s).fp (a.get s) kx c:=λkx c O=>by rw[hls];subst O;exact hb
 have hnsh:∀c,b=c->¬k.sh c:=λc O=>(h.lt s c (I _ c O)).2;generalize he0:(s,AV.top)::iV (klA s) e=e0 at hk;have hl0:lk e0 s= .top:=by rw[<-he0,bg,if_pos rfl]
 have hlt:∀G,G≠s->lk e0 G=klA s (lk e G):=λG ht=>by rw[<-he0,bg,if_neg (Ne.symm ht),kB rfl]
 have hide:∀k1 k2,bE k k1->Chg (Eq b) k1 k2->Hl C.n F k0 W a0 e0 a k2:=λk1 k2 g c=>by rw[<-he0];exact(h.grow g).TA hunl c (I _)
 have hh0:Hl C.n F k0 W a0 e0 a k:=hide k k (bE.refl k) (Chg.refl _ k);have p0:P1 e0 a [] [] e0:=⟨rfl,λt=>rfl,λt _=>rfl,hh0.inv⟩;obtain⟨U,rest,es,e1,h1,h2,_,h4,h5,h6,h7,h8,h9⟩:=wI (n:=C.n) (F:=F) (kk:=k0) (W:=W) (aa:=a0) hC (bH:=b) (B:=0) A.toList (λs' hs'=>by injection hs' with hs';subst hs';exact⟨hb,c4⟩) (A.toList.length+1) R none [] A.toList [] e0 _ r [] (by simp) p0 (λes' o ho=>by unfold iT;rw[ho]) hk;simp only[ko]at h5 h6 h7;cases rest with
 | nil => simp [ixs] at h5
 | cons o1 rest =>
 simp only[ixs]at h5
 have hlen:A.toList.length-((U.length,o1)::ixs (U.length+1) rest).length=U.length:=by
  have:(ixs (U.length+1) rest).length=rest.length:=by rw[<-jv (f:=(·.2)),Aj]
  rw[eU,this,h1];simp
 rw[hlen]at h5;cases O:(Nat.beq U.length m&&lU C.n m A.toList (Co (A.toList.take m))&&PR m A.toList&&qS m A.toList y&&tyB C.P T ty u)with
 | false => rw [O] at h5; simp at h5
 | true =>
 rw[O]at h5;simp only[cond_true]at h5;simp only[aD]at O;obtain⟨⟨⟨⟨c1,c2⟩,c3⟩,c5⟩,c6⟩:=O;obtain rfl:=ba c1;have ho1:o1=o:=by rw[h1,wC,aU]at hno;exact hno
 subst ho1;split at h5;rotate_left;.simp at h5
 rename_i z hz;have htake:A.toList.take U.length=U:=by rw[h1,il];rfl
 have hneed:(Co U).map (·.need)=es.map (·.need):=by rw[ym,h4]
 rw[htake,tp hneed]at c2
 have hmA:U.length<A.size:=by
  have:A.size=(U++o1::rest).length:=by rw[<-h1];simp
  rw[this];simp
 have hsz:A.size-(U.length+1)=rest.length:=by
  have:A.size=(U++o1::rest).length:=by rw[<-h1];simp
  rw[this];simp;omega
 have hst':∀kb,Hl C.n F k0 W a0 e0 a kb->Steps C.P es a kb (A.toList.take U.length) es:=λkb hkb=>by rw[htake];have:=h7 kb hkb (bY _) [];simpa using this
 have hl1:lk e1 s= .top:=by have:=h6.slot s;rw[zp (rest:=o1::rest) (by rw[<-h1];exact c4)]at this;exact(show lk e1 s=lk e0 s from this).trans hl0
 refine wp_region_any hC.mix ?_;let kd:Gb.K:=⟨{k.w with drawn:=k.w.drawn+1},k.sh,k.lt⟩;have hg:bE k kd:=⟨rfl,rfl,rfl,aA _,λ _ _=>rfl,λ _ h=>h,λ _ _ h=>h,gN _⟩;have hF:∀j,(Array.replicate A.size false).getD j false=true->False:=by intro j hj;simp[cA,rK]at hj;split at hj<;>simp at hj
 have hwr:Wr F k0 (Eq b):=λc O=>h.wr s hunl c (I _ c O);refine TB (B:=λkb=>Hl C.n F k0 W a0 e0 a kb/\Box b (L.set x0 z) kb/\∀G,G≠s->(lk e G).fp (a.get G) kb=(lk e G).fp (a.get G) k) (k0:=k) h.s c2 hmA c3 (hst' k hh0) (λkb hkb=>hst' kb hkb.1) trivial ?_ ?_ A.size _ a kd (by simp) (by simp) (λj hj=>(hF j hj).elim) (.inl ⟨?_,?_⟩)
 .
   intro a' k' D hD q hbind C' hC'
   have hk' : Hl C.n F k0 W a0 e a k' := h.grow q.grow
   have hs' : a'.get s = a.get s := q.rest s λ i o' _ J => oy c4 i o' J
   have hyv : IsV (α := T.D u) z (a'.eval y) k' := by
     refine gJ (a := a) hz (fa (e := e1) ?_)
     cases y with
     | tmp yt =>
       have h9 := h6.slot yt
       simp only [qS, htake] at c5
       cases hli : lastIdx yt U 0 none with
       | none =>
         rw [hli] at h9 c5
         have hu : a'.get yt = a.get yt := q.rest yt λ i o' _ J => oy c5 i o' J
         refine ⟨?_, λ _ => hu⟩
         rw [hu, show lk e1 yt = lk e0 yt from h9]
         exact (lk e0 yt).mono q.grow (hh0.sl yt)
       | some j =>
         rw [hli] at h9 c5
         have hDj : D j := cq (L := A.toList) (D := D) q.closed (j := U.length) (i := j) (λ o' J => hbind o' J) c5
         obtain ⟨Rr, nd, h10, h11⟩ := h9
         refine ⟨?_, λ hr => by rw [h6.res yt hr] at hli; simp at hli⟩
         rcases h11 with h11 | ⟨R', rfl, h11⟩
         .rw [h11]; trivial
         · rcases fj hli with M | ⟨oj, _, M, h13⟩
           .simp at M
           · have hnj : nth A.toList j = some oj := by rw [h1]; exact kR (by simpa using M)
             exact h11 _ _ (q.vals j oj yt _ hDj hnj h13 h10)
     | const v => trivial
     | global g => simp [qS] at c5
     | func g => simp [qS] at c5
   have hpv : cw b L.off (a'.eval (.tmp pt)) k' := by
     rcases hpt with ⟨rfl, hoff⟩ | ⟨j, oj, st, f, hj, hoj, hopj, hgj, hbit, hfo⟩
     .rw [hoff]; exact hs'.trans hb
     · rw [htake] at hj
       have hDj : D j := cq (L := A.toList) (D := D) q.closed (j := U.length) (i := j) (λ o' J => hbind o' J) hbit
       rcases fj hj with M | ⟨o2, _, M, h13⟩
       .simp at M
       · simp only [rq] at M
         have hnj : nth A.toList j = some o2 := by rw [h1]; exact kR M
         rw [hoj, aU] at hnj
         subst hnj
         obtain ⟨nd, hen⟩ := h9 rfl j oj (.adr L.off) M hgj (by simp [zL, hopj, hfo, cL])
         exact q.vals j oj pt _ hDj hoj h13 hen
   have hw : wpOps C.P A (λ ex a w => match ex with | .normal => C' a w | _ => False) [U.length] a' k'.w := by
     refine cG (set := L.set) (x := x0) (z := z) (b := b) (off := L.off) hno hgd hop hdst (qP c6) hL.2.1 hpv (hbx.grow q.grow) hyv λ k1 hch hbz => ?_
     show wpOps C.P A _ [] a' k1.w
     simp only [wpOps]
     refine hC' k1 k1 ⟨hide k' k1 q.grow hch, hbz, λ G ht' => (AV.oZ _ hch (λ c O => ((h.grow q.grow).lt s c (I _ c O)).2) (λ c O V => (h.grow q.grow).ap s G (Ne.symm ht') c (I _ c V) O) ((h.grow q.grow).sl G)).trans (AV.iN _ q.grow (h.sl G))⟩ ⟨bE.refl k1, q.size, q.defers, λ i oi d en hDi hoi hd hen => ?_, q.rest, q.closed, q.mem⟩
     have hv := q.vals i oi d en hDi hoi hd hen
     obtain ⟨Rr, nd⟩ := en
     cases Rr with
     | none => exact hv
     | some Rr =>
       have hmem : (⟨some Rr, nd⟩ : Ent) ∈ es := by rw [fH] at hen; exact jx hen
       rcases h8 _ hmem Rr rfl with ⟨av, rfl, hav1, hav2⟩ | ⟨ox, yx, hox, rfl⟩
       rotate_left
       .cases yx with
         | adr off => exact hv
         | box t => obtain ⟨_, _, h20, _⟩ := xe hox; simp at h20
       refine av.keep hch (λ c O => (hk'.lt s c (I _ c O)).2) (λ c O => absurd O (dG hav1 _ _ c)) (λ s' hs' u hu hui c O V => ?_) hv
       have h14 := hav2 s' (AV.lj hs')
       have hne : s' ≠ s := λ e' => by rw [e', hl0] at h14; simp [aJ] at h14
       rw [hlt s' hne] at h14
       have h15 : aJ (lk e s') = true := by
         rcases iI s (lk e s') with h16 | h16
         .rw [h16] at h14; exact h14
         .rw [h16] at h14; simp [aJ] at h14
       exact hk'.apm h15 hne hu hui c O (I _ c V)
   rw [wpOps_cons] at hw
   have H : wpOp C.P A (λ ex a w => match ex with | .normal => C' a w | _ => False) U.length C' a' k'.w := wpOp_mono (λ a2 w2 h2 => by simpa [wpOps] using h2) hw
   unfold wpOp at H ⊢
   have hAo : A[U.length]? = some o1 := by rw [<- aH]; exact hno
   rw [hAo] at H ⊢
   dsimp only at H ⊢
   split at H
   · rename_i hwant
     rw [if_pos hwant]
     rcases H with H | H
     · left
       unfold Oper.wp at *
       generalize (execOp a'.eval o1).run C.P k'.w = res at *
       cases res with
       | ok nx w' => cases nx <;> simp only [Oper.upon] at H ⊢ <;> first | exact H | (refine Calls.mono H λ ee w2 he => ?_; cases ee <;> first | exact he | exact he.elim | (obtain ⟨_, _, hb'⟩ := he; exact hb'.elim)) | (exact Rows.mono H λ _ _ he => he)
       | halt x w' => cases x <;> simp only [Oper.upon] at H ⊢ <;> first | exact H | exact H.elim
     .obtain ⟨_, _, _, hb'⟩ := H; exact hb'.elim
   · rename_i hwant
     rw [if_neg hwant]; exact H
 .
   intro kb hkb a' k' q
   have hp : mf A.toList es U.length a kb a' k' := mf.of q
   have hs' : a'.get s = a.get s := q.rest s λ i o' _ J => oy c4 i o' J
   have hp2 := hp
   rw [h1] at hp2
   have hh := D5 hkb.1 (λ o hoc => hW o (by rw [h1]; simp [hoc])) h6 hp2
   have hh2 := hh.M8 (b := b) (z := L.set x0 z) hl1 (hs'.trans hb) (hkb.2.1.grow q.grow) hwr λ G ht c O V => by
     cases hr : aJ (lk e1 G) with
     | false => exact absurd V (dG hr _ _ c)
     | true =>
       have h9 := h6.res G hr
       have h10 := h6.slot G
       rw [h9] at h10
       have h11 : lk e1 G = lk e0 G := h10
       have M : a'.get G = a.get G := q.rest G λ i o' hi J hd => by
         have h13 := (lastIdx_none h9).2 o' (by
           rw [h1, fH, rA hi] at J
           exact jx J)
         exact h13 hd
       rw [h11, M, hlt G ht] at V
       have h13 : (lk e G).fp (a.get G) k c := by
         rcases iI s (lk e G) with h16 | h16
         · have hslb : (lk e G).is a (a.get G) kb := by have := hkb.1.sl G; rw [hlt G ht, h16] at this; exact this
           rw [h16, AV.iN _ q.grow hslb, hkb.2.2 G ht] at V; exact V
         .rw [h16] at V; exact V.elim
       exact h.ap s G (Ne.symm ht) c (I _ c O) h13
   rw [hsz]
   have := EL hC (A := A) (Q := Q) (l := rest) (pre := U ++ [o1]) (e := (s, .box false t (L.set x0 z)) :: e1) (a := a') (k := k') (r := r) (by rw [h1]; simp) (λ o hor => hW o (by rw [h1]; simp [hor])) hh2 (by simpa using h5) (λ e' a2 k2 hk2 h' => by
     obtain ⟨e2, k3, g1, g2, g3⟩ := ng h' hk2
     rw [<- g2]
     exact hQ e2 a2 k3 g1 g3)
   simpa using this
 .cases hx:(Array.replicate A.size false).getD U.length false with|false=>rfl;|true=>exact(hF _ hx).elim
 .exact⟨hg,rfl,rfl,λi o d e hi=>(hF i hi).elim,λ _ _=>rfl,λj o _ hj=>(hF j hj).elim,λi hi=>(hF i hi).elim⟩
theorem HR{a:Act}{k:K}{x u:AV T}{v:Value}(H:aJ x=true)(h:x.is a v k)(I:HP u=true)(g:u.is a v k):∀b,u.fp v k b->x.fp v k b:=by intro b j;have f:=(u.lt g b j).2;cases u with
 |own l V t xs=>cases x with|own q w G E=>exact j;|box q G J=>obtain⟨c,rfl,_⟩:=h;simp[AV.fp,obF,ob]at j;|rs q m z=>obtain⟨F,h1⟩:=h;show Rk.fp T (.c m) v k b;rw[iB h1];exact T.RProot _ _ _ _ _ _ h1 (.inr j) f|tr O P z q=>obtain⟨u,U,rfl,_⟩:=h;simp[AV.fp,obF,ob]at j|_=>simp[aJ]at H
 |box l t y=>cases x with|own q w G E=>obtain⟨c,rfl,_⟩:=g;rcases(show ah 0 w E _ k from h)with⟨e1,_⟩|⟨_,e1,_⟩|⟨_,_,_,_,_,e1,_⟩<;>simp at e1|box q G J=>exact j;|rs q m z=>obtain⟨F,h1⟩:=h;show Rk.fp T (.c m) v k b;rw[iB h1];exact T.RProot _ _ _ _ _ _ h1 (.inl j) f|tr O P z q=>obtain⟨u,U,rfl,_⟩:=h;obtain⟨c,e,_⟩:=g;simp at e|_=>simp[aJ]at H
 |_=>simp[HP]at I
theorem Hl.WY{n:Nat}{a:Act}{e:Env T}{k j:K}{G:FP}(h:Hl n F k0 W a0 e a k)(c:Chg G k j)(m:∀b,G b->¬k.sh b)(z:Wr F k0 G)(q:∀t,bj ((lk e t).fp (a.get t) k) G):Hl n F k0 W a0 e a j:=have f:∀t,(lk e t).fp (a.get t) j=(lk e t).fp (a.get t) k:=λt=>AV.oZ _ c m (q t) (h.sl t)
 ⟨h.g.step c z,h.s,h.d,h.old,λt=>(lk e t).keep c m (q t) (λs E u H w b I x=>q s b (HR (h.inv t s (AV.lj E)) (h.sl s) H w b I) x) (h.sl t),h.inv,λt J=>by rw[f];exact h.wr t J,λt M y=>by rw[f,f];exact h.ap t M y,h.gl.le (c.le m)⟩
theorem DT{s j:Nat}{e:List Oper}(h:Eo s j e=true):∀i o,i≠j->nth e i=some o->o.dst≠some s:=by
 intro i o hi f g;have:=bc h i o f;simp only[bw,g,bT]at this;rcases this with h1|h1;.exact hi (ba h1)
 .simp[cL]at h1
theorem Tl(hC:rX C){id:Nat}{e:Env T}{a:Act}{k:K}{K:Env T->Option R}{r:R}(hW:∀o∈A.toList,∀d,o.dst=some d->d∈W)(h:Hl C.n F k0 W a0 e a k)(hk:evN C A.toList e K=some r)
    (hQ:∀e' V k',K e'=some r->Hl C.n F k0 W a0 e' V k'->Q .normal V k'.w):(Code.region id A true).wp C.P Q a k.w:=by
 unfold evN at hk;split at hk;rotate_left;.simp at hk
 rename_i m o hst;split at hk;rotate_left;.simp at hk
 rename_i ty pt y hop hdst hgd;split at hk;rotate_left;.simp at hk
 rename_i ja hja;split at hk;rotate_left;.simp at hk
 rename_i oa hoa;split at hk;rotate_left;.simp at hk
 rename_i tya hopa hgda;split at hk;rotate_left;.simp at hk
 rename_i t htid;obtain⟨_,hno⟩:=yT hst;simp only[rq]at hno;have p0:P1 e a [] [] e:=⟨rfl,λt=>rfl,λt _=>rfl,h.inv⟩;obtain⟨J,G,es,e1,h1,h2,_,h4,h5,h6,h7,h8,h9⟩:=wI (n:=C.n) (F:=F) (kk:=k0) (W:=W) (aa:=a0) hC (bH:=0) (B:=k.w.heap.size) A.toList (λs' hs'=>by simp at hs') (A.toList.length+1) R none [] A.toList [] e _ r [] (by simp) p0 (λes' o ho=>by unfold iT;rw[ho]) hk;simp only[ko]at h5 h6 h7;cases G with
 | nil => simp [ixs] at h5
 | cons o1 G =>
 simp only[ixs]at h5
 have hlen:A.toList.length-((J.length,o1)::ixs (J.length+1) G).length=J.length:=by
  have:(ixs (J.length+1) G).length=G.length:=by rw[<-jv (f:=(·.2)),Aj]
  rw[eU,this,h1];simp
 rw[hlen]at h5;cases U:(Nat.beq J.length m&&lU C.n m A.toList (Co (A.toList.take m))&&PB m (Ka m A.toList) A.toList&&Bl m (Ka m A.toList) A.toList.toArray&&ed (eB A.toList []) m ja&&Eo pt ja A.toList&&qS m A.toList y&&tyB C.P T ty t&&oP C.P T tya t&&M3 (lk e1 pt)&&!(aJ (lk e pt)))with
 | false => rw [U] at h5; simp at h5
 | true =>
 rw[U]at h5;simp only[cond_true]at h5;simp only[aD,cN]at U;obtain⟨⟨⟨⟨⟨⟨⟨⟨⟨⟨c1,c2⟩,c3⟩,c11⟩,c4⟩,c7⟩,c5⟩,c6⟩,c8⟩,c9⟩,c10⟩:=U;rw[Array.toArray_toList]at c11;obtain rfl:=ba c1;have ho1:o1=o:=by rw[h1,wC,aU]at hno;exact hno
 subst ho1;split at h5;rotate_left;.simp at h5
 rename_i z hz;have O:A.toList.take J.length=J:=by rw[h1,il];rfl
 have hneed:(Co J).map (·.need)=es.map (·.need):=by rw[ym,h4]
 rw[O,tp hneed]at c2;rw[O]at hja
 have hmA:J.length<A.size:=by
  have:A.size=(J++o1::G).length:=by rw[<-h1];simp
  rw[this];simp
 have hsz:A.size-(J.length+1)=G.length:=by
  have:A.size=(J++o1::G).length:=by rw[<-h1];simp
  rw[this];simp;omega
 have hst':∀kb,Hl C.n F k0 W a0 e a kb->k.w.heap.size<=kb.w.heap.size->Steps C.P es a kb (A.toList.take J.length) es:=λkb hkb hkz=>by rw[O];have:=h7 kb hkb hkz [];simpa using this
 have hl1:lk e1 pt= .top:=by cases hlt:lk e1 pt<;>rw[hlt]at c9<;>first|rfl|simp[M3]at c9
 obtain⟨hjl,hdpt,nda,hea⟩:nth J ja=some oa/\oa.dst=some pt/\∃nd,nth es ja=some ⟨some (Bm (T.D t) k.w.heap.size),nd⟩:=by
  rcases fj hja with I|⟨o2,_,I,h13⟩;.simp at I
  · simp only[rq]at I;have hnj:nth A.toList ja=some o2:=by rw[h1];exact kR I
    rw[hoa,aU]at hnj;subst hnj;refine⟨I,h13,?_⟩;exact h9 rfl ja oa (.box t) I hgda (by simp[zL,hopa,h13,cL,c8])
 refine wp_mono (Q:=QN Q) ?_ (λe a w h=>by cases e<;>first|exact h|exact h.elim);refine wp_region_any hC.mix ?_;let kd:Gb.K:=⟨{k.w with drawn:=k.w.drawn+1},k.sh,k.lt⟩;have hg:bE k kd:=⟨rfl,rfl,rfl,aA _,λ _ _=>rfl,λ _ h=>h,λ _ _ h=>h,gN _⟩;have hF:∀j,(Array.replicate A.size false).getD j false=true->False:=by intro j hj;simp[cA,rK]at hj;split at hj<;>simp at hj
 have hwr:∀b,k.w.heap.size<=b->Wr F k0 (Eq b):=λb hb c U=>by subst U;exact .inr (bB h.g.size hb)
 have hap:∀b,k.w.heap.size<=b->∀H,bj ((lk e H).fp (a.get H) k) (Eq b):=λb hb H c U hc'=>by subst hc';have:=(h.lt H b U).1;omega
 refine Qm (pt:=pt) (ja:=ja) (B:=λkb u=>∃b,u= .pointer (some ⟨b,0,none⟩)/\k.w.heap.size<=b/\k.w.heap.size<=kb.w.heap.size/\Hl C.n F k0 W a0 e a kb/\Box b z kb/\∀H,(lk e H).fp (a.get H) kb=(lk e H).fp (a.get H) k) (k0:=k) (λi o' hi M=>DT c7 i o' hi M) c4 h.s c2 hmA c3 c11 (λ _ _ _ h=>h) (hst' k h (aA _)) (λkb u ⟨b,_,_,hkz,hkb,_,_⟩=>hst' kb hkb hkz) trivial ?_ ?_ A.size _ a kd (by simp) (by simp) (λj hj=>(hF j hj).elim) (.inl ⟨?_,?_⟩)
 .
   intro V k' D hD q hbind C' hC'
   have hk' : Hl C.n F k0 W a0 e a k' := h.grow q.grow
   obtain ⟨x, b, hpv, hsb, hbx⟩ : Bm (T.D t) k.w.heap.size (V.get pt) k' := by
     have hDj : D ja := cq (L := A.toList) (D := D) q.closed (j := J.length) (i := ja) (λ o' M => hbind o' M) c4
     exact q.vals ja oa pt _ hDj hoa hdpt hea
   have hyv : IsV (α := T.D t) z (V.eval y) k' := by
     refine gJ (a := a) hz (fa (e := e1) ?_)
     cases y with
     | tmp yt =>
       have h9 := h6.slot yt
       simp only [qS, O] at c5
       cases hli : lastIdx yt J 0 none with
       | none =>
         rw [hli] at h9 c5
         have hu : V.get yt = a.get yt := q.rest yt λ i o' _ M => oy c5 i o' M
         refine ⟨?_, λ _ => hu⟩
         rw [hu, show lk e1 yt = lk e yt from h9]
         exact (lk e yt).mono q.grow (h.sl yt)
       | some j =>
         rw [hli] at h9 c5
         have hDj : D j := cq (L := A.toList) (D := D) q.closed (j := J.length) (i := j) (λ o' M => hbind o' M) c5
         obtain ⟨Rr, nd, h10, h11⟩ := h9
         refine ⟨?_, λ hr => by rw [h6.res yt hr] at hli; simp at hli⟩
         rcases h11 with h11 | ⟨R', rfl, h11⟩
         .rw [h11]; trivial
         · rcases fj hli with I | ⟨oj, _, I, h13⟩
           .simp at I
           · have hnj : nth A.toList j = some oj := by rw [h1]; exact kR (by simpa using I)
             exact h11 _ _ (q.vals j oj yt _ hDj hnj h13 h10)
     | const v => trivial
     | global g => simp [qS] at c5
     | func g => simp [qS] at c5
   have hw : wpOps C.P A (λ ex a w => match ex with | .normal => C' a w | _ => False) [J.length] V k'.w := by
     refine cG (set := λ _ y => y) (x := x) (z := z) (b := b) (off := 0) hno hgd hop hdst (qP c6) Upd.self (show cw b 0 (V.eval (.tmp pt)) k' from hpv) hbx hyv λ k1 hch hbz => ?_
     show wpOps C.P A _ [] V k1.w
     simp only [wpOps]
     have hnsh : ∀ c, b = c -> ¬ k'.sh c := λ c U => hbx.jl c U
     refine hC' k1 k1 ⟨b, hpv, hsb, bB q.grow.size hch.size, hk'.WY hch hnsh (hwr b hsb) (λ H => by rw [AV.iN _ q.grow (h.sl H)]; exact hap b hsb H), hbz, λ H => (AV.oZ _ hch hnsh (by rw [AV.iN _ q.grow (h.sl H)]; exact hap b hsb H) (hk'.sl H)).trans (AV.iN _ q.grow (h.sl H))⟩ ⟨bE.refl k1, q.size, q.defers, λ i oi d en hDi hoi hd hen => ?_, q.rest, q.closed, q.mem⟩
     have hv := q.vals i oi d en hDi hoi hd hen
     obtain ⟨Rr, nd⟩ := en
     cases Rr with
     | none => exact hv
     | some Rr =>
       have hmem : (⟨some Rr, nd⟩ : Ent) ∈ es := by rw [fH] at hen; exact jx hen
       rcases h8 _ hmem Rr rfl with ⟨av, rfl, hav1, hav2⟩ | ⟨ox, yx, hox, rfl⟩
       rotate_left
       .cases yx with
         | adr off => exact hv
         | box t2 =>
           obtain ⟨_, _, h20, _⟩ := xe hox
           injection h20 with h21 h22
           subst h22
           obtain ⟨x2, b2, hp2, hs2, hb2⟩ := hv
           by_cases hbb : b2 = b
           .subst hbb; exact ⟨z, b2, hp2, hs2, hbz⟩
           .exact ⟨x2, b2, hp2, hs2, hb2.keep hch (λ e' => hbb e'.symm) hnsh⟩
       refine av.keep hch hnsh (λ c U => absurd U (dG hav1 _ _ c)) (λ s' hs' u hu hui c U hc' => ?_) hv
       have h14 := hav2 s' (AV.lj hs')
       subst hc'
       have h15 := HR h14 (hk'.sl s') hu hui b U
       rw [AV.iN _ q.grow (h.sl s')] at h15
       have := (h.lt s' b h15).1
       omega
   rw [wpOps_cons] at hw
   have E : wpOp C.P A (λ ex a w => match ex with | .normal => C' a w | _ => False) J.length C' V k'.w := wpOp_mono (λ a2 w2 h2 => by simpa [wpOps] using h2) hw
   unfold wpOp at E ⊢
   have hAo : A[J.length]? = some o1 := by rw [<- aH]; exact hno
   rw [hAo] at E ⊢
   dsimp only at E ⊢
   split at E
   · rename_i hwant
     rw [if_pos hwant]
     rcases E with E | E
     · left
       unfold Oper.wp at *
       generalize (execOp V.eval o1).run C.P k'.w = res at *
       cases res with
       | ok nx w' => cases nx <;> simp only [Oper.upon] at E ⊢ <;> first | exact E | (refine Calls.mono E λ ee w2 he => ?_; cases ee <;> first | exact he | exact he.elim | (obtain ⟨_, _, hb'⟩ := he; exact hb'.elim)) | (exact Rows.mono E λ _ _ he => he)
       | halt x w' => cases x <;> simp only [Oper.upon] at E ⊢ <;> first | exact E | exact E.elim
     .obtain ⟨_, _, _, hb'⟩ := E; exact hb'.elim
   · rename_i hwant
     rw [if_neg hwant]; exact E
 .intro kb V k' ⟨b,hpv,hsb,hkz,hkb,hbz,hfk⟩q;have hp:mf A.toList es J.length a kb V k':=mf.of q;have hp2:=hp;rw[h1]at hp2;have hh:=D5 hkb (λo hoc=>hW o (by rw[h1];simp[hoc])) h6 hp2;have hh2:=hh.M8 (b:=b) (z:=z) hl1 hpv (hbz.grow q.grow) (hwr b hsb) λH ht c U hc'=>by subst U;cases hr:aJ (lk e1 H)with|false=>exact absurd hc' (dG hr _ _ b);|true=>
   have h9:=h6.res H hr;have h10:=h6.slot H;rw[h9]at h10;have h11:lk e1 H=lk e H:=h10;have I:V.get H=a.get H:=q.rest H λi o' hi M hd=>by have h13:=(lastIdx_none h9).2 o' (by rw[h1,fH,rA hi]at M;exact jx M);exact h13 hd
   rw[h11,I,AV.iN _ q.grow (hkb.sl H),hfk H]at hc';exact hap b hsb H b hc' rfl
  rw[hsz];have:=EL hC (A:=A) (Q:=QN Q) (l:=G) (pre:=J++[o1]) (e:=(pt, .box false t z)::e1) (a:=V) (k:=k') (r:=r) (by rw[h1];simp) (λo hor=>hW o (by rw[h1];simp[hor])) hh2 (by simpa using h5) (λe' a2 k2 hk2 h'=>by obtain⟨e2,k3,g1,g2,g3⟩:=ng h' hk2;rw[<-g2];exact hQ e2 a2 k3 g1 g3);simpa using this
 .cases hx:(Array.replicate A.size false).getD J.length false with|false=>rfl;|true=>exact(hF _ hx).elim
 .exact⟨hg,rfl,rfl,λi o d e hi=>(hF i hi).elim,λ _ _=>rfl,λj o _ hj=>(hF j hj).elim,λi hi=>(hF i hi).elim⟩
theorem bE.fresh{k j m:K}{b:Nat}(g:bE k j)(c:Chg (Eq b) j m)(x:k.w.heap.size<=b):bE k m where
 tape:=c.tape.trans g.tape;os:=c.os.trans g.os;out:=c.out.trans g.out;size:=bB g.size c.size;blk i hi:=(c.blk i (gk hi g.size) (λe=>by omega)).trans (g.blk i hi);up i hi:=c.up i (g.up i hi);new i hi u:=(c.new i (gk hi g.size) u).elim (λh=>g.new i hi h) λe=>by omega
 drawn:=bB g.drawn c.drawn
theorem KS{f:List Oper}{l:List Oper}{m:Nat}{e:Env T}{K:Env T->Option R}{r:R}(h:evT C f (ixs m l) e K=some r):(∃g os d t z,l=[g,os]/\F6 C e g os=some (d,⟨t,z⟩)/\put e d (.box false t z) K=some r)∨(ev2 C f (ixs m l) e λj=>qe C f j K)=some r:=by match l,h with
 |[g,os],h=>simp only[ixs,evT]at h;cases q:F6 C e g os with|none=>rw[q]at h;exact .inr h;|some x=>obtain⟨d,t,z⟩:=x;rw[q]at h;exact .inl ⟨g,os,d,t,z,rfl,q,h⟩
 |[],h=>exact .inr h;|[_],h=>exact .inr h;|_::_::_::_,h=>exact .inr h
theorem PQ{P:Program}{y:TypeId}{t:Tp}(h:Qp P T y t=true):(T.e t).agg=true/\∃z:Array Value,(∀w,(zeroValue y).run P w= .ok (.agg z) w)/\z.size=(T.e t).sz/\∀u∈z.toList,u.oneCell'=true:=by
 unfold Qp at h;split at h
 · rename_i i hi;split at h;·rename_i z f;simp only[aD,bG]at h;exact⟨h.1.1,z,λw=>by simp[zeroValue,typeInfo,hi,f],ba h.1.2,h.2⟩
   .simp at h
 .simp at h
theorem Sb{f:List Oper}{m os:Oper}{e:Env T}{a:Act}{k:K}{d:Nat}{t:Tp}{z:T.D t}{Kc:Env T->Option R}{r:R}(hA:A.toList=f++[m,os])(hW:∀o∈[m,os],∀d,o.dst=some d->d∈W)(h:Hl C.n F k0 W a0 e a k)(g:F6 C e m os=some (d,⟨t,z⟩))(G:put e d (.box false t z) Kc=some r)(hQ:∀e' q k',Kc e'=some r->Hl C.n F k0 W a0 e' q k'->Q .normal q k'.w):wpOps C.P A Q (List.range' f.length 2) a k.w:=by
 unfold F6 at g;split at g;.rename_i ty d0 ty' d' y ho1 hd1 hg1 ho2 hd2 hg2;cases hb:(Nat.beq d' d0&&Nat.blt d0 C.n&&!(u9 (.tmp d0) y))with|false=>rw[hb]at g;simp at g;|true=>
   rw[hb]at g;simp only[cond_true]at g;simp only[aD,cN]at hb;obtain⟨⟨hb1,H⟩,hb3⟩:=hb;obtain rfl:=ba hb1;rw[Nat.blt_eq]at H;split at g;.rename_i t0 ht0;cases I:(!(oP C.P T ty t0)&&Qp C.P T ty t0&&tyB C.P T ty' t0)with|false=>rw[I]at g;simp at g;|true=>
 rw[I]at g;simp only[cond_true]at g;simp only[aD]at I;split at g
 .rename_i z0 hz0;simp only[aU,Prod.mk.injEq]at g;obtain⟨rfl,g⟩:=g;injection g with hr1 hr2;subst hr1;obtain rfl:=eq_of_heq hr2;obtain⟨hag,zc,hzr,hzs,hz1⟩:=PQ I.1.2;have hA1:nth A.toList f.length=some m:=by rw[hA];exact wC
  have hA2:nth A.toList (f.length+1)=some os:=by rw[hA,show f++[m,os]=(f++[m])++[os]by simp,show f.length+1=(f++[m]).length by simp];exact wC
  have hv0:IsV z0 (a.eval y) k:=gJ hz0 (fa (e:=e) (a0:=a) (by cases y with|tmp t=>exact⟨h.sl t,λ _=>rfl⟩;|global _=>exact h.gl;|_=>trivial));show wpOps C.P A Q [f.length,f.length+1] a k.w;have J:∀k:Go.Gb.K,IsV (⟨zc.toList⟩:dt (T.e t0).sz) (.agg zc) k:=λk=>⟨zc.toList,by show Value.agg zc= .agg zc.toList.toArray;simp,rfl,by simpa using hzs,hz1⟩;refine bL hA1 hg1 hd1 (by rw[h.s];exact H) trivial (gu (x:=(⟨zc.toList⟩:dt (T.e t0).sz)) k.w.heap.size (aA _) ho1 ⟨.agg zc,hzr,J⟩) λq k' hsz hdf u M hbx=>?_;obtain⟨b,E,hbs,O⟩:=hbx;have hye:q.eval y=a.eval y:=by cases y with|tmp t=>refine u t λe1=>?_;subst e1;simp[u9]at hb3|_=>rfl
  have hv1:IsV z0 (q.eval y) k':=by rw[hye];exact aZ.mono M hv0
  obtain⟨cs,ecs,j⟩:=hv1;refine cG (α:=dt (T.e t0).sz) (β:=dt (T.e t0).sz) (z:=⟨cs⟩) (b:=b) hA2 hg2 ho2 hd2 (qP I.2) Upd.self ?_ O ⟨cs,?_,rfl,Enc.len j,Enc.one j⟩ λU V hz=>?_;·show q.get d'=_;rw[E]
  .rw[ecs,hag];rfl
  ·have hle:=V.le (λc e=>e▸O.own);have hB:Box b z0 U:=hz.OZ (Enc.mono hle j);obtain⟨e',h1,h2⟩:=h.BP (d:=d') (av:= .box false t0 z0) (hW m (by simp) _ hd1) (bE.fresh M V hbs) hsz hdf u ⟨b,E,hB⟩ (λ _ hm=>by simp[AV.bP]at hm) (λc hcf=>by have:q.get d'= .pointer (some ⟨c,0,none⟩):=hcf;rw[E]at this;simp only[Value.pointer.injEq,aU,Addr.mk.injEq,and_true]at this;omega) G;exact hQ e' q U h1 h2
 .simp at g
   .simp at g
 .simp at g
theorem I2(hC:rX C){id:Nat}{draw:Bool}{e:Env T}{a:Act}{k:K}{K:Env T->Option R}{r:R}(hW:∀o∈A.toList,∀d,o.dst=some d->d∈W)(h:Hl C.n F k0 W a0 e a k)(hk:evR C A.toList draw e K=some r)(hQ:∀e' a' k',K e'=some r->Hl C.n F k0 W a0 e' a' k'->Q .normal a' k'.w):(Code.region id A draw).wp C.P Q a k.w:=by unfold evR at hk;cases hlate:(draw&&(NS A.toList||(Jp A.toList&&RT A.toList)))with
 |true=>rw[hlate]at hk;simp only[cond_true]at hk;rw[aD]at hlate;obtain rfl:=hlate.1;cases hnw:Jp A.toList with|true=>rw[hnw]at hk;exact Tl hC hW h hk hQ;|false=>rw[hnw]at hk;exact Th hC hW h hk hQ
 |false=>
 rw[hlate]at hk;simp only[cond_false]at hk;have p0:P1 e a [] [] e:=⟨rfl,λt=>rfl,λt _=>rfl,h.inv⟩;obtain⟨cs,rest,es,e1,h1,h2,_,h4,h5,h6,h7,_⟩:=wI (n:=C.n) (F:=F) (kk:=k0) (W:=W) (aa:=a0) hC (bH:=0) (B:=0) A.toList (λs hs=>by simp at hs) (A.toList.length+1) R none [] A.toList [] e _ r [] (by simp) p0 (λes' o ho=>by unfold iT;rw[ho]) hk;simp only[ko]at h5 h6 h7;have hlen:A.toList.length-(ixs cs.length rest).length=cs.length:=by
  have:(ixs cs.length rest).length=rest.length:=by rw[<-jv (f:=(·.2)),Aj]
  rw[this,h1];simp
 have htake:A.toList.take cs.length=cs:=by rw[h1,il];rfl
 rw[hlen,htake]at h5;have hneed:(Co cs).map (·.need)=es.map (·.need):=by rw[ym,h4]
 have hst:Steps C.P es a k (A.toList.take cs.length) es:=by rw[htake];have:=h7 k h (bY _) [];simpa using this
 have hsz:A.size-cs.length=rest.length:=by
  have:A.size=(cs++rest).length:=by rw[<-h1];simp
  rw[this];simp
 have tail:evT C A.toList (ixs cs.length rest) e1 K=some r->∀b q,mf A.toList es cs.length a k b q->wpOps C.P A Q (List.range' cs.length (A.size-cs.length)) b q.w:=by
  intro hev b q hp;rw[hsz];rw[h1]at hp;have hh:=D5 h (λo ho=>hW o (by rw[h1];simp[ho])) h6 hp;rcases KS hev with⟨oa,os,d,t,z,rfl,hr,hput⟩|hev;.exact Sb h1 (λo ho=>hW o (by rw[h1];simp[ho])) hh hr hput hQ
  exact EL hC h1 (λo ho=>hW o (by rw[h1];simp[ho])) hh hev λe' a' k' hk' h'=>by obtain⟨e2,k2,g1,g2,g3⟩:=ng h' hk';rw[<-g2];exact hQ e2 a' k2 g1 g3
 cases draw with
 |false=>simp only[cond_false]at h5;rw[tp hneed]at h5;cases hc:lU C.n cs.length A.toList es with|false=>rw[hc]at h5;simp at h5;|true=>rw[hc]at h5;exact xv es h.s hc hst trivial (tail h5)
 |true=>simp only[cond_true]at h5;rw[KH hneed]at h5;cases hc:chk C.n cs.length A.toList es with|false=>rw[hc]at h5;simp at h5;|true=>rw[hc]at h5;exact region es hC.mix h.s hc hst trivial (tail h5)
end
end Go.Gb
namespace Go.Gb
variable{T:Tb}{R:Type}
def GY(W:List Nat)(e:Env T):Env T:=e.map λp=>(p.1,bif W.contains p.1 then p.2 else lkA p.2)
theorem tV(W:List Nat):∀(e:Env T)(k:Env T->Option R),Az W e k=k (GY W e)|[],_=>rfl|(t,a)::e,k=>by rw[Az,tV W e];rfl
theorem qc{W:List Nat}:∀(e:Env T)(t:Nat),lk (GY W e) t=bif W.contains t then lk e t else lkA (lk e t)
 |[],t=>by cases W.contains t<;>rfl;|(s,x)::e,t=>by
  show lk ((s,_)::GY W e) t=_;rw[bg,bg,qc e];split;.rename_i h;subst h;rfl
  .rfl
def mL(lock:Bool)(W Wd Wv:List Nat):Env T->Env T|[]=>[]|(t,a)::e=>bif W.contains t then mL lock W Wd Wv e else(t,bif Wd.contains t then a else ff lock (W++Wv) a)::mL lock W Wd Wv e
theorem qh(lock:Bool)(W Wd Wv:List Nat):∀(e:Env T)(k:Env T->Option R),xI lock W Wd Wv e k=k (mL lock W Wd Wv e)|[],_=>rfl|(t,a)::e,k=>by rw[xI,qh lock W Wd Wv e];rfl
theorem xp{lock:Bool}{W Wd Wv:List Nat}:∀(e:Env T)(t:Nat),lk (mL lock W Wd Wv e) t=bif W.contains t then .top else bif Wd.contains t then lk e t else ff lock (W++Wv) (lk e t)|[],t=>by show AV.top=_;cases W.contains t<;>cases Wd.contains t<;>rfl;|(s,x)::e,t=>by simp only[mL];cases hs:W.contains s with
 |true=>
 simp only[cond_true];rw[xp e,bg];split;.rename_i h;subst h;rw[hs];rfl
 .rfl|false=>
 simp only[cond_false];rw[bg,bg,xp e];split;.rename_i h;subst h;rw[hs];rfl
 .rfl
theorem R7{a:Act}{x:AV T}{v:Value}{k:K}(h:x.is a v k):(lkA x).is a v k:=by cases x<;>exact h
theorem Sv{x:AV T}{v:Value}{k:K}:(lkA x).fp v k=x.fp v k:=by cases x<;>rfl
theorem QF{x:AV T}:aJ (lkA x)=aJ x:=by cases x<;>rfl
theorem Nn{x:AV T}{s:Nat}:(lkA x).bP s=x.bP s:=by cases x<;>rfl
theorem Po{x:AV T}:unl (lkA x)=false:=by cases x<;>rfl
def FU(e:Env T)(a:Act)(k:K)(L:List Nat):FP:=λb=>∃t,L.contains t=true/\unl (lk e t)=true/\(lk e t).fp (a.get t) k b
section
variable{n:Nat}{F:FP}{k0:K}{W:List Nat}{a0:Act}{e e':Env T}{a a':Act}{k k':K}
theorem Hl.lock(h:Hl n F k0 W a0 e a k)(L u:List Nat):Hl n (FU e a k L) k u a (GY L e) a k:=by
 have f:∀t,(lk _ t).fp _ k=(lk e t).fp (a.get t) k:=λt=>by
  rw[qc];cases L.contains t;.exact Sv
  .rfl
 refine⟨Chg.refl _ k,h.s,h.d,λ _ _=>rfl,λt=>?_,λt s j=>?_,λt g=>?_,λt w q=>by rw[f,f];exact h.ap t w q,h.gl⟩
 · rw[qc];cases L.contains t;.exact R7 (h.sl t)
   .exact h.sl t
 · have h1:(lk e t).bP s=true:=by
    rw[qc]at j;cases m:L.contains t<;>rw[m]at j;.rwa[cond_false,Nn]at j
    .exact j
   rw[qc];cases L.contains s;.rw[cond_false,QF];exact h.inv t s h1
   .exact h.inv t s h1
 · rw[f];rw[qc]at g;cases m:L.contains t<;>rw[m]at g;.rw[cond_false,Po]at g;simp at g
   .exactλb x=> .inl ⟨t,m,g,x⟩
theorem Mt{a:Act}{lock:Bool}{L:List Nat}{x:AV T}{v:Value}{k:K}(h:x.is a v k):(ff lock L x).is a v k:=by cases x with|al s=>simp only[ff];cases L.contains s;exact h;trivial;|mv f s=>simp only[ff];cases L.contains s;exact h;trivial;|sp s m=>simp only[ff];cases lock||L.contains s;exact h;trivial;|_=>first|exact h|trivial
theorem uz{lock:Bool}{L:List Nat}{x:AV T}{v:Value}{k:K}:∀b,(ff lock L x).fp v k b->x.fp v k b:=by intro b hb;cases x with|al s=>simp only[ff]at hb;cases hc:L.contains s<;>rw[hc]at hb<;>exact hb;|mv f s=>simp only[ff]at hb;cases hc:L.contains s<;>rw[hc]at hb<;>exact hb;|sp s m=>simp only[ff]at hb;cases hc:lock||L.contains s<;>rw[hc]at hb<;>exact hb;|_=>exact hb
theorem Ff{lock:Bool}{L:List Nat}{x:AV T}{s:Nat}(h:(ff lock L x).jU s=true):x.bP s=true/\lock=false/\L.contains s=false:=by cases x with
 |al s'=>simp only[ff]at h;cases hc:L.contains s'<;>rw[hc]at h<;>simp[AV.jU]at h;|mv f s'=>simp only[ff]at h;cases hc:L.contains s'<;>rw[hc]at h<;>simp[AV.jU]at h;|sp s' m=>simp only[ff]at h;cases hc:lock||L.contains s' with|true=>rw[hc]at h;simp[AV.jU]at h;|false=>rw[hc]at h;have:s'=s:=ba h;subst this;rw[pw]at hc;exact⟨h,hc⟩
 |_=>simp[ff,AV.jU]at h
theorem Bh{lock:Bool}{L:List Nat}{x:AV T}{s:Nat}(h:(ff lock L x).bP s=true):x.bP s=true/\L.contains s=false:=by cases x with
 |al s'=>simp only[ff]at h;cases hc:L.contains s' with|true=>rw[hc]at h;simp[AV.bP]at h;|false=>rw[hc]at h;have:s'=s:=ba h;subst this;exact⟨h,hc⟩
 |mv f s'=>simp only[ff]at h;cases hc:L.contains s' with|true=>rw[hc]at h;simp[AV.bP]at h;|false=>rw[hc]at h;have:s'=s:=ba h;subst this;exact⟨h,hc⟩
 |sp s' m=>simp only[ff]at h;cases hc:lock||L.contains s' with|true=>rw[hc]at h;simp[AV.bP]at h;|false=>rw[hc]at h;have:s'=s:=ba h;subst this;rw[pw]at hc;exact⟨h,hc.2⟩
 |_=>simp[ff,AV.bP]at h
theorem KF{f:Bool}{L:List Nat}{x:AV T}(h:aJ x=true):aJ (ff f L x)=true:=by cases x<;>first|rfl|simp[aJ]at h
theorem KX{lock:Bool}{L:List Nat}{x:AV T}(h:unl (ff lock L x)=true):lock=false/\unl x=true:=by cases x with|own b e t xs=>cases lock<;>cases b<;>simp[ff,unl]at h⊢;|box b t x=>cases lock<;>cases b<;>simp[ff,unl]at h⊢;|rs b m x=>cases lock<;>cases b<;>simp[ff,unl]at h⊢;|tr b κ x l=>cases lock<;>cases b<;>simp[ff,unl]at h⊢;|al s=>simp only[ff]at h;cases hc:L.contains s<;>rw[hc]at h<;>simp[unl]at h;|mv f s=>simp only[ff]at h;cases hc:L.contains s<;>rw[hc]at h<;>simp[unl]at h;|sp s m=>simp only[ff]at h;cases hc:lock||L.contains s<;>rw[hc]at h<;>simp[unl]at h;|_=>simp[ff,unl]at h
theorem uc(h:Hl n F k0 W a0 e a k){t:Nat}{w:Kd}{x:w.D T}(g:eV e t w=some x):(avK w x).is a (a.get t) k/\(∀s,(avK w x).bP s=false)/\∀b,(avK w x).fp (a.get t) k b->unl (lk e t)=true/\(lk e t).fp (a.get t) k b:=by have f:=h.sl t;cases w with
 |v u=>exact⟨gQ.2 (gJ g (EX f)),λ _=>sr,λb j=>absurd j (dG vn _ _ b)⟩;|o el u=>
 simp[eV]at g;split at g;.rename_i z H I q;cases j:Nat.beq el z with|false=>rw[j]at g;simp at g;|true=>rw[j]at g;obtain rfl:=ba j;obtain⟨E,G⟩:=cast?_eq g;injection E with E;subst E;obtain rfl:x=I:=G;rw[q]at f;exact⟨f,λ _=>rfl,λb j=>⟨by rw[q];rfl,by rw[q];exact j⟩⟩
 .rename_i q;obtain rfl:=ae g;rw[q]at f;exact⟨ij.Ts f,λ _=>rfl,λb j=>absurd j (ij.Sx (k:=k) f b)⟩
 .simp at g|b u=>
 simp[eV]at g;split at g;.rename_i H y q;obtain⟨rfl,G⟩:=cast?_eq g;obtain rfl:x=y:=G;rw[q]at f;exact⟨f,λ _=>rfl,λb j=>⟨by rw[q];rfl,by rw[q];exact j⟩⟩
 .simp at g;|c m=>
 simp[eV]at g;split at g
 · rename_i M y q;split at g;.rename_i J _;obtain rfl:=J.down;obtain rfl:=ae g;rw[q]at f;exact⟨f,λ _=>rfl,λb j=>⟨by rw[q];rfl,by rw[q];exact j⟩⟩
   .simp at g
 .simp at g
theorem II{j:List Nat}{e e':Env T}:∀{f:Sp},(∀t,t∈spW f->lk e t=lk e' t)->take j e f=take j e' f:=by
 have one:∀p:Nat×Kd,lk e p.1=lk e' p.1->eV e p.1 p.2=eV e' p.1 p.2:=by intro p u;obtain⟨s,w⟩:=p;cases w<;>simp[eV]<;>rw[u]
 intro f;induction f with|nil=>intro _;rfl;|cons p l x=>intro h;cases l with|nil=>simp[take];rw[one p (h p.1 (by simp[spW]))];|cons q l=>simp[take];rw[one p (h p.1 (by simp[spW])),x λt m=>h t (by simp[spW]at m⊢;exact .inr m)]
theorem Kj{ds xs:List Nat}(hds:∀d,ds.contains d=true->xs.contains d=true){e base:Env T}:∀{sp:Sp}{s:SpD T sp},take ds e sp=some s->∀t,((spW sp).contains t=false/\lk (gz xs sp s base) t=lk base t)∨((spW sp).contains t=true/\∃κ,(t,κ)∈sp/\(lk (gz xs sp s base) t= .top/\xs.contains t=true∨∃x,eV e t κ=some x/\lk (gz xs sp s base) t=avK κ x)):=by
  have one:∀{p:Nat×Kd} {y:p.2.D T} {b:Env T} (t:Nat),(bif ds.contains p.1 then some p.2.zJ else eV e p.1 p.2)=some y->p.1=t->(lk ((p.1,bif xs.contains p.1 then .top else avK p.2 y)::b) t= .top/\xs.contains t=true∨∃x,eV e t p.2=some x/\lk ((p.1,bif xs.contains p.1 then .top else avK p.2 y)::b) t=avK p.2 x):=by intro p y b t hy ht;rw[bg,if_pos ht];cases hx:xs.contains p.1 with|true=>exact .inl ⟨rfl,ht▸hx⟩;|false=>
 have hd:ds.contains p.1=false:=by cases hd:ds.contains p.1 with|false=>rfl;|true=>rw[hds _ hd]at hx;simp at hx
 rw[hd]at hy;rw[<-ht];exact .inr ⟨y,hy,rfl⟩
  have cont:∀(p:Nat×Kd) (l:Sp) (t:Nat),(spW (p::l)).contains t=(t==p.1||(spW l).contains t):=λp l t=>by simp[spW]
  intro sp;induction sp with
 |nil=>intro s _ t;exact .inl ⟨rfl,rfl⟩
 |cons p l ih=>intro s hs t;cases l with|nil=>
 simp only[take]at hs;rw[cont];by_cases ht:p.1=t;.exact .inr ⟨by simp[ht],p.2,by rw[<-ht];exact List.mem_singleton_self _,one t hs ht⟩
 · have:(t==p.1)=false:=by simpa usingλe=>ht e.symm
   exact .inl ⟨by rw[this];rfl,by simp only[gz];rw[bg,if_neg ht]⟩|cons q l=>
 simp only[take]at hs;split at hs
 · rename_i y ys hy hys;obtain rfl:=ae hs;rw[cont];by_cases ht:p.1=t;.exact .inr ⟨by simp[ht],p.2,by rw[<-ht];exact dw,one t hy ht⟩
   · have hne:(t==p.1)=false:=by simpa usingλe=>ht e.symm
     have:=ih hys t;rw[hne,ga];simp only[gz];rw[bg,if_neg ht];exact this.imp id λ ⟨a,κ,b,c⟩=>⟨a,κ,bR _ b,c⟩
 .simp at hs
theorem Od(h:Hl n F k0 W a0 e a k){Wc:List Nat}{sp:Sp}{ds xs:List Nat}(hds:∀d,ds.contains d=true->xs.contains d=true){s:SpD T sp}(i:Hl n (FU e a k (Wc++spW sp)) k Wc a e' a' k')(ht:take ds e' sp=some s)(lock:Bool){Wv:List Nat}(hv:∀u κ,(u,κ)∈sp->Wv.contains u=false->xs.contains u=false/\∀x:κ.D T,aJ (avK κ x)=true)(hsp:lock=false->∀u,Wv.contains u=false->(spW sp).contains u=false):let E:=gz xs sp s (mL lock Wc (spW sp) Wv e)
 (∀t,(lk E t).is a' (a'.get t) k')/\(∀t u,(lk E t).bP u=true->aJ (lk E u)=true)/\(∀t t',t≠t'->bj ((lk E t).fp (a'.get t) k') ((lk E t').fp (a'.get t') k'))/\∀t,unl (lk E t)=true->Wr (FU e a k (Wc++spW sp)) k ((lk E t).fp (a'.get t) k')∨(lock=false/\unl (lk e t)=true/\∀b,(lk E t).fp (a'.get t) k' b->(lk e t).fp (a.get t) k b):=by
 intro E;have hFn:∀b,FU e a k (Wc++spW sp) b->¬k.sh b:=λb ⟨t,_,_,hb⟩=>(h.lt t b hb).2;have cases3:∀t,(Wc.contains t=false/\(spW sp).contains t=false/\lk E t=ff lock (Wc++Wv) (lk e t))∨lk E t= .top∨((spW sp).contains t=true/\∃κ x,eV e' t κ=some x/\lk E t=avK κ x):=by
  intro t;rcases Kj hds (base:=mL lock Wc (spW sp) Wv e) ht t with⟨h1,h2⟩|⟨h1,κ,_,⟨h2,_⟩|⟨x,h2⟩⟩;·rw[xp]at h2;cases hw:Wc.contains t with|true=>rw[hw]at h2;exact .inr (.inl h2);|false=>rw[hw,h1]at h2;exact .inl ⟨rfl,h1,h2⟩
  .exact .inr (.inl h2)
  .exact .inr (.inr ⟨h1,κ,x,h2⟩)
 have hold:∀t,Wc.contains t=false->a'.get t=a.get t:=λt ht=>i.old t (by simpa using ht);have apK:∀t,Wc.contains t=false->(spW sp).contains t=false->∀b,(lk e t).fp (a.get t) k b->¬FU e a k (Wc++spW sp) b:=by
  intro t h1 h2 b hb ⟨t2,h3,h4,h5⟩;by_cases e1:t=t2;·subst e1;simp at h1 h2 h3;exact h3.elim h1 h2
  .exact h.ap t t2 e1 b hb h5
 have fpk:∀t,Wc.contains t=false->(spW sp).contains t=false->(lk e t).fp (a.get t) k'=(lk e t).fp (a.get t) k:=λt h1 h2=>AV.oZ _ i.g hFn (λb hb hb'=>apK t h1 h2 b hb hb') (h.sl t);have fpT:∀t κ x,eV e' t κ=some x->∀b,(avK κ x).fp (a'.get t) k' b->(lk e' t).fp (a'.get t) k' b/\(FU e a k (Wc++spW sp) b∨k.w.heap.size<=b):=by intro t κ x hx b hb;obtain⟨_,_,h3⟩:=uc i hx;obtain⟨h4,h5⟩:=h3 b hb;exact⟨h5,i.wr t h4 b h5⟩
 refine⟨λt=>?_,λt u hu=>?_,λt t' hne b hb hb'=>?_,λt hu=>?_⟩
 · rcases cases3 t with⟨h1,h2,h3⟩|h3|⟨_,κ,x,h2,h3⟩;·rw[h3,hold t h1];have h4:(ff lock (Wc++Wv) (lk e t)).is a (a.get t) k':=AV.keep _ i.g hFn (λb hb hb'=>apK t h1 h2 b (uz b hb) hb') (λs hs y hy hyi b hb hb'=>by
 obtain⟨g1,g2,g3⟩:=Ff hs;have g4:Wc.contains s=false/\Wv.contains s=false:=by simpa using g3
 exact apK s g4.1 (hsp g2 s g4.2) b (HR (h.inv t s g1) (h.sl s) hy hyi b hb) hb') (Mt (h.sl t));refine AV.congr _ (λs hs=>?_) h4;have:=(Bh hs).2;exact hold s (by simp at this⊢;exact this.1)
   .rw[h3];trivial
   .rw[h3];exact(uc i h2).1
 · rcases cases3 t with⟨h1,h2,h3⟩|h3|⟨_,κ,x,h2,h3⟩
   · rw[h3]at hu;obtain⟨h4,h5⟩:=Bh hu;have h6:=h.inv t u h4;simp at h5;rcases Kj hds (base:=mL lock Wc (spW sp) Wv e) ht u with⟨h7,h8⟩|⟨h7,κ,hm,h8⟩
     · show aJ (lk (gz xs sp s (mL lock Wc (spW sp) Wv e)) u)=true;rw[h8,xp,h7];have:Wc.contains u=false:=by simpa using h5.1
       rw[this];exact KF h6
     · obtain⟨hx,hr⟩:=hv u κ hm (by simpa using h5.2);rcases h8 with⟨_,h8⟩|⟨x,_,h8⟩;.rw[hx]at h8;simp at h8
       ·show aJ (lk (gz xs sp s (mL lock Wc (spW sp) Wv e)) u)=true;rw[h8];exact hr x
   .rw[h3]at hu;simp[AV.bP]at hu
   .rw[h3,(uc i h2).2.1]at hu;simp at hu
 · rcases cases3 t with⟨h1,h2,h3⟩|h3|⟨_,κ,x,h2,h3⟩
   · rw[h3,hold t h1]at hb;have hb:=uz b hb;rw[fpk t h1 h2]at hb;rcases cases3 t' with⟨h4,h5,h6⟩|h6|⟨_,κ',x',h5,h6⟩;·rw[h6,hold t' h4]at hb';have hb':=uz b hb';rw[fpk t' h4 h5]at hb';exact h.ap t t' hne b hb hb'
     .rw[h6]at hb';exact hb'
     · rw[h6]at hb';rcases(fpT t' κ' x' h5 b hb').2 with h7|h7;.exact apK t h1 h2 b hb h7
       .have:=(h.lt t b hb).1;omega
   .rw[h3]at hb;exact hb
   · rw[h3]at hb;obtain⟨h7,h8⟩:=fpT t κ x h2 b hb;rcases cases3 t' with⟨h4,h5,h6⟩|h6|⟨_,κ',x',h5,h6⟩
     · rw[h6,hold t' h4]at hb';have hb':=uz b hb';rw[fpk t' h4 h5]at hb';rcases h8 with h8|h8;.exact apK t' h4 h5 b hb' h8
       .have:=(h.lt t' b hb').1;omega
     .rw[h6]at hb';exact hb'
     ·rw[h6]at hb';exact i.ap t t' hne b h7 (fpT t' κ' x' h5 b hb').1
 · rcases cases3 t with⟨h1,h2,h3⟩|h3|⟨_,κ,x,h2,h3⟩;·rw[h3]at hu;obtain⟨h4,h5⟩:=KX hu;refine .inr ⟨h4,h5,λb hb=>?_⟩;rw[h3,hold t h1]at hb;have hb:=uz b hb;rw[fpk t h1 h2]at hb;exact hb
   .rw[h3]at hu;simp[unl]at hu
   ·refine .inl λb hb=>?_;rw[h3]at hb;exact(fpT t κ x h2 b hb).2
theorem JR:∀{sp:Sp}{u:Nat}{κ:Kd},(u,κ)∈sp->(spV sp).contains u=false->∀x:κ.D T,aJ (avK κ x)=true
 |(s,q)::l,u,κ,hm,hc,x=>by
  rcases bD.1 hm with h|h;·cases h;cases q with|v t=>simp[spV]at hc;|_=>rfl
  ·refine JR h ?_ x;cases q<;>simp_all[spV]
theorem Kp(h:Hl n F k0 W a0 e a k){Wc:List Nat}{sp:Sp}{s:SpD T sp}(i:Hl n (FU e a k (Wc++spW sp)) k Wc a e' a' k')(ht:take [] e' sp=some s):Hl n (FU e a k (Wc++spW sp)) k Wc a (gz [] sp s (mL true Wc (spW sp) (spV sp) e)) a' k':=by
 obtain⟨h1,h2,h3,h4⟩:=Od h (ds:=[]) (xs:=[]) (λd hd=>by simp at hd) i ht true (Wv:=spV sp) (λu κ hm hc=>⟨rfl,JR hm hc⟩) (λh=>by simp at h);refine⟨i.g,i.s,i.d,i.old,h1,h2,λt hu=>?_,h3,i.gl⟩;rcases h4 t hu with h5|⟨h5,_⟩;.exact h5
 .simp at h5
theorem xN(h:Hl n F k0 W a0 e a k){Wc:List Nat}{sp:Sp}{ds xs:List Nat}(hds:∀d,ds.contains d=true->xs.contains d=true){s:SpD T sp}(hW:∀t∈Wc,t∈W)(i:Hl n (FU e a k (Wc++spW sp)) k Wc a e' a' k')(ht:take ds e' sp=some s):Hl n F k0 W a0 (gz xs sp s (mL false Wc (spW sp) (spW sp) e)) a' k':=by
 obtain⟨h1,h2,h3,h4⟩:=Od h hds i ht false (Wv:=spW sp) (λu κ hm hc=>absurd (show(spW sp).contains u=true by simpa[spW]using⟨κ,hm⟩) (by rw[hc];simp)) (λ _ _ h=>h);have hwr:Wr F k0 (FU e a k (Wc++spW sp)):=λb ⟨t,_,h5,h6⟩=>h.wr t h5 b h6;refine⟨h.g.step i.g hwr,i.s,i.d,λt ht=>?_,h1,h2,λt hu b hb=>?_,h3,i.gl⟩;.rw[i.old t (λh'=>ht (hW t h')),h.old t ht]
 · rcases h4 t hu with h5|⟨_,h5,h6⟩
   · rcases h5 b hb with h5|h5;.exact hwr b h5
     .exact .inr (bB h.g.size h5)
   .exact h.wr t h5 b (h6 b hb)
end
end Go.Gb
namespace Go.Gb
variable{T:Tb}{R:Type}
structure Rz(C:Cx T)(sl:Nat)(tu ro:Rk)(cod:List Tp)(F:FP)(k0:K)(a0:Act)(x:tu.D T×ro.D T×HL T.S cod)(a:Act)(k:K):Prop where
 dn:a.defers=[]sle:isN tu=false->a.get sl=a0.get sl
 ex:∃k',k'.w=k.w/\Chg F k0 k'/\tu.is x.1 (a.get sl) k'/\Wr F k0 (tu.fp T (a.get sl) k')/\∀fn:Func,fn.results.toList=C.rs->∃v,(results fn a.tmps).run C.P k'.w= .ok v k'.w/\(uJ ro cod x.2.1 x.2.2).is ⟨#[],[]⟩ v k'/\Wr F k0 ((uJ ro cod x.2.1 x.2.2).fp v k')/\bj (tu.fp T (a.get sl) k') ((uJ ro cod x.2.1 x.2.2).fp v k')
abbrev qw(C:Cx T)(e:Rv T)(F:FP)(f:K)(a0:Act)(x:e.D T)(a:Act)(k:K):Prop:=Rz C e.sl e.tu e.ro e.cod F f a0 (e.inj x) a k
theorem qw.step{C:Cx T}{e:Rv T}{F G:FP}{f j k:K}{x:e.D T}{a0 u a:Act}(h:qw C e G j u x a k)(g:Chg F f j)(w:Wr F f G)(z:isN e.tu=false->u.get e.sl=a0.get e.sl):qw C e F f a0 x a k:=by
 have⟨h1,E,I,J,M,O,P,Q⟩:=h;have wr:∀H,Wr G j H->Wr F f H:=λH hH b U=>by
  rcases hH b U with m|m;.exact w b m
  .exact .inr (bB g.size m)
 refine⟨h1,λy=>(E y).trans (z y),I,J,g.step M w,O,wr _ P,λV q=>?_⟩;have⟨v,g1,g2,g3,g4⟩:=Q V q;exact⟨v,g1,g2,wr _ g3,g4⟩
section
variable{C:Cx T}{cod:Rv T}{F:FP}{k0:K}{W:List Nat}{a0:Act}{e:Env T}{a:Act}{k:K}
theorem FL(h:Hl C.n F k0 W a0 e a k){t:Tp}{j:ResultVar}{x:T.D t}(f:HQ.resH1 C e t j=some x):∃v,(uy a.tmps j).run C.P k.w= .ok v k.w/\IsV x v k:=by cases j with|tmp s=>exact⟨_,rfl,gJ f (EX (h.sl s))⟩;|cell s H=>
 simp[HQ.resH1]at f;have g:=h.sl s;split at f;.rename_i l u y I;rw[I]at g;have⟨b,J,m⟩:=g;cases q:tyB C.P T H u with|false=>rw[q]at f;simp at f;|true=>rw[q]at f;obtain⟨rfl,z⟩:=cast?_eq f;obtain rfl:x=y:=z;exact vL (PA (wQ q) J m)
 .simp at f
theorem Jt(h:Hl C.n F k0 W a0 e a k):∀{l:List Tp}{rs:List ResultVar}{x:HL T.S l},HQ C e l rs=some x->∃g:List Value,(rs.mapM (uy a.tmps)).run C.P k.w= .ok g k.w/\g.length=l.length/\Fa2 (unH l x) g k
 |[],[],x,_=>⟨[],by simp,rfl,trivial⟩|[t],[q],x,f=>by have⟨v,h1,j⟩:=FL h f;exact⟨[v],by simp[h1],rfl,j,trivial⟩;|t::H::l,q::rs,x,f=>by
  simp[HQ]at f;split at f;.rename_i y I u m;obtain rfl:=ae f;have⟨v,h1,j⟩:=FL h u;have⟨g,z,E,G⟩:=Jt h m;exact⟨v::g,by simp[h1,z],by simp[E],j,G⟩
  .simp at f
theorem GC{f:Rk}{av:AV T}{y:f.D T}{v:Value}(h:ki f av=some y)(q:av.is a v k):f.is y v k/\∀b,f.fp T v k b->unl av=true/\av.fp v k b:=by cases j:aJ av with
 |true=>have⟨h1,w⟩:=AI h q j;refine⟨h1,λb g=>?_⟩;cases u:isN f with|true=>exact(Rk.fpN u b g).elim;|false=>have⟨x,z⟩:=w u;exact⟨z,by rw[<-x];exact g⟩
 |false=>cases f with
 |n=>exact⟨trivial,λb g=>g.elim⟩;|o e t=>cases av with|e0=>simp[ki]at h;subst h;exact⟨ij.Ts q,λb g=>absurd g (ij.Sx (k:=k) q b)⟩;|own _ _ _ _=>simp[aJ]at j;|_=>simp[ki]at h
 |b t=>cases av with|box _ _ _=>simp[aJ]at j;|_=>simp[ki]at h
 |c m=>cases av with|rs _ _ _=>simp[aJ]at j;|_=>simp[ki]at h
theorem OC{f:Rk}(h:isN f=false):roR C e f=ro1 e f C.rs:=by cases f<;>first|rfl|simp[isN]at h
theorem Ae{l:List Tp}{x:HL T.S l}{v:Value}{k:K}:∀b,¬(mH l x).fp v k b:=dG uv v k
theorem QV(h:Hl C.n F k0 W a0 e a k){sl:Nat}{tu ro:Rk}{cod:List Tp}(Q:isN tu=false->sl∉W)(E:(!(isN tu)&&!(isN ro)&&EF C.rs sl)=false){y:tu.D T}{w:ro.D T}{r:HL T.S cod}(hy:ki tu (lk e sl)=some y)(G:roR C e ro=some w)(hr:HQ C e cod (Kf ro C.rs)=some r):Rz C sl tu ro cod F k0 a0 (y,w,r) a k:=by
 obtain⟨t1,t2⟩:=GC hy (h.sl sl);refine⟨h.d,λH=>h.old _ (Q H),k,rfl,h.g,t1,λb j=>h.wr _ (t2 b j).1 b (t2 b j).2,λfn U=>?_⟩;obtain⟨m,h1,h2,q⟩:=Jt h hr;unfold Kf at h1;try dsimp only at h1
 have u:∀{m:List Value},(C.rs.mapM (uy a.tmps)).run C.P k.w= .ok m k.w->(fn.results.mapM (uy a.tmps)).run C.P k.w= .ok m.toArray k.w:=λ{m}h1=>by rw[<-U]at h1;rw[Array.mapM_eq_mapM_toList];simp[h1]
 rw[wz];cases f:isN ro with
 |true=>
 rw[f]at h1;simp only[cond_true]at h1;have z:=u h1;have I:uJ ro cod w r=mH cod r:=by unfold uJ;rw[f];rfl
 rw[I];have x:∀v,(mH cod r).is _ v k->(mH cod r).is ⟨#[],[]⟩ v k/\Wr F k0 ((mH cod r).fp v k)/\bj (tu.fp T (a.get sl) k) ((mH cod r).fp v k):=λv hv=>⟨hv,λb j=>absurd j (Ae b),λb _ j=>Ae b j⟩;match cod,r,m,h2,q with|[],r,[],_,_=>exact⟨.tuple #[],by simp[z],x _ trivial⟩;|[t],r,[v],_,q=>exact⟨v,by simp[z],x _ (gQ.2 q.1)⟩;|t::t'::l,r,v::v'::m,_,q=>exact⟨.tuple (v::v'::m).toArray,by simp[z],x _ ⟨_,rfl,q⟩⟩
  |false=>
 rw[f]at h1;simp only[cond_false]at h1;rw[OC f]at G;unfold ro1 at G;split at G
 · rename_i s rs J;rw[J]at h1 E;simp only[List.tail_cons]at h1;obtain⟨w1,V⟩:=GC G (h.sl s);have z:=u (m:=a.get s::m) (by rw[J];simp[List.mapM_cons,h1,uy,Act.get,cA]);have M:bj (tu.fp T _ k) _:=λb j hb'=>by
    have H:isN tu=false:=by cases H:isN tu with|false=>rfl;|true=>exact(Rk.fpN H b j).elim
    rw[H,f]at E;simp only[Bool.not_false,Bool.true_and,EF]at E;exact h.ap sl s (λe1=>by rw[e1,cL]at E;simp at E) b (t2 b j).2 (V b hb').2
   have O:Wr F k0 _:=λb j=>h.wr _ (V b j).1 b (V b j).2;match cod,r,m,h2,q with
  |[],r,[],_,_=>
  have I:uJ ro [] w r=ro.av w:=by unfold uJ;rw[f];rfl
  rw[I];exact⟨a.get s,by simp[z],(Rk.Hk f).2 w1,by rw[Rk.C6 f];exact O,by rw[Rk.C6 f];exact M⟩;|t::l,r,v::m,_,q=>
  have I:uJ ro (t::l) w r= .tr false ro w (unH (t::l) r):=by unfold uJ;rw[f];rfl
  rw[I];exact⟨.tuple (a.get s::v::m).toArray,by simp[z],⟨_,_,rfl,w1,q⟩,O,M⟩
 .simp at G
theorem Mk(h:Hl C.n F k0 W a0 e a k)(g:isN cod.tu=false->cod.sl∉W){x:cod.D T}(f:Qw C e cod=some x):qw C cod F k0 a0 x a k:=by have⟨sl,tu,ro,cod,ρ,pr,inj,hpr⟩:=cod;unfold Qw at f;cases j:(!(isN tu)&&!(isN ro)&&EF C.rs sl)with|true=>rw[j]at f;simp at f;|false=>
 rw[j]at f;split at f;.rename_i y w r m q u;obtain rfl:=ae f;unfold qw;dsimp;rw[hpr];exact QV h g j m q u
 .simp at f
theorem r7(h:Hl C.n F k0 W a0 e a k){m:List Nat}{j:Sp}{K:SpD T j->Option R}{r:R}(hk:qD m e j K=some r):∃s f g,K s=some r/\take m f j=some s/\g.w=k.w/\Hl C.n F k0 W a0 f a g:=by have⟨f,g,h1,q,u⟩:=p5 h hk;grind
theorem GX{x:Ls}:∀d,x.2.contains d=true->(x.1++x.2).contains d=true:=by intro d h;simp at h⊢;exact .inr h
theorem DE{i j:Nat}{x:Ls}{l:List (Nat×Ls)}{y:Ls}(h:Eh ((i,x)::l) j=some y):(i=j/\x=y)∨(i≠j/\Eh l j=some y):=by simp[Eh]at h;cases f:Nat.beq i j with|true=>rw[f]at h;exact .inl ⟨ba f,ae h⟩;|false=>rw[f]at h;exact .inr ⟨λe=>by rw[e]at f;simp at f,h⟩
theorem IY{ρ:Type}{m:Sp}{f:Env T}{K:Kt T ρ R}{r:R}{s:SpD T m}:∀{l:List (Nat×Ls)}{j:Nat}{x:Ls},Eh l j=some x->exK f K l j s=some r->K.ex j (gz (x.1++x.2) m s f)=some r
 |[],j,x,h,_=>by simp[Eh]at h;|[(i,y)],j,x,h,hk=>by
  rcases DE h with⟨rfl,rfl⟩|⟨_,h⟩;.exact hk
  .simp [Eh]at h|(i,y)::z::l,j,x,h,hk=>by
  simp[exK]at hk;rcases DE h with⟨rfl,rfl⟩|⟨g,h⟩;.rw [if_pos rfl]at hk;exact hk
  .rw [if_neg (Ne.symm g)]at hk;exact IY h hk
def Ct(C:Cx T)(c:Code)(e:Env T){R:Type}(j:Env T->Option R)(r:R):Prop:=∀(F:FP)(k0:K)(W:List Nat)(a0:Act)(a:Act)(k:K)(Q:Exit->Act->World->Prop),(∀t∈wrs c,t∈W)->Hl C.n F k0 W a0 e a k->(∀f g h,j f=some r->Hl C.n F k0 W a0 f g h->Q .normal g h.w)->c.wp C.P Q a k.w
def xC(C:Cx T):Prop:=∀i c e(R:Type)(K:Env T->Option R)(r:R),C.rg c->C.hk i c e R K=some r->Ct C c e K r
def oM(C:Cx T)(cod:Rv T)(c:Code):Prop:=(∀m∈fQ c,C.rg m)->∀(h:Hn T)(R:Type)(e:Env T)(M:Kt T (cod.D T) R)(r:R),ev C cod c h R e M=some r->∀(F:FP)(k0:K)(W:List Nat)(a0:Act)(a:Act)(k:K)(Q:Exit->Act->World->Prop),(∀t∈wrs c,t∈W)->(isN cod.tu=false->cod.sl∉W)->Hl C.n F k0 W a0 e a k->(∀j f g,M.go j=some r->Hl C.n F k0 W a0 j f g->Q .normal f g.w)->(∀i j f g,M.ex i j=some r->Hl C.n F k0 W a0 j f g->Q (.exit i) f g.w)->(∀x f g,M.rv x=some r->qw C cod F k0 a0 x f g->Q .ret f g.w)->c.wp C.P Q a k.w
theorem JJ{h:Hl C.n F k0 W a0 e a k}{Wc:List Nat}{sp:Sp}{xs:Ls}{exs:List (Nat×Ls)}{M:Kt T (cod.D T) R}{r:R}{Q:Exit->Act->World->Prop}{fl:aY (SpD T sp) (cod.D T)}(hW:∀t∈Wc,t∈W)(hk:(match fl with| .go s=>M.go (gz (xs.1++xs.2) sp s (mL false Wc (spW sp) (spW sp) e))| .ex i s=>exK (mL false Wc (spW sp) (spW sp) e) M exs i s| .ret x=>M.rv x)=some r)(hgo:∀e' a' k',M.go e'=some r->Hl C.n F k0 W a0 e' a' k'->Q .normal a' k'.w)(hex:∀i e' a' k',M.ex i e'=some r->Hl C.n F k0 W a0 e' a' k'->Q (.exit i) a' k'.w)(hsl:isN cod.tu=false->cod.sl∉W)(hrv:∀x a' k',M.rv x=some r->qw C cod F k0 a0 x a' k'->Q .ret a' k'.w):(∀e' a' k',(qD xs.2 e' sp λs=>some (.go s))=some fl->Hl C.n (FU e a k (Wc++spW sp)) k Wc a e' a' k'->Q .normal a' k'.w)/\(∀i e' a' k',exF exs sp i e'=some fl->Hl C.n (FU e a k (Wc++spW sp)) k Wc a e' a' k'->Q (.exit i) a' k'.w)/\(∀x a' k',some (.ret x)=some fl->qw C cod (FU e a k (Wc++spW sp)) k a x a' k'->Q .ret a' k'.w):=by
 refine⟨λe' a' k' h1 h2=>?_,λi e' a' k' h1 h2=>?_,λx a' k' h1 h2=>?_⟩;·obtain⟨s,e2,k2,h3,h4,h5,h6⟩:=r7 h2 h1;obtain rfl:=ae h3;rw[<-h5];exact hgo _ a' k2 hk (xN h GX hW h6 h4)
 · unfold exF at h1;split at h1;·rename_i x hx;obtain⟨s,e2,k2,h3,h4,h5,h6⟩:=r7 h2 h1;obtain rfl:=ae h3;rw[<-h5];exact hex i _ a' k2 (IY hx hk) (xN h GX hW h6 h4)
   .simp at h1
 ·obtain rfl:=ae h1;exact hrv x a' k' hk (h2.step h.g (λb ⟨t,_,h5,h6⟩=>h.wr t h5 b h6) λhN=>h.old _ (hsl hN))
theorem St{x y:Code}(J:oM C cod x)(O:oM C cod y):oM C cod (.seq x y):=by
 intro j;replace J:=J λU V=>j U (by simp[fQ,V]);replace O:=O λU V=>j U (by simp[fQ,V]);intro h R e M r hk F k0 W a0 a k Q hW m hl hgo q u;have z:∀f g,ev C cod x f R e {M with go:=λE=>ev C cod y g R E M}=some r->(Code.seq x y).wp C.P Q a k.w:=by intro f g hk;refine wp_seq (J f R e _ r hk F k0 W a0 a k _ (λt ht=>hW t (by simp[wrs,ht])) m hl (λE G H h1 I=>?_) (λi E G H h1 I=>q i E G H h1 I) (λx G H h1 I=>u x G H h1 I));exact O g R E M r h1 F k0 W a0 G H Q (λt ht=>hW t (by simp[wrs,ht])) m I hgo q u
 cases h<;>exact z _ _ hk
theorem QL{c:Operand}{x y:Code}(hx:oM C cod x)(hy:oM C cod y):oM C cod (.cond c x y):=by
 intro hsb;replace hx:=hx λc' hc=>hsb c' (by simp[fQ,hc]);replace hy:=hy λc' hc=>hsb c' (by simp[fQ,hc]);intro h R e M r hk F k0 W a0 a k Q hW G O H V hrv;have hWx:∀t∈wrs x,t∈W:=λt f=>hW t (by simp[wrs,f]);have hWy:∀t∈wrs y,t∈W:=λt f=>hW t (by simp[wrs,f]);have cv:∀{F:FP}{k0:K}{W:List Nat}{a0:Act}{e:Env T}{k:K}{m:Bool},Hl C.n F k0 W a0 e a k->asB (opv e c)=some m->a.eval c= .bool m:=by intro F k0 W a0 e k m O hm;exact aE.1 (mW hm (fa (a0:=a) (by cases c with|tmp t=>exact⟨O.sl t,λ _=>rfl⟩;|global _=>exact O.gl;|_=>trivial)))
 have u:∀g j,(match asB (opv e c)with|some m=>if m then ev C cod x g R e M else ev C cod y j R e M|none=>none)=some r->(Code.cond c x y).wp C.P Q a k.w:=by
  intro g j hk;split at hk
  · rename_i m hm;refine wp_cond_split (cv O hm) (λz=>?_) (λE=>?_);·rw[if_pos z]at hk;exact hx g R e M r hk F k0 W a0 a k Q hWx G O H V hrv
    ·rw[if_neg (by rw[E];simp)]at hk;exact hy j R e M r hk F k0 W a0 a k Q hWy G O H V hrv
  .simp at hk
 have hwc:∀t∈wrs x++wrs y,t∈W:=λt f=>hW t (by simpa[wrs]using f);have I:isN cod.tu=false->cod.sl∉wrs x++wrs y:=λhN f=>G hN (hwc _ f);unfold ev at hk;split at hk
 · rename_i fz sp xs g j;obtain⟨e0,k1,h1,h2,h3⟩:=p5 O hk;rw[tV,qh]at h1;rw[<-h2];have q:=h3.lock (wrs x++wrs y++spW sp) (wrs x++wrs y);split at h1
   · rename_i m hm;obtain⟨s,J,h1⟩:=bind_some h1;have fin:∀e' U k',(qD xs.2 e' sp some)=some s->Hl C.n (FU e0 a k1 (wrs x++wrs y++spW sp)) k1 (wrs x++wrs y) a e' U k'->Q .normal U k'.w:=by intro e' U k' g1 g2;obtain⟨s',e2,k2,g3,g4,g5,g6⟩:=r7 g2 g1;obtain rfl:=ae g3;rw[<-g5];exact H _ U k2 h1 (xN h3 GX hwc g6 g4)
     refine wp_cond_split (cv q hm) (λz=>?_) (λE=>?_);·rw[if_pos z]at J;exact hx g _ _ _ s J _ _ _ _ a k1 Q (λt f=>by simp[f]) I q fin (λi e' U k' g1 _=>by simp at g1) (λx' U k' g1 _=>by simp at g1)
     ·rw[if_neg (by rw[E];simp)]at J;exact hy j _ _ _ s J _ _ _ _ a k1 Q (λt f=>by simp[f]) I q fin (λi e' U k' g1 _=>by simp at g1) (λx' U k' g1 _=>by simp at g1)
   .simp at h1
 · rename_i fz sp xs exs g j;obtain⟨e0,k1,h1,h2,h3⟩:=p5 O hk;rw[tV,qh]at h1;rw[<-h2];have q:=h3.lock (wrs x++wrs y++spW sp) (wrs x++wrs y);split at h1
   · rename_i m hm;obtain⟨fl,J,h1⟩:=bind_some h1;obtain⟨f1,f2,f3⟩:=JJ (h:=h3) (Q:=Q) (xs:=xs) hwc h1 H V G hrv;refine wp_cond_split (cv q hm) (λz=>?_) (λE=>?_);·rw[if_pos z]at J;exact hx g _ _ _ fl J _ _ _ _ a k1 Q (λt f=>by simp[f]) I q f1 f2 f3
     ·rw[if_neg (by rw[E];simp)]at J;exact hy j _ _ _ fl J _ _ _ _ a k1 Q (λt f=>by simp[f]) I q f1 f2 f3
   .simp at h1
 .exact u _ _ hk
 .exact u _ _ hk
theorem NP(hH:xC C){id:Nat}{x:Code}(J:oM C cod x):oM C cod (.block id x):=by
 intro O;replace J:=J λc' hc=>O c' (by simp[fQ,hc]);intro h R e M r hk F k0 W a0 a k Q hW z hl q U V;have u:∀t∈wrs x,t∈W:=λt E=>hW t (by simpa[wrs]using E);have hsx:isN cod.tu=false->cod.sl∉wrs x:=λhN E=>z hN (u _ E);have G:∀{i:Nat}{a:Act}{w:World},(i=id->Q .normal a w)->(i≠id->Q (.exit i) a w)->Exit.inBlock id Q (.exit i) a w:=by intro i a w h1 y;simp only[Exit.inBlock];grind
 have H:∀f,ev C cod x f R e {M with ex:=λi g=>bif Nat.beq i id then M.go g else M.ex i g}=some r->(Code.block id x).wp C.P Q a k.w:=by
  intro f hk;refine wp_block (J f R e _ r hk F k0 W a0 a k _ u z hl q (λi g j m h1 y=>G (λe1=>?_) (λe1=>?_)) V);.subst e1;simp only[cL,cond_true]at h1;exact q g j m h1 y
  .simp only[Ec e1,cond_false]at h1;exact U i g j m h1 y
 unfold ev at hk;split at hk
 · rename_i fz sp xs f;obtain⟨e0,k1,h1,y,h3⟩:=p5 hl hk;rw[tV,qh]at h1;rw[<-y];have I:=h3.lock (wrs x++spW sp) (wrs x);obtain⟨s,hs,h1⟩:=bind_some h1;have fin:∀g j m,(qD xs.2 g sp some)=some s->Hl C.n (FU e0 a k1 (wrs x++spW sp)) k1 (wrs x) a g j m->Q .normal j m.w:=by intro g j m g1 g2;obtain⟨s',e2,k2,g3,g4,g5,g6⟩:=r7 g2 g1;obtain rfl:=ae g3;rw[<-g5];exact q _ j k2 h1 (xN h3 GX u g6 g4)
   refine wp_block (J f _ _ _ s hs _ _ _ _ a k1 _ (λt E=>E) hsx I fin (λi g j m g1 g2=>G (λe1=>?_) (λe1=>?_)) (λx' j m g1 _=>by simp at g1));.subst e1;simp only[cL,cond_true]at g1;exact fin g j m g1 g2
   .simp only[Ec e1,cond_false]at g1;simp at g1
 · rename_i fz sp xs exs f;obtain⟨e0,k1,h1,y,h3⟩:=p5 hl hk;rw[tV,qh]at h1;rw[<-y];have I:=h3.lock (wrs x++spW sp) (wrs x);obtain⟨fl,hs,h1⟩:=bind_some h1;obtain⟨f1,f2,f3⟩:=JJ (h:=h3) (Q:=Q) (xs:=xs) u h1 q U z V;refine wp_block (J f _ _ _ fl hs _ _ _ _ a k1 _ (λt E=>E) hsx I f1 (λi g j m g1 g2=>G (λe1=>?_) (λe1=>?_)) f3);.subst e1;simp only[cL,cond_true]at g1;exact f1 g j m g1 g2
   .simp only[Ec e1,cond_false]at g1;exact f2 i g j m g1 g2
 .exact hH _ _ _ _ _ _ (O _ (by simp[fQ])) hk F k0 W a0 a k Q hW hl q
 .exact H _ hk
theorem Ph{x:Code}(hx:oM C cod x):oM C cod (.loop x):=by
 intro hsb;replace hx:=hx λc' hc=>hsb c' (by simpa[fQ]using hc);intro h R e M r hk F k0 W a0 a k Q hW hsl hl hgo hex hrv;have hWx:∀t∈wrs x,t∈W:=λt ht=>hW t (by simpa[wrs]using ht);have hsx:isN cod.tu=false->cod.sl∉wrs x:=λhN ht=>hsl hN (hWx _ ht);unfold ev at hk;split at hk
 · rename_i fz sp exs fuel hxx;obtain⟨e0,k1,h1,h2,h3⟩:=p5 hl hk;rw[qh,qh]at h1;rw[<-h2];split at h1
   · rename_i s0 hs0;obtain⟨fl,hs,h1⟩:=bind_some h1;have hin:=h3.lock (wrs x++spW sp) (wrs x);have hs0':take [] (GY (wrs x++spW sp) e0) sp=some s0:=by
      rw[<-hs0];refine II λt ht=>?_;rw[qc];have:(wrs x++spW sp).contains t=true:=by simpa using Or.inr ht
      rw[this];rfl
     have hst:=Kp h3 hin hs0';have hsim:Sim C.P (.loop x) (λs a' k'=>Hl C.n (FU e0 a k1 (wrs x++spW sp)) k1 (wrs x) a (gz [] sp s (mL true (wrs x) (spW sp) (spV sp) e0)) a' k') (ar (λs=>ev C cod x hxx (aY (SpD T sp) (cod.D T)) (gz [] sp s (mL true (wrs x) (spW sp) (spV sp) e0)) ⟨λe'=>qD [] e' sp λs=>some (.go s),exF exs sp,λr=>some (.ret r)⟩) (fuel e0)) (λs a' k'=>Hl C.n (FU e0 a k1 (wrs x++spW sp)) k1 (wrs x) a (gz [] sp s (mL true (wrs x) (spW sp) (spV sp) e0)) a' k') (λi s a' k'=>∃y,Eh exs i=some y/\Hl C.n F k0 W a0 (gz (y.1++y.2) sp s (mL false (wrs x) (spW sp) (spW sp) e0)) a' k') (λx' a' k'=>qw C cod (FU e0 a k1 (wrs x++spW sp)) k1 a x' a' k'):=by
      refine gj ?_ _;intro s f a2 k2 hb hS Q' _ hgo' hex' hret';refine hx hxx _ _ _ f hb _ _ _ _ a2 k2 Q' (λt ht=>ht) hsx hS (λe' a' k' g1 g2=>?_) (λi e' a' k' g1 g2=>?_) (λx' a' k' g1 g2=>?_);·obtain⟨s',e2,k3,g3,g4,g5,g6⟩:=r7 g2 g1;rw[<-g5];exact hgo' s' a' k3 (ae g3).symm (Kp h3 g6 g4)
      · have g1:exF exs sp i e'=some f:=g1;unfold exF at g1;split at g1;·rename_i y hy;obtain⟨s',e2,k3,g3,g4,g5,g6⟩:=r7 g2 g1;rw[<-g5];exact hex' i s' a' k3 (ae g3).symm ⟨y,hy,xN h3 GX hWx g6 g4⟩
        .simp at g1
      .exact hret' x' a' k' (ae g1).symm g2
     refine hsim s0 fl a k1 hs hst Q trivial (λs a' k' g1 _=>?_) (λi s a' k' g1 g2=>?_) (λx' a' k' g1 g2=>?_);.rw[g1]at h1;simp at h1
     ·rw[g1]at h1;obtain⟨y,hy,g3⟩:=g2;exact hex i _ a' k' (IY hy h1) g3
     ·rw[g1]at h1;exact hrv x' a' k' h1 (g2.step h3.g (λb ⟨t,_,h5,h6⟩=>h3.wr t h5 b h6) λhN=>h3.old _ (hsl hN))
   .simp at h1
 .simp at hk
theorem Lu(m:rX C)(hH:xC C){id:Nat}{A:Array Oper}{w:Bool}:oM C cod (.region id A w):=by
 intro f h R e M r hk F k0 W a0 a k Q q u j g y z;have x:∀o∈A.toList,∀d,o.dst=some d->d∈W:=λo E d G=>q d (List.mem_filterMap.2 ⟨o,E,G⟩);unfold ev at hk;split at hk;.have⟨e1,J,h1,H,I⟩:=p5 j hk;rw[<-H];exact I2 m x I h1 g
 .exact hH _ _ _ _ _ _ (f _ (by simp[fQ])) hk F k0 W a0 a k Q q j g
 .exact I2 m x j hk g
theorem kW(f:rX C)(hH:xC C):∀c:Code,oM C cod c
 | .skip=>λ_ h R e M r hk F k0 W a0 a k Q w _ g j _ _=>wp_skip (j e a k hk g)| .region _ _ _=>Lu f hH| .seq x y=>St (kW f hH x) (kW f hH y)| .cond _ x y=>QL (kW f hH x) (kW f hH y)| .block _ x=>NP hH (kW f hH x)| .loop x=>Ph (kW f hH x)| .exit i=>λ_ h R e M r hk F k0 W a0 a k Q w _ g _ m _=>wp_exit (m i e a k hk g)| .ret=>λ_ h R e M r hk F k0 W a0 a k Q w q g _ _ u=>by
  have⟨e1,z,h1,E,G⟩:=p5 g hk;split at h1;.rename_i x H;rw[<-E];exact wp_ret (u x a z h1 (Mk G q H))
  .simp at h1| .rangeFunc _ _ _ _=>λ_ h R e M r hk=>by simp[ev]at hk;| .scope _=>λ_ h R e M r hk=>by simp[ev]at hk;| .label _=>λ_ h R e M r hk=>by simp[ev]at hk;| .goto _=>λ_ h R e M r hk=>by simp[ev]at hk;| .refuse _=>λ_ h R e M r hk=>by simp[ev]at hk
end
end Go.Gb
namespace Go.Gb
def aY.ends{e ρ:Type}:aY e ρ->Prop| .go _=>False|_=>True
theorem cH{e ρ:Type}{body:e->Option (aY e ρ)}(Inv:Nat->e->Prop)(N:Nat)(mf:aY e ρ->Prop)(step:∀i s,i<N->Inv i s->(∃g,body s=some (.go g)/\Inv (i+1) g)∨(∃f,body s=some f/\f.ends/\mf f))(done:∀s,Inv N s->∃f,body s=some f/\f.ends/\mf f)(x:e)(I:Inv 0 x)(u:Nat)(y:N<u):∃f,ar body u x=some f/\f.ends/\mf f:=by
  have z:∀m i s,i+m=N->Inv i s->∀u,m<u->∃f,ar body u s=some f/\f.ends/\mf f:=by intro m;induction m with|zero=>intro i s hi G u y;obtain⟨f,j,q,w⟩:=done s (by rwa[show N=i by omega]);obtain⟨u,rfl⟩:∃m,u=m+1:=⟨u-1,by omega⟩;simp only[ar,j];cases f<;>simp_all[aY.ends]|succ m J=>
 intro i s hi G u y;obtain⟨u,rfl⟩:∃m,u=m+1:=⟨u-1,by omega⟩;rcases step i s (by omega) G with⟨g,j,E⟩|⟨f,j,q,w⟩;·obtain⟨f,h,q,w⟩:=J (i+1) g (by omega) E u (by omega);refine⟨f,?_,q,w⟩;simp[ar,j,h]
 · refine⟨f,?_,q,w⟩;simp[ar];cases f<;>simp_all[aY.ends]
  exact z N 0 x (by omega) I u y
theorem xZ{e ρ:Type}{body:e->Option (aY e ρ)}(Inv:e->Prop)(q:e->Nat)(mf:aY e ρ->Prop)(step:∀s,Inv s->(∃j,body s=some (.go j)/\Inv j/\q j<q s)∨(∃f,body s=some f/\f.ends/\mf f))(m:e)(G:Inv m)(u:Nat)(I:q m<u):∃f,ar body u m=some f/\f.ends/\mf f:=by induction u generalizing m with|zero=>omega;|succ u H=>
 rcases step m G with⟨j,y,w,J⟩|⟨f,y,E,F⟩;.obtain⟨f,h,E,F⟩:=H j w (by omega);refine⟨f,?_,E,F⟩;simp[ar,y,h]
 .simp[ar];cases f<;>simp_all[aY.ends]
theorem af{e:Type}{l:List e}{i:Nat}(h:i<l.length):aL l (i:Int)=some l[i]:=by unfold aL;grind
theorem vq{e:Type}{l:List e}{i:Int}(f:0<=i)(h:i<l.length):aL l i=some (l[i.toNat]'(by omega)):=by unfold aL;rw[if_pos f,bZ]
theorem cW{n m:Int}(h:inI (n+m)):bh n m=some (n+m):=if_pos h
theorem db{n m:Int}(h:inI (n-m)):fi n m=some (n-m):=if_pos h
theorem rP{n m:Int}(h:inI (n*m)):El n m=some (n*m):=if_pos h
theorem an{i:Nat}(h:i<4611686018427387904):bh (i:Int) 1=some ((i+1:Nat):Int):=by rw[cW (by unfold inI;omega)];simp
theorem bS{e:Type}{x y:List e}(h:x.length+y.length<=1073741824):eb x y=some (x++y):=if_pos h
theorem nY{e:Type}{x:List e}{lo hi:Int}(h:0<=lo)(h1:lo<=hi)(f:hi<=x.length):ic x lo hi=some ((x.take hi.toNat).drop lo.toNat):=if_pos ⟨h,h1,f⟩
end Go.Gb
