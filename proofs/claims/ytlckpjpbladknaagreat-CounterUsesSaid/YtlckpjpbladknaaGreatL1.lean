/- part 1 of the proof -/
import Derived.Orders
import Derived.Laws.AppendOwn
import Derived.WalkKit
import Derived.Laws.Cells
import Derived.KernelRfl
import Derived.Laws.Append
import Derived.Laws.StructEq
import Derived.Laws.IdiomCopy
import Derived.Lib.Overlaps
import Derived.Lib.AppendZeros
import Derived.MapKept
import Derived.ProofKit
import Derived.SizedLaws
import Derived.Shelf.GgSortFunc.InsertionK
import Derived.Laws.OwnMore
import Derived.Lib.SlicesCompact
import Derived.Maps.RangeRun
import Derived.WideKeyRuns
import Derived.Test.YtlckpjpbladknaaGreatProg
import Derived.Shelf.SlMaps.Clone
import Derived.Shelf.SlSortCmp.NoneTotal
import Derived.LaidMore
import Derived.OpenShut
import Derived.Stop.Joined
import Derived.SevenTiedAt
import Derived.Shelf.Sort.Plain
import Derived.Shelf.Slices.In.SortNone
import Derived.Shelf.Slices.CompactI
import Derived.Shelf.Spec.SlicesGrow
import Derived.Shelf.Strings.Search3
import Derived.Shelf.LaysM
import Derived.Shelf.Spec.SlicesInsert
import Derived.Lib.AppendZerosOnto
import Derived.HandedShaped
set_option linter.unusedVariables false
set_option linter.unusedSimpArgs false
set_option linter.unusedSectionVars false
noncomputable section
namespace Go.Gb
abbrev ae:=@Option.some.inj
abbrev aA:=@Nat.le_refl
abbrev aD:=@Bool.and_eq_true
abbrev aM:=@List.mem_map
abbrev aN:=@List.getElem_mem
abbrev aU:=@Option.some.injEq
abbrev ba:=@Nat.eq_of_beq_eq_true
abbrev bG:=@List.all_eq_true
abbrev bR:=@List.mem_cons_of_mem
abbrev bQ:=@List.mem_filter
abbrev br:=@List.getElem_of_mem
abbrev bw:=@Nat.zero_add
abbrev bB:=@Nat.le_trans
abbrev bA:=@List.length_append
abbrev bD:=@List.mem_cons
abbrev bJ:=@Nat.lt_or_ge
abbrev bO:=@Array.getElem?_eq_some_iff
abbrev bT:=@Bool.or_eq_true
abbrev bZ:=@List.getElem?_eq_getElem
abbrev bY:=@Nat.zero_le
abbrev cf:=@List.map_cons
abbrev cA:=@Array.getD_eq_getD_getElem?
abbrev cN:=@Bool.not_eq_true'
abbrev cL:=@Nat.beq_refl
abbrev cQ:=@List.take_length
abbrev dq:=@List.mem_append
abbrev dm:=@List.append_assoc
abbrev dw:=@List.mem_cons_self
abbrev dB:=@List.take_succ_eq_append_getElem
abbrev dO:=@Array.mem_toList_iff
abbrev dM:=@Nat.add_mul
abbrev dU:=@Array.getElem?_eq_getElem
abbrev dW:=@Option.map_some
abbrev dY:=@List.length_take
abbrev eU:=@List.length_cons
abbrev dX:=@List.map_map
abbrev ep:=@Nat.mul_le_mul_right
abbrev eH:=@List.mem_range
abbrev eD:=@Option.getD_some
abbrev eR:=@List.mem_singleton
abbrev fh:=@Array.all_eq_true_iff_forall_mem
abbrev fg:=@List.length_drop
abbrev fC:=@Nat.lt_irrefl
abbrev fv:=@Nat.not_lt_zero
abbrev fK:=@List.pairwise_iff_getElem
abbrev gk:=@Nat.lt_of_lt_of_le
abbrev fV:=@Bool.not_true
abbrev ga:=@Bool.false_or
abbrev fW:=@Nat.ne_of_gt
abbrev iC:=@List.length_nil
abbrev gv:=@List.nodup_cons
abbrev gb:=@List.map_append
abbrev gf:=@Int.le_refl
abbrev gO:=@List.take_append_drop
abbrev gN:=@Nat.le_succ
abbrev iw:=@List.foldl_cons
abbrev ir:=@List.map_nil
abbrev iA:=@List.eq_nil_of_length_eq_zero
abbrev il:=@List.take_left'
abbrev iz:=@List.drop_drop
abbrev iE:=@Array.length_toList
abbrev iD:=@Iff.rfl
abbrev iW:=@List.contains_iff_mem
abbrev jv:=@List.length_map
abbrev jx:=@List.mem_of_getElem?
abbrev kr:=@List.getElem?_eq_some_iff
abbrev kn:=@List.size_toArray
abbrev ko:=@List.nil_append
abbrev ky:=@Int.lt_or_le
abbrev km:=@List.pairwise_cons
abbrev lR:=@List.getElem?_take
abbrev mB:=@Bool.false_eq_true
abbrev l8:=@List.drop_eq_getElem_cons
abbrev mn:=@List.append_nil
abbrev mw:=@Nat.mul_le_mul
abbrev mj:=@List.take_take
abbrev mb:=@Nat.min_eq_left
abbrev oz:=@List.take_of_length_le
abbrev om:=@List.drop_take
abbrev oC:=@List.ext_getElem?
abbrev nM:=@List.getElem?_drop
abbrev oD:=@Nat.le_of_ble_eq_true
abbrev nX:=@List.getElem?_map
abbrev oe:=@List.any_eq_true
abbrev nH:=@List.map_congr_left
abbrev nI:=@Int.toNat_natCast
abbrev nV:=@Int.mul_le_mul_of_nonneg_right
abbrev nT:=@Int.le_of_lt
abbrev pz:=@List.length_eq_one_iff
abbrev pR:=@List.length_eq_zero_iff
abbrev pZ:=@Array.toList_filter
abbrev pH:=@List.mem_of_mem_take
abbrev rO:=@List.filter_append
abbrev qW:=@List.drop_left'
abbrev rh:=@List.drop_append_of_le_length
abbrev rl:=@Nat.add_assoc
abbrev r6:=@Nat.add_sub_cancel_left
abbrev qX:=@List.mem_append_left
abbrev rG:=@Array.getElem?_toList
abbrev sf:=@Nat.eq_zero_or_pos
abbrev pn:=@List.cons.injEq
abbrev pw:=@Bool.or_eq_false_iff
abbrev pq:=@Bool.eq_iff_iff
abbrev pj:=@List.not_mem_nil
abbrev pf:=@Int.mul_lt_mul_of_pos_right
abbrev px:=@List.sum_cons
abbrev rW:=@Array.getElem_toList
abbrev r8:=@List.set_eq_take_append_cons_drop
abbrev rK:=@Array.getElem?_replicate
abbrev rp:=@List.take_add
abbrev rI:=@List.drop_zero
abbrev rH:=@List.length_set
abbrev rY:=@Nat.le_of_eq
abbrev rm:=@List.cons_append
abbrev rn:=@Nat.zero_mul
abbrev rT:=@List.flatten_cons
abbrev rA:=@List.getElem?_append_left
abbrev rq:=@Nat.sub_zero
abbrev rV:=@Bool.eq_false_iff
abbrev ru:=@List.nodup_append
abbrev rL:=@List.length_eraseIdx_of_lt
abbrev sx:=@List.mem_of_mem_drop
abbrev uW:=@List.range'_succ
abbrev vv:=@Array.toList_setIfInBounds
abbrev vu:=@List.drop_eq_nil_of_le
abbrev vi:=@Array.size_append
abbrev vk:=@List.take_left
abbrev vd:=@Int.natCast_zero
abbrev vD:=@List.getElem?_eq_none
abbrev uZ:=@Nat.pos_of_ne_zero
abbrev vH:=@Nat.le_of_not_lt
abbrev vB:=@Array.getElem?_modify
abbrev vf:=@Bool.not_eq_false
abbrev vF:=@Int.lt_trichotomy
abbrev vI:=@List.eq_nil_or_concat
abbrev vM:=@List.concat_eq_append
abbrev vx:=@List.take_append_of_le_length
abbrev vC:=@Bool.and_eq_false_iff
abbrev vm:=@List.foldl_append
abbrev vz:=@List.mem_flatMap
abbrev vN:=@List.any_eq_false
abbrev vy:=@List.getElem_map
abbrev xY:=@List.eq_nil_iff_forall_not_mem
abbrev yr:=@Option.isSome_iff_exists
abbrev xT:=@Option.bind_eq_some_iff
abbrev yU:=@List.getElem?_set_ne
abbrev yY:=@List.getElem_append_left
abbrev yL:=@List.getElem_cons_succ
abbrev yi:=@List.length_filter_le
abbrev yl:=@List.mem_append_right
abbrev yy:=@Int.le_ediv_iff_mul_le
abbrev yX:=@Int.ediv_lt_iff_lt_mul
abbrev yH:=@Int.tdiv_eq_ediv_of_nonneg
theorem qb{α β}(a:α)(f:α->Option β):(some a).bind f=f a:=rfl
def LetsOut(_:Exit->Act->World->Prop):Prop:=True
structure K where
 w:World
 sh:Nat->Prop
 lt:∀b,sh b->b<w.heap.size
structure bE(k k':K):Prop where
 tape:k'.w.tape=k.w.tape
 os:k'.w.os=k.w.os
 out:k'.w.output=k.w.output
 size:k.w.heap.size<=k'.w.heap.size
 blk:∀b,b<k.w.heap.size->k'.w.heap[b]?=k.w.heap[b]?up:∀b,k.sh b->k'.sh b
 new:∀b,b<k.w.heap.size->k'.sh b->k.sh b
 drawn:k.w.drawn<=k'.w.drawn
theorem bE.refl(k:K):bE k k:=⟨rfl,rfl,rfl,aA _,λ_ _=>rfl,λ_ h=>h,λ_ _ h=>h,aA _⟩
theorem bE.trans{a b c:K}(h:bE a b)(g:bE b c):bE a c:=⟨g.tape.trans h.tape,g.os.trans h.os,g.out.trans h.out,bB h.size g.size,λi hi=>(g.blk i (gk hi h.size)).trans (h.blk i hi),λi hi=>g.up i (h.up i hi),λi hi e=>h.new i hi (g.new i (gk hi h.size) e),bB h.drawn g.drawn⟩
structure Le(k k':K):Prop where blk:∀b,k.sh b->k'.w.heap[b]?=k.w.heap[b]?up:∀b,k.sh b->k'.sh b
theorem bE.le{k e:K}(h:bE k e):Le k e:=⟨λb f=>h.blk b (k.lt b f),h.up⟩
theorem Le.refl(k:K):Le k k:=⟨λ_ _=>rfl,λ_ h=>h⟩
theorem Le.trans{a b c:K}(h:Le a b)(g:Le b c):Le a c:=⟨λi hi=>(g.blk i (h.up i hi)).trans (h.blk i hi),λi hi=>g.up i (h.up i hi)⟩
abbrev Pred:=Value->K->Prop
class aZ(R:Pred):Prop where mono:∀{v k k'},bE k k'->R v k->R v k'
class aW(R:Pred):Prop where pers:∀{v k k'},Le k k'->R v k->R v k'
instance(priority:=50){R:Pred}[aW R]:aZ R:=⟨λh=>aW.pers h.le⟩
def _root_.Go.Act.get(a:Act)(t:Nat):Value:=a.tmps.getD t undef
def aX(P:Program)(o:Oper)(a:Act)(k:K)(R:Pred):Prop:=∀(next:Act->World->Prop)(Q:Exit->Act->World->Prop),LetsOut Q->(∀v e,bE k e->R v e->next (a.put o.dst v) e.w)->o.wp P a k.w next Q
structure Ent where
 R:Option Pred
 need:List (Nat×Option Nat)
def nth{e:Type _}:List e->Nat->Option e|[],_=>none|x::_,0=>some x|_::f,n+1=>nth f n
theorem fH{f:Type _}:∀(l:List f)(i:Nat),nth l i=l[i]?|[],_=>by simp[nth];|x::e,0=>by simp[nth];|x::e,n+1=>by simp[nth,fH e n]
def lp(e:List Ent)(a0 a:Act)(k:K):List (Nat×Option Nat)->Prop|[]=>True|(t,some j)::x=>(match nth e j with|some ⟨some R,_⟩=>R (a.get t) k|_=>True)/\lp e a0 a k x|(t,none)::x=>a.get t=a0.get t/\lp e a0 a k x
def iT(e:List Ent)(o:Oper)(u:Bool):Prop:=match o.guard with|some (j,w)=>(match nth e j with|some ⟨some R,_⟩=>∀v k,R v k->v= .bool (if u then w else !w)|some ⟨none,_⟩=>u=false|none=>False)|none=>u=true
def Ob(P:Program)(f:List Ent)(a0:Act)(g:K)(o:Oper)(e:Ent):Prop:=match e.R with|some R=>aZ R/\(((∀a k,bE g k->lp f a0 a k e.need->aX P o a k R)/\iT f o true)∨∃j w h nd,o.guard=some (j,w)/\nth f j=some ⟨some h,nd⟩/\(∀a k v,bE g k->lp f a0 a k e.need->h v k->v= .bool w->aX P o a k R)/\(∀k v,bE g k->h v k->v≠ .bool w->R undef k))|none=>iT f o false
def Steps(P:Program)(g:List Ent)(a0:Act)(h:K):List Oper->List Ent->Prop|o::os,e::f=>Ob P g a0 h o e/\Steps P g a0 h os f|_,_=>True
def aT(o:Oper):List Nat:=(o.after.toList.filter (Region.binds .any)).map (·.on)
def MC(f:List Nat)(o:Oper):Nat:=(aT o).foldl (λs e=>s|||2^e|||(nth f e).getD 0) 0
def eB:List Oper->List Nat->List Nat|[],e=>e|o::os,e=>eB os (e++[MC e o])
def allI{e:Type}(f:Nat->e->Bool):Nat->List e->Bool|_,[]=>true|i,x::g=>f i x&&allI f (i+1) g
def ed(m:List Nat)(j i:Nat):Bool:=((nth m j).getD 0).testBit i
def wg(n:Nat)(f:List Oper)(m:List Nat)(i:Nat)(o:Oper)(e:Ent):Bool:=(match o.dst with|some d=>d<n|none=>false)&&(match o.guard with|some (j,_)=>(aT o).contains j|none=>true)&&e.need.all (λx=>match x.2 with|some j=>(aT o).contains j&&((nth f j).bind (·.dst))==some x.1|none=>allI (λj g=>g.dst !=some x.1||j==i||ed m j i) 0 f)
def EH(n:Nat)(f:List Oper)(m:List Nat):Nat->List Oper->List Ent->Bool|i,o::g,e::h=>wg n f m i o e&&EH n f m (i+1) g h|_,[],_=>true|_,_,[]=>false
def lU(n m:Nat)(e:List Oper)(f:List Ent):Bool:=f.length==m&&m<=e.length&&EH n e (eB e []) 0 (e.take m) f&&(allI (λi o=>(aT o).all (.<i)) 0 e)&&(allI (λi o=>allI (λj g=>i==j||o.dst==none||o.dst !=g.dst) 0 e) 0 e)
def chk(n m:Nat)(e:List Oper)(f:List Ent):Bool:=lU n m e f&&(allI (λj _=>j<m||(List.range j).all λi=>ed (eB e []) j i) 0 e)
theorem RI{n m:Nat}{e:List Oper}{f:List Ent}(h:chk n m e f=true):lU n m e f=true:=by unfold chk at h;rw[aD]at h;exact h.1
theorem bc{m:Type}{f:Nat->m->Bool}:∀{e:List m}{i:Nat},allI f i e=true->∀j x,nth e j=some x->f (i+j) x=true|[],_,_,_,_,h=>by simp[nth]at h;|x::e,i,h,0,y,g=>by simp[allI]at h;simp[nth]at g;subst g;exact h.1;|x::e,i,h,j+1,y,g=>by simp[allI]at h;have:=bc h.2 j y g;rwa[show i+(j+1)=i+1+j by omega]
theorem va{n:Nat}{g:List Oper}{u:List Nat}:∀{f:List Oper}{m:List Ent}{i:Nat},EH n g u i f m=true->∀j o,nth f j=some o->∃e,nth m j=some e/\wg n g u (i+j) o e=true|[],_,_,_,_,_,h=>by simp[nth]at h;|o::f,e::m,i,h,0,w,q=>by simp[EH]at h;simp[nth]at q;subst q;exact⟨e,rfl,h.1⟩;|o::f,e::m,i,h,j+1,w,q=>by simp[EH]at h;obtain⟨x,y,z⟩:=va h.2 j w q;exact⟨x,y,by rwa[show i+(j+1)=i+1+j by omega]⟩
section eB
variable{L:List Oper}{D:Nat->Prop}
theorem GD{f:List Nat}{o:Oper}{i:Nat}(h:(MC f o).testBit i=true):∃e∈aT o,i=e∨((nth f e).getD 0).testBit i=true:=by
 have y:∀(l:List Nat)s,(l.foldl (λs e=>s|||2^e|||(nth f e).getD 0) s).testBit i=true->s.testBit i=true∨∃e∈l,i=e∨((nth f e).getD 0).testBit i=true:=by intro l;induction l with|nil=>intro s h;exact .inl h;|cons x l j=>
  intro s h;rcases j _ h with h|⟨e,m,h⟩;.grind
  .exact .inr ⟨e,by simp[m],h⟩
 rcases y _ _ h with h|h;.simp at h
 .exact h
theorem Iy{e:Type}(a:List e)(x:e)(j:Nat)(y:e)(h:nth (a++[x]) j=some y):nth a j=some y∨(j=a.length/\y=x):=by rw[fH]at h⊢;grind
theorem Am(u:∀j o,nth L j=some o->D j->∀e∈aT o,D e):∀(os g:List Oper)(f:List Nat),L=g++os->f.length=g.length->(∀j m,nth f j=some m->(∀o,nth L j=some o->∀e∈aT o,D e)->∀i,m.testBit i=true->D i)->(∀j m,nth (eB os f) j=some m->(∀o,nth L j=some o->∀e∈aT o,D e)->∀i,m.testBit i=true->D i)
 |[],g,f,_,_,h=>by simpa[eB]using h;|o::os,g,f,z,q,h=>by
  refine Am u os (g++[o]) _ (by simp[z]) (by simp[q]) ?_;intro j m w E i hi;rcases Iy _ _ _ _ w with w|⟨rfl,rfl⟩;.exact h j m w E i hi
  · have G:nth L f.length=some o:=by rw[fH,z,q];simp
    obtain⟨e,H,x⟩:=GD hi;have y:=E o G e H;rcases x with rfl|F;.exact y
    .cases I:nth f e with grind
theorem cq(f:∀j o,nth L j=some o->D j->∀e∈aT o,D e){j i:Nat}(q:∀o,nth L j=some o->∀e∈aT o,D e)(h:ed (eB L []) j i=true):D i:=by unfold ed at h;cases g:nth (eB L []) j with|none=>rw[g]at h;simp at h;|some m=>rw[g]at h;exact Am f L [] [] rfl rfl (by simp[nth]) j m g q i h
end eB
section
variable{P:Program}{ops:List Oper}{es:List Ent}{a0:Act}{k0:K}
theorem Steps.at:∀{os:List Oper}{f:List Ent},Steps P es a0 k0 os f->∀i o e,nth os i=some o->nth f i=some e->Ob P es a0 k0 o e|[],_,_,_,_,_,h,_=>by simp[nth]at h;|_::_,[],_,_,_,_,_,h=>by simp[nth]at h;|o::os,e::f,h,0,m,q,g,j=>by simp[nth]at g j;subst g;subst j;exact h.1;|o::os,e::f,h,i+1,m,q,g,j=>Steps.at h.2 i m q g j
structure Inv(ops:List Oper)(es:List Ent)(a0:Act)(k0:K)(D:Nat->Prop)(a:Act)(k:K):Prop where
 grow:bE k0 k
 size:a.tmps.size=a0.tmps.size
 defers:a.defers=a0.defers
 vals:∀i o d e,D i->nth ops i=some o->o.dst=some d->nth es i=some e->(match e.R with|some R=>R (a.get d) k|none=>a.get d=undef)rest:∀t,(∀i o,D i->nth ops i=some o->o.dst≠some t)->a.get t=a0.get t
 closed:∀j o,nth ops j=some o->D j->∀e∈aT o,D e
 mem:∀i,D i->i<ops.length
theorem dD(a:Act)(d t:Nat)(v:Value)(h:d<a.tmps.size):(a.put (some d) v).get t=if d=t then v else a.get t:=by simp[Act.put,Act.get];split<;>simp_all
theorem fG(a:Act)(d:Option Nat)(v:Value):(a.put d v).tmps.size=a.tmps.size:=by cases d<;>simp[Act.put]
theorem ez(a:Act)(d:Option Nat)(v:Value):(a.put d v).defers=a.defers:=by cases d<;>simp[Act.put]
theorem aH(A:Array Oper)(i:Nat):nth A.toList i=A[i]?:=by rw[fH];simp
theorem qU{e:Type}{l:List e}{i:Nat}{x:e}(h:nth l i=some x):i<l.length:=by rw[fH]at h;exact(kr.1 h).1
theorem rQ{e:Type}{l:List e}{m i:Nat}{x:e}(h:nth l i=some x)(hi:i<m):nth (l.take m) i=some x:=by rw[fH]at h⊢;rw[lR,if_pos hi];exact h
theorem Fe{a:Act}{k:K}(e:List (Nat×Option Nat))(h1:∀t j,(t,some j)∈e->∀R nd,nth es j=some ⟨some R,nd⟩->R (a.get t) k)(g:∀t,(t,none)∈e->a.get t=a0.get t):lp es a0 a k e:=by induction e with|nil=>trivial;|cons x q f=>have f:=f (λt j h=>h1 t j (bR _ h)) (λt h=>g t (bR _ h));obtain⟨t,s⟩:=x;cases s with|none=>exact⟨g t (by simp),f⟩;|some j=>refine⟨?_,f⟩;grind
theorem mX{A:Array Oper}{a:Act}{j d:Nat}{o:Oper}(e:nth A.toList j=some o)(f:o.dst=some d)(h:d<a.tmps.size):yielded A a.tmps j=match a.get d with| .bool b=>some b|_=>none:=by rw[aH]at e;simp[yielded,e,f,Act.get,dU h];cases a.tmps[d]<;>rfl
theorem xl{A:Array Oper}{n m:Nat}{D:Nat->Prop}{a:Act}{k:K}{i:Nat}{o:Oper}{Q:Exit->Act->World->Prop}{C:Act->World->Prop}(hn:a0.tmps.size=n)(hchk:lU n m A.toList es=true)(hst:Steps P es a0 k0 (A.toList.take m) es)(f:Inv A.toList es a0 k0 D a k)(hDm:∀j,D j->j<m)(hi:nth A.toList i=some o)(him:i<m)(hb:∀j∈aT o,D j)(hDi:¬D i)(hQ:LetsOut Q)(hC:∀a' W,Inv A.toList es a0 k0 (λj=>D j∨j=i) a' W->C a' W.w):wpOp P A Q i C a k.w:=by
 simp only[lU,aD,beq_iff_eq,decide_eq_true_eq]at hchk;obtain⟨⟨⟨⟨hlen,hml⟩,h2⟩,hedge⟩,hdist⟩:=hchk;have entry:∀j O,nth A.toList j=some O->j<m->∃e,nth es j=some e/\wg n A.toList (eB A.toList []) j O e=true:=by intro j O q G;obtain⟨e,he,hc⟩:=va h2 j O (rQ q G);exact⟨e,he,by simpa using hc⟩
 obtain⟨e,he,hc⟩:=entry i o hi him;have y:=hst.at i o e (rQ hi him) he;simp only[wg,aD]at hc;obtain⟨⟨hdst,hgd⟩,hneed⟩:=hc;obtain⟨d,hd,hdn⟩:∃d,o.dst=some d/\d<n:=by grind
 have hsz:a.tmps.size=n:=f.size.trans hn;have hda:d<a.tmps.size:=by rw[hsz];exact hdn
 have hAi:A[i]?=some o:=by rw[<-aH];exact hi
 have U:∀v W,bE k W->(match e.R with|some R=>R v W|none=>v=undef)->C (a.put o.dst v) W.w:=by
  intro v W H V;rw[hd];refine hC _ _ ⟨f.grow.trans H,by rw[fG];exact f.size,by rw[ez];exact f.defers,?_,?_,?_,?_⟩
  · intro j O d' e' G q hd' he';rw[dD _ _ _ _ hda];by_cases hij:j=i;·subst hij;rw[hi,aU]at q;subst q;rw[he,aU]at he';subst he';rw[hd,aU]at hd';subst hd';rw[if_pos rfl];exact V
    · have z:=G.resolve_right hij;have hne:d≠d':=by
       have:=bc (bc hdist i o hi) j O q;simp only[bw,bT,beq_iff_eq,bne_iff_ne,hd,hd']at this;rcases this with(h|h)|h;.exact absurd h.symm hij
       .simp at h
       .exactλe=>h (by rw[e])
      rw[if_neg hne];have:=f.vals j O d' e' z q hd' he';cases hR:e'.R with|none=>rw[hR]at this;exact this;|some R=>rw[hR]at this;have hob':=hst.at j O e' (rQ q (hDm j z)) he';unfold Ob at hob';rw[hR]at hob';exact hob'.1.mono H this
  ·intro t ht;rw[dD _ _ _ _ hda];have hdt:d≠t:=λe=>ht i o (.inr rfl) hi (by rw[hd,e]);rw[if_neg hdt];exact f.rest t λj O G=>ht j O (.inl G)
  · intro j O q G x hx;rcases G with G|rfl;.exact .inl (f.closed j O q G x hx)
    .rw[hi,aU]at q;subst q;exact .inl (hb x hx)
  · intro j G;rcases G with G|rfl;.exact f.mem j G
    .exact qU hi
 have gval:∀j w',o.guard=some (j,w')->∃I ej M,nth A.toList j=some I/\nth es j=some ej/\I.dst=some M/\M<n/\(match ej.R with|some R=>R (a.get M) k|none=>a.get M=undef):=by
  intro j w' H;rw[H]at hgd;simp only[iW]at hgd;have z:=hb j hgd;have hjl:=f.mem j z;obtain⟨I,g⟩:∃I,nth A.toList j=some I:=⟨_,by rw[fH];exact bZ hjl⟩;obtain⟨ej,J,hcj⟩:=entry j I g (hDm j z);simp only[wg,aD]at hcj;obtain⟨M,F,E⟩:∃d,I.dst=some d/\d<n:=by have:=hcj.1.1;cases hod:I.dst with|none=>rw[hod]at this;simp at this;|some d=>rw[hod]at this;exact⟨d,rfl,by simpa using this⟩
  exact⟨I,ej,M,g,J,F,E,f.vals j I M ej z g F J⟩
 unfold wpOp;rw[hAi];simp only[];unfold Ob at y;cases hR:e.R with|some R=>
 rw[hR]at y U;obtain⟨hmono,y⟩:=y;have T:lp es a0 a k e.need:=by
  refine Fe _ ?_ ?_;·intro t j htj R' nd G;have:=bG.1 hneed _ htj;simp only[aD,iW,beq_iff_eq]at this;obtain⟨hjb,hjd⟩:=this;have z:=hb j hjb;cases g:nth A.toList j with|none=>rw[g]at hjd;simp at hjd;|some I=>rw[g]at hjd;exact f.vals j I t _ z g hjd G
  · intro t ht;have:=bG.1 hneed _ ht;simp only at this;refine f.rest t λj I z g F=>?_;have G:=bc this j I g;simp only[bw,bT,bne_iff_ne,beq_iff_eq]at G;rcases G with(h|h)|h;.exact h F
    .exact hDi (h▸z)
    .exact hDi (cq f.closed (λO q=>f.closed j O q z) h)
 rcases y with⟨hdo,u⟩|⟨j,w',Rj,ndj,H,hj',hrun,hskip⟩;rotate_left
 · obtain⟨I,ej,M,g,J,F,E,V⟩:=gval j w' H;have hy:=mX g F (show M<a.tmps.size by rw[hsz];exact E);rw[J,aU]at hj';subst hj';simp only at V;by_cases hvw:a.get M= .bool w'
   · have hw:Region.wanted o (yielded A a.tmps)=true:=by unfold Region.wanted;rw[H];simp only[hy,hvw];simp
     rw[if_pos hw];exact .inl (hrun a k _ f.grow T V hvw C Q hQ λv W hg' hv'=>U v W hg' hv')
   · have hw:Region.wanted o (yielded A a.tmps)=false:=by unfold Region.wanted;rw[H];simp only[hy];cases hvv:a.get M with|bool c=>rw[hvv]at hvw;simp only[Value.bool.injEq]at hvw;cases c<;>cases w'<;>simp_all|_=>simp
     rw[hw];simp only[mB,if_false];exact U undef k (bE.refl k) (hskip k _ f.grow V hvw)
 have hw:Region.wanted o (yielded A a.tmps)=true:=by unfold Region.wanted;cases H:o.guard with|none=>rfl;|some jw=>obtain⟨j,w'⟩:=jw;obtain⟨I,ej,M,g,J,F,E,V⟩:=gval j w' H;unfold iT at u;rw[H]at u;simp only[J]at u;have hy:=mX g F (show M<a.tmps.size by rw[hsz];exact E);simp only[hy];obtain⟨Rj,nj⟩:=ej;cases Rj with|none=>simp at u;|some Rj=>simp only[u _ _ V];simp
 rw[if_pos hw];exact .inl (hdo a k f.grow T C Q hQ λv W H V=>U v W H V);|none=>
 rw[hR]at y U;have hw:Region.wanted o (yielded A a.tmps)=false:=by unfold Region.wanted;unfold iT at y;cases H:o.guard with|none=>rw[H]at y;simp at y;|some jw=>obtain⟨j,w'⟩:=jw;obtain⟨I,ej,M,g,J,F,E,V⟩:=gval j w' H;rw[H]at y;simp only[J]at y;have hy:=mX g F (show M<a.tmps.size by rw[hsz];exact E);simp only[hy];obtain⟨Rj,nj⟩:=ej;cases Rj with|none=>simp only at V;simp only[V];simp[undef];|some Rj=>simp only[y _ _ V];cases w'<;>simp
 rw[hw];simp only[mB,if_false];exact U undef k (bE.refl k) rfl
theorem FY{A:Array Oper}{n m:Nat}{Q:Exit->Act->World->Prop}(R:chk n m A.toList es=true):∀(u i:Nat)(f:Array Bool)(a:Act)(w:World),m<=i->i+u=A.size->f.size=A.size->(∀j,f.getD j false=true↔j<i)->wpOps P A Q (List.range' i u) a w->wpAny P .any A Q u f a w:=by
 have E:=R;simp only[chk,lU,aD,beq_iff_eq,decide_eq_true_eq]at E;obtain⟨⟨⟨⟨⟨hlen,hml⟩,h2⟩,F⟩,hdist⟩,I⟩:=E;have g:∀(i:Nat)(f:Array Bool),m<=i->f.size=A.size->(∀j,f.getD j false=true↔j<i)->∀j,j∈Region.ready .any A f↔(j=i/\i<A.size):=by
  intro i f G q H j;simp only[Region.ready,bQ,eH,aD,cN];have hT:∀j,j<A.size->f.getD j true=f.getD j false:=by grind
  constructor
  · rintro⟨J,M,T⟩;rw[hT j J]at M;have hji:¬j<i:=λh=>by rw[(H j).2 h]at M;simp at M
    rcases bJ i j with z|hge
    · exfalso;have ho:nth A.toList j=some A[j]:=by rw[aH];simp[J]
      have hc:=bc I j _ ho;simp only[bw,bT,decide_eq_true_eq]at hc;have hc:=hc.resolve_left (by omega);have U:=bG.1 hc i (by simp;omega);have O:∀x V,nth A.toList x=some V->x<i->∀e∈aT V,e<i:=by intro x V hx hxi e he;have:=bc F x V hx;grind
      have:=cq (L:=A.toList) (D:=(.<i)) O (j:=j) (i:=i) ?_ U;.omega
      · intro V W e he;rw[ho,aU]at W;subst W;have hA:A[j]?=some A[j]:=by simp[J]
        rw[hA]at T;simp only[dW,eD,fh]at T;simp only[aT,aM,bQ,dO]at he;obtain⟨y,⟨hy,hyb⟩,rfl⟩:=he;grind
    .exact⟨by omega,by omega⟩
  · rintro⟨rfl,z⟩;refine⟨z,?_,?_⟩;·rw[hT j z];cases hb:f.getD j false with|false=>rfl;|true=>have:=(H j).1 hb;omega
    · have hA:A[j]?=some A[j]:=by simp[z]
      rw[hA];simp only[dW,eD,fh];intro y hy;cases hyb:Region.binds .any y with|false=>rfl;|true=>
  simp only[fV,ga];have ho:nth A.toList j=some A[j]:=by rw[aH];simp[z]
  have:=bc F j _ ho;simp only[bw,bG,decide_eq_true_eq]at this;exact(H _).2 (this y.on (by simp only[aT,aM,bQ,dO];exact⟨y,⟨hy,hyb⟩,rfl⟩))
 intro u;induction u with|zero=>intro i f a w G hi q H h;refine⟨?_,by simpa[wpOps]using h⟩;refine xY.2 λj hj=>?_;have:=(g i f G q H j).1 hj;omega|succ u ih=>
 intro i f a w G hi q H h;refine⟨λhnil=>?_,λj hj=>?_⟩;·have:=(g i f G q H i).2 ⟨rfl,by omega⟩;rw[hnil]at this;simp at this
 · obtain⟨rfl,z⟩:=(g i f G q H j).1 hj;rw[uW,wpOps_cons]at h;refine wpOp_mono (λa' w' h'=>ih (j+1) _ a' w' (by omega) (by omega) (by simp[q]) (λx=>?_) h') h;by_cases hx:x=j;.subst hx;simp[cA,q,z]
   .rw[getD_set_ne _ (λe=>hx e.symm),H];omega
theorem Sw{A:Array Oper}{n m:Nat}{Q:Exit->Act->World->Prop}(hn:a0.tmps.size=n)(G:chk n m A.toList es=true)(hst:Steps P es a0 k0 (A.toList.take m) es)(hQ:LetsOut Q)(I:∀a k,Inv A.toList es a0 k0 (.<m) a k->wpOps P A Q (List.range' m (A.size-m)) a k.w):∀(u:Nat)(f:Array Bool)(a:Act)(k:K),f.size=A.size->u=(f.toList.filter (.=false)).length->(∀j,f.getD j false=true->j<m)->Inv A.toList es a0 k0 (λj=>f.getD j false=true) a k->wpAny P .any A Q u f a k.w:=by
 have J:=G;simp only[chk,lU,aD,beq_iff_eq,decide_eq_true_eq]at J;obtain⟨⟨⟨⟨⟨hlen,hml⟩,h2⟩,hedge⟩,hdist⟩,htail⟩:=J;have hmA:m<=A.size:=by simpa using hml
 intro u;induction u with|zero=>
 intro f a k T hf H g;have E:∀j,j<A.size->f.getD j false=true:=by
  intro j R;have hz:=iA hf.symm;have:f[j]'(by omega)∉f.toList.filter (.=false):=by rw[hz];simp
  simp_all
 have hm:m=A.size:=by
  rcases bJ m A.size with h|h;.have:=H m (E m h);omega
  .omega
 have q:Inv A.toList es a0 k0 (.<m) a k:=by
  have he:(λj=>f.getD j false=true)=(.<m):=by grind
  rw[he]at g;exact g
 exact FY G 0 m f a k.w (aA _) (by omega) T (λj=>⟨H j,λh=>E j (by omega)⟩) (by have:=I a k q;rwa[show A.size-m=0 by omega]at this);|succ u ih=>
    intro f a k T hf H g;by_cases F:∀j,j<m->f.getD j false=true
    · have hD:∀j,f.getD j false=true↔j<m:=λj=>⟨H j,F j⟩;have q:Inv A.toList es a0 k0 (.<m) a k:=by have he:(λj=>f.getD j false=true)=(.<m):=funext λj=>propext (hD j);rw[he]at g;exact g
      have U:u+1=A.size-m:=by
       rw[hf];have hl:f.toList=List.replicate m true++List.replicate (A.size-m) false:=by
        refine List.ext_getElem (by simp;omega) λj h1 h2'=>?_;have hjl:j<f.size:=by simpa using h1
        have hg:f.toList[j]=f.getD j false:=by simp[cA,dU hjl]
        refine hg.trans ?_;generalize f.getD j false=z at hg;have hz:z=true↔j<m:=by rw[<-hD j,<-hg];simp[cA,dU hjl]
        rw[List.getElem_append];split;.rename_i h;simp at h;rw[List.getElem_replicate];exact hz.2 h
        ·rename_i h;simp at h;rw[List.getElem_replicate];cases z with|false=>rfl;|true=>have:=hz.1 rfl;omega
       rw[hl];simp
      refine FY G (u+1) m f a k.w (aA _) (by omega) T hD ?_;rw[U];exact I a k q
    · have hex:∃j,j<m/\f.getD j false=false/\∀i,i<j->f.getD i false=true:=by
       obtain⟨j,R⟩:=Classical.not_forall.1 F;have R:j<m/\f.getD j false=false:=by
        by_cases h:j<m;.exact⟨h,by cases hb:f.getD j false with|false=>rfl|true=>exact absurd (λ _=>hb) R⟩
        .exact absurd (λh'=>absurd h' h) R
       clear F;induction j using Nat.strongRecOn with|_ j ihj=>
 by_cases E:∀i,i<j->f.getD i false=true;.exact⟨j,R.1,R.2,E⟩
 ·obtain⟨i,hi⟩:=Classical.not_forall.1 E;obtain⟨hij,hib⟩:i<j/\¬f.getD i false=true:=⟨Classical.byContradiction λh=>hi λh'=>absurd h' h,λh=>hi λ _=>h⟩;exact ihj i hij (λh=>absurd (h (by omega)) hib) ⟨by omega,by simpa using hib⟩
      have hT:∀j,j<A.size->f.getD j true=f.getD j false:=by intro j R;simp[cA,dU (show j<f.size by omega)]
      have M:∀j,j<A.size->((A[j]?).map (·.after.all λe=>!Region.binds .any e||f.getD e.on false)).getD false=true->∀o,nth A.toList j=some o->∀e∈aT o,f.getD e false=true:=by
       intro j hjA hj2 o ho e he;have hA:A[j]?=some o:=by rw[<-aH];exact ho
       rw[hA]at hj2;simp only[dW,eD,fh]at hj2;simp only[aT,aM,bQ,dO]at he;obtain⟨y,⟨hy,hyb⟩,rfl⟩:=he;have:=hj2 y hy;simpa only[hyb,fV,ga]using this
      refine⟨λhnil=>?_,λi hi=>?_⟩
      · exfalso;obtain⟨j,hjm,V,hlow⟩:=hex;have hjr:j∈Region.ready .any A f:=by
         simp only[Region.ready,bQ,eH,aD,cN];refine⟨by omega,by rw[hT j (by omega)];exact V,?_⟩;have hA:A[j]?=some A[j]:=by simp[show j<A.size by omega]
         rw[hA];simp only[dW,eD,fh];intro y hy;cases hyb:Region.binds .any y with
 |false=>rfl
 |true=> simp only[fV,ga];have ho:nth A.toList j=some A[j]:=by rw[aH];exact hA
         have:=bc hedge j _ ho;simp only[bw,bG,decide_eq_true_eq]at this;exact hlow _ (this y.on (by simp only[aT,aM,bQ,dO];exact⟨y,⟨hy,hyb⟩,rfl⟩))
        rw[hnil]at hjr;simp at hjr
      · simp only[Region.ready,bQ,eH,aD,cN]at hi;obtain⟨W,hi1,hi2⟩:=hi;rw[hT i W]at hi1;have ho:nth A.toList i=some A[i]:=by rw[aH];simp[W]
        have hb:=M i W hi2 _ ho;have him:i<m:=by
         rcases bJ i m with h|h;.exact h
         ·exfalso;have hc:=bc htail i _ ho;simp only[bw,bT,decide_eq_true_eq]at hc;have hc:=hc.resolve_left (by omega);obtain⟨j,hjm,V,hlow⟩:=hex;have hbit:=bG.1 hc j (by simp;omega);have:=cq (L:=A.toList) (D:=λx=>f.getD x false=true) g.closed (j:=i) (i:=j) (λo' ho'=>M i W hi2 o' ho') hbit;rw[this]at V;simp at V
        refine xl hn (RI G) hst g H ho him hb (by simp[hi1]) hQ λa' k' q=>?_;refine ih _ a' k' (by simp[T]) ?_ (λj R=>?_) ?_
        · have hil:i<f.size:=by omega
          have h0:f[i]=false:=by simpa[cA,dU hil]using hi1
          have hsplit:f.toList=f.toList.take i++false::f.toList.drop (i+1):=by have h1:=gO i f.toList;have h2:f.toList.drop i=f.toList[i]'(by simpa using hil)::f.toList.drop (i+1):=l8 (by simpa using hil);rw[rW,h0]at h2;exact(h1.symm.trans (by rw[h2]))
          have hset:(f.setIfInBounds i true).toList=f.toList.take i++true::f.toList.drop (i+1):=by rw[vv,r8,if_pos (by simpa using hil)]
          rw[hset,rO,bA];rw[hsplit,rO,bA]at hf;simp only[List.filter_cons]at hf⊢;simp at hf⊢;omega
        · by_cases O:j=i;.omega
          .rw[getD_set_ne _ (λe=>O e.symm)]at R;exact H j R
        · have he:(λj=>(f.setIfInBounds i true).getD j false=true)=(λj=>f.getD j false=true∨j=i):=by
           funext j;by_cases O:j=i;.subst O;simp[cA,show j<f.size by omega]
           .rw[getD_set_ne _ (λe=>O e.symm)];simp[O]
          rw[he];exact q
theorem Nw{A:Array Oper}{n m:Nat}{Q:Exit->Act->World->Prop}(I:a0.tmps.size=n)(g:lU n m A.toList es=true)(x:Steps P es a0 k0 (A.toList.take m) es)(J:LetsOut Q)(q:∀a k,Inv A.toList es a0 k0 (.<m) a k->wpOps P A Q (List.range' m (A.size-m)) a k.w):∀(r i:Nat)(a:Act)(k:K),i+r=m->Inv A.toList es a0 k0 (.<i) a k->wpOps P A Q (List.range' i (A.size-i)) a k.w:=by have e:=g;simp[lU]at e;obtain⟨⟨⟨⟨E,M⟩,U⟩,u⟩,y⟩:=e;intro r;induction r with
 | zero => intro i a k hi f;obtain rfl:i=m:=by omega
           exact q a k f|succ r O=>
 intro i a k hi f;rw[show A.size-i=(A.size-(i+1))+1 by omega];have H:nth A.toList i=some A[i]:=by rw[aH];simp
 refine xl I g x f (λj h=>by omega) H (by omega) ?_ (fC i) J λR T z=>?_;.have:=bc u i _ H;grind
 .refine O (i+1) R T (by omega) ?_;grind
structure mf(ops:List Oper)(es:List Ent)(m:Nat)(a0:Act)(k0:K)(a:Act)(k:K):Prop where
 grow:bE k0 k
 size:a.tmps.size=a0.tmps.size
 defers:a.defers=a0.defers
 val:∀i d R nd,i<m->(nth ops i).bind (·.dst)=some d->nth es i=some ⟨some R,nd⟩->R (a.get d) k
 old:∀t,allI (λi o=>i>=m||o.dst !=some t) 0 ops=true->a.get t=a0.get t
theorem mf.of{ops:List Oper}{m:Nat}{a:Act}{k:K}(h:Inv ops es a0 k0 (.<m) a k):mf ops es m a0 k0 a k where
 grow:=h.grow;size:=h.size;defers:=h.defers;val:=λi d R nd j e u=>by cases f:nth ops i with|none=>rw[f]at e;simp at e;|some o=>rw[f]at e;exact h.vals i o d _ j f e u
 old:=λt x=>h.rest t λi o hi f e=>by have:=bc x i o f;grind
theorem region{id:Nat}{g:Bool}{A:Array Oper}{n m:Nat}{Q:Exit->Act->World->Prop}(es:List Ent)(I:P.follows .mixedOrders=true)(z:a0.tmps.size=n)(q:chk n m A.toList es=true)(x:Steps P es a0 k0 (A.toList.take m) es)(E:LetsOut Q)(u:∀a k,mf A.toList es m a0 k0 a k->wpOps P A Q (List.range' m (A.size-m)) a k.w):(Code.region id A g).wp P Q a0 k0.w:=by have G:∀a k,Inv A.toList es a0 k0 (.<m) a k->wpOps P A Q (List.range' m (A.size-m)) a k.w:=λa k h=>u a k (mf.of h);cases g with
 |true=>
 refine wp_region_any I ?_;let H:K:=⟨{k0.w with drawn:=k0.w.drawn+1},k0.sh,k0.lt⟩;have J:bE k0 H:=⟨rfl,rfl,rfl,aA _,λ _ _=>rfl,λ _ h=>h,λ _ _ h=>h,gN _⟩;have F:∀j,(Array.replicate A.size false).getD j false=true->False:=by intro j f;simp[rK]at f;split at f<;>simp at f
 refine Sw z q x E G A.size _ a0 H (by simp) (by simp) (λj f=>(F j f).elim) ?_;exact⟨J,rfl,rfl,λi o d e hi=>(F i hi).elim,λ _ _=>rfl,λj o _ f=>(F j f).elim,λi hi=>(F i hi).elim⟩|false=>refine wp_region ?_;rw[List.range_eq_range'];have:=Nw z (RI q) x E G m 0 a0 k0 (by omega) ⟨bE.refl k0,rfl,rfl,λi o d e hi=>absurd hi (fv _),λ _ _=>rfl,λj o _ f=>absurd f (fv _),λi hi=>absurd hi (fv _)⟩;simpa using this
theorem xv{id:Nat}{A:Array Oper}{n m:Nat}{Q:Exit->Act->World->Prop}(es:List Ent)(u:a0.tmps.size=n)(g:lU n m A.toList es=true)(q:Steps P es a0 k0 (A.toList.take m) es)(x:LetsOut Q)(f:∀a k,mf A.toList es m a0 k0 a k->wpOps P A Q (List.range' m (A.size-m)) a k.w):(Code.region id A false).wp P Q a0 k0.w:=by refine wp_region ?_;rw[List.range_eq_range'];have:=Nw u g q x (λa k h=>f a k (mf.of h)) m 0 a0 k0 (by omega) ⟨bE.refl k0,rfl,rfl,λi o d e hi=>absurd hi (fv _),λ _ _=>rfl,λj o _ y=>absurd y (fv _),λi hi=>absurd hi (fv _)⟩;simpa using this
end
def Gd(p:Prop)(R:Pred):Pred:=λv k=>(p/\R v k)∨(¬p/\v=undef)
theorem Gd.get{p:Prop}{R:Pred}{v:Value}{k:K}(h:Gd p R v k)(e:p):R v k:=h.elim (·.2) (λh=>absurd e h.1)
instance{p:Prop}{R:Pred}[aZ R]:aZ (Gd p R):=⟨λg h=>h.imp (λh=>⟨h.1,aZ.mono g h.2⟩) id⟩
theorem PK{P:Program}{o:Oper}{a:Act}{k:K}{p:Prop}{R:Pred}(e:p)(h:aX P o a k R):aX P o a k (Gd p R):=λnext Q f g=>h next Q f λv j m q=>g v j m (.inl ⟨e,q⟩)
section
variable{P:Program}{es:List Ent}{a0:Act}{k0:K}{o:Oper}{R:Pred}{nd:List (Nat×Option Nat)}
theorem ob1[aZ R](g:o.guard=none)(h:∀a k,bE k0 k->lp es a0 a k nd->aX P o a k R):Ob P es a0 k0 o ⟨some R,nd⟩:=⟨inferInstance, .inl ⟨h,by unfold iT;rw[g]⟩⟩
theorem obG[aZ R]{j:Nat}{w:Bool}{g:Pred}{m:List (Nat×Option Nat)}{p:Prop}(q:o.guard=some (j,w))(u:nth es j=some ⟨some g,m⟩)(h1:∀v k,g v k->(v= .bool w↔p))(h:p->∀a k,bE k0 k->lp es a0 a k nd->aX P o a k R):Ob P es a0 k0 o ⟨some (Gd p R),nd⟩:=⟨inferInstance, .inr ⟨j,w,g,m,q,u,λa k v hk x e f=>PK ((h1 v k e).1 f) (h ((h1 v k e).1 f) a k hk x),λk v _ e f=> .inr ⟨λy=>f ((h1 v k e).2 y),rfl⟩⟩⟩
end
def mkV:Bool->List Value->Value|true,e=> .agg e.toArray|false,[v]=>v|false,_=>undef
class Enc(α:Type)where
 sz:Nat
 agg:Bool
 rep:K->List Value->α->Prop
 len:∀{k cs x},rep k cs x->cs.length=sz
 mono:∀{k k' cs x},Le k k'->rep k cs x->rep k' cs x
 one:∀{k cs x},rep k cs x->∀u∈cs,u.oneCell'=true
 agg1:agg=false->sz=1
section
variable{α β:Type}[Enc α][Enc β]
def IsV(x:α):Pred:=λv k=>∃e,v=mkV (Enc.agg α) e/\Enc.rep k e x
instance(x:α):aW (IsV x):=⟨λh⟨f,e,r⟩=>⟨f,e,Enc.mono h r⟩⟩
def fk(w:World)(a:Addr)(f:List Value):Prop:=a.spot=none/\∃e t g,w.heap[a.block]?=some (.cells e t g)/\a.off+f.length<=e.size/\∀j,j<f.length->e[a.off+j]?=f[j]?
def At(x:α)(a:Addr)(k:K):Prop:=∃e,Enc.rep k e x/\fk k.w a e
theorem fk.lt{w:World}{a:Addr}{e:List Value}(h:fk w a e):a.block<w.heap.size:=by obtain⟨_,f,t,g,h,_⟩:=h;exact(bO.1 h).1
theorem fk.same{w f:World}{a:Addr}{g:List Value}(h:fk w a g)(j:f.heap[a.block]?=w.heap[a.block]?):fk f a g:=by obtain⟨m,e,t,q,h,r⟩:=h;exact⟨m,e,t,q,by rw[j];exact h,r⟩
def eE(x:α):Pred:=λv k=>∃a,v= .pointer (some a)/\At x a k
def aS(x:α):Pred:=λv k=>∃a,v= .pointer (some a)/\k.sh a.block/\At x a k
instance(x:α):aZ (eE x):=⟨λh⟨a,e,f,r,c⟩=>⟨a,e,f,Enc.mono h.le r,c.same (h.blk _ c.lt)⟩⟩
instance(x:α):aW (aS x):=⟨λh⟨a,e,s,f,r,c⟩=>⟨a,e,h.up _ s,f,Enc.mono h r,c.same (h.blk _ s)⟩⟩
theorem aS.ptr{x:α}{v:Value}{k:K}(h:aS x v k):eE x v k:=let⟨a,e,_,r⟩:=h;⟨a,e,r⟩
def fb(R S:Pred):Pred:=λv k=>∃x y,v= .tuple #[x,y]/\R x k/\S y k
def ID(R S T:Pred):Pred:=λv k=>∃x y z,v= .tuple #[x,y,z]/\R x k/\S y k/\T z k
instance{R S:Pred}[aZ R][aZ S]:aZ (fb R S):=⟨λh⟨x,y,e,a,b⟩=>⟨x,y,e,aZ.mono h a,aZ.mono h b⟩⟩
instance{R S T:Pred}[aZ R][aZ S][aZ T]:aZ (ID R S T):=⟨λh⟨x,y,z,e,a,b,c⟩=>⟨x,y,z,e,aZ.mono h a,aZ.mono h b,aZ.mono h c⟩⟩
def Q0:Pred:=λ_ _=>True
instance:aW Q0:=⟨λ_ h=>h⟩
def QY:Pred:=λv _=>v= .pointer none
instance:aW QY:=⟨λ_ h=>h⟩
end
instance:Enc Int where
 sz:=1;agg:=false;rep _ f n:=f=[.int .i64 n];len h:=by simp[h]
 mono _ h:=h;one h:=by subst h;simp[Value.oneCell']
 agg1 _:=rfl
instance:Enc Bool where
 sz:=1;agg:=false;rep _ f n:=f=[.bool n];len h:=by simp[h]
 mono _ h:=h;one h:=by subst h;simp[Value.oneCell']
 agg1 _:=rfl
instance:Enc ByteArray where
 sz:=1;agg:=false;rep _ f n:=f=[.string n];len h:=by simp[h]
 mono _ h:=h;one h:=by subst h;simp[Value.oneCell']
 agg1 _:=rfl
theorem au{n:Int}{v:Value}{k:K}:IsV n v k↔v= .int .i64 n:=⟨λ⟨_,e,r⟩=>by rw[e,r];rfl,λe=>⟨[.int .i64 n],e,rfl⟩⟩
theorem aE{n:Bool}{v:Value}{k:K}:IsV n v k↔v= .bool n:=⟨λ⟨_,e,r⟩=>by rw[e,r];rfl,λe=>⟨[.bool n],e,rfl⟩⟩
theorem cY{n:ByteArray}{v:Value}{k:K}:IsV n v k↔v= .string n:=⟨λ⟨_,e,r⟩=>by rw[e,r];rfl,λe=>⟨[.string n],e,rfl⟩⟩
instance{α β:Type}[Enc α][Enc β]:Enc (α×β)where
 sz:=Enc.sz α+Enc.sz β;agg:=true;rep k e p:=e.length=Enc.sz α+Enc.sz β/\Enc.rep k (e.take (Enc.sz α)) p.1/\Enc.rep k (e.drop (Enc.sz α)) p.2;len h:=h.1;mono h r:=⟨r.1,Enc.mono h r.2.1,Enc.mono h r.2.2⟩;one{k e p}h u f:=by rw[<-gO (Enc.sz α) e,dq]at f;exact f.elim (Enc.one h.2.1 u) (Enc.one h.2.2 u)
 agg1 h:=by simp at h
@[reducible]def Enc.ofMap{σ β:Type}[Enc β](f:σ->β):Enc σ where sz:=Enc.sz β;agg:=true;rep k m x:=Enc.rep k m (f x);len h:=Enc.len h;mono h r:=Enc.mono h r;one h:=Enc.one h;agg1 h:=by simp at h
theorem fk.sub{w:World}{a:Addr}{e:List Value}(h:fk w a e)(i n:Nat)(hi:i+n<=e.length):fk w (a.add i) ((e.drop i).take n):=by
 obtain⟨u,f,t,g,m,z,x⟩:=h;have q:a.add i=⟨a.block,a.off+i,none⟩:=by
  unfold Addr.add;split;.cases a;simp_all
  .rfl
 rw[q];refine⟨rfl,f,t,g,m,?_,λj y=>?_⟩;.simp;omega
 grind
section
variable{α β:Type}[Enc α][Enc β]
theorem At.fst{p:α×β}{a:Addr}{k:K}(h:At p a k):At p.1 a k:=by obtain⟨e,r,c⟩:=h;refine⟨_,r.2.1,?_⟩;have:=c.sub 0 (Enc.sz α) (by have:=r.1;omega);simpa[Addr.add]using this
theorem At.snd{p:α×β}{a:Addr}{k:K}(h:At p a k):At p.2 (a.add (Enc.sz α)) k:=by obtain⟨e,r,c⟩:=h;refine⟨_,r.2.2,?_⟩;have:=c.sub (Enc.sz α) (Enc.sz β) (by have:=r.1;omega);rwa[oz (by have:=r.1;simp;omega)]at this
end
theorem add_add(a:Addr)(i j:Nat):(a.add i).add j=a.add (i+j):=by unfold Addr.add;grind
theorem vQ(a:Addr)(i:Nat):(a.add i).block=a.block:=by unfold Addr.add;split<;>rfl
section
variable{α:Type}[Enc α]
def cV(k:K):List Value->List α->Prop|e,[]=>e=[]|e,x::f=>Enc.rep k (e.take (Enc.sz α)) x/\cV k (e.drop (Enc.sz α)) f
theorem cV.len{k:K}:∀{e:List Value}{f:List α},cV k e f->e.length=f.length*Enc.sz α|e,[],h=>by simp[cV]at h;simp[h];|e,x::f,h=>by have h1:=Enc.len h.1;have g:=cV.len h.2;simp[dY]at h1 g;simp[dM];omega
theorem cV.mono{k k':K}(h:Le k k'):∀{e:List Value}{x:List α},cV k e x->cV k' e x|_,[],r=>r|_,_::_,r=>⟨Enc.mono h r.1,cV.mono h r.2⟩
theorem cV.one{k:K}:∀{e:List Value}{g:List α},cV k e g->∀u∈e,u.oneCell'=true|e,[],h,u,f=>by simp[cV]at h;simp[h]at f;|e,x::g,h,u,f=>by rw[<-gO (Enc.sz α) e,dq]at f;exact f.elim (Enc.one h.1 u) (cV.one h.2 u)
theorem cV.cons{k:K}{c e:List Value}{x:α}{f:List α}(h:Enc.rep k c x)(g:cV k e f):cV k (c++e) (x::f):=by
 have j:=Enc.len h;refine⟨?_,?_⟩;.rw[il j];exact h
 .rw[qW j];exact g
theorem cV.append{k:K}:∀{f j:List Value}{m y:List α},cV k f m->cV k j y->cV k (f++j) (m++y)
 |f,j,[],y,h,g=>by simp[cV]at h;simpa[h]using g;|f,j,x::m,y,h,g=>by
  have e:f++j=f.take (Enc.sz α)++(f.drop (Enc.sz α)++j):=by rw[<-dm,gO]
  rw[e];exact cV.cons h.1 (cV.append h.2 g)
theorem cV.drop{k:K}:∀(i:Nat){e:List Value}{f:List α},cV k e f->cV k (e.drop (i*Enc.sz α)) (f.drop i)|0,e,f,h=>by simpa using h;|i+1,e,[],h=>by simp[cV]at h;simp[h,cV];|i+1,e,x::f,h=>by have:=cV.drop i h.2;rw[iz]at this;grind
theorem cV.take{k:K}:∀(i:Nat){f:List Value}{g:List α},cV k f g->cV k (f.take (i*Enc.sz α)) (g.take i)
 |0,f,g,h=>by simp[cV];|i+1,f,[],h=>by simp[cV]at h;simp[h,cV];|i+1,f,x::g,h=>by
  have e:f.take ((i+1)*Enc.sz α)=f.take (Enc.sz α)++(f.drop (Enc.sz α)).take (i*Enc.sz α):=by rw[dM,Nat.one_mul,Nat.add_comm,rp]
  rw[e];exact cV.cons h.1 (cV.take i h.2)
theorem cV.get{k:K}{f:List Value}{g:List α}(h:cV k f g){i:Nat}{x:α}(hi:g[i]?=some x):Enc.rep k ((f.drop (i*Enc.sz α)).take (Enc.sz α)) x/\i*Enc.sz α+Enc.sz α<=f.length:=by have j:=h.len;obtain⟨e,rfl⟩:=kr.1 hi;have:=cV.drop i h;rw[l8 e]at this;refine⟨this.1,?_⟩;rw[j];have:=ep (Enc.sz α) (show i+1<=g.length from e);rwa[dM,Nat.one_mul]at this
def BG(k:K)(v:Value)(x:List α):Prop:=(v= .slice none 0 0/\x=[])∨(∃a,v= .slice (some a) 0 0/\x=[])∨∃a e f,v= .slice (some a) x.length e/\x.length<=e/\k.sh a.block/\cV k f x/\fk k.w a f
end
instance{α:Type}[Enc α]:Enc (List α)where
 sz:=1;agg:=false;rep k g x:=∃v,g=[v]/\BG k v x;len h:=by obtain⟨v,rfl,_⟩:=h;rfl
 mono h r:=by
  obtain⟨v,rfl,r⟩:=r;refine⟨v,rfl,?_⟩;rcases r with r|r|⟨a,f,g,e,u,j,w,y⟩;.exact .inl r
  .exact .inr (.inl r)
  .exact .inr (.inr ⟨a,f,g,e,u,h.up _ j,w.mono h,y.same (h.blk _ j)⟩)
 one h:=by obtain⟨v,rfl,r⟩:=h;rcases r with⟨rfl,_⟩|⟨a,rfl,_⟩|⟨a,f,g,rfl,_⟩<;>simp[Value.oneCell']
 agg1 _:=rfl
theorem eC{α:Type}[Enc α]{x:List α}{v:Value}{k:K}:IsV x v k↔BG k v x:=⟨λ⟨_,e,u,h,r⟩=>by subst h;subst e;exact r,λr=>⟨[v],rfl,v,rfl,r⟩⟩
def cM{α:Type}[Enc α](x:List α):Pred:=λv k=>(v= .slice none 0 0/\x=[])∨∃a e f,v= .slice (some a) x.length e/\x.length<=e/\cV k f x/\(x=[]∨fk k.w a f)
instance{α:Type}[Enc α](x:List α):aZ (cM x):=⟨λh r=>by
 rcases r with r|⟨a,f,j,e,m,q,u⟩;.exact .inl r
 .exact .inr ⟨a,f,j,e,m,q.mono h.le,u.imp id λg=>g.same (h.blk _ g.lt)⟩⟩
theorem IsV.rd{α:Type}[Enc α]{xs:List α}{v:Value}{k:K}(h:IsV xs v k):cM xs v k:=by
 rcases eC.1 h with r|⟨a,e,rfl⟩|⟨a,f,g,e,j,_,m,q⟩;.exact .inl r
 .exact .inr ⟨a,0,[],e,aA _,rfl, .inl rfl⟩
 .exact .inr ⟨a,f,g,e,j,m, .inr q⟩
theorem fk.elem{α:Type}[Enc α]{k:K}{a:Addr}{e:List Value}{f:List α}(h:fk k.w a e)(g:cV k e f){i:Nat}{x:α}(hi:f[i]?=some x):At x (a.add (i*Enc.sz α)) k:=by obtain⟨h1,j⟩:=g.get hi;exact⟨_,h1,h.sub _ _ j⟩
section
variable{P:Program}{o:Oper}{a:Act}{k:K}{R S:Pred}
theorem eS{v:Value}{k':K}(e:(execOp a.eval o).run P k.w= .ok (.value v) k'.w)(g:bE k k')(f:R v k'):aX P o a k R:=by intro next Q j h;unfold Oper.wp;rw[e];exact h v k' g f
theorem ak{v:Value}(h:(execOp a.eval o).run P k.w= .ok (.value v) k.w)(e:R v k):aX P o a k R:=eS h (bE.refl k) e
theorem du{x:Operand}(e:o.op= .move x)(h:R (a.eval x) k):aX P o a k R:=ak (by simp[execOp,e]) h
theorem aQ{x:Operand}(e:o.op= .assign x)(h:R (a.eval x) k):aX P o a k R:=ak (by simp[execOp,e]) h
theorem Kx{c x y:Operand}{b:Bool}(f:o.op= .pick c x y)(e:IsV b (a.eval c) k)(g:b=true)(h:R (a.eval x) k):aX P o a k R:=by have e:=aE.1 e;subst g;exact ak (by simp[execOp,f,e,asBool]) h
theorem Lx{c x y:Operand}{b:Bool}(f:o.op= .pick c x y)(e:IsV b (a.eval c) k)(g:b=false)(h:R (a.eval y) k):aX P o a k R:=by have e:=aE.1 e;subst g;exact ak (by simp[execOp,f,e,asBool]) h
def inI(n:Int):Prop:=-9223372036854775808<=n/\n<=9223372036854775807
instance(n:Int):Decidable (inI n):=inferInstanceAs (Decidable (_/\_))
def bh(n m:Int):Option Int:=if inI (n+m)then some (n+m)else none
def fi(n m:Int):Option Int:=if inI (n-m)then some (n-m)else none
def El(n m:Int):Option Int:=if inI (n*m)then some (n*m)else none
def HY(n m:Int):Option Int:=if m≠0/\inI (n.tdiv m)then some (n.tdiv m)else none
def Kv(n m:Int):Option Int:=if m≠0 then some (n.tmod m)else none
theorem lh{e:Type}{c:Prop}[Decidable c]{x y:e}(h:(if c then some x else none)=some y):c/\x=y:=by grind
section
variable{t u:TypeId}{x y:Operand}{n m r:Int}
theorem iK(g:o.op= .binOp .add t x y u)(e:IsV n (a.eval x) k)(f:IsV m (a.eval y) k)(h:bh n m=some r):aX P o a k (IsV r):=by have e:=au.1 e;have f:=au.1 f;obtain⟨j,rfl⟩:=lh h;refine ak ?_ (au.2 rfl);simp[execOp,g,e,f];simp[eqGuard,binOp,Op.intArith,IntWalk.i64_in _ j]
theorem Ak(g:o.op= .binOp .sub t x y u)(e:IsV n (a.eval x) k)(f:IsV m (a.eval y) k)(h:fi n m=some r):aX P o a k (IsV r):=by have e:=au.1 e;have f:=au.1 f;obtain⟨j,rfl⟩:=lh h;refine ak ?_ (au.2 rfl);simp[execOp,g,e,f];simp[eqGuard,binOp,Op.intArith,IntWalk.i64_in _ j]
theorem R8(g:o.op= .binOp .mul t x y u)(e:IsV n (a.eval x) k)(f:IsV m (a.eval y) k)(h:El n m=some r):aX P o a k (IsV r):=by have e:=au.1 e;have f:=au.1 f;obtain⟨j,rfl⟩:=lh h;refine ak ?_ (au.2 rfl);simp[execOp,g,e,f];simp[eqGuard,binOp,Op.intArith,IntWalk.i64_in _ j]
theorem S0(g:o.op= .binOp .quo t x y u)(e:IsV n (a.eval x) k)(f:IsV m (a.eval y) k)(h:HY n m=some r):aX P o a k (IsV r):=by have e:=au.1 e;have f:=au.1 f;obtain⟨⟨j,q⟩,rfl⟩:=lh h;refine ak ?_ (au.2 rfl);simp[execOp,g,e,f];simp[eqGuard,binOp,Op.intDiv,j,IntWalk.i64_in _ q]
theorem R5(g:o.op= .binOp .rem t x y u)(e:IsV n (a.eval x) k)(f:IsV m (a.eval y) k)(h:Kv n m=some r):aX P o a k (IsV r):=by have e:=au.1 e;have f:=au.1 f;obtain⟨j,rfl⟩:=lh h;refine ak ?_ (au.2 rfl);simp[execOp,g,e,f];simp[eqGuard,binOp,Op.intDiv,j]
theorem jY(f:o.op= .binOp .lss t x y u)(h:IsV n (a.eval x) k)(e:IsV m (a.eval y) k):aX P o a k (IsV (decide (n<m))):=by have h:=au.1 h;have e:=au.1 e;refine ak ?_ (aE.2 rfl);simp[execOp,f,h,e];simp[eqGuard,binOp,Op.intCmp]
theorem DW(f:o.op= .binOp .leq t x y u)(h:IsV n (a.eval x) k)(e:IsV m (a.eval y) k):aX P o a k (IsV (decide (n<=m))):=by have h:=au.1 h;have e:=au.1 e;refine ak ?_ (aE.2 rfl);simp[execOp,f,h,e];simp[eqGuard,binOp,Op.intCmp]
theorem sU(f:o.op= .binOp .gtr t x y u)(h:IsV n (a.eval x) k)(e:IsV m (a.eval y) k):aX P o a k (IsV (decide (m<n))):=by have h:=au.1 h;have e:=au.1 e;refine ak ?_ (aE.2 rfl);simp[execOp,f,h,e];simp[eqGuard,binOp,Op.intCmp]
theorem NX(f:o.op= .binOp .geq t x y u)(h:IsV n (a.eval x) k)(e:IsV m (a.eval y) k):aX P o a k (IsV (decide (m<=n))):=by have h:=au.1 h;have e:=au.1 e;refine ak ?_ (aE.2 rfl);simp[execOp,f,h,e];simp[eqGuard,binOp,Op.intCmp]
theorem Eb(f:o.op= .binOp .eql t x y u)(h:IsV n (a.eval x) k)(e:IsV m (a.eval y) k):aX P o a k (IsV (n==m)):=by have h:=au.1 h;have e:=au.1 e;refine ak ?_ (aE.2 rfl);simp[execOp,f,h,e];simp[eqGuard,binOp,Op.intCmp]
theorem EB(f:o.op= .binOp .neq t x y u)(h:IsV n (a.eval x) k)(e:IsV m (a.eval y) k):aX P o a k (IsV (n !=m)):=by have h:=au.1 h;have e:=au.1 e;refine ak ?_ (aE.2 rfl);simp[execOp,f,h,e];simp[eqGuard,binOp,Op.intCmp]
theorem run_equal_bool{b c:Bool}{w:World}(h:P.underlying t=some .bool):(Op.equal t (.bool b) (.bool c)).run P w= .ok (b==c) w:=by show(Op.equalIn (9999+1) t (.bool b) (.bool c)).run P w=_;rw[Op.equalIn];simp[run_underlying h]
theorem Tg{b c:Bool}(f:o.op= .binOp .eql t x y u)(g:P.underlying t=some .bool)(h:IsV b (a.eval x) k)(e:IsV c (a.eval y) k):aX P o a k (IsV (b==c)):=by have h:=aE.1 h;have e:=aE.1 e;refine ak ?_ (aE.2 rfl);simp[execOp,f,h,e];have:=run_equal_bool (b:=b) (c:=c) (w:=k.w) g;simp[eqGuard,binOp,this]
theorem Tt{b c:Bool}(f:o.op= .binOp .neq t x y u)(g:P.underlying t=some .bool)(h:IsV b (a.eval x) k)(e:IsV c (a.eval y) k):aX P o a k (IsV (b !=c)):=by have h:=aE.1 h;have e:=aE.1 e;refine ak ?_ (aE.2 rfl);simp[execOp,f,h,e];have:=run_equal_bool (b:=b) (c:=c) (w:=k.w) g;simp[eqGuard,binOp,this];cases b<;>cases c<;>rfl
end
theorem pW{t:TypeId}{x:Operand}{b:Bool}(e:o.op= .unOp .not t x)(h:IsV b (a.eval x) k):aX P o a k (IsV (!b)):=by have h:=aE.1 h;refine ak ?_ (aE.2 rfl);simp[execOp,e,h];simp[Op.unary]
theorem OD{t:TypeId}{x:Operand}{n r:Int}(g:o.op= .unOp .neg t x)(e:IsV n (a.eval x) k)(h:fi 0 n=some r):aX P o a k (IsV r):=by have e:=au.1 e;obtain⟨f,rfl⟩:=lh h;refine ak ?_ (au.2 rfl);simp[execOp,g,e];simp[Int.zero_sub]at f;simp[Op.unary,Op.intArith,IntWalk.i64_in _ f]
end
def uT:TypeDesc->Bool| .struct _| .array _ _=>true|_=>false
def Ty(P:Program)(t:TypeId)(e:Type)[Enc e]:Prop:=(∃d,P.underlying t=some d/\uT d=Enc.agg e)/\(P.info? t).map (·.size)=some (Enc.sz e)
def cT(P:Program)(s f off:Nat):Prop:=∃g e n,P.underlying s=some (.struct g)/\g[f]?=some e/\e.offset=off/\(P.info? e.type).map (·.size)=some (n+1)
def aL{e:Type}(x:List e)(i:Int):Option e:=if 0<=i then x[i.toNat]?else none
theorem nn{e:Type}{x:List e}{i:Int}{y:e}(h:aL x i=some y):0<=i/\x[i.toNat]?=some y/\i.toNat<x.length/\i<x.length:=by unfold aL at h;grind
section
variable{P:Program}{o:Oper}{a:Act}{k:K}{R S:Pred}{α β:Type}[Enc α][Enc β]
theorem run_sizeOf{t n:Nat}{w:World}(h:(P.info? t).map (·.size)=some n):(sizeOf t).run P w= .ok n w:=by cases hi:P.info? t with|none=>rw[hi]at h;simp at h;|some i=>rw[hi]at h;simp at h;simp[sizeOf,typeInfo,hi,h]
theorem er{t:Nat}{d:TypeDesc}{w:World}(h:P.underlying t=some d):(isAgg t).run P w= .ok (uT d) w:=by simp[isAgg,run_underlying h];cases d<;>simp[uT]
theorem fk.cell{w:World}{e:Addr}{f:List Value}(h:fk w e f):∀j v,f[j]?=some v->w.cell? (e.add j)=some v:=by
 intro j v g;obtain⟨E,m,t,F,q,z,u⟩:=h;have x:j<f.length:=(kr.1 g).1;have y:e.add j=⟨e.block,e.off+j,none⟩:=by
  unfold Addr.add;split;.cases e;simp_all
  .rfl
 rw[y];simp[World.cell?,q,u j x,g]
theorem xq{t:Nat}{j:Addr}{x:α}(G:Ty P t α)(h:At x j k):∃v,(loadVar t j).run P k.w= .ok v k.w/\IsV x v k:=by obtain⟨⟨d,y,f⟩,z⟩:=G;obtain⟨m,q,E⟩:=h;have e:=Enc.len q;cases g:Enc.agg α with|true=>refine⟨.agg m.toArray,?_,m,by rw[g];rfl,q⟩;have F:=run_loadCells_list (P:=P) k.w j m E.cell;rw[e]at F;simp[loadVar,er y,f,g,run_sizeOf z,F];|false=>
 have h1:=Enc.agg1 g;rw[h1]at e;obtain⟨u,rfl⟩:=pz.1 e;refine⟨u,?_,[u],by rw[g];rfl,q⟩;have:=E.cell 0 u rfl;have H:j.add 0=j:=by simp[Addr.add]
 rw[H]at this;simp[loadVar,er y,f,g,this]
theorem aR{t:TypeId}{x:Operand}{y:α}(g:o.op= .load t x)(j:Ty P t α)(h:eE y (a.eval x) k):aX P o a k (IsV y):=by obtain⟨u,e,f⟩:=h;obtain⟨v,m,q⟩:=xq j f;refine ak ?_ q;simp[execOp,g,e];simp[Instr.loadAt,Instr.sureAddr,m]
theorem nU{s f off:Nat}{e:Addr}{w:World}(g:cT P s f off):(Instr.fieldAt s (.pointer (some e)) f).run P w= .ok (.pointer (some (e.add off))) w:=by obtain⟨q,j,n,u,h,rfl,m⟩:=g;simp[Instr.fieldAt,run_underlying u,h,Instr.sureAddr,fieldPlace,run_sizeOf m]
theorem bF{s f off:Nat}{x:Operand}{y:α}{z:β}(m:o.op= .fieldAddr s x f)(q:cT P s f off)(u:∀g k,At y g k->At z (g.add off) k)(h:eE y (a.eval x) k):aX P o a k (eE z):=by obtain⟨g,e,j⟩:=h;refine ak ?_ ⟨_,rfl,u _ _ j⟩;simp[execOp,m,e];simp[nU q]
theorem Gt{t e:Nat}{v:Value}{x:List α}{i:Int}{y:α}(u:P.underlying t=some (.slice e))(q:Ty P e α)(z:cM x v k)(E:aL x i=some y):∃m,(Instr.indexAt t v (.int .i64 i)).run P k.w= .ok (.pointer (some m)) k.w/\At y m k:=by
 obtain⟨F,h,I,f⟩:=nn E;rcases z with⟨_,rfl⟩|⟨b,G,J,rfl,M,H,g⟩;.simp at h
 .have g:=g.resolve_left (by intro e;subst e;simp at h);refine⟨_,?_,g.elem H h⟩;have j:i<x.length:=f;simp[Instr.indexAt,asIntOf,run_underlying u,run_sizeOf q.2,F,j]
theorem Ep{t e:Nat}{v:Value}{x:List α}{i:Int}{y:α}(u:P.underlying t=some (.slice e))(m:Ty P e α)(q:IsV x v k)(z:aL x i=some y):∃f,(Instr.indexAt t v (.int .i64 i)).run P k.w= .ok (.pointer (some f)) k.w/\k.sh f.block/\At y f k:=by
 obtain⟨E,h,J,g⟩:=nn z;rcases eC.1 q with⟨_,rfl⟩|⟨_,_,rfl⟩|⟨b,F,M,rfl,O,G,H,I⟩;.simp at h
 .simp at h
 .refine⟨_,?_,by rw[vQ];exact G,I.elem H h⟩;have j:i<x.length:=g;simp[Instr.indexAt,asIntOf,run_underlying u,run_sizeOf m.2,E,j]
theorem dj{t e:TypeId}{x y:Operand}{xs:List α}{i:Int}{z:α}(j:o.op= .indexAddr t x y)(u:P.underlying t=some (.slice e))(m:Ty P e α)(q:cM xs (a.eval x) k)(f:IsV i (a.eval y) k)(h:aL xs i=some z):aX P o a k (eE z):=by obtain⟨E,w,g⟩:=Gt u m q h;have f:=au.1 f;refine ak ?_ ⟨_,rfl,g⟩;simp[execOp,j,f];simp[w]
theorem zh{t e:TypeId}{x y:Operand}{j:List α}{i:Int}{z:α}(m:o.op= .indexAddr t x y)(u:P.underlying t=some (.slice e))(q:Ty P e α)(w:IsV j (a.eval x) k)(f:IsV i (a.eval y) k)(h:aL j i=some z):aX P o a k (aS z):=by obtain⟨G,E,F,g⟩:=Ep u q w h;have f:=au.1 f;refine ak ?_ ⟨_,rfl,F,g⟩;simp[execOp,m,f];simp[E]
theorem gM{t e:TypeId}{x:Operand}{j:Array TypeId}{xs:List α}(m:o.op= .call {callee:= .builtin .len,args:=#[x],argTypes:=j})(q:j[0]?=some t) (u:P.underlying t=some (.slice e))(w:cM xs (a.eval x) k):aX P o a k (IsV (xs.length:Int)):=by
 refine ak ?_ (au.2 rfl);rcases w with⟨e,rfl⟩|⟨b,y,z,e,h⟩;.simp[execOp,m,resolve,invoke,builtin,e,Builtin.len_,q,run_underlying u,goInt]
 .simp[execOp,m,resolve,invoke,builtin,e,Builtin.len_,q,run_underlying u,goInt]
theorem vP{x:Operand}(f:o.op= .extract x 0)(h:fb R S (a.eval x) k):aX P o a k R:=by obtain⟨u,v,e,g,j⟩:=h;refine ak ?_ g;simp[execOp,f,e];simp[Instr.extract]
theorem vG{x:Operand}(f:o.op= .extract x 1)(h:fb R S (a.eval x) k):aX P o a k S:=by obtain⟨u,v,e,j,g⟩:=h;refine ak ?_ g;simp[execOp,f,e];simp[Instr.extract]
def Ret(k:K)(R:Pred):Ending->World->Prop| .returned v,f=>∃e:K,e.w=f/\bE k e/\R v e| .outgrown,_=>False| .panicked _,_=>False
theorem bU{f:FuncId}{as_:List Operand}{y:Array TypeId}(z:o.op= .call {callee:= .value (.func f),args:=as_.toArray,argTypes:=y}) (E:∀args w,(callFunc f args).run P w= .ok (.enter f args) w)(h:Calls P f (as_.map a.eval).toArray k.w (Ret k R)):aX P o a k R:=by
 intro next Q M F;unfold Oper.wp;have G:(execOp a.eval o).run P k.w= .ok (.enter f (as_.map a.eval).toArray) k.w:=by simp[execOp,z,resolve,invoke,Deferred.ofValue,Act.eval,E]
 rw[G];refine Calls.mono h λe O x=>?_;cases e with|returned v=>obtain⟨H,rfl,I,J⟩:=x;exact F v H I J;|panicked c=>exact x.elim;|outgrown=>exact x.elim
def o9(a:Act):Nat->List Value->Prop|_,[]=>True|i,v::e=>a.get i=v/\o9 a (i+1) e
theorem enter{f:FuncId}{e:Func}{c:Code}{args:Array Value}{n:Nat}(u:P.funcs[f]?=some e)(x:e.body=some c)(F:e.ntmps=n)(G:args.size<=n)(h:∀a:Act,a.tmps.size=n->a.defers=[]->o9 a 0 args.toList->c.wp P (bodyPost P e (Ret k R)) a k.w):Calls P f args k.w (Ret k R):=by
  refine calls_of_wp u x (h _ ?_ rfl ?_);.simp;omega
  · have y:∀(g:List Value)i,args.toList.drop i=g->o9 {tmps:=args++Array.replicate (e.ntmps-args.size) undef,defers:=[]} i g:=by intro g;induction g with|nil=>intro i _;trivial;|cons v g E=>
 intro i hi;have m:i<args.size:=by
  rcases bJ i args.size with h|h;.exact h
  .rw[vu (by simpa using h)]at hi;simp at hi
 refine⟨?_,E (i+1) (by rw[<-iz,hi];rfl)⟩;rw[l8 (by simpa using m)]at hi;simp[Act.get];grind
    exact y _ 0 rfl
def gg(P:Program)(a:Act)(k:K):ResultVar->Pred->Prop| .tmp t,R=>R (a.get t) k| .cell x t,R=>∃e v,a.get x= .pointer (some e)/\(loadVar t e).run P k.w= .ok v k.w/\R v k
def uy(m:Array Value):ResultVar->Sem Value| .tmp t=>pure (m.getD t undef)| .cell x t=>do loadVar t (<-asAddr (m.getD x undef))
theorem wz(f:Func)(m:Array Value):results f m=(do let e<-f.results.mapM (uy m);pure (if h:e.size=1 then e[0]else .tuple e)):=rfl
theorem vL{r:ResultVar}{e:K}(h:gg P a e r R):∃v,(uy a.tmps r).run P e.w= .ok v e.w/\R v e:=by cases r with|tmp t=>exact⟨_,rfl,h⟩;|cell x t=>obtain⟨j,v,q,u,y⟩:=h;refine⟨v,?_,y⟩;have f:a.tmps.getD x undef= .pointer (some j):=q;simp[uy,f];simp[asAddr,u]
end
inductive aY(σ ρ:Type)where|go(s:σ)|ex(id:Nat)(s:σ)|ret(r:ρ)
def ar{e ρ:Type}(body:e->Option (aY e ρ)):Nat->e->Option (aY e ρ)|0,_=>none|n+1,s=>match body s with|none=>none|some (.go f)=>ar body n f|some (.ex i f)=>some (.ex i f)|some (.ret r)=>some (.ret r)
theorem bind_some{e g:Type}{x:Option e}{f:e->Option g}{y:g}(h:x.bind f=some y):∃z,x=some z/\f z=some y:=by cases x with|none=>simp at h;|some z=>exact⟨z,rfl,h⟩
theorem tn{p:Nat->Prop}(h:∃n,p n):∃n,p n/\∀m,p m->n<=m:=by obtain⟨n,e⟩:=h;induction n using Nat.strongRecOn with|_ n f=>grind
def Sim(P:Program){m j ρ:Type}(c:Code)(S:m->Act->K->Prop)(body:m->Option (aY j ρ))(T:j->Act->K->Prop)(X:Nat->j->Act->K->Prop)(R:ρ->Act->K->Prop):Prop:=∀s f a k,body s=some f->S s a k->∀Q:Exit->Act->World->Prop,LetsOut Q->(∀h e g,f= .go h->T h e g->Q .normal e g.w)->(∀i h e g,f= .ex i h->X i h e g->Q (.exit i) e g.w)->(∀r e g,f= .ret r->R r e g->Q .ret e g.w)->c.wp P Q a k.w
theorem gj{P:Program}{U ρ:Type}{c:Code}{S:U->Act->K->Prop}{body:U->Option (aY U ρ)}{X:Nat->U->Act->K->Prop}{Rt:ρ->Act->K->Prop}(u:Sim P c S body S X Rt)(n:Nat):Sim P (.loop c) S (ar body n) S X Rt:=by
 intro s f a k hb hS Q hQ hgo W F;let J:Nat->Act->World->Prop:=λn a w=>∃s k,k.w=w/\ar body n s=some f/\S s a k;let G:Act->World->Nat:=λa w=>open Classical in if h:∃n,J n a w then Classical.choose (tn h)else 0;have H:∀n a w,J n a w->J (G a w) a w/\G a w<=n:=by intro n a w V;have h:∃n,J n a w:=⟨n,V⟩;have:=Classical.choose_spec (tn h);simp[G,dif_pos h];exact⟨this.1,this.2 n V⟩
 refine wp_loop (λa w=>∃n,J n a w) G ⟨n,s,k,rfl,hb,hS⟩ ?_;rintro g I⟨M,V⟩;obtain⟨⟨j,q,rfl,e,x⟩,_⟩:=H M g I V;generalize hm:G g q.w=m at*;cases m with|zero=>simp[ar]at e;|succ m=>simp[ar]at e;cases y:body j with|none=>rw[y]at e;simp at e;|some O=>
 rw[y]at e;refine u j O g q y x _ ?_ ?_ ?_ ?_;.exact trivial
 .intro s' E z R hS';subst R;have T:J m E z.w:=⟨s',z,rfl,e,hS'⟩;exact⟨⟨m,T⟩,Nat.lt_succ_of_le (H m E z.w T).2⟩
 .intro i s' E z R hX;subst R;simp[aU]at e;exact W i s' E z e.symm hX
 .intro r E z R hR;subst R;simp[aU]at e;exact F r E z e.symm hR
structure Gi(b:Nat)(k k':K):Prop where
 tape:k'.w.tape=k.w.tape
 os:k'.w.os=k.w.os
 out:k'.w.output=k.w.output
 size:k'.w.heap.size=k.w.heap.size
 blk:∀i,i≠b->k'.w.heap[i]?=k.w.heap[i]?sh:k'.sh=k.sh
 drawn:k.w.drawn<=k'.w.drawn
theorem Gi.le{b:Nat}{k f:K}(h:Gi b k f)(g:¬k.sh b):Le k f:=⟨λi hi=>h.blk i (λe=>g (e▸hi)),λi hi=>by rw[h.sh];exact hi⟩
def K.share(k:K)(b:Nat)(h:b<k.w.heap.size):K:=⟨k.w,λi=>k.sh i∨i=b,λi hi=>hi.elim (k.lt i) (λe=>e▸h)⟩
theorem K.sk(k:K)(b:Nat)(e:b<k.w.heap.size):Le k (k.share b e):=⟨λ_ _=>rfl,λ_ h=> .inl h⟩
theorem bE.share{f k:K}(h:bE f k){b:Nat}(g:b<k.w.heap.size)(m:f.w.heap.size<=b):bE f (k.share b g):=⟨h.tape,h.os,h.out,h.size,h.blk,λi hi=> .inl (h.up i hi),λi hi j=>j.elim (h.new i hi) (λe=>by omega),h.drawn⟩
def K.alloc(k:K)(o:Obj):K:=⟨k.w.alloc o,k.sh,λb h=>by have:=k.lt b h;simp;omega⟩
theorem K.dT(k:K)(o:Obj):bE k (k.alloc o):=⟨rfl,rfl,rfl,by simp[K.alloc],λb e=>World.grownBy_alloc k.w o none|>.block b e (by simp),λ_ h=>h,λ_ _ h=>h,aA _⟩
section
variable{P:Program}{o:Oper}{a:Act}{k:K}{R S:Pred}{α β:Type}[Enc α][Enc β]
structure Box(b:Nat)(x:α)(k:K):Prop where
 own:¬k.sh b
 is:∃arr t,k.w.heap[b]?=some (.cells arr t (0,0))/\Enc.rep k arr.toList x
theorem Box.lt{b:Nat}{x:α}(h:Box b x k):b<k.w.heap.size:=by obtain⟨_,e,t,h,_⟩:=h;exact(bO.1 h).1
theorem Box.at{b:Nat}{x:α}(h:Box b x k):At x ⟨b,0,none⟩ k:=by obtain⟨_,e,t,h,r⟩:=h;refine⟨_,r,rfl,e,t,_,h,by simp,λj f=>by simp⟩
theorem Box.grow{b:Nat}{x:α}{j:K}(h:Box b x k)(g:bE k j):Box b x j:=by have e:=h.lt;obtain⟨m,f,t,h,r⟩:=h;exact⟨λq=>m (g.new b e q),f,t,by rw[g.blk b e];exact h,Enc.mono g.le r⟩
theorem Box.share{b:Nat}{x:α}(h:Box b x k):aS x (.pointer (some ⟨b,0,none⟩)) (k.share b h.lt):=⟨_,rfl, .inr rfl,let⟨e,r,c⟩:=h.at;⟨e,Enc.mono (K.sk k b h.lt) r,c⟩⟩
def gV(e:Nat)(x:α):Pred:=λv k=>∃b,v= .pointer (some ⟨b,0,none⟩)/\e<=b/\Box b x k
instance(f:Nat)(x:α):aZ (gV f x):=⟨λh⟨b,e,g,j⟩=>⟨b,e,g,j.grow h⟩⟩
theorem ni{x:α}{v:Value}(h:IsV x v k):∃e,v.cells=e/\Enc.rep k e.toList x:=by obtain⟨e,rfl,r⟩:=h;cases g:Enc.agg α with|true=>exact⟨e.toArray,by simp[mkV,Value.cells],by simpa using r⟩;|false=>have f:=Enc.len r;rw[Enc.agg1 g]at f;obtain⟨u,rfl⟩:=pz.1 f;have:=Enc.one r u (by simp);cases u<;>simp_all[mkV,Value.cells,Value.oneCell']
theorem xK{x:α}{cs:Array Value}{t:TypeId}(h:Enc.rep k cs.toList x):Box k.w.heap.size x (k.alloc (.cells cs t)):=⟨λe=>fC _ (k.lt _ e),cs,t,heap_alloc_new k.w _,Enc.mono (K.dT k _).le h⟩
theorem AX{t:TypeId}{y:Operand}{x:α}(f:Nat)(e:f<=k.w.heap.size)(g:o.op= .box t y)(h:IsV x (a.eval y) k):aX P o a k (gV f x):=by obtain⟨j,m,q⟩:=ni h;refine eS (k':=k.alloc (.cells j t)) ?_ (K.dT k _) ⟨_,rfl,e,xK q⟩;simp[execOp,g];simp[Instr.box,newVar,m];rfl
def Zero(P:Program)(t:TypeId)(x:α):Prop:=∃z,(∀w,(zeroValue t).run P w= .ok z w)/\∀k,IsV x z k
theorem gu{t:TypeId}{x:α}(f:Nat)(h:f<=k.w.heap.size)(g:o.op= .alloc t)(e:Zero P t x):aX P o a k (gV f x):=by obtain⟨z,e,j⟩:=e;obtain⟨m,q,u⟩:=ni (j k);refine eS (k':=k.alloc (.cells m t)) ?_ (K.dT k _) ⟨_,rfl,h,xK u⟩;simp[execOp,g];simp[Instr.alloc,e,newVar,q];rfl
def Upd(off:Nat)(set:α->β->α):Prop:=∀(k:K)(e f:List Value)(x:α)(y:β),Enc.rep k e x->Enc.rep k f y->off+Enc.sz β<=Enc.sz α/\Enc.rep k (e.take off++f++e.drop (off+f.length)) (set x y)
theorem Upd.self:Upd (α:=α) (β:=α) 0 (λ _ y=>y):=by intro k f g x y h e;have h1:=Enc.len h;have j:=Enc.len e;grind
theorem Upd.fst{j:Type}[Enc j]{off:Nat}{set:α->j->α}(h:Upd off set):Upd (α:=α×β) (β:=j) off (λp y=>(set p.1 y,p.2)):=by
 intro k e f x y u m;obtain⟨w,h1,z⟩:=u;obtain⟨E,q⟩:=h k _ f _ y h1 m;have F:=Enc.len m;have g:=Enc.len q;have e1:e.take off++f++e.drop (off+f.length)=((e.take (Enc.sz α)).take off++f++(e.take (Enc.sz α)).drop (off+f.length))++e.drop (Enc.sz α):=by
  have G:e.drop (off+f.length)=(e.take (Enc.sz α)).drop (off+f.length)++e.drop (Enc.sz α):=by have:(e.take (Enc.sz α)++e.drop (Enc.sz α)).drop (off+f.length)=(e.take (Enc.sz α)).drop (off+f.length)++e.drop (Enc.sz α):=rh (by simp;omega);rwa[gO]at this
  grind
 refine⟨?_,?_⟩;·show off+Enc.sz j<=Enc.sz α+Enc.sz β;omega
 · rw[e1];refine⟨?_,?_,?_⟩;.rw[bA,g,fg,w];omega
   .rw[il g];exact q
   .rw[qW g];exact z
theorem Upd.snd{j:Type}[Enc j]{off:Nat}{set:β->j->β}(h:Upd off set):Upd (α:=α×β) (β:=j) (Enc.sz α+off) (λp y=>(p.1,set p.2 y)):=by
 intro k f g x y u w;obtain⟨F,h1,z⟩:=u;obtain⟨E,q⟩:=h k _ g _ y z w;have e:=Enc.len h1;have e1:f.take (Enc.sz α+off)++g++f.drop (Enc.sz α+off+g.length)=f.take (Enc.sz α)++((f.drop (Enc.sz α)).take off++g++(f.drop (Enc.sz α)).drop (off+g.length)):=by rw[rp];simp[rl]
 refine⟨?_,?_⟩;.show Enc.sz α+off+Enc.sz j<=Enc.sz α+Enc.sz β;omega
 · rw[e1];have m:=Enc.len q;refine⟨?_,?_,?_⟩;.rw[bA,e,m]
   .rw[il e];exact h1
   .rw[qW e];exact q
theorem Cw{t:Nat}{b off:Nat}{x:α}{y:β}{set:α->β->α}{v:Value}(I:(P.info? t).map (·.size)=some (Enc.sz β))(J:Upd off set)(M:Box b x k)(O:IsV y v k):∃g,(storeVar t ⟨b,off,none⟩ v).run P k.w= .ok () g.w/\Gi b k g/\Box b (set x y) g:=by
 obtain⟨F,f,e,G,H⟩:=M;obtain⟨q,Q,u⟩:=ni O;obtain⟨T,j⟩:=J k _ _ _ _ H u;have z:=Enc.len H;have m:=Enc.len u;have U:=run_storeCells_at P b off e q.toList 0 f k.w G (by simp at z m⊢;omega) (Enc.one u);let E:=k.w.setRow b (f.toList.take off++q.toList++f.toList.drop (off+q.toList.length)).toArray;let g:K:=⟨E,k.sh,λi hi=>by have:=k.lt i hi;simpa[E]using this⟩;have h:Gi b k g:=⟨rfl,rfl,rfl,by simp[g,E],λi hi=>setRow_other k.w b i _ hi,rfl,aA _⟩;refine⟨g,?_,h,F,_,e,setRow_heap k.w b f _ e _ G,?_⟩
 · have V:v.cells.size=Enc.sz β:=by rw[Q];simpa using m
   simp[storeVar,run_sizeOf I];grind
 .exact Enc.mono (h.le F) (by simpa using j)
theorem I8{A:Array Oper}{i off b:Nat}{e:List Nat}{Q:Exit->Act->World->Prop}{t:TypeId}{p y:Operand}{x:α}{z:β}{set:α->β->α}(q:nth A.toList i=some o)(u:o.guard=none)(g:o.op= .store t p y)(E:o.dst=none)(F:(P.info? t).map (·.size)=some (Enc.sz β))(G:Upd off set)(H:a.eval p= .pointer (some ⟨b,off,none⟩))(I:Box b x k)(J:IsV z (a.eval y) k)(h:∀f,Gi b k f->Box b (set x z) f->wpOps P A Q e a f.w):wpOps P A Q (i::e) a k.w:=by
 obtain⟨f,M,j,m⟩:=Cw F G I J;rw[wpOps_cons];rw[aH]at q;unfold wpOp;simp[q,Region.wanted,u];refine .inl ?_;unfold Oper.wp;have O:(execOp a.eval o).run P k.w= .ok .skip f.w:=by simp[execOp,g,H];simp[Instr.storeAt,Instr.sureAddr,M]
 rw[O];have:=h f j m;simpa[Oper.upon,E,Act.put]using this
theorem dg{A:Array Oper}{i d:Nat}{f:List Nat}{Q:Exit->Act->World->Prop}{x:Operand}(m:nth A.toList i=some o)(q:o.guard=none)(e:o.op= .assign x∨o.op= .move x)(u:o.dst=some d)(g:d<a.tmps.size)(h:∀j:Act,j.tmps.size=a.tmps.size->j.defers=a.defers->j.get d=a.eval x->(∀t,t≠d->j.get t=a.get t)->wpOps P A Q f j k.w):wpOps P A Q (i::f) a k.w:=by
 rw[wpOps_cons];rw[aH]at m;unfold wpOp;simp[m,Region.wanted,q];refine .inl ?_;unfold Oper.wp;have y:(execOp a.eval o).run P k.w= .ok (.value (a.eval x)) k.w:=by rcases e with e|e<;>simp[execOp,e]
 rw[y];simp[Oper.upon_value,u];refine h _ (fG _ _ _) (ez _ _ _) ?_ ?_;.rw[dD _ _ _ _ g];simp
 .intro t z;rw[dD _ _ _ _ g,if_neg (Ne.symm z)]
theorem aj{A:Array Oper}{Q:Exit->Act->World->Prop}(h:Q .normal a k.w):wpOps P A Q [] a k.w:=h
end
section
variable{P:Program}{a a0:Act}{k k0:K}{R S:Pred}{α β:Type}[Enc α][Enc β]
theorem up[aZ R]{t:Nat}(h:R (a0.get t) k0)(hk:bE k0 k)(e:a.get t=a0.get t):R (a.get t) k:=by rw[e];exact aZ.mono hk h
theorem upE{t:Nat}{v:Value}(h:a0.get t=v)(e:a.get t=a0.get t):a.get t=v:=e.trans h
theorem keep{e:List Oper}{f:List Ent}{m:Nat}[aZ R](p:mf e f m a0 k0 a k)(t:Nat)(g:allI (λi o=>i>=m||o.dst !=some t) 0 e=true)(h:R (a0.get t) k0):R (a.get t) k:=up h p.grow (p.old t g)
theorem out{e:List Oper}{f:List Ent}{m:Nat}(p:mf e f m a0 k0 a k)(i d:Nat)(nd:List (Nat×Option Nat))(h:Nat.blt i m=true)(g:(nth e i).bind (·.dst)=some d)(j:nth f i=some ⟨some R,nd⟩):R (a.get d) k:=p.val i d R nd (by simpa using h) g j
theorem cut{c:Code}{Q:Exit->Act->World->Prop}(T:Act->K->Prop)(h1:∀g:Exit->Act->World->Prop,LetsOut g->(∀e f,T e f->g .normal e f.w)->c.wp P g a k.w)(h:LetsOut Q)(j:∀e f,T e f->Q .normal e f.w):c.wp P Q a k.w:=h1 Q h j
theorem isBool{b:Bool}{v:Value}(h:IsV b v k):v= .bool b:=aE.1 h
theorem At.sE{p:α×β}{e:Addr}{i:Nat}(h:At p (e.add i) k):At p.2 (e.add (i+Enc.sz α)) k:=by rw[<-add_add];exact h.snd
end
section
variable{P:Program}{o:Oper}{a a0:Act}{k k0:K}{R S:Pred}{α β:Type}[Enc α][Enc β]
theorem At.zero{x:α}{e:Addr}(h:At x e k):At x (e.add 0) k:=h
theorem eK{x:α}{v:Value}(h:IsV x v k):∃e:List Value,v.cells=e.toArray/\Enc.rep k e x/\e.length=Enc.sz α:=by obtain⟨e,h1,f⟩:=ni h;exact⟨e.toList,by simp[h1],f,Enc.len f⟩
theorem I7{l:List Value}(h:l.length=1):∃a,l=[a]:=pz.1 h
theorem Pv{l:List Value}(h:l.length=2):∃a b,l=[a,b]:=by match l,h with|[a,b],_=>exact⟨a,b,rfl⟩
theorem SH{l:List Value}(h:l.length=3):∃a b c,l=[a,b,c]:=by match l,h with|[a,b,c],_=>exact⟨a,b,c,rfl⟩
theorem Qr{l:List Value}(h:l.length=4):∃a b c d,l=[a,b,c,d]:=by match l,h with|[a,b,c,d],_=>exact⟨a,b,c,d,rfl⟩
theorem fF{t:TypeId}{ps:List (Nat×Operand)}{x:α}(e:o.op= .build t ps.toArray)(h:∃v,(∀w,(Instr.build t (ps.map λp=>(p.1,a.eval p.2)).toArray).run P w= .ok v w)/\IsV x v k):aX P o a k (IsV x):=by obtain⟨v,f,g⟩:=h;refine ak ?_ g;simp[execOp,e];simp[f]
theorem PA{t x b:Nat}{y:α}(e:Ty P t α)(h:a.get x= .pointer (some ⟨b,0,none⟩))(f:Box b y k):gg P a k (.cell x t) (IsV y):=by obtain⟨v,g,j⟩:=xq e f.at;exact⟨_,v,h,g,j⟩
def cw(b off:Nat):Pred:=λv _=>v= .pointer (some ⟨b,off,none⟩)
instance(b off:Nat):aW (cw b off):=⟨λ_ h=>h⟩
theorem aV{s f off b:Nat}{x:Operand}(e:o.op= .fieldAddr s x f)(g:cT P s f off)(h:a.eval x= .pointer (some ⟨b,0,none⟩)):aX P o a k (cw b off):=by
 refine ak (v:= .pointer (some ((⟨b,0,none⟩:Addr).add off))) ?_ ?_;.simp[execOp,e,h];simp[nU g]
 · unfold Addr.add;split;.rename_i h;subst h;rfl
   .simp[cw]
theorem BU{n m:Int}{w:World}:(Builtin.max2 (.int .i64 n) (.int .i64 m)).run P w= .ok (.int .i64 (max n m)) w:=by
 have e:(if m>n then m else n)=max n m:=by split<;>omega
 simp only[Builtin.max2,e];rfl
theorem Ao{n m:Int}{w:World}:(Builtin.min2 (.int .i64 n) (.int .i64 m)).run P w= .ok (.int .i64 (min n m)) w:=by
 have e:(if m<n then m else n)=min n m:=by split<;>omega
 simp only[Builtin.min2,e];rfl
section
variable{x y z:Operand}{n m l:Int}{ts:Array TypeId}
theorem Qn(j:o.op= .call {callee:= .builtin .max,args:=#[x,y],argTypes:=ts}) (h:IsV n (a.eval x) k)(f:IsV m (a.eval y) k):aX P o a k (IsV (max n m)):=by have h:=au.1 h;have f:=au.1 f;refine ak ?_ (au.2 rfl);simp[execOp,j,resolve,invoke,builtin,h,f,Builtin.max_,BU]
theorem Pd(j:o.op= .call {callee:= .builtin .min,args:=#[x,y],argTypes:=ts}) (h:IsV n (a.eval x) k)(f:IsV m (a.eval y) k):aX P o a k (IsV (min n m)):=by have h:=au.1 h;have f:=au.1 f;refine ak ?_ (au.2 rfl);simp[execOp,j,resolve,invoke,builtin,h,f,Builtin.min_,Ao]
theorem QX(q:o.op= .call {callee:= .builtin .max,args:=#[x,y,z],argTypes:=ts}) (h:IsV n (a.eval x) k)(f:IsV m (a.eval y) k)(j:IsV l (a.eval z) k):aX P o a k (IsV (max (max n m) l)):=by have h:=au.1 h;have f:=au.1 f;have j:=au.1 j;refine ak ?_ (au.2 rfl);simp[execOp,q,resolve,invoke,builtin,h,f,j,Builtin.max_,BU]
theorem P5(q:o.op= .call {callee:= .builtin .min,args:=#[x,y,z],argTypes:=ts}) (h:IsV n (a.eval x) k)(f:IsV m (a.eval y) k)(j:IsV l (a.eval z) k):aX P o a k (IsV (min (min n m) l)):=by have h:=au.1 h;have f:=au.1 f;have j:=au.1 j;refine ak ?_ (au.2 rfl);simp[execOp,q,resolve,invoke,builtin,h,f,j,Builtin.min_,Ao]
end
end
section
variable{P:Program}{o:Oper}{a a0:Act}{k k0:K}{R:Pred}{α β:Type}[Enc α]{es:List Ent}{nd nj:List (Nat×Option Nat)}{j:Nat}{m:Bool}{p:Prop}
theorem gdT[aZ R](g:o.guard=some (j,true))(e:nth es j=some ⟨some (IsV m),nj⟩)(h:m=true->∀a k,bE k0 k->lp es a0 a k nd->aX P o a k R):Ob P es a0 k0 o ⟨some (Gd (m=true) R),nd⟩:=obG g e (λv k f=>by rw[aE.1 f];simp) h
theorem gdF[aZ R](g:o.guard=some (j,false))(e:nth es j=some ⟨some (IsV m),nj⟩)(h:m=false->∀a k,bE k0 k->lp es a0 a k nd->aX P o a k R):Ob P es a0 k0 o ⟨some (Gd (m=false) R),nd⟩:=obG g e (λv k f=>by rw[aE.1 f];simp) h
theorem PJ{b:Bool}{v:Value}{k:K}(h:Gd p (IsV m) v k):v= .bool b↔p/\m=b:=by
 rcases h with⟨e,h⟩|⟨e,rfl⟩;.rw[aE.1 h];simp[e]
 .simp[e,undef]
theorem vS[aZ R](g:o.guard=some (j,true))(e:nth es j=some ⟨some (Gd p (IsV m)),nj⟩)(h:p/\m=true->∀a k,bE k0 k->lp es a0 a k nd->aX P o a k R):Ob P es a0 k0 o ⟨some (Gd (p/\m=true) R),nd⟩:=obG g e (λ_ _ f=>PJ f) h
theorem rU{c x y:Operand}{r:α}(h:o.op= .pick c x y)(e:IsV m (a.eval c) k)(f:m=true->IsV r (a.eval x) k)(g:m=false->IsV r (a.eval y) k):aX P o a k (IsV r):=by cases m with|true=>exact Kx h e rfl (f rfl);|false=>exact Lx h e rfl (g rfl)
section
variable{c x y:Operand}{r s t:α}{b:Bool}
theorem mG(f:o.op= .pick c x y)(g:IsV m (a.eval c) k)(e:(if m=true then some s else some t)=some r)(q:m=true->IsV s (a.eval x) k)(u:m=false->IsV t (a.eval y) k):aX P o a k (IsV r):=rU f g (λh=>by rw[if_pos h]at e;rw[<-ae e];exact q h) (λh=>by rw[if_neg (by rw[h];decide)]at e;rw[<-ae e];exact u h)
theorem wx(e:o.op= .pick c x y)(f:IsV m (a.eval c) k)(g:m=true->IsV b (a.eval x) k)(q:m=false->IsV false (a.eval y) k):aX P o a k (IsV (m&&b)):=rU e f (λh=>by rw[h];exact g h) (λh=>by rw[h];exact q h)
theorem yg(e:o.op= .pick c x y)(f:IsV m (a.eval c) k)(g:m=true->IsV true (a.eval x) k)(q:m=false->IsV b (a.eval y) k):aX P o a k (IsV (m||b)):=rU e f (λh=>by rw[h];exact g h) (λh=>by rw[h];exact q h)
end
theorem sv{e g:Type}[Inhabited e]{X:Option e}{f:e->Option g}{Y:Option g}{r:g}(h:(if m=true then X.bind f else Y)=some r):∃x,(m=true->X=some x)/\(if m=true then f x else Y)=some r:=by cases m with|true=>obtain⟨x,q,h⟩:=bind_some h;exact⟨x,λ _=>q,h⟩;|false=>exact⟨default,λh=>by simp at h,h⟩
theorem pb{e g:Type}[Inhabited e]{X:Option e}{f:e->Option g}{Y:Option g}{r:g}(h:(if m=true then Y else X.bind f)=some r):∃x,(m=false->X=some x)/\(if m=true then Y else f x)=some r:=by cases m with|true=>exact⟨default,λh=>by simp at h,h⟩;|false=>obtain⟨x,q,h⟩:=bind_some h;exact⟨x,λ _=>q,h⟩
theorem ve{e g:Type}[Inhabited e]{X:Option e}{f:e->Option g}{Y:Option g}{r:g}(h:p->(if m=true then X.bind f else Y)=some r):∃x,(p/\m=true->X=some x)/\(p->(if m=true then f x else Y)=some r):=by
 by_cases q:p;.obtain⟨x,h1,u⟩:=sv (h q);exact⟨x,λh=>h1 h.2,λ _=>u⟩
 .exact⟨default,λh=>absurd h.1 q,λh=>absurd h q⟩
end
def ob:Value->Option Nat| .slice (some a) _ e=>if e=0 then none else some a.block|_=>none
def dJ(P:Program)(e:TypeId)(f:Type)[Enc f]:Prop:=∃i z,P.info? e=some i/\i.zero=some z/\i.size=Enc.sz f/\z.cells.size=Enc.sz f/\0<Enc.sz f/\i.bytes<=65536
section
variable{P:Program}{o:Oper}{a a0:Act}{k k0:K}{R S:Pred}{α β:Type}[Enc α][Enc β]
def ah(B:Nat)(e:TypeId)(x:List α):Pred:=λv k=>(v= .slice none 0 0/\x=[])∨(∃a,v= .slice (some a) 0 0/\x=[])∨∃b off f u g,v= .slice (some ⟨b,off,none⟩) x.length f/\B<=b/\¬k.sh b/\k.w.heap[b]?=some (.cells u e (0,0))/\x.length<=f/\0<f/\f<=maxLen/\off+f*Enc.sz α<=u.size/\(u.toList.drop off).take (x.length*Enc.sz α)=g/\cV k g x
instance(B:Nat)(e:TypeId)(x:List α):aZ (ah B e x):=⟨λ{v k E}h r=>by
 rcases r with r|r|⟨b,off,g,u,m,e1,q,y,j,r⟩;.exact .inl r
 .exact .inr (.inl r)
 ·have f:b<k.w.heap.size:=(bO.1 j).1;exact .inr (.inr ⟨b,off,g,u,m,e1,q,λz=>y (h.new b f z),by rw[h.blk b f];exact j,r.1,r.2.1,r.2.2.1,r.2.2.2.1,r.2.2.2.2.1,r.2.2.2.2.2.mono h.le⟩)⟩
theorem gW{w:World}{b off:Nat}{u:Array Value}{e:TypeId}{f:Nat×Nat}{n:Nat}(h:w.heap[b]?=some (.cells u e f))(g:off+n<=u.size):fk w ⟨b,off,none⟩ ((u.toList.drop off).take n):=by refine⟨rfl,u,e,f,h,by simp;omega,λj m=>?_⟩;grind
theorem ye{P:Program}(w:World)(t H e:TypeId)(i:TypeInfo)(I:P.underlying t=some (.slice e))(hi:P.info? e=some i)(g off f x:Nat)(y:Array Value)(J:w.heap[g]?=some (.cells y e (0,0)))(a:Addr)(m c:Nat)(q:List Value)(M:q.length=m*i.size)(z:∀j u,q[j]?=some u->w.cell? (a.add j)=some u)(h1:∀u∈q,u.oneCell'=true)(E:f+m<=x)(F:off+f*i.size+q.length<=y.size):(Builtin.append_ #[t,t] H #[.slice (some ⟨g,off,none⟩) f x, .slice (some a) m c]).run P w=.ok (.slice (some ⟨g,off,none⟩) (f+m) x) (w.setRow g (y.toList.take (off+f*i.size)++q++y.toList.drop (off+f*i.size+q.length)).toArray):=by
 have O:=run_firstCells_some (P:=P) w i.size m a m c q M z;have G:=run_storeCells_at P g (off+f*i.size) e q 0 y w J (by simpa using F) h1;simp only[Nat.add_zero]at G;have Q:(⟨g,off,none⟩:Addr).add (f*i.size)=⟨g,off+f*i.size,none⟩:=by
  unfold Addr.add;split;.rename_i h;rw[h];simp
  .rfl
 simp[Builtin.append_,run_underlying I,sizeOf,typeInfo,hi,Builtin.lenOf,E,O,Q,G]
theorem ah.rd{B:Nat}{e:TypeId}{xs:List α}{v:Value}(h:ah B e xs v k):cM xs v k:=by
 rcases h with r|⟨j,rfl,rfl⟩|⟨b,off,f,u,x,rfl,y,z,m,g,E,F,G,q,w⟩;.exact .inl r
 .exact .inr ⟨j,0,[],rfl,aA _,rfl, .inl rfl⟩
 .subst q;exact .inr ⟨_,f,_,rfl,g,w, .inr (gW m (by have:=ep (Enc.sz α) g;omega))⟩
theorem ah.lt{B:Nat}{e:TypeId}{x:List α}{v:Value}(h:ah B e x v k):∀b,ob v=some b->B<=b/\b<k.w.heap.size/\¬k.sh b:=by
 intro b f;rcases h with⟨rfl,_⟩|⟨j,rfl,rfl⟩|⟨m,off,g,u,q,rfl,y,z,E,r⟩;.simp[ob]at f
 .simp[ob]at f
 .simp[ob]at f;grind
theorem ah.share{B:Nat}{e:TypeId}{x:List α}{v:Value}(h:ah B e x v k)(j:bE k0 k)(I:k0.w.heap.size<=B):∃g:K,g.w=k.w/\Le k g/\bE k0 g/\IsV x v g/\∀b,g.sh b->k.sh b∨ob v=some b:=by
 rcases h with r|⟨y,rfl,rfl⟩|⟨b,off,m,z,J,rfl,E,M,q,u,F,O,Q,G,H⟩;.exact⟨k,rfl,Le.refl k,j,eC.2 (.inl r),λb h=> .inl h⟩
 .exact⟨k,rfl,Le.refl k,j,eC.2 (.inr (.inl ⟨y,rfl,rfl⟩)),λb h=> .inl h⟩
 · have f:b<k.w.heap.size:=(bO.1 q).1;subst G;refine⟨k.share b f,rfl,K.sk k b f,j.share f (by omega),eC.2 (.inr (.inr ⟨_,m,_,rfl,u, .inr rfl,H.mono (K.sk k b f),?_⟩)),?_⟩;.exact gW q (by have:=ep (Enc.sz α) u;omega)
   · intro i hi;rcases hi with hi|rfl;.exact .inl hi
     .exact .inr (by simp[ob,fW F])
def eb{e:Type}(x y:List e):Option (List e):=if x.length+y.length<=1073741824 then some (x++y)else none
structure Grown(k k':K)(r:Option Nat):Prop where
 tape:k'.w.tape=k.w.tape
 os:k'.w.os=k.w.os
 out:k'.w.output=k.w.output
 size:k.w.heap.size<=k'.w.heap.size
 blk:∀i,i<k.w.heap.size->some i≠r->k'.w.heap[i]?=k.w.heap[i]?sh:k'.sh=k.sh
 drawn:k.w.drawn<=k'.w.drawn
theorem bE.grown{r:Option Nat}{f:K}(h:bE k0 k)(g:Grown k f r)(m:∀b,r=some b->k0.w.heap.size<=b):bE k0 f:=⟨g.tape.trans h.tape,g.os.trans h.os,g.out.trans h.out,bB h.size g.size,λi hi=>(g.blk i (gk hi h.size) (λe=>by have:=m i e.symm;omega)).trans (h.blk i hi),λi hi=>by rw[g.sh];exact h.up i hi,λi hi j=>h.new i hi (by rw[g.sh]at j;exact j),bB h.drawn g.drawn⟩
theorem Grown.grow{e:K}(g:Grown k e none):bE k e:=(bE.refl k).grown g (λ_ h=>by simp at h)
theorem zj(t f:TypeId)(h:∃e,P.underlying t=some (.slice e)/\(P.info? e).isSome=true)(v y:Value)(w:World)(g:∃b n c,v= .slice b n c/\n<=c)(j:∃b c,y= .slice b 0 c):(Builtin.append_ #[t,t] f #[v,y]).run P w= .ok v w:=by obtain⟨e,h,hi⟩:=h;obtain⟨i,hi⟩:=yr.1 hi;obtain⟨b,n,c,rfl,m⟩:=g;obtain⟨q,u,rfl⟩:=j;cases b<;>cases q<;>simp[Builtin.append_,run_underlying h,sizeOf,typeInfo,hi,Builtin.lenOf,m,Builtin.firstCells,loadCells,loadCellsFrom,storeCells]
theorem sD{t ty e:TypeId}{B:Nat}{x m zs:List α}{v y:Value}(hu:P.underlying t=some (.slice e))(he:dJ P e α)(hB:B<=k.w.heap.size)(hv:ah B e x v k)(hy:cM m y k)(hz:eb x m=some zs):∃v' q,(Builtin.append_ #[t,t] ty #[v,y]).run P k.w= .ok v' q.w/\Grown k q (ob v)/\ah B e zs v' q/\(∀b,ob v'=some b->ob v=some b∨k.w.heap.size<=b):=by
 obtain⟨U,rfl⟩:=lh hz;obtain⟨i,z,hi,hiz,hsz,hzs,hpos,hby⟩:=he;have W:Grown k k (ob v):=⟨rfl,rfl,rfl,aA _,λ _ _ _=>rfl,rfl,aA _⟩;by_cases hm:m=[]
 · subst hm;have hvs:∃b n c,v= .slice b n c/\n<=c:=by
    rcases hv with⟨rfl,_⟩|⟨ad,rfl,_⟩|⟨b,off,E,G,cs,rfl,_,_,_,hc,_⟩;.exact⟨_,_,_,rfl,aA _⟩
    .exact⟨_,_,_,rfl,aA _⟩
    .exact⟨_,_,_,rfl,hc⟩
   have hys:∃b c,y= .slice b 0 c:=by
    rcases hy with⟨rfl,_⟩|⟨ad,E,cs,rfl,_⟩;.exact⟨_,_,rfl⟩
    .exact⟨_,_,rfl⟩
   exact⟨v,k,zj t ty ⟨e,hu,by simp[hi]⟩ v y k.w hvs hys,W,by rw[mn];exact hv,λb h=> .inl h⟩
 .rcases hy with⟨_,rfl⟩|⟨ad,c,f,rfl,hyc,hyr,hya⟩;.exact absurd rfl hm
  have hya:=hya.resolve_left hm;have hyl:=hyr.len;have hpl:0<m.length:=List.length_pos_iff.2 hm;have H:∀j u,f[j]?=some u->k.w.cell? (ad.add j)=some u:=hya.cell;have h1:∀u∈f,u.oneCell'=true:=hyr.one;have hl:f.length=m.length*i.size:=by rw[hsz];exact hyl
  have made:∀(J:Nat)(M:List Value),J<x.length+m.length->cV k M x->let w':=k.w.drew.alloc (.cells (M.toArray++f.toArray++Builtin.zeroCells z.cells (grownCap k.w (x.length+m.length) J e-(x.length+m.length))) e)
  ∃q:K,q.w=w'/\Grown k q (ob v)/\ah B e (x++m) (.slice (some ⟨k.w.heap.size,0,none⟩) (x.length+m.length) (grownCap k.w (x.length+m.length) J e)) q:=by
   intro J M hold hr;have hge:=grownCap_ge k.w (x.length+m.length) J e;have hcm:grownCap k.w (x.length+m.length) J e<=maxLen:=grownCap_le_maxLen k.w _ J e (by unfold maxLen;omega);generalize hcap:grownCap k.w (x.length+m.length) J e=E at hge hcm;intro w';let q:K:=⟨w',k.sh,λb I=>by have:=k.lt b I;simp[w'];omega⟩;have hblk:∀b,b<k.w.heap.size->w'.heap[b]?=k.w.heap[b]?:=λb I=>(World.grownBy_alloc k.w.drew _ none).block b I (by simp);have hle:Le k q:=⟨λb I=>hblk b (k.lt b I),λb I=>I⟩;have hol:=hr.len;refine⟨q,rfl,⟨rfl,rfl,rfl,by simp[q,w'],λb I _=>hblk b I,rfl,gN _⟩, .inr (.inr ⟨k.w.heap.size,0,E,_,_,by rw[bA],hB,λhs=>fC _ (k.lt _ hs),heap_alloc_new k.w.drew _,by rw[bA];exact hge,by omega,hcm,?_,rfl,?_⟩)⟩
   · have e1:M.length+f.length=(x.length+m.length)*Enc.sz α:=by rw[hol,hyl,dM]
     simp only[vi,kn,size_zeroCells,hzs];rw[e1,<-dM,bw];exact ep _ (by omega)
   · have e1:(x++m).length*Enc.sz α=(M++f).length:=by rw[bA,bA,hol,hyl,dM]
     rw[e1];simp only[Array.toList_append,rI];rw[vk];exact(hr.append hyr).mono hle
  rcases hv with⟨rfl,rfl⟩|⟨ad0,rfl,rfl⟩|⟨b,off,E,G,cs,rfl,hBb,ho,hh,hc,h0,hmx,hcs,V,hr⟩;·have g:=run_append_nil (P:=P) k.w t ty e i z hu hi hiz ad m.length c f hl H hpl (by omega) (by have:m.length*i.bytes<=1073741824*65536:=mw (by simp only[iC]at U;omega) hby;omega);obtain⟨q,Q,hg,F⟩:=made 0 [] (by simp;omega) rfl;simp only[iC,bw,ko,Array.empty_append]at Q F;exact⟨_,q,by rw[Q];exact g,hg,by simpa using F,λb I=> .inr (by
 simp only[ob]at I;split at I;.simp at I
 .simp at I;omega)⟩
  ·have g:=run_append_grow (P:=P) k.w t ty e i z hu hi hiz ad0 0 0 [] (by simp) (by simp) ad m.length c f hl H (by omega) (by simp only[iC]at U;omega) (growslice_fits (by omega) (by have:(0+m.length)*i.bytes<=1073741824*65536:=mw (by simp only[iC]at U;omega) hby;omega));obtain⟨q,Q,hg,F⟩:=made 0 [] (by simp;omega) rfl;simp only[iC,bw,ko,Array.empty_append]at Q F g;exact⟨_,q,by rw[Q];exact g,hg,by simpa using F,λb I=> .inr (by
 simp only[ob]at I;split at I;.simp at I
 .simp at I;omega)⟩
  .have hcl:=hr.len;by_cases T:x.length+m.length<=E
   · have hmul:x.length*Enc.sz α+f.length<=E*Enc.sz α:=by rw[hyl,<-dM];exact ep _ T
     have hfit:off+x.length*i.size+f.length<=G.size:=by rw[hsz];omega
     have g:=ye (P:=P) k.w t ty e i hu hi b off x.length E G hh ad m.length c f hl H h1 T hfit;rw[hsz]at g hfit;let q:K:=⟨_,k.sh,λj O=>by have:=k.lt j O;show j<(k.w.setRow b (G.toList.take (off+x.length*Enc.sz α)++f++G.toList.drop (off+x.length*Enc.sz α+f.length)).toArray).heap.size;simpa using this⟩;have hblk:∀j,j≠b->q.w.heap[j]?=k.w.heap[j]?:=λj O=>setRow_other k.w b j _ O;have hg:Grown k q (ob (.slice (some ⟨b,off,none⟩) x.length E)):=⟨rfl,rfl,rfl,by simp[q],λj _ O=>hblk j (λe=>O (by simp[ob,fW h0,e])),rfl,aA _⟩;have hle:Le k q:=⟨λj O=>hblk j (λe=>ho (e▸O)),λj O=>O⟩;refine⟨_,q,g,hg, .inr (.inr ⟨b,off,E,_,_,by rw[bA],hBb,ho,setRow_heap k.w b G _ e _ hh,by rw[bA];exact T,h0,hmx,?_,rfl,?_⟩),λj O=> .inl (by simp only[ob]at O⊢;exact O)⟩;·simp only[kn,bA,dY,fg,iE];omega
     · have e1:(x++m).length*Enc.sz α=(cs++f).length:=by rw[bA,bA,hcl,hyl,dM]
       have e2:(G.toList.take (off+x.length*Enc.sz α)++f++G.toList.drop (off+x.length*Enc.sz α+f.length)).drop off=cs++f++G.toList.drop (off+x.length*Enc.sz α+f.length):=by rw[dm,rh (by simp;omega),om,r6,V,dm]
       rw[e1,List.toList_toArray,e2,vk];exact(hr.append hyr).mono hle
   · have holds:∀j u,cs[j]?=some u->k.w.cell? ((⟨b,off,none⟩:Addr).add j)=some u:=by have:=gW (n:=x.length*Enc.sz α) (off:=off) hh (by have:=ep (Enc.sz α) hc;omega);rw[V]at this;exact this.cell
     have g:=run_append_grow (P:=P) k.w t ty e i z hu hi hiz ⟨b,off,none⟩ x.length E cs (by rw[hsz];exact hcl) holds ad m.length c f hl H (by omega) (by omega) (growslice_fits (by omega) (by have:(x.length+m.length)*i.bytes<=1073741824*65536:=mw U hby;omega));obtain⟨q,Q,hg,F⟩:=made E cs (by omega) hr;exact⟨_,q,by rw[Q];exact g,hg,F,λj O=> .inr (by
 simp only[ob]at O;split at O;.simp at O
 .simp at O;omega)⟩
theorem tail_append{A:Array Oper}{i d:Nat}{f:List Nat}{Q:Exit->Act->World->Prop}{t e:TypeId}{x y:Operand}{B:Nat}{I J M:List α}(O:nth A.toList i=some o)(E:o.guard=none)(F:o.op= .call {callee:= .builtin .append,args:=#[x,y],argTypes:=#[t,t]})(U:o.dst=some d)(q:d<a.tmps.size)(V:P.underlying t=some (.slice e))(W:dJ P e α)(hB:B<=k.w.heap.size)(hv:ah B e I (a.eval x) k)(hy:cM J (a.eval y) k)(hz:eb I J=some M)(h:∀(j:Act)(m:K),j.tmps.size=a.tmps.size->j.defers=a.defers->(∀t,t≠d->j.get t=a.get t)->Grown k m (ob (a.eval x))->ah B e M (j.get d) m->(∀b,ob (j.get d)=some b->ob (a.eval x)=some b∨k.w.heap.size<=b)->wpOps P A Q f j m.w):wpOps P A Q (i::f) a k.w:=by
 obtain⟨G,m,hr,hg,u,H⟩:=sD (ty:=o.type) V W hB hv hy hz;rw[wpOps_cons];rw[aH]at O;unfold wpOp;simp[O,Region.wanted,E];refine .inl ?_;unfold Oper.wp;have hx:(execOp a.eval o).run P k.w= .ok (.value G) m.w:=by simp[execOp,F,resolve,invoke,builtin,hr]
 rw[hx];simp[Oper.upon_value,U];have g:(a.put (some d) G).get d=G:=by rw[dD _ _ _ _ q];simp
 refine h _ m (fG _ _ _) (ez _ _ _) ?_ hg (by rw[g];exact u) (by rw[g];exact H);intro t ht;rw[dD _ _ _ _ q,if_neg (Ne.symm ht)]
theorem ah.weaken{B g:Nat}{e:TypeId}{x:List α}{v:Value}(h:ah B e x v k)(q:g<=B):ah g e x v k:=by
 rcases h with r|r|⟨b,off,f,u,j,e1,m,r⟩;.exact .inl r
 .exact .inr (.inl r)
 .exact .inr (.inr ⟨b,off,f,u,j,e1,by omega,r⟩)
def ij:Pred:=λv _=>v= .slice none 0 0∨∃e,v= .slice (some e) 0 0
instance:aW ij:=⟨λ_ h=>h⟩
theorem ij.own{B:Nat}{e:TypeId}{v:Value}(h:ij v k):ah (α:=α) B e [] v k:=by
 rcases h with rfl|⟨f,rfl⟩;.exact .inl ⟨rfl,rfl⟩
 .exact .inr (.inl ⟨f,rfl,rfl⟩)
theorem ij.ob{v:Value}(h:ij v k):ob v=none:=by rcases h with rfl|⟨e,rfl⟩<;>simp[Gb.ob]
theorem sC{t e:TypeId}{x y:Operand}{B:Nat}{j z:List α}(E:o.op= .call {callee:= .builtin .append,args:=#[x,y],argTypes:=#[t,t]}) (F:P.underlying t=some (.slice e))(G:dJ P e α)(H:B<=k.w.heap.size)(m:ij (a.eval x) k) (I:cM j (a.eval y) k)(J:eb [] j=some z):aX P o a k (ah B e z):=by obtain⟨Q,k',M,u,h,O⟩:=sD (ty:=o.type) F G (aA _) m.own I J;rw[m.ob]at u;refine eS (k':=k') ?_ u.grow (h.weaken H);simp[execOp,E,resolve,invoke,builtin,M]
theorem Fa{t e:TypeId}{x y:Operand}{q z:List α}(E:o.op= .call {callee:= .builtin .append,args:=#[x,y],argTypes:=#[t,t]}) (F:P.underlying t=some (.slice e))(G:dJ P e α)(u:ij (a.eval x) k)(H:cM q (a.eval y) k)(I:eb [] q=some z):aX P o a k (IsV z):=by obtain⟨U,k',M,w,h,O⟩:=sD (ty:=o.type) F G (aA _) u.own H I;rw[u.ob]at w;obtain⟨Q,T,_,j,m,_⟩:=h.share w.grow (aA _);refine eS (k':=Q) ?_ j m;simp[execOp,E,resolve,invoke,builtin,M,T]
def zA(a:Act)(k:K):Nat->List (Nat×Operand)->List α->Prop|_,[],[]=>True|i,p::e,x::f=>p.1=i/\IsV x (a.eval p.2) k/\zA a k (i+1) e f|_,_,_=>False
theorem q8(m:List Value):∀(h:List Value)(off j:Nat)(g f:List Value),g.length=off+j->m.length=m.length->h.length<=f.length->((h.zipIdx j).foldl (λ(q:Array Value)(p:Value×Nat)=>q.setIfInBounds (off+p.2) p.1) (g++f).toArray)=(g++h++f.drop h.length).toArray|[],off,j,g,f,_,_,_=>by simp;|v::h,off,j,g,f,x,_,u=>by cases f with|nil=>simp at u;|cons p f=>
 simp only[List.zipIdx_cons,iw];have e:(g++p::f).toArray.setIfInBounds (off+j) v=((g++[v])++f).toArray:=by simp_all
 rw[e,q8 m h off (j+1) (g++[v]) f (by simp;omega) rfl (by simpa using u)];simp
theorem wh{z:List Value}(E:z.length=Enc.sz α):∀(m:List (Nat×Operand))(j:List α)(i:Nat)(f:List Value),zA a k i m j->f.length=i*Enc.sz α->∃q,cV k q j/\∀e:List Value,e.length=j.length*Enc.sz α->Instr.fill (λi=>some (i*Enc.sz α,Enc.sz α)) (f++e).toArray (m.map λp=>(p.1,a.eval p.2))=some (f++q).toArray|[],[],i,f,_,u=>⟨[],rfl,λe h=>by simp at h;subst h;simp[Instr.fill]⟩|p::m,x::j,i,f,h,u=>by obtain⟨h1,F,G⟩:=h;obtain⟨c,J,H,I⟩:=eK F;obtain⟨q,w,M⟩:=wh E m j (i+1) (f++c) G (by simp[u,I,dM]);refine⟨c++q,cV.cons H w,λe g=>?_⟩;simp only[cf,Instr.fill];simp[dM]at g;have y:=q8 c c (p.1*Enc.sz α) 0 f e (by rw[h1,u];simp) rfl (by omega);grind
theorem qi{t e n:Nat}{g:List (Nat×Operand)}{x:List α}(J:P.underlying t=some (.slice e))(M:dJ P e α)(O:n=x.length)(G:0<n)(H:n*Enc.sz α<=16777216)(h:zA a k 0 g x):∃v j,(Instr.buildSlice t n (g.map λp=>(p.1,a.eval p.2)).toArray).run P k.w= .ok v j.w/\bE k j/\ah k.w.heap.size e x v j:=by
 obtain⟨i,z,hi,m,q,u,f,Q⟩:=M;subst O;obtain⟨y,E,I⟩:=wh (z:=z.cells.toList) (by simpa using u) g x 0 [] h (by simp);simp[ko]at I;refine⟨.slice (some ⟨k.w.heap.size,0,none⟩) x.length x.length,k.alloc (.cells y.toArray e),?_,K.dT k _, .inr (.inr ⟨k.w.heap.size,0,x.length,y.toArray,y,rfl,aA _,λT=>fC _ (k.lt _ T),heap_alloc_new k.w _,aA _,G,?_,?_,?_,E.mono (K.dT k _).le⟩)⟩
 · have U:x.length*Enc.sz α≠0:=Nat.pos_iff_ne_zero.1 (Nat.mul_pos G f);have F:¬(x.length*Enc.sz α>2^24):=by omega
   simp[Instr.buildSlice,run_underlying J,run_sizeOf (show(P.info? e).map (·.size)=some (Enc.sz α)by simp[hi,q])];simp[F,zeroValue,typeInfo,hi,m,I];rfl
 .have:x.length*1<=x.length*Enc.sz α:=Nat.mul_le_mul_left _ f;unfold maxLen;omega
 .have:=E.len;simp;omega
 .rw[<-E.len];simp
end
section
variable{P:Program}{o:Oper}{a a0:Act}{k k0:K}{R S:Pred}{α β:Type}[Enc α][Enc β]
theorem pE{t e n:Nat}{B:Nat}{ps:List (Nat×Operand)}{x:List α}(g:o.op= .buildSlice t n ps.toArray)(u:P.underlying t=some (.slice e))(j:dJ P e α)(q:B<=k.w.heap.size)(y:n=x.length)(z:0<n)(m:n*Enc.sz α<=16777216)(h:zA a k 0 ps x):aX P o a k (ah B e x):=by obtain⟨v,k',E,F,G⟩:=qi u j y z m h;refine eS (k':=k') ?_ F (G.weaken q);simp[execOp,g];simp[E]
theorem dL{t e n:Nat}{j:List (Nat×Operand)}{x:List α}(q:o.op= .buildSlice t n j.toArray)(u:P.underlying t=some (.slice e))(w:dJ P e α)(y:n=x.length)(z:0<n)(m:n*Enc.sz α<=16777216)(h:zA a k 0 j x):aX P o a k (IsV x):=by obtain⟨v,k',F,G,H⟩:=qi u w y z m h;obtain⟨I,J,_,g,f,_⟩:=H.share G (aA _);refine eS (k':=I) ?_ g f;simp[execOp,q];simp[F,J]
theorem mz{t e:Nat}(g:o.op= .buildSlice t 0 #[])(u:P.underlying t=some (.slice e))(j:dJ P e α):aX P o a k ij:=by obtain⟨i,z,hi,m,q,x,f,y⟩:=j;refine eS (v:= .slice (some ⟨k.w.heap.size,0,none⟩) 0 0) (k':=k.alloc (.cells #[] e)) ?_ (K.dT k _) (.inr ⟨_,rfl⟩);have h:(Array.range 0).map (λ _=>(default:Value))=#[]:=Array.eq_empty_of_size_eq_zero (by simp);simp[execOp,g];simp[Instr.buildSlice,run_underlying u,sizeOf,typeInfo,hi,h];rfl
theorem je:ij (.slice none 0 0) k:= .inl rfl
theorem ij.isV{v:Value}(h:ij v k):IsV ([]:List α) v k:=by
 rcases h with rfl|⟨e,rfl⟩;.exact eC.2 (.inl ⟨rfl,rfl⟩)
 .exact eC.2 (.inr (.inl ⟨e,rfl,rfl⟩))
def ic{e:Type}(x:List e)(lo hi:Int):Option (List e):=if 0<=lo/\lo<=hi/\hi<=x.length then some ((x.take hi.toNat).drop lo.toNat)else none
theorem run_sliceBound{i:Int}{y:Nat}{c:BoundsCode}{w:World}(h:0<=i)(h1:i<=y):(Instr.sliceBound (.int .i64 i) y c).run P w= .ok i.toNat w:=by simp[Instr.sliceBound,asIntOf,h,h1]
theorem yO{t e:TypeId}{v:Value}{x O:List α}{lo hi:Int}(j m:Option Value)(H:j=some (.int .i64 lo)∨(j=none/\lo=0))(I:m=some (.int .i64 hi)∨(m=none/\hi=x.length))(G:P.underlying t=some (.slice e))(ht:(P.info? e).map (·.size)=some (Enc.sz α))(hv:IsV x v k)(h:ic x lo hi=some O):∃Q,(Instr.sliceAt t v j m none).run P k.w= .ok Q k.w/\IsV O Q k:=by
 obtain⟨⟨T,h1,U⟩,rfl⟩:=lh h;have z:∀w,(sizeOf e).run P w= .ok (Enc.sz α) w:=λw=>run_sizeOf ht;have g:((x.take hi.toNat).drop lo.toNat).length=hi.toNat-lo.toNat:=by simp;omega
 have J:∀(len f:Nat)(w:World),len=x.length->len<=f->(Instr.sliceBounds true len f j m none).run P w= .ok (lo.toNat,hi.toNat,f) w:=by
  intro len f w hl V;subst hl;have W:=run_sliceBound (P:=P) (i:=hi) (y:=f) (c:= .sliceAcap) (w:=w) (by omega) (by omega);have b2:=run_sliceBound (P:=P) (i:=lo) (y:=hi.toNat) (c:= .sliceB) (w:=w) T (by omega);rcases H with rfl|⟨rfl,rfl⟩<;>rcases I with rfl|⟨rfl,rfl⟩;.simp[Instr.sliceBounds,W,b2]
  ·have b3:=run_sliceBound (P:=P) (i:=lo) (y:=x.length) (c:= .sliceB) (w:=w) T (by omega);simp[Instr.sliceBounds,b3]
  .simp[Instr.sliceBounds,W]
  .simp[Instr.sliceBounds]
 rcases eC.1 hv with⟨rfl,rfl⟩|⟨u,rfl,rfl⟩|⟨u,f,cs,rfl,V,hs,hr,ha⟩
 · simp only[iC,vd]at U;have e1:lo.toNat=0:=by omega
   have M:hi.toNat=0:=by omega
   have:=J 0 0 k.w rfl (aA _);refine⟨.slice none 0 0,?_,eC.2 (.inl ⟨rfl,by simp⟩)⟩;simp[Instr.sliceAt,Instr.slice,run_underlying G,this,z,e1,M]
 · simp only[iC,vd]at U;have e1:lo.toNat=0:=by omega
   have M:hi.toNat=0:=by omega
   have:=J 0 0 k.w rfl (aA _);refine⟨.slice (some u) 0 0,?_,eC.2 (.inr (.inl ⟨u,rfl,by simp⟩))⟩;simp[Instr.sliceAt,Instr.slice,run_underlying G,this,z,e1,M]
 · have E:=J x.length f k.w rfl V;by_cases q:f=lo.toNat
   · have F:(x.take hi.toNat).drop lo.toNat=[]:=iA (by rw[g];omega);refine⟨.slice (some u) 0 0,?_,eC.2 (.inr (.inl ⟨u,rfl,F⟩))⟩;have e3:hi.toNat-f=0:=by omega
     simp[Instr.sliceAt,Instr.slice,run_underlying G,E,z,<-q,e3]
   · refine⟨.slice (some (u.add (lo.toNat*Enc.sz α))) (hi.toNat-lo.toNat) (f-lo.toNat),?_,eC.2 (.inr (.inr ⟨_,f-lo.toNat,(cs.take (hi.toNat*Enc.sz α)).drop (lo.toNat*Enc.sz α),by rw[g],by rw[g];omega,by rw[vQ];exact hs,cV.drop _ (cV.take _ hr),?_⟩))⟩;.simp[Instr.sliceAt,Instr.slice,run_underlying G,E,z,q]
     · have q:=hr.len;have hm1:hi.toNat*Enc.sz α<=cs.length:=by rw[q];exact ep _ (by omega)
       have hm2:lo.toNat*Enc.sz α<=hi.toNat*Enc.sz α:=ep _ (by omega);have:=ha.sub (lo.toNat*Enc.sz α) (hi.toNat*Enc.sz α-lo.toNat*Enc.sz α) (by omega);rwa[<-om]at this
section
variable{t e:TypeId}{x y z:Operand}{xs ys:List α}{lo hi:Int}
theorem ok_slice(j:o.op= .slice t x (some y) (some z) none)(u:P.underlying t=some (.slice e))(m:(P.info? e).map (·.size)=some (Enc.sz α))(q:IsV xs (a.eval x) k)(f:IsV lo (a.eval y) k)(g:IsV hi (a.eval z) k)(h:ic xs lo hi=some ys):aX P o a k (IsV ys):=by have f:=au.1 f;have g:=au.1 g;obtain⟨v,w,E⟩:=yO (some (.int .i64 lo)) (some (.int .i64 hi)) (.inl rfl) (.inl rfl) u m q h;refine ak ?_ E;simp[execOp,j,f,g,w]
theorem Ho(g:o.op= .slice t x (some y) none none)(u:P.underlying t=some (.slice e))(j:(P.info? e).map (·.size)=some (Enc.sz α))(m:IsV xs (a.eval x) k)(f:IsV lo (a.eval y) k)(h:ic xs lo xs.length=some ys):aX P o a k (IsV ys):=by have f:=au.1 f;obtain⟨v,q,w⟩:=yO (some (.int .i64 lo)) none (.inl rfl) (.inr ⟨rfl,rfl⟩) u j m h;refine ak ?_ w;simp[execOp,g,f,q]
theorem Gc(g:o.op= .slice t x none (some z) none)(u:P.underlying t=some (.slice e))(j:(P.info? e).map (·.size)=some (Enc.sz α))(m:IsV xs (a.eval x) k)(f:IsV hi (a.eval z) k)(h:ic xs 0 hi=some ys):aX P o a k (IsV ys):=by have f:=au.1 f;obtain⟨v,q,w⟩:=yO none (some (.int .i64 hi)) (.inr ⟨rfl,rfl⟩) (.inl rfl) u j m h;refine ak ?_ w;simp[execOp,g,f,q]
end
def bC(u:Value)(B:Nat)(e:TypeId)(xs:List α):Pred:=λv k=>v=u/\ah B e xs v k
instance(u:Value)(B:Nat)(e:TypeId)(xs:List α):aZ (bC u B e xs):=⟨λh⟨e,r⟩=>⟨e,aZ.mono h r⟩⟩
def s5(u:Value)(off:Nat):Pred:=λv _=>∃b f n c,u= .slice (some ⟨b,f,none⟩) n c/\v= .pointer (some ⟨b,f+off,none⟩)
instance(u:Value)(off:Nat):aW (s5 u off):=⟨λ_ h=>h⟩
theorem DM{t e:TypeId}{x y:Operand}{B:Nat}{u:Value}{xs:List α}{i:Int}{z:α}(w:o.op= .indexAddr t x y)(E:P.underlying t=some (.slice e))(F:Ty P e α)(f:bC u B e xs (a.eval x) k)(g:IsV i (a.eval y) k)(h:aL xs i=some z):aX P o a k (s5 u (i.toNat*Enc.sz α)):=by
 obtain⟨G,q,I,j⟩:=nn h;have g:=au.1 g;obtain⟨rfl,f⟩:=f;rcases f with⟨e1,rfl⟩|⟨J,e1,rfl⟩|⟨b,off,m,H,M,e1,_⟩;.simp at q
 .simp at q
 · refine ak (v:= .pointer (some ((⟨b,off,none⟩:Addr).add (i.toNat*Enc.sz α)))) ?_ ⟨b,off,xs.length,m,e1,?_⟩;.simp[execOp,w,g,e1];simp[Instr.indexAt,asIntOf,run_underlying E,run_sizeOf F.2,G,j]
   · unfold Addr.add;split;.rename_i h;rw[h];rfl
     .rfl
theorem D8{s f off n:Nat}{u:Value}{x:Operand}(j:o.op= .fieldAddr s x f)(q:cT P s f off)(h:s5 u n (a.eval x) k):aX P o a k (s5 u (n+off)):=by
 obtain⟨b,g,m,c,e1,w⟩:=h;refine ak (v:= .pointer (some ((⟨b,g+n,none⟩:Addr).add off))) ?_ ⟨b,g,m,c,e1,?_⟩;.simp[execOp,j,w];simp[nU q]
 .unfold Addr.add;grind
theorem cV.set{f g:List Value}{xs:List α}{i off:Nat}{x:α}{y:β}{set:α->β->α}(E:Upd off set)(h:cV k f xs)(hi:xs[i]?=some x)(u:Enc.rep k g y):cV k (f.take (i*Enc.sz α+off)++g++f.drop (i*Enc.sz α+off+g.length)) (xs.set i (set x y))/\off+Enc.sz β<=Enc.sz α/\i*Enc.sz α+Enc.sz α<=f.length:=by
 obtain⟨F,m⟩:=h.get hi;obtain⟨j,w⟩:=E k _ _ _ _ F u;have G:=Enc.len u;refine⟨?_,j,m⟩;obtain⟨q,_⟩:=kr.1 hi;have h1:=cV.take i h;have H:=cV.drop (i+1) h;rw[r8,if_pos q];have e:f.take (i*Enc.sz α+off)++g++f.drop (i*Enc.sz α+off+g.length)=f.take (i*Enc.sz α)++((((f.drop (i*Enc.sz α)).take (Enc.sz α)).take off++g++((f.drop (i*Enc.sz α)).take (Enc.sz α)).drop (off+g.length))++f.drop ((i+1)*Enc.sz α)):=by
  have e1:f.take (i*Enc.sz α+off)=f.take (i*Enc.sz α)++((f.drop (i*Enc.sz α)).take (Enc.sz α)).take off:=by rw[rp,mj,mb (by omega)]
  have I:f.drop (i*Enc.sz α+off+g.length)=((f.drop (i*Enc.sz α)).take (Enc.sz α)).drop (off+g.length)++f.drop ((i+1)*Enc.sz α):=by
   have J:f.drop ((i+1)*Enc.sz α)=(f.drop (i*Enc.sz α)).drop (Enc.sz α):=by rw[iz,dM,Nat.one_mul]
   have M:(f.drop (i*Enc.sz α)).drop (off+g.length)=((f.drop (i*Enc.sz α)).take (Enc.sz α)++(f.drop (i*Enc.sz α)).drop (Enc.sz α)).drop (off+g.length):=by rw[gO]
   rw[J,rl,<-iz,M];exact rh (by simp;omega)
  rw[e1,I];simp
 rw[e];exact h1.append (cV.cons w H)
theorem GL{A:Array Oper}{i m off B:Nat}{e:TypeId}{I:List Nat}{Q:Exit->Act->World->Prop}{t:TypeId}{p y:Operand}{u:Value}{xs:List α}{x:α}{z:β}{set:α->β->α}(ho:nth A.toList i=some o)(hg:o.guard=none)(U:o.op= .store t p y)(hd:o.dst=none)(hs:(P.info? t).map (·.size)=some (Enc.sz β))(hu:Upd off set)(hp:s5 u (m*Enc.sz α+off) (a.eval p) k)(hb:ah B e xs u k)(V:xs[m]?=some x)(hv:IsV z (a.eval y) k)(h:∀(b:Nat)(q:K),ob u=some b->Gi b k q->ah B e (xs.set m (set x z)) u q->wpOps P A Q I a q.w):wpOps P A Q (i::I) a k.w:=by
 obtain⟨b,E,n,c,rfl,e2⟩:=hp;rcases hb with⟨e1,rfl⟩|⟨ad,e1,rfl⟩|⟨b',off,cap,f,cs,e1,hB,J,hh,hc,h0,W,hcs,F,hr⟩;.simp at V
 .simp at V
 · simp only[Value.slice.injEq,aU,Addr.mk.injEq,and_true]at e1;obtain⟨⟨rfl,rfl⟩,rfl,rfl⟩:=e1;obtain⟨G,M,hz⟩:=ni hv;obtain⟨O,hoff,hle⟩:=cV.set hu hr V hz;have H:=Enc.len hz;have hclen:=hr.len;have hcur:E+xs.length*Enc.sz α<=f.size:=by have:=ep (Enc.sz α) hc;omega
   have T:=run_storeCells_at P b (E+(m*Enc.sz α+off)) e G.toList 0 f k.w hh (by simp at H⊢;omega) (Enc.one hz);simp only[Nat.add_zero]at T;let q:K:=⟨_,k.sh,λj hj=>by have:=k.lt j hj;show j<(k.w.setRow b (f.toList.take (E+(m*Enc.sz α+off))++G.toList++f.toList.drop (E+(m*Enc.sz α+off)+G.toList.length)).toArray).heap.size;simpa using this⟩;have g:Gi b k q:=⟨rfl,rfl,rfl,by simp[q],λj hj=>setRow_other k.w b j _ hj,rfl,aA _⟩;rw[wpOps_cons];rw[aH]at ho;unfold wpOp;simp only[ho,Region.wanted,hg,if_true];refine .inl ?_;unfold Oper.wp;have hx:(execOp a.eval o).run P k.w= .ok .skip q.w:=by
    have hsz:(a.eval y).cells.size=Enc.sz β:=by rw[M];simpa using H
    have hsv:(storeVar t ⟨b,E+(m*Enc.sz α+off),none⟩ (a.eval y)).run P k.w= .ok () q.w:=by simp only[storeVar,Sem.run_bind,run_sizeOf hs,Result.andThen_ok];rw[if_neg (by simp[hsz])];simp only[M];exact T
    simp only[execOp,U,e2];simp[Instr.storeAt,Instr.sureAddr,hsv]
   rw[hx];have:=h b q (by simp[ob,fW h0]) g (.inr (.inr ⟨b,E,c,_,_,by rw[rH],hB,J,setRow_heap k.w b f _ e _ hh,by rw[rH];exact hc,h0,W,?_,rfl,?_⟩));.simpa[Oper.upon,hd,Act.put]using this
   ·simp only[kn,bA,dY,fg,iE];simp at H;omega
   · rw[rH];have e3:((f.toList.take (E+(m*Enc.sz α+off))++G.toList++f.toList.drop (E+(m*Enc.sz α+off)+G.toList.length)).drop E).take (xs.length*Enc.sz α)=cs.take (m*Enc.sz α+off)++G.toList++cs.drop (m*Enc.sz α+off+G.toList.length):=by
      have hz1:G.toList.length=Enc.sz β:=H;have hz2:G.size=Enc.sz β:=by simpa using hz1
      rw[dm,rh (by simp;omega),om,r6,<-dm];rw[<-F,mj,mb (by omega),om,iz];rw[List.take_append,oz (by simp;omega)];congr 1;rw[rl];congr 1;simp;omega
     rw[List.toList_toArray,e3];exact O.mono (g.le J)
end
section
variable{P:Program}{o:Oper}{a a0:Act}{k k' k0:K}{R S:Pred}{α β:Type}[Enc α][Enc β]
structure Sa(k k':K)(r:Option Nat):Prop where
 w:k'.w=k.w
 le:Le k k'
 sh:∀b,k'.sh b->k.sh b∨r=some b
theorem ah.hand{B:Nat}{e:TypeId}{x:List α}{v:Value}(h:ah B e x v k)(j:bE k0 k)(m:k0.w.heap.size<=B):∃k':K,Sa k k' (ob v)/\bE k0 k'/\IsV x v k':=by obtain⟨k',q,f,g,u,y⟩:=h.share j m;exact⟨k',⟨q,f,y⟩,g,u⟩
theorem dH{x:Operand}{u:Value}{B:Nat}{e:TypeId}{g:List α}(f:o.op= .move x∨o.op= .assign x)(h:bC u B e g (a.eval x) k):aX P o a k (bC u B e g):=by
 rcases f with f|f;.exact du f h
 .exact aQ f h
theorem jF(e:Array Value):(Value.agg e).cells=e:=rfl
theorem hd1{x y:Value}(h:[x]=[y]):x=y:=by simpa using h
theorem IF{t e:TypeId}{x:Operand}{xs:List α}{lo:Option Operand}(f:o.op= .slice t x lo (some (.const (.int .i64 0))) (some (.const (.int .i64 0))))(h:lo=none∨lo=some (.const (.int .i64 0)))(u:P.underlying t=some (.slice e))(j:(P.info? e).map (·.size)=some (Enc.sz α))(m:cM xs (a.eval x) k):aX P o a k ij:=by
 have z:∀w,(sizeOf e).run P w= .ok (Enc.sz α) w:=λw=>run_sizeOf j;have g:∀(c:BoundsCode)(y:Nat)(w:World),(Instr.sliceBound (.int .i64 0) y c).run P w= .ok 0 w:=λc y w=>by simpa using run_sliceBound (P:=P) (i:=0) (y:=y) (by omega) (by omega)
 have ev:∀v:Value,a.eval (.const v)=v:=λv=>rfl;rcases m with⟨e1,rfl⟩|⟨q,E,F,e1,_⟩;·refine ak ?_ (.inl rfl);rcases h with rfl|rfl<;>·simp only[execOp,f,e1];simp[Instr.sliceAt,Instr.slice,run_underlying u,Instr.sliceBounds,g,z,ev]
 ·refine ak ?_ (.inr ⟨q,rfl⟩);rcases h with rfl|rfl<;>·simp only[execOp,f,e1];simp[Instr.sliceAt,Instr.slice,run_underlying u,Instr.sliceBounds,g,z,ev]
theorem Nh{t u:TypeId}{x y:Operand}{b c:ByteArray}(f:o.op= .binOp .eql t x y u)(h:IsV b (a.eval x) k)(e:IsV c (a.eval y) k):aX P o a k (IsV (b.toList==c.toList)):=by have h:=cY.1 h;have e:=cY.1 e;refine ak ?_ (aE.2 rfl);simp[execOp,f,h,e];simp[eqGuard,binOp,Op.stringOp]
theorem MV{t u:TypeId}{x y:Operand}{b c:ByteArray}(f:o.op= .binOp .neq t x y u)(h:IsV b (a.eval x) k)(e:IsV c (a.eval y) k):aX P o a k (IsV (!(b.toList==c.toList))):=by have h:=cY.1 h;have e:=cY.1 e;refine ak ?_ (aE.2 rfl);simp[execOp,f,h,e];simp[eqGuard,binOp,Op.stringOp]
def zQ(P:Program)(t:TypeId)(α:Type)[Enc α][DecidableEq α]:Prop:=P.eqGuardType P.depth t=false/\∀(k:K)(x y:α)(u v:Value),IsV x u k->IsV y v k->(∃e,u= .agg e)/\(∃e,v= .agg e)/\∀w,(Op.equal t u v).run P w= .ok (decide (x=y)) w
theorem Sl[DecidableEq α]{t u:TypeId}{x y:Operand}{p q:α}(j:o.op= .binOp .eql t x y u)(h:zQ P t α)(m:IsV p (a.eval x) k)(w:IsV q (a.eval y) k):aX P o a k (IsV (decide (p=q))):=by obtain⟨g,h⟩:=h;obtain⟨⟨z,e1⟩,⟨E,e⟩,f⟩:=h k p q _ _ m w;refine ak ?_ (aE.2 rfl);rw[e1,e]at f;simp[execOp,j,e1,e];simp[eqGuard,binOp,f,g]
theorem TT[DecidableEq α]{t u:TypeId}{x y:Operand}{p q:α}(j:o.op= .binOp .neq t x y u)(h:zQ P t α)(m:IsV p (a.eval x) k)(w:IsV q (a.eval y) k):aX P o a k (IsV (!decide (p=q))):=by obtain⟨g,h⟩:=h;obtain⟨⟨z,e1⟩,⟨E,e⟩,f⟩:=h k p q _ _ m w;refine ak ?_ (aE.2 rfl);rw[e1,e]at f;simp[execOp,j,e1,e];simp[eqGuard,binOp,f,g]
end
abbrev FP:=Nat->Prop
def noF:FP:=λ_=>False
def obF(v:Value):FP:=λb=>ob v=some b
structure Chg(F:FP)(k k':K):Prop where
 tape:k'.w.tape=k.w.tape
 os:k'.w.os=k.w.os
 out:k'.w.output=k.w.output
 size:k.w.heap.size<=k'.w.heap.size
 blk:∀b,b<k.w.heap.size->¬F b->k'.w.heap[b]?=k.w.heap[b]?up:∀b,k.sh b->k'.sh b
 new:∀b,b<k.w.heap.size->k'.sh b->k.sh b∨F b
 drawn:k.w.drawn<=k'.w.drawn
theorem Chg.refl(F:FP)(k:K):Chg F k k:=⟨rfl,rfl,rfl,aA _,λ_ _ _=>rfl,λ_ h=>h,λ_ _ h=> .inl h,aA _⟩
theorem Chg.of{F:FP}{k f:K}(h:bE k f):Chg F k f:=⟨h.tape,h.os,h.out,h.size,λb e _=>h.blk b e,h.up,λb e g=> .inl (h.new b e g),h.drawn⟩
theorem Chg.grow{k g:K}(h:Chg noF k g):bE k g:=⟨h.tape,h.os,h.out,h.size,λb e=>h.blk b e (λf=>f),h.up,λb e j=>(h.new b e j).elim id False.elim,h.drawn⟩
theorem Chg.MH{F:FP}{k e:K}(h:Chg F k e)(b:Nat)(g:b<k.w.heap.size)(j:¬F b)(m:e.sh b):k.sh b:=(h.new b g m).elim id (λf=>(j f).elim)
def Wr(F:FP)(k:K)(G:FP):Prop:=∀b,G b->F b∨k.w.heap.size<=b
theorem Chg.step{F G:FP}{a b c:K}(h:Chg F a b)(g:Chg G b c)(w:Wr F a G):Chg F a c:=⟨g.tape.trans h.tape,g.os.trans h.os,g.out.trans h.out,bB h.size g.size,λi hi f=>(g.blk i (gk hi h.size) (λe=>(w i e).elim f (by omega))).trans (h.blk i hi f),λi hi=>g.up i (h.up i hi),λi hi j=>(g.new i (gk hi h.size) j).elim (h.new i hi) (λe=> .inr ((w i e).elim id (by omega))),bB h.drawn g.drawn⟩
theorem Chg.then{F:FP}{a b c:K}(h:Chg F a b)(g:bE b c):Chg F a c:=h.step (Chg.of (F:=noF) g) (λ _ f=>f.elim)
theorem Chg.le{F:FP}{k e:K}(h:Chg F k e)(j:∀b,F b->¬k.sh b):Le k e:=⟨λb g=>h.blk b (k.lt b g) (λf=>j b f g),h.up⟩
def bj(F G:FP):Prop:=∀b,F b->¬G b
theorem bj.symm{F G:FP}(h:bj F G):bj G F:=λb g f=>h b f g
theorem bj.new{F G:FP}{n:Nat}(h:∀b,F b->b<n)(e:∀b,G b->n<=b):bj F G:=λb f g=>by have:=h b f;have:=e b g;omega
structure Handed(k k':K)(F:FP):Prop where
 w:k'.w=k.w
 le:Le k k'
 sh:∀b,k'.sh b->k.sh b∨F b
theorem Chg.hand{F G:FP}{k0 k j:K}(h:Chg F k0 k)(g:Handed k j G)(m:Wr F k0 G):Chg F k0 j:=⟨by rw[g.w];exact h.tape,by rw[g.w];exact h.os,by rw[g.w];exact h.out,by rw[g.w];exact h.size,by rw[g.w];exact h.blk,λb e=>g.le.up b (h.up b e),λb e q=>(g.sh b q).elim (h.new b e) (λf=>(m b f).elim .inr (λh=>by omega)),by rw[g.w];exact h.drawn⟩
section
variable{P:Program}{o:Oper}{a a0:Act}{k k' k0:K}{R S:Pred}{α β:Type}[Enc α][Enc β]{F G:FP}
class Rsc(R:FP->Pred):Prop where
 keep:∀{F G v k k'},R F v k->Chg G k k'->bj F G->(∀b,G b->¬k.sh b)->R F v k'
 handed:∀{F G v k k'},R F v k->Handed k k' G->bj F G->R F v k'
 lt:∀{F v k},R F v k->∀b,F b->b<k.w.heap.size
 nsh:∀{F v k},R F v k->∀b,F b->¬k.sh b
theorem Rsc.grow{R:FP->Pred}[Rsc R]{v:Value}(h:R F v k)(g:bE k k'):R F v k':=Rsc.keep h (Chg.of g) (λ _ _ f=>f) (λ _ f=>f.elim)
instance{R:FP->Pred}[Rsc R]:aZ (R F):=⟨λg h=>Rsc.grow h g⟩
def Cp(x:α):FP->Pred:=λF v k=>∃b,v= .pointer (some ⟨b,0,none⟩)/\F=Eq b/\Box b x k
theorem Box.keep{b:Nat}{x:α}(h:Box b x k)(g:Chg G k k')(m:¬G b)(q:∀b,G b->¬k.sh b):Box b x k':=by have f:=g.le q;have e:=h.lt;obtain⟨u,j,t,h,r⟩:=h;exact⟨λw=>u (g.MH b e m w),j,t,by rw[g.blk b e m];exact h,Enc.mono f r⟩
theorem Box.handed{b:Nat}{x:α}(h:Box b x k)(g:Handed k k' G)(j:¬G b):Box b x k':=by have e:=g.le;obtain⟨m,f,t,h,r⟩:=h;exact⟨λq=>(g.sh b q).elim m j,f,t,by rw[g.w];exact h,Enc.mono e r⟩
instance(x:α):Rsc (Cp x)where
 keep:=λ⟨b,e,f,h⟩g m q=>⟨b,e,f,h.keep g (m b (by rw[f])) q⟩;handed:=λ⟨b,e,f,h⟩g m=>⟨b,e,f,h.handed g (m b (by rw[f]))⟩;lt:=λ⟨b,e,f,h⟩c j=>by rw[f]at j;rw[<-j];exact h.lt
 nsh:=λ⟨b,e,f,h⟩c j=>by rw[f]at j;rw[<-j];exact h.own
def HU(e:TypeId)(x:List α):FP->Pred:=λF v k=>F=obF v/\ah 0 e x v k
theorem ah.keep{B:Nat}{e:TypeId}{z:List α}{v:Value}(h:ah B e z v k)(g:Chg G k k')(I:bj (obF v) G)(J:∀b,G b->¬k.sh b):ah B e z v k':=by
 have q:=g.le J;rcases h with r|r|⟨f,off,u,x,M,rfl,O,Q,E,T,H,r⟩;.exact .inl r
 .exact .inr (.inl r)
 .have j:f<k.w.heap.size:=(bO.1 E).1;have m:=I f (by simp[obF,ob,fW H]);exact .inr (.inr ⟨f,off,u,x,M,rfl,O,λy=>Q (g.MH f j m y),by rw[g.blk f j m];exact E,T,H,r.1,r.2.1,r.2.2.1,r.2.2.2.mono q⟩)
theorem ah.handed{B:Nat}{e:TypeId}{y:List α}{v:Value}(h:ah B e y v k)(g:Handed k k' G)(E:bj (obF v) G):ah B e y v k':=by
 have f:=g.le;rcases h with r|r|⟨j,off,m,u,H,rfl,I,J,M,O,z,r⟩;.exact .inl r
 .exact .inr (.inl r)
 .have q:=E j (by simp[obF,ob,fW z]);exact .inr (.inr ⟨j,off,m,u,H,rfl,I,λx=>(g.sh j x).elim J q,by rw[g.w];exact M,O,z,r.1,r.2.1,r.2.2.1,r.2.2.2.mono f⟩)
instance(e:TypeId)(x:List α):Rsc (HU e x)where keep:=λ⟨f,h⟩g m q=>⟨f,h.keep g (f▸m) q⟩;handed:=λ⟨f,h⟩g m=>⟨f,h.handed g (f▸m)⟩;lt:=λ⟨f,h⟩b j=>(h.lt b (by rw[f]at j;exact j)).2.1;nsh:=λ⟨f,h⟩b j=>(h.lt b (by rw[f]at j;exact j)).2.2
theorem Np{x:α}{v:Value}(h:Cp x F v k):∃k':K,Handed k k' F/\aS x v k':=by obtain⟨b,rfl,rfl,h⟩:=h;exact⟨k.share b h.lt,⟨rfl,K.sk k b h.lt,λi hi=>hi.imp id Eq.symm⟩,h.share⟩
theorem Mv{e:TypeId}{x:List α}{v:Value}(h:HU e x F v k):∃k':K,Handed k k' F/\IsV x v k':=by obtain⟨rfl,h⟩:=h;obtain⟨k',g,_,m⟩:=h.hand (k0:=⟨⟨#[],k.w.tape,0,k.w.os,k.w.output⟩,λ _=>False,λ _ f=>f.elim⟩) ⟨rfl,rfl,rfl,bY _,λb j=>absurd j (fv b),λ _ f=>f.elim,λb j=>absurd j (fv b),bY _⟩ (aA _);exact⟨k',⟨g.w,g.le,g.sh⟩,m⟩
theorem cG{A:Array Oper}{i off b:Nat}{g:List Nat}{Q:Exit->Act->World->Prop}{t:TypeId}{p y:Operand}{x:α}{z:β}{set:α->β->α}(q:nth A.toList i=some o)(u:o.guard=none)(m:o.op= .store t p y)(E:o.dst=none)(H:(P.info? t).map (·.size)=some (Enc.sz β))(I:Upd off set)(J:cw b off (a.eval p) k)(M:Box b x k)(O:IsV z (a.eval y) k)(h:∀k',Chg (Eq b) k k'->Box b (set x z) k'->wpOps P A Q g a k'.w):wpOps P A Q (i::g) a k.w:=I8 q u m E H I J M O λk' f T=>h k' ⟨f.tape,f.os,f.out,rY f.size.symm,λc _ j=>f.blk c (λe=>j e.symm),λc j=>by rw[f.sh];exact j,λc _ j=>by rw[f.sh]at j;exact .inl j,f.drawn⟩ T
theorem za{A:Array Oper}{i m off:Nat}{e:TypeId}{g:List Nat}{Q:Exit->Act->World->Prop}{t:TypeId}{p y:Operand}{u:Value}{xs:List α}{x:α}{z:β}{set:α->β->α}(H:nth A.toList i=some o)(I:o.guard=none)(q:o.op= .store t p y)(J:o.dst=none)(M:(P.info? t).map (·.size)=some (Enc.sz β))(O:Upd off set)(T:s5 u (m*Enc.sz α+off) (a.eval p) k)(U:ah 0 e xs u k)(V:xs[m]?=some x)(W:IsV z (a.eval y) k)(h:∀k':K,Chg (obF u) k k'->ah 0 e (xs.set m (set x z)) u k'->wpOps P A Q g a k'.w):wpOps P A Q (i::g) a k.w:=GL H I q J M O T U V W λb k' E f hz=>h k' ⟨f.tape,f.os,f.out,rY f.size.symm,λc _ j=>f.blk c (λe=>j (by rw[obF,E,e])),λc j=>by rw[f.sh];exact j,λc _ j=>by rw[f.sh]at j;exact .inl j,f.drawn⟩ hz
theorem Grown.chg{r:Option Nat}(h:Grown k k' r):Chg (λb=>r=some b) k k':=⟨h.tape,h.os,h.out,h.size,λb f g=>h.blk b f (λe=>g e.symm),λb f=>by rw[h.sh];exact f,λb _ f=>by rw[h.sh]at f;exact .inl f,h.drawn⟩
theorem fZ{A:Array Oper}{i d:Nat}{f:List Nat}{Q:Exit->Act->World->Prop}{t e:TypeId}{x y:Operand}{z E H:List α}(I:nth A.toList i=some o)(m:o.guard=none)(q:o.op= .call {callee:= .builtin .append,args:=#[x,y],argTypes:=#[t,t]})(J:o.dst=some d)(u:d<a.tmps.size)(M:P.underlying t=some (.slice e))(O:dJ P e α)(U:ah 0 e z (a.eval x) k)(V:cM E (a.eval y) k)(W:eb z E=some H)(h:∀(g:Act)(k':K),g.tmps.size=a.tmps.size->g.defers=a.defers->(∀t,t≠d->g.get t=a.get t)->Chg (obF (a.eval x)) k k'->ah 0 e H (g.get d) k'->(∀b,obF (g.get d) b->obF (a.eval x) b∨k.w.heap.size<=b)->wpOps P A Q f g k'.w):wpOps P A Q (i::f) a k.w:=tail_append I m q J u M O (bY _) U V W λg k' h1 h2 h3 h4 h5 h6=>h g k' h1 h2 h3 h4.chg h5 h6
def cr(F:FP)(k:K)(R:Pred):Ending->World->Prop| .returned v,e=>∃k':K,k'.w=e/\Chg F k k'/\R v k'| .outgrown,_=>False| .panicked _,_=>False
theorem iH{A:Array Oper}{i d:Nat}{g:List Nat}{Q:Exit->Act->World->Prop}{f:FuncId}{as_:List Operand}{O:Array TypeId}(M:nth A.toList i=some o)(H:o.guard=none)(I:o.op= .call {callee:= .value (.func f),args:=as_.toArray,argTypes:=O})(U:o.dst=some d)(x:d<a.tmps.size)(V:∀args w,(callFunc f args).run P w= .ok (.enter f args) w)(W:LetsOut Q)(j:Calls P f (as_.map a.eval).toArray k.w (cr F k R))(h:∀(y:Act)(k':K),y.tmps.size=a.tmps.size->y.defers=a.defers->(∀t,t≠d->y.get t=a.get t)->Chg F k k'->R (y.get d) k'->wpOps P A Q g y k'.w):wpOps P A Q (i::g) a k.w:=by
 rw[wpOps_cons];rw[aH]at M;unfold wpOp;simp[M,Region.wanted,H];refine .inl ?_;unfold Oper.wp;have hr:(execOp a.eval o).run P k.w= .ok (.enter f (as_.map a.eval).toArray) k.w:=by simp[execOp,I,resolve,invoke,Deferred.ofValue,Act.eval,V]
 rw[hr];refine Calls.mono j λe w' J=>?_;cases e with|returned v=>
 obtain⟨k',rfl,hg,hv⟩:=J;simp[U];have z:(a.put (some d) v).get d=v:=by rw[dD _ _ _ _ x];simp
 refine h _ k' (fG _ _ _) (ez _ _ _) ?_ hg (by rw[z];exact hv);intro t ht;rw[dD _ _ _ _ x,if_neg (Ne.symm ht)]|panicked c=>exact J.elim;|outgrown=>exact J.elim
theorem Ret.ofC{f:FuncId}{m:Array Value}{w:World}(h:Calls P f m w (cr noF k R)):Calls P f m w (Ret k R):=h.mono λe z q=>by cases e with|returned v=>obtain⟨k',e1,x,y⟩:=q;exact⟨k',e1,x.grow,y⟩;|panicked c=>exact q;|outgrown=>exact q
end
section
variable{P:Program}{o:Oper}{a a0:Act}{k k' k0:K}{R S T:Pred}{α β:Type}[Enc α][Enc β]{F G:FP}
theorem gB{f:Func}{v:Value}(h:a.defers=[])(e:(results f a.tmps).run P k'.w= .ok v k'.w)(g:Chg F k k')(j:R v k'):bodyPost P f (cr F k R) .ret a k'.w:=⟨h,v,e,k',rfl,g,j⟩
theorem ch{f:Func}:LetsOut (bodyPost P f (cr F k R)):=trivial
theorem TO{f:FuncId}{e:Func}{c:Code}{args:Array Value}{n:Nat}(u:P.funcs[f]?=some e)(x:e.body=some c)(H:e.ntmps=n)(I:args.size<=n)(h:∀a:Act,a.tmps.size=n->a.defers=[]->o9 a 0 args.toList->c.wp P (bodyPost P e (cr F k R)) a k.w):Calls P f args k.w (cr F k R):=by
  refine calls_of_wp u x (h _ ?_ rfl ?_);.simp;omega
  · have y:∀(g:List Value)i,args.toList.drop i=g->o9 {tmps:=args++Array.replicate (e.ntmps-args.size) undef,defers:=[]} i g:=by intro g;induction g with|nil=>intro i _;trivial;|cons v g E=>
 intro i hi;have m:i<args.size:=by
  rcases bJ i args.size with h|h;.exact h
  .rw[vu (by simpa using h)]at hi;simp at hi
 refine⟨?_,E (i+1) (by rw[<-iz,hi];rfl)⟩;rw[l8 (by simpa using m)]at hi;simp[Act.get];grind
    exact y _ 0 rfl
theorem cZ{f:Func}{r:ResultVar}(e:f.results=#[r])(g:a.defers=[])(j:Chg F k k')(h:gg P a k' r R):bodyPost P f (cr F k R) .ret a k'.w:=by obtain⟨v,m,q⟩:=vL h;refine⟨g,v,?_,k',rfl,j,q⟩;simp[wz,e];simp[m]
theorem AQ{f:Func}{r s:ResultVar}(e:f.results=#[r,s])(j:a.defers=[])(m:Chg F k k')(h:gg P a k' r R)(g:gg P a k' s S):bodyPost P f (cr F k (fb R S)) .ret a k'.w:=by obtain⟨v,q,x⟩:=vL h;obtain⟨u,y,z⟩:=vL g;refine⟨j, .tuple #[v,u],?_,k',rfl,m,v,u,rfl,x,z⟩;simp[wz,e];simp[q,y]
def Lo(k:K)(G:FP):Prop:=∀b,G b->k.w.heap.size<=b
theorem Lo.wr(h:Lo k G):Wr F k G:=λb e=> .inr (h b e)
theorem Lo.chg(h:Lo k' G)(g:Chg F k k'):Lo k G:=λb e=>bB g.size (h b e)
theorem Lo.app{e:FP}(h:Lo k G)(g:Chg F k k')(f:∀b,e b->G b∨k'.w.heap.size<=b):Lo k e:=λb j=>(f b j).elim (h b) (λh=>bB g.size h)
theorem Lo.eq{b:Nat}(h:k.w.heap.size<=b):Lo k (Eq b):=λ_ e=>e▸h
theorem Box.ltF{b:Nat}{x:α}(h:Box b x k):∀c,b=c->c<k.w.heap.size:=λ_ e=>e▸h.lt
theorem Box.jl{b:Nat}{x:α}(h:Box b x k):∀c,b=c->¬k.sh c:=λ_ e=>e▸h.own
theorem ah.ltF{B:Nat}{e:TypeId}{x:List α}{v:Value}(h:ah B e x v k):∀b,obF v b->b<k.w.heap.size:=λb f=>(h.lt b f).2.1
theorem ah.jl{B:Nat}{e:TypeId}{x:List α}{v:Value}(h:ah B e x v k):∀b,obF v b->¬k.sh b:=λb f=>(h.lt b f).2.2
theorem ah.loF{e:TypeId}{x:List α}{v:Value}(h:ah k0.w.heap.size e x v k):Lo k0 (obF v):=λb f=>(h.lt b f).1
theorem ah.gz{B:Nat}{e:TypeId}{x:List α}{v:Value}(h:ah B e x v k):∃k':K,Handed k k' (obF v)/\IsV x v k':=Mv ⟨rfl,h.weaken (bY _)⟩
theorem Box.gz{b:Nat}{x:α}(h:Box b x k):∃k':K,Handed k k' (Eq b)/\aS x (.pointer (some ⟨b,0,none⟩)) k':=Np ⟨b,rfl,rfl,h⟩
theorem ij.Ts{e:TypeId}{v:Value}(h:ij v k):ah (α:=α) 0 e [] v k:=h.own
theorem ij.Sx{v:Value}(h:ij v k):∀b,¬obF v b:=λb e=>by rw[obF,h.ob]at e;simp at e
theorem ij.lo{v:Value}(h:ij v k):Lo k0 (obF v):=λb e=>(h.Sx b e).elim
end
structure Bs(F:FP)(k0:K)(n:Nat)(a:Act)(k:K):Prop where
 g:Chg F k0 k
 s:a.tmps.size=n
 d:a.defers=[]
section
variable{P:Program}{F:FP}{a a':Act}{k k' k0:K}{n m:Nat}{ops:List Oper}{es:List Ent}
theorem Bs.post(h:Bs F k0 n a k)(p:mf ops es m a k a' k'):Bs F k0 n a' k':=⟨h.g.then p.grow,p.size.trans h.s,p.defers.trans h.d⟩
theorem pC{c:Code}{Q:Exit->Act->World->Prop}{τ ρ:Type}(f:aY τ ρ)(T:τ->Act->K->Prop)(X:Nat->τ->Act->K->Prop)(h:ρ->Act->K->Prop)(h1:∀g:Exit->Act->World->Prop,LetsOut g->(∀e a' k',f= .go e->T e a' k'->g .normal a' k'.w)->(∀i e a' k',f= .ex i e->X i e a' k'->g (.exit i) a' k'.w)->(∀r a' k',f= .ret r->h r a' k'->g .ret a' k'.w)->c.wp P g a k.w)(j:LetsOut Q)(q:∀r a' k',f= .ret r->h r a' k'->Q .ret a' k'.w)(u:∀e a' k',f= .go e->T e a' k'->Q .normal a' k'.w)(x:∀i e a' k',f= .ex i e->X i e a' k'->Q (.exit i) a' k'.w):c.wp P Q a k.w:=h1 Q j u x q
end
section
variable{P:Program}{o:Oper}{a a0:Act}{k k' k0:K}{α β γ δ:Type}[Enc α][Enc β][Enc γ][Enc δ]
def rF(P:Program)(g:α->Option β):Pred:=λv k=>∃f first u,v= .func (.func f) first u/\(∀args w,(callFunc f args).run P w= .ok (.enter f args) w)/\∀k',Le k k'->∀x e y,IsV x e k'->g x=some y->Calls P f (first++#[e]++u) k'.w (Ret k' (IsV y))
def wZ(P:Program)(g:α->β->Option γ):Pred:=λv k=>∃f first u,v= .func (.func f) first u/\(∀args w,(callFunc f args).run P w= .ok (.enter f args) w)/\∀k',Le k k'->∀x e y h z,IsV x e k'->IsV y h k'->g x y=some z->Calls P f (first++#[e,h]++u) k'.w (Ret k' (IsV z))
instance(g:α->Option β):aW (rF P g):=⟨λh⟨f,j,c,e,m,r⟩=>⟨f,j,c,e,m,λk' hk=>r k' (h.trans hk)⟩⟩
instance(g:α->β->Option γ):aW (wZ P g):=⟨λh⟨f,j,c,e,m,r⟩=>⟨f,j,c,e,m,λk' hk=>r k' (h.trans hk)⟩⟩
theorem fq{R:Pred}{fn:Fn}{first captured:List Operand}(e:o.op= .makeFunc fn first.toArray captured.toArray)(h:R (.func fn (first.map a.eval).toArray (captured.map a.eval).toArray) k):aX P o a k R:=ak (by simp[execOp,e,Instr.makeFunc]) h
theorem wD{R:Pred}{f:FuncId}{args:Array Value}(q:(execOp a.eval o).run P k.w= .ok (.enter f args) k.w)(h:Calls P f args k.w (Ret k R)):aX P o a k R:=by intro next Q E x;unfold Oper.wp;rw[q];refine Calls.mono h λe F m=>?_;cases e with|returned v=>obtain⟨k',rfl,y,z⟩:=m;exact x v k' y z;|panicked c=>exact m.elim;|outgrown=>exact m.elim
theorem C9{g:α->Option β}{m x:Operand}{q:Array TypeId}{p:α}{r:β}(u:o.op= .call {callee:= .value m,args:=#[x],argTypes:=q}) (w:rF P g (a.eval m) k)(y:IsV p (a.eval x) k)(h:g p=some r):aX P o a k (IsV r):=by obtain⟨f,F,c,e,z,E⟩:=w;refine wD ?_ (E k (Le.refl k) _ _ _ y h);simp[execOp,u,resolve,invoke,Deferred.ofValue,e,z]
theorem K2{g:α->β->Option γ}{m x y:Operand}{u:Array TypeId}{p:α}{q:β}{r:γ}(w:o.op= .call {callee:= .value m,args:=#[x,y],argTypes:=u}) (z:wZ P g (a.eval m) k)(E:IsV p (a.eval x) k)(F:IsV q (a.eval y) k)(h:g p q=some r):aX P o a k (IsV r):=by obtain⟨f,I,c,e,G,H⟩:=z;refine wD ?_ (H k (Le.refl k) _ _ _ _ _ E F h);simp[execOp,w,resolve,invoke,Deferred.ofValue,e,G]
end
structure IK(κ:IntKind)where n:Int deriving DecidableEq
instance{e:IntKind}:Inhabited (IK e):=⟨⟨0⟩⟩
instance{e:IntKind}:Enc (IK e)where
 sz:=1;agg:=false;rep _ j x:=j=[.int e x.n];len h:=by simp[h]
 mono _ h:=h;one h:=by subst h;simp[Value.oneCell']
 agg1 _:=rfl
def IK.shr{e:IntKind}(x:IK e)(n:Int):IK e:=⟨x.n.fdiv (2^n.toNat)⟩
def IK.add{e:IntKind}(x y:IK e):IK e:=⟨e.wrap (x.n+y.n)⟩
def IK.sub{e:IntKind}(x y:IK e):IK e:=⟨e.wrap (x.n-y.n)⟩
def IK.mul{e:IntKind}(x y:IK e):IK e:=⟨e.wrap (x.n*y.n)⟩
theorem dr{f:IntKind}{x:IK f}{v:Value}{k:K}:IsV x v k↔v= .int f x.n:=⟨λ⟨_,e,r⟩=>by rw[e,r];rfl,λe=>⟨[.int f x.n],e,rfl⟩⟩
section
variable{P:Program}{o:Oper}{a a0:Act}{k k' k0:K}{R S:Pred}{α β:Type}[Enc α][Enc β]
theorem zf{t u:TypeId}{κ e:IntKind}{n:Int}{w:World}(h:(P.underlying t).isSome=true)(f:P.underlying u=some (.int e)):(convert t u (.int κ n)).run P w= .ok (.int e (e.wrap n)) w:=by obtain⟨d,g⟩:=yr.1 h;simp[convert,run_underlying g,run_underlying f,Conv.intToInt]
section
variable{t u v:TypeId}{x y:Operand}{κ κ':IntKind}
theorem Ii{n:Int}(e:o.op= .convert t u x)(f:(P.underlying t).isSome=true)(g:P.underlying u=some (.int κ'))(h:IsV n (a.eval x) k):aX P o a k (IsV (IK.mk (κ'.wrap n):IK κ')):=by have h:=au.1 h;refine ak ?_ (dr.2 rfl);simp[execOp,e,h];simp[zf f g]
theorem IJ{n:IK κ}(e:o.op= .convert t u x)(f:(P.underlying t).isSome=true)(g:P.underlying u=some (.int κ'))(h:IsV n (a.eval x) k):aX P o a k (IsV (IK.mk (κ'.wrap n.n):IK κ')):=by have h:=dr.1 h;refine ak ?_ (dr.2 rfl);simp[execOp,e,h];simp[zf f g]
end
section
variable{t u:TypeId}{x y:Operand}{κ κ':IntKind}{n m:IK κ}
theorem Qe(f:o.op= .binOp .add t x y u)(h:IsV n (a.eval x) k)(e:IsV m (a.eval y) k):aX P o a k (IsV (n.add m)):=by have h:=dr.1 h;have e:=dr.1 e;refine ak (v:= .int κ (κ.wrap (n.n+m.n))) ?_ (dr.2 rfl);simp[execOp,f,h,e];simp[eqGuard,binOp,Op.intArith]
theorem PX(f:o.op= .binOp .sub t x y u)(h:IsV n (a.eval x) k)(e:IsV m (a.eval y) k):aX P o a k (IsV (n.sub m)):=by have h:=dr.1 h;have e:=dr.1 e;refine ak (v:= .int κ (κ.wrap (n.n-m.n))) ?_ (dr.2 rfl);simp[execOp,f,h,e];simp[eqGuard,binOp,Op.intArith]
theorem Pe(f:o.op= .binOp .mul t x y u)(h:IsV n (a.eval x) k)(e:IsV m (a.eval y) k):aX P o a k (IsV (n.mul m)):=by have h:=dr.1 h;have e:=dr.1 e;refine ak (v:= .int κ (κ.wrap (n.n*m.n))) ?_ (dr.2 rfl);simp[execOp,f,h,e];simp[eqGuard,binOp,Op.intArith]
end
def Jn(e:List α):Pred:=λv _=>∃b,v= .bool b/\(b=true->e=[])
instance(e:List α):aW (Jn e):=⟨λ_ h=>h⟩
theorem Av{t e u:TypeId}{x:Operand}{g:List α}(j:o.op= .binOp .eql t x (.const (.slice none 0 0)) u)(z:P.underlying t=some (.slice e))(E:cM g (a.eval x) k):aX P o a k (Jn g):=by
 have ev:a.eval (.const (.slice none 0 0))= .slice none 0 0:=rfl;have q:∀f(n c),(Op.equal t (.slice f n c) (.slice none 0 0)).run P k.w= .ok f.isNone k.w:=λf n c=>by show(Op.equalIn (9999+1) t _ _).run P k.w=_;rw[Op.equalIn];cases f<;>simp[run_underlying z]
 rcases E with⟨e1,rfl⟩|⟨f,F,G,e1,_⟩;·refine ak ?_ ⟨true,rfl,λ _=>rfl⟩;simp only[execOp,j,e1,ev];simp[eqGuard,binOp,q]
 ·refine ak ?_ ⟨false,rfl,λh=>by simp at h⟩;simp only[execOp,j,e1,ev];simp[eqGuard,binOp,q]
theorem ah.raise{B:Nat}{e:TypeId}{j:List α}{v:Value}(h:ah B e j v k)(E:Lo k0 (obF v)):ah k0.w.heap.size e j v k:=by
 rcases h with r|r|⟨q,off,f,g,F,rfl,J,G,H,I,z,r⟩;.exact .inl r
 .exact .inr (.inl r)
 .exact .inr (.inr ⟨q,off,f,g,F,rfl,E q (by simp[obF,ob,fW z]),G,H,I,z,r⟩)
theorem pP{f:FuncId}{args:Array Value}{e:TypeId}{G:List α}(h:Calls P f args k.w (Ret k (ah k.w.heap.size e G))):Calls P f args k.w (Ret k (IsV G)):=h.mono λH Q z=>by cases H with|returned v=>obtain⟨k',rfl,I,J⟩:=z;obtain⟨M,O,E,F⟩:=J.hand I (aA _);exact⟨M,O.w,E,F⟩;|panicked c=>exact z;|outgrown=>exact z
theorem wA{f:FuncId}{args:Array Value}{e:TypeId}{E:List α}{B:Nat}(F:B<=k.w.heap.size)(h:Calls P f args k.w (Ret k (ah k.w.heap.size e E))):Calls P f args k.w (Ret k (ah B e E)):=h.mono λG J z=>by cases G with|returned v=>obtain⟨k',rfl,H,I⟩:=z;exact⟨k',rfl,H,I.weaken F⟩;|panicked c=>exact z;|outgrown=>exact z
theorem cO{F:FP}{f:FuncId}{e:Func}{c:Code}{args:Array Value}{n:Nat}(g:P.funcs[f]?=some e)(j:e.body=some c)(z:e.ntmps=n)(E:args.size<=n)(h:∀(a:Act)(q:K),q=k->a.tmps.size=n->a.defers=[]->o9 a 0 args.toList->c.wp P (bodyPost P e (cr F k R)) a q.w):Calls P f args k.w (cr F k R):=TO g j z E λa G H I=>h a k rfl G H I
end
section
variable{P:Program}{o:Oper}{a a0:Act}{k k' k0:K}{R S T:Pred}{α β:Type}[Enc α][Enc β]
instance[aW R][aW S]:aW (fb R S):=⟨λh⟨x,y,e,a,b⟩=>⟨x,y,e,aW.pers h a,aW.pers h b⟩⟩
instance[aW R][aW S][aW T]:aW (ID R S T):=⟨λh⟨x,y,z,e,a,b,c⟩=>⟨x,y,z,e,aW.pers h a,aW.pers h b,aW.pers h c⟩⟩
theorem bL{A:Array Oper}{i d:Nat}{e:List Nat}{Q:Exit->Act->World->Prop}(q:nth A.toList i=some o)(m:o.guard=none)(u:o.dst=some d)(f:d<a.tmps.size)(x:LetsOut Q)(y:aX P o a k R)(h:∀(g:Act)(k':K),g.tmps.size=a.tmps.size->g.defers=a.defers->(∀t,t≠d->g.get t=a.get t)->bE k k'->R (g.get d) k'->wpOps P A Q e g k'.w):wpOps P A Q (i::e) a k.w:=by
 rw[wpOps_cons];rw[aH]at q;unfold wpOp;simp[q,Region.wanted,m];refine .inl (y _ _ x λv k' z E=>?_);rw[u];have j:(a.put (some d) v).get d=v:=by rw[dD _ _ _ _ f];simp
 refine h _ k' (fG _ _ _) (ez _ _ _) ?_ z (by rw[j];exact E);intro t F;rw[dD _ _ _ _ f,if_neg (Ne.symm F)]
class Flat(R:Pred):Prop where flat:∀{v k k'},R v k->R v k'
instance{x:Int}:Flat (IsV x):=⟨λh=>au.2 (au.1 h)⟩
instance{x:Bool}:Flat (IsV x):=⟨λh=>aE.2 (aE.1 h)⟩
instance{x:ByteArray}:Flat (IsV x):=⟨λh=>cY.2 (cY.1 h)⟩
instance{e:IntKind}{x:IK e}:Flat (IsV x):=⟨λh=>dr.2 (dr.1 h)⟩
instance[Flat R][Flat S]:Flat (fb R S):=⟨λ⟨x,y,e,a,b⟩=>⟨x,y,e,Flat.flat a,Flat.flat b⟩⟩
instance[Flat R][Flat S][Flat T]:Flat (ID R S T):=⟨λ⟨x,y,z,e,a,b,c⟩=>⟨x,y,z,e,Flat.flat a,Flat.flat b,Flat.flat c⟩⟩
instance:Flat Q0:=⟨λh=>h⟩
def UI(u:Value)(s:Nat):Option Int->Pred|some i=>s5 u (i.toNat*s)|none=>QY
instance(u:Value)(s:Nat)(p:Option Int):aW (UI u s p):=⟨λe h=>by cases p<;>exact h⟩
instance(u:Value)(s:Nat)(p:Option Int):Flat (UI u s p):=⟨λh=>by cases p<;>exact h⟩
end
theorem o0{P:Program}{w:World}{T I J e F z:TypeId}{b o f h g m:Nat}{a:Addr}{cs:List Value}{u:Array Value}(M:P.underlying T=some (.slice e))(G:(P.info? e).map (·.size)=some z)(O:w.heap[b]?=some (.cells u F (0,0)))(Q:cs.length=Nat.min g f*z)(q:∀j v,cs[j]?=some v->w.cell? (a.add j)=some v)(x:o+cs.length<=u.size)(h1:∀v∈cs,v.oneCell'=true):(Builtin.copy_ #[T,I] J #[.slice (some ⟨b,o,none⟩) f h, .slice (some a) g m]).run P w=.ok (goInt (Nat.min g f)) (w.setRow b (u.toList.take o++cs++u.toList.drop (o+cs.length)).toArray):=by have H:=run_loadCells_list (P:=P) w a cs q;have y:=run_storeCells_at P b o F cs 0 u w O (by simpa using x) h1;cases E:P.info? e with|none=>simp[E]at G;|some i=>
 have hi:i.size=z:=by simpa[E]using G
 rw[Q]at H;simp[Builtin.copy_,run_underlying M,Builtin.lenOf,Builtin.firstCells,sizeOf,typeInfo,E,hi,H,y]
theorem B0(a b:ByteArray):(a==b)=decide (a=b):=by cases a with|mk a=>cases b with|mk b=>show(a==b)=_;by_cases h:a=b<;>simp[h]
def fnd{e f:Type}[DecidableEq e]:List (e×f)->e->Nat->Option (Nat×f)|[],_,_=>none|(a,v)::l,n,i=>if n=a then some (i,v)else fnd l n (i+1)
def bz{e f:Type}[DecidableEq e]:List (e×f)->e->Option f|[],_=>none|(a,v)::l,n=>if n=a then some v else bz l n
def dQ{e f:Type}[DecidableEq e]:List (e×f)->e->f->List (e×f)|[],n,v=>[(n,v)]|(a,u)::l,n,v=>if n=a then(a,v)::l else(a,u)::dQ l n v
theorem Kg{e f:Type}[DecidableEq e]:∀(l:List (e×f))(n:e)(i:Nat),(fnd l n i).map (·.2)=bz l n
 |[],_,_=>rfl|(a,v)::l,n,i=>by
  simp[fnd,bz];split;.rfl
  .exact Kg l n (i+1)
theorem Hi{e g:Type}[DecidableEq e]:∀(l:List (e×g))(n:e)(i:Nat)(v:g),fnd l n i=none->dQ l n v=l++[(n,v)]
 |[],_,_,_,_=>rfl|(a,u)::l,n,i,v,h=>by
  simp[fnd]at h;split at h;.simp at h
  .rename_i f;simp[dQ,if_neg f,Hi l n (i+1) v h]
theorem Gj{f m:Type}[DecidableEq f]:∀(l:List (f×m))(n:f)(i j:Nat)(u v:m),fnd l n i=some (j,u)->i<=j/\j-i<l.length/\l[j-i]?=some (n,u)/\dQ l n v=l.set (j-i) (n,v)
 |[],_,_,_,_,_,h=>by simp[fnd]at h;|(a,y)::l,n,i,j,u,v,h=>by
  simp[fnd]at h;split at h;.rename_i q;obtain⟨rfl,rfl⟩:=h;subst q;simp[dQ]
  · rename_i g;obtain⟨h1,z,w,x⟩:=Gj l n (i+1) j u v h;have e:j-i=(j-(i+1))+1:=by omega
    refine⟨by omega,by simp;omega,by rw[e];simpa using w,?_⟩;rw[e,List.set_cons_succ,<-x];simp[dQ,if_neg g]
structure tL(P:Program)(kt:TypeId){κ:Type}[DecidableEq κ](kv:κ->Value):Prop where
 find:∀(l:List (κ×Value))(es:List MapEntry)(n:κ)(w:World),es.map (λe=>(e.key,e.val))=l.map (λp=>(kv p.1,p.2))->(Instr.findKey kt (kv n) es).run P w= .ok (fnd l n 0) w
 check:∀(e:Bool)(n:κ)(w:World),(Instr.checkKey e 10000 kt (kv n)).run P w= .ok () w
 same:∀n:κ,Instr.sameBits 10000 (kv n) (kv n)=true
theorem MN{P:Program}{m:TypeId}(u:P.underlying m=some (.int .i64)):tL P m (Value.int .i64)where
 find l f n w h:=by
  refine MapKept.run_findKey u ?_;have y:∀l(f:List MapEntry)i,f.map (λe=>(e.key,e.val))=l.map (λp=>(Value.int .i64 p.1,p.2))->Instr.findNow (.int .i64) (.int .i64 n) f i=some (fnd l n i):=by intro l;induction l with|nil=>intro f i h;simp at h;subst h;rfl;|cons p l x=>intro f i h;cases f with|nil=>simp at h;|cons e f=>simp[cf]at h;simp[Instr.findNow,Instr.sameNow,fnd];grind
  exact y l f 0 h
 check e n w:=by unfold Instr.checkKey;simp[run_underlying u]
 same n:=by simp[Instr.sameBits]
theorem ME{P:Program}{q:TypeId}(u:P.underlying q=some .string):tL P q Value.string where
 find l f n w h:=by
  refine MapKept.run_findKey u ?_;have y:∀l(f:List MapEntry)i,f.map (λe=>(e.key,e.val))=l.map (λp=>(Value.string p.1,p.2))->Instr.findNow .string (.string n) f i=some (fnd l n i):=by intro l;induction l with|nil=>intro f i h;simp at h;subst h;rfl;|cons p l z=>intro f i h;cases f with|nil=>simp at h;|cons e f=>
   simp[cf]at h;obtain⟨⟨h1,E⟩,F⟩:=h;obtain⟨a,v⟩:=p;simp[Instr.findNow,h1,Instr.sameNow,fnd];by_cases g:n=a;.simp[g,E,B0]
   .simp[g,B0,z f (i+1) F]
  exact y l f 0 h
 check e n w:=by unfold Instr.checkKey;simp[run_underlying u]
 same n:=by simp[Instr.sameBits,B0]
structure qY{κ:Type}(kv:κ->Value)(b:Nat)(l:List (κ×Value))(k:K):Prop where
 own:¬k.sh b
 is:∃es clk,k.w.heap[b]?=some (.map es clk)/\es.toList.map (λe=>(e.key,e.val))=l.map (λp=>(kv p.1,p.2))
section
variable{P:Program}{o:Oper}{a a0:Act}{k k' k0:K}{R S T:Pred}{κ:Type}[DecidableEq κ]{kv:κ->Value}{F G:FP}
omit [DecidableEq κ]in theorem qY.lt{b:Nat}{l:List (κ×Value)}(h:qY kv b l k):b<k.w.heap.size:=by obtain⟨_,f,e,h,_⟩:=h;exact(bO.1 h).1
omit [DecidableEq κ]in theorem qY.keep{b:Nat}{l:List (κ×Value)}(h:qY kv b l k)(g:Chg G k k')(j:¬G b):qY kv b l k':=by have e:=h.lt;obtain⟨q,u,f,h,r⟩:=h;exact⟨λw=>q (g.MH b e j w),u,f,by rw[g.blk b e j];exact h,r⟩
omit [DecidableEq κ]in theorem qY.handed{b:Nat}{l:List (κ×Value)}(h:qY kv b l k)(g:Handed k k' G)(f:¬G b):qY kv b l k':=by obtain⟨j,q,e,h,r⟩:=h;exact⟨λu=>(g.sh b u).elim j f,q,e,by rw[g.w];exact h,r⟩
def Is(u:Value):Pred:=λv _=>v=u
instance(u:Value):aW (Is u):=⟨λ_ h=>h⟩
instance(u:Value):Flat (Is u):=⟨λh=>h⟩
theorem FT{t j m:TypeId}{b:Nat}{l:List (κ×Value)}{n:κ}{z:Value}{c:Bool}(O:tL P j kv)(u:P.underlying t=some (.map j m))(q:∀w,(zeroValue m).run P w= .ok z w)(h:qY kv b l k):(Instr.lookup t (.map (some b)) (kv n) c).run P k.w= .ok (if c then .tuple #[(bz l n).getD z, .bool (bz l n).isSome]else(bz l n).getD z) k.w:=by obtain⟨_,x,y,E,H⟩:=h;have e:=O.find l x.toList n k.w H;have I:=Kg l n 0;rw[<-I];have g:=MapKept.run_getObj_map (P:=P) E;cases f:fnd l n 0 with|none=>rw[f]at e;cases c<;>simp[Instr.lookup,run_underlying u,g,O.check,e,q];|some p=>rw[f]at e;cases c<;>simp[Instr.lookup,run_underlying u,g,O.check,e]
theorem wj{t e f:TypeId}{x y:Operand}{b:Nat}{l:List (κ×Value)}{n:κ}{z:Value}(g:o.op= .lookup t x y false)(O:tL P e kv)(u:P.underlying t=some (.map e f))(j:∀w,(zeroValue f).run P w= .ok z w)(m:a.eval x= .map (some b))(q:a.eval y=kv n)(h:qY kv b l k):aX P o a k (Is ((bz l n).getD z)):=by refine ak ?_ rfl;have:=FT (n:=n) (c:=false) O u j h;simp[execOp,g,m,q];simp[this]
theorem I9{κ:Type}{kv:κ->Value}{f:Array MapEntry}{l:List (κ×Value)}{j:Nat}{n:κ}{v:Value}(q:f.toList.map (λe=>(e.key,e.val))=l.map (λp=>(kv p.1,p.2))):(f.modify j λe=>{e with key:=kv n,val:=v}).toList.map (λe=>(e.key,e.val))=(l.set j (n,v)).map (λp=>(kv p.1,p.2)):=by
 rw[Array.toList_modify];have key:∀(f:List MapEntry)(l:List (κ×Value))j,f.map (λe=>(e.key,e.val))=l.map (λp=>(kv p.1,p.2))->(f.modify j λe=>{e with key:=kv n,val:=v}).map (λe=>(e.key,e.val))=(l.set j (n,v)).map (λp=>(kv p.1,p.2)):=by intro f;induction f with
 |nil=>intro l j h;cases l with|nil=>simp;|cons p l=>simp at h
 |cons e f w=>intro l j h;cases l with|nil=>simp at h;|cons p l=>simp[cf]at h;cases j with|zero=>simp[h.2];|succ j=>simp[h.1,w l j h.2]
 exact key _ _ _ q
end
section
variable{P:Program}{o:Oper}{a a0:Act}{k k' k0:K}{κ α:Type}[DecidableEq κ][Enc α]{kv:κ->Value}{F G:FP}
theorem A5{e g:Type}(f:e->g):∀(T:List (κ×e))(n:κ),bz (T.map λt=>(t.1,f t.2)) n=(bz T n).map f
 |[],_=>rfl|(a,v)::T,n=>by
  simp[bz];split;.rfl
  .exact A5 f T n
theorem Fx{e g:Type}(f:e->g):∀(T:List (κ×e))(n:κ)(v:e),dQ (T.map λt=>(t.1,f t.2)) n (f v)=(dQ T n v).map λt=>(t.1,f t.2)
 |[],_,_=>rfl|(a,u)::T,n,v=>by
  simp[dQ];split;.rfl
  .simp [Fx f T n v]
theorem rB{f:Type}:∀{T:List (κ×f)}{n:κ}{v:f},bz T n=some v->(n,v)∈T
 |[],_,_,h=>by simp[bz]at h;|(a,u)::T,n,v,h=>by
  simp[bz]at h;split at h;.rename_i e;subst e;simp at h;subst h;simp
  .exact bR _ (rB h)
theorem C8{j:Type}:∀{T:List (κ×j)}{n:κ},bz T n=none->∀t∈T,t.1≠n
 |[],_,_,t,f=>by simp at f;|(a,u)::T,n,h,t,f=>by
  simp[bz]at h;split at h;.simp at h
  · rename_i g;rcases bD.1 f with rfl|f;.exactλe=>g e.symm
    .exact C8 h t f
theorem Ba{f:Type}:∀{T:List (κ×f)}{n:κ}{v:f}{t:κ×f},(T.map (·.1)).Nodup->t∈dQ T n v->t=(n,v)∨(t∈T/\t.1≠n)
 |[],_,_,t,_,h=>by simp[dQ]at h;exact .inl h;|(a,u)::T,n,v,t,j,h=>by
  simp[cf]at j;simp[dQ]at h;split at h;.grind
  · rename_i g;rcases bD.1 h with rfl|h;.exact .inr ⟨by simp,λe=>g e.symm⟩
    · rcases Ba j.2 h with h|h;.exact .inl h
      .exact .inr ⟨bR _ h.1,h.2⟩
theorem yJ{g:Type}:∀(T:List (κ×g))(n:κ)(v:g),(T.map (·.1)).Nodup->((dQ T n v).map (·.1)).Nodup
 |[],_,_,_=>by simp[dQ];|(a,u)::T,n,v,e=>by
  simp only[cf,gv]at e;simp[dQ];split;.simp only[cf,gv];exact e
  · rename_i f;simp only[cf,gv];refine⟨λh=>?_,yJ T n v e.2⟩;obtain⟨t,m,j⟩:=aM.1 h;rcases Ba e.2 m with h|h;.rw [h]at j;exact f j
    grind
omit [DecidableEq κ]in theorem Py{B b:Nat}{e:TypeId}{x:List α}{v:Value}{l:List (κ×Value)}(h:ah B e x v k)(g:qY kv b l k):¬obF v b:=by
 intro f;obtain⟨_,E,q,u,_⟩:=g;rcases h with⟨rfl,_⟩|⟨H,rfl,_⟩|⟨I,off,w,y,J,rfl,M,O,j,Q,z,r⟩;.simp[obF,ob]at f
 .simp[obF,ob]at f
 .simp[obF,ob,fW z]at f;subst f;rw[u]at j;simp at j
end
structure Bv(κ α:Type)where l:List (κ×α)deriving Inhabited
class Hj(κ:Type)where kv:κ->Value
instance:Hj Int:=⟨Value.int .i64⟩
instance:Hj ByteArray:=⟨Value.string⟩
def Tv{f g:Type}[Hj f][Enc g](k:K)(v:Value)(m:Bv f g):Prop:=(v= .map none/\m.l=[])∨∃b j h,∃T:List (f×Value×g),v= .map (some b)/\k.sh b/\k.w.heap[b]?=some (.map j h)/\m.l=T.map (λt=>(t.1,t.2.2))/\j.toList.map (λe=>(e.key,e.val))=(T.map λt=>(t.1,t.2.1)).map (λp=>(Hj.kv p.1,p.2))/\∀t∈T,IsV t.2.2 t.2.1 k
instance{f g:Type}[Hj f][Enc g]:Enc (Bv f g)where
 sz:=1;agg:=false;rep k x m:=∃v,x=[v]/\Tv k v m;len h:=by obtain⟨v,rfl,_⟩:=h;rfl
 mono h r:=by
  obtain⟨v,rfl,r⟩:=r;refine⟨v,rfl,?_⟩;rcases r with r|⟨b,j,e,T,e1,q,y,z,E,F⟩;.exact .inl r
  .exact .inr ⟨b,j,e,T,e1,h.up _ q,by rw[h.blk _ q];exact y,z,E,λt G=>aW.pers h (F t G)⟩
 one h:=by obtain⟨v,rfl,r⟩:=h;rcases r with⟨rfl,_⟩|⟨b,j,e,T,rfl,_⟩<;>simp[Value.oneCell']
 agg1 _:=rfl
section
variable{P:Program}{o:Oper}{a a0:Act}{k k' k0:K}{κ α:Type}[DecidableEq κ][Hj κ][Enc α]{F G:FP}
def K.iL(k:K)(F:FP)(h:∀b,F b->b<k.w.heap.size):K:=⟨k.w,λi=>k.sh i∨F i,λi hi=>hi.elim (k.lt i) (h i)⟩
theorem tU(k:K)(F:FP)(e:∀b,F b->b<k.w.heap.size):Handed k (k.iL F e) F:=⟨rfl,⟨λ_ _=>rfl,λ_ h=> .inl h⟩,λ_ h=>h⟩
theorem ah.iL{B:Nat}{e:TypeId}{x:List α}{v:Value}(h:ah B e x v k)(g:Handed k k' G)(m:∀b,obF v b->k'.sh b):IsV x v k':=by
 rcases h with r|⟨q,rfl,rfl⟩|⟨b,off,f,u,J,rfl,y,M,z,j,E,O,Q,H,I⟩;.exact eC.2 (.inl r)
 .exact eC.2 (.inr (.inl ⟨q,rfl,rfl⟩))
 .subst H;refine eC.2 (.inr (.inr ⟨_,f,_,rfl,j,m b (by simp[obF,ob,fW E]),I.mono g.le,?_⟩));rw[g.w];exact gW z (by have:=ep (Enc.sz α) j;omega)
end
section
variable{P:Program}{o:Oper}{a a0:Act}{k k' k0:K}{α:Type}[Enc α]{F G:FP}
def mm(u:Value)(B:Nat)(e:TypeId)(x:List α):Pred:=λv k=>ah B e x v k/\∀b,obF v b->obF u b
instance(u:Value)(B:Nat)(e:TypeId)(x:List α):aZ (mm u B e x):=⟨λh⟨r,s⟩=>⟨aZ.mono h r,s⟩⟩
theorem Bx{t e:TypeId}{v:Value}{B:Nat}{x ys:List α}{lo hi:Int}(j m:Option Value)(Q:j=some (.int .i64 lo)∨(j=none/\lo=0))(R:m=some (.int .i64 hi)∨(m=none/\hi=x.length))(O:P.underlying t=some (.slice e))(ht:(P.info? e).map (·.size)=some (Enc.sz α))(hv:ah B e x v k)(h:ic x lo hi=some ys):∃v',(Instr.sliceAt t v j m none).run P k.w= .ok v' k.w/\mm v B e ys v' k:=by
 obtain⟨⟨h0,h1,h2⟩,rfl⟩:=lh h;have z:∀w,(sizeOf e).run P w= .ok (Enc.sz α) w:=λw=>run_sizeOf ht;have g:((x.take hi.toNat).drop lo.toNat).length=hi.toNat-lo.toNat:=by simp;omega
 have T:∀(len f:Nat)(w:World),len=x.length->len<=f->(Instr.sliceBounds true len f j m none).run P w= .ok (lo.toNat,hi.toNat,f) w:=by
  intro len f w hl u;subst hl;have b1:=run_sliceBound (P:=P) (i:=hi) (y:=f) (c:= .sliceAcap) (w:=w) (by omega) (by omega);have b2:=run_sliceBound (P:=P) (i:=lo) (y:=hi.toNat) (c:= .sliceB) (w:=w) h0 (by omega);rcases Q with rfl|⟨rfl,rfl⟩<;>rcases R with rfl|⟨rfl,rfl⟩;.simp[Instr.sliceBounds,b1,b2]
  ·have b3:=run_sliceBound (P:=P) (i:=lo) (y:=x.length) (c:= .sliceB) (w:=w) h0 (by omega);simp[Instr.sliceBounds,b3]
  .simp[Instr.sliceBounds,b1]
  .simp[Instr.sliceBounds]
 rcases hv with⟨rfl,rfl⟩|⟨ad,rfl,rfl⟩|⟨b,off,f,H,cs,rfl,hB,ho,hh,u,h0',hmx,hcs,q,hr⟩
 · simp only[iC,vd]at h2;have e1:lo.toNat=0:=by omega
   have U:hi.toNat=0:=by omega
   have:=T 0 0 k.w rfl (aA _);refine⟨.slice none 0 0,?_, .inl ⟨rfl,by simp⟩,λ _ h=>h⟩;simp[Instr.sliceAt,Instr.slice,run_underlying O,this,z,e1,U]
 · simp only[iC,vd]at h2;have e1:lo.toNat=0:=by omega
   have U:hi.toNat=0:=by omega
   have:=T 0 0 k.w rfl (aA _);refine⟨.slice (some ad) 0 0,?_, .inr (.inl ⟨ad,rfl,by simp⟩),λ _ h=>h⟩;simp[Instr.sliceAt,Instr.slice,run_underlying O,this,z,e1,U]
 · have I:=T x.length f k.w rfl u;by_cases E:f=lo.toNat
   · have J:(x.take hi.toNat).drop lo.toNat=[]:=iA (by rw[g];omega);refine⟨.slice (some ⟨b,off,none⟩) 0 0,?_, .inr (.inl ⟨_,rfl,J⟩),λc u=>by simp[obF,ob]at u⟩;have e3:hi.toNat-f=0:=by omega
     simp[Instr.sliceAt,Instr.slice,run_underlying O,I,z,<-E,e3]
   · have M:(⟨b,off,none⟩:Addr).add (lo.toNat*Enc.sz α)=⟨b,off+lo.toNat*Enc.sz α,none⟩:=by
      unfold Addr.add;split;.rename_i h;rw[h];simp
      .rfl
     have hm3:lo.toNat*Enc.sz α+(f-lo.toNat)*Enc.sz α=f*Enc.sz α:=by rw[<-dM,Nat.add_sub_cancel' (by omega)]
     refine⟨.slice (some ⟨b,off+lo.toNat*Enc.sz α,none⟩) (hi.toNat-lo.toNat) (f-lo.toNat),?_, .inr (.inr ⟨b,off+lo.toNat*Enc.sz α,f-lo.toNat,H,_,by rw[g],hB,ho,hh,by rw[g];omega,by omega,by omega,by omega,rfl,?_⟩),?_⟩;·have:¬f=lo.toNat:=E;simp[Instr.sliceAt,Instr.slice,run_underlying O,I,z,E,M]
     · have V:=cV.drop lo.toNat (cV.take hi.toNat hr);rw[g];have e5:((H.toList.drop (off+lo.toNat*Enc.sz α)).take ((hi.toNat-lo.toNat)*Enc.sz α))=(cs.take (hi.toNat*Enc.sz α)).drop (lo.toNat*Enc.sz α):=by have W:hi.toNat*Enc.sz α<=x.length*Enc.sz α:=ep _ (by omega);rw[<-q,mj,mb W,om,iz,Nat.sub_mul]
       rw[e5];exact V
     ·intro c u;simp only[obF,ob]at u⊢;rw[if_neg (by omega)]at u⊢;exact u
section
variable{t e:TypeId}{x y z:Operand}{xs ys:List α}{lo hi:Int}{B:Nat}{u:Value}
theorem Ef(j:o.op= .slice t x (some y) none none)(m:P.underlying t=some (.slice e))(q:(P.info? e).map (·.size)=some (Enc.sz α))(f:bC u B e xs (a.eval x) k)(g:IsV lo (a.eval y) k)(h:ic xs lo xs.length=some ys):aX P o a k (mm u B e ys):=by have g:=au.1 g;obtain⟨rfl,f⟩:=f;obtain⟨v,w,E⟩:=Bx (some (.int .i64 lo)) none (.inl rfl) (.inr ⟨rfl,rfl⟩) m q f h;refine ak ?_ E;simp[execOp,j,g,w]
theorem EW(j:o.op= .slice t x none (some z) none)(m:P.underlying t=some (.slice e))(q:(P.info? e).map (·.size)=some (Enc.sz α))(f:bC u B e xs (a.eval x) k)(g:IsV hi (a.eval z) k)(h:ic xs 0 hi=some ys):aX P o a k (mm u B e ys):=by have g:=au.1 g;obtain⟨rfl,f⟩:=f;obtain⟨v,w,E⟩:=Bx none (some (.int .i64 hi)) (.inr ⟨rfl,rfl⟩) (.inl rfl) m q f h;refine ak ?_ E;simp[execOp,j,g,w]
end
end
theorem cu{P:Program}{o:Oper}{a:Act}{k:K}{R S:Pred}(h:aX P o a k R)(hi:∀v k',bE k k'->R v k'->S v k'):aX P o a k S:=λnext Q f j=>h next Q f λv k' g m=>j v k' g (hi v k' g m)
def kOf(W:World):K:=⟨W,λb=>b<W.heap.size,λ _ h=>h⟩
class Rg (α:Type)where
 rg:α->Prop
 bk:α->Nat
instance:Rg Int:=⟨inI,λ _=>0⟩
instance:Rg Bool:=⟨λ _=>True,λ _=>0⟩
instance:Rg ByteArray:=⟨λb=>b.size<=maxLen,λ _=>0⟩
def bkL{α:Type}(f:α->Nat):List α->Nat|[]=>0|x::l=>f x+1+bkL f l
theorem AH{α:Type}(f:α->Nat):∀l m:List α,bkL f (l++m)=bkL f l+bkL f m|[],m=>by simp[bkL];|x::l,m=>by simp only[rm,bkL,AH f l m];omega
mutual def tM{H:Type}:DataW H->Nat| .lit (.string bytes)=>bytes.length+1| .lit _=>1| .nil=>1| .ptr d=>tM d+1| .slice elems spare=>ji elems+ji spare+1| .agg parts=>ji parts+1| .iface _ d=>tM d+1| .map entries=>Nj entries+1| .held _=>1 def ji{H:Type}:List (DataW H)->Nat|[]=>0|d::r=>tM d+ji r def Nj{H:Type}:List (Lit×DataW H)->Nat|[]=>0|x::r=>SO x+Nj r def SO{H:Type}:Lit×DataW H->Nat|(.string bytes,d)=>bytes.length+tM d+1|(_,d)=>tM d+1 end
theorem Br{H:Type}(d:DataW H):1<=tM d:=by cases d with|lit l=>cases l<;>simp[tM];|_=>simp[tM]
theorem vZ{H:Type}:∀l r:List (DataW H),ji (l++r)=ji l+ji r|[],r=>by simp[ji];|x::l,r=>by simp only[rm,ji,vZ l r];omega
def GK:Nat:=140737488351232
instance{α:Type}[Rg α]:Rg (List α):=⟨λl=>l.length<=GK/\∀x∈l,Rg.rg x,bkL Rg.bk⟩
instance{α β:Type}[Rg α][Rg β]:Rg (α×β):=⟨λp=>Rg.rg p.1/\Rg.rg p.2,λp=>Rg.bk p.1+Rg.bk p.2⟩
@[reducible]def Rg.ofMap{σ β:Type}[Rg β](f:σ->β):Rg σ:=⟨λx=>Rg.rg (f x),λx=>Rg.bk (f x)⟩
def RdC(P:Program)(t:TypeId)(α:Type)[Enc α][Rg α]:Prop:=∀{H:Type}(enc:TypeId×Value->H)(W:World)(fuel:Nat)(cs:List Value)(x:DataW H×List MemPlace),DataW.trod enc P W 0 (λ_=>true) true fuel t cs=some x->(∀n∈DataW.weights P t x.1,n<=reachBytes)->∃y:α,Enc.rep (kOf W) cs y/\Rg.rg y/\Rg.bk y+1<=tM x.1
theorem zC{H:Type}{P:Program}{e:TypeId}{d:DataW H}{n:Nat}(hn:n∈DataW.weights P e d):∀{l:List (DataW H)},d∈l->n∈DataW.weightsAll P e l
 |x::l,h=>by
  simp only[DataW.weightsAll,dq];rcases bD.1 h with rfl|h;.exact .inl hn
  .exact .inr (zC hn h)
structure Rd (P:Program)(t:TypeId)(α:Type)[Enc α][Rg α]:Prop where
 rd:RdC P t α
 sh:∀(W:World)(r:Reach)(base:Nat)(v:Value),Value.okWide P W r base t v->v=mkV (Enc.agg α) v.cells.toList
section
variable {P:Program}{t e:TypeId}{α β σ:Type}[Enc α][Enc β][Rg α][Rg β]
theorem Tn(hu:P.underlying t=some (.int .i64)):Rd P t Int where
 rd {H}enc W fuel cs x h _:=by obtain⟨n,rfl,_,hw⟩:=DataW.trod_int hu h;refine⟨n,rfl,?_,Br _⟩;simp[Lit.wf,IntKind.min,IntKind.max,IntKind.bits,IntKind.signed]at hw;exact hw
 sh W r base v h:=by obtain⟨n,rfl⟩:=WideShapes.okWide_int hu h;rfl
theorem Qk(hu:P.underlying t=some .bool):Rd P t Bool where
 rd {H}enc W fuel cs x h _:=by obtain⟨n,rfl,_⟩:=DataW.trod_bool hu h;exact⟨n,rfl,trivial,Br _⟩
 sh W r base v h:=by obtain⟨n,rfl⟩:=WideShapes.okWide_bool hu h;rfl
theorem KM(hu:P.underlying t=some .string):Rd P t ByteArray where
 rd {H}enc W fuel cs x h _:=by obtain⟨n,rfl,_,hw⟩:=DataW.trod_string hu h;exact⟨n,rfl,hw,Br _⟩
 sh W r base v h:=by obtain⟨n,rfl⟩:=WideShapes.okWide_string hu h;rfl
theorem EI{W:World}{a:Addr}{u:Value}(h:W.cell? a=some u):a.spot=none/\∃arr t fr,W.heap[a.block]?=some (.cells arr t fr)/\arr[a.off]?=some u:=by unfold World.cell? at h;cases hh:W.heap[a.block]?with
 |none=>rw[hh]at h;simp at h
 |some o=>rw[hh]at h;cases o with|cells arr t fr=>
 simp only at h;split at h;.simp at h
 ·rename_i hs;refine⟨by simpa using hs,arr,t,fr,rfl,h⟩|_=>simp at h
theorem add_eq{a:Addr}(ha:a.spot=none)(i:Nat):a.add i=⟨a.block,a.off+i,none⟩:=by
 unfold Addr.add;split;.rename_i h;subst h;cases a;simp_all
 .rfl
theorem Ly{W:World}{a:Addr}{n i:Nat}{l:List Value}{arr:Array Value}{t:TypeId}{fr:Nat×Nat}(ha:a.spot=none)(hh:W.heap[a.block]?=some (.cells arr t fr))(hn:0<n)(h:W.cells? 0 (a.add i) n=some l):a.off+i+n<=arr.size/\l=(arr.toList.drop (a.off+i)).take n:=by
 obtain⟨_,hl,hc⟩:=World.cells?_some h;rw[add_eq ha]at hc;have hcell:∀j,j<n->arr[a.off+i+j]?=l[j]?:=by intro j hj;have hj':=hc j hj;rw[add_eq rfl,bZ (by omega)]at hj';obtain⟨_,arr',t',fr',hh',hj2⟩:=EI hj';simp only at hh';rw[hh]at hh';simp only[aU,Obj.cells.injEq]at hh';obtain⟨rfl,_⟩:=hh';rw[hj2,bZ (by omega)]
 have hlast:=hcell (n-1) (by omega);rw[bZ (show n-1<l.length by omega)]at hlast;have hlt:=(bO.1 hlast).1;refine⟨by omega,oC λj=>?_⟩;by_cases hj:j<n;·rw[lR,if_pos hj,nM,<-hcell j hj];simp
 .rw[vD (by omega),vD (by simp;omega)]
theorem dI(hu:P.underlying t=some (.slice e))(hz:P.cellsOf e=Enc.sz α)(h0:0<Enc.sz α)(hby:Nat.ble 1 (P.bytesOf e)=true)(he:Rd P e α):Rd P t (List α)where
  rd {H}enc W fuel cs x h hwt:=by
    rcases DataW.trod_slice hu h with⟨rfl,_⟩|⟨a,len,cap,elems,rest,n,_,rfl,rfl,_,hlc,hcm,hel,hE,hR,_⟩;.exact⟨[],⟨_,rfl, .inl ⟨rfl,rfl⟩⟩,⟨by simp,λx hx=>by simp at hx⟩,Br _⟩
    · rw[hz]at hE hR;obtain⟨hrl,hR⟩:=hR rfl;simp only[DataW.weights,hu]at hwt;have hlen:len<=GK:=by have h1:=hwt _ (dw ..);rw[jv,jv,hel]at h1;have h2:=oD hby;have h3:(len+rest.length)*1<=(len+rest.length)*P.bytesOf e:=Nat.mul_le_mul_left _ h2;show len<=140737488351232;have h4:reachBytes=140737488351232:=rfl;omega
      by_cases hc0:cap=0
      · obtain rfl:len=0:=by omega
        exact⟨[],⟨_,rfl, .inr (.inl ⟨a,by rw[hc0],rfl⟩)⟩,⟨by simp,λx hx=>by simp at hx⟩,Br _⟩
      . obtain⟨l0,hl0⟩:∃l0,W.cells? 0 (a.add 0) (Enc.sz α)=some l0:=by
         by_cases hl:0<len;·have:=hE 0 hl;rw[bZ (by omega),rn,xT]at this;obtain⟨l0,h,_⟩:=this;exact⟨l0,h⟩
         ·have:=hR 0 (by omega);rw[bZ (by omega),show(len+0)*Enc.sz α=0 by rw[show len=0 by omega];simp,xT]at this;obtain⟨l0,h,_⟩:=this;exact⟨l0,h⟩
        have ha0:a.add 0=a:=by simp[Addr.add]
        obtain⟨_,hll,hlc0⟩:=World.cells?_some hl0;have h00:=hlc0 0 h0;rw[ha0,ha0,bZ (by omega)]at h00;obtain⟨hsp,arr,t',fr,hh,_⟩:=EI h00;have hlt:a.block<W.heap.size:=(bO.1 hh).1;have key:∀m,m<=len->∃xs:List α,xs.length=m/\cV (kOf W) ((arr.toList.drop a.off).take (m*Enc.sz α)) xs/\(∀x∈xs,Rg.rg x)/\(m=0∨a.off+m*Enc.sz α<=arr.size)/\bkL Rg.bk xs<=ji ((elems.take m).map (·.1)):=by intro m;induction m with|zero=>intro _;exact⟨[],rfl,by simp[cV],λx hx=>by simp at hx, .inl rfl,bY _⟩;|succ m ih=>
       intro hm;obtain⟨xs,h1,h2,h3,h4,h5⟩:=ih (by omega);have:=hE m (by omega);rw[bZ (by omega),xT]at this;obtain⟨l,hl,htr⟩:=this;obtain⟨hsz,rfl⟩:=Ly hsp hh h0 hl;obtain⟨y,hy,hyr,hyb⟩:=he.rd enc W n _ _ htr λw hw=>hwt w (bR _ (qX _ (zC hw (aM.2 ⟨_,aN (show m<elems.length by omega),rfl⟩))));refine⟨xs++[y],by simp[h1],?_,?_, .inr (by rw[dM,Nat.one_mul];omega),by rw[AH,dB (show m<elems.length by omega),gb,vZ];simp only[bkL,cf,ir,ji];omega⟩
       · have e1:(arr.toList.drop a.off).take ((m+1)*Enc.sz α)=(arr.toList.drop a.off).take (m*Enc.sz α)++(arr.toList.drop (a.off+m*Enc.sz α)).take (Enc.sz α):=by rw[dM,Nat.one_mul,rp,iz]
         rw[e1];have hly:=Enc.len hy;refine h2.append ⟨?_,?_⟩;.rw[oz (by omega)];exact hy
         .simp only[cV];rw[vu (by omega)]
       · intro x hx;rcases dq.1 hx with hx|hx;.exact h3 x hx
         .simp at hx;rw[hx];exact hyr
        obtain⟨xs,h1,h2,h3,h4,h5⟩:=key len (aA _);subst h1;refine⟨xs,⟨_,rfl, .inr (.inr ⟨a,cap,_,rfl,hlc,hlt,h2,hsp,arr,t',fr,hh,?_,?_⟩)⟩,⟨hlen,h3⟩,by
 rw[oz (by omega)]at h5;show bkL Rg.bk xs+1<=ji _+ji _+1
 omega⟩;· have hc1:=(bO.1 (show arr[a.off]?=some _ from by assumption)).1;rw[h2.len];rcases h4 with h4|h4;.rw[h4,rn];omega
          .exact h4
        ·intro j hj;rw[lR,if_pos (by rw[h2.len]at hj;exact hj),nM];simp
  sh W r base v h:=by obtain⟨a,l,c,rfl⟩:=WideShapes.okWide_slice hu h;rfl
structure RdF (P:Program)(fs:List Field)(o:Nat)(α:Type)[Enc α][Rg α]:Prop where run:∀{H:Type}(enc:TypeId×Value->H)(W:World)(fuel:Nat)(cs:List Value)(ds:List (DataW H)),cs.length=o+Enc.sz α->ds.length=fs.length->(∀(i:Nat)(f:Field)(d:DataW H),fs[i]?=some f->ds[i]?=some d->∃ps,DataW.trod enc P W 0 (λ_=>true) true fuel f.type ((cs.drop f.offset).take (P.cellsOf f.type))=some (d,ps)/\∀n∈DataW.weights P f.type d,n<=reachBytes)->∃y:α,Enc.rep (kOf W) (cs.drop o) y/\Rg.rg y/\Rg.bk y<=ji ds
theorem RdF.one{f:Field}{o:Nat}(ho:f.offset=o)(hz:P.cellsOf f.type=Enc.sz α)(h:Rd P f.type α):RdF P [f] o α:=by refine⟨?_⟩;intro H enc W fuel cs ds hl hd hf;obtain⟨d,rfl⟩:=pz.1 hd;obtain⟨x,hx,hxw⟩:=hf 0 f d rfl rfl;rw[ho,hz,oz (by simp;omega)]at hx;obtain⟨y,h1,h2,h3⟩:=h.rd enc W fuel _ _ hx hxw;have h3:Rg.bk y+1<=tM d:=h3;exact⟨y,h1,h2,by simp only[ji];omega⟩
theorem RdF.cons{f:Field}{fs:List Field}{o:Nat}(ho:f.offset=o)(hz:P.cellsOf f.type=Enc.sz α)(h:Rd P f.type α)(g:RdF P fs (o+Enc.sz α) β):RdF P (f::fs) o (α×β):=by refine⟨?_⟩;intro H enc W fuel cs ds hl hd hf;cases ds with|nil=>simp at hd;|cons d ds=>obtain⟨x,hx,hxw⟩:=hf 0 f d rfl rfl;rw[ho,hz]at hx;have hl':cs.length=o+(Enc.sz α+Enc.sz β):=hl;obtain⟨y,hy,hyr,hyb⟩:=h.rd enc W fuel _ _ hx hxw;obtain⟨z,hz',hzr,hzb⟩:=g.run enc W fuel cs ds (by omega) (by simpa using hd) (λi f' d' h1 h2=>hf (i+1) f' d' (by simpa using h1) (by simpa using h2));rw[<-iz]at hz';exact⟨(y,z),⟨by simp;omega,hy,hz'⟩,⟨hyr,hzr⟩,by show Rg.bk y+Rg.bk z<=tM d+ji ds;have hyb:Rg.bk y+1<=tM d:=hyb;omega⟩
theorem ck[Enc σ][Rg σ]{fs:Array Field}{f:σ->β}(g:β->σ)(hu:P.underlying t=some (.struct fs))(hz:P.cellsOf t=Enc.sz β)(hag:Enc.agg σ=true)(hr:∀k cs y,Enc.rep (α:=β) k cs y->Enc.rep (α:=σ) k cs (g y)) (hrg:∀y:β,Rg.rg y->Rg.rg (g y)) (h:RdF P fs.toList 0 β) (_hf:∀y,f (g y)=y) (hbk:∀y:β,Rg.bk (g y)=Rg.bk y:=by intro _;rfl):Rd P t σ where
 rd {H}enc W fuel cs x hx hwt:=by obtain⟨xs,n,_,rfl,hl,hxl,he⟩:=DataW.trod_struct hu hx;simp only[DataW.weights,hu]at hwt;obtain⟨y,hy,hyr,hyb⟩:=h.run enc W n cs (xs.map (·.1)) (by omega) (by simpa using hxl) (λi f d h1 h2=>by
 have hi:i<fs.size:=by simpa using(kr.1 h1).1
 have hf:fs[i]?=some f:=by simpa using h1
 have:=he i f hf;rw[bZ (by omega)]at this;have hd:xs[i].1=d:=by rw[nX,bZ (by omega)]at h2;exact ae h2
 refine⟨xs[i].2,by rw[this,<-hd],λw hw=>?_⟩;rw[<-hd]at hw;exact hwt w (DataW.weights_mem_each (j:=i) (t:=f.type) (d:=xs[i].1) (by simp[h1]) (by rw[nX,bZ (by omega)];rfl) w hw));exact⟨g y,hr _ _ _ (by simpa using hy),hrg _ hyr,by rw[hbk];show Rg.bk y+1<=ji _+1;omega⟩
 sh W r base v h:=by obtain⟨cs,rfl,_⟩:=WideShapes.okWide_struct hu h;rw[hag];simp[mkV,Value.cells]
end
section
variable{H:Type}{enc:TypeId×Value->H}{P:Program}{fn:Func}{s:ChangeSpec}{W:World}
theorem KN{u:K}{m:MemPlace->Prop}(h:bE (kOf W) u):W.keptBut u.w m:=by refine⟨h.os,h.out,λi hi=>?_⟩;have:=h.blk i hi;rw[this];show(match W.heap[i]?,W.heap[i]?with|some (.cells c t y),some (.cells x z g)=>z=t/\g=y/\x.size=c.size/\∀j:Nat,¬m (.cell i j)->x[j]?=c[j]?|some (.map E f),some (.map q e)=>m (.map i)∨(q=E/\e=f)|o,F=>F=o);grind
theorem I3{e:K}(h:bE (kOf W) e):RowKit.Below W.heap.size W e.w:=⟨h.os,h.tape,h.out,h.size,h.blk⟩
theorem wa(z:laidOutB P=true){E:K}(F:bE (kOf W) E):∀{g:List TypeId}{j:List Value}{m:List (DataW H)}{e:List MemPlace},g.all (λt=>P.readableRec t&&decide (t<P.types.size))=true->DataW.TrodAll enc P W 0 (λ_=>true) true g j m e->(∀p∈e,p.block<W.heap.size)->DataW.TrodAll enc P E.w 0 (λb=>decide (b<W.heap.size)) true g j m e|[],j,m,e,_,h,_=>by obtain⟨rfl,rfl,rfl⟩:=ChangeShapes.trodAll_nil h;exact rfl;|t::g,j,m,e,u,h,f=>by obtain⟨v,G,d,I,p,q,rfl,rfl,rfl,h1,J⟩:=ChangeShapes.trodAll_cons h;simp only[List.all_cons,aD,decide_eq_true_eq]at u;exact⟨p,q,RowKit.Below.trod z u.1.1 u.1.2 h1 (I3 F) (λx y=>f x (by simp[y])),wa z F u.2 J (λx y=>f x (by simp[y])),rfl⟩
theorem Oh{e:Bool}{args:Array Value}{m I:List (DataW H)}{g:List MemPlace}{tb:TypeId}{J:K}(y:DataW.Whole enc P fn.params.toList s.vars e W args.toList m I g)(O:laidOutB P=true)(z:fn.params.toList.all (λt=>P.readableRec t&&decide (t<P.types.size))=true)(f:s.vars=[])(E:fn.resultTypes=#[tb])(Q:P.underlying tb=some .bool)(j:s.fn H (m++I)={results:=[.lit (.bool true)],args:=m})(M:bE (kOf W) J):s.post enc P fn e true false false W args (.bool true) J.w:=by
 have F:=y.lt;have G:=y;obtain⟨p,q,R,V,rfl,T,U⟩:=y;rw[f]at V;obtain⟨rfl,rfl⟩:=ChangeShapes.trodVars_none V;refine⟨m,[],p++[],[],p,[],G,?_,?_,?_,World.keptBut_mono (λx u=>⟨u, .inr (.inl (by simpa using u))⟩) (KN M),λh=>by simp at h⟩;.rw[j,E];refine⟨[],[],⟨1,?_⟩,rfl,rfl⟩;simp[DataW.trod,Value.cells,Q]
 .rw[j];exact wa O M z R (λx u=>F x (by simp[u]))
 .rw[j,f];exact rfl
theorem BN{P:Program}{t:TypeId}{f:Type}[Enc f][Rg f](j:Rd P t f){v:Value}{d:DataW H}{m:List MemPlace}(h:DataW.Trod enc P W 0 (λ_=>true) true t v d m){r:Reach}{e:Nat}(g:Value.okWide P W r e t v)(w:∀n∈DataW.weights P t d,n<=reachBytes):∃y:f,IsV y v (kOf W)/\Rg.rg y:=by obtain⟨n,q⟩:=h;obtain⟨y,u,x,_⟩:=j.rd enc W n _ _ q w;exact⟨y,⟨_,j.sh W r e v g,u⟩,x⟩
theorem L1{f:FuncId}{args:Array Value}{Q:Ending->World->Prop}(h:Calls P f args (kOf W).w (Ret (kOf W) (IsV true)))(q:∀j:K,bE (kOf W) j->Q (.returned (.bool true)) j.w):Calls P f args W Q:=h.mono λe z m=>by cases e with|returned v=>obtain⟨j,rfl,x,y⟩:=m;rw[aE.1 y];exact q j x;|panicked c=>exact m.elim;|outgrown=>exact m.elim
end
open Go.Proofs Go.Sort Go.RowKit Go.Lib
variable{P:Program}{α:Type}
class cS(α:Type)[Enc α]where
 enc:α->List Value
 rep:∀{k:K}{cs:List Value}{x:α},Enc.rep k cs x↔cs=enc x
instance:cS Int:=⟨λn=>[.int .i64 n],iD⟩
instance:cS Bool:=⟨λn=>[.bool n],iD⟩
instance{α e:Type}[Enc α][Enc e][cS α][cS e]:cS (α×e)where
 enc p:=cS.enc p.1++cS.enc p.2;rep{k q p}:=by
  have f:(cS.enc p.1).length=Enc.sz α:=Enc.len (k:=k) (cS.rep.2 rfl);have j:(cS.enc p.2).length=Enc.sz e:=Enc.len (k:=k) (cS.rep.2 rfl);constructor;.rintro⟨_,h1,m⟩;rw[<-cS.rep.1 h1,<-cS.rep.1 m,gO]
  .rintro rfl;exact⟨by rw[bA,f,j],cS.rep.2 (il f),cS.rep.2 (qW f)⟩
@[reducible]def cS.ofMap{σ β:Type}[Enc β][cS β](f:σ->β):@cS σ (Enc.ofMap f):=letI:Enc σ:=Enc.ofMap f
 ⟨λx=>cS.enc (f x),λ{_ _ x}=>cS.rep (x:=f x)⟩
theorem F8[Enc α][cS α](k:K)(x:α):(cS.enc x).length=Enc.sz α:=Enc.len (k:=k) (cS.rep.2 rfl)
theorem GU[Enc α][cS α](k:K)(x:α):∀v∈cS.enc x,v.oneCell'=true:=Enc.one (k:=k) (cS.rep.2 rfl)
theorem pc[Enc α][cS α]{k:K}:∀{xs:List α}{e:List Value},cV k e xs↔e=(xs.map cS.enc).flatten
 |[],e=>by simp[cV];|x::xs,e=>by
  have f:=F8 k x;simp[cV];rw[pc,cS.rep];constructor;.rintro⟨h1,h⟩;rw[<-h1,<-h,gO]
  grind
theorem zu[Inhabited α]{f:α->List Value}{n:Nat}(q:∀x,(f x).length=n):∀(j:List α)(t:Nat),t<j.length*n->(j.map f).flatten[t]?=(f (j[t/n]?.getD default))[t%n]?
 |[],t,h=>by simp at h;|x::j,t,h=>by
  have m:0<n:=uZ λe=>by subst e;simp at h
  simp[List.getElem?_append,q];by_cases g:t<n;.rw [if_pos g,Nat.div_eq_of_lt g,Nat.mod_eq_of_lt g];rfl
  · rw[if_neg g,zu q j (t-n) (by simp[dM]at h;omega)];have e1:t/n=(t-n)/n+1:=by rw[<-Nat.add_div_right _ m,Nat.sub_add_cancel (vH g)]
    have u:t%n=(t-n)%n:=by rw[<-Nat.add_mod_right (t-n) n,Nat.sub_add_cancel (vH g)]
    rw[e1,u,List.getElem?_cons_succ]
theorem sW[Inhabited α]{enc:α->List Value}{n:Nat}(q:∀x,(enc x).length=n)(d:Array α):(flatK enc n d).toList=(d.toList.map enc).flatten:=by
 refine oC λt=>?_;by_cases h:t<d.size*n
 · rw[zu q _ _ (by simpa using h)];have f:0<n:=uZ λe=>by subst e;simp at h
   have w:t/n<d.size:=(Nat.div_lt_iff_lt_mul f).2 h;have y:=Nat.mod_lt t f;have h1:=get_flatK enc n d t h;simp_all
 · rw[vD (by simpa using vH h),vD];rw[show((d.toList.map enc).flatten).length=d.size*n from ?_];.exact vH h
   · have:∀j:List α,((j.map enc).flatten).length=j.length*n:=by intro j;induction j with|nil=>simp;|cons x j z=>simp only[cf,rT,bA,q,eU,dM];omega
     rw[this];simp
theorem zS(off:Nat)(d c:Array Value)(h:off+d.size<=c.size):((putCells id off d c).toList.drop off).take d.size=d.toList:=by
 refine oC λt=>?_;rw[lR];split;.rename_i e;rw[nM,rG,putCells,Array.getElem?_mapIdx,dU (by omega),dW,if_pos (by omega),r6,getElem!_pos d t e,rG,dU e];rfl
 grind
theorem Fu[Inhabited α][Enc α][cS α]{f:FuncId}{FV:Value}{S:Array α->Array α}(hS:∀d,(S d).size=d.size){e:TypeId}{q:List α}{v0:Value}{u:K}(V:∀p m w,Calls P f #[.slice p 0 m,FV] w λe y=>e= .returned (.tuple #[])/\y=w)(hc:∀blk off m(w:World),HoldsK cS.enc (Enc.sz α) w blk off q.toArray->blk<w.heap.size->Calls P f #[.slice (some ⟨blk,off,none⟩) q.toArray.size m,FV] w λe y=>e= .returned (.tuple #[])/\∃n os,y=sortWorldK cS.enc (Enc.sz α) w blk off n (S q.toArray) os)(i0:ah 0 e q v0 u):Calls P f #[v0,FV] u.w (cr (obF v0) u λ_ M=>ah 0 e (S q.toArray).toList v0 M):=by
 have hS0:q=[]->(S q.toArray).toList=[]:=λh=>by grind
 have hz:∀p m,v0= .slice p 0 m->q=[]->Calls P f #[v0,FV] u.w (cr (obF v0) u λ _ M=>ah 0 e (S q.toArray).toList v0 M):=by intro p m hv G;subst hv;refine(V p m u.w).mono ?_;rintro e' y⟨rfl,rfl⟩;refine⟨u,rfl,Chg.refl _ u,?_⟩;rw[hS0 G];rw[G]at i0;exact i0
 rcases i0 with⟨hv,G⟩|⟨a,hv,G⟩|⟨b,off,m,O,cs,rfl,hB,ho,hh,hc1,hc0,hcm,T,hcs,hrep⟩;.exact hz _ _ hv G
 .exact hz _ _ hv G
 · have hlt:b<u.w.heap.size:=(bO.1 hh).1;have hn:=F8 (α:=α) u;have hroom:off+q.length*Enc.sz α<=O.size:=bB (Nat.add_le_add_left (ep _ hc1) _) T;have hcl:cs=(flatK cS.enc (Enc.sz α) q.toArray).toList:=by rw[sW hn];exact pc.1 hrep
   have hH:HoldsK cS.enc (Enc.sz α) u.w b off q.toArray:=by
    intro j hj;rw[size_flatK]at hj;simp only[kn]at hj;refine⟨?_,by simp[World.frozen?,hh]⟩;have h1:cs[j]?=O[off+j]?:=by rw[<-hcs,lR,if_pos hj,nM,rG]
    rw[hcl,rG]at h1;simp only[World.cell?,hh,<-h1];grind
   have I:=hc b off m u.w hH hlt;rw[show q.toArray.size=q.length from kn]at I;refine I.mono ?_;rintro e' y⟨rfl,n,os,hw⟩;have hsz:u.w.heap.size<=y.heap.size:=by rw[hw];unfold sortWorldK putRowK;simp
   have hblk:∀x,x<u.w.heap.size->x≠b->y.heap[x]?=u.w.heap[x]?:=by intro x G hxb;rw[hw];unfold sortWorldK putRowK putRow mapBlock;rw[heap_grow_old _ _ (by simpa using G)];simp[vB,hxb.symm]
   have hrow:y.heap[b]?=some (.cells (putCells id off (flatK cS.enc (Enc.sz α) (S q.toArray)) O) e (0,0)):=by rw[hw];unfold sortWorldK putRowK putRow mapBlock;rw[heap_grow_old _ _ (by simpa using hlt)];simp[vB,hh,onCells]
   have hSl:(S q.toArray).toList.length=q.length:=by simp[hS]
   let M:K:=⟨y,u.sh,λx G=>gk (u.lt x G) hsz⟩;refine⟨M,rfl,⟨by rw[show M.w=y from rfl,hw];rfl,by rw[show M.w=y from rfl,hw];rfl,by rw[show M.w=y from rfl,hw];rfl,hsz,λx G hF=>hblk x G λe'=>hF (by simp[obF,ob,e',fW hc0]),λ _ h=>h,λ _ _ h=> .inl h,by rw[show M.w=y from rfl,hw];exact Nat.le_add_right _ _⟩, .inr (.inr ⟨b,off,m,_,_,by rw[hSl],hB,ho,hrow,by rw[hSl];exact hc1,hc0,hcm,by simpa[putCells]using T,rfl,?_⟩)⟩;rw[pc,<-sW hn,hSl];have U:(flatK cS.enc (Enc.sz α) (S q.toArray)).size=q.length*Enc.sz α:=by rw[size_flatK,hS];simp
   rw[<-U];exact zS off _ O (by rw[U];exact hroom)
theorem o7{k:K}{a:Act}{o:Oper}[Enc α]{t:TypeId}{y:Operand}{x:α}(u:o.op= .box t y)(h:IsV x (a.eval y) k):aX P o a k (aS x):=by obtain⟨f,z,E⟩:=ni h;have g:=K.dT k (.cells f t);have j:Box k.w.heap.size x (k.alloc (.cells f t)):=xK E;refine eS (k':=(k.alloc (.cells f t)).share k.w.heap.size j.lt) ?_ ⟨g.tape,g.os,g.out,g.size,g.blk,λb m=>(K.sk _ _ j.lt).up b (g.up b m),λb q m=>m.elim (g.new b q) (λe=>absurd e (by omega)),g.drawn⟩ j.share;simp[execOp,u];simp[Instr.box,newVar,z];rfl
theorem U0(a:Act)(t:Nat):a.eval (.tmp t)=a.get t:=rfl
def Ut(n m:Int):Int:=IntKind.i64.wrap ((BitVec.ofInt 64 n&&&BitVec.ofInt 64 m).toNat:Int)
theorem Tw{k:K}{a:Act}{o:Oper}{t u:TypeId}{x y:Operand}{n m:Int}(f:o.op= .binOp .and t x y u)(h:IsV n (a.eval x) k)(e:IsV m (a.eval y) k):aX P o a k (IsV (Ut n m)):=by have h:=au.1 h;have e:=au.1 e;refine ak ?_ (au.2 rfl);simp[execOp,f,h,e];rfl
end Go.Gb
namespace Go.Gb
def QN(Q:Exit->Act->World->Prop):Exit->Act->World->Prop:=λe a w=>match e with| .normal=>Q .normal a w|_=>False
def MB(A:Array Oper)(l:Nat):Bool:=match A[l]?with|some o=>(match o.op with| .move (.tmp _)=>true| .assign (.tmp _)=>true|_=>false)&&o.guard.isNone&&o.after.isEmpty&&o.dst.isSome|none=>false
def jQ(A:Array Oper)(l:Nat):Nat×Nat:=match A[l]?with|some o=>(o.dst.getD 0,match o.op with| .move (.tmp s)=>s| .assign (.tmp s)=>s|_=>0)|none=>(0,0)
def jM(A:Array Oper):List Nat->Act->Act|[],a=>a|l::r,a=>jM A r (a.put (some (jQ A l).1) (a.get (jQ A l).2))
def tT:Array Bool->List Nat->Array Bool|b,[]=>b|b,l::r=>tT (b.setIfInBounds l true) r
def qt(A:Array Oper):Array Bool->List Nat->Bool|_,[]=>true|b,l::r=>MB A l&&Region.free .any A b l&&(Region.ready .any A b).contains l&&qt A (b.setIfInBounds l true) r
def BW(A:Array Oper)(l:Nat):Bool:=match A[l]?with|some o=>(match o.op with| .move (.tmp _)=>true| .assign (.tmp _)=>true| .extract (.tmp _) _=>true|_=>false)&&o.guard.isNone|none=>false
def N9(A:Array Oper):Array Bool->List Nat->Bool|b,[]=>Region.ready .any A b==[]|b,i::r=>(Region.ready .any A b==[i]||(BW A i&&Region.free .any A b i&&(Region.ready .any A b).contains i))&&N9 A (b.setIfInBounds i true) r
def wY(A:Array Oper)(m:Nat)(e:List Nat):Array Bool:=(Array.range A.size).map λj=>decide (j<m)||e.contains j
section
variable{P:Program}{A:Array Oper}{Q:Exit->Act->World->Prop}
theorem yu{l:Nat}(h:MB A l=true):∃o,A[l]?=some o/\o.guard=none/\o.after=#[]/\o.dst=some (jQ A l).1/\∀a:Act,∀w,(execOp a.eval o).run P w= .ok (.value (a.get (jQ A l).2)) w:=by unfold MB at h;cases f:A[l]?with|none=>rw[f]at h;simp at h;|some o=>rw[f]at h;simp[aD]at h;obtain⟨⟨⟨h1,j⟩,q⟩,u⟩:=h;obtain⟨d,y⟩:=yr.1 u;refine⟨o,rfl,j,q,by simp[jQ,f,y],λa w=>?_⟩;cases e:o.op with
 |move x=>cases x with|tmp s=>simp[execOp,e,jQ,f,Act.eval,Act.get];|_=>rw[e]at h1;simp at h1
 |assign x=>cases x with|tmp s=>simp[execOp,e,jQ,f,Act.eval,Act.get];|_=>rw[e]at h1;simp at h1
 |_=>rw[e]at h1;simp at h1
theorem Da(g:Region.noSelect A=true)(j:∀c a w,¬Q (.panic c) a w):∀(f:List Nat)(e:Array Bool)(a:Act)(w:World)(u:Nat),qt A e f=true->wpAny P .any A Q u (tT e f) (jM A f a) w->wpAny P .any A Q (u+f.length) e a w|[],_,_,_,_,_,h=>h|l::r,e,a,w,u,m,h=>by simp only[qt,aD]at m;obtain⟨⟨⟨h1,x⟩,y⟩,z⟩:=m;obtain⟨o,E,F,_,G,H⟩:=yu h1;have q:=Da g j r (e.setIfInBounds l true) (a.put (some (jQ A l).1) (a.get (jQ A l).2)) w u z h;rw[<-G]at q;exact wpAny_take E g x y (λc a w I=>absurd I (j c _ w)) (.inl ⟨by unfold Region.wanted;rw[F],H a⟩) q
theorem zx{l:Nat}(h:BW A l=true):∃o,A[l]?=some o/\o.guard=none/\∀a:Act,(∃v,∀w,(execOp a.eval o).run P w= .ok (.value v) w)∨(∀w,∃x z,(execOp a.eval o).run P w= .halt x z/\∀c,x≠ .panic c):=by unfold BW at h;cases m:A[l]?with|none=>rw[m]at h;simp at h;|some o=>rw[m]at h;simp[aD]at h;obtain⟨h1,E⟩:=h;refine⟨o,rfl,E,λa=>?_⟩;cases e:o.op with
 |move x=>exact .inl ⟨a.eval x,λw=>by simp[execOp,e]⟩;|assign x=>exact .inl ⟨a.eval x,λw=>by simp[execOp,e]⟩;|extract x F=>cases j:a.eval x with
  |tuple G=>cases q:G[F]?with|some y=>exact .inl ⟨y,λw=>by simp[execOp,e,j,Instr.extract,q]⟩;|none=>exact .inr λw=>by simp[execOp,e,j,Instr.extract,q]
  |_=>exact .inr λw=>by simp[execOp,e,j,Instr.extract]
 |_=>rw[e]at h1;simp at h1
theorem xL(q:Region.noSelect A=true)(u:∀c a w,¬Q (.panic c) a w)(hO:∀a w,¬Q .outgrown a w):∀(g:List Nat)(e:Array Bool)(a:Act)(w:World),N9 A e g=true->wpOps P A Q g a w->wpAny P .any A Q g.length e a w
 |[],e,a,w,f,h=>by simp[N9]at f;exact⟨f,by simpa[wpOps]using h⟩;|i::r,e,a,w,f,h=>by
  simp only[N9,aD,bT,beq_iff_eq]at f;obtain⟨f|f,F⟩:=f;.refine⟨λG=>(by rw[f]at G;simp at G),λj H=>?_⟩;rw[f,eR]at H;subst H;exact wpOp_mono (λO m R=>xL q u hO r _ O m F R) h
  · obtain⟨⟨h1,T⟩,U⟩:=f;obtain⟨o,I,V,W⟩:=zx h1;have J:∀a:Act,Region.wanted o (yielded A a.tmps)=true:=λa=>by unfold Region.wanted;rw[V]
    rw[wpOps_cons]at h;unfold wpOp at h;rw[I]at h;simp[J]at h;have h:=h.resolve_right λy=>by obtain⟨_,b,m,hb⟩:=y;exact hO b m hb
    unfold Oper.wp at h;rcases W a with⟨v,M⟩|y;.rw[M w]at h;exact wpAny_take I q T U (λc a w hq=>absurd hq (u c _ w)) (.inl ⟨J a,M⟩) (xL q u hO r _ _ w F h)
    ·obtain⟨x,m,z,E⟩:=y w;rw[z]at h;cases x<;>simp[Oper.upon]at h;.exact absurd rfl (E _)
theorem sy:∀(e:List Nat)(a:Act),(jM A e a).tmps.size=a.tmps.size|[],_=>rfl|l::r,a=>by rw[jM,sy r,fG]
theorem uq:∀(e:List Nat)(a:Act),(jM A e a).defers=a.defers|[],_=>rfl|l::r,a=>by rw[jM,uq r,ez]
theorem tW{t n:Nat}:∀(e:List Nat)(a:Act),a.tmps.size=n->(∀l∈e,(jQ A l).1<n)->(∀l∈e,(jQ A l).1≠t)->(jM A e a).get t=a.get t|[],_,_,_,_=>rfl|l::r,a,g,h1,j=>by rw[jM,tW r _ (by rw[fG];exact g) (λf h=>h1 f (bR _ h)) (λf h=>j f (bR _ h)),dD _ _ _ _ (by rw[g];exact h1 l dw),if_neg (j l dw)]
theorem uD{n:Nat}:∀(f:List Nat)(a:Act),a.tmps.size=n->(∀l∈f,(jQ A l).1<n)->f.Nodup->(∀l∈f,∀g∈f,(jQ A l).2≠(jQ A g).1/\(l=g∨(jQ A l).1≠(jQ A g).1))->∀l∈f,(jM A f a).get (jQ A l).1=a.get (jQ A l).2
 |[],_,_,_,_,_,l,h=>nomatch h|x::r,a,q,h1,u,E,l,h=>by
  obtain⟨I,j⟩:=gv.1 u;have m:=h1 x dw;rw[jM];rcases bD.1 h with rfl|w;.rw [tW r _ (by rw[fG];exact q) (λg h=>h1 g (bR _ h)) (λg F=>?_),dD _ _ _ _ (by rw[q];exact m),if_pos rfl];grind
  .rw [uD r _ (by rw[fG];exact q) (λg h=>h1 g (bR _ h)) j (λG y H z=>E G (bR _ y) H (bR _ z)) l w,dD _ _ _ _ (by rw[q];exact m),if_neg λe=>(E l h x dw).1 e.symm]
theorem A8:∀(e:List Nat)(b:Array Bool),(tT b e).size=b.size|[],_=>rfl|l::r,b=>by rw[tT,A8 r];simp
theorem Dw:∀(f:List Nat)(b:Array Bool)(j:Nat),(∀l∈f,l<b.size)->((tT b f).getD j false=true↔b.getD j false=true∨j∈f)
 |[],b,j,_=>by simp[tT];|l::r,b,j,h=>by
  rw[tT,Dw r _ j (λx g=>by simpa using h x (bR _ g))];have m:=h l dw;by_cases e:j=l;.subst e;simp[m]
  .rw [getD_set_ne _ (λq=>e q.symm)];simp[e]
end
section
variable{P:Program}{a0:Act}{k0:K}{es:List Ent}
theorem s9{f a:Act}{k:K}:∀(e:List (Nat×Option Nat)),(∀t,(t,none)∈e->f.get t=a0.get t)->lp es f a k e->lp es a0 a k e|[],_,_=>trivial|(t,some j)::x,h,hk=>⟨hk.1,s9 x (λt g=>h t (bR _ g)) hk.2⟩|(t,none)::x,h,hk=>⟨hk.1.trans (h t dw),s9 x (λt g=>h t (bR _ g)) hk.2⟩
theorem O3{f:Act}{o:Oper}{e:Ent}(h:∀t,(t,none)∈e.need->f.get t=a0.get t)(m:Ob P es a0 k0 o e):Ob P es f k0 o e:=by unfold Ob at*;cases u:e.R with|none=>rw[u]at m;exact m;|some R=>rw[u]at m;refine⟨m.1,m.2.imp (λg=>⟨λa k q hk=>g.1 a k q (s9 _ h hk),g.2⟩) ?_⟩;rintro⟨j,w,x,nd,h1,y,z,E⟩;exact⟨j,w,x,nd,h1,y,λa k v q hk=>z a k v q (s9 _ h hk),E⟩
theorem A0{g:Act}:∀{os:List Oper}{f:List Ent},(∀i o e,nth os i=some o->nth f i=some e->∀t,(t,none)∈e.need->g.get t=a0.get t)->Steps P es a0 k0 os f->Steps P es g k0 os f|[],_,_,_=>trivial|_::_,[],_,_=>trivial|o::os,e::f,h,j=>⟨O3 (h 0 o e rfl rfl) j.1,A0 (λi o e m q=>h (i+1) o e m q) j.2⟩
end
abbrev IsI(x:Int):Pred:=IsV x
abbrev IsL{e:Type}(x:List e):Pred:=IsV (x.length:Int)
def Al:List (Nat×Pred)->Act->K->Prop|[],_,_=>True|(t,R)::l,a,k=>R (a.get t) k/\Al l a k
section
variable{P:Program}{a a0 a':Act}{k k0 k' kk:K}{R:Pred}{o:Oper}{es:List Ent}{F:FP}{n:Nat}{Q:Exit->Act->World->Prop}{A:Array Oper}{m:Nat}{ops:List Oper}
theorem gS{id:Nat}(m:Nat)(es:List Ent)(g:a0.tmps.size=n)(e:lU n m A.toList es=true)(f:Steps P es a0 k0 (A.toList.take m) es)(j:LetsOut Q)(h:∀a k,mf A.toList es m a0 k0 a k->wpOps P A Q (List.range' m (A.size-m)) a k.w):(Code.region id A false).wp P Q a0 k0.w:=xv es g e f j h
theorem O5{x y:Code}(T:Act->K->Prop)(h1:∀e:Exit->Act->World->Prop,LetsOut e->(∀a' k',T a' k'->e .normal a' k'.w)->x.wp P e a k.w)(h:∀a' k',T a' k'->y.wp P Q a' k'.w):(Code.seq x y).wp P Q a k.w:=wp_seq (h1 _ trivial h)
theorem aK{id:Nat}{y:Code}(m:Nat)(es:List Ent)(f:A.size=m)(H:Bs F kk n a k)(h:lU n m A.toList es=true)(e:Steps P es a k (A.toList.take m) es)(l:List (Nat×Pred))(g:∀b q,mf A.toList es m a k b q->Al l b q)(j:∀a' k',Bs F kk n a' k'/\Al l a' k'->y.wp P Q a' k'.w):(Code.seq (Code.region id A false) y).wp P Q a k.w:=by refine wp_seq ?_;refine xv es H.s h e trivial λb q p=>?_;rw[f,Nat.sub_self];exact aj (j _ _ ⟨Bs.post H p,g _ _ p⟩)
theorem mf.ke{b:Act}{q:K}[aZ R](p:mf ops es m a k b q)(t:Nat)(e:allI (λi o=>i>=m||o.dst !=some t) 0 ops=true)(h:R (a.get t) k):R (b.get t) q:=keep p t e h
theorem mf.ou{b:Act}{q:K}{nd:List (Nat×Option Nat)}(p:mf ops es m a k b q)(i d:Nat)(h:(Nat.blt i m,(nth ops i).bind (·.dst),nth es i)=(true,some d,some ⟨some R,nd⟩)):R (b.get d) q:=out p i d nd (Prod.mk.inj h).1 (Prod.mk.inj (Prod.mk.inj h).2).1 (Prod.mk.inj (Prod.mk.inj h).2).2
theorem o1(nd:List (Nat×Option Nat))[aZ R](g:o.guard=none)(h:∀a k,bE k0 k->lp es a0 a k nd->aX P o a k R):Ob P es a0 k0 o ⟨some R,nd⟩:=ob1 g h
theorem mu{t:Nat}[aZ R](h:(o.guard,o.op)=(none, .move (.tmp t)))(i:R (a0.get t) k0):Ob P es a0 k0 o ⟨some R,[(t,none)]⟩:=ob1 (Prod.mk.inj h).1 λ_ _ g n=>du (Prod.mk.inj h).2 (up i g n.1)
theorem cp{t:Nat}(j:Nat){nd:List (Nat×Option Nat)}[aZ R](h:(o.guard,o.op)=(none, .assign (.tmp t)))(e:nth es j=some ⟨some R,nd⟩):Ob P es a0 k0 o ⟨some R,[(t,some j)]⟩:=ob1 (Prod.mk.inj h).1 λa k _ n=>aQ (Prod.mk.inj h).2 (show R (a.get t) k by have h1:=n.1;rw[e]at h1;exact h1)
theorem cm{t:Nat}(j:Nat){nd:List (Nat×Option Nat)}[aZ R](h:(o.guard,o.op)=(none, .move (.tmp t)))(e:nth es j=some ⟨some R,nd⟩):Ob P es a0 k0 o ⟨some R,[(t,some j)]⟩:=ob1 (Prod.mk.inj h).1 λa k _ n=>du (Prod.mk.inj h).2 (show R (a.get t) k by have h1:=n.1;rw[e]at h1;exact h1)
theorem aI{x:Int}{y:Operand}(h:(o.guard,o.op)=(none, .assign y))(e:y= .const (.int .i64 x)):Ob P es a0 k0 o ⟨some (IsI x),[]⟩:=by subst e;exact ob1 (Prod.mk.inj h).1 λ _ _ _ _=>aQ (Prod.mk.inj h).2 (au.2 rfl)
theorem cI{x:Int}{v:Value}(h:v= .int .i64 x):IsV x v k:=au.2 h
theorem cB{p:Prop}{x:Bool}{v:Value}(h:v= .bool x)(_:p):IsV x v k:=aE.2 h
end
section
variable{P:Program}{o:Oper}{a0:Act}{k0:K}{R:Pred}{es:List Ent}{nj:List (Nat×Option Nat)}{j:Nat}{m:Bool}
theorem gT(nd:List (Nat×Option Nat))[aZ R](g:o.guard=some (j,true))(e:nth es j=some ⟨some (IsV m),nj⟩)(h:m=true->∀a k,bE k0 k->lp es a0 a k nd->aX P o a k R):Ob P es a0 k0 o ⟨some (Gd (m=true) R),nd⟩:=gdT g e h
theorem gF(nd:List (Nat×Option Nat))[aZ R](g:o.guard=some (j,false))(e:nth es j=some ⟨some (IsV m),nj⟩)(h:m=false->∀a k,bE k0 k->lp es a0 a k nd->aX P o a k R):Ob P es a0 k0 o ⟨some (Gd (m=false) R),nd⟩:=gdF g e h
theorem mT{t:Nat}[aZ R](h:(o.guard,o.op)=(some (j,true), .move (.tmp t)))(e:nth es j=some ⟨some (IsV m),nj⟩)(i:R (a0.get t) k0):Ob P es a0 k0 o ⟨some (Gd (m=true) R),[(t,none)]⟩:=gdT (Prod.mk.inj h).1 e λ_ _ _ g n=>du (Prod.mk.inj h).2 (up i g n.1)
theorem mF{t:Nat}[aZ R](h:(o.guard,o.op)=(some (j,false), .move (.tmp t)))(e:nth es j=some ⟨some (IsV m),nj⟩)(i:R (a0.get t) k0):Ob P es a0 k0 o ⟨some (Gd (m=false) R),[(t,none)]⟩:=gdF (Prod.mk.inj h).1 e λ_ _ _ g n=>du (Prod.mk.inj h).2 (up i g n.1)
end
section
variable{P:Program}{o:Oper}{a a':Act}{k k' k0:K}{R:Pred}{α:Type}[Enc α]{F:FP}
theorem aO{x:Operand}(g:o.op= .nilCheck x)(j:∃f,a.eval x= .pointer (some f))(h:R (a.eval x) k):aX P o a k R:=by obtain⟨f,e⟩:=j;exact ak (by simp[execOp,g,e]) h
theorem Ei{x:Operand}{y:α}(f:o.op= .nilCheck x)(h:aS y (a.eval x) k):aX P o a k (aS y):=aO f (let⟨g,e,_⟩:=h;⟨g,e⟩) h
end
def UA(n m:Int):Option Int:=if 0<=m then some (IntKind.i64.wrap (n*2^min m.toNat 64))else none
def Vl(n m:Int):Option Int:=if 0<=m then some (n.fdiv (2^min m.toNat 64))else none
def Ri(n m:Int):Int:=IntKind.i64.wrap ((BitVec.ofInt 64 n&&&~~~BitVec.ofInt 64 m).toNat:Int)
def orI(n m:Int):Int:=IntKind.i64.wrap ((BitVec.ofInt 64 n|||BitVec.ofInt 64 m).toNat:Int)
def IK.shl{e:IntKind}(x:IK e)(n:Int):IK e:=⟨e.wrap (x.n*2^n.toNat)⟩
def IK.and{e:IntKind}(x y:IK e):IK e:=⟨e.wrap ((BitVec.ofInt e.bits x.n&&&BitVec.ofInt e.bits y.n).toNat:Int)⟩
section
variable{P:Program}{o:Oper}{a:Act}{k:K}{t u:TypeId}{x y:Operand}{n m r:Int}{κ:IntKind}{p q:IK κ}
theorem Sg(j:o.op= .binOp .shl t x y u)(f:IsV n (a.eval x) k)(g:∃e,a.eval y= .int e m)(h:UA n m=some r):aX P o a k (IsV r):=by
 obtain⟨z,rfl⟩:=lh h;have f:=au.1 f;obtain⟨e,g⟩:=g;refine ak ?_ (au.2 rfl);simp[execOp,j,f,g];have w:¬m<0:=by omega
 simp[binOp,Op.shift,w];rfl
theorem Sh(j:o.op= .binOp .shr t x y u)(f:IsV n (a.eval x) k)(g:∃e,a.eval y= .int e m)(h:Vl n m=some r):aX P o a k (IsV r):=by
 obtain⟨z,rfl⟩:=lh h;have f:=au.1 f;obtain⟨e,g⟩:=g;refine ak ?_ (au.2 rfl);simp[execOp,j,f,g];have w:¬m<0:=by omega
 simp[binOp,Op.shift,w];rfl
theorem QT(f:o.op= .binOp .andNot t x y u)(h:IsV n (a.eval x) k)(e:IsV m (a.eval y) k):aX P o a k (IsV (Ri n m)):=by have h:=au.1 h;have e:=au.1 e;refine ak ?_ (au.2 rfl);simp[execOp,f,h,e];rfl
theorem Ve(f:o.op= .binOp .or t x y u)(h:IsV n (a.eval x) k)(e:IsV m (a.eval y) k):aX P o a k (IsV (orI n m)):=by have h:=au.1 h;have e:=au.1 e;refine ak ?_ (au.2 rfl);simp[execOp,f,h,e];rfl
theorem OT(g:o.op= .binOp .shr t x y u)(h:IsV p (a.eval x) k)(f:∃e,a.eval y= .int e m)(w:0<=m)(h1:m.toNat<=κ.bits):aX P o a k (IsV (p.shr m)):=by
 have h:=dr.1 h;obtain⟨e,f⟩:=f;refine ak (v:= .int κ (p.n.fdiv (2^m.toNat))) ?_ (dr.2 rfl);simp[execOp,g,h,f];have j:¬m<0:=by omega
 simp[eqGuard,binOp,Op.shift,j,mb h1]
theorem Nt(g:o.op= .binOp .shl t x y u)(h:IsV p (a.eval x) k)(f:∃e,a.eval y= .int e m)(w:0<=m)(h1:m.toNat<=κ.bits):aX P o a k (IsV (p.shl m)):=by
 have h:=dr.1 h;obtain⟨e,f⟩:=f;refine ak (v:= .int κ (κ.wrap (p.n*2^m.toNat))) ?_ (dr.2 rfl);simp[execOp,g,h,f];have j:¬m<0:=by omega
 simp[eqGuard,binOp,Op.shift,j,mb h1]
theorem P9(f:o.op= .binOp .and t x y u)(h:IsV p (a.eval x) k)(e:IsV q (a.eval y) k):aX P o a k (IsV (p.and q)):=by have h:=dr.1 h;have e:=dr.1 e;refine ak ?_ (dr.2 rfl);simp[execOp,f,h,e];simp[eqGuard,binOp,Op.intBits,IK.and]
end
section
variable{α:Type}[Enc α]{P:Program}{o:Oper}{a:Act}{k:K}
def tH(x:List α)(v:Value)(k:K):Prop:=(∃e,v= .slice (some e) x.length x.length)/\IsV x v k
instance(x:List α):aW (tH x):=⟨λh⟨e,r⟩=>⟨e,aW.pers h r⟩⟩
theorem zK{t ty e:TypeId}{x m zs:List α}{v y:Value}(hu:P.underlying t=some (.slice e))(he:dJ P e α)(hv:tH x v k)(hy:cM m y k)(hz:eb x m=some zs):∃v' q,(Builtin.append_ #[t,t] ty #[v,y]).run P k.w= .ok v' q.w/\bE k q/\IsV zs v' q:=by
 obtain⟨O,rfl⟩:=lh hz;obtain⟨i,z,hi,hiz,Q,hzs,hpos,hby⟩:=he;obtain⟨⟨R,rfl⟩,hv⟩:=hv;by_cases hm:m=[]
 · subst hm;have hys:∃b c,y= .slice b 0 c:=by
    rcases hy with⟨rfl,_⟩|⟨ad,E,cs,rfl,_⟩;.exact⟨_,_,rfl⟩
    .exact⟨_,_,rfl⟩
   exact⟨_,k,zj t ty ⟨e,hu,by simp[hi]⟩ _ y k.w ⟨_,_,_,rfl,aA _⟩ hys,bE.refl k,by rw[mn];exact hv⟩
 · rcases hy with⟨_,rfl⟩|⟨ad,c,g,rfl,hyc,T,H⟩;.exact absurd rfl hm
   have H:=H.resolve_left hm;have I:=T.len;have hpl:0<m.length:=List.length_pos_iff.2 hm;have J:∀j u,g[j]?=some u->k.w.cell? (ad.add j)=some u:=H.cell;have hl:g.length=m.length*i.size:=by rw[Q];exact I
   have U:∃f,cV k f x/\∀j u,f[j]?=some u->k.w.cell? (R.add j)=some u:=by
    rcases hv.rd with⟨h,_⟩|⟨ad1,c1,cs,h,_,V,hc⟩;.simp at h
    · simp only[Value.slice.injEq,aU]at h;obtain⟨rfl,_,_⟩:=h;refine⟨cs,V,λj u hj=>?_⟩;rcases hc with rfl|hc;·have:=V.len;grind
      .exact hc.cell j u hj
   obtain⟨f,V,holds⟩:=U;have M:=V.len;have G:=run_append_grow (P:=P) k.w t ty e i z hu hi hiz R x.length x.length f (by rw[Q];exact M) holds ad m.length c g hl J (by omega) (by omega) (growslice_fits (by omega) (by have:(x.length+m.length)*i.bytes<=1073741824*65536:=mw O hby;omega));have W:=grownCap_ge k.w (x.length+m.length) x.length e;have hcm:grownCap k.w (x.length+m.length) x.length e<=maxLen:=grownCap_le_maxLen k.w _ x.length e (by unfold maxLen;omega);generalize grownCap k.w (x.length+m.length) x.length e=E at W hcm G;let q:K:=⟨_,k.sh,λb F=>by have:=k.lt b F;show b<(k.w.drew.alloc (.cells (f.toArray++g.toArray++Builtin.zeroCells z.cells (E-(x.length+m.length))) e)).heap.size;simp;omega⟩;have hblk:∀b,b<k.w.heap.size->q.w.heap[b]?=k.w.heap[b]?:=λb F=>(World.grownBy_alloc k.w.drew _ none).block b F (by simp);have hle:Le k q:=⟨λb F=>hblk b (k.lt b F),λb F=>F⟩;have hg:Grown k q none:=⟨rfl,rfl,rfl,by simp[q],λb F _=>hblk b F,rfl,gN _⟩;have hown:ah k.w.heap.size e (x++m) (.slice (some ⟨k.w.heap.size,0,none⟩) (x.length+m.length) E) q:=by
    refine .inr (.inr ⟨k.w.heap.size,0,E,_,_,by rw[bA],aA _,λhs=>fC _ (k.lt _ hs),heap_alloc_new k.w.drew _,by rw[bA];exact W,by omega,hcm,?_,rfl,?_⟩)
    · have e1:f.length+g.length=(x.length+m.length)*Enc.sz α:=by rw[M,I,dM]
      simp only[vi,kn,size_zeroCells,hzs];rw[e1,<-dM,bw];exact ep _ (by omega)
    · have e1:(x++m).length*Enc.sz α=(f++g).length:=by rw[bA,bA,M,I,dM]
      rw[e1];simp only[Array.toList_append,rI];rw[vk];exact(V.append T).mono hle
   obtain⟨k2,e2,_,hg2,hv2,_⟩:=hown.share hg.grow (aA _);exact⟨_,k2,by rw[e2];exact G,hg2,hv2⟩
theorem Ip{t e:TypeId}{x y:Operand}{h j z:List α}(q:o.op= .call {callee:= .builtin .append,args:=#[x,y],argTypes:=#[t,t]}) (u:P.underlying t=some (.slice e))(w:dJ P e α)(E:tH h (a.eval x) k)(F:cM j (a.eval y) k)(G:eb h j=some z):aX P o a k (IsV z):=by obtain⟨M,k',H,I,J⟩:=zK (ty:=o.type) u w E F G;refine eS (k':=k') ?_ I J;simp[execOp,q,resolve,invoke,builtin,H]
theorem B7{t e n:Nat}{ps:List (Nat×Operand)}{x:List α}(T:o.op= .buildSlice t n ps.toArray)(M:P.underlying t=some (.slice e))(U:dJ P e α)(V:n=x.length)(O:0<n)(m:n*Enc.sz α<=16777216)(h:zA a k 0 ps x):aX P o a k (tH x):=by
 have W:=h;obtain⟨i,z,hi,q,y,E,f,G⟩:=U;subst V;obtain⟨cs,hr,Q⟩:=wh (z:=z.cells.toList) (by simpa using E) ps x 0 [] h (by simp);simp[ko]at Q;have u:(Instr.buildSlice t x.length (ps.map λp=>(p.1,a.eval p.2)).toArray).run P k.w= .ok (.slice (some ⟨k.w.heap.size,0,none⟩) x.length x.length) (k.alloc (.cells cs.toArray e)).w:=by
  have hne:x.length*Enc.sz α≠0:=Nat.pos_iff_ne_zero.1 (Nat.mul_pos O f);have H:¬(x.length*Enc.sz α>2^24):=by omega
  simp[Instr.buildSlice,Sem.run_bind,run_underlying M,Result.andThen_ok,run_sizeOf (show(P.info? e).map (·.size)=some (Enc.sz α)by simp[hi,y])];simp[H,zeroValue,typeInfo,hi,q,Q];rfl
 obtain⟨v,k',g,hg,F⟩:=qi M ⟨i,z,hi,q,y,E,f,G⟩ rfl O m W;rw[u]at g;simp[Result.ok.injEq]at g;obtain⟨rfl,_⟩:=g;obtain⟨R,e2,_,I,J,_⟩:=F.share hg (aA _);have j:(Instr.buildSlice t x.length (ps.map λp=>(p.1,a.eval p.2)).toArray).run P k.w= .ok (.slice (some ⟨k.w.heap.size,0,none⟩) x.length x.length) R.w:=by rw[u,e2];congr 1
 refine eS (k':=R) ?_ I ⟨⟨_,rfl⟩,J⟩;simp[execOp,T];simp[j]
end
def PR(m:Nat)(e:List Oper):Bool:=allI (λj _=>Nat.ble j m||(List.range j).all λi=>ed (eB e []) j i) 0 e
theorem count_set{e:Array Bool}{i:Nat}(hi:i<e.size)(h:e.getD i false=false):(e.toList.filter (.=false)).length=((e.setIfInBounds i true).toList.filter (.=false)).length+1:=by
 have j:e[i]=false:=by simpa[dU hi]using h
 have f:e.toList=e.toList.take i++false::e.toList.drop (i+1):=by have h1:=gO i e.toList;have m:e.toList.drop i=e.toList[i]'(by simpa using hi)::e.toList.drop (i+1):=l8 (by simpa using hi);grind
 have g:(e.setIfInBounds i true).toList=e.toList.take i++true::e.toList.drop (i+1):=by rw[vv,r8,if_pos (by simpa using hi)]
 grind
section
variable{P:Program}{a0:Act}{k0:K}{es:List Ent}
theorem Dn{A:Array Oper}{m:Nat}{Q:Exit->Act->World->Prop}(E:allI (λi o=>(aT o).all (.<i)) 0 A.toList=true)(H:PR m A.toList=true):∀(u i:Nat)(f:Array Bool)(a:Act)(w:World),m+1<=i->i+u=A.size->f.size=A.size->(∀j,f.getD j false=true↔j<i)->wpOps P A Q (List.range' i u) a w->wpAny P .any A Q u f a w:=by
 have g:∀(i:Nat)(f:Array Bool),m+1<=i->f.size=A.size->(∀j,f.getD j false=true↔j<i)->∀j,j∈Region.ready .any A f↔(j=i/\i<A.size):=by
  intro i f F q G j;simp only[Region.ready,bQ,eH,aD,cN];have hT:∀j,j<A.size->f.getD j true=f.getD j false:=by grind
  constructor
  · rintro⟨I,J,O⟩;rw[hT j I]at J;have hji:¬j<i:=λh=>by rw[(G j).2 h]at J;simp at J
    rcases bJ i j with z|hge
    · exfalso;have W:nth A.toList j=some A[j]:=by rw[aH];simp[I]
      have hc:=bc H j _ W;simp only[bw,bT,Nat.ble_eq]at hc;have hc:=hc.resolve_left (by omega);have R:=bG.1 hc i (by simp;omega);have M:∀x T,nth A.toList x=some T->x<i->∀e∈aT T,e<i:=by intro x T hx hxi e he;have:=bc E x T hx;grind
      have:=cq (L:=A.toList) (D:=(.<i)) M (j:=j) (i:=i) ?_ R;.omega
      · intro T U e he;rw[W,aU]at U;subst U;have hA:A[j]?=some A[j]:=by simp[I]
        rw[hA]at O;simp only[dW,eD,fh]at O;simp only[aT,aM,bQ,dO]at he;grind
    .exact⟨by omega,by omega⟩
  · rintro⟨rfl,z⟩;refine⟨z,?_,?_⟩;·rw[hT j z];grind
    · have hA:A[j]?=some A[j]:=by simp[z]
      rw[hA];simp only[dW,eD,fh];intro y hy;cases hyb:Region.binds .any y with|false=>rfl;|true=>
  simp only[fV,ga];have W:nth A.toList j=some A[j]:=by rw[aH];simp[z]
  have:=bc E j _ W;simp only[bw,bG,decide_eq_true_eq]at this;exact(G _).2 (this y.on (by simp only[aT,aM,bQ,dO];exact⟨y,⟨hy,hyb⟩,rfl⟩))
 intro u;induction u with|zero=>intro i f a w F hi q G h;refine⟨?_,by simpa[wpOps]using h⟩;refine xY.2 λj hj=>?_;have:=(g i f F q G j).1 hj;omega|succ u ih=>
 intro i f a w F hi q G h;refine⟨λV=>?_,λj hj=>?_⟩;·have:=(g i f F q G i).2 ⟨rfl,by omega⟩;rw[V]at this;simp at this
 · obtain⟨rfl,z⟩:=(g i f F q G j).1 hj;rw[uW,wpOps_cons]at h;refine wpOp_mono (λa' w' h'=>ih (j+1) _ a' w' (by omega) (by omega) (by simp[q]) (λx=>?_) h') h;by_cases hx:x=j;.subst hx;simp[cA,q,z]
   .rw[getD_set_ne _ (λe=>hx e.symm),G];omega
theorem Ap{A:Array Oper}{m:Nat}{e:Array Bool}(f:m<A.size)(g:e.size=A.size)(w:∀j,e.getD j false=true↔j<m+1):(e.toList.filter (.=false)).length=A.size-(m+1):=by
 have q:e.toList=List.replicate (m+1) true++List.replicate (A.size-(m+1)) false:=by
  refine List.ext_getElem (by simp;omega) λj h1 u=>?_;have h:j<e.size:=by simpa using h1
  have x:e.toList[j]=e.getD j false:=by simp[dU h]
  grind
 rw[q];simp
theorem TB{A:Array Oper}{n m:Nat}{Q:Exit->Act->World->Prop}{B:K->Prop}(hn:a0.tmps.size=n)(hS:lU n m A.toList es=true)(hmA:m<A.size)(R:PR m A.toList=true)(hst:Steps P es a0 k0 (A.toList.take m) es)(hB:∀G,B G->Steps P es a0 G (A.toList.take m) es)(hQ:LetsOut Q)(hT:∀a k(D:Nat->Prop),(∀j,D j->j<m)->Inv A.toList es a0 k0 D a k->(∀o,nth A.toList m=some o->∀e∈aT o,D e)->∀C:Act->World->Prop,(∀G k1,B G->Inv A.toList es a0 G D a k1->C a k1.w)->wpOp P A Q m C a k.w)(hpost:∀G,B G->∀a k,Inv A.toList es a0 G (.<m) a k->wpOps P A Q (List.range' (m+1) (A.size-(m+1))) a k.w):∀(H:Nat)(f:Array Bool)(a:Act)(k:K),f.size=A.size->H=(f.toList.filter (.=false)).length->(∀j,f.getD j false=true->j<=m)->((f.getD m false=false/\Inv A.toList es a0 k0 (λj=>f.getD j false=true) a k)∨(f.getD m false=true/\(∀o,nth A.toList m=some o->∀e∈aT o,f.getD e false=true)/\∃G,B G/\Inv A.toList es a0 G (λj=>f.getD j false=true/\j<m) a k))->
 wpAny P .any A Q H f a k.w:=by have hS':=hS;simp only[lU,aD,beq_iff_eq,decide_eq_true_eq]at hS';obtain⟨⟨⟨⟨hlen,hml⟩,h2⟩,I⟩,hdist⟩:=hS';intro H;induction H with|zero=>
 intro f a k T hf M g;have u:∀j,j<A.size->f.getD j false=true:=by
  intro j O;have hz:=iA hf.symm;have:f[j]'(by omega)∉f.toList.filter (.=false):=by rw[hz];simp
  simp_all
 have hm:A.size=m+1:=by
  rcases bJ (m+1) A.size with h|h;.have:=M (m+1) (u _ h);omega
  .omega
 rcases g with⟨h,_⟩|⟨_,_,G,hb,g⟩;.rw[u m hmA]at h;simp at h
 ·have z:(λj=>f.getD j false=true/\j<m)=(.<m):=funext λj=>propext ⟨λh=>h.2,λh=>⟨u j (by omega),h⟩⟩;rw[z]at g;refine Dn I R 0 (m+1) f a k.w (aA _) (by omega) T (λj=>⟨λh=>by have:=M j h;omega,λh=>u j (by omega)⟩) ?_;have:=hpost G hb a k g;rwa[show A.size-(m+1)=0 by omega]at this|succ H ih=>
    intro f a k T hf M g;have hT2:∀j,j<A.size->f.getD j true=f.getD j false:=by intro j O;simp[cA,dU (show j<f.size by omega)]
    have hbind:∀j,j<A.size->((A[j]?).map (·.after.all λe=>!Region.binds .any e||f.getD e.on false)).getD false=true->∀o,nth A.toList j=some o->∀e∈aT o,f.getD e false=true:=by
     intro j hjA hj2 o ho e z;have hA:A[j]?=some o:=by rw[<-aH];exact ho
     rw[hA]at hj2;simp only[dW,eD,fh]at hj2;simp only[aT,aM,bQ,dO]at z;obtain⟨y,⟨hy,hyb⟩,rfl⟩:=z;have:=hj2 y hy;simpa only[hyb,fV,ga]using this
    by_cases E:∀j,j<m+1->f.getD j false=true
    · rcases g with⟨h,_⟩|⟨_,_,G,hb,g⟩;.rw[E m (by omega)]at h;simp at h
      ·have hD:∀j,f.getD j false=true↔j<m+1:=λj=>⟨λh=>by have:=M j h;omega,E j⟩;have z:(λj=>f.getD j false=true/\j<m)=(.<m):=funext λj=>propext ⟨λh=>h.2,λh=>⟨E j (by omega),h⟩⟩;rw[z]at g;have V:=Ap hmA T hD;rw[<-hf]at V;refine Dn I R (H+1) (m+1) f a k.w (aA _) (by omega) T hD ?_;rw[V];exact hpost G hb a k g
    · have hex:∃j,j<m+1/\f.getD j false=false/\∀i,i<j->f.getD i false=true:=by
       obtain⟨j,O⟩:=Classical.not_forall.1 E;have O:j<m+1/\f.getD j false=false:=by
        by_cases h:j<m+1;.exact⟨h,by cases hb:f.getD j false with|false=>rfl|true=>exact absurd (λ _=>hb) O⟩
        .exact absurd (λh'=>absurd h' h) O
       clear E;induction j using Nat.strongRecOn with|_ j ihj=>
 by_cases u:∀i,i<j->f.getD i false=true;.exact⟨j,O.1,O.2,u⟩
 ·obtain⟨i,hi⟩:=Classical.not_forall.1 u;obtain⟨hij,hib⟩:i<j/\¬f.getD i false=true:=⟨Classical.byContradiction λh=>hi λh'=>absurd h' h,λh=>hi λ _=>h⟩;exact ihj i hij (λh=>absurd (h (by omega)) hib) ⟨by omega,by simpa using hib⟩
      have hclosed:∀x o',nth A.toList x=some o'->f.getD x false=true->∀e∈aT o',f.getD e false=true:=by
       intro x o' q hx e z;rcases g with⟨_,g⟩|⟨_,hmc,G,_,g⟩;.exact g.closed x o' q hx e z
       · by_cases hxm:x=m;.subst hxm;exact hmc o' q e z
         .exact(g.closed x o' q ⟨hx,by have:=M x hx;omega⟩ e z).1
      refine⟨λhnil=>?_,λi hi=>?_⟩
      · exfalso;obtain⟨j,hjm,hjb,hlow⟩:=hex;have hjr:j∈Region.ready .any A f:=by
         simp only[Region.ready,bQ,eH,aD,cN];refine⟨by omega,by rw[hT2 j (by omega)];exact hjb,?_⟩;have hA:A[j]?=some A[j]:=by simp[show j<A.size by omega]
         rw[hA];simp only[dW,eD,fh];intro y hy;cases hyb:Region.binds .any y with
 |false=>rfl
 |true=> simp only[fV,ga];have ho:nth A.toList j=some A[j]:=by rw[aH];exact hA
         have:=bc I j _ ho;simp only[bw,bG,decide_eq_true_eq]at this;exact hlow _ (this y.on (by simp only[aT,aM,bQ,dO];exact⟨y,⟨hy,hyb⟩,rfl⟩))
        rw[hnil]at hjr;simp at hjr
      · simp only[Region.ready,bQ,eH,aD,cN]at hi;obtain⟨hiA,J,hi2⟩:=hi;rw[hT2 i hiA]at J;have ho:nth A.toList i=some A[i]:=by rw[aH];simp[hiA]
        have hb:=hbind i hiA hi2 _ ho;have hbm:∀e∈aT A[i],e<i:=by have:=bc I i _ ho;simp only[bw,bG,decide_eq_true_eq]at this;exact this
        have him:i<=m:=by
         rcases bJ m i with h|h;·exfalso;have hc:=bc R i _ ho;simp only[bw,bT,Nat.ble_eq]at hc;have hc:=hc.resolve_left (by omega);obtain⟨j,hjm,hjb,hlow⟩:=hex;have hbit:=bG.1 hc j (by simp;omega);have:=cq (L:=A.toList) (D:=λx=>f.getD x false=true) hclosed (j:=i) (i:=j) (λo' q=>hbind i hiA hi2 o' q) hbit;rw[this]at hjb;simp at hjb
         .exact h
        have hil:i<f.size:=by omega
        have hcnt:=count_set hil J;rw[<-hf]at hcnt;have hDm':∀j,(f.setIfInBounds i true).getD j false=true->j<=m:=λj O=>by
         by_cases hji:j=i;.omega
         .rw[getD_set_ne _ (λe=>hji e.symm)]at O;exact M j O
        have F:∀j,(f.setIfInBounds i true).getD j false=true↔(f.getD j false=true∨j=i):=by
         intro j;by_cases hji:j=i;.subst hji;simp[cA,show j<f.size by omega]
         .rw[getD_set_ne _ (λe=>hji e.symm)];simp[hji]
        by_cases hie:i=m
        . subst hie;rcases g with⟨_,g⟩|⟨h,_⟩
          · have W:∀j,f.getD j false=true->j<i:=λj O=>by
             have h1:=M j O;rcases bJ j i with h|h;.exact h
             · obtain rfl:j=i:=by omega
               rw[O]at J;simp at J
            refine hT a k (λj=>f.getD j false=true) W g (λo' q=>by rw[ho,aU]at q;subst q;exact hb) _ λG k1 h1 h3=>?_;refine(ih _ a k1 (by simp[T]) (by omega) hDm' (.inr ⟨(F i).2 (.inr rfl),λo' q e z=>?_,G,h1,?_⟩));·rw[ho,aU]at q;subst q;exact(F e).2 (.inl (hb e z))
            · have z:(λj=>(f.setIfInBounds i true).getD j false=true/\j<i)=(λj=>f.getD j false=true):=by
               funext j;refine propext ⟨λh=>?_,λh=>⟨(F j).2 (.inl h),W j h⟩⟩;rcases(F j).1 h.1 with h5|h5;.exact h5
               .have:=h.2;omega
              rw[z];exact h3
          .rw[h]at J;simp at J
        · have hilt:i<m:=by omega
          rcases g with⟨hm0,g⟩|⟨hm1,hmc,G,hbB,g⟩
          · have W:∀j,f.getD j false=true->j<m:=λj O=>by
             have h1:=M j O;rcases bJ j m with h|h;.exact h
             · obtain rfl:j=m:=by omega
               rw[O]at hm0;simp at hm0
            refine xl hn hS hst g W ho hilt hb (by simp[J]) hQ λa' k' U=>?_;refine ih _ a' k' (by simp[T]) (by omega) hDm' (.inl ⟨by rw[getD_set_ne _ hie];exact hm0,?_⟩);have z:(λj=>(f.setIfInBounds i true).getD j false=true)=(λj=>f.getD j false=true∨j=i):=funext λj=>propext (F j);rw[z];exact U
          · refine xl hn hS (hB G hbB) g (λj h=>h.2) ho hilt (λe z=>⟨hb e z,by have:=hbm e z;omega⟩) (λh=>by rw[h.1]at J;simp at J) hQ λa' k' U=>?_;refine ih _ a' k' (by simp[T]) (by omega) hDm' (.inr ⟨by rw[getD_set_ne _ hie];exact hm1,λo' q e z=>(F e).2 (.inl (hmc o' q e z)),G,hbB,?_⟩);have z:(λj=>(f.setIfInBounds i true).getD j false=true/\j<m)=(λj=>(f.getD j false=true/\j<m)∨j=i):=by
             funext j;rw[F j];refine propext ⟨λh=>?_,λh=>?_⟩
             · rcases h.1 with h5|h5;.exact .inl ⟨h5,h.2⟩
               .exact .inr h5
             · rcases h with h|h;.exact⟨.inl h.1,h.2⟩
               .exact⟨.inr h,by omega⟩
            rw[z];exact U
end
structure Opq where deriving DecidableEq,Inhabited
instance:Enc Opq where
 sz:=1;agg:=false;rep _ f _:=∃u:Value,f=[u]/\u.oneCell'=true;len h:=by obtain⟨u,h,_⟩:=h;simp[h]
 mono _ h:=h;one h:=by obtain⟨u,rfl,h⟩:=h;simpa using h
 agg1 _:=rfl
instance:Rg Opq:=⟨λ_=>True,λ_=>0⟩
section
variable{P:Program}{t e:TypeId}
theorem Sc(u:P.underlying t=some (.slice e)):Rd P t Opq where
 rd{H}q W f y x h _:=by
  rcases DataW.trod_slice u h with⟨rfl,_⟩|⟨a,len,w,m,g,n,_,rfl,_⟩;.exact⟨⟨⟩,⟨_,rfl,rfl⟩,trivial,Br _⟩
  .exact⟨⟨⟩,⟨_,rfl,rfl⟩,trivial,Br _⟩
 sh W r j v h:=by obtain⟨a,l,c,rfl⟩:=WideShapes.okWide_slice u h;rfl
end
structure fD where v:Value
instance:Inhabited fD:=⟨⟨.bool false⟩⟩
instance:Enc fD where
 sz:=1;agg:=false;rep _ f x:=f=[x.v]/\x.v.oneCell'=true;len h:=by simp[h.1]
 mono _ h:=h;one h:=by obtain⟨rfl,h⟩:=h;simpa using h
 agg1 _:=rfl
theorem Ad{h v:Value}{k:K}(i:IsV (fD.mk h) v k):v=h:=by obtain⟨f,e,rfl,_⟩:=i;exact e
theorem AE{v:Value}{k:K}(h:v.oneCell'=true):IsV (fD.mk v) v k:=⟨[v],rfl,rfl,h⟩
theorem sJ{f:Type}[Enc f]{B:Nat}{e:TypeId}{x:List f}{v:Value}{k:K}(h:ah B e x v k):v.oneCell'=true:=by rcases h with⟨rfl,_⟩|⟨a,rfl,_⟩|⟨b,off,g,u,j,rfl,_⟩<;>rfl
section
variable{α β γ:Type}[Enc α][Enc β][Enc γ]{g:α->γ}{f:β->fD}{same:α->β->Prop}{k k':K}{v:Value}{e:TypeId}{B:Nat}{F G:FP}
def RR(g:α->γ)(f:β->fD)(same:α->β->Prop)(i:Option Nat)(l:List α)(rs:List β)(k:K):Prop:=rs.length=l.length/\∀(j:Nat)(x:α)(y:β),l[j]?=some x->rs[j]?=some y->same x y/\(some j≠i->IsV (g x) (f y).v k)
end
section
variable{P:Program}{o:Oper}{a a0:Act}{k k' k0:K}{κ α:Type}[DecidableEq κ][Enc α]{F G:FP}{kv:κ->Value}
theorem wo{e g:Type}(f:e->g):∀(T:List (κ×e))(n:κ),bz (T.map λt=>(t.1,f t.2)) n=(bz T n).map f
 |[],_=>rfl|(a,v)::l,n=>by
  simp[bz];split;.rfl
  .exact wo f l n
theorem wi{e g:Type}(f:e->g)(z:e):∀(T:List (κ×e))(n:κ),dQ (T.map λt=>(t.1,f t.2)) n (f z)=(dQ T n z).map λt=>(t.1,f t.2)
 |[],_=>rfl|(a,v)::l,n=>by
  simp[dQ];split;.rfl
  .rw [wi f z l n];rfl
theorem Dh{e:Type}{z:e}:∀{T:List (κ×e)}{n:κ}{t:κ×e},t∈dQ T n z->t.2=z∨t∈T
 |[],_,t,h=>by simp[dQ]at h;exact .inl (by rw[h]);|(a,v)::l,n,t,h=>by
  simp[dQ]at h;split at h
  · rcases bD.1 h with rfl|h;.exact .inl rfl
    .exact .inr (bR _ h)
  · rcases bD.1 h with rfl|h;.exact .inr (by simp)
    .exact(Dh h).imp id (bR _)
theorem C4{f:Type}{z:f}:∀{T:List (κ×f)}{n:κ},bz T n=some z->∃t∈T,t.2=z
 |(a,v)::l,n,h=>by
  simp[bz]at h;split at h;.exact⟨(a,v),by simp,ae h⟩
  .obtain⟨t,g,e⟩:=C4 h;exact⟨t,bR _ g,e⟩
end
structure dt(n:Nat)where l:List Value
instance(n:Nat):Enc (dt n)where sz:=n;agg:=true;rep _ e x:=e=x.l/\e.length=n/\∀u∈e,u.oneCell'=true;len h:=h.2.1;mono _ h:=h;one h:=h.2.2;agg1 h:=by simp at h
theorem nE{e:Type}:∀(l:List e)(i:Nat)(v:e),i<l.length->l.take i++[v]++l.drop (i+1)=l.set i v|[],i,v,h=>by simp at h;|a::l,0,v,_=>by simp;|a::l,i+1,v,h=>by have:=nE l i v (by simpa using h);simpa using this
theorem Nx{n off:Nat}(h:off<n):Upd (α:=dt n) (β:=fD) off (λc v=>⟨c.l.set off v.v⟩):=by intro k f j x y⟨h1,g,m⟩⟨g1,g2⟩;subst g1;have e:f.take off++[y.v]++f.drop (off+[y.v].length)=f.set off y.v:=nE f off y.v (by omega);refine⟨by show off+1<=n;omega,?_⟩;rw[e];refine⟨by rw[h1],by simpa using g,λu q=>?_⟩;grind
def fo:Value:= .slice none 0 0
structure iq(α:Type)where
 off:Nat
 γ:Type
 enc:Enc γ
 el:TypeId
 get:α->List γ
 set:α->List γ->α
section
variable{α:Type}[Enc α]
def iq.own(h:iq α)(x:α):Pred:=@ah h.γ h.enc 0 h.el (h.get x)
def iq.val(h:iq α)(x:α):Pred:=letI:=h.enc;IsV (h.get x)
def iq.upd(h:iq α):Prop:=letI:=h.enc;Upd h.off h.set
def nZ:List (iq α)->List Value->List Value|[],e=>e|h::l,e=>(nZ l e).set h.off fo
def zF:List (iq α)->α->α|[],x=>x|h::l,x=>h.set (zF l x) []
omit [Enc α]in theorem FF:∀(l:List (iq α))(e:List Value),(nZ l e).length=e.length|[],_=>rfl|h::l,e=>by rw[nZ,rH,FF l]
omit [Enc α]in theorem Bt:∀(l:List (iq α))(e:List Value)(o:Nat),(∀h∈l,h.off≠o)->(nZ l e)[o]?=e[o]?|[],_,_,_=>rfl|h::l,e,o,f=>by rw[nZ,yU (f h dw),Bt l e o λg j=>f g (bR _ j)]
omit [Enc α]in theorem FN:∀(l:List (iq α))(f:List Value)(o:Nat)(w:Value),(∃h∈l,h.off=o)->nZ l (f.set o w)=nZ l f
  |[],_,_,_,⟨_,h,_⟩=>by simp at h;|h::l,f,o,w,u=>by
    have y:∀(l:List (iq α))f,(nZ l (f.set h.off w)).set h.off fo=(nZ l f).set h.off fo:=by intro l;induction l with|nil=>intro f;simp[nZ];|cons g l q=>
 intro f;by_cases e:g.off=h.off;.simp[nZ,e];rw[q]
 .simp[nZ];rw[List.set_comm _ _ e,q,List.set_comm _ _ (λz=>e z.symm)]
    by_cases e:h.off=o;.subst e;exact y l f
    · rw[nZ,nZ];obtain⟨g,j,rfl⟩:=u;rcases bD.1 j with rfl|j;.exact absurd rfl e
      .rw[FN l f _ w ⟨g,j,rfl⟩]
def pV(e:List Value)(x:α)(k:K):List (iq α)->FP->Prop|[],F=>F=noF|h::l,F=>∃w G,e[h.off]?=some w/\h.own x w k/\pV e x k l G/\bj (obF w) G/\F=λc=>obF w c∨G c
variable{cs:List Value}{x:α}{k k':K}{F G:FP}{v:Value}
omit [Enc α]in theorem pV.lt:∀{l:List (iq α)}{F:FP},pV cs x k l F->∀b,F b->b<k.w.heap.size/\¬k.sh b
 |[],F,h,b,f=>by rw[h]at f;exact f.elim;|g::l,F,⟨w,G,_,h,r,_,e⟩,b,f=>by
  subst e;rcases f with f|f;.letI:=g.enc;exact⟨ah.ltF h b f,ah.jl h b f⟩
  .exact pV.lt r b f
omit [Enc α]in theorem pV.keep(c:Chg G k k')(j:∀b,G b->¬k.sh b):∀{l:List (iq α)}{F:FP},pV cs x k l F->bj F G->pV cs x k' l F|[],F,h,_=>h|g::l,F,⟨w,H,u,h,r,ap,e⟩,q=>by subst e;exact⟨w,H,u,(letI:=g.enc;ah.keep h c (λb f=>q b (.inl f)) j),r.keep c j λb f=>q b (.inr f),ap,rfl⟩
omit [Enc α]in theorem pV.handed(c:Handed k k' G):∀{l:List (iq α)}{F:FP},pV cs x k l F->bj F G->pV cs x k' l F|[],F,h,_=>h|g::l,F,⟨w,H,q,h,r,ap,e⟩,j=>by subst e;exact⟨w,H,q,(letI:=g.enc;ah.handed h c (λb f=>j b (.inl f))),r.handed c λb f=>j b (.inr f),ap,rfl⟩
def fO(b:Nat)(e h:List (iq α))(x:α):FP->Pred:=λF v k=>v= .pointer (some ⟨b,0,none⟩)/\∃(cs:List Value)(G:FP),Box b (⟨cs⟩:dt (Enc.sz α)) k/\Enc.rep k (nZ e cs) (zF e x)/\pV cs x k h G/\¬G b/\F=λc=>b=c∨G c
variable{b:Nat}{all hs:List (iq α)}
theorem fO.ptr(h:fO b all hs x F v k):v= .pointer (some ⟨b,0,none⟩):=h.1
theorem fO.has(h:fO b all hs x F v k):F b:=by obtain⟨_,cs,G,_,_,_,_,e⟩:=h;rw[e];exact .inl rfl
theorem fO.sub(h:fO b all hs x F v k):∀c,b=c->F c:=λc e=>e▸h.has
instance:Rsc (fO b all hs x)where
 keep:=λ{F G v k k'}⟨e,cs,H,f,u,j,w,m⟩g y q=>by subst m;exact⟨e,cs,H,f.keep g (y b (.inl rfl)) q,Enc.mono (g.le q) u,j.keep g q (λc h=>y c (.inr h)),w,rfl⟩
 handed:=λ{F G v k k'}⟨e,cs,H,f,u,j,w,m⟩g y=>by subst m;exact⟨e,cs,H,f.handed g (y b (.inl rfl)),Enc.mono g.le u,j.handed g (λc h=>y c (.inr h)),w,rfl⟩
 lt:=λ{F v k}⟨e,cs,H,f,u,j,w,m⟩c h=>by
  subst m;rcases h with rfl|h;.exact f.lt
  .exact(j.lt c h).1
 nsh:=λ{F v k}⟨e,cs,H,f,u,j,w,m⟩c h=>by
  subst m;rcases h with rfl|h;.exact f.own
  .exact(j.lt c h).2
theorem Box.raw(h:Box b x k):∃cs,Box b (⟨cs⟩:dt (Enc.sz α)) k/\Enc.rep k cs x:=by obtain⟨g,e,t,j,f⟩:=h;exact⟨e.toList,⟨g,e,t,j,rfl,Enc.len f,Enc.one f⟩,f⟩
theorem Box.OZ(h:Box b (⟨cs⟩:dt (Enc.sz α)) k)(g:Enc.rep k cs x):Box b x k:=by obtain⟨j,f,t,m,e,_,_⟩:=h;exact⟨j,f,t,m,by rw[e];exact g⟩
theorem Box.R0(h:Box b (⟨cs⟩:dt (Enc.sz α)) k):cs.length=Enc.sz α:=by obtain⟨j,g,t,m,e,f,_⟩:=h;rw[e]at f;exact f
def OK:List (iq α)->Prop|[]=>True|h::l=>h.upd/\OK l
theorem Fy:∀{all:List (iq α)},OK all->∀{cs:List Value}{x:α},Enc.rep k cs x->Enc.rep k (nZ all cs) (zF all x)|[],_,_,_,h=>h|g::l,⟨u,j⟩,cs,x,h=>by have m:=Fy j h;obtain⟨f,q⟩:=u k _ [fo] _ [] m ⟨fo,rfl, .inl ⟨rfl,rfl⟩⟩;have j:=Enc.len m;have e:(nZ l cs).take g.off++[fo]++(nZ l cs).drop (g.off+[fo].length)=(nZ l cs).set g.off fo:=nE _ _ _ (by have:g.off+1<=Enc.sz α:=f;omega);rw[e]at q;exact q
theorem Box.open(h:Box b x k)(u:OK all)(g:v= .pointer (some ⟨b,0,none⟩)):fO b all [] x (Eq b) v k:=by obtain⟨cs,h1,j⟩:=h.raw;exact⟨g,cs,noF,h1,Fy u j,rfl,λf=>f,by funext c;exact propext ⟨λe=> .inl e,λe=>e.elim id False.elim⟩⟩
def xX(b off:Nat):Pred:=λv k=>b<k.w.heap.size/\∃e t f,k.w.heap[b]?=some (.cells e t f)/\e.toList[off]?=some v
instance{b off:Nat}:aZ (xX b off):=⟨λg⟨j,f,t,m,h,e⟩=>⟨gk j g.size,f,t,m,by rw[g.blk b j];exact h,e⟩⟩
theorem Box.XB{off:Nat}{n:Nat}{w u:Value}(h:Box b (⟨cs⟩:dt n) k)(y:cs[off]?=some w)(g:xX b off u k):u=w:=by obtain⟨z,j,t,E,e,_,_⟩:=h;obtain⟨_,f,H,m,q,I⟩:=g;grind
theorem fO.take{g:iq α}{u:Value}(h:fO b all (g::hs) x F v k)(z:xX b g.off u k):∃m,fO b all hs x m v k/\g.own x u k/\bj (obF u) m/\(∀c,m c->F c)/\(∀c,obF u c->F c):=by
 obtain⟨e,cs,G,q,E,⟨w,H,I,h1,J,M,O⟩,y,P⟩:=h;obtain rfl:=q.XB I z;subst O P;refine⟨_,⟨e,cs,H,q,E,J,λf=>y (.inr f),rfl⟩,h1,λc f j=>?_,λc f=>f.imp id .inr,λc f=> .inr (.inl f)⟩;rcases j with rfl|j;.exact y (.inl f)
 .exact M c f j
theorem fO.swap{g h:iq α}(y:fO b all (g::h::hs) x F v k):fO b all (h::g::hs) x F v k:=by
 obtain⟨e,cs,G,u,z,⟨w,H,E,h1,⟨I,J,g0,g1,g2,M,O⟩,q,P⟩,m,Q⟩:=y;subst O P Q;refine⟨e,cs,_,u,z,⟨I,_,g0,g1,⟨w,J,E,h1,g2,λc j f=>q c j (.inr f),rfl⟩,λc j f=>?_,rfl⟩,?_,?_⟩
 · rcases f with f|f;.exact q c f (.inl j)
   .exact M c j f
 · rintro(h|h|h);.exact m (.inr (.inl h))
   .exact m (.inl h)
   .exact m (.inr (.inr h))
 grind
theorem fO.WJ{g:iq α}(h:fO b all hs x F v k)(f:xX b g.off fo k)(u:g.get x=[]):fO b all (g::hs) x F v k:=by
 obtain⟨e,cs,G,m,w,y,z,E⟩:=h;have H:cs[g.off]?=some fo:=by obtain⟨O,I,t,P,e,_,_⟩:=m;obtain⟨_,q,Q,J,M,R⟩:=f;grind
 have j:∀c,¬obF fo c:=λc f=>by simp[obF,ob,fo]at f
 refine⟨e,cs,G,m,w,⟨fo,G,H,?_,y,λc f=>(j c f).elim,?_⟩,z,E⟩;.exact .inl ⟨rfl,u⟩
 grind
def vw(x:α):List (iq α)->Prop|[]=>True|h::l=>h.upd/\h.set (h.set (zF l x) []) (h.get x)=zF l x/\(∀g∈l,g.off≠h.off)/\vw x l
theorem Hp:∀{all:List (iq α)},vw x all->∀{cs:List Value},(∀h∈all,∃w,cs[h.off]?=some w/\h.val x w k)->Enc.rep k (nZ all cs) (zF all x)->Enc.rep k cs x
 |[],_,cs,_,h=>h|g::l,⟨J,M,j,O⟩,cs,z,h=>by
  refine Hp O (λh P=>z h (bR _ P)) ?_;obtain⟨w,E,m⟩:=z g dw;letI:=g.enc;obtain⟨u,rfl,q⟩:∃u,w=u/\BG k u _:=⟨w,rfl,eC.1 m⟩;obtain⟨y,f⟩:=J k _ [w] _ _ h ⟨w,rfl,q⟩;have H:=Enc.len h;have e:(nZ (g::l) cs).take g.off++[w]++(nZ (g::l) cs).drop (g.off+[w].length)=(nZ (g::l) cs).set g.off w:=nE _ _ _ (by have:g.off+1<=Enc.sz α:=y;omega);rw[e]at f;rw[show g.set (zF (g::l) x) _=zF l x from M]at f;have Q:(nZ (g::l) cs).set g.off w=nZ l cs:=by
   rw[nZ,List.set_set];refine oC λi=>?_;by_cases hi:i=g.off;.subst hi;rw[Bt l cs _ j,E,List.getElem?_set_self (by rw[FF];exact(kr.1 E).1)]
   .rw[yU (λe=>hi e.symm)]
  rw[Q]at f;exact f
omit [Enc α]in theorem pV.gz:∀{l:List (iq α)}{k:K}{F:FP},pV cs x k l F->∃k':K,Handed k k' F/\∀h∈l,∃w,cs[h.off]?=some w/\h.val x w k'
 |[],k,F,h=>⟨k,⟨rfl,⟨λ_ _=>rfl,λ_ h=>h⟩,λb h=> .inl h⟩,λh f=>by simp at f⟩|g::l,k,F,⟨w,G,j,h1,q,u,y⟩=>by
  subst y;obtain⟨J,c1,z⟩:∃k':K,Handed k k' (obF w)/\g.val x w k':=by letI:=g.enc;exact ah.gz h1
  obtain⟨E,c2,H⟩:=(q.handed c1 u.symm).gz;refine⟨E,⟨c2.w.trans c1.w,?_,λb e=>?_⟩,λh f=>?_⟩;.exact⟨λb e=>(c2.le.blk b (c1.le.up b e)).trans (c1.le.blk b e),λb e=>c2.le.up b (c1.le.up b e)⟩
  · rcases c2.sh b e with e|e;.exact(c1.sh b e).imp id .inl
    .exact .inr (.inr e)
  · rcases bD.1 f with rfl|f;.exact⟨w,j,by letI:=h.enc;exact aW.pers (R:=IsV _) c2.le z⟩
    .exact H h f
theorem fO.close(h:fO b all hs x F v k)(f:vw x all)(m:∀g∈all,g∈hs):∃k':K,Handed k k' F/\Box b x k':=by obtain⟨e,cs,G,j,q,u,y,z⟩:=h;obtain⟨k',hk,E⟩:=u.gz;subst z;refine⟨k',⟨hk.w,hk.le,λc f=>(hk.sh c f).imp id .inr⟩,?_⟩;exact(j.handed hk y).OZ (Hp f (λg H=>E g (m g H)) (Enc.mono hk.le q))
end
section
variable{P:Program}{o:Oper}{a:Act}{k:K}{α:Type}[Enc α]{b:Nat}{all hs:List (iq α)}{x:α}{F G:FP}{v:Value}
theorem lA{R S:Pred}(h:aX P o a k R)(f:∀v k',bE k k'->R v k'->S v k'):aX P o a k S:=λnext Q e j=>h next Q e λv k' g r=>j v k' g (f v k' g r)
theorem AR{t e:TypeId}{p:Operand}{g:iq α}(U:o.op= .load t p)(E:P.underlying t=some (.slice e))(I:(P.info? t).map (·.size)=some 1)(V:cw b g.off (a.eval p) k)(h:fO b all hs x F v k)(W:g∈hs):aX P o a k (xX b g.off):=by
 obtain⟨e,cs,G,hb,hr,hO,hn,eF⟩:=h;have y:∃w,cs[g.off]?=some w:=by clear hr hn eF;revert G;induction hs with|nil=>simp at W;|cons q l ih=>rintro G⟨w,H,h0,_,h2,_⟩;grind
 obtain⟨w,y⟩:=y;obtain⟨ho',m,R,J,e1,T,h1⟩:=hb;have M:g.off<m.toList.length:=by rw[e1];exact(kr.1 y).1
 have z:w.oneCell'=true:=h1 w (by rw[e1];exact jx y);have O:At (fD.mk w) ⟨b,g.off,none⟩ k:=by refine⟨[w],⟨rfl,z⟩,rfl,m,R,(0,0),J,by simp at M⊢;omega,λj hj=>?_⟩;grind
 have Q:Ty P t fD:=⟨⟨_,E,rfl⟩,I⟩;have f:b<k.w.heap.size:=(bO.1 J).1;refine lA (aR U Q ⟨_,V,O⟩) λu k' hk E=>?_;obtain rfl:=Ad E;exact⟨gk f hk.size,m,R,(0,0),by rw[hk.blk b f];exact J,by rw[e1];exact y⟩
theorem uC{A:Array Oper}{i:Nat}{m:List Nat}{Q:Exit->Act->World->Prop}{t:TypeId}{p y:Operand}{g:iq α}{x':α}(ho:nth A.toList i=some o)(T:o.guard=none)(U:o.op= .store t p y)(hd:o.dst=none)(V:(P.info? t).map (·.size)=some 1)(hp:cw b g.off (a.eval p) k)(hB:fO b all hs x F v k)(E:g.off<Enc.sz α)(I:∃h∈all,h.off=g.off)(hx:zF all x'=zF all x)(hO:∀cs k G,pV cs x k hs G->pV cs x' k hs G)(W:∀h∈hs,h.off≠g.off)(hv:g.own x' (a.eval y) k)(ha:bj (obF (a.eval y)) F)(next:∀k' F',Chg F k k'->fO b all (g::hs) x' F' v k'->(∀c,F' c->F c∨obF (a.eval y) c)->wpOps P A Q m a k'.w):wpOps P A Q (i::m) a k.w:=by
 obtain⟨e,cs,G,hb,hr,hOw,hn,eF⟩:=hB;subst eF;have J:(a.eval y).oneCell'=true:=by letI:=g.enc;exact sJ hv
 refine cG ho T U hd V (Nx E) hp hb (AE J) λk' f hz=>?_;have z:∀c,b=c->¬k.sh c:=λc e=>e▸hb.own;have hle:=f.le z;have hlen:=hb.R0;have u:¬obF _ b:=λh=>ha b h (.inl rfl);have O:pV cs x k' hs G:=hOw.keep f z λc j e=>hn (e▸j);have R:∀{l:List _}{G:FP},(∀h∈l,h.off≠g.off)->pV cs x' k' l G->pV (cs.set g.off (a.eval y)) x' k' l G:=by intro l;induction l with|nil=>intro G _ h;exact h;|cons q l ih=>rintro G hq⟨w,H,h0,h1,h2,h3,h4⟩;exact⟨w,H,by rw[yU (λe=>hq q dw e.symm)];exact h0,h1,ih (λh hh=>hq h (bR _ hh)) h2,h3,h4⟩
 refine next k' _ ⟨f.tape,f.os,f.out,f.size,λc j hF=>f.blk c j (λe=>hF (.inl e)),f.up,λc j hs=>(f.new c j hs).imp id .inl,f.drawn⟩ ⟨e,cs.set g.off _,λc=>obF _ c∨G c,hz,?_,⟨a.eval y,G,?_,?_,R W (hO _ _ _ O),λc j hc'=>ha c j (.inr hc'),rfl⟩,?_,rfl⟩ λc j=>?_;.rw[FN all cs _ _ I,hx];exact Enc.mono hle hr
 .rw[List.getElem?_set_self (by omega)]
 .letI:=g.enc;exact ah.keep hv f (λc j e=>u (e▸j)) z
 · rintro(h|h);.exact u h
   .exact hn h
 grind
theorem Pq{m:Type}[Enc m]{H:List α}{I:List m}{e q:TypeId}{B J:Nat}{u w:Value}(h:ah B e H u k)(g:ah J q I w k)(M:e≠q):bj (obF u) (obF w):=by
 intro c f j;rcases h with⟨rfl,_⟩|⟨a,rfl,_⟩|⟨O,off,Q,R,cs,rfl,_,_,W,_⟩;.simp[obF,ob]at f
 .simp[obF,ob]at f
 · rcases g with⟨rfl,_⟩|⟨a,rfl,_⟩|⟨T,y,z,E,U,rfl,_,_,V,_⟩;.simp[obF,ob]at j
   .simp[obF,ob]at j
   · have h1:O=c:=by unfold obF ob at f;dsimp at f;split at f<;>simp at f;exact f
     have h2:T=c:=by unfold obF ob at j;dsimp at j;split at j<;>simp at j;exact j
     grind
def I0(f:List Nat)(x:α):Pred:=λv k=>∃cs,v= .agg cs.toArray/\Enc.agg α=true/\Enc.rep k cs x/\∀o∈f,cs[o]?=some fo
instance{f:List Nat}{x:α}:aW (I0 f x):=⟨λh⟨cs,e,g,r,j⟩=>⟨cs,e,g,Enc.mono h r,j⟩⟩
theorem KP{f:List Nat}{t:TypeId}{e:List (Nat×Operand)}{x:α}(g:o.op= .build t e.toArray)(h:∃v,(∀w,(Instr.build t (e.map λp=>(p.1,a.eval p.2)).toArray).run P w= .ok v w)/\I0 f x v k):aX P o a k (I0 f x):=by obtain⟨v,j,m⟩:=h;refine ak ?_ m;simp[execOp,g];simp[j]
theorem E8{A:Array Oper}{i:Nat}{f:List Nat}{g:List Nat}{Q:Exit->Act->World->Prop}{t:TypeId}{p y:Operand}{x0:α}(m:nth A.toList i=some o)(O:o.guard=none)(q:o.op= .store t p y)(R:o.dst=none)(hs:(P.info? t).map (·.size)=some (Enc.sz α))(T:cw b 0 (a.eval p) k)(I:Box b x0 k)(U:I0 f x (a.eval y) k)(h:∀k',Chg (Eq b) k k'->Box b x k'->(∀o∈f,xX b o fo k')->wpOps P A Q g a k'.w):wpOps P A Q (i::g) a k.w:=by obtain⟨V,u,_⟩:=I.raw;obtain⟨cs,e,ha,z,W⟩:=U;refine cG (β:=dt _) m O q R hs Upd.self T u ⟨cs,e,rfl,Enc.len z,Enc.one z⟩ λk' j J=>?_;have E:=j.le (λc e=>e▸I.own);refine h k' j (J.OZ (Enc.mono E z)) λo m=>?_;obtain⟨_,H,t',M,e',_,_⟩:=J;exact⟨(bO.1 M).1,H,t',(0,0),M,by rw[e'];exact W o m⟩
end
variable{P:Program}{o:Oper}{a:Act}{k:K}
section
variable{α β γ δ:Type}[Enc α][Enc β][Enc γ][Enc δ]{v:Value}
theorem rF.one{g:α->Option β}(h:rF P g v k):v.oneCell'=true:=by obtain⟨f,e,c,rfl,_⟩:=h;rfl
theorem wZ.one{g:α->β->Option γ}(h:wZ P g v k):v.oneCell'=true:=by obtain⟨f,e,c,rfl,_⟩:=h;rfl
end
end Go.Gb
namespace Go.Gb
section
variable{P:Program}{o:Oper}{a a0:Act}{k k' k0:K}{α β γ:Type}[Enc α][Enc β][Enc γ]
def zd(P:Program)(g:Unit->Option β):Pred:=λv k=>∃f first u,v= .func (.func f) first u/\(∀args w,(callFunc f args).run P w= .ok (.enter f args) w)/\∀k',Le k k'->∀y,g ()=some y->Calls P f (first++u) k'.w (Ret k' (IsV y))
instance(g:Unit->Option β):aW (zd P g):=⟨λh⟨f,j,c,e,m,r⟩=>⟨f,j,c,e,m,λk' hk=>r k' (h.trans hk)⟩⟩
theorem La{g:Unit->Option β}{x:Operand}{m:Array TypeId}{r:β}(q:o.op= .call {callee:= .value x,args:=#[],argTypes:=m}) (u:zd P g (a.eval x) k)(h:g ()=some r):aX P o a k (IsV r):=by obtain⟨f,z,c,e,w,y⟩:=u;refine wD ?_ (y k (Le.refl k) _ h);simp[execOp,q,resolve,invoke,Deferred.ofValue,e,w]
theorem zd.one{v:Value}{g:Unit->Option β}(h:zd P g v k):v.oneCell'=true:=by obtain⟨f,e,c,rfl,_⟩:=h;rfl
theorem aS.one{v:Value}{x:α}(h:aS x v k):v.oneCell'=true:=by obtain⟨e,rfl,_⟩:=h;rfl
@[reducible]def xf(f:Type)(R:f->Pred)(j:∀x,aW (R x))(h1:∀x v k,R x v k->v.oneCell'=true):Enc f where
 sz:=1;agg:=false;rep k q x:=∃v,q=[v]/\R x v k;len h:=by obtain⟨v,rfl,_⟩:=h;rfl
 mono w h:=by obtain⟨v,e,h⟩:=h;exact⟨v,e,(j _).pers w h⟩
 one h:=by obtain⟨v,rfl,h⟩:=h;simpa using h1 _ _ _ h
 agg1 _:=rfl
theorem xh{f:Type}{R:f->Pred}{g:∀x,aW (R x)}{h1:∀x v k,R x v k->v.oneCell'=true}{x:f}{v:Value}:@IsV f (xf f R g h1) x v k↔R x v k:=⟨λ⟨_,e,u,h,r⟩=>by subst h;subst e;exact r,λr=>⟨[v],rfl,v,rfl,r⟩⟩
@[reducible]def RS(α:Type)[Enc α]:Enc α:=xf α (λx=>aS x) (λ_=>inferInstance) λ_ _ _=>aS.one
theorem TR{x:α}{v:Value}:@IsV α (RS α) x v k↔aS x v k:=xh
@[reducible]def RE(P:Program)(β:Type)[Enc β]:Enc (Unit->Option β):=xf _ (zd P) (λ_=>inferInstance) λ_ _ _=>zd.one
@[reducible]def Rs(P:Program)(α β:Type)[Enc α][Enc β]:Enc (α->Option β):=xf _ (rF P) (λ_=>inferInstance) λ_ _ _=>rF.one
@[reducible]def Rl(P:Program)(α β γ:Type)[Enc α][Enc β][Enc γ]:Enc (α->β->Option γ):=xf _ (wZ P) (λ_=>inferInstance) λ_ _ _=>wZ.one
theorem Sk{g:Unit->Option β}{v:Value}:@IsV _ (RE P β) g v k↔zd P g v k:=xh
theorem S1{g:α->Option β}{v:Value}:@IsV _ (Rs P α β) g v k↔rF P g v k:=xh
theorem Sy{g:α->β->Option γ}{v:Value}:@IsV _ (Rl P α β γ) g v k↔wZ P g v k:=xh
end
section
variable{P:Program}{o:Oper}{a:Act}{k:K}{t u:TypeId}{x y:Operand}{n m r:Int}
def tD(n m:Int):Option Int:=some (IntKind.i64.wrap (n+m))
def Va(n m:Int):Option Int:=some (IntKind.i64.wrap (n-m))
theorem PH(g:o.op= .binOp .add t x y u)(e:IsV n (a.eval x) k)(f:IsV m (a.eval y) k)(h:tD n m=some r):aX P o a k (IsV r):=by have e:=au.1 e;have f:=au.1 f;obtain rfl:=ae h;refine ak ?_ (au.2 rfl);simp[execOp,g,e,f];simp[eqGuard,binOp,Op.intArith]
theorem QB(g:o.op= .binOp .sub t x y u)(e:IsV n (a.eval x) k)(f:IsV m (a.eval y) k)(h:Va n m=some r):aX P o a k (IsV r):=by have e:=au.1 e;have f:=au.1 f;obtain rfl:=ae h;refine ak ?_ (au.2 rfl);simp[execOp,g,e,f];simp[eqGuard,binOp,Op.intArith]
end
section
variable{P:Program}{a0:Act}{k0:K}{es:List Ent}
theorem AY{A:Array Oper}{n m:Nat}{D:Nat->Prop}{a:Act}{k:K}{i:Nat}{o:Oper}{Q:Exit->Act->World->Prop}{C:Act->World->Prop}(hn:a0.tmps.size=n)(hchk:lU n m A.toList es=true)(hst:Steps P es a0 k0 (A.toList.take m) es)(f:Inv A.toList es a0 k0 D a k)(hDm:∀j,D j->j<m)(hi:nth A.toList i=some o)(him:i<m)(hb:∀j∈aT o,D j)(hDi:¬D i)(hQ:LetsOut Q)(hC:∀a' W,(∀t,o.dst≠some t->a'.get t=a.get t)->Inv A.toList es a0 k0 (λj=>D j∨j=i) a' W->C a' W.w):wpOp P A Q i C a k.w:=by
 simp only[lU,aD,beq_iff_eq,decide_eq_true_eq]at hchk;obtain⟨⟨⟨⟨hlen,hml⟩,h2⟩,hedge⟩,hdist⟩:=hchk;have entry:∀j O,nth A.toList j=some O->j<m->∃e,nth es j=some e/\wg n A.toList (eB A.toList []) j O e=true:=by intro j O q G;obtain⟨e,he,hc⟩:=va h2 j O (rQ q G);exact⟨e,he,by simpa using hc⟩
 obtain⟨e,he,hc⟩:=entry i o hi him;have y:=hst.at i o e (rQ hi him) he;simp only[wg,aD]at hc;obtain⟨⟨hdst,hgd⟩,hneed⟩:=hc;obtain⟨d,hd,hdn⟩:∃d,o.dst=some d/\d<n:=by grind
 have hsz:a.tmps.size=n:=f.size.trans hn;have hda:d<a.tmps.size:=by rw[hsz];exact hdn
 have hAi:A[i]?=some o:=by rw[<-aH];exact hi
 have U:∀v W,bE k W->(match e.R with|some R=>R v W|none=>v=undef)->C (a.put o.dst v) W.w:=by
  intro v W H V;rw[hd];refine hC _ _ (λt ht=>by rw[dD _ _ _ _ hda];exact if_neg (λe=>ht (by rw[hd,e]))) ⟨f.grow.trans H,by rw[fG];exact f.size,by rw[ez];exact f.defers,?_,?_,?_,?_⟩
  · intro j O d' e' G q hd' he';rw[dD _ _ _ _ hda];by_cases hij:j=i;·subst hij;rw[hi,aU]at q;subst q;rw[he,aU]at he';subst he';rw[hd,aU]at hd';subst hd';rw[if_pos rfl];exact V
    · have z:=G.resolve_right hij;have hne:d≠d':=by
       have:=bc (bc hdist i o hi) j O q;simp only[bw,bT,beq_iff_eq,bne_iff_ne,hd,hd']at this;rcases this with(h|h)|h;.exact absurd h.symm hij
       .simp at h
       .exactλe=>h (by rw[e])
      rw[if_neg hne];have:=f.vals j O d' e' z q hd' he';cases hR:e'.R with|none=>rw[hR]at this;exact this;|some R=>rw[hR]at this;have hob':=hst.at j O e' (rQ q (hDm j z)) he';unfold Ob at hob';rw[hR]at hob';exact hob'.1.mono H this
  ·intro t ht;rw[dD _ _ _ _ hda];have hdt:d≠t:=λe=>ht i o (.inr rfl) hi (by rw[hd,e]);rw[if_neg hdt];exact f.rest t λj O G=>ht j O (.inl G)
  · intro j O q G x hx;rcases G with G|rfl;.exact .inl (f.closed j O q G x hx)
    .rw[hi,aU]at q;subst q;exact .inl (hb x hx)
  · intro j G;rcases G with G|rfl;.exact f.mem j G
    .exact qU hi
 have gval:∀j w',o.guard=some (j,w')->∃I ej M,nth A.toList j=some I/\nth es j=some ej/\I.dst=some M/\M<n/\(match ej.R with|some R=>R (a.get M) k|none=>a.get M=undef):=by
  intro j w' H;rw[H]at hgd;simp only[iW]at hgd;have z:=hb j hgd;have hjl:=f.mem j z;obtain⟨I,g⟩:∃I,nth A.toList j=some I:=⟨_,by rw[fH];exact bZ hjl⟩;obtain⟨ej,J,hcj⟩:=entry j I g (hDm j z);simp only[wg,aD]at hcj;obtain⟨M,F,E⟩:∃d,I.dst=some d/\d<n:=by have:=hcj.1.1;cases hod:I.dst with|none=>rw[hod]at this;simp at this;|some d=>rw[hod]at this;exact⟨d,rfl,by simpa using this⟩
  exact⟨I,ej,M,g,J,F,E,f.vals j I M ej z g F J⟩
 unfold wpOp;rw[hAi];simp only[];unfold Ob at y;cases hR:e.R with|some R=>
 rw[hR]at y U;obtain⟨hmono,y⟩:=y;have T:lp es a0 a k e.need:=by
  refine Fe _ ?_ ?_;·intro t j htj R' nd G;have:=bG.1 hneed _ htj;simp only[aD,iW,beq_iff_eq]at this;obtain⟨hjb,hjd⟩:=this;have z:=hb j hjb;cases g:nth A.toList j with|none=>rw[g]at hjd;simp at hjd;|some I=>rw[g]at hjd;exact f.vals j I t _ z g hjd G
  · intro t ht;have:=bG.1 hneed _ ht;simp only at this;refine f.rest t λj I z g F=>?_;have G:=bc this j I g;simp only[bw,bT,bne_iff_ne,beq_iff_eq]at G;rcases G with(h|h)|h;.exact h F
    .exact hDi (h▸z)
    .exact hDi (cq f.closed (λO q=>f.closed j O q z) h)
 rcases y with⟨hdo,u⟩|⟨j,w',Rj,ndj,H,hj',hrun,hskip⟩;rotate_left
 · obtain⟨I,ej,M,g,J,F,E,V⟩:=gval j w' H;have hy:=mX g F (show M<a.tmps.size by rw[hsz];exact E);rw[J,aU]at hj';subst hj';simp only at V;by_cases hvw:a.get M= .bool w'
   · have hw:Region.wanted o (yielded A a.tmps)=true:=by unfold Region.wanted;rw[H];simp only[hy,hvw];simp
     rw[if_pos hw];exact .inl (hrun a k _ f.grow T V hvw C Q hQ λv W hg' hv'=>U v W hg' hv')
   · have hw:Region.wanted o (yielded A a.tmps)=false:=by unfold Region.wanted;rw[H];simp only[hy];cases hvv:a.get M with|bool c=>rw[hvv]at hvw;simp only[Value.bool.injEq]at hvw;cases c<;>cases w'<;>simp_all|_=>simp
     rw[hw];simp only[mB,if_false];exact U undef k (bE.refl k) (hskip k _ f.grow V hvw)
 have hw:Region.wanted o (yielded A a.tmps)=true:=by unfold Region.wanted;cases H:o.guard with|none=>rfl;|some jw=>obtain⟨j,w'⟩:=jw;obtain⟨I,ej,M,g,J,F,E,V⟩:=gval j w' H;unfold iT at u;rw[H]at u;simp only[J]at u;have hy:=mX g F (show M<a.tmps.size by rw[hsz];exact E);simp only[hy];obtain⟨Rj,nj⟩:=ej;cases Rj with|none=>simp at u;|some Rj=>simp only[u _ _ V];simp
 rw[if_pos hw];exact .inl (hdo a k f.grow T C Q hQ λv W H V=>U v W H V);|none=>
 rw[hR]at y U;have hw:Region.wanted o (yielded A a.tmps)=false:=by unfold Region.wanted;unfold iT at y;cases H:o.guard with|none=>rw[H]at y;simp at y;|some jw=>obtain⟨j,w'⟩:=jw;obtain⟨I,ej,M,g,J,F,E,V⟩:=gval j w' H;rw[H]at y;simp only[J]at y;have hy:=mX g F (show M<a.tmps.size by rw[hsz];exact E);simp only[hy];obtain⟨Rj,nj⟩:=ej;cases Rj with|none=>simp only at V;simp only[V];simp[undef];|some Rj=>simp only[y _ _ V];cases w'<;>simp
 rw[hw];simp only[mB,if_false];exact U undef k (bE.refl k) rfl
end
section
variable{P:Program}{a:Act}{k:K}{α:Type}[Enc α]
def Bm(α:Type)[Enc α](B:Nat):Pred:=λv k=>∃x:α,gV B x v k
instance(B:Nat):aZ (Bm α B):=⟨λg⟨x,h⟩=>⟨x,aZ.mono g h⟩⟩
end
section
variable{P:Program}{a0:Act}{k0:K}{es:List Ent}
def Bl(m:Nat)(f:List Nat)(A:Array Oper):Bool:=Region.noSelect A&&f.all λl=>BW A l&&Nat.blt l m&&(match A[l]?with|some o=>(aT o).all (λe=>ed (eB A.toList []) m e||f.contains e)&&allI (λj g=>Nat.beq j l||ed (eB A.toList []) l j||(aT g).contains l||o.apart A g) 0 A.toList|none=>false)
def PB(m:Nat)(e:List Nat)(f:List Oper):Bool:=allI (λj _=>Nat.ble j m||(List.range j).all λi=>ed (eB f []) j i||e.contains i) 0 f
theorem CI{m:Nat}{e:List Nat}{f:List Oper}(h:PB m e f=true):∀j o,nth f j=some o->m<j->∀i,i<j->ed (eB f []) j i=true∨i∈e:=by intro j o g q i u;have w:=bc h j o g;simp[bT]at w;grind
theorem Gk{m:Nat}{f:List Nat}{A:Array Oper}(h:Bl m f A=true):Region.noSelect A=true/\∀l∈f,∃o,A[l]?=some o/\(∀a:Act,(∃v,∀w,(execOp a.eval o).run P w= .ok (.value v) w)∨(∀w,∃x z,(execOp a.eval o).run P w= .halt x z/\∀c,x≠ .panic c))/\o.guard=none/\l<m/\(∀e∈aT o,ed (eB A.toList []) m e=true∨e∈f)/\∀j q,nth A.toList j=some q->j=l∨ed (eB A.toList []) l j=true∨l∈aT q∨o.apart A q=true:=by
 unfold Bl at h;simp only[aD]at h;refine⟨h.1,λl E=>?_⟩;have h1:=bG.1 h.2 l E;simp only[aD,Nat.blt_eq]at h1;obtain⟨⟨F,G⟩,u⟩:=h1;obtain⟨o,y,H,I⟩:=zx F;rw[y]at u;simp only[aD]at u;refine⟨o,y,I,H,G,λe J=>?_,λj q M=>?_⟩;.have:=bG.1 u.1 e J;simpa using this
 · have:=bc u.2 j q M;simp only[bw,bT,iW]at this;rcases this with((g|g)|g)|g;.exact .inl (ba g)
   .exact .inr (.inl g)
   .exact .inr (.inr (.inl g))
   .exact .inr (.inr (.inr g))
theorem CB{A:Array Oper}{m:Nat}{Q:Exit->Act->World->Prop}(E:allI (λi o=>(aT o).all (.<i)) 0 A.toList=true)(H:∀j o,nth A.toList j=some o->∀i,m<i->i<j->ed (eB A.toList []) j i=true):∀(u i:Nat)(f:Array Bool)(a:Act)(w:World),m+1<=i->i+u=A.size->f.size=A.size->(∀j,f.getD j false=true↔j<i)->wpOps P A Q (List.range' i u) a w->wpAny P .any A Q u f a w:=by
 have g:∀(i:Nat)(f:Array Bool),m+1<=i->f.size=A.size->(∀j,f.getD j false=true↔j<i)->∀j,j∈Region.ready .any A f↔(j=i/\i<A.size):=by
  intro i f F z G j;simp only[Region.ready,bQ,eH,aD,cN];have hT:∀j,j<A.size->f.getD j true=f.getD j false:=by grind
  constructor
  · rintro⟨I,J,O⟩;rw[hT j I]at J;have hji:¬j<i:=λh=>by rw[(G j).2 h]at J;simp at J
    rcases bJ i j with q|hge
    · exfalso;have W:nth A.toList j=some A[j]:=by rw[aH];simp[I]
      have R:=H j _ W i (by omega) q;have M:∀x T,nth A.toList x=some T->x<i->∀e∈aT T,e<i:=by intro x T hx hxi e he;have:=bc E x T hx;grind
      have:=cq (L:=A.toList) (D:=(.<i)) M (j:=j) (i:=i) ?_ R;.omega
      · intro T U e he;rw[W,aU]at U;subst U;have hA:A[j]?=some A[j]:=by simp[I]
        rw[hA]at O;simp only[dW,eD,fh]at O;simp only[aT,aM,bQ,dO]at he;grind
    .exact⟨by omega,by omega⟩
  · rintro⟨rfl,q⟩;refine⟨q,?_,?_⟩;·rw[hT j q];cases hb:f.getD j false with|false=>rfl;|true=>have:=(G j).1 hb;omega
    · have hA:A[j]?=some A[j]:=by simp[q]
      rw[hA];simp only[dW,eD,fh];intro y hy;cases hyb:Region.binds .any y with|false=>rfl;|true=>
  simp only[fV,ga];have W:nth A.toList j=some A[j]:=by rw[aH];simp[q]
  have:=bc E j _ W;simp only[bw,bG,decide_eq_true_eq]at this;exact(G _).2 (this y.on (by simp only[aT,aM,bQ,dO];exact⟨y,⟨hy,hyb⟩,rfl⟩))
 intro u;induction u with|zero=>intro i f a w F hi z G h;refine⟨?_,by simpa[wpOps]using h⟩;refine xY.2 λj hj=>?_;have:=(g i f F z G j).1 hj;omega|succ u ih=>
 intro i f a w F hi z G h;refine⟨λV=>?_,λj hj=>?_⟩;·have:=(g i f F z G i).2 ⟨rfl,by omega⟩;rw[V]at this;simp at this
 · obtain⟨rfl,q⟩:=(g i f F z G j).1 hj;rw[uW,wpOps_cons]at h;refine wpOp_mono (λa' w' h'=>ih (j+1) _ a' w' (by omega) (by omega) (by simp[z]) (λx=>?_) h') h;by_cases hx:x=j;.subst hx;simp[cA,z,q]
   .rw[getD_set_ne _ (λe=>hx e.symm),G];omega
theorem Qm{A:Array Oper}{n m:Nat}{Q:Exit->Act->World->Prop}{B:K->Value->Prop}{pt ja:Nat}{late:List Nat}(hpt:∀i o,i≠ja->nth A.toList i=some o->o.dst≠some pt)(hjb:ed (eB A.toList []) m ja=true)(hn:a0.tmps.size=n)(hS:lU n m A.toList es=true)(hmA:m<A.size)(htail:PB m late A.toList=true)(hlate:Bl m late A=true)(hQp:∀c a w,¬Q (.panic c) a w)(hst:Steps P es a0 k0 (A.toList.take m) es)(hB:∀W u,B W u->Steps P es a0 W (A.toList.take m) es)(hQ:LetsOut Q)(hT:∀a k(D:Nat->Prop),(∀j,D j->j<m)->Inv A.toList es a0 k0 D a k->(∀o,nth A.toList m=some o->∀e∈aT o,D e)->∀C:Act->World->Prop,(∀W k1,B W (a.get pt)->Inv A.toList es a0 W D a k1->C a k1.w)->wpOp P A Q m C a k.w)(hpost:∀W a k,B W (a.get pt)->Inv A.toList es a0 W (.<m) a k->wpOps P A Q (List.range' (m+1) (A.size-(m+1))) a k.w):∀(M:Nat)(f:Array Bool)(a:Act)(k:K),f.size=A.size->M=(f.toList.filter (.=false)).length->(∀j,f.getD j false=true->j<=m)->((f.getD m false=false/\Inv A.toList es a0 k0 (λj=>f.getD j false=true) a k)∨(f.getD m false=true/\(∀o,nth A.toList m=some o->∀e∈aT o,f.getD e false=true)/\∃W,B W (a.get pt)/\Inv A.toList es a0 W (λj=>f.getD j false=true/\j<m) a k/\∀l∈late,f.getD l false=true))->wpAny P .any A Q M f a k.w:=by
 have hS':=hS;simp only[lU,aD,beq_iff_eq,decide_eq_true_eq]at hS';obtain⟨⟨⟨⟨hlen,hml⟩,h2⟩,O⟩,hdist⟩:=hS';obtain⟨hnos,hlsp⟩:=Gk hlate;have htail2:∀j o,nth A.toList j=some o->∀i,m<i->i<j->ed (eB A.toList []) j i=true:=λj o ho i hmi hij=>by
  rcases CI htail j o ho (by omega) i hij with h|h;.exact h
  ·obtain⟨_,_,_,_,h1,_⟩:=hlsp i h;omega
 intro M;induction M with|zero=>
 intro f a k hls hf hDm g;have q:∀j,j<A.size->f.getD j false=true:=by
  intro j J;have hz:=iA hf.symm;have:f[j]'(by omega)∉f.toList.filter (.=false):=by rw[hz];simp
  simp only[bQ,dO,Array.getElem_mem,true_and,decide_eq_true_eq,vf]at this;simp[cA,dU (show j<f.size by omega),this]
 have hm:A.size=m+1:=by
  rcases bJ (m+1) A.size with h|h;.have:=hDm (m+1) (q _ h);omega
  .omega
 rcases g with⟨h,_⟩|⟨_,_,W,hb,g,_⟩;.rw[q m hmA]at h;simp at h
 ·have H:(λj=>f.getD j false=true/\j<m)=(.<m):=funext λj=>propext ⟨λh=>h.2,λh=>⟨q j (by omega),h⟩⟩;rw[H]at g;refine CB (m:=m) O htail2 0 (m+1) f a k.w (aA _) (by omega) hls (λj=>⟨λh=>by have:=hDm j h;omega,λh=>q j (by omega)⟩) ?_;have:=hpost W a k hb g;rwa[show A.size-(m+1)=0 by omega]at this|succ M ih=>
    intro f a k hls hf hDm g;have hT2:∀j,j<A.size->f.getD j true=f.getD j false:=by intro j J;simp[cA,dU (show j<f.size by omega)]
    have R:∀j,j<A.size->((A[j]?).map (·.after.all λe=>!Region.binds .any e||f.getD e.on false)).getD false=true->∀o,nth A.toList j=some o->∀e∈aT o,f.getD e false=true:=by
     intro j hjA hj2 o ho e H;have hA:A[j]?=some o:=by rw[<-aH];exact ho
     rw[hA]at hj2;simp only[dW,eD,fh]at hj2;simp only[aT,aM,bQ,dO]at H;obtain⟨y,⟨hy,hyb⟩,rfl⟩:=H;have:=hj2 y hy;simpa only[hyb,fV,ga]using this
    by_cases T:∀j,j<m+1->f.getD j false=true
    · rcases g with⟨h,_⟩|⟨_,_,W,hb,g,_⟩;.rw[T m (by omega)]at h;simp at h
      ·have hD:∀j,f.getD j false=true↔j<m+1:=λj=>⟨λh=>by have:=hDm j h;omega,T j⟩;have H:(λj=>f.getD j false=true/\j<m)=(.<m):=funext λj=>propext ⟨λh=>h.2,λh=>⟨T j (by omega),h⟩⟩;rw[H]at g;have hcount:=Ap hmA hls hD;rw[<-hf]at hcount;refine CB (m:=m) O htail2 (M+1) (m+1) f a k.w (aA _) (by omega) hls hD ?_;rw[hcount];exact hpost W a k hb g
    · have hex:∃j,j<m+1/\f.getD j false=false/\∀i,i<j->f.getD i false=true:=by
       obtain⟨j,J⟩:=Classical.not_forall.1 T;have J:j<m+1/\f.getD j false=false:=by
        by_cases h:j<m+1;.exact⟨h,by cases hb:f.getD j false with|false=>rfl|true=>exact absurd (λ _=>hb) J⟩
        .exact absurd (λh'=>absurd h' h) J
       clear T;induction j using Nat.strongRecOn with|_ j ihj=>
 by_cases q:∀i,i<j->f.getD i false=true;.exact⟨j,J.1,J.2,q⟩
 ·obtain⟨i,hi⟩:=Classical.not_forall.1 q;obtain⟨hij,hib⟩:i<j/\¬f.getD i false=true:=⟨Classical.byContradiction λh=>hi λh'=>absurd h' h,λh=>hi λ _=>h⟩;exact ihj i hij (λh=>absurd (h (by omega)) hib) ⟨by omega,by simpa using hib⟩
      have E:∀x o',nth A.toList x=some o'->f.getD x false=true->∀e∈aT o',f.getD e false=true:=by
       intro x o' z hx e H;rcases g with⟨_,g⟩|⟨_,hmc,W,_,g,_⟩;.exact g.closed x o' z hx e H
       · by_cases hxm:x=m;.subst hxm;exact hmc o' z e H
         .exact(g.closed x o' z ⟨hx,by have:=hDm x hx;omega⟩ e H).1
      by_cases hpl:∃l∈late,f.getD l false=false/\l∈Region.ready .any A f
      · obtain⟨l,hl,hll,hlr⟩:=hpl;rcases g with⟨hm0,g⟩|⟨_,_,_,_,_,q⟩;rotate_left;.rw[q l hl]at hll;simp at hll
        obtain⟨o,hA,hp,hgd,hlm,hbnd,hap⟩:=hlsp l hl;have ho:nth A.toList l=some o:=by rw[aH];exact hA
        have hlA:l<A.size:=by omega
        have hDlt:∀j,f.getD j false=true->j<m:=λj J=>by
         have h1:=hDm j J;rcases bJ j m with h|h;.exact h
         · obtain rfl:j=m:=by omega
           rw[J]at hm0;simp at hm0
        have hb:∀e∈aT o,f.getD e false=true:=by have hlr':=hlr;simp only[Region.ready,bQ,eH,aD]at hlr';exact R l hlA hlr'.2.2 o ho
        have hs1:=AY (Q:=λ _ _ _=>False) (C:=λa' w'=>∃k',w'=k'.w/\Inv A.toList es a0 k0 (λj=>f.getD j false=true∨j=l) a' k') hn hS hst g hDlt ho hlm hb (by simp[hll]) trivial λa' k' _ F=>⟨k',rfl,F⟩;have hw:∀a:Act,Region.wanted o (yielded A a.tmps)=true:=λa=>by unfold Region.wanted;rw[hgd]
        unfold wpOp at hs1;rw[hA]at hs1;simp only[hw,if_true]at hs1;have hs1:=hs1.resolve_right λhx=>by obtain⟨_,b,w',hb⟩:=hx;exact hb
        unfold Oper.wp at hs1;obtain⟨v,hv⟩:∃v,∀w,(execOp a.eval o).run P w= .ok (.value v) w:=by
         rcases hp a with h|hx;.exact h
         ·obtain⟨x,w',hr',hnp⟩:=hx k.w;rw[hr']at hs1;cases x<;>simp only[Oper.upon]at hs1
        rw[hv k.w]at hs1;obtain⟨k',hkw,F⟩:=hs1;refine wpAny_first hA (Region.noSelect_spec hnos) (λc a w hq=>absurd hq (hQp c _ w)) M f a k.w (λj oj J I hjl hjn=>?_) hlr (.inl ⟨hw a,hv⟩) ?_
        · have hjA:j<A.size:=(bO.1 J).1;rw[hT2 j hjA]at hjl;rcases hap j oj (by rw[aH];exact J)with h|h|h|h;.exact absurd h I
          ·have:=cq (L:=A.toList) (D:=λx=>f.getD x false=true) E (j:=l) (i:=j) (λo' z=>by rw[ho,aU]at z;subst z;exact hb) h;rw[this]at hjl;simp at hjl
          ·simp only[aT,aM,bQ,dO]at h;obtain⟨y,⟨hy,hyb⟩,rfl⟩:=h;exact absurd rfl (hjn y hy hyb)
          .exact h
        · rw[hkw];have hil:l<f.size:=by omega
          have hcnt:=count_set hil hll;rw[<-hf]at hcnt;refine ih _ _ k' (by simp[hls]) (by omega) (λj J=>by
 by_cases I:j=l;.omega
 .rw[getD_set_ne _ (λe=>I e.symm)]at J;exact hDm j J) (.inl ⟨by rw[getD_set_ne _ (by omega)];exact hm0,?_⟩);have H:(λj=>(f.setIfInBounds l true).getD j false=true)=(λj=>f.getD j false=true∨j=l):=by
           funext j;by_cases I:j=l;.subst I;simp[cA,hil]
           .rw[getD_set_ne _ (λe=>I e.symm)];simp[I]
          rw[H];exact F
      refine⟨λhnil=>?_,λi hi=>?_⟩
      · exfalso;obtain⟨j,hjm,hjb,hlow⟩:=hex;have hjr:j∈Region.ready .any A f:=by
         simp only[Region.ready,bQ,eH,aD,cN];refine⟨by omega,by rw[hT2 j (by omega)];exact hjb,?_⟩;have hA:A[j]?=some A[j]:=by simp[show j<A.size by omega]
         rw[hA];simp only[dW,eD,fh];intro y hy;cases hyb:Region.binds .any y with
 |false=>rfl
 |true=> simp only[fV,ga];have ho:nth A.toList j=some A[j]:=by rw[aH];exact hA
         have:=bc O j _ ho;simp only[bw,bG,decide_eq_true_eq]at this;exact hlow _ (this y.on (by simp only[aT,aM,bQ,dO];exact⟨y,⟨hy,hyb⟩,rfl⟩))
        rw[hnil]at hjr;simp at hjr
      · simp only[Region.ready,bQ,eH,aD,cN]at hi;obtain⟨hiA,U,hi2⟩:=hi;rw[hT2 i hiA]at U;have ho:nth A.toList i=some A[i]:=by rw[aH];simp[hiA]
        have hb:=R i hiA hi2 _ ho;have hbm:∀e∈aT A[i],e<i:=by have:=bc O i _ ho;simp only[bw,bG,decide_eq_true_eq]at this;exact this
        have him:i<=m:=by
         rcases bJ m i with h|h
         · exfalso;have hc:=CI htail i _ ho h;obtain⟨j,hjm,hjb,hlow⟩:=hex;have hml:f.getD m false=true:=by
            rcases hc m h with V|V;.exact cq (L:=A.toList) (D:=λx=>f.getD x false=true) E (j:=i) (i:=m) (λo' z=>R i hiA hi2 o' z) V
            ·obtain⟨_,_,_,_,h1,_⟩:=hlsp m V;omega
           have q:∀l∈late,f.getD l false=true:=by
            rcases g with⟨h0,_⟩|⟨_,_,_,_,_,h0⟩;.rw[h0]at hml;simp at hml
            .exact h0
           rcases hc j (by omega)with V|V;·have:=cq (L:=A.toList) (D:=λx=>f.getD x false=true) E (j:=i) (i:=j) (λo' z=>R i hiA hi2 o' z) V;rw[this]at hjb;simp at hjb
           .rw[q j V]at hjb;simp at hjb
         .exact h
        have hil:i<f.size:=by omega
        have hcnt:=count_set hil U;rw[<-hf]at hcnt;have hDm':∀j,(f.setIfInBounds i true).getD j false=true->j<=m:=λj J=>by
         by_cases I:j=i;.omega
         .rw[getD_set_ne _ (λe=>I e.symm)]at J;exact hDm j J
        have G:∀j,(f.setIfInBounds i true).getD j false=true↔(f.getD j false=true∨j=i):=by
         intro j;by_cases I:j=i;.subst I;simp[cA,show j<f.size by omega]
         .rw[getD_set_ne _ (λe=>I e.symm)];simp[I]
        by_cases hie:i=m
        . subst hie;rcases g with⟨_,g⟩|⟨h,_⟩
          · have hDlt:∀j,f.getD j false=true->j<i:=λj J=>by
             have h1:=hDm j J;rcases bJ j i with h|h;.exact h
             · obtain rfl:j=i:=by omega
               rw[J]at U;simp at U
            have q:∀l,l∈late->f.getD l false=true:=by intro l;induction l using Nat.strongRecOn with|_ l ihl=>intro hl;cases hb':f.getD l false with|true=>rfl;|false=>
             exfalso;obtain⟨ol,hAl,_,_,hlm,hbnd,_⟩:=hlsp l hl;refine hpl ⟨l,hl,hb',mem_ready.2 ⟨by rw[hT2 l (by omega)];exact hb',ol,hAl,λe H hbe=>?_⟩⟩;have hmem:e.on∈aT ol:=by simp only[aT,aM,bQ,dO];exact⟨e,⟨H,hbe⟩,rfl⟩
             have hlt:=bc O l ol (by rw[aH];exact hAl);simp only[bw,bG,decide_eq_true_eq]at hlt;rcases hbnd _ hmem with h|h;.exact cq (L:=A.toList) (D:=λx=>f.getD x false=true) E (j:=i) (i:=e.on) (λo' z=>R i hiA hi2 o' z) h
             .exact ihl _ (hlt _ hmem) h
            refine hT a k (λj=>f.getD j false=true) hDlt g (λo' z=>by rw[ho,aU]at z;subst z;exact hb) _ λW k1 h1 h3=>?_;refine(ih _ a k1 (by simp[hls]) (by omega) hDm' (.inr ⟨(G i).2 (.inr rfl),λo' z e H=>?_,W,h1,?_,λl hl=>(G l).2 (.inl (q l hl))⟩));·rw[ho,aU]at z;subst z;exact(G e).2 (.inl (hb e H))
            · have H:(λj=>(f.setIfInBounds i true).getD j false=true/\j<i)=(λj=>f.getD j false=true):=by
               funext j;refine propext ⟨λh=>?_,λh=>⟨(G j).2 (.inl h),hDlt j h⟩⟩;rcases(G j).1 h.1 with h5|h5;.exact h5
               .have:=h.2;omega
              rw[H];exact h3
          .rw[h]at U;simp at U
        · have hilt:i<m:=by omega
          rcases g with⟨hm0,g⟩|⟨hm1,hmc,W,hbB,g,q⟩
          · have hDlt:∀j,f.getD j false=true->j<m:=λj J=>by
             have h1:=hDm j J;rcases bJ j m with h|h;.exact h
             · obtain rfl:j=m:=by omega
               rw[J]at hm0;simp at hm0
            refine AY hn hS hst g hDlt ho hilt hb (by simp[U]) hQ λa' k' _ F=>?_;refine ih _ a' k' (by simp[hls]) (by omega) hDm' (.inl ⟨by rw[getD_set_ne _ hie];exact hm0,?_⟩);have H:(λj=>(f.setIfInBounds i true).getD j false=true)=(λj=>f.getD j false=true∨j=i):=funext λj=>propext (G j);rw[H];exact F
          · have hjl:=cq (L:=A.toList) (D:=λx=>f.getD x false=true) E (j:=m) (i:=ja) hmc hjb;have hne:i≠ja:=λe=>by subst e;rw[hjl]at U;simp at U
            refine AY hn hS (hB W _ hbB) g (λj h=>h.2) ho hilt (λe H=>⟨hb e H,by have:=hbm e H;omega⟩) (λh=>by rw[h.1]at U;simp at U) hQ λa' k' hsame F=>?_;refine ih _ a' k' (by simp[hls]) (by omega) hDm' (.inr ⟨by rw[getD_set_ne _ hie];exact hm1,λo' z e H=>(G e).2 (.inl (hmc o' z e H)),W,(by rw[hsame pt (hpt i _ hne ho)];exact hbB),?_,λl hl=>(G l).2 (.inl (q l hl))⟩);have H:(λj=>(f.setIfInBounds i true).getD j false=true/\j<m)=(λj=>(f.getD j false=true/\j<m)∨j=i):=by
             funext j;rw[G j];refine propext ⟨λh=>?_,λh=>?_⟩
             · rcases h.1 with h5|h5;.exact .inl ⟨h5,h.2⟩
               .exact .inr h5
             · rcases h with h|h;.exact⟨.inl h.1,h.2⟩
               .exact⟨.inr h,by omega⟩
            rw[H];exact F
end
structure mP where
 R:FP->Pred
 vs:Nat
 need:List (Nat×Option Nat)cons:List Nat
class TC(B:Nat)(R:FP->Pred):Prop where
 keep:∀{F G:FP}{v:Value}{k k':K},R F v k->Chg G k k'->bj F G->(∀b,G b->¬k.sh b)->(∀b,G b->B<=b)->B<=k.w.heap.size->R F v k'
 lt:∀{F:FP}{v:Value}{k:K},R F v k->∀b,F b->b<k.w.heap.size/\¬k.sh b
instance{B:Nat}{R:FP->Pred}[Rsc R]:TC B R:=⟨λh c f g _ _=>Rsc.keep h c f g,λh b e=>⟨Rsc.lt h b e,Rsc.nsh h b e⟩⟩
def dF(R:Pred):FP->Pred:=λF v k=>F=noF/\R v k
instance{B:Nat}{R:Pred}[aW R]:TC B (dF R):=⟨λ⟨e,h⟩c _ g _ _=>⟨e,aW.pers (c.le g) h⟩,λ⟨e,_⟩b f=>by rw[e]at f;exact f.elim⟩
def VZ{f:Type}[Enc f](B:Nat)(x:f):FP->Pred:=λF v k=>F=noF/\∃e,v= .pointer (some e)/\e.block<B/\At x e k
instance{f:Type}[Enc f]{B:Nat}{x:f}:TC B (VZ B x):=⟨λ⟨e,j,h1,m,q,u,w⟩c _ y z E=>⟨e,j,h1,m,q,Enc.mono (c.le y) u,w.same (c.blk _ (by omega) λh=>by have:=z _ h;omega)⟩,λ⟨e,_⟩b g=>by rw[e]at g;exact g.elim⟩
def p7(f:List mP)(a0 a:Act)(k:K):List (Nat×Option Nat)->Prop|[]=>True|(t,some j)::x=>(match nth f j with|some e=>∃F,e.R F (a.get t) k|none=>True)/\p7 f a0 a k x|(t,none)::x=>a.get t=a0.get t/\p7 f a0 a k x
def wK(es:List mP)(a:Act)(k:K):List Nat->FP->Prop|[],G=>G=noF|j::l,G=>∃F H,(match nth es j with|some e=>e.R F (a.get e.vs) k|none=>False)/\wK es a k l H/\(¬j∈l->bj F H)/\G=λb=>F b∨H b
def G4(P:Program)(o:Oper)(a:Act)(k:K)(G:FP)(R:FP->Pred)(f:Nat):Prop:=∀(next:Act->World->Prop)(Q:Exit->Act->World->Prop),LetsOut Q->(∀v e F,Chg G k e->(∀b,F b->G b∨k.w.heap.size<=b)->R F ((a.put o.dst v).get f) e->next (a.put o.dst v) e.w)->o.wp P a k.w next Q
def NA(f:List mP)(D:Nat->Prop)(j:Nat):Prop:=∃i e,D i/\nth f i=some e/\j∈e.cons
section
variable{P:Program}{a0:Act}{k0:K}{es:List mP}{A:Array Oper}{n:Nat}
theorem CF{Fs:Nat->FP}{a:Act}{k:K}(hap:∀i j,i≠j->bj (Fs i) (Fs j)):∀(l:List Nat),(∀j∈l,∃e,nth es j=some e/\e.R (Fs j) (a.get e.vs) k)->wK es a k l (λb=>∃j∈l,Fs j b)|[],_=>by show _=noF;funext b;simp[noF]|j::l,h=>by obtain⟨e,he,hr⟩:=h j dw;refine⟨Fs j,_,by rw[he];exact hr,CF hap l λx hx=>h x (bR _ hx),λhj b hb ⟨j',hj',hb'⟩=>hap j j' (λe=>hj (e▸hj')) b hb hb',?_⟩;funext b;simp
theorem xV{Fs:Nat->FP}{a:Act}{k:K}:∀(f:List (Nat×Option Nat)),(∀t j,(t,some j)∈f->∀e,nth es j=some e->e.R (Fs j) (a.get t) k)->(∀t,(t,none)∈f->a.get t=a0.get t)->p7 es a0 a k f|[],_,_=>trivial|(t,some j)::x,h1,m=>by refine⟨?_,xV x (λg q h=>h1 g q (bR _ h)) λg h=>m g (bR _ h)⟩;grind;|(t,none)::x,h1,m=>⟨m t dw,xV x (λg q h=>h1 g q (bR _ h)) λg h=>m g (bR _ h)⟩
end
instance:cS ByteArray:=⟨λs=>[.string s],iD⟩
instance(priority:=low){f:Type}[Enc f][cS f]{x:f}:Flat (IsV x):=⟨λ⟨g,e,r⟩=>⟨g,e,cS.rep.2 (cS.rep.1 r)⟩⟩
section
variable{P:Program}{o:Oper}{a:Act}{k:K}{d:Nat}{α β:Type}[Enc α][Enc β]{G:FP}{es:List mP}
theorem By{w:World}{next:Act->World->Prop}{Q:Exit->Act->World->Prop}(m:o.guard=none)(h:wpOps P #[o] (λex a w=>match ex with| .normal=>next a w|_=>False) [0] a w):o.wp P a w next Q:=by
 have e:wpOp P #[o] _ 0 next a w:=wpOp_mono (λa2 q u=>by simpa[wpOps]using u) h;unfold wpOp at e;dsimp at e;rw[if_pos (by simp[Region.wanted,m])]at e;rcases e with e|e;.unfold Oper.wp at*;generalize(execOp a.eval o).run P w=res at*;cases res with
 |ok y z=>cases y<;>first|exact e|(refine Calls.mono e λE q g=>?_;cases E<;>first|exact g|exact g.elim|(obtain⟨_,_,f⟩:=g;exact f.elim))|(exact Rows.mono e λ _ _ g=>g)
 |halt x z=>cases x<;>simp[Oper.upon]at e⊢
 .obtain⟨_,_,_,f⟩:=e;exact f.elim
theorem DO{v:Value}(h:o.dst=some d)(e:d<a.tmps.size):(a.put o.dst v).get d=v:=by rw[h,dD _ _ _ _ e,if_pos rfl]
theorem HJ{R:Pred}(e:o.dst=some d)(g:d<a.tmps.size)(h:aX P o a k R):G4 P o a k noF (dF R) d:=λnext Q j m=>h next Q j λv q u w=>m v q noF (Chg.of u) (λ_ f=>f.elim) ⟨rfl,by rw[DO e g];exact w⟩
theorem Lf{x:α}(f:o.dst=some d)(g:d<a.tmps.size)(h:aX P o a k (gV k.w.heap.size x)):G4 P o a k noF (Cp x) d:=λnext Q j m=>h next Q j λv q u⟨b,e,y,z⟩=>m v q (Eq b) (Chg.of u) (λ _ e=> .inr (e▸y)) ⟨b,by rw[DO f g];exact e,rfl,z⟩
theorem AD{j:Nat}{e:mP}(h:wK es a k [j] G)(he:nth es j=some e):e.R G (a.get e.vs) k:=by
 obtain⟨F,H,h1,h2,_,h3⟩:=h;rw[he]at h1;have h2:H=noF:=h2;have:G=F:=by rw[h3,h2];funext b;exact propext ⟨λh=>h.elim id False.elim, .inl⟩
 rw[this];exact h1
theorem OR(h:wK es a k [] G):G=noF:=h
theorem L3{t e:TypeId}{x y:Operand}{U V W:List α}(F:o.dst=some d)(hs:d<a.tmps.size)(hg:o.guard=none)(ho:o.op= .call {callee:= .builtin .append,args:=#[x,y],argTypes:=#[t,t]})(hu:P.underlying t=some (.slice e))(he:dJ P e α)(H:HU e U G (a.eval x) k)(hy:cM V (a.eval y) k)(hz:eb U V=some W):G4 P o a k G (dF (IsV W)) d:=by
 intro next Q hQ hn;obtain⟨rfl,H⟩:=H;refine By hg (fZ rfl hg ho F hs hu he H hy hz λI k' h1 h2 h3 g m J=>?_);have u:I=a.put o.dst (I.get d):=by rw[F];cases I with|mk tm df=>
  subst h2;simp[Act.put];refine Array.ext (by simpa using h1) λi M hi2=>?_;by_cases q:i=d;.subst q;simp[Act.get,M]
  .have:=h3 i q;simp[Act.get]at this;grind
 obtain⟨k2,j,hv⟩:=m.gz;have z:=hn _ k2 noF ⟨by rw[j.w];exact g.tape,by rw[j.w];exact g.os,by rw[j.w];exact g.out,by rw[j.w];exact g.size,by rw[j.w];exact g.blk,λb O=>j.le.up b (g.up b O),λb O R=>(j.sh b R).elim (g.new b O) λh=>(J b h).imp (λh=>h) (λh=>by omega)|>.elim .inr (λh=>by omega),by rw[j.w];exact g.drawn⟩ (λ _ f=>f.elim) ⟨rfl,by rw[DO F hs];exact hv⟩;rw[<-u,j.w]at z;exact z
theorem G6{t:TypeId}{y:Operand}{g:Nat}{x z:α}(j:o.dst=none)(q:o.guard=none)(u:o.op= .store t (.tmp g) y)(w:(P.info? t).map (·.size)=some (Enc.sz α))(E:Cp x G (a.get g) k)(F:IsV z (a.eval y) k):G4 P o a k G (Cp z) g:=by intro next Q O H;obtain⟨b,e,rfl,I⟩:=E;refine By q (cG rfl q u j w Upd.self (e) I F λJ m M=>?_);have f:=H undef J (Eq b) m (λ _ h=> .inl h) ⟨b,by rw[j];exact e,rfl,M⟩;rw[j]at f;exact f
variable{a0:Act}{k0:K}{A:Array Oper}{Fs:Nat->FP}
end
section
variable{P:Program}{o:Oper}{a:Act}{k:K}{α β:Type}[Enc α][Enc β]
theorem E6{t e n:Nat}{x y:Operand}{l:List β}{z:α}{i:Int}{v:β}(R:o.op= .index t x y)(T:P.underlying t=some (.array n e))(U:Ty P e β)(hn:n=l.length)(G:Enc.agg α=true)(hf:∀k g,Enc.rep k g z->∀j(V:j<l.length),Enc.rep k ((g.drop (j*Enc.sz β)).take (Enc.sz β)) l[j])(W:IsV z (a.eval x) k)(H:IsV i (a.eval y) k)(h:aL l i=some v):aX P o a k (IsV v):=by
  obtain⟨g,e1,hr⟩:=W;have H:=au.1 H;obtain⟨h0,h1,h2,h3⟩:=nn h;have V:i.toNat<l.length:=(kr.1 h1).1;have f:Enc.rep k ((g.drop (i.toNat*Enc.sz β)).take (Enc.sz β)) v:=by grind
  obtain⟨⟨d,M,q⟩,I⟩:=U;have E:(P.info? e).map (·.size)=some (Enc.sz β):=I;obtain⟨u,hu,hv⟩:∃u,(part e g.toArray (i.toNat*Enc.sz β)).run P k.w= .ok u k.w/\IsV v u k:=by cases F:Enc.agg β with
 |true=>
 refine⟨.agg ((g.drop (i.toNat*Enc.sz β)).take (Enc.sz β)).toArray,?_,_,?_,f⟩;·simp only[part];simp[er M,q,F,run_sizeOf E,List.extract_eq_take_drop]
 .simp[mkV,F]|false=>
   have h1:Enc.sz β=1:=Enc.agg1 F;have m:=Enc.len f;rw[h1]at m f⊢;obtain⟨w,O⟩:∃w,(g.drop (i.toNat*1)).take 1=[w]:=pz.1 m;have Q:g.toArray[i.toNat*1]?=some w:=by
    have:(g.drop (i.toNat*1))[0]?=some w:=by have h5:=congrArg (λl=>l[0]?) O;simpa[lR]using h5
    simpa using this
   refine⟨w,?_,_,?_,O▸f⟩
   · simp only[Nat.mul_one]at Q⊢;have J:g[i.toNat]?=some w:=by simpa using Q
     simp[part,er M,q,F,J]
   .simp[mkV,F]
  refine ak (v:=u) ?_ hv;rw[G]at e1;have e3:a.eval x= .agg g.toArray:=e1;simp only[execOp,R,H,e3];simp[Instr.index,asIntOf,run_underlying T,run_sizeOf E,h0];rw[if_pos (by omega)];rw[hu];rfl
end
section
variable{P:Program}{o:Oper}{a:Act}{k:K}{x y z u w:Operand}{n m l p q:Int}{ts:Array TypeId}
theorem PG(F:o.op= .call {callee:= .builtin .min,args:=#[x,y,z,u],argTypes:=ts}) (h:IsV n (a.eval x) k)(f:IsV m (a.eval y) k)(j:IsV l (a.eval z) k) (E:IsV p (a.eval u) k):aX P o a k (IsV (min (min (min n m) l) p)):=by have h:=au.1 h;have f:=au.1 f;have j:=au.1 j;have E:=au.1 E;refine ak ?_ (au.2 rfl);simp[execOp,F,resolve,invoke,builtin,h,f,j,E,Builtin.min_,Ao]
theorem O9(G:o.op= .call {callee:= .builtin .max,args:=#[x,y,z,u,w],argTypes:=ts}) (h:IsV n (a.eval x) k)(f:IsV m (a.eval y) k)(j:IsV l (a.eval z) k)(E:IsV p (a.eval u) k)(F:IsV q (a.eval w) k):aX P o a k (IsV (max (max (max (max n m) l) p) q)):=by have h:=au.1 h;have f:=au.1 f;have j:=au.1 j;have E:=au.1 E;have F:=au.1 F;refine ak ?_ (au.2 rfl);simp[execOp,G,resolve,invoke,builtin,h,f,j,E,F,Builtin.max_,BU]
theorem Xu{A:Array Operand}{x y z u:Operand}(h:A.toList=[x,y,z,u]):A=#[x,y,z,u]:=by apply Array.toList_inj.1;rw[h]
theorem Xe{A:Array Operand}{x y z u w:Operand}(h:A.toList=[x,y,z,u,w]):A=#[x,y,z,u,w]:=by apply Array.toList_inj.1;rw[h]
end
structure Ptr where a:Option Addr deriving DecidableEq,Inhabited
instance:Enc Ptr where
 sz:=1;agg:=false;rep _ f x:=f=[.pointer x.a];len h:=by simp[h]
 mono _ h:=h;one h:=by subst h;simp[Value.oneCell']
 agg1 _:=rfl
inductive Tp where|int|bool|str|ik(κ:IntKind)|list(t:Tp)|st(n:Nat)|op|rf(t:Tp)|f0(b:Tp)|f1(a b:Tp)|f2(a b c:Tp)|pv
@[reducible]def Tp.den(S:Nat->Type):Tp->Type|int=>Int|bool=>Bool|str=>ByteArray|ik h=>IK h|list t=>List (t.den S)|st n=>S n|op=>Opq|rf t=>t.den S|f0 b=>Unit->Option (b.den S)|f1 a b=>a.den S->Option (b.den S)|f2 a b c=>a.den S->b.den S->Option (c.den S)|q=>Ptr
def IntKind.same:(a b:IntKind)->Option (PLift (a=b))| .i8, .i8=>some ⟨rfl⟩| .i16, .i16=>some ⟨rfl⟩| .i32, .i32=>some ⟨rfl⟩| .i64, .i64=>some ⟨rfl⟩| .u8, .u8=>some ⟨rfl⟩| .u16, .u16=>some ⟨rfl⟩| .u32, .u32=>some ⟨rfl⟩| .u64, .u64=>some ⟨rfl⟩|_,_=>none
def vp(a b:Nat):Option (PLift (a=b)):=if h:a=b then some ⟨h⟩else none
def Tp.same:(a b:Tp)->Option (PLift (a=b))
 |int,int=>some ⟨rfl⟩|bool,bool=>some ⟨rfl⟩|str,str=>some ⟨rfl⟩|ik a,ik b=>(IntKind.same a b).map λh=>⟨congrArg ik h.down⟩|list a,list b=>(Tp.same a b).map λh=>⟨congrArg list h.down⟩|st a,st b=>(vp a b).map λh=>⟨congrArg st h.down⟩|op,op=>some ⟨rfl⟩|pv,pv=>some ⟨rfl⟩|rf a,rf b=>(Tp.same a b).map λh=>⟨congrArg rf h.down⟩|f0 a,f0 b=>(Tp.same a b).map λh=>⟨congrArg f0 h.down⟩|f1 a b,f1 g m=>match Tp.same a g,Tp.same b m with|some h,some i=>some ⟨by rw[h.down,i.down]⟩|_,_=>none
 |f2 a b c,f2 g m x=>match Tp.same a g,Tp.same b m,Tp.same c x with|some h,some i,some j=>some ⟨by rw[h.down,i.down,j.down]⟩|_,_,_=>none
 |_,_=>none
@[reducible]def HL(S:Nat->Type):List Tp->Type|[]=>Unit|[a]=>a.den S|a::b::l=>a.den S×HL S (b::l)
section
variable{S:Nat->Type}
@[reducible]def qg(P:Program)(E:∀n,Enc (S n)):(t:Tp)->Enc (t.den S)| .int=>inferInstanceAs(Enc Int)| .bool=>inferInstanceAs(Enc Bool)| .str=>inferInstanceAs(Enc ByteArray)| .ik f=>inferInstanceAs(Enc (IK f))| .list t=>letI:=qg P E t;inferInstanceAs (Enc (List (t.den S)))| .st n=>E n| .op=>inferInstanceAs(Enc Opq)| .pv=>inferInstanceAs(Enc Ptr)| .rf t=>@RS (t.den S) (qg P E t)| .f0 b=>@RE P (b.den S) (qg P E b)| .f1 a b=>@Rs P (a.den S) (b.den S) (qg P E a) (qg P E b)| .f2 a b c=>@Rl P (a.den S) (b.den S) (c.den S) (qg P E a) (qg P E b) (qg P E c)
instance:Enc Unit where
 sz:=0;agg:=true;rep _ f _:=f=[];len h:=by simp[h]
 mono _ h:=h;one h:=by subst h;simp
 agg1 h:=by simp at h
@[reducible]def SY(P:Program)(E:∀n,Enc (S n)):(l:List Tp)->Enc (HL S l)|[]=>inferInstanceAs(Enc Unit)|[a]=>qg P E a|a::b::l=>letI:=qg P E a;letI:=SY P E (b::l);inferInstanceAs(Enc (a.den S×HL S (b::l)))
end
def JH{S:Nat->Type}(z:∀n,S n):(t:Tp)->t.den S| .int=>(0:Int)| .bool=>false| .str=>(⟨#[]⟩:ByteArray)| .ik _=>⟨0⟩| .list _=>[]| .st n=>z n| .op=>(⟨⟩:Opq)| .rf t=>JH z t| .f0 _=>λ_=>none| .f1 _ _=>λ_=>none| .f2 _ _ _=>λ_ _=>none| .pv=>(⟨none⟩:Ptr)
def N4{S:Nat->Type}(z:∀n,S n):(l:List Tp)->HL S l|[]=>()|[a]=>JH z a|a::b::l=>(JH z a,N4 z (b::l))
structure Mb (P:Program){S:Nat->Type}(enc:∀n,Enc (S n)){R:Type}(RP:R->FP->Pred)where
 ty:TypeId
 kt:Tp
 vt:Tp
 new:R
 get:R->kt.den S->vt.den S
 set:R->kt.den S->vt.den S->Option R
 new_ok:∀{o:Oper}{a:Act}{k:K},o.op= .makeMap ty none->aX P o a k λv k'=>∃F,RP new F v k'/\∀b,F b->k.w.heap.size<=b
 get_ok:∀{o:Oper}{a:Act}{k:K}{x y:Operand}{r:R}{F:FP}{n:kt.den S},o.op= .lookup ty x y false->RP r F (a.eval x) k->@IsV _ (qg P enc kt) n (a.eval y) k->aX P o a k (@IsV _ (qg P enc vt) (get r n))set_ok:∀{A:Array Oper}{i:Nat}{rest:List Nat}{o:Oper}{Q:Exit->Act->World->Prop}{a:Act}{k:K}{x y z:Operand}{r r':R}{F:FP}{n:kt.den S}{w:vt.den S},nth A.toList i=some o->o.guard=none->o.op= .mapUpdate ty x y z->o.dst=none->RP r F (a.eval x) k->@IsV _ (qg P enc kt) n (a.eval y) k->@IsV _ (qg P enc vt) w (a.eval z) k->set r n w=some r'->(∀k',Chg F k k'->RP r' F (a.eval x) k'->wpOps P A Q rest a k'.w)->wpOps P A Q (i::rest) a k.w
structure Tb where
 P:Program
 S:Nat->Type
 fs:Nat->List Tp
 to:∀n,S n->HL S (fs n)of:∀n,HL S (fs n)->S n
 zero:∀n,S n
 deq:∀n,DecidableEq (S n)enc:∀n,Enc (S n)to_of:∀n y,to n (of n y)=y
 zero_eq:∀n,to n (zero n)=N4 zero (fs n)enc_eq:∀n,enc n=(letI:=SY P enc (fs n);Enc.ofMap (to n))RD:Nat->Type:=λ _=>Unit
 RP:∀n,RD n->FP->Pred:=λ _ _ _ _ _=>False
 RPok:∀n x,Rsc (RP n x):=by exactλ _ _=>⟨λh=>h.elim,λh=>h.elim,λh=>h.elim,λh=>h.elim⟩RPone:∀n x y F G v k,RP n x F v k->RP n y G v k->F=G:=by exactλ _ _ _ _ _ _ _ h=>h.elim
 RZ:∀n,RD n:=by exactλ _=>()RProot:∀n x F v k b,RP n x F v k->(v= .pointer (some ⟨b,0,none⟩)∨obF v b)->¬k.sh b->F b:=by exactλ _ _ _ _ _ _ h=>h.elim
 RN:∀n,RD n->Option Bool:=λ _ _=>none
 RNok:∀n x F v k b,RP n x F v k->RN n x=some b->∃p,v= .pointer p/\p.isNone=b:=by exactλ _ _ _ _ _ _ h=>h.elim
 RL:∀n,RD n->Option (Σ t:Tp,List (t.den S)):=λ _ _=>none
 RLok:∀n x F v k (t:Tp) (xs:List (t.den S)),RP n x F v k->RL n x=some ⟨t,xs⟩->@IsV ((Tp.list t).den S) (qg P enc (.list t)) xs v k:=by exactλ _ _ _ _ _ _ _ _ h=>by cases h
 SG:Nat->Option (Σ t:Tp,t.den S->Option Addr):=λ _=>none
 SD:∀m m2,Option (RD m->RD m2):=λ _ _=>none
 SDok:∀m m2 z f F b (t:Tp) g (x:t.den S) q k,RP m z F (.pointer (some ⟨b,0,none⟩)) k->SG m=some ⟨t,g⟩->(letI:=qg P enc t;Box b x k)->g x=some q->SD m m2=some f->∃F',RP m2 (f z) F' (.pointer (some q)) k:=by exactλ _ _ _ _ _ _ _ _ _ _ _ _ h=>by cases h
 MM:∀n,Option (Mb P enc (RP n)):=λ _=>none
 MT:TypeId->Option Nat:=λ _=>none
 gl:Nat->Option (Σ t:Tp,t.den S):=λ _=>none
 gi:Option Nat:=none
variable{T:Tb}
abbrev Tb.D(T:Tb)(t:Tp):Type:=t.den T.S
@[reducible]def Tb.e(T:Tb)(t:Tp):Enc (T.D t):=qg T.P T.enc t
attribute [instance]Tb.e
@[reducible]def Tb.ei(T:Tb)(n:Nat):Enc (T.S n):=T.enc n
attribute [instance]Tb.ei
@[reducible]def Tb.h(T:Tb)(l:List Tp):Enc (HL T.S l):=SY T.P T.enc l
attribute [instance]Tb.h
def Tb.zJ(T:Tb)(t:Tp):T.D t:=JH T.zero t
structure iu(T:Tb)(t u:Tp)where
 off:Nat
 get:T.D t->T.D u
 set:T.D t->T.D u->T.D t
inductive Rk where|n|o(e:TypeId)(t:Tp)|b(t:Tp)|c(m:Nat)
@[reducible]def Rk.D(T:Tb):Rk->Type| .n=>Unit| .o _ t=>List (T.D t)| .b t=>T.D t| .c m=>T.RD m
inductive AV (T:Tb)where|top|any|nil|v (t:Tp)(x:T.D t)|fl (t:Tp)(xs:List (T.D t))|e0|tup (l:List (Σ t,T.D t))|ref (t:Tp)(x:T.D t)|own (lk:Bool)(e:TypeId)(t:Tp)(xs:List (T.D t))|box (lk:Bool)(t:Tp)(x:T.D t)|al (s:Nat)|ab (s:Nat)(t:Tp)(x:T.D t)(u:Tp)(L:iu T t u)|ao (s:Nat)(e:TypeId)(t:Tp)(xs:List (T.D t))(i:Nat)(x:T.D t)(u:Tp)(L:iu T t u)|rs (lk:Bool)(n:Nat)(x:T.RD n)|tr (lk:Bool)(κ:Rk)(x:κ.D T)(l:List (Σ t,T.D t))|tq (l:List (Σ t,T.D t))|mv (f:Nat)(s:Nat)|sp (s:Nat)(m:Nat)
abbrev Env(T:Tb):=List (Nat×AV T)
def lk:Env T->Nat->AV T|[],_=> .top|(s,a)::e,t=>bif Nat.beq s t then a else lk e t
def cast?{S:Nat->Type}(a b:Tp)(x:a.den S):Option (b.den S):=match Tp.same a b with|some h=>some (h.down▸x)|none=>none
def mkv:(t:Tp)->T.D t->AV T| .rf t,x=> .ref t x|t,x=> .v t x
def nrm:AV T->AV T| .fl t x=> .v (.list t) x|a=>a
def opv(e:Env T):Operand->AV T
 | .tmp t=>nrm (lk e t)| .const (.int .i64 n)=> .v .int n| .const (.int f n)=> .v (.ik f) (⟨n⟩:IK f)| .const (.bool b)=> .v .bool b| .const (.string s)=> .v .str s| .const (.slice none 0 0)=> .e0| .const (.pointer none)=> .nil| .global g=>match T.gl g with|some ⟨t,x⟩=> .ref t x|none=> .top
 |_=> .top
def res(e:Env T):AV T->AV T| .al s=>lk e s|a=>a
def A4(e:Env T)(s:Nat):Nat:=match lk e s with| .al f=>f|_=>s
def mvv(e:Env T)(x:Operand):AV T:=match x with
 | .tmp t=>match lk e t with| .own _ _ _ _=> .al t| .box _ _ _=> .al t| .rs _ _ _=> .al t| .tr _ _ _ _=> .al t|a=>a
 |x=>opv e x
def asT(t:Tp):AV T->Option (T.D t)
 | .v u x=>cast? u t x| .e0=>match t with| .list _=>some []|_=>none
 | .ref u x=>match t with| .rf t=>cast? u t x|_=>none
 |_=>none
def asF(e:Env T):Operand->Option (Σ t,List (T.D t))
 | .tmp t=>match lk e t with| .fl t x=>some ⟨t,x⟩|_=>none
 |_=>none
def asI:AV T->Option Int| .v .int n=>some n|_=>none
def asB:AV T->Option Bool| .v .bool n=>some n|_=>none
def asL(e:Env T)(a:AV T):Option (Σ t,List (T.D t)):=match res e a with| .v (.list t) f=>some ⟨t,f⟩| .own _ _ t f=>some ⟨t,f⟩| .rs _ m x=>T.RL m x|_=>none
def szT(T:Tb)(t:Tp):Nat:=(T.e t).sz
def iu.id(t:Tp):iu T t t:=⟨0,λx=>x,λ_ y=>y⟩
structure Ro(T:Tb)(l:List Tp)(u:Tp)where
 off:Nat
 get:HL T.S l->T.D u
 set:HL T.S l->T.D u->HL T.S l
def BX:(l:List Tp)->Nat->Option (Σ u,Ro T l u)|[],_=>none|[a],0=>some ⟨a,0,λx=>x,λ_ y=>y⟩|[_],_+1=>none|a::_::_,0=>some ⟨a,0,λx=>x.1,λx y=>(y,x.2)⟩|a::b::l,i+1=>match BX (b::l) i with|some ⟨u,L⟩=>some ⟨u,szT T a+L.off,λx=>L.get x.2,λx y=>(x.1,L.set x.2 y)⟩|none=>none
def Hq(n i:Nat):Option (Σ u,iu T (.st n) u):=match BX (T:=T) (T.fs n) i with|some ⟨u,L⟩=>some ⟨u,L.off,λx=>L.get (T.to n x),λx y=>T.of n (L.set (T.to n x) y)⟩|none=>none
def iu.comp{t u w:Tp}(L:iu T t u)(M:iu T u w):iu T t w:=⟨L.off+M.off,λx=>M.get (L.get x),λx y=>L.set x (M.set (L.get x) y)⟩
def uo(P:Program)(s f:Nat):Option Nat:=match P.underlying s with
 |some (.struct e)=>match e[f]?with
  |some d=>match P.info? d.type with
   |some i=>match i.size with|0=>none|_+1=>some d.offset
   |none=>none
  |none=>none
 |_=>none
def tyB(P:Program)(T:Tb)(t:TypeId)(u:Tp):Bool:=(match P.underlying t with|some d=>uT d==(T.e u).agg|none=>false)&&(match P.info? t with|some i=>i.size==(T.e u).sz|none=>false)
def elB(P:Program)(T:Tb)(e:TypeId)(u:Tp):Bool:=match P.info? e with|some i=>(match i.zero with|some z=>z.cells.size==szT T u|none=>false)&&i.size==szT T u&&Nat.ble 1 (szT T u)&&Nat.ble i.bytes 65536|none=>false
def Cz(P:Program)(t:TypeId):Option TypeId:=match P.underlying t with|some (.slice e)=>some e|_=>none
def Jy:List (Option (List Value))->Option (List Value)|[]=>some []|a::l=>match a,Jy l with|some x,some y=>some (x++y)|_,_=>none
def zc(T:Tb):Nat->Tp->Option (List Value)|0,_=>none|_+1, .int=>some [.int .i64 0]|_+1, .bool=>some [.bool false]|_+1, .str=>some [.string ⟨#[]⟩]|_+1, .ik e=>some [.int e 0]|_+1, .list _=>some [.slice none 0 0]|_+1, .op=>some [.slice none 0 0]|_+1, .rf _=>none|_+1, .f0 _=>none|_+1, .f1 _ _=>none|_+1, .f2 _ _ _=>none|_+1, .pv=>none|f+1, .st n=>Jy ((T.fs n).map (zc T f))
def vEq:Value->Value->Bool| .int f n, .int e g=>f==e&&n==g| .bool a, .bool b=>a==b| .string a, .string b=>a.data.size==0&&b.data.size==0| .slice none 0 0, .slice none 0 0=>true|_,_=>false
def MP:List Value->List Value->Bool|[],[]=>true|a::l,b::m=>vEq a b&&MP l m|_,_=>false
def oP(P:Program)(T:Tb)(y:TypeId)(t:Tp):Bool:=match P.info? y with
 |some i=>match i.zero,zc T 9 t with|some z,some f=>(match z with| .agg a=>(T.e t).agg&&MP a.toList f|z=>!(T.e t).agg&&MP [z] f)|_,_=>false
 |none=>false
structure FnE(T:Tb)where
 dom:List Tp
 cod:List Tp
 run:HL T.S dom->Option (HL T.S cod)
def args:(l:List Tp)->List (AV T)->Option (HL T.S l)
 |[],[]=>some ()|[a],[x]=>asT a x|a::b::l,x::e=>match asT a x,args (b::l) e with|some y,some f=>some (y,f)|_,_=>none
 |_,_=>none
def unH:(l:List Tp)->HL T.S l->List (Σ t,T.D t)|[],_=>[]|[a],x=>[⟨a,x⟩]|a::b::l,x=>⟨a,x.1⟩::unH (b::l) x.2
def mH(l:List Tp)(x:HL T.S l):AV T:=match l,x with|[],_=> .any|[a],x=>mkv a x|a::b::l,x=> .tup (unH (a::b::l) x)
inductive Pm where|v(t:Tp)|tu|tk|fn(g:Nat)
def eY:List Pm->List Tp|[]=>[]| .v t::l=>t::eY l|_::l=>eY l
def hdH{S:Nat->Type}:{t:Tp}->{l:List Tp}->HL S (t::l)->t.den S|_,[],x=>x|_,_::_,x=>x.1
def tlH{S:Nat->Type}:{t:Tp}->{l:List Tp}->HL S (t::l)->HL S l|_,[],_=>()|_,_::_,x=>x.2
def Jw{S:Nat->Type}:{t:Tp}->{l:List Tp}->t.den S->HL S l->HL S (t::l)|_,[],x,_=>x|_,_::_,x,y=>(x,y)
structure FnR(T:Tb)where
 pm:List Pm
 tu:Rk
 tk:Rk
 ro:Rk
 cod:List Tp
 ρ:Type
 inj:ρ->tu.D T×ro.D T×HL T.S cod
 run:HL T.S (eY pm)->tu.D T->tk.D T->Option ρ
def Rk.av:(f:Rk)->f.D T->AV T| .n,_=> .any| .o e t,g=> .own false e t g| .b t,x=> .box false t x| .c m,x=> .rs false m x
def isN:Rk->Bool| .n=>true|_=>false
def uJ(ro:Rk)(cod:List Tp)(w:ro.D T)(r:HL T.S cod):AV T:=bif isN ro then mH cod r else match cod,r with|[],_=>ro.av w|c::l,r=> .tr false ro w (unH (c::l) r)
structure FnQ(T:Tb)where
 amb:Bool
 m:Nat
 dom:List Tp
 cod:List Tp
 run:T.RD m->HL T.S dom->Option (HL T.S cod)
abbrev NL(T:Tb):=List (FuncId×FnQ T)
def KV:NL T->FuncId->Option (FnQ T)|[],_=>none|(g,d)::l,f=>bif Nat.beq g f then some d else KV l f
def Ku(e:Env T)(m:Nat):AV T->Option (T.RD m)
 | .al s=>match lk e s with
  | .rs _ m' z=>match vp m' m with|some h=>some (h.down▸z)|none=>none
  |_=>none
 | .sp s n=>match lk e s with
  | .rs _ m' z=>match vp m' n with
   |some h=>match T.SD n m with|some f=>some (f (h.down▸z))|none=>none
   |none=>none
  |_=>none
 |_=>none
def PE(m:Nat)(e:Env T):Env T->Option Nat|[]=>none|(s, .rs _ f _)::l=>bif Nat.beq f m&&(match lk e s with| .rs _ f _=>Nat.beq f m|_=>false)then some s else PE m e l|_::l=>PE m e l
def MD(e:Env T)(g:Bool)(m:Nat)(f:List Operand):Option (T.RD m×List Operand):=bif g then(match PE m e e with
 |some s=>match Ku e m (.al s)with|some z=>some (z,f)|none=>none
 |none=>none)else match f with
 |x::f=>match Ku e m (mvv e x)with|some z=>some (z,f)|none=>none
 |[]=>none
def Xr:List Tp->Bool|[.pv]=>true|_=>false
def FnQ.sq(d:FnQ T):Bool:=Xr d.cod&&!d.amb
def Ix(e:Env T)(d:FnQ T)(xs:List Operand)(r:HL T.S d.cod):AV T:=bif d.sq then(match xs with
 |x::_=>match mvv e x with| .al s=> .sp s d.m|_=> .top
 |[]=> .top)else mH d.cod r
abbrev TF(T:Tb):=List (FuncId×FnE T)
abbrev MQ(T:Tb):=List (FuncId×FnR T)
def Cj:MQ T->FuncId->Option (FnR T)|[],_=>none|(g,d)::l,f=>bif Nat.beq g f then some d else Cj l f
def dep:TF T->FuncId->Option (FnE T)|[],_=>none|(g,d)::l,f=>bif Nat.beq g f then some d else dep l f
section
variable{R:Type}
def Mr(wr:Bool)(op:BinOp)(n m:Int)(k:AV T->Option R):Option R:=match op with| .add=>(bif wr then tD n m else bh n m).bind λr=>k (.v .int r)| .sub=>(bif wr then Va n m else fi n m).bind λr=>k (.v .int r)| .mul=>(El n m).bind λr=>k (.v .int r)| .quo=>(HY n m).bind λr=>k (.v .int r)| .rem=>(Kv n m).bind λr=>k (.v .int r)| .lss=>k (.v .bool (decide (n<m)))| .leq=>k (.v .bool (decide (n<=m)))| .gtr=>k (.v .bool (decide (m<n)))| .geq=>k (.v .bool (decide (m<=n)))| .eql=>k (.v .bool (n==m))| .neq=>k (.v .bool (n !=m))| .and=>k (.v .int (Ut n m))| .andNot=>k (.v .int (Ri n m))| .or=>k (.v .int (orI n m))|_=>none
def UF(op:BinOp):Bool:=match op with| .shl=>true| .shr=>true|_=>false
def JC:AV T->Option Int| .v .int n=>some n| .v (.ik _) q=>some q.n|_=>none
def Iw(op:BinOp)(x:AV T)(m:Int)(k:AV T->Option R):Option R:=match x with
 | .v .int n=>match op with| .shl=>(UA n m).bind λr=>k (.v .int r)| .shr=>(Vl n m).bind λr=>k (.v .int r)|_=>none
 | .v (.ik a) p=>bif decide (0<=m)&&Nat.ble m.toNat a.bits then(match op with| .shr=>k (.v (.ik a) (p.shr m))| .shl=>k (.v (.ik a) (p.shl m))|_=>none)else none|_=>none
def Ss(wr:Bool)(op:BinOp)(e:Bool)(f:Nat->Bool)(x y:AV T)(k:AV T->Option R):Option R:=match x,y with
 | .v .int n, .v .int m=>Mr wr op n m k| .v .bool n, .v .bool m=>bif e then(match op with| .eql=>k (.v .bool (n==m))| .neq=>k (.v .bool (n !=m))|_=>none)else none| .v .str n, .v .str m=>match op with| .eql=>k (.v .bool (n.toList==m.toList))| .neq=>k (.v .bool (!(n.toList==m.toList)))| .geq=>k (.v .bool (!(Op.bytesLess n.toList m.toList)))|_=>none
 | .v (.st n) p, .v (.st m) q=>match vp m n with|some h=>letI:=T.deq n;bif f n then(match op with| .eql=>k (.v .bool (decide (p=h.down▸q)))| .neq=>k (.v .bool (!decide (p=h.down▸q)))|_=>none)else none|none=>none
 | .v (.ik a) p, .v (.ik b) q=>match IntKind.same b a with
  |some h=>match op with| .add=>k (.v (.ik a) (p.add (h.down▸q)))| .sub=>k (.v (.ik a) (p.sub (h.down▸q)))| .mul=>k (.v (.ik a) (p.mul (h.down▸q)))| .and=>k (.v (.ik a) (p.and (h.down▸q)))| .gtr=>k (.v .bool (decide ((h.down▸q:IK a).n<p.n)))|_=>none
  |none=>none
 |_,_=>none
def wrI(e:IntKind)(n:Int):AV T:=match e with| .i64=> .v .int (IntKind.i64.wrap n)|e=> .v (.ik e) ⟨e.wrap n⟩
def Lv(f off:Nat)(u:Tp)(g:(w:Tp)->iu T u w->AV T):Option (AV T):=match u,g with
 | .st n,g=>match Hq (T:=T) n f with|some ⟨w,L⟩=>bif Nat.beq L.off off then some (g w L)else none|none=>none
 |_,_=>none
def Ij(f off:Nat)(a:AV T)(own:Nat->AV T):Option (AV T):=match a with
 | .ref t x=>Lv f off t λw L=> .ref w (L.get x)| .al s=>match own s with| .box _ t x=>Lv f off t λw L=> .ab s t x w L|_=>none
 | .ab s t x u M=>Lv f off u λw L=> .ab s t x w (M.comp L)| .ao s e t g i x u M=>Lv f off u λw L=> .ao s e t g i x w (M.comp L)|_=>none
def HK(P:Program)(s f:Nat)(a:AV T)(own:Nat->AV T)(k:AV T->Option R):Option R:=match uo P s f with|none=>none|some off=>match Ij f off a own with|some r=>k r|none=>none
def NJ(P:Program)(T:Tb)(y:TypeId)(a:AV T)(own:Nat->AV T):Option (AV T):=let g:=λ(u:Tp)(x:T.D u)=>bif tyB P T y u then some (mkv u x)else none
 match a with
 | .ref t x=>g t x| .al s=>match own s with| .box _ t x=>g t x|_=>none
 | .ab _ _ x u L=>g u (L.get x)| .ao _ _ _ _ _ x u L=>g u (L.get x)|_=>none
def sQ(t:Tp)(e:Env T):Nat->List (Nat×Operand)->Option (List (T.D t))|_,[]=>some []|i,(j,x)::l=>bif Nat.beq i j then(match asT t (opv e x),sQ t e (i+1) l with|some y,some g=>some (y::g)|_,_=>none)else none
def Gn(P:Program)(s f:Nat):Option (Nat×Nat):=match P.underlying s with
 |some (.struct e)=>match e[f]?with
  |some d=>match P.info? d.type with|some i=>some (d.offset,i.size)|none=>none
  |none=>none
 |_=>none
def yz(P:Program)(s:Nat):Bool:=match P.underlying s with|some (.struct e)=>e.toList.all λf=>(P.info? f.type).isSome|_=>false
def AM(P:Program)(f n:Nat)(e:Env T):List (Nat×Operand)->T.S n->Option (T.S n)|[],x=>some x|(j,y)::l,x=>match Hq (T:=T) n j,Gn P f j with
 |some ⟨u,L⟩,some (off,sz)=>match asT u (opv e y)with|some z=>bif Nat.beq off L.off&&Nat.beq sz (szT T u)then AM P f n e l (L.set x z)else none|none=>none
 |_,_=>none
def plc(P:Program)(y j:Nat):Option (Nat×Nat):=match P.underlying y with
 |some (.struct _)=>Gn P y j|some (.array _ el)=>match P.info? el with|some i=>some (j*i.size,i.size)|none=>none
 |_=>none
def JT(P:Program)(y:Nat):Bool:=match P.underlying y with|some (.struct _)=>yz P y|some (.array _ el)=>(P.info? el).isSome|_=>false
def re(P:Program)(e:Nat)(f:Operand->AV T):(l:List Tp)->(i off:Nat)->List (Nat×Operand)->Option (HL T.S l)
 |[],_,_,[]=>some ()|[a],i,off,[(j,y)]=>match plc P e i with|some (o,s)=>bif Nat.beq j i&&(Nat.beq o off&&Nat.beq s (szT T a))then asT a (f y)else none|none=>none
 |a::b::l,i,off,(j,y)::h=>match plc P e i with|some (o,s)=>bif Nat.beq j i&&(Nat.beq o off&&Nat.beq s (szT T a))then(match asT a (f y),re P e f (b::l) (i+1) (off+szT T a) h with|some z,some r=>some (z,r)|_,_=>none)else none|none=>none
 |_,_,_,_=>none
def JF(P:Program)(T:Tb)(y n:Nat):Bool:=match P.info? y with
 |some i=>match i.zero with|some (.agg z)=>Nat.beq z.size (szT T (.st n))|_=>false
 |none=>false
structure Cx(T:Tb)where
 P:Program
 tid:TypeId->Option Tp
 eqs:List (TypeId×Nat)deps:TF T
 rdeps:MQ T
 wr:Bool
 own:List Nat
 rs:List ResultVar
 n:Nat
 hk:Nat->Code->Env T->(R:Type)->(Env T->Option R)->Option R
 rg:Code->Prop
 qdeps:NL T
def KG:(m cod:List Tp)->(HL T.S m->Option (HL T.S cod))->List (AV T)->Option (AV T)
 |m,[b],run,e=>match Nat.sub m.length e.length with
  |0=>match args m e with|some z=>some (.v (.f0 b) λ_=>run z)|none=>none
  |1=>match m,run with
   |[a],run=>some (.v (.f1 a b) λx=>run x)|a::c::l,run=>match args (c::l) e with|some z=>some (.v (.f1 a b) λx=>run (x,z))|none=>none
   |[],_=>none
  |2=>match m,run with
   |[a,f],run=>some (.v (.f2 a f b) λx y=>run (x,y))|a::f::c::l,run=>match args (c::l) e with|some z=>some (.v (.f2 a f b) λx y=>run (x,y,z))|none=>none
   |_,_=>none
  |_=>none
 |_,_,_,_=>none
def Cs(C:Cx T)(e:Env T):Operand->AV T
 | .func f=>match dep C.deps f with
  |some d=>match KG d.dom d.cod d.run []with|some a=>a|none=> .top
  |none=> .top
 |x=>opv e x
def EN(C:Cx T)(e:Env T)(y:TypeId)(n:Nat)(f:Array (Nat×Operand)):Option (Σ t,TypeId×List (T.D t)):=match Cz C.P y with
 |some el=>match C.tid el with
  |some t=>match sQ t e 0 f.toList with|some x=>bif Nat.beq x.length n&&elB C.P T el t&&Nat.ble (n*szT T t) 16777216 then some ⟨t,(el,x)⟩else none|none=>none
  |none=>none
 |none=>none
def pT{S:Nat->Type}(t:Tp):(l:List Tp)->HL S l->Option (List (t.den S))
 |[],_=>some []|[a],x=>match cast? a t x with|some y=>some [y]|none=>none
 |a::b::l,x=>match cast? a t x.1,pT t (b::l) x.2 with|some y,some r=>some (y::r)|_,_=>none
def wS{S:Nat->Type}:(l:List Tp)->HL S l->Option (Σ t:Tp,List (t.den S))
 |[],_=>none|[t],x=>match pT t [t] x with|some r=>some ⟨t,r⟩|none=>none
 |t::b::l,x=>match pT t (t::b::l) x with|some r=>some ⟨t,r⟩|none=>none
def Tj(P:Program)(ty:TypeId)(e:Env T)(op:BinOp)(x y:Operand):Option Bool:=match y,mvv e x,P.underlying ty with
 | .const (.pointer none), .al s,some (.pointer _)=>match lk e s with
  | .rs _ n z=>match op,T.RN n z with| .eql,some b=>some b| .neq,some b=>some (!b)|_,_=>none
  |_=>none
 | .const (.pointer none), .sp _ _,some (.pointer _)=>match op with| .eql=>some false| .neq=>some true|_=>none
 |_,_,_=>none
def rk (C : Cx T) (e : Env T) (o : Oper) (k : AV T -> Option R) : Option R :=
  match o.op with
  | .move x => k (mvv e x)
  | .assign x => k (mvv e x)
  | .pick c x y => match asB (opv e c) with
    | some m => if m then (match asB (opv e x) with | some b => k (.v .bool b) | none => none) else (match asB (opv e y) with | some b => k (.v .bool b) | none => none)
    | none => none
  | .binOp op ty x y _ => bif UF op then (match JC (opv e y) with | some m => Iw op (opv e x) m k | none => none) else match Tj C.P ty e op x y with | some b => k (.v .bool b) | none => Ss C.wr op (match C.P.underlying ty with | some .bool => true | _ => false) (λ n => C.eqs.contains (ty, n)) (opv e x) (opv e y) k
  | .unOp .not _ x => match asB (opv e x) with
    | some b => k (.v .bool (!b))
    | none => none
  | .unOp .neg _ x => match asI (opv e x) with
    | some n => (fi 0 n).bind λ r => k (.v .int r)
    | none => none
  | .convert s d x => match C.P.underlying s, C.P.underlying d, opv e x with
    | some _, some (.int κ), .v .int n => k (wrI κ n)
    | some _, some (.int κ), .v (.ik _) n => k (wrI κ n.n)
    | _, _, _ => none
  | .load ty x => match NJ C.P T ty (mvv e x) (lk e) with
    | some a => k a
    | none => none
  | .fieldAddr s x f => HK C.P s f (mvv e x) (lk e) k
  | .indexAddr ty x y => match asI (opv e y), Cz C.P ty with
    | some i, some el => match x with
      | .tmp s => match res e (nrm (lk e s)) with
        | .v (.list t) xs => bif tyB C.P T el t then (aL xs i).bind λ z => k (.ref t z) else none
        | .own _ e' t xs => bif tyB C.P T el t && Nat.beq el e' then (aL xs i).bind λ z => k (.ao (A4 e s) e' t xs i.toNat z t (iu.id t)) else none
        | .rs _ m x => match T.RL m x with
          | some ⟨t, xs⟩ => bif tyB C.P T el t then (aL xs i).bind λ z => k (.ref t z) else none
          | none => none
        | _ => none
      | _ => none
    | some i, none => match C.P.underlying ty, opv e x with
      | some (.array m el), .ref (.st n) z => match wS (T.fs n) (T.to n z) with
        | some ⟨t, xs⟩ => bif Nat.beq m xs.length && tyB C.P T el t then (aL xs i).bind λ r => k (.ref t r) else none
        | none => none
      | _, _ => none
    | _, _ => none
  | .lookup ty x y c => match c, res e (opv e x) with
    | false, .rs _ m r => match T.MM m with
      | some q => bif Nat.beq ty q.ty then (match asT q.kt (opv e y) with
        | some n => k (mkv q.vt (q.get r n))
        | none => none) else none
      | none => none
    | _, _ => none
  | .index ty x y => match opv e x, asI (opv e y), C.P.underlying ty with
    | .v (.st n) z, some i, some (.array m el) => match wS (T.fs n) (T.to n z) with
      | some ⟨t, xs⟩ => bif Nat.beq m xs.length && tyB C.P T el t then (aL xs i).bind λ r => k (mkv t r) else none
      | none => none
    | _, _, _ => none
  | .extract x i => match opv e x with
    | .tup l => match l[i]? with
      | some ⟨t, y⟩ => k (mkv t y)
      | none => none
    | .tq l => match i with
      | 0 => none
      | i + 1 => match l[i]? with
        | some ⟨t, y⟩ => k (mkv t y)
        | none => none
    | .tr _ _ _ l => match i with
      | 0 => none
      | i + 1 => match l[i]? with
        | some ⟨t, y⟩ => k (mkv t y)
        | none => none
    | .al s => match lk e s with
      | .tr _ _ _ l => match i with
        | 0 => none
        | i + 1 => match l[i]? with
          | some ⟨t, y⟩ => k (mkv t y)
          | none => none
      | _ => none
    | _ => none
  | .box ty x => match opv e x with
    | .v t y => bif tyB C.P T ty t then k (.ref t y) else none
    | .ref t y => bif tyB C.P T ty (.rf t) then k (.ref (.rf t) y) else none
    | _ => none
  | .nilCheck x => match mvv e x with
    | .ref t y => k (.ref t y)
    | .al s => match lk e s with | .box _ _ _ => k (.al s) | _ => none
    | _ => none
  | .makeFunc (.func f) first vX => match first.toList with
    | [x] => match vX.toList, mvv e x with
      | [], .al s => k (.mv f s)
      | _, _ => none
    | [] => match dep C.deps f with
     | some d => match KG d.dom d.cod d.run (vX.toList.map (opv e)) with
      | some a => k a
      | none => none
     | none => none
    | _ => none
  | .slice ty x lo hi mx => match Cz C.P ty with
    | none => none
    | some el => match mx with
      | some (.const (.int .i64 0)) => match hi, (match lo with | none => true | some (.const (.int .i64 0)) => true | _ => false), asL e (opv e x) with
        | some (.const (.int .i64 0)), true, some ⟨t, _⟩ => bif tyB C.P T el t then k .e0 else none
        | _, _, _ => none
      | none => match opv e x with
        | .v (.list t) xs => bif tyB C.P T el t then
            (match lo, hi with
            | some l, some h => match asI (opv e l), asI (opv e h) with
              | some l, some h => (ic xs l h).bind λ r => k (.v (.list t) r)
              | _, _ => none
            | some l, none => match asI (opv e l) with
              | some l => (ic xs l (xs.length : Int)).bind λ r => k (.v (.list t) r)
              | none => none
            | none, some h => match asI (opv e h) with
              | some h => (ic xs 0 h).bind λ r => k (.v (.list t) r)
              | none => none
            | none, none => none) else none
        | _ => none
      | _ => none
  | .build ty ps => match C.tid ty with
    | some (.st n) => bif oP C.P T ty (.st n) && yz C.P ty then (match AM C.P ty n e ps.toList (T.zero n) with
      | some x => k (.v (.st n) x)
      | none => none) else bif JF C.P T ty n && JT C.P ty then (match re C.P ty (Cs C e) (T.fs n) 0 0 ps.toList with
      | some y => k (.v (.st n) (T.of n y))
      | none => none) else none
    | _ => none
  | .buildSlice ty n ps => match n with
    | 0 => match ps.toList, Cz C.P ty with
      | [], some el => match C.tid el with
        | some t => bif elB C.P T el t then k .e0 else none
        | none => none
      | _, _ => none
    | _ => match EN C e ty n ps with
      | some ⟨t, (_, xs)⟩ => k (.fl t xs)
      | none => none
  | .call c => match c.callee with
    | .builtin .len => match c.args.toList, c.argTypes[0]? with
      | [x], some ty => match Cz C.P ty with
        | some _ => match res e (opv e x) with
          | .v (.list _) xs => k (.v .int (xs.length : Int))
          | .own _ _ _ xs => k (.v .int (xs.length : Int))
          | .e0 => k (.v .int ((0 : Nat) : Int))
          | .rs _ m x => match T.RL m x with
            | some ⟨_, xs⟩ => k (.v .int (xs.length : Int))
            | none => none
          | _ => none
        | none => none
      | _, _ => none
    | .builtin .max => match c.args.toList with
      | [x, y] => match asI (opv e x), asI (opv e y) with
        | some a, some b => k (.v .int (max a b))
        | _, _ => none
      | [x, y, z] => match asI (opv e x), asI (opv e y), asI (opv e z) with
        | some a, some b, some c => k (.v .int (max (max a b) c))
        | _, _, _ => none
      | [x, y, z, u, w] => match asI (opv e x), asI (opv e y), asI (opv e z), asI (opv e u), asI (opv e w) with
        | some a, some b, some c, some d, some f => k (.v .int (max (max (max (max a b) c) d) f))
        | _, _, _, _, _ => none
      | _ => none
    | .builtin .min => match c.args.toList with
      | [x, y] => match asI (opv e x), asI (opv e y) with
        | some a, some b => k (.v .int (min a b))
        | _, _ => none
      | [x, y, z] => match asI (opv e x), asI (opv e y), asI (opv e z) with
        | some a, some b, some c => k (.v .int (min (min a b) c))
        | _, _, _ => none
      | [x, y, z, u] => match asI (opv e x), asI (opv e y), asI (opv e z), asI (opv e u) with
        | some a, some b, some c, some d => k (.v .int (min (min (min a b) c) d))
        | _, _, _, _ => none
      | _ => none
    | .builtin .append => match c.args.toList, c.argTypes.toList with
      | [x, y], [ty, ty'] => match Cz C.P ty with
        | some el => match asF e x with
          | some ⟨t, xs⟩ => match asL e (opv e y) with
            | some ⟨u, ys⟩ => match cast? (.list u) (.list t) ys with
              | some ys => bif Nat.beq ty ty' && elB C.P T el t then (eb xs ys).bind λ r => k (.v (.list t) r) else none
              | none => none
            | none => none
          | none => match res e (opv e x), asL e (opv e y) with
            | .e0, some ⟨t, ys⟩ => bif Nat.beq ty ty' && elB C.P T el t then (eb [] ys).bind λ r => k (.v (.list t) r) else none
            | _, _ => none
        | none => none
      | _, _ => none
    | .value (.func f) => match dep C.deps f with
      | some d => match args d.dom (c.args.toList.map (Cs C e)) with
        | some a => (d.run a).bind λ r => k (mH d.cod r)
        | none => none
      | none => match KV C.qdeps f with
        | some d => match MD e d.amb d.m c.args.toList with
          | some (z, xs) => match args d.dom (xs.map (Cs C e)) with
            | some a => (d.run z a).bind λ r => k (Ix e d c.args.toList r)
            | none => none
          | none => none
        | none => none
    | .value (.tmp s) => match lk e s with
      | .v (.f0 b) g => match c.args.toList with
        | [] => (g ()).bind λ r => k (mkv b r)
        | _ => none
      | .v (.f1 a b) g => match c.args.toList with
        | [x] => match asT a (opv e x) with
          | some x => (g x).bind λ r => k (mkv b r)
          | none => none
        | _ => none
      | .v (.f2 a a' b) g => match c.args.toList with
        | [x, y] => match asT a (opv e x), asT a' (opv e y) with
          | some x, some y => (g x y).bind λ r => k (mkv b r)
          | _, _ => none
        | _ => none
      | _ => none
    | _ => none
  | _ => none
end
end Go.Gb
namespace Go.Gb
section
variable{P:Program}{o:Oper}{a:Act}{k:K}{α:Type}[Enc α]
def CX{e:Type}(n:Int)(z:e):Option (List e):=if 0<=n/\n<=1073741824 then some (List.replicate n.toNat z)else none
theorem BR{z:Array Value}{s:Nat}(g:z.size=s)(u:0<s)(n:Nat):(madeCells z ((n+1)*s)).toList=(madeCells z (n*s)).toList++z.toList:=by
 apply oC;intro j;have e:(n+1)*s=n*s+s:=Nat.succ_mul n s;rcases bJ j (n*s)with f|f;.rw[rA (by simpa[madeCells]using f)];simp[madeCells,f,show j<(n+1)*s by omega]
 · rw[List.getElem?_append_right (by simpa[madeCells]using f)];rcases bJ j ((n+1)*s)with h|h
   · have m:j%z.size=j-n*s:=by rw[g,<-Nat.mod_eq_of_lt (show j-n*s<s by omega)];conv=>lhs;rw[show j=(j-n*s)+n*s by omega,Nat.add_mul_mod_self_right]
     have q:j-n*s<z.size:=by omega
     simp[madeCells,h,m,q]
   .simp[madeCells,h];omega
theorem CS{z:Array Value}{x:α}(e:z.size=Enc.sz α)(f:0<Enc.sz α)(h:Enc.rep k z.toList x):∀n,cV k (madeCells z (n*Enc.sz α)).toList (List.replicate n x)|0=>by simp[madeCells,cV];|n+1=>by rw[BR e f,List.replicate_succ'];exact cV.append (CS e f h n) (by simpa using cV.cons h (show cV k [] []from rfl))
theorem Cn{t e:TypeId}{B:Nat}{J M:Operand}{n:Int}{x:α}{r:List α}{i:TypeInfo}{z:Value}(Q:o.op= .makeSlice t J M)(R:P.underlying t=some (.slice e))(T:dJ P e α)(hi:P.info? e=some i)(q:i.zero=some z)(U:Enc.rep k z.cells.toList x)(V:B<=k.w.heap.size)(W:a.eval J= .int .i64 n)(hc:a.eval M= .int .i64 n)(h:CX n x=some r):aX P o a k (ah B e r):=by
 obtain⟨i',z',u,g,y,F,E,G⟩:=T;rw[hi,aU]at u;subst u;rw[q,aU]at g;subst g;unfold CX at h;split at h
 · rename_i hn;obtain rfl:=ae h;obtain⟨m,rfl⟩:∃m:Nat,n=m:=⟨n.toNat,by omega⟩;have hm:m<=1073741824:=by omega
   have O:maxLen=9223372036854775807:=rfl;have H:(i.bytes:Int)*m<=281474976710656:=by have h1:i.bytes*m<=65536*1073741824:=mw G hm;grind
   have hr:=run_make k.w t e i z R hi q .i64 .i64 m m (by omega) (gf _) H (by omega);refine eS (v:= .slice (some ⟨k.w.heap.size,0,none⟩) m m) (k':=k.alloc (.cells (madeCells z.cells (m*i.size)) e)) ?_ (K.dT k _) ?_;.simp[execOp,Q,W,hc];simp[hr,K.alloc]
   · simp;rcases sf m with I|I;.subst I;exact .inr (.inl ⟨_,rfl,rfl⟩)
     · have j:=(CS F E U m).mono (K.dT k (.cells (madeCells z.cells (m*i.size)) e)).le;have f:(madeCells z.cells (m*i.size)).size=m*Enc.sz α:=by rw[size_madeCells,y]
       refine .inr (.inr ⟨k.w.heap.size,0,m,madeCells z.cells (m*i.size),(madeCells z.cells (m*i.size)).toList,by simp,V,λhs=>fC _ (k.lt _ hs),heap_alloc_new k.w _,by simp,I,by omega,by simp[f],?_,by rw[y]at j⊢;exact j⟩);rw[List.length_replicate,rI,oz (by rw[iE,f];exact aA _)]
 .simp at h
end
end Go.Gb
