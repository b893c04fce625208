/- part 5 of the proof -/
import Derived.Test.YtlckpjpbladknaaGreatL4
set_option linter.unusedVariables false
set_option linter.unusedSimpArgs false
set_option linter.unusedSectionVars false
noncomputable section
namespace Go.Proofs.YtlckpjpbladknaaGreat
open Go.Gb
set_option maxRecDepth 100000
section
open Go.Proofs Go.RowKit Go.Lib
set_option maxHeartbeats 4000000 in set_option maxRecDepth 100000 in theorem KC(b off n c i vb voff m vc:Nat)(e':TypeId)(cur:Array Value)(cs vs:List Value)(w:World)(hz:(Tryz.prog.info? 54).map (·.size)=some 9)(hi:i<n)(hm:0<m)(hroom:n+m<=c)(hc63:c<=9223372036854775807)(hvb:vb≠b)(hg:w.heap[b]?=some (.cells cur e' (0,0)))(hfit:off+c*9<=cur.size)(hcl:cs.length=(n-i)*9)(hvl:vs.length=m*9)(hcs:∀j v,cs[j]?=some v->w.cell? ⟨b,off+i*9+j,none⟩=some v)(hvs:∀j v,vs[j]?=some v->w.cell? ⟨vb,voff+j,none⟩=some v)(h1c:∀v∈cs,v.oneCell'=true)(h1v:∀v∈vs,v.oneCell'=true)(hov:∀lb cb,(callFunc 111 #[.slice (some ⟨vb,voff,none⟩) m vc, .slice (some ⟨b,off+(i+m)*9,none⟩) lb cb]).run Tryz.prog w= .ok (.value (.bool false)) w):Calls Tryz.prog 70 #[.slice (some ⟨b,off,none⟩) n c, .int .i64 i, .slice (some ⟨vb,voff,none⟩) m vc] w λe w'=>e= .returned (.slice (some ⟨b,off,none⟩) (n+m) c)/\∃cur',w'=(w.drew.setRow b (cur.toList.take (off+(i+m)*9)++cs++cur.toList.drop (off+(i+m)*9+cs.length)).toArray).setRow b cur'/\cur'.toList=(cur.toList.take (off+(i+m)*9)++cs++cur.toList.drop (off+(i+m)*9+cs.length)).take (off+i*9)++vs++(cur.toList.take (off+(i+m)*9)++cs++cur.toList.drop (off+(i+m)*9+cs.length)).drop (off+i*9+vs.length):=by
 have mixed:Tryz.prog.follows .mixedOrders=true:=by kernel_rfl
 have hz1:¬((m:Int)=0):=by omega
 have hz2:¬((i:Int)=(n:Int)):=by omega
 have hw1:IntKind.i64.wrap ((i:Int)+(m:Int))=(i:Int)+(m:Int):=by rw[IntKind.wrap_i64];omega
 have hb1:(0:Int)<=(i:Int)+(m:Int):=by omega
 have hin:i<=n:=by omega
 have htn:((i:Int)+(m:Int)).toNat=i+m:=by omega
 have hb2:¬(c=i+m):=by omega
 have hb3:(i:Int)<=(n:Int)+(m:Int):=by omega
 have hb4:¬(c=i):=by omega
 have hgd:w.drew.heap[b]?=some (.cells cur e' (0,0)):=hg;have hadd:∀(x y j:Nat),(⟨x,y,none⟩:Addr).add j=⟨x,y+j,none⟩:=λx y j=>by unfold Addr.add;split<;>simp_all
 have hcp1:∀ty dc sc,(Builtin.copy_ #[55,55] ty #[.slice (some ⟨b,off+(i+m)*9,none⟩) (n+m-(i+m)) dc, .slice (some ⟨b,off+i*9,none⟩) (n+m-i) sc]).run Tryz.prog w.drew=_:=λty dc sc=>o0 (e:=54) (z:=9) Tryz.underlying55 hz hgd (cs:=cs) (by rw[hcl,show Nat.min (n+m-i) (n+m-(i+m))=n-i from by simp only[Nat.min_def];split<;>omega]) (λj v hj=>by rw[hadd];exact hcs j v hj) (by omega) h1c;obtain⟨W1,hW1⟩:∃W1,W1=w.drew.setRow b (cur.toList.take (off+(i+m)*9)++cs++cur.toList.drop (off+(i+m)*9+cs.length)).toArray:=⟨_,rfl⟩;have hg1:W1.heap[b]?=some (.cells (cur.toList.take (off+(i+m)*9)++cs++cur.toList.drop (off+(i+m)*9+cs.length)).toArray e' (0,0)):=by rw[hW1];exact setRow_heap w.drew b cur _ e' _ hgd
 have hcp2:∀ty dc,(Builtin.copy_ #[55,55] ty #[.slice (some ⟨b,off+i*9,none⟩) (n+m-i) dc, .slice (some ⟨vb,voff,none⟩) m vc]).run Tryz.prog W1=_:=λty dc=>o0 (e:=54) (z:=9) Tryz.underlying55 hz hg1 (cs:=vs) (by rw[hvl,show Nat.min m (n+m-i)=m from by simp only[Nat.min_def];split<;>omega]) (λj v hj=>by rw[hadd,hW1];have:=hvs j v hj;unfold World.cell? at this⊢;rw[setRow_other w.drew b vb _ hvb];exact this) (by simp only[kn,bA,dY,fg,iE];omega) h1v;rw[<-hW1]at hcp1;rw[<-hW1];clear hW1;go_enter Tryz.func70,Tryz.ntmps70;go_wp2_with (simp only[hov]);go_region_law_o (refine step_copy_runI rfl _ _ 55 55 rfl _ _ (by simp[Act.eval,Act.put]) (by simp[Act.eval,Act.put]) (hcp1 _ _ _) ?_);go_wp2_with (at_builtin;refine wpList_copy_runI _ rfl _ _ 55 55 rfl _ _ rfl rfl (hcp2 _ _) ?_);go_ret;exact⟨rfl,_,rfl,by simp[hcl,hvl]⟩
set_option maxHeartbeats 4000000 in set_option maxRecDepth 100000 in theorem NV(b off n c i vb voff m vc:Nat)(cs vs:List Value)(w:World)(i0:TypeInfo)(zv:Value)(hi0:Tryz.prog.info? 54=some i0)(hz0:i0.zero=some zv)(hzs:i0.size=9)(hzc:zv.cells.size=9)(hby:i0.bytes<=65536)(hi:i<n)(hm:0<m)(hnc:n<=c)(hroom:c<n+m)(hbig:n+m<=1073741824)(hbw:b<w.heap.size)(hvw:vb<w.heap.size)(hcl:cs.length=n*9)(hvl:vs.length=m*9)(hcs:∀j v,cs[j]?=some v->w.cell? ⟨b,off+j,none⟩=some v)(hvs:∀j v,vs[j]?=some v->w.cell? ⟨vb,voff+j,none⟩=some v)(h1c:∀v∈cs,v.oneCell'=true)(h1v:∀v∈vs,v.oneCell'=true):Calls Tryz.prog 70 #[.slice (some ⟨b,off,none⟩) n c, .int .i64 i, .slice (some ⟨vb,voff,none⟩) m vc] w λe w'=>∃G ROW X2 X3,n+m<=G/\G<=maxLen/\e= .returned (.slice (some ⟨w.heap.size,0,none⟩) (n+m) G)/\ROW.toList.take (i*9)=cs.take (i*9)/\ROW.size=G*9/\w'=((w.drew.alloc (.cells ROW 54)).setRow w.heap.size X2).drew.setRow w.heap.size X3/\X2.toList=ROW.toList.take (i*9)++vs++ROW.toList.drop (i*9+m*9)/\X3.toList=X2.toList.take ((i+m)*9)++cs.drop (i*9)++X2.toList.drop ((i+m)*9+(n-i)*9):=by
 have mixed:Tryz.prog.follows .mixedOrders=true:=by kernel_rfl
 have hz:(Tryz.prog.info? 54).map (·.size)=some 9:=by rw[hi0];simp[hzs]
 have hz1:¬((m:Int)=0):=by omega
 have hz2:¬((i:Int)=(n:Int)):=by omega
 have hz3:(c:Int)<(n:Int)+(m:Int):=by omega
 have hadd:∀(x y j:Nat),(⟨x,y,none⟩:Addr).add j=⟨x,y+j,none⟩:=λx y j=>by unfold Addr.add;split<;>simp_all
 have hkk:(n:Int)+(m:Int)-(i:Int)=((n+m-i:Nat):Int):=by omega
 have hik:i+(n+m-i)=n+m:=by omega
 have hold:(Builtin.firstCells i0.size i (.slice (some ⟨b,off,none⟩) i c)).run Tryz.prog w.drew= .ok (cs.take (i*9)).toArray w.drew:=by rw[hzs];exact run_firstCells_some w.drew 9 i ⟨b,off,none⟩ i c (cs.take (i*9)) (by rw[dY];omega) (λj v hj=>by
 rw[hadd];rw[lR]at hj;split at hj;.exact hcs j v hj
 .cases hj)
 have hrz:∀ty,(Builtin.append_ #[55,3] ty #[.slice (some ⟨b,off,none⟩) i c, .int .i64 ((n:Int)+(m:Int)-(i:Int))]).run Tryz.prog w=.ok (.slice (some ⟨w.heap.size,0,none⟩) (n+m) (grownCap w (n+m) c 54)) (w.drew.alloc (.cells ((cs.take (i*9)).toArray++Builtin.zeroCells zv.cells (n+m-i)++Builtin.zeroCells zv.cells (grownCap w (n+m) c 54-(n+m))) 54)):=λty=>by have h:=Lib.run_append_grow_zeros w 55 3 ty 54 i0 zv .i64 .i64 Tryz.underlying55 Tryz.underlying3 hi0 hz0 (some ⟨b,off,none⟩) i c (cs.take (i*9)) hold (n+m-i) (by omega) (by omega) (by omega) (by omega) (by have:(n+m-i)*i0.bytes<=1073741824*65536:=mw (by omega) hby;omega) (by rw[hik];exact growslice_fits hroom (by have:(n+m)*i0.bytes<=1073741824*65536:=mw hbig hby;omega));rw[hik]at h;rw[hkk];exact h
 have hGn:n+m<=grownCap w (n+m) c 54:=grownCap_ge w _ _ _;have hGm:grownCap w (n+m) c 54<=maxLen:=grownCap_le_maxLen w (n+m) c 54 (by unfold maxLen;omega);obtain⟨G,hG⟩:∃G,G=grownCap w (n+m) c 54:=⟨_,rfl⟩;rw[<-hG]at hrz hGn hGm;obtain⟨ROW,hROW⟩:∃ROW:Array Value,ROW=(cs.take (i*9)).toArray++Builtin.zeroCells zv.cells (n+m-i)++Builtin.zeroCells zv.cells (G-(n+m)):=⟨_,rfl⟩;rw[<-hROW]at hrz;have hRs:ROW.size=G*9:=by rw[hROW];simp only[vi,kn,size_zeroCells,hzc,dY,hcl];omega
 have hRt:ROW.toList.take (i*9)=cs.take (i*9):=by rw[hROW];simp only[Array.toList_append,dm];rw[vx (by simp;omega),oz (by simp;omega)]
 obtain⟨W1,hW1⟩:∃W1,W1=w.drew.alloc (.cells ROW 54):=⟨_,rfl⟩;rw[<-hW1]at hrz;have hg1:W1.heap[w.heap.size]?=some (.cells ROW 54 (0,0)):=by rw[hW1];exact heap_alloc_new w.drew _
 have hold1:∀x,x<w.heap.size->W1.heap[x]?=w.heap[x]?:=λx hx=>by rw[hW1];exact(World.grownBy_alloc w.drew _ none).block x hx (by simp)
 have hcpA:∀ty dc,(Builtin.copy_ #[55,55] ty #[.slice (some ⟨w.heap.size,i*9,none⟩) (n+m-i) dc, .slice (some ⟨vb,voff,none⟩) m vc]).run Tryz.prog W1=_:=λty dc=>o0 (e:=54) (z:=9) Tryz.underlying55 hz hg1 (cs:=vs) (by rw[hvl,show Nat.min m (n+m-i)=m from by simp only[Nat.min_def];split<;>omega]) (λj v hj=>by rw[hadd];have:=hvs j v hj;unfold World.cell? at this⊢;simp only[hold1 vb hvw];exact this) (by omega) h1v;obtain⟨X2,hX2⟩:∃X2,X2=(ROW.toList.take (i*9)++vs++ROW.toList.drop (i*9+vs.length)).toArray:=⟨_,rfl⟩;rw[<-hX2]at hcpA;have hX2s:X2.size=G*9:=by rw[hX2];simp[hRs,hvl];omega
 obtain⟨W2,hW2⟩:∃W2,W2=W1.setRow w.heap.size X2:=⟨_,rfl⟩;rw[<-hW2]at hcpA;have hg2:W2.drew.heap[w.heap.size]?=some (.cells X2 54 (0,0)):=by rw[hW2];exact setRow_heap W1 w.heap.size ROW _ 54 _ hg1
 have hcpB:∀ty dc sc,(Builtin.copy_ #[55,55] ty #[.slice (some ⟨w.heap.size,(i+m)*9,none⟩) (n+m-(i+m)) dc, .slice (some ⟨b,off+i*9,none⟩) (n-i) sc]).run Tryz.prog W2.drew=_:=λty dc sc=>o0 (e:=54) (z:=9) Tryz.underlying55 hz hg2 (cs:=cs.drop (i*9)) (by rw[fg,hcl,show Nat.min (n-i) (n+m-(i+m))=n-i from by simp only[Nat.min_def];split<;>omega,Nat.sub_mul]) (λj v hj=>by
 rw[hadd];rw[nM]at hj;have:=hcs _ v hj;rw[<-rl]at this;unfold World.cell? at this⊢;have hne:b≠w.heap.size:=by omega
 have h2:W2.drew.heap[b]?=w.heap[b]?:=by rw[hW2];exact(setRow_other W1 w.heap.size b _ hne).trans (hold1 b hbw)
 simp only[h2];exact this) (by rw[fg,hcl,hX2s];have:(n+m)*9<=G*9:=ep 9 hGn;omega) (λv hv=>h1c v (sx hv));obtain⟨X3,hX3⟩:∃X3,X3=(X2.toList.take ((i+m)*9)++cs.drop (i*9)++X2.toList.drop ((i+m)*9+(cs.drop (i*9)).length)).toArray:=⟨_,rfl⟩;rw[<-hX3]at hcpB;have Pp:∃(Y2 Y3:Array Value),Y2=X2/\Y3=X3/\W2.drew.setRow w.heap.size X3=((w.drew.alloc (.cells ROW 54)).setRow w.heap.size Y2).drew.setRow w.heap.size Y3/\Y2.toList=ROW.toList.take (i*9)++vs++ROW.toList.drop (i*9+m*9)/\Y3.toList=Y2.toList.take ((i+m)*9)++cs.drop (i*9)++Y2.toList.drop ((i+m)*9+(n-i)*9):=⟨X2,X3,rfl,rfl,by rw[hW2,hW1],by rw[hX2,hvl],by rw[hX3];simp only[fg,hcl,Nat.sub_mul]⟩;clear hX3 hX2 hW2 hW1 hROW hG hkk hik hold;have hG63:G<=9223372036854775807:=by unfold maxLen at hGm;omega
 have hGi:¬(G=i):=by omega
 have hGim:¬(G=i+m):=by omega
 have hb1:(0:Int)<=(i:Int)+(m:Int):=by omega
 have htn:((i:Int)+(m:Int)).toNat=i+m:=by omega
 have hin:i<=n:=by omega
 have hb3:(i:Int)<=(n:Int):=by omega
 have hb4:¬(c=i):=by omega
 have hw0:IntKind.i64.wrap ((n:Int)+(m:Int))=(n:Int)+(m:Int):=by rw[IntKind.wrap_i64];omega
 have hw1:IntKind.i64.wrap ((i:Int)+(m:Int))=(i:Int)+(m:Int):=by rw[IntKind.wrap_i64];omega
 have hw2:IntKind.i64.wrap ((n:Int)+(m:Int)-(i:Int))=(n:Int)+(m:Int)-(i:Int):=by rw[IntKind.wrap_i64];omega
 go_enter Tryz.func70,Tryz.ntmps70;go_wp2_with (first|(at_builtin;refine Lib.wpList_append_run _ rfl _ _ _ _ rfl _ _ rfl rfl _ _ (hrz _) ?_);|(at_builtin;refine wpList_copy_runI _ rfl _ _ 55 55 rfl _ _ rfl rfl (hcpA _ _) ?_));go_region_law_o (refine step_copy_runI rfl _ _ 55 55 rfl _ _ (by simp[Act.eval,Act.put]) (by simp[Act.eval,Act.put]) (hcpB _ _ _) ?_);go_wp2;go_ret;obtain⟨Y2,Y3,rfl,rfl,e1,e2,e3⟩:=Pp;exact⟨G,ROW,Y2,Y3,hGn,hGm,rfl,hRt,hRs,e1,e2,e3⟩
set_option maxHeartbeats 4000000 in set_option maxRecDepth 100000 in theorem PM(base:Option Addr)(n c:Nat)(base2:Option Addr)(m vc:Nat)(w w':World)(v':Value)(hm:0<m)(hnc:n<=c)(hb:base=none->c=0)(hrun:(Builtin.append_ #[55,55] 55 #[.slice base n c, .slice base2 m vc]).run Tryz.prog w= .ok v' w'):Calls Tryz.prog 70 #[.slice base n c, .int .i64 n, .slice base2 m vc] w λe w2=>e= .returned v'/\w2=w':=by
 have hz1:¬((m:Int)=0):=by omega
 have hzn:n<=n:=aA n;go_enter Tryz.func70,Tryz.ntmps70;cases base with|none=>
 have hc0:=hb rfl;subst hc0;have hn0:n=0:=by omega
 subst hn0;go_wp2_with (at_builtin;refine Lib.wpList_append_run _ rfl _ _ _ _ rfl _ _ rfl rfl _ _ hrun ?_);go_ret;exact⟨rfl,rfl⟩|some a=>obtain⟨ab,ao,asp⟩:=a;go_wp2_with (at_builtin;refine Lib.wpList_append_run _ rfl _ _ _ _ rfl _ _ rfl rfl _ _ hrun ?_);all_goals (go_ret;exact⟨rfl,rfl⟩)
def Ea(x:List aq)(i:Int)(y:List aq):Option (List aq):=if 0<=i/\i<=x.length/\0<y.length/\x.length+y.length<=1073741824 then some (x.take i.toNat++y++x.drop i.toNat)else none
theorem LF:Enc.sz aq=9:=rfl
theorem H9{g:K}{v0 v1 v2:Value}{H E:List aq}{i:Int}{r:List aq}(i0:ah 0 54 H v0 g)(i1:IsV i v1 g)(i2:ah 0 54 E v2 g)(d02:bj (obF v0) (obF v2))(hr:Ea H i E=some r):Calls Tryz.prog 70 #[v0,v1,v2] g.w (cr (obF v0) g (λv k=>ah 0 54 r v k/\Wr (obF v0) g (obF v))):=by
 obtain⟨⟨h0,hin,hm,hbig⟩,rfl⟩:=lh hr;rw[au.1 i1];obtain⟨I,rfl⟩:∃I:Nat,i=(I:Int):=⟨i.toNat,by omega⟩;have hI:I<=H.length:=by omega
 rw[nI];obtain⟨i0i,zv,hi0,hz0,hsz0,hzc,hpos,hby⟩:=Vg;have hz:(Tryz.prog.info? 54).map (·.size)=some 9:=by rw[hi0];simp[hsz0,LF]
 have hrd:=ah.rd i2;rcases i2 with⟨_,rfl⟩|⟨_,_,rfl⟩|⟨vb,F,vc,cur2,vs,rfl,_,hvo,hvh,hvc,hv0,hvm,hvs,T,hvr⟩;.simp at hm
 .simp at hm
 rcases bJ I H.length with hlt|hge
 .rcases i0 with⟨_,rfl⟩|⟨_,_,rfl⟩|⟨b,off,cap,m,O,rfl,_,ho,hh,hc,hc0,hcm,hcs,Q,U⟩;.simp at hlt
  .simp at hlt
  have V:=U.len;have R:=hvr.len;have hvbb:vb≠b:=λe=>d02 b (by simp[obF,ob,fW hc0]) (by simp[obF,ob,fW hv0,e]);have hbw:b<g.w.heap.size:=(bO.1 hh).1;have hvw:vb<g.w.heap.size:=(bO.1 hvh).1;have hcat:fk g.w ⟨b,off,none⟩ O:=by have:=gW (n:=H.length*Enc.sz aq) (off:=off) hh (by have:=ep (Enc.sz aq) hc;omega);rwa[Q]at this
  have hvat:fk g.w ⟨vb,F,none⟩ vs:=by have:=gW (n:=E.length*Enc.sz aq) (off:=F) hvh (by have:=ep (Enc.sz aq) hvc;omega);rwa[T]at this
  have hadd:∀(x y j:Nat),(⟨x,y,none⟩:Addr).add j=⟨x,y+j,none⟩:=λx y j=>by unfold Addr.add;split<;>simp_all
  have hcc:∀j v,O[j]?=some v->g.w.cell? ⟨b,off+j,none⟩=some v:=λj v hj=>by rw[<-hadd];exact hcat.cell j v hj
  have hvv:∀j v,vs[j]?=some v->g.w.cell? ⟨vb,F+j,none⟩=some v:=λj v hj=>by rw[<-hadd];exact hvat.cell j v hj
  rw[LF]at V R hcs hvs Q T;have hnew:cV g (O.take (I*9)++vs++O.drop (I*9)) (H.take I++E++H.drop I):=((cV.take I U).append hvr).append (cV.drop I U);have J:(H.take I++E++H.drop I).length=H.length+E.length:=by simp;omega
  by_cases hroom:H.length+E.length<=cap
  .have hov:∀lb cb,(callFunc 111 #[.slice (some ⟨vb,F,none⟩) E.length vc, .slice (some ⟨b,off+(I+E.length)*9,none⟩) lb cb]).run Tryz.prog g.w= .ok (.value (.bool false)) g.w:=λlb cb=>by rw[run_callFunc_extern (P:=Tryz.prog) (f:=111) rfl (by kernel_rfl) (by kernel_rfl) (by kernel_rfl) (e:=Extern.SlicesOverlaps.overlaps #[55,55] #[4]) (by kernel_rfl),Lib.run_overlaps_apart g.w 55 4 54 Tryz.underlying55 9 (λw=>Go.Gb.run_sizeOf hz) ⟨vb,F,none⟩ ⟨b,off+(I+E.length)*9,none⟩ E.length vc lb cb hvbb 54 54 cur2.size m.size (by simp[World.shape?,hvh]) (by simp[World.shape?,hh]) (by omega) (by simp[World.frozen?,hvh]) (by simp[World.frozen?,hvh])];rfl
   refine Calls.mono (KC b off H.length cap I vb F E.length vc 54 m (O.drop (I*9)) vs g.w hz hlt hm hroom (by unfold maxLen at hcm;omega) hvbb hh hcs (by rw[fg,V,Nat.sub_mul]) R (λj v hj=>by rw[nM]at hj;rw[rl];exact hcc _ v hj) hvv (λu hu=>U.one u (sx hu)) hvr.one hov) λe M he=>?_;obtain⟨rfl,X3,q,hX3⟩:=he;have hblk:∀x,x≠b->M.heap[x]?=g.w.heap[x]?:=λx z=>by rw[q];exact(setRow_other _ _ _ _ z).trans (setRow_other g.w.drew _ _ _ z)
   have hsz:M.heap.size=g.w.heap.size:=by rw[q];simp
   have hrow:M.heap[b]?=some (.cells X3 54 (0,0)):=by rw[q];exact setRow_heap _ _ _ X3 54 _ (setRow_heap g.w.drew _ m _ 54 _ hh)
   have W:m.toList.length=m.size:=by simp
   have hX3t:(X3.toList.drop off).take ((H.length+E.length)*9)=O.take (I*9)++vs++O.drop (I*9):=by
    have hA:(m.toList.take (off+(I+E.length)*9)++O.drop (I*9)++m.toList.drop (off+(I+E.length)*9+(O.drop (I*9)).length)).take (off+I*9)=m.toList.take (off+I*9):=by rw[dm,vx (by simp only[dY,W];omega),mj,mb (by omega)]
    have hB:(m.toList.take (off+(I+E.length)*9)++O.drop (I*9)++m.toList.drop (off+(I+E.length)*9+(O.drop (I*9)).length)).drop (off+I*9+vs.length)=O.drop (I*9)++m.toList.drop (off+(I+E.length)*9+(O.drop (I*9)).length):=by rw[dm];exact qW (by simp only[dY,W,R];omega)
    rw[hX3,hA,hB,dm,rh (by simp only[dY,W];omega),om,r6];have hC:(m.toList.drop off).take (I*9)=O.take (I*9):=by rw[<-Q,mj,mb (by omega)]
    rw[hC,<-dm,<-dm];exact il (by simp only[bA,dY,fg,V,R];omega)
   have hX3l:X3.size=m.size:=by
    have:X3.toList.length=m.size:=by rw[hX3];simp only[bA,dY,fg,W,V,R];omega
    simpa using this
   let k':K:=⟨M,g.sh,λx z=>by have:=g.lt x z;omega⟩;have hle:Le g k':=⟨λx z=>hblk x (λe=>ho (e▸z)),λx z=>z⟩;refine⟨k',rfl,⟨by rw[show k'.w=M from rfl,q];rfl,by rw[show k'.w=M from rfl,q];rfl,by rw[show k'.w=M from rfl,q];rfl,by show _<=M.heap.size;omega,λx z hF=>hblk x (λe=>hF (by simp[obF,ob,fW hc0,e])),λ _ h=>h,λ _ _ h=> .inl h,?_⟩, .inr (.inr ⟨b,off,cap,X3,_,by rw[J],bY _,ho,hrow,by rw[J];exact hroom,hc0,hcm,?_,rfl,?_⟩),?_⟩;·show g.w.drawn<=M.drawn;rw[q];exact gN _
   .rw[LF,hX3l];exact hcs
   ·rw[J,LF,hX3t];exact hnew.mono hle
   ·intro x z;refine .inl ?_;simp only[obF,ob]at z⊢;exact z
  .refine Calls.mono (NV b off H.length cap I vb F E.length vc O vs g.w i0i zv hi0 hz0 (by rw[hsz0];rfl) (by rw[hzc];rfl) hby hlt hm hc (by omega) hbig hbw hvw V R hcc hvv U.one hvr.one) λe M he=>?_;obtain⟨G,ROW,X2,X3,hG,hGm,rfl,hRt,hRs,q,hX2,hX3⟩:=he;have hsz:M.heap.size=g.w.heap.size+1:=by rw[q];simp
   have hblk:∀x,x<g.w.heap.size->M.heap[x]?=g.w.heap[x]?:=λx z=>by rw[q];exact((setRow_other _ _ _ _ (by omega)).trans (setRow_other (g.w.drew.alloc (.cells ROW 54)) _ _ _ (by omega))).trans ((World.grownBy_alloc g.w.drew _ none).block x z (by simp))
   have hrow:M.heap[g.w.heap.size]?=some (.cells X3 54 (0,0)):=by rw[q];exact setRow_heap _ _ X2 _ 54 _ (setRow_heap (g.w.drew.alloc (.cells ROW 54)) _ ROW X2 54 _ (heap_alloc_new g.w.drew _))
   have hRl:ROW.toList.length=G*9:=by simpa using hRs
   have hX2l:X2.toList.length=G*9:=by rw[hX2];simp only[bA,dY,fg,hRl,R];omega
   have hX2t:X2.toList.take ((I+E.length)*9)=O.take (I*9)++vs:=by rw[hX2,hRt];exact il (by simp only[bA,dY,V,R];omega)
   have hX3t:X3.toList.take ((H.length+E.length)*9)=O.take (I*9)++vs++O.drop (I*9):=by rw[hX3,hX2t];exact il (by simp only[bA,dY,fg,V,R];omega)
   have hX3l:X3.size=G*9:=by
    have:X3.toList.length=G*9:=by rw[hX3];simp only[bA,dY,fg,hX2l,V];omega
    simpa using this
   let k':K:=⟨M,g.sh,λx z=>by have:=g.lt x z;omega⟩;have hle:Le g k':=⟨λx z=>hblk x (g.lt x z),λx z=>z⟩;refine⟨k',rfl,⟨by rw[show k'.w=M from rfl,q];rfl,by rw[show k'.w=M from rfl,q];rfl,by rw[show k'.w=M from rfl,q];rfl,by show _<=M.heap.size;omega,λx z _=>hblk x z,λ _ h=>h,λ _ _ h=> .inl h,?_⟩, .inr (.inr ⟨g.w.heap.size,0,G,X3,_,by rw[J],bY _,λhs=>fC _ (g.lt _ hs),hrow,by rw[J];exact hG,by omega,hGm,?_,rfl,?_⟩),?_⟩;·show g.w.drawn<=M.drawn;rw[q];exact bB (gN _) (gN _)
   .rw[LF,hX3l];omega
   ·rw[J,LF,rI,hX3t];exact hnew.mono hle
   · intro x z;refine .inr ?_;simp only[obF,ob]at z;split at z;.simp at z
     .simp at z;omega
 · have hIe:I=H.length:=by omega
   subst hIe;obtain⟨v',k',hrun,hg,hown,hob⟩:=sD (P:=Tryz.prog) (t:=55) (ty:=55) (e:=54) (B:=0) Tryz.underlying55 ⟨i0i,zv,hi0,hz0,hsz0,hzc,hpos,hby⟩ (bY _) i0 hrd (show eb H E=some (H++E)from if_pos hbig);have hv0s:∃base c,v0= .slice base H.length c/\H.length<=c/\(base=none->c=0):=by
    rcases i0 with⟨rfl,rfl⟩|⟨ad,rfl,rfl⟩|⟨b,off,cap,m,O,rfl,_,_,_,hc,_⟩;.exact⟨none,0,rfl,aA _,λ _=>rfl⟩
    .exact⟨some ad,0,rfl,aA _,λ _=>rfl⟩
    .exact⟨_,cap,rfl,hc,λh=>by simp at h⟩
   obtain⟨base,c,rfl,hnc,hb0⟩:=hv0s;refine Calls.mono (PM base H.length c _ E.length vc g.w k'.w v' hm hnc hb0 hrun) λe M he=>?_;obtain⟨rfl,rfl⟩:=he;refine⟨k',rfl,hg.chg,?_,λx z=>?_⟩;.simpa using hown
   .exact(hob x z).imp id id
end
theorem zz:Ty Tryz.prog 55 fD:=⟨⟨_,Tryz.underlying55,rfl⟩,by kernel_rfl⟩
def bsF(l:List aq)(x:aq):Option (Int×Bool):=cJ l x eM
theorem TP(k:K):wZ Tryz.prog eM (.func (.func 30) #[] #[]) k:=⟨30,#[],#[],rfl,Tryz.call30,λe hk x f y g z j m q=>by have h:Calls Tryz.prog 30 #[f,g] e.w (Ret e (IsV z)):=tB (k30.ok.ok e [f,g] (x,y) z gok ⟨j,m⟩ q) λv e h=>QP h;simpa using h⟩
theorem H3{f:K}{l:List aq}{x:aq}{g j:Value}{r:Int×Bool}(i0:ah 0 54 l g f)(q:IsV x j f)(u:bsF l x=some r):Calls Tryz.prog 31 #[g,j, .func (.func 30) #[] #[]] f.w (Ret f (fb (IsV r.1) (IsV r.2))):=by have hF:∀i,obF g i->i<f.w.heap.size:=i0.ltF;have m:=tU f (obF g) hF;refine tA (R:=fb (IsV r.1) (IsV r.2)) (F:=obF g) (hF:=hF) (RB (T:=tb) (k31.ok.ok (f.iL (obF g) hF) [g,j, .func (.func 30) #[] #[]] (l,x,eM) r gok ⟨i0.iL m λi hi=> .inr hi,aW.pers m.le q,Ac.2 (TP _)⟩ u)) ?_;rintro v z ⟨a,b,e,h1,y⟩;exact⟨a,b,e,au.2 (au.1 h1),aE.2 (aE.1 y)⟩
def K8(c:CC)(f:aq):Option CC:=(bsF c.reg f).bind λq=>if !q.2 then(Ea c.reg q.1 [f]).bind λl=>some {c with reg:=l}else some c
theorem NC{M:K}{c c':CC}{b:Nat}{O P j v1:Value}{F:FP}{f:aq}(C:CnO c b O P j F M)(i1:IsV f v1 M)(U:K8 c f=some c'):Calls Tryz.prog 34 #[aw b,v1] M.w (cr (CFP b j F) M λv k=>∃H,CnO c' b O P H F k/\∀i,obF H i->obF j i∨M.w.heap.size<=i):=by
 unfold K8 at U;refine cO Tryz.func34 rfl Tryz.ntmps34 (show 2<=28 by decide) λa k hk0 E I ha=>?_;obtain⟨e0,e1,_⟩:=ha;have i0:Is (aw b) (a.get 0) k:=e0;replace i1:IsV f (a.get 1) k:=by rw[e1,hk0];exact i1
 have hQ:Gb.LetsOut (bodyPost Tryz.prog Tryz.f34 (cr (CFP b j F) M λv k=>∃H,CnO c' b O P H F k/\∀i,obF H i->obF j i∨M.w.heap.size<=i)):=ch;have G:Chg (CFP b j F) M k:=by rw[hk0];exact Chg.refl _ M
 replace C:CnO c b O P j F k:=by rw[hk0];exact C
 clear e0 e1;obtain⟨Q,hq0,U⟩:=bind_some U;refine aK 1 (⟨some (aS f),[(1,none)]⟩::[]) rfl ⟨G,E,I⟩ (by kernel_rfl) ⟨ob1 rfl λ _ _ g n=>o7 rfl (up i1 g n.1),trivial⟩ [⟨_,_⟩,⟨3,aS f⟩,⟨0,λ _ k=>CnO c b O P j F k⟩] (λb q p=>⟨p.ke 0 rfl i0,p.ou 0 3 rfl,C.grow p.grow,trivial⟩) ?_;clear i0 i1 C G E I;rintro a k ⟨⟨G,E,I⟩,i0,i3,C,_⟩;replace C:CnO c b O P j F k:=C;refine wp_seq ?_;refine cut (λV k'=>Bs (CFP b j F) M 28 V k'/\Is (aw b) (V.get 0) k'/\aS f (V.get 3) k'/\IsV Q.1 (V.get 4) k'/\IsV Q.2 (V.get 5) k'/\CnO c b O P j F k') ?_ hQ ?_;·intro Q1 W1 w1;refine region (m:=11) (_::⟨some (Is (aw b)),[(7,some 0)]⟩::⟨some (cw b 3),[(8,some 1)]⟩::⟨some (Is j),[(9,some 2)]⟩::⟨some (IsV f),[(3,none)]⟩::⟨some (fb (IsV Q.1) (IsV Q.2)),[(10,some 3),(11,some 4)]⟩::_::⟨some (IsV Q.1),[(6,some 6)]⟩::⟨some (IsV Q.2),[(6,some 6)]⟩::_::_::[]) lS E (by kernel_rfl) ⟨mu rfl i0,ob1 rfl λ _ _ g n=>aO rfl ⟨_,n.1⟩ n.1,ob1 rfl λ _ _ g n=>aV rfl oR n.1,ob1 rfl λ _ _ g n=>bV rfl zz n.1 (C.grow g).box rfl,ob1 rfl λ _ _ g n=>aR rfl E5 (up i3 g n.1).ptr,ob1 rfl λV _ g n=>bU rfl Tryz.call31 (by show Calls _ _ #[V.get 10,V.get 11,_] _ _;rw[show V.get 10=j from n.1];exact H3 (C.grow g).rg n.2.1 hq0),cm 5 rfl rfl,ob1 rfl λ _ _ g n=>vP rfl n.1,ob1 rfl λ _ _ g n=>vG rfl n.1,cp 7 rfl rfl,cp 8 rfl rfl,trivial⟩ W1 λb' q p=>?_;exact aj (k:=q) (w1 _ _ ⟨Bs.post ⟨G,E,I⟩ p,p.ke 0 rfl i0,p.ke 3 rfl i3,p.ou 9 4 rfl,p.ou 10 5 rfl,C.grow p.grow⟩)
 clear i0 i3 C G E I;rintro a k ⟨⟨G,E,I⟩,i0,i3,i4,i5,C⟩;refine aK 2 (_::⟨some (IsV (!Q.2)),[(15,some 0)]⟩::[]) rfl ⟨G,E,I⟩ (by kernel_rfl) ⟨mu rfl i5,ob1 rfl λ _ _ g n=>pW rfl n.1,trivial⟩ [⟨_,_⟩,⟨_,_⟩,⟨4,IsV Q.1⟩,⟨16,IsV (!Q.2)⟩,⟨0,λ _ k=>CnO c b O P j F k⟩] (λb q p=>⟨p.ke 0 rfl i0,p.ke 3 rfl i3,p.ke 4 rfl i4,p.ou 1 16 rfl,C.grow p.grow,trivial⟩) ?_;clear i0 i3 i4 i5 C G E I;rintro a k ⟨⟨G,E,I⟩,i0,i3,i4,i16,C,_⟩;replace C:CnO c b O P j F k:=C;refine wp_cond_split (isBool i16) (λhc=>?_) (λhc=>?_)
 .rw[if_pos hc]at U;obtain⟨l,hl,U⟩:=bind_some U;obtain rfl:=ae U;have hbn:b<k.w.heap.size:=C.box.lt;refine IP (m:=8) (⟨some (Is (aw b)),[(0,none)]⟩::_::⟨some (Is (aw b)),[(18,some 1)]⟩::⟨some (cw b 3),[(19,some 2)]⟩::⟨some (Is j),[(20,some 3)]⟩::_::⟨some (IsV f),[(3,none)]⟩::⟨some (ah k.w.heap.size 54 [f]),[(23,some 6)]⟩::[]) [0] [8,9,10,11] lS E (by kernel_rfl) ⟨mu rfl i0,mu rfl i0,ob1 rfl λ _ _ g n=>aO rfl ⟨_,n.1⟩ n.1,ob1 rfl λ _ _ g n=>aV rfl oR n.1,ob1 rfl λ _ _ g n=>bV rfl zz n.1 (C.grow g).box rfl,mu rfl i4,ob1 rfl λ _ _ g n=>aR rfl E5 (up i3 g n.1).ptr,ob1 rfl λ _ _ g n=>pE rfl Tryz.underlying55 Vg g.size rfl (by decide) (by decide) ⟨rfl,n.1,trivial⟩,trivial⟩ hQ ?_ λb1 q p=>?_;·intro l hl hlm e he;simp only[bD,pj,or_false]at hl;subst hl;obtain rfl:=ae he;exact⟨_,rfl,λk g=>i0⟩
  have hgq:=G.then p.grow;have hsb:=p.size.trans E;have T:=C.grow p.grow;have gs:=G.size;have gq:=hgq.size;have gq':=p.grow.size;have n1:=C.n1;have n2:=C.n2;have j17:b1.get 17=aw b:=p.val 0 17 _ _ (by decide) rfl rfl;have j21:b1.get 21=j:=p.val 4 21 _ _ (by decide) rfl rfl;have j22:IsV Q.1 (b1.get 22) q:=p.val 5 22 _ _ (by decide) rfl rfl;have j24:ah k.w.heap.size 54 [f] (b1.get 24) q:=p.val 7 24 _ _ (by decide) rfl rfl;have hrv:∀i,obF j i->i<k.w.heap.size:=C.rg.ltF;have hFl:∀i,F i->i<k.w.heap.size:=Rsc.lt C.dk;have hnr:=T.rg.jl;refine iH (F:=obF j) (R:=λv k=>ah 0 54 l v k/\Wr (obF j) q (obF v)) (i:=8) (d:=25) (f:=70) (as_:=[.tmp 21, .tmp 22, .tmp 24]) rfl rfl rfl rfl (by rw[hsb];decide) Tryz.call70 hQ (by show Calls _ _ #[b1.get 21,b1.get 22,b1.get 24] _ _;rw[j21];exact H9 T.rg j22 (j24.weaken (bY _)) (λi h1 h2=>by have h3:=hrv i h1;have:=(j24.lt i h2).1;omega) hl) λb2 q2 hsz2 hdf2 J y hres=>?_;obtain⟨W,w25⟩:=hres;have D2:=Rsc.keep T.dk y (λi hi h=>T.ap i hi h) hnr;have B2:=T.box.keep y T.n2 hnr;have V2:=aW.pers (y.le hnr) T.od;refine bL (i:=9) (d:=26) (R:=Is (aw b)) rfl rfl rfl (by rw[hsz2,hsb];decide) hQ (aO (x:= .tmp 17) rfl ⟨_,(show b2.get 17=aw b by rw[J 17 (by decide)];exact j17)⟩ (show b2.get 17=aw b by rw[J 17 (by decide)];exact j17)) λb3 q3 hsz3 hdf3 hoth3 hg3 j26=>?_;refine bL (i:=10) (d:=27) (R:=cw b 3) rfl rfl rfl (by rw[hsz3,hsz2,hsb];decide) hQ (aV (x:= .tmp 26) rfl oR j26) λb4 q4 hsz4 hdf4 hoth4 hg4 j27=>?_;have u:=hg3.trans hg4;have f25:b4.get 25=b2.get 25:=by rw[hoth4 25 (by decide),hoth3 25 (by decide)]
  replace D2:=Rsc.keep D2 (Chg.of (F:=noF) u) (λ _ _ f=>f) (λ _ f=>f.elim);replace B2:=B2.grow u;replace V2:=aZ.mono u V2;replace W:=(aZ.mono u W:ah 0 54 l (b2.get 25) q4);have hnb:∀i,b=i->¬q4.sh i:=λi e=>e▸B2.own;have n25:¬obF (b2.get 25) b:=λh=>(w25 b h).elim n2 (λh=>by omega);refine jb (i:=11) (off:=3) (w:=b2.get 25) rfl rfl rfl rfl (by kernel_rfl) (by decide) j27 B2 f25 (sJ W) λq5 z hz=>?_;refine ?_;have hgz:=((hgq.step y (λi h=> .inl (.inr (.inr h)))).then u).step z (λi e=> .inl (.inl e.symm));have C5:CnO {c with reg:=l} b O P (b2.get 25) F q5:=⟨hz,aW.pers (z.le hnb) V2,Rsc.keep D2 z (λi hi e=>T.n1 (e▸hi)) hnb,W.keep z (λi hi e=>n25 (e▸hi)) hnb,T.n1,n25,λi hi h=>(w25 i h).elim (T.ap i hi) (λh=>by have:=hFl i hi;have:=p.grow.size;omega)⟩;exact⟨hdf4.trans (hdf3.trans (hdf2.trans (p.defers.trans I))), .tuple #[],by simp[results,Tryz.f34],q5,rfl,hgz,b2.get 25,C5,λi h=>(w25 i h).imp id (λh=>bB gq h)⟩
 ·rw[if_neg (by rw[hc];decide)]at U;obtain rfl:=ae U;refine wp_skip ?_;exact⟨I, .tuple #[],by simp[results,Tryz.f34],k,rfl,G,j,C,λi h=> .inl h⟩
def k71:=mkO 71 [.list (.st 18)] [.bool] (λx=>jS x) Tryz.call71 λf g x r G h e=>by obtain⟨v0,rfl,i0⟩:=h.one;exact tB (zM i0 e) λv j h=>(gQ (T:=tb) (t:= .bool) (x:=r)).2 h
def fm(t:aP)(r:ai):Option Bool:=(qF t.Land r.ax.Lot).bind λq=>(gy r).bind λa=>(if a then(jS t.Land).bind λx=>some x else some false).bind λb=>(if(b&&q.2)then(ny t.az q.1 r.ax).bind λx=>some x else some false).bind λx=>some x
def k37:=mkg 37 [.st 7, .st 29] [.bool] (λx=>fm x.1 x.2) [k15.lift glv giv gl0,k22.lift glv giv gl0,k71.lift glv giv gl0,k72] [5] Tryz.f37 .n Tryz.func37 Tryz.call37 rfl rfl λx=>by kernel_rfl
def xy(e:(List Int))(f:Int):Option (aY Int (Option CC×Int)):=if(decide (f<(e.length:Int)))then(aL e f).bind λx1=>(if((decide (x1<1))||(decide (1073741824<x1)))then some true else(if(decide (0<f))then(fi f 1).bind λx=>(aL e x).bind λg=>some (decide (x1<=g))else some false).bind λh=>some h).bind λj=>if j then some (.ret (none,1))else(bh f 1).bind λm=>some (.go m)else some (.ex 0 f)
def uN(u:Int)(e:List Int)(g:List aG):Option (Option CC×Int):=if(lT u g).2!=0 then some (none,1)else(ar (xy e) (e.length+1) 0).bind λf=>match f with| .go _=>none| .ret r=>some r| .ex _ _=>(dZ e).bind λd=>match(lT u g).1 with|some dc=>some (some ⟨u,d,dc,[]⟩,0)|none=>none
def DK(dc:Option DC)(G:FP)(e:Value)(k:K):Prop:=wc dc G e k
theorem DK.grow{dc:Option DC}{G:FP}{e:Value}{k j:K}(h:DK dc G e k)(g:bE k j):DK dc G e j:=(yc dc).keep h (Chg.of (F:=noF) g) (λ _ _ f=>f) (λ _ f=>f.elim)
def O8(e:K)(r:Option CC×Int):Pred:=fb (λu k=>∃G,CnN r.1 G u k/\Lo e G) (IsV r.2)
theorem CE{e k:K}{a:Act}(f:a.defers=[])(g:Chg noF e k)(j:Is (.pointer none) (a.get 6) k)(m:IsI 1 (a.get 7) k):bodyPost Tryz.prog Tryz.f8 (cr noF e (O8 e (none,1))) .ret a k.w:=AQ rfl f g (show gg _ _ _ (.tmp 6) (λu k=>∃G,CnN none G u k/\Lo e G)from⟨noF,⟨j,rfl⟩,λ_ h=>h.elim⟩) m
theorem Ux{k:K}{e:List Value}(h:e.length=4)(h1:∀v∈e,v.oneCell'=true):IsV (⟨e⟩:dt 4) (.agg e.toArray) k:=⟨e,rfl,rfl,h,h1⟩
theorem JD{f:Type}[Enc f]{l:List f}{v:Value}{k:K}(h:IsV l v k):∃a n c,v= .slice a n c:=by
 rcases eC.1 h with⟨rfl,_⟩|⟨a,e,rfl⟩|⟨a,g,j,e,_⟩;.exact⟨_,_,_,rfl⟩
 .exact⟨_,_,_,e⟩
 .exact⟨_,_,_,e⟩
theorem TG{k:K}{v0 e v2:Value}{n:Int}{l:List Int}{dc:DC}(e0:v0= .int .i64 n)(h1:IsV l e k)(h:∃b,v2=aw b):∃v,(∀w,(Instr.build 106 #[(0,v0),(1,e),(2,v2)]).run Tryz.prog w= .ok v w)/\IsV (⟨fP ⟨n,l,dc,[]⟩ e v2 (.slice none 0 0)⟩:dt 4) v k:=by subst e0;obtain⟨x,y,z,rfl⟩:=JD h1;obtain⟨b,rfl⟩:=h;refine⟨.agg #[.int .i64 n, .slice x y z,aw b, .slice none 0 0],λw=>?_,Ux rfl (by simp[fP];exact⟨rfl,rfl,rfl,rfl⟩)⟩;have c1:(Value.int .i64 n).cells=#[.int .i64 n]:=rfl;have c2:(Value.slice x y z).cells=#[.slice x y z]:=rfl;have f:(aw b).cells=#[aw b]:=rfl;simp[Instr.build,Instr.fill,jF,c1,c2,f]
theorem Lw{k0:K}{v0 v1 v2:Value}{m:Int}{j:List Int}{l_:List aG}{r:Option CC×Int}(i0:IsV m v0 k0)(O:IsV j v1 k0)(i2:IsV l_ v2 k0)(P:uN m j l_=some r):
    Calls Tryz.prog 8 #[v0,v1,v2] k0.w (cr noF k0 (O8 k0 r)):=by
 unfold uN at P;refine cO Tryz.func8 rfl Tryz.ntmps8 (show 3<=53 by decide) λa k hk0 E H ha=>?_;obtain⟨e0,e1,e2,_⟩:=ha;replace i0:IsV m (a.get 0) k:=by rw[e0,hk0];exact i0
 replace O:IsV j (a.get 1) k:=by rw[e1,hk0];exact O
 replace i2:IsV l_ (a.get 2) k:=by rw[e2,hk0];exact i2
 have hQ:Gb.LetsOut (bodyPost Tryz.prog Tryz.f8 (cr noF k0 (O8 k0 r))):=ch;have I:Chg noF k0 k:=by rw[hk0];exact Chg.refl _ k0
 clear e0 e1 e2;refine aK 2 (⟨some (Is (.pointer none)),[]⟩::⟨some (IsI 0),[]⟩::[]) rfl ⟨I,E,H⟩ (by kernel_rfl) ⟨ob1 rfl λ _ _ h n=>aQ rfl rfl,aI rfl rfl,trivial⟩ [⟨_,_⟩,⟨_,_⟩,⟨_,_⟩] (λb q p=>⟨p.ke 0 rfl i0,p.ke 1 rfl O,p.ke 2 rfl i2,trivial⟩) ?_;clear I E H i0 O i2;rintro a k ⟨⟨I,E,H⟩,i0,O,i2,_⟩;refine wp_seq ?_;refine cut (λJ y=>∃U G,Bs noF k0 53 J y/\IsV m (J.get 0) y/\IsV j (J.get 1) y/\Is U (J.get 8) y/\IsV (lT m l_).2 (J.get 9) y/\DK (lT m l_).1 G U y/\Lo k0 G) ?_ hQ ?_
 .intro Q1 W1 w1;refine gS 2 (_::_::[]) E (by kernel_rfl) ⟨mu rfl i0,mu rfl i2,trivial⟩ W1 λb q p=>?_;have hgq:=I.then p.grow;have V:=p.size.trans E;have gq:=hgq.size;have j13:IsV m (b.get 13) q:=p.ou 0 13 rfl;have j14:IsV l_ (b.get 14) q:=p.ou 1 14 rfl;refine iH (F:=noF) (R:=fb (λu k=>∃G,wc (lT m l_).1 G u k/\Lo q G) (IsV (lT m l_).2)) (i:=2) (d:=15) (f:=28) (as_:=[.tmp 13, .tmp 14]) rfl rfl rfl rfl (by rw[V];decide) Tryz.call28 W1 (Ms j13 j14) λb2 q2 hsz2 hdf2 hoth2 hch2 hres=>?_;obtain⟨u,w,e15,⟨G,hD,hL⟩,hw⟩:=hres;refine dg (i:=3) (d:=12) rfl rfl (.inr rfl) rfl (by rw[hsz2,V];decide) λb3 hsz3 hdf3 e3 hoth3=>?_;have e12:b3.get 12= .tuple #[u,w]:=e3.trans e15;refine bL (i:=4) (d:=16) (R:=Is u) rfl rfl rfl (by rw[hsz3,hsz2,V];decide) W1 (dV (x:= .tmp 12) rfl (show b3.get 12=_ from e12) rfl) λb4 q4 hsz4 hdf4 hoth4 hg4 j16=>?_;refine bL (i:=5) (d:=17) (R:=Is w) rfl rfl rfl (by rw[hsz4,hsz3,hsz2,V];decide) W1 (dV (x:= .tmp 12) rfl (show b4.get 12=_ by rw[hoth4 12 (by decide)];exact e12) rfl) λb5 q5 W hdf5 hoth5 hg5 j17=>?_;refine dg (i:=6) (d:=8) rfl rfl (.inl rfl) rfl (by rw[W,hsz4,hsz3,hsz2,V];decide) λb6 hsz6 hdf6 e6 hoth6=>?_;refine dg (i:=7) (d:=9) rfl rfl (.inl rfl) rfl (by rw[hsz6,W,hsz4,hsz3,hsz2,V];decide) λb7 hsz7 hdf7 e7 hoth7=>?_;have hg45:=hg4.trans hg5;have hle:=hch2.le (λ _ f=>f.elim);have f8:b7.get 8=u:=by rw[hoth7 8 (by decide),e6];show b5.get 16=u;rw[hoth5 16 (by decide)];exact j16
  have f9:b7.get 9=w:=by rw[e7];show b6.get 17=w;rw[hoth6 17 (by decide)];exact j17
  have f0:b7.get 0=b.get 0:=by rw[hoth7 0 (by decide),hoth6 0 (by decide),hoth5 0 (by decide),hoth4 0 (by decide),hoth3 0 (by decide),hoth2 0 (by decide)]
  have f1:b7.get 1=b.get 1:=by rw[hoth7 1 (by decide),hoth6 1 (by decide),hoth5 1 (by decide),hoth4 1 (by decide),hoth3 1 (by decide),hoth2 1 (by decide)]
  refine aj (k:=q5) (w1 _ _ ⟨u,G,⟨(hgq.step hch2 (λ _ f=>f.elim)).then hg45,hsz7.trans (hsz6.trans (W.trans (hsz4.trans (hsz3.trans (hsz2.trans V))))),hdf7.trans (hdf6.trans (hdf5.trans (hdf4.trans (hdf3.trans (hdf2.trans (p.defers.trans H))))))⟩,?_,?_,f8,?_,DK.grow hD hg45,λc hc=>bB gq (hL c hc)⟩);.rw[f0];exact aZ.mono hg45 (aW.pers hle (p.ke 0 rfl i0))
  .rw[f1];exact aZ.mono hg45 (aW.pers hle (p.ke 1 rfl O))
  .rw[f9];exact aZ.mono hg45 hw
 clear I E H i0 O i2;rintro a k ⟨U,G,⟨I,E,H⟩,i0,O,i8,i9,D,lG⟩;generalize hdc:lT m l_=o at P i9 D;obtain⟨dc,e⟩:=o;dsimp only at P i9 D;refine wp_seq ?_;refine aK 2 (_::⟨some (IsV (e !=0)),[(18,some 0)]⟩::[]) rfl ⟨I,E,H⟩ (by kernel_rfl) ⟨mu rfl i9,ob1 rfl λ _ _ h n=>EB rfl n.1 (Gb.cI rfl),trivial⟩ [⟨_,_⟩,⟨_,_⟩,⟨8,Is U⟩,⟨19,IsV (e !=0)⟩,⟨0,λ _ k=>DK dc G U k⟩] (λb q p=>⟨p.ke 0 rfl i0,p.ke 1 rfl O,p.ke 8 rfl i8,p.ou 1 19 rfl,D.grow p.grow,trivial⟩) ?_;clear I E H i0 O i8 i9 D;rintro a k ⟨⟨I,E,H⟩,i0,O,i8,i19,D,_⟩;replace D:DK dc G U k:=D;refine wp_cond_split (isBool i19) (λhc=>?_) (λhc=>?_);·rw[if_pos hc]at P;refine aK 2 (⟨some (Is (.pointer none)),[]⟩::⟨some (IsI 1),[]⟩::[]) rfl ⟨I,E,H⟩ (by kernel_rfl) ⟨ob1 rfl λ _ _ h n=>aQ rfl rfl,aI rfl rfl,trivial⟩ [⟨6,Is (.pointer none)⟩,⟨7,IsI 1⟩] (λb q p=>⟨p.ou 0 6 rfl,p.ou 1 7 rfl,trivial⟩) ?_;rintro a k ⟨⟨I,E,H⟩,i6,i7,_⟩;refine wp_ret ?_;obtain rfl:=ae P;exact CE H I i6 i7
 rw[if_neg (by rw[hc];decide)]at P;refine wp_skip ?_;refine wp_seq ?_;refine aK 3 (_::_::⟨some (IsI 0),[]⟩::[]) rfl ⟨I,E,H⟩ (by kernel_rfl) ⟨mu rfl O,o1 [(20,some 0)] rfl λ _ _ h n=>gM rfl rfl Tryz.underlying38 (IsV.rd n.1),ob1 rfl λ _ _ h n=>du rfl (cI rfl),trivial⟩ [⟨_,_⟩,⟨_,_⟩,⟨8,Is U⟩,⟨0,λ _ k=>DK dc G U k⟩,⟨_,_⟩,⟨_,_⟩,⟨_,_⟩] (λb q p=>⟨p.ke 1 rfl O,p.ke 0 rfl i0,p.ke 8 rfl i8,D.grow p.grow,p.ou 0 20 rfl,p.ou 1 21 rfl,p.ou 2 22 rfl,trivial⟩) ?_;rintro a k ⟨⟨I,E,H⟩,O,i0,i8,D,i20,i21,M,_⟩;refine wp_block ?_;obtain⟨f1,hf1,P⟩:=bind_some P;refine pC f1 (λs' c l=>Bs noF k0 53 c l/\IsV j (c.get 1) l/\IsV m (c.get 0) l/\Is U (c.get 8) l/\DK dc G U l/\IsV j (c.get 20) l/\IsL j (c.get 21) l/\IsV s' (c.get 22) l/\True) (λi' s' c l=>(i'=0/\Bs noF k0 53 c l/\IsV j (c.get 1) l/\IsV m (c.get 0) l/\Is U (c.get 8) l/\DK dc G U l)) (λr' c l=>bodyPost Tryz.prog Tryz.f8 (cr noF k0 (O8 k0 r')) .ret c l.w) ?_ hQ ?_ ?_ ?_
 .intro Q1 W1 hgo hex hret;refine gj ?_ _ _ _ _ _ hf1 ⟨⟨I,E,H⟩,O,i0,i8,D,i20,i21,M,trivial⟩ Q1 W1 hgo hex hret;clear P hf1 hgo hex hret W1 hQ I E H i0 i8 D O i20 i21 M;intro s1 fl_ a k P hS Q hQ hgo4105 hex4106 hret4107;obtain⟨⟨I,E,H⟩,O,i0,i8,D,i20,i21,M,_⟩:=hS;unfold xy at P;refine aK 1 (_::[]) rfl ⟨I,E,H⟩ (by kernel_rfl) ⟨o1 [(22,none),(21,none)] rfl λ _ _ h n=>jY rfl (up M h n.1) (up i21 h n.2.1),trivial⟩ [⟨_,_⟩,⟨_,_⟩,⟨8,Is U⟩,⟨0,λ _ k=>DK dc G U k⟩,⟨_,_⟩,⟨_,_⟩,⟨_,_⟩,⟨_,_⟩] (λb q p=>⟨p.ke 1 rfl O,p.ke 0 rfl i0,p.ke 8 rfl i8,D.grow p.grow,p.ke 20 rfl i20,p.ke 21 rfl i21,p.ke 22 rfl M,p.ou 0 23 rfl,trivial⟩) ?_;rintro a k ⟨⟨I,E,H⟩,O,i0,i8,D,i20,i21,M,i23,_⟩;refine wp_seq ?_;refine wp_cond_split (isBool i23) (λhc4122=>?_) (λhc4122=>?_)
  .rw[if_pos hc4122]at P;refine wp_skip ?_;refine wp_seq ?_;refine wp_block ?_;refine wp_seq ?_;obtain⟨x1,hx1,P⟩:=bind_some P;refine cut (λJ y=>Bs noF k0 53 J y/\(IsV j) (J.get 1) y/\IsV m (J.get 0) y/\Is U (J.get 8) y/\DK dc G U y/\(IsV s1) (J.get 10) y/\(IsV x1) (J.get 11) y/\(IsV j) (J.get 20) y/\(IsL j) (J.get 21) y/\(IsV s1) (J.get 22) y/\True) ?_ hQ ?_;.intro Q2 W2 w1;refine gS 5 (_::_::_::_::_::[]) E (by kernel_rfl) ⟨mu rfl M,o1 [(20,none),(22,none)] rfl λ _ _ h n=>dj rfl Tryz.underlying38 ty3 (IsV.rd (up i20 h n.1)) (up M h n.2.1) hx1,o1 [(25,some 1)] rfl λ _ _ h n=>aR rfl ty3 n.1,cp 0 rfl rfl,cp 2 rfl rfl,trivial⟩ W2 λb q p=>?_;exact aj (k:=q) (w1 _ _ ⟨Bs.post ⟨I,E,H⟩ p,p.ke 1 rfl O,p.ke 0 rfl i0,p.ke 8 rfl i8,D.grow p.grow,p.ou 3 10 rfl,p.ou 4 11 rfl,p.ke 20 rfl i20,p.ke 21 rfl i21,p.ke 22 rfl M,trivial⟩)
   rintro a k ⟨⟨I,E,H⟩,O,i0,i8,D,i10,i11,i20,i21,M,_⟩;refine wp_seq ?_;obtain⟨x2,hx2,P⟩:=bind_some P;obtain⟨x3,hx3,hx2⟩:=pb hx2;obtain⟨x4,hx4,hx3⟩:=ve hx3;obtain⟨x5,hx5,hx3⟩:=ve hx3;refine cut (λJ y=>Bs noF k0 53 J y/\(IsV j) (J.get 1) y/\IsV m (J.get 0) y/\Is U (J.get 8) y/\DK dc G U y/\(IsV j) (J.get 20) y/\(IsL j) (J.get 21) y/\(IsV s1) (J.get 22) y/\(IsV x2) (J.get 45) y/\True) ?_ hQ ?_;.intro Q3 W3 w2;refine gS 19 (_::_::_::_::_::_::_::_::_::⟨some (Gd (((decide (x1<1))||(decide (1073741824<x1)))=false) (IsV (decide (0<s1)))),[(35,some 8)]⟩::⟨some (Gd ((((decide (x1<1))||(decide (1073741824<x1)))=false)/\(decide (0<s1))=true) (IsV x1)),[(11,none)]⟩::⟨some (Gd ((((decide (x1<1))||(decide (1073741824<x1)))=false)/\(decide (0<s1))=true) (IsV j)),[(1,none)]⟩::⟨some (Gd ((((decide (x1<1))||(decide (1073741824<x1)))=false)/\(decide (0<s1))=true) (IsV s1)),[(10,none)]⟩::⟨some (Gd ((((decide (x1<1))||(decide (1073741824<x1)))=false)/\(decide (0<s1))=true) (IsV x4)),[(39,some 12)]⟩::⟨some (Gd ((((decide (x1<1))||(decide (1073741824<x1)))=false)/\(decide (0<s1))=true) (eE x5)),[(38,some 11),(40,some 13)]⟩::⟨some (Gd ((((decide (x1<1))||(decide (1073741824<x1)))=false)/\(decide (0<s1))=true) (IsV x5)),[(41,some 14)]⟩::⟨some (Gd ((((decide (x1<1))||(decide (1073741824<x1)))=false)/\(decide (0<s1))=true) (IsV (decide (x1<=x5)))),[(37,some 10),(42,some 15)]⟩::_::_::[]) E (by kernel_rfl) ⟨mu rfl i11,o1 [(27,some 0)] rfl λ _ _ h n=>jY rfl n.1 (cI rfl),cm 1 rfl rfl,mF rfl rfl i11,gF [(30,some 3)] rfl rfl λhp _ _ h n=>sU rfl (Gd.get n.1 hp) (cI rfl),o1 [(29,some 2),(31,some 4)] rfl λ _ _ h n=>yg rfl n.1 (cB rfl) (Gd.get n.2.1),cm 5 rfl rfl,mF rfl rfl i10,gF [(34,some 7)] rfl rfl λhp _ _ h n=>sU rfl (Gd.get n.1 hp) (cI rfl),gdF rfl rfl λhp _ _ h n=>du rfl (Gd.get n.1 hp),vS rfl rfl λhp b q h n=>du rfl (up i11 h n.1),vS rfl rfl λhp b q h n=>du rfl (up O h n.1),vS rfl rfl λhp b q h n=>du rfl (up i10 h n.1),vS rfl rfl λhp b q h n=>Ak rfl (Gd.get n.1 hp) (cI rfl) (hx4 hp),vS rfl rfl λhp b q h n=>dj rfl Tryz.underlying38 ty3 (IsV.rd (Gd.get n.1 hp)) (Gd.get n.2.1 hp) (hx5 hp),vS rfl rfl λhp b q h n=>aR rfl ty3 (Gd.get n.1 hp),vS rfl rfl λhp b q h n=>DW rfl (Gd.get n.1 hp) (Gd.get n.2.1 hp),gF [(36,some 9),(43,some 16)] rfl rfl λhp _ _ h n=>mG rfl (Gd.get n.1 hp) (hx3 hp) (λhm=>(Gd.get n.2.1 ⟨hp,hm⟩)) (cB rfl),o1 [(33,some 6),(44,some 17)] rfl λ _ _ h n=>mG rfl n.1 hx2 (cB rfl) (Gd.get n.2.1),trivial⟩ W3 λb q p=>?_;exact aj (k:=q) (w2 _ _ ⟨Bs.post ⟨I,E,H⟩ p,p.ke 1 rfl O,p.ke 0 rfl i0,p.ke 8 rfl i8,D.grow p.grow,p.ke 20 rfl i20,p.ke 21 rfl i21,p.ke 22 rfl M,p.ou 18 45 rfl,trivial⟩)
   rintro a k ⟨⟨I,E,H⟩,O,i0,i8,D,i20,i21,M,i45,_⟩;refine wp_cond_split (isBool i45) (λhc4117=>?_) (λhc4117=>?_);.rw[if_pos hc4117]at P;refine aK 2 (⟨some (Is (.pointer none)),[]⟩::⟨some (IsI 1),[]⟩::[]) rfl ⟨I,E,H⟩ (by kernel_rfl) ⟨ob1 rfl λ _ _ h n=>aQ rfl rfl,aI rfl rfl,trivial⟩ [⟨6,Is (.pointer none)⟩,⟨7,IsI 1⟩] (λb q p=>⟨p.ou 0 6 rfl,p.ou 1 7 rfl,trivial⟩) ?_;rintro a k ⟨⟨I,E,H⟩,i6,i7,_⟩;refine wp_ret ?_;exact hret4107 _ _ _ (ae P).symm (CE H I i6 i7)
   rw[if_neg (by rw[hc4117];decide)]at P;refine wp_skip ?_;obtain⟨x6,hx6,P⟩:=bind_some P;refine cut (λJ y=>Bs noF k0 53 J y/\(IsV j) (J.get 1) y/\IsV m (J.get 0) y/\Is U (J.get 8) y/\DK dc G U y/\(IsV j) (J.get 20) y/\(IsL j) (J.get 21) y/\(IsV x6) (J.get 22) y/\True) ?_ hQ ?_;.intro Q4 W4 w3;refine gS 2 (_::_::[]) E (by kernel_rfl) ⟨o1 [(22,none)] rfl λ _ _ h n=>iK rfl (up M h n.1) (cI rfl) hx6,cm 0 rfl rfl,trivial⟩ W4 λb q p=>?_;exact aj (k:=q) (w3 _ _ ⟨Bs.post ⟨I,E,H⟩ p,p.ke 1 rfl O,p.ke 0 rfl i0,p.ke 8 rfl i8,D.grow p.grow,p.ke 20 rfl i20,p.ke 21 rfl i21,p.ou 1 22 rfl,trivial⟩)
   rintro a k ⟨⟨I,E,H⟩,O,i0,i8,D,i20,i21,M,_⟩;exact hgo4105 _ _ _ (ae P).symm ⟨⟨I,E,H⟩,O,i0,i8,D,i20,i21,M,trivial⟩
  rw[if_neg (by rw[hc4122];decide)]at P;refine wp_exit ?_;exact hex4106 _ _ _ _ (ae P).symm ⟨rfl,⟨I,E,H⟩,O,i0,i8,D⟩
 .rintro r1 a k rfl hR;dsimp only at P;obtain rfl:=ae P;exact hR
 .rintro _ _ _ rfl _;simp at P
 clear hf1 I E H i0 O i8 i20 i21 M D;rintro _ s2 a k rfl ⟨rfl,⟨I,E,H⟩,O,i0,i8,D⟩;dsimp only at P;obtain⟨d,hd1,P⟩:=bind_some P;cases dc with
 | none => cases P
 | some dc =>
 obtain rfl:=ae P;have hp1:∃b,U=aw b:=by obtain⟨d',⟨b,bl,bt,hh,T,rfl,_⟩,_⟩:=D;exact⟨_,rfl⟩
 refine wp_seq ?_;refine cut (λJ y=>∃b,∃dv,Bs noF k0 53 J y/\Is (aw b) (J.get 6) y/\IsI 0 (J.get 7) y/\k0.w.heap.size<=b/\¬G b/\Gb.Box b (⟨fP ⟨m,d,dc,[]⟩ dv U (.slice none 0 0)⟩:dt 4) y/\IsV d dv y/\mI dc G U y) ?_ hQ ?_
 .intro Q1 W1 w1;refine gS 4 (_::_::⟨some (IsV d),[(48,some 1)]⟩::_::[]) E (by kernel_rfl) ⟨mu rfl i0,mu rfl O,ob1 rfl λ _ _ g n=>bU rfl Tryz.call29 (jW n.1 hd1),mu rfl i8,trivial⟩ W1 λb1 q p=>?_;have hgq:=I.then p.grow;have V:=p.size.trans E;have gq:=hgq.size;have j47:IsV m (b1.get 47) q:=p.ou 0 47 rfl;have j49:IsV d (b1.get 49) q:=p.ou 2 49 rfl;have j50:Is U (b1.get 50) q:=p.ou 3 50 rfl;have Dq:DK (some dc) G U q:=D.grow p.grow;refine bL (i:=4) (d:=51) rfl rfl rfl (by rw[V];decide) W1 (fF (ps:=[(0, .tmp 47),(1, .tmp 49),(2, .tmp 50)]) (x:=(⟨fP ⟨m,d,dc,[]⟩ (b1.get 49) (b1.get 50) (.slice none 0 0)⟩:dt 4)) rfl (TG (au.1 j47) j49 (by rw[show b1.eval (.tmp 50)=U from j50];exact hp1))) λb5 q5 W hdf5 hoth5 hgr5 h51=>?_;refine bL (i:=5) (d:=52) rfl rfl rfl (by rw[W,V];decide) W1 (AX (x:=(⟨fP ⟨m,d,dc,[]⟩ (b1.get 49) (b1.get 50) (.slice none 0 0)⟩:dt 4)) q5.w.heap.size (aA _) rfl h51) λb6 q6 hsz6 hdf6 hoth6 hgr6 h52=>?_;obtain⟨b,j52,x52,z52⟩:=h52;refine dg (i:=6) (d:=6) rfl rfl (.inl rfl) rfl (by rw[hsz6,W,V];decide) λb7 hsz7 hdf7 e7 hoth7=>?_;refine dg (i:=7) (d:=7) rfl rfl (.inl rfl) rfl (by rw[hsz7,hsz6,W,V];decide) λb8 hsz8 hdf8 e8 hoth8=>?_;have g5:=hgr5.size;have hg56:=hgr5.trans hgr6;have hGl:∀c,G c->c<q.w.heap.size:=λc hc=>(yc (some dc)).lt Dq c hc;refine aj (k:=q6) (w1 _ _ ⟨b,b1.get 49,⟨hgq.then hg56,hsz8.trans (hsz7.trans (hsz6.trans (W.trans V))),hdf8.trans (hdf7.trans (hdf6.trans (hdf5.trans (p.defers.trans H))))⟩,?_,?_,by omega,λhc=>by have:=hGl b hc;omega,?_,aZ.mono hg56 j49,DK.grow Dq hg56⟩);·show b8.get 6=_;rw[hoth8 6 (by decide),e7];exact j52
  ·show IsV (0:Int) (b8.get 7) q6;rw[e8];exact au.2 rfl
  .rw[show b1.get 50=U from j50]at z52;exact z52
 clear I E H i0 O i8 D;rintro a k ⟨b,dv,⟨I,E,H⟩,i6,i7,lb,nb,z,hdv,D⟩;refine wp_ret ?_;refine AQ rfl H I (show gg _ _ _ (.tmp 6) (λu k=>∃G,CnN (some ⟨m,d,dc,[]⟩) G u k/\Lo k0 G)from⟨CFP b (.slice none 0 0) G,⟨b,dv,U, .slice none 0 0,G,i6,⟨z,hdv,D, .inl ⟨rfl,rfl⟩,nb,by simp[obF,ob],λi _ h=>by simp[obF,ob]at h⟩,rfl⟩,?_⟩) i7;rintro c (rfl|h|h);.exact lb
 .exact lG c h
 .simp[obF,ob]at h
theorem Chg.sP{k k':K}{F:FP}{hF:∀b,F b->b<k.w.heap.size}(h:Chg noF (k.iL F hF) k'):Chg noF k (k'.sP k F):=⟨h.tape,h.os,h.out,h.size,h.blk,λb hb=>⟨h.up b (.inl hb),λ_=>hb⟩,λb hl hb=> .inl ((h.new b hl hb.1).elim (λh=>h.elim id hb.2) False.elim),h.drawn⟩
theorem CnO.marked{c:CC}{b:Nat}{dv pv rv:Value}{F:FP}{k:K}(h:CnO c b dv pv rv F k)(hF:∀i,CFP b rv F i->i<k.w.heap.size):∃p:Ptr,aS (⟨c.num,c.dist,p,c.reg⟩:bN) (aw b) (k.iL (CFP b rv F) hF):=by
 have hh:=tU k (CFP b rv F) hF;obtain⟨bp,rfl⟩:∃bp,pv=aw bp:=by obtain⟨d',⟨b,bl,bt,hh,T,rfl,_⟩,_⟩:=h.dk;exact⟨_,rfl⟩
 obtain⟨_,arr,t,e,hr⟩:=h.box;have hr:arr.toList=fP c dv (aw bp) rv/\arr.toList.length=4/\_:=hr;have i1:IsV c.dist dv (k.iL (CFP b rv F) hF):=aW.pers hh.le h.od;have i2:IsV c.reg rv (k.iL (CFP b rv F) hF):=h.rg.iL hh λi hi=> .inr (.inr (.inr hi));obtain⟨c1,q1,r1⟩:=i1;obtain⟨c2,q2,r2⟩:=i2;obtain⟨u1,rfl,s1⟩:=r1;obtain⟨u2,rfl,s2⟩:=r2;have q1:dv=u1:=q1;have q2:rv=u2:=q2;subst q1 q2;refine⟨⟨some ⟨bp,0,none⟩⟩,⟨b,0,none⟩,rfl, .inr (.inl rfl),fP c dv (aw bp) rv,?_,?_⟩;·show Enc.rep (α:=Int×List Int×Ptr×List aq) _ (fP c dv (aw bp) rv) (c.num,c.dist,⟨some ⟨bp,0,none⟩⟩,c.reg);exact⟨rfl,rfl,rfl,⟨_,rfl,s1⟩,rfl,rfl,⟨_,rfl,s2⟩⟩
 ·rw[<-hr.1];have:=gW (w:=k.w) (b:=b) (off:=0) (n:=4) e (by have:=hr.2.1;rw[iE]at this;omega);rw[rI,<-hr.2.1,cQ]at this;exact this
theorem Vu{k k':K}{F:FP}(h:Chg noF k k'):Chg F k k':=Chg.of h.grow
theorem Fh{k0:K}{v0:Value}{l r:List aq}(i0:IsV l v0 k0)(hr:bI l=some r):Calls Tryz.prog 33 #[v0] k0.w (Ret k0 (IsV r)):=tB (k33.ok.ok k0 [v0] l r gok i0 hr) λv k' h=>(gQ (T:=tb) (t:= .list (.st 28)) (x:=r)).1 h
def OY(l_:(List aq))(s1:Int):Option (aY (Int) (Int)):=if(decide (s1<(l_.length:Int)))then(aL l_ s1).bind λx1=>(if(((decide (x1.Counter<0))||(decide (8<=x1.Counter)))||(decide (x1.Number<1)))then some true else(if(decide (0<s1))then(fi s1 1).bind λx2=>(aL l_ x2).bind λx3=>(eM x3 x1).bind λx4=>some (decide (0<=x4))else some false).bind λx5=>some x5).bind λx6=>if x6 then some (.ret 1)else(bh s1 1).bind λx7=>some (.go x7)else some (.ex 0 s1)
def N6(c_:bN)(l_:(List aq))(s1:Int×Int):Option (aY (Int×Int) (Int)):=if(decide (s1.2<(l_.length:Int)))then(aL l_ s1.2).bind λx1=>(cJ c_.register x1 eM).bind λx2=>(if x2.2 then(aL c_.register x2.1).bind λx3=>(counter_same x3.ai x1.ai).bind λx4=>some (!x4)else some false).bind λx5=>if(x5||((!x2.2)&&(x1.Counter==c_.number)))then some (.ret 25)else(if(!x2.2)then(bh s1.1 1).bind λx6=>some x6 else some s1.1).bind λs2=>(bh s1.2 1).bind λx7=>some (.go (s2,x7))else some (.ex 2 (s1.1,s1.2))
def Ra(m:List aq)(s:CC×Int):Option (aY (CC×Int) Unit):=if decide (s.2<(m.length:Int))then(aL m s.2).bind λf=>(K8 s.1 f).bind λc'=>(bh s.2 1).bind λj=>some (.go (c',j))else some (.ex 4 s)
def Jv(cc0:CC)(l_:List aq):Option (CC×Int):=(bI l_).bind λm=>(ar (Ra m) (m.length+1) (cc0,0)).bind λf=>match f with| .ex _ s=>some (s.1,0)|_=>none
def N5(cc0:CC)(c_:bN)(l_:List aq):Option (CC×Int):=(ar (OY l_) (l_.length+1) 0).bind λf1=>match f1 with
 | .go _=>none| .ex _ _=>if(decide (5000<(l_.length:Int)))then some (cc0,1)else(ar (N6 c_ l_) (l_.length+1) ((c_.register.length:Int),0)).bind λf2=>match f2 with| .go _=>none| .ex _ s1=>if(decide (5000<s1.1))then some (cc0,6)else Jv cc0 l_| .ret r1=>some (cc0,r1)
 | .ret r2=>some (cc0,r2)
def JO(c:CC)(l:List aq):Option (CC×Int):=N5 c ⟨c.num,c.dist,⟨none⟩,c.reg⟩ l
theorem LN(c:CC)(p:Ptr)(l:List aq):N5 c ⟨c.num,c.dist,p,c.reg⟩ l=JO c l:=rfl
def JP(k00:K)(cb:Nat)(dv pv rv:Value)(F:FP)(r:CC×Int):Pred:=λv k=>(∃rv',CnO r.1 cb dv pv rv' F k/\∀i,obF rv' i->obF rv i∨k00.w.heap.size<=i)/\IsV r.2 v k
def c9:Cx tb:=⟨Tryz.prog,tid,eqs,gx [k30,k31,k32],fN (P:=Tryz.prog) [],false,[],Tryz.f9.results.toList,Tryz.f9.ntmps,vU,λ _=>True,gE (P:=Tryz.prog) []⟩
theorem UK:rX c9:=⟨lq [k30,k31,k32],jr (P:=Tryz.prog) [],uk.at,lS,rfl,jk (P:=Tryz.prog) []⟩
def TY:Rv tb:=⟨0, .n, .n,[.int],HL tb.S [.int],λr=>r.2.2,λr=>((),(),r),λ _=>rfl⟩
def e9(c:bN)(l:List aq):Env tb:=[(0, .ref (.st 31) c),(1, .v (.list (.st 28)) l)]
def m9(cc:CC)(l:List aq):Kt tb (TY.D tb) (CC×Int):=⟨λ _=>Jv cc l,λ _ _=>none,λ (e:Int)=>some (cc,e)⟩
theorem ev9(cc:CC)(c:bN)(l:List aq):ev c9 TY (yC (Ew 6 (body Tryz.f9))) (.s .n (.s (.s .n (.l [] [(16, .v .int)] [(0,[16],[])] (fI 15) .n)) (.s .n (.s .n (.s (.s .n (.l [] [(7, .v .int),(59, .v .int)] [(2,[59],[])] (fI 58) (.s .n (.s .n (.s (.s .n (.s .n (.s .n (.s .n (.j [] [(7, .v .int)] ([],[]) (.s .n .n)))))) .n))))) (.s .n .n)))))) (CC×Int) (e9 c l) (m9 cc l)=N5 cc c l:=by kernel_rfl
theorem hl9{a:Act}{k:K}{W:List Nat}{c:bN}{l:List aq}(hs:a.tmps.size=118)(hd:a.defers=[])(h0:aS c (a.get 0) k)(h1:IsV l (a.get 1) k):Hl 118 noF k W a (e9 c l) a k:=by
 have hlk:∀t,lk (e9 c l) t=if 0=t then .ref (.st 31) c else if 1=t then .v (.list (.st 28)) l else .top:=λt=>by show lk ((0,_)::(1,_)::_) t=_;rw[bg,bg];rfl
 refine⟨Chg.refl _ k,hs,hd,λ _ _=>rfl,λt=>?_,λt s h=>?_,λt h=>?_,λt u _ b h=>?_,gok⟩
 · rw[hlk];split;.rename_i e;rw[<-e];exact h0
   · split;.rename_i e;rw[<-e];exact h1
     .trivial
 all_goals rw[hlk]at h;split at h<;>(try split at h)<;>first|(cases h;done)|exact h.elim
set_option maxHeartbeats 4000000 in theorem Pn{k00:K}{cc0:CC}{cb:Nat}{dv pv rv v1:Value}{F:FP}{l_:List aq}{r:CC×Int}(C:CnO cc0 cb dv pv rv F k00)(i1:IsV l_ v1 k00)(hr:JO cc0 l_=some r):Calls Tryz.prog 9 #[aw cb,v1] k00.w (cr (CFP cb rv F) k00 (JP k00 cb dv pv rv F r)):=by
 have hF:∀i,CFP cb rv F i->i<k00.w.heap.size:=λi hi=>(C.lt i hi).1;have hh:=tU k00 (CFP cb rv F) hF;obtain⟨pt,i0⟩:=C.marked hF;rw[<-LN cc0 pt]at hr;have i1v:=i1;replace i1:=aW.pers hh.le i1;generalize hc_:(⟨cc0.num,cc0.dist,pt,cc0.reg⟩:bN)=c_ at i0 hr;have back:∀{k:K},Chg noF (k00.iL (CFP cb rv F) hF) k->∃k',k'.w=k.w/\Chg noF k00 k'/\CnO cc0 cb dv pv rv F k'/\IsV l_ v1 k':=λ {k}h=>by have hu:=Chg.sP h;exact⟨k.sP k00 (CFP cb rv F),rfl,hu,C.keep hu (λ _ _ f=>f) (λ _ f=>f.elim),aW.pers (hu.le λ _ f=>f.elim) i1v⟩
 refine cO Tryz.func9 rfl Tryz.ntmps9 (show 2<=118 by decide) λa k hk0 hs hd ha=>?_;obtain⟨e0,e1,_⟩:=ha;rw[hk0,show k00.w=(k00.iL (CFP cb rv F) hF).w from rfl];clear hk0;clear k;generalize k00.iL (CFP cb rv F) hF=k0 at i0 i1 back⊢;clear hc_ hh;replace i0:(aS c_) (a.get 0) k0:=by rw[e0];exact i0
 replace i1:(IsV l_) (a.get 1) k0:=by rw[e1];exact i1
 have hQ:Gb.LetsOut (bodyPost Tryz.prog Tryz.f9 (cr (CFP cb rv F) k00 (JP k00 cb dv pv rv F r))):=ch;show(body Tryz.f9).wp Tryz.prog _ a k0.w;refine G8 UK (qq rfl) 6 (by kernel_rfl) (λ _=>trivial) ((ev9 cc0 c_ l_).trans hr) (λh=>by simp[isN,TY]at h) (hl9 hs hd i0 i1) (λe a' k g h=>?_) (λ _ _=>rfl) (λx a' k g h=>?_);rotate_left;·obtain rfl:=ae g;obtain⟨h1,_,k2,h2,h3,_,_,h4⟩:=h;obtain⟨v,h5,h6,_⟩:=h4 Tryz.f9 rfl;obtain⟨k',hw,hu,C',_⟩:=back h3;rw[<-h2,<-hw];rw[<-hw]at h5;exact gB h1 h5 (Vu hu) ⟨⟨rv,C',λi h=> .inl h⟩,au.2 (au.1 h6)⟩
 have W0:∀t,(wrs (yC (Ew 6 (body Tryz.f9)))).contains t=false->a'.get t=a.get t:=λt ht=>h.old t λhm=>by rw[iW.2 hm]at ht;cases ht
 have u0:Is (aw cb) (a'.get 0) k:=(W0 0 (by kernel_rfl)).trans e0;have u1:Is v1 (a'.get 1) k:=(W0 1 (by kernel_rfl)).trans e1;have hs:a'.tmps.size=118:=h.s;have hd:=h.d;have hg:=h.g;replace hr:Jv cc0 l_=some r:=g;clear i0 i1 e0 e1 W0 h g;generalize a'=a at*;obtain⟨k',hw,hu,C',i1⟩:=back hg;rw[<-hw];clear hg back C i1v;unfold Jv at hr;obtain⟨m,hm,hr⟩:=bind_some hr;obtain⟨f3,hf3,hr⟩:=bind_some hr;replace hg:Chg (CFP cb rv F) k00 k':=Vu hu;replace i1:IsV l_ (a.get 1) k':=by rw[show a.get 1=v1 from u1];exact i1
 replace u0:Is (aw cb) (a.get 0) k':=u0;refine wp_seq ?_;refine aK 4 (_::⟨some (IsV m),[(107,some 0)]⟩::⟨some (IsL m),[(108,some 1)]⟩::⟨some (IsI 0),[]⟩::[]) rfl ⟨hg,hs,hd⟩ (by kernel_rfl) ⟨mu rfl i1,ob1 rfl λ _ _ g n=>bU rfl Tryz.call33 (Fh n.1 hm),ob1 rfl λ _ _ h n=>gM rfl rfl Tryz.underlying55 (IsV.rd n.1),ob1 rfl λ _ _ h n=>du rfl (Gb.cI rfl),trivial⟩ [⟨0,Is (aw cb)⟩,⟨108,IsV m⟩,⟨109,IsL m⟩,⟨110,IsV (0:Int)⟩,⟨0,λ _ k=>CnO cc0 cb dv pv rv F k⟩] (λb q p=>⟨p.ke 0 rfl u0,p.ou 1 108 rfl,p.ou 2 109 rfl,p.ou 3 110 rfl,C'.grow p.grow,trivial⟩) ?_;clear hg hs hd u0 u1 i1 C' hu;rintro a k ⟨⟨hg,hs,hd⟩,u0,i108,i109,i110,C,_⟩;replace C:CnO cc0 cb dv pv rv F k:=C;refine wp_block ?_;refine pC f3 (λs' c l=>∃rv',Bs (CFP cb rv F) k00 118 c l/\Is (aw cb) (c.get 0) l/\IsV m (c.get 108) l/\IsL m (c.get 109) l/\IsV s'.2 (c.get 110) l/\CnO s'.1 cb dv pv rv' F l/\∀i,obF rv' i->obF rv i∨k00.w.heap.size<=i) (λi' s' c l=>i'=4/\∃rv',Bs (CFP cb rv F) k00 118 c l/\CnO s'.1 cb dv pv rv' F l/\∀i,obF rv' i->obF rv i∨k00.w.heap.size<=i) (λ _ _ _=>False) ?_ hQ ?_ ?_ ?_
 .intro Q1 W1 hgo hex hret;refine gj ?_ _ _ _ _ _ hf3 ⟨rv,⟨hg,hs,hd⟩,u0,i108,i109,i110,C,λi h=> .inl h⟩ Q1 W1 hgo hex hret;clear hr hf3 hgo hex hret W1 hQ hg hs hd u0 i108 i109 i110 C;intro s1 fl_ a k hr hS Q hQ hgo hex hret;obtain⟨rw_,⟨hg,hs,hd⟩,u0,i108,i109,i110,C,hrw⟩:=hS;unfold Ra at hr;refine aK 1 (_::[]) rfl ⟨hg,hs,hd⟩ (by kernel_rfl) ⟨o1 [(110,none),(109,none)] rfl λ _ _ h n=>jY rfl (up i110 h n.1) (up i109 h n.2.1),trivial⟩ [⟨0,Is (aw cb)⟩,⟨_,_⟩,⟨_,_⟩,⟨_,_⟩,⟨_,_⟩,⟨0,λ _ k=>CnO s1.1 cb dv pv rw_ F k⟩] (λb q p=>⟨p.ke 0 rfl u0,p.ke 108 rfl i108,p.ke 109 rfl i109,p.ke 110 rfl i110,p.ou 0 111 rfl,C.grow p.grow,trivial⟩) ?_;clear hg hs hd u0 i108 i109 i110 C;rintro a k ⟨⟨hg,hs,hd⟩,u0,i108,i109,i110,i111,C,_⟩;replace C:CnO s1.1 cb dv pv rw_ F k:=C;refine wp_seq ?_;refine wp_cond_split (isBool i111) (λhc=>?_) (λhc=>?_);rotate_left;·rw[if_neg (by rw[hc];decide)]at hr;refine wp_exit ?_;exact hex _ _ _ _ (ae hr).symm ⟨rfl,rw_,⟨hg,hs,hd⟩,C,hrw⟩
  rw[if_pos hc]at hr;refine wp_skip ?_;obtain⟨f,hf,hr⟩:=bind_some hr;obtain⟨c',hc',hr⟩:=bind_some hr;obtain⟨j,hj,hr⟩:=bind_some hr;refine wp_seq ?_;refine wp_block ?_;refine wp_seq ?_;refine cut (λa' k'=>Bs (CFP cb rv F) k00 118 a' k'/\Is (aw cb) (a'.get 0) k'/\aS f (a'.get 13) k'/\IsV m (a'.get 108) k'/\IsL m (a'.get 109) k'/\IsV s1.2 (a'.get 110) k'/\CnO s1.1 cb dv pv rw_ F k') ?_ hQ ?_
  · intro Q2 W2 w1;refine gS 3 (_::_::⟨some (gV k.w.heap.size (⟨0,0,(⟨0,0,(⟨0,[]⟩:ax),0,0,false⟩:ai)⟩:aq)),[]⟩::[]) hs (by kernel_rfl) ⟨o1 [(108,none),(110,none)] rfl λ _ _ h n=>dj rfl Tryz.underlying55 E5 (IsV.rd (up i108 h n.1)) (up i110 h n.2.1) hf,o1 [(112,some 0)] rfl λ _ _ h n=>aR rfl E5 n.1,ob1 rfl λ _ _ h n=>gu _ h.size rfl z54,trivial⟩ W2 λb q p=>?_;have hgq:=hg.then p.grow;have gs:=hg.size;obtain⟨b13,j13,x13,z13⟩:(gV k.w.heap.size (⟨0,0,(⟨0,0,(⟨0,[]⟩:ax),0,0,false⟩:ai)⟩:aq)) (b.get 13) q:=p.ou 2 13 rfl;have hlt:=C.lt;have na:bj (CFP cb rw_ F) (Eq b13):=λi hi e=>by have:=(hlt i hi).1;subst e;omega
    have y13:Wr (CFP cb rv F) k00 (Eq b13):=λi e=> .inr (by subst e;omega);have j113:IsV f (b.get 113) q:=p.ou 1 113 rfl;have hns:=z13.jl;refine cG (i:=3) rfl rfl rfl rfl Ni (Upd.self (α:=aq)) j13 z13 j113 λq2 hch hz=>?_;have hle:=hch.le hns;obtain⟨q3,hsh,jn⟩:=hz.gz;rw[<-hsh.w];rw[<-j13]at jn;exact aj (k:=q3) (w1 _ _ ⟨⟨(hgq.step hch y13).hand hsh y13,p.size.trans hs,p.defers.trans hd⟩,p.ke 0 rfl u0,jn,aW.pers hsh.le (aW.pers hle (p.ke 108 rfl i108)),aW.pers hsh.le (aW.pers hle (p.ke 109 rfl i109)),aW.pers hsh.le (aW.pers hle (p.ke 110 rfl i110)),((C.grow p.grow).keep hch na hns).handed hsh na⟩)
  clear hg hs hd u0 i108 i109 i110 i111 C hc hf;rintro a k ⟨⟨hg,hs,hd⟩,u0,i13,i108,i109,i110,C⟩;refine cut (λa' k'=>∃rv',Bs (CFP cb rv F) k00 118 a' k'/\Is (aw cb) (a'.get 0) k'/\IsV m (a'.get 108) k'/\IsL m (a'.get 109) k'/\IsV s1.2 (a'.get 110) k'/\CnO c' cb dv pv rv' F k'/\∀i,obF rv' i->obF rv i∨k00.w.heap.size<=i) ?_ hQ ?_
  .intro Q2 W2 w1;refine gS 2 (_::_::[]) hs (by kernel_rfl) ⟨mu rfl u0,o1 [(13,none)] rfl λ _ _ h n=>aR rfl E5 (up i13 h n.1).ptr,trivial⟩ W2 λb q p=>?_;have hgq:=hg.then p.grow;have hsb:=p.size.trans hs;have gq:=hgq.size;have Cq:=C.grow p.grow;have j114:b.get 114=aw cb:=p.ou 0 114 rfl;have j115:IsV f (b.get 115) q:=p.ou 1 115 rfl;have wr:Wr (CFP cb rv F) k00 (CFP cb rw_ F):=λi hi=>by
    rcases hi with rfl|hi|hi;.exact .inl (.inl rfl)
    .exact .inl (.inr (.inl hi))
    .exact(hrw i hi).imp (λh=> .inr (.inr h)) id
   refine iH (F:=CFP cb rw_ F) (R:=λ _ k=>∃rv',CnO c' cb dv pv rv' F k/\∀i,obF rv' i->obF rw_ i∨q.w.heap.size<=i) (i:=2) (d:=116) (f:=34) (as_:=[.tmp 114, .tmp 115]) rfl rfl rfl rfl (by rw[hsb];decide) Tryz.call34 W2 (by show Calls _ _ #[b.get 114,b.get 115] _ _;rw[j114];exact NC Cq j115 hc') λb2 q2 hsz2 hdf2 hoth2 hch2 hres=>?_;obtain⟨rv',C2,hrv'⟩:=hres;have hns:∀i,CFP cb rw_ F i->¬q.sh i:=λi hi=>(Cq.lt i hi).2;have hle:=hch2.le hns;refine aj (k:=q2) (w1 _ _ ⟨rv',⟨hgq.step hch2 wr,hsz2.trans hsb,hdf2.trans (p.defers.trans hd)⟩,?_,?_,?_,?_,C2,λi hi=>(hrv' i hi).elim (hrw i) (λh=> .inr (bB gq h))⟩);.rw[hoth2 0 (by decide)];exact p.ke 0 rfl u0
   .rw[hoth2 108 (by decide)];exact aW.pers hle (p.ke 108 rfl i108)
   .rw[hoth2 109 (by decide)];exact aW.pers hle (p.ke 109 rfl i109)
   .rw[hoth2 110 (by decide)];exact aW.pers hle (p.ke 110 rfl i110)
  clear hg hs hd u0 i13 i108 i109 i110 C hrw;rintro a k ⟨rv',⟨hg,hs,hd⟩,u0,i108,i109,i110,C,hrv'⟩;refine cut (λa' k'=>Bs (CFP cb rv F) k00 118 a' k'/\Is (aw cb) (a'.get 0) k'/\IsV m (a'.get 108) k'/\IsL m (a'.get 109) k'/\IsV j (a'.get 110) k'/\CnO c' cb dv pv rv' F k') ?_ hQ ?_;·intro Q3 W3 w2;refine gS 2 (_::_::[]) hs (by kernel_rfl) ⟨o1 [(110,none)] rfl λ _ _ h n=>iK rfl (up i110 h n.1) (Gb.cI rfl) hj,cm 0 rfl rfl,trivial⟩ W3 λb q p=>?_;exact aj (k:=q) (w2 _ _ ⟨Bs.post ⟨hg,hs,hd⟩ p,p.ke 0 rfl u0,p.ke 108 rfl i108,p.ke 109 rfl i109,p.ou 1 110 rfl,C.grow p.grow⟩)
  rintro a k ⟨hB,u0,i108,i109,i110,C⟩;exact hgo _ _ _ (ae hr).symm ⟨rv',hB,u0,i108,i109,i110,C,hrv'⟩
 ·rintro _ _ _ _ h;exact h.elim
 ·rintro _ _ _ rfl _;simp at hr
 clear hf3 hg hs hd u0 i108 i109 i110 C;rintro _ s2 a k rfl ⟨rfl,rv',⟨hg,hs,hd⟩,C,hrv'⟩;dsimp only at hr;obtain rfl:=ae hr;refine aK 1 (⟨some (IsI 0),[]⟩::[]) rfl ⟨hg,hs,hd⟩ (by kernel_rfl) ⟨aI rfl rfl,trivial⟩ [⟨4,IsI 0⟩,⟨0,λ _ k=>CnO s2.1 cb dv pv rv' F k⟩] (λb q p=>⟨p.ou 0 4 rfl,C.grow p.grow,trivial⟩) ?_;clear C hg hs hd;rintro a k ⟨⟨hg,hs,hd⟩,i4,C,_⟩;refine wp_ret ?_;exact cZ rfl hd hg (show gg _ _ _ (.tmp 4) (JP k00 cb dv pv rv F (s2.1,0))from⟨⟨rv',C,hrv'⟩,i4⟩)
def k36:=mkg 36 [.rf (.st 7), .rf (.st 29)] [.bool] (λx=>(fm x.1 x.2).bind λy=>some (!y)) [k37] [] Tryz.f36 .n Tryz.func36 Tryz.call36 rfl rfl λx=>by kernel_rfl
def Ey(x r:ai):Option Bool:=some (x.Id==r.Id)
def k42:=mk 42 [.st 29, .rf (.st 29)] [.bool] (λx=>Ey x.1 x.2) [] [] Tryz.f42 .n Tryz.func42 Tryz.call42 rfl rfl λx=>by kernel_rfl
theorem wX:Ty Tryz.prog 48 fD:=⟨⟨_,Tryz.underlying48,rfl⟩,by kernel_rfl⟩
theorem N0:Ty Tryz.prog 47 fD:=⟨⟨_,Tryz.underlying47,rfl⟩,by kernel_rfl⟩
def fu(b:Nat):Pred:=aS (fD.mk (aw b))
instance(b:Nat):aW (fu b):=inferInstanceAs (aW (aS _))
theorem fu.load{o:Oper}{a:Act}{k:K}{b:Nat}{t:TypeId}{p:Operand}(e:o.op= .load t p)(f:Ty Tryz.prog t fD)(h:fu b (a.eval p) k):aX Tryz.prog o a k (Is (aw b)):=lA (aR e f (aS.ptr h)) λu j hk g=>Ad g
def yQ(c:CC)(t:aP)(r:ai):Option Bool:=jB ⟨c.num,c.dist,⟨none⟩,c.reg⟩ t r
theorem Hw{e:K}{c:CC}{b:Nat}{q u f j v2:Value}{F:FP}{t:aP}{r:ai}{x:Bool}(C:CnO c b q u f F e)(y:IsV t j e)(i2:IsV r v2 e)(z:yQ c t r=some x):Calls Tryz.prog 39 #[aw b,j,v2] e.w (Ret e (IsV x)):=by have hF:∀i,CFP b f F i->i<e.w.heap.size:=λi hi=>(C.lt i hi).1;have m:=tU e (CFP b f F) hF;obtain⟨E,i0⟩:=C.marked hF;exact tA (F:=CFP b f F) (hF:=hF) (k39.ok.ok (e.iL (CFP b f F) hF) [aw b,j,v2] (⟨c.num,c.dist,E,c.reg⟩,t,r) x gok ⟨tg.2 i0,aW.pers m.le y,aW.pers m.le i2⟩ z) λv G h=>Bb h
theorem Sf{f:K}{c:CC}{b:Nat}{z E G v0 I v2:Value}{F:FP}{t:aP}{r:ai}{x:Bool}(C:CnO c b z E G F f)(i0:fu b v0 f)(j:aS t I f)(i2:aS r v2 f)(M:yQ c t r=some x):Calls Tryz.prog 38 #[v0,I,v2] f.w (Ret f (IsV x)):=by
 refine Ret.ofC ?_;refine cO Tryz.func38 rfl Tryz.ntmps38 (show 3<=8 by decide) λa k e y m O=>?_;obtain⟨e0,e1,J,_⟩:=O;replace i0:fu b (a.get 0) k:=by rw[e0,e];exact i0
 replace j:aS t (a.get 1) k:=by rw[e1,e];exact j
 replace i2:aS r (a.get 2) k:=by rw[J,e];exact i2
 have u:Chg noF f k:=by rw[e];exact Chg.refl _ f
 replace C:CnO c b z E G F k:=by rw[e];exact C
 clear e0 e1 J;refine aK 1 (⟨some (IsV false),[]⟩::[]) rfl ⟨u,y,m⟩ (by kernel_rfl) ⟨ob1 rfl λ _ _ h n=>aQ rfl (aE.2 rfl),trivial⟩ [⟨_,_⟩,⟨_,_⟩,⟨_,_⟩,⟨0,λ _ k=>CnO c b z E G F k⟩] (λP q p=>⟨p.ke 0 rfl i0,p.ke 1 rfl j,p.ke 2 rfl i2,C.grow p.grow,trivial⟩) ?_;clear u y m i0 j i2 C;rintro a k ⟨⟨u,y,m⟩,i0,j,i2,C,_⟩;replace C:CnO c b z E G F k:=C;refine aK 5 (⟨some (Is (aw b)),[(0,none)]⟩::⟨some (IsV t),[(1,none)]⟩::⟨some (IsV r),[(2,none)]⟩::⟨some (IsV x),[(4,some 0),(5,some 1),(6,some 2)]⟩::_::[]) rfl ⟨u,y,m⟩ (by kernel_rfl) ⟨ob1 rfl λ _ _ g n=>fu.load rfl wX (up i0 g n.1),ob1 rfl λ _ _ g n=>aR rfl N3 (up j g n.1).ptr,ob1 rfl λ _ _ g n=>aR rfl IQ (up i2 g n.1).ptr,ob1 rfl λH _ g n=>bU rfl Tryz.call39 (by show Calls _ _ #[H.get 4,H.get 5,H.get 6] _ _;rw[show H.get 4=aw b from n.1];exact Hw (C.grow g) n.2.1 n.2.2.1 M),cp 3 rfl rfl,trivial⟩ [⟨3,IsV x⟩] (λP q p=>⟨p.ou 4 3 rfl,trivial⟩) ?_;rintro a k ⟨⟨u,y,m⟩,i3,_⟩;refine wp_ret ?_;exact cZ rfl m u i3
theorem SK{f:K}{c:CC}{b:Nat}{y z j v0:Value}{F:FP}(C:CnO c b y z j F f)(i0:fu b v0 f):Calls Tryz.prog 43 #[v0] f.w (Ret f (IsV (decide (5000<=(c.reg.length:Int))))):=by
 refine Ret.ofC ?_;refine cO Tryz.func43 rfl Tryz.ntmps43 (show 1<=8 by decide) λa k e x m E=>?_;obtain⟨e0,_⟩:=E;replace i0:fu b (a.get 0) k:=by rw[e0,e];exact i0
 have u:Chg noF f k:=by rw[e];exact Chg.refl _ f
 replace C:CnO c b y z j F k:=by rw[e];exact C
 clear e0;refine aK 1 (⟨some (IsV false),[]⟩::[]) rfl ⟨u,x,m⟩ (by kernel_rfl) ⟨ob1 rfl λ _ _ h n=>aQ rfl (aE.2 rfl),trivial⟩ [⟨_,_⟩,⟨0,λ _ k=>CnO c b y z j F k⟩] (λG q p=>⟨p.ke 0 rfl i0,C.grow p.grow,trivial⟩) ?_;clear u x m i0 C;rintro a k ⟨⟨u,x,m⟩,i0,C,_⟩;replace C:CnO c b y z j F k:=C;refine aK 7 (⟨some (Is (aw b)),[(0,none)]⟩::⟨some (Is (aw b)),[(2,some 0)]⟩::⟨some (cw b 3),[(3,some 1)]⟩::⟨some (Is j),[(4,some 2)]⟩::⟨some (IsL c.reg),[(5,some 3)]⟩::⟨some (IsV (decide (5000<=(c.reg.length:Int)))),[(6,some 4)]⟩::_::[]) rfl ⟨u,x,m⟩ (by kernel_rfl) ⟨ob1 rfl λ _ _ g n=>fu.load rfl wX (up i0 g n.1),ob1 rfl λ _ _ g n=>aO rfl ⟨_,n.1⟩ n.1,ob1 rfl λ _ _ g n=>aV rfl oR n.1,ob1 rfl λ _ _ g n=>bV rfl zz n.1 (C.grow g).box rfl,ob1 rfl λH _ g n=>gM rfl rfl Tryz.underlying55 (by rw[show H.eval (.tmp 5)=j from n.1];exact(C.grow g).rg.rd),ob1 rfl λ _ _ g n=>NX rfl n.1 (Gb.cI rfl),cp 5 rfl rfl,trivial⟩ [⟨1,IsV (decide (5000<=(c.reg.length:Int)))⟩] (λG q p=>⟨p.ou 6 1 rfl,trivial⟩) ?_;rintro a k ⟨⟨u,x,m⟩,I,_⟩;refine wp_ret ?_;exact cZ rfl m u I
structure uS (b9:Nat)(hv:Value)(l:List ai)(k:K):Prop where
 bx:Gb.Box b9 (⟨[hv]⟩:dt 1) k
 ow:ah 0 44 l hv k
 nb:¬obF hv b9
theorem uS.keep{e:Nat}{f:Value}{l:List ai}{k j:K}{G:FP}(h:uS e f l k)(g:Chg G k j)(h1:¬G e)(q:bj (obF f) G)(m:∀i,G i->¬k.sh i):uS e f l j:=⟨h.bx.keep g h1 m,h.ow.keep g q m,h.nb⟩
theorem uS.grow{e:Nat}{j:Value}{l:List ai}{k m:K}(h:uS e j l k)(g:bE k m):uS e j l m:=h.keep (Chg.of (F:=noF) g) (λf=>f) (λ _ _ f=>f) (λ _ f=>f.elim)
def NZ(l:List ai)(r:ai):Option Bool:=jV l (λx=>Ey x r)
theorem Td{e:K}{l:List ai}{r:ai}{f g:Value}{x:Bool}(O:ah 0 44 l f e)(E:aS r g e)(G:NZ l r=some x):Calls Tryz.prog 41 #[f, .func (.func 42) #[] #[g]] e.w (Ret e (IsV x)):=by have hF:∀i,obF f i->i<e.w.heap.size:=O.ltF;have u:=tU e (obF f) hF;refine tA (F:=obF f) (hF:=hF) (k41.ok.ok (e.iL (obF f) hF) [f, .func (.func 42) #[] #[g]] (l,λx=>Ey x r) x gok ⟨O.iL u λi hi=> .inr hi,Ag.2 ⟨42,#[],#[g],rfl,Tryz.call42,λj hk y q z H I=>?_⟩⟩ G) λv j h=>Bb h;have h:Calls Tryz.prog 42 #[q,g] j.w (Ret j (IsV z)):=BB (k42.ok.ok j [q,g] (y,r) z gok ⟨H,tg.2 (aW.pers hk (aW.pers u.le E))⟩ I);have J:Calls tb.P 42 #[q,g] j.w (Ret j (IsV z)):=h;simpa using J
def U7(r:ai):Pred:=λv k=>∃u,v= .func (.func 42) #[] #[u]/\aS r u k
instance(r:ai):aW (U7 r):=⟨λh ⟨u,e,f⟩=>⟨u,e,aW.pers h f⟩⟩
theorem TW{y:K}{f:Nat}{z J:Value}{l:List ai}{r:ai}{x:Bool}(A:uS f z l y)(E:aS r J y)(M:NZ l r=some x):Calls Tryz.prog 40 #[aw f,J] y.w (Ret y (IsV x)):=by
 refine Ret.ofC ?_;refine cO Tryz.func40 rfl Tryz.ntmps40 (show 2<=6 by decide) λa k j I F O=>?_;obtain⟨e0,e1,_⟩:=O;have i0:Is (aw f) (a.get 0) k:=e0;replace E:aS r (a.get 1) k:=by rw[e1,j];exact E
 have G:Chg noF y k:=by rw[j];exact Chg.refl _ y
 replace A:uS f z l k:=by rw[j];exact A
 clear e0 e1;refine aK 1 (⟨some (IsV false),[]⟩::[]) rfl ⟨G,I,F⟩ (by kernel_rfl) ⟨ob1 rfl λ _ _ h n=>aQ rfl (aE.2 rfl),trivial⟩ [⟨_,_⟩,⟨_,_⟩,⟨0,λ _ k=>uS f z l k⟩] (λP q p=>⟨p.ke 0 rfl i0,p.ke 1 rfl E,A.grow p.grow,trivial⟩) ?_;clear G I F i0 E A;rintro a k ⟨⟨G,I,F⟩,i0,E,A,_⟩;replace A:uS f z l k:=A;refine aK 4 (⟨some (Is z),[(0,none)]⟩::⟨some (U7 r),[(1,none)]⟩::⟨some (IsV x),[(3,some 0),(4,some 1)]⟩::_::[]) rfl ⟨G,I,F⟩ (by kernel_rfl) ⟨ob1 rfl λm _ g n=>bV (off:=0) rfl N0 (show cw f 0 (m.eval (.tmp 0)) _ from up i0 g n.1) (A.grow g).bx rfl,ob1 rfl λm _ g n=>fq (first:=[]) (captured:=[.tmp 1]) rfl ⟨_,rfl,up E g n.1⟩,ob1 rfl λm _ g n=>bU rfl Tryz.call41 (by show Calls _ _ #[m.get 3,m.get 4] _ _;obtain⟨u,e,Q⟩:=n.2.1;rw[show m.get 3=z from n.1,show m.get 4=_ from e];exact Td (A.grow g).ow Q M),cp 2 rfl rfl,trivial⟩ [⟨2,IsV x⟩] (λP q p=>⟨p.ou 3 2 rfl,trivial⟩) ?_;rintro a k ⟨⟨G,I,F⟩,i2,_⟩;refine wp_ret ?_;exact cZ rfl F G i2
theorem z65:Zero Tryz.prog 65 ((default:cU):cU):=⟨_,Tryz.zeroValue65,λ _=>⟨_,rfl,⟨rfl,rfl,⟨rfl,rfl,rfl⟩⟩⟩⟩
theorem U2:(Tryz.prog.info? 65).map (·.size)=some (Enc.sz cU):=by kernel_rfl
theorem PY{e:K}{v0 f:Value}{t:aP}{l:List ai}{r:cU×Bool}(i0:IsV t v0 e)(g:IsV l f e)(h:lD t l=some r):Calls Tryz.prog 45 #[v0,f] e.w (Ret e (fb (IsV r.1) (IsV r.2))):=RB (T:=tb) (k45.ok.ok e [v0,f] (t,l) r gok ⟨i0,g⟩ h)
def Gx(t:aP)(e:List ai)(r:ai):Option (cU×Bool):=(eb e [r]).bind λl=>lD t l
section
variable {P:Program}{es:List mP}{a0:Act}{k0:K}{F0:FP}{o:Oper}{d:Nat}{need:List (Nat×Option Nat)}{α:Type}[Enc α]
theorem cF{R:Pred}[aW R](m:o.dst=some d)(e:d<a0.tmps.size)(h:∀a k,Chg F0 k0 k->p7 es a0 a k need->aX P o a k R):ObX P es a0 k0 F0 o ⟨dF R,d,need,[]⟩:=⟨wy λh c q=>aW.pers (c.le q) h,λa k G z f g j=>by obtain rfl:=OR j;exact HJ m (by rw[z];exact e) (h a k f g)⟩
theorem QU{x:α}(m:o.dst=some d)(e:d<a0.tmps.size)(h:∀a (k:K),Chg F0 k0 k->p7 es a0 a k need->aX P o a k (gV k.w.heap.size x)):ObX P es a0 k0 F0 o ⟨Cp x,d,need,[]⟩:=⟨inferInstance,λa k G z f g j=>by obtain rfl:=OR j;exact Lf m (by rw[z];exact e) (h a k f g)⟩
theorem LM{t:TypeId}{y:Operand}{x z:α}{j:Nat}{nd:List (Nat×Option Nat)}{cn:List Nat}(m:o.dst=none)(q:o.guard=none)(u:o.op= .store t (.tmp d) y)(w:(P.info? t).map (·.size)=some (Enc.sz α))(E:nth es j=some ⟨Cp x,d,nd,cn⟩)(h:∀a (k:K),Chg F0 k0 k->p7 es a0 a k need->IsV z (a.eval y) k):ObX P es a0 k0 F0 o ⟨Cp z,d,need,[j]⟩:=⟨inferInstance,λa k G F e f g=>G6 m q u w (AD g E) (h a k e f)⟩
theorem Ov{t:TypeId}{p:Operand}{e:TypeId}{x:List α}{u:Value}{j:Nat}{H:Nat}{nd:List (Nat×Option Nat)}{cn:List Nat}(w:o.dst=some d)(f:d<a0.tmps.size)(I:nth es j=some ⟨λF _ k=>F=obF u/\ah 0 e x u k,H,nd,cn⟩)(h:∀a (k:K),Chg F0 k0 k->p7 es a0 a k need->aX P o a k (Is u)):ObX P es a0 k0 F0 o ⟨HU e x,d,need,[j]⟩:=⟨inferInstance,λa k G z g m q next Q J M=>by
 obtain⟨rfl,hO⟩:=AD q I;refine h a k g m next Q J λv O y E=>M v O (obF u) (Chg.of y) (λb h=> .inl h) ⟨?_,?_⟩;.rw[DO w (by rw[z];exact f),show v=u from E]
 .rw[DO w (by rw[z];exact f),show v=u from E];exact aZ.mono y hO⟩
theorem Qh{t e:TypeId}{x y:Nat}{E F H:List α}{j:Nat}{nd:List (Nat×Option Nat)}{cn:List Nat}(I:o.dst=some d)(m:d<a0.tmps.size)(J:o.guard=none)(M:o.op= .call {callee:= .builtin .append,args:=#[.tmp x, .tmp y],argTypes:=#[t,t]}) (O:P.underlying t=some (.slice e)) (Q:dJ P e α) (R:eb E F=some H)(T:nth es j=some ⟨HU e E,x,nd,cn⟩) (h:∀a (k:K),Chg F0 k0 k->p7 es a0 a k need->cM F (a.get y) k):ObX P es a0 k0 F0 o ⟨dF (IsV H),d,need,[j]⟩:=⟨wy λh c U=>aW.pers (c.le U) h,λa k G z q u w=>L3 I (by rw[z];exact m) J M O Q (AD w T) (h a k q u) R⟩
end
theorem SX{k0:K}{O:Nat}{u v0 v2:Value}{t:aP}{l:List ai}{r:ai}{x:cU×Bool}(A:uS O u l k0)(i0:aS t v0 k0)(i2:aS r v2 k0)(R:Gx t l r=some x):Calls Tryz.prog 44 #[v0,aw O,v2] k0.w (cr (obF u) k0 (IsV (!x.2))):=by
 unfold Gx at R;obtain⟨l',T,R⟩:=bind_some R;refine cO Tryz.func44 rfl Tryz.ntmps44 (show 3<=17 by decide) λa k H m I U=>?_;obtain⟨e0,e1,e2,_⟩:=U;replace i0:aS t (a.get 0) k:=by rw[e0,H];exact i0
 have Q:Is (aw O) (a.get 1) k:=e1;replace i2:aS r (a.get 2) k:=by rw[e2,H];exact i2
 have J:Chg (obF u) k0 k:=by rw[H];exact Chg.refl _ k0
 replace A:uS O u l k:=by rw[H];exact A
 have hQ:Gb.LetsOut (bodyPost Tryz.prog Tryz.f44 (cr (obF u) k0 (IsV (!x.2)))):=ch;clear e0 e1 e2;refine aK 1 (⟨some (IsV false),[]⟩::[]) rfl ⟨J,m,I⟩ (by kernel_rfl) ⟨ob1 rfl λ _ _ h n=>aQ rfl (aE.2 rfl),trivial⟩ [⟨_,_⟩,⟨1,Is (aw O)⟩,⟨_,_⟩,⟨0,λ _ k=>uS O u l k⟩] (λb' q p=>⟨p.ke 0 rfl i0,p.ke 1 rfl Q,p.ke 2 rfl i2,A.grow p.grow,trivial⟩) ?_;clear J m I i0 Q i2 A;rintro a0 k ⟨⟨J,m,I⟩,i0,Q,i2,A,_⟩;replace A:uS O u l k:=A;have M:∀i,obF u i->¬k.sh i:=A.ow.jl;refine wp_seq ?_;refine cut (λV W=>Bs (obF u) k0 17 V W/\IsV x.2 (V.get 5) W) ?_ hQ ?_
 .intro Q1 W1 w1;refine Hc (F0:=obF u) [⟨dF (IsV t),7,[(0,none)],[]⟩,⟨HU 44 l,8,[(1,none)],[12]⟩,⟨dF (IsV r),9,[(2,none)],[]⟩,⟨dF (IsV [r]),10,[(9,some 2)],[]⟩,⟨dF (IsV l'),11,[(10,some 3)],[1]⟩,⟨dF (fb (IsV x.1) (IsV x.2)),12,[(7,some 0),(11,some 4)],[]⟩,⟨dF (fb (IsV x.1) (IsV x.2)),6,[(12,some 5)],[]⟩,⟨dF (IsV x.1),13,[(6,some 6)],[]⟩,⟨dF (IsV x.2),14,[(6,some 6)],[]⟩,⟨Cp (default:cU),4,[],[]⟩,⟨Cp x.1,4,[(13,some 7)],[9]⟩,⟨dF (IsV x.2),5,[(14,some 8)],[]⟩,⟨λF _ k=>F=obF u/\ah 0 44 l u k,1,[],[]⟩] lS m (by kernel_rfl) ?_ W1 ⟨λF _ k=>F=obF u/\ah 0 44 l u k,1,[],[]⟩ rfl ⟨λ ⟨e,h⟩c U hn=>⟨e,h.keep c (by rw[<-e];exact U) hn⟩,λ ⟨e,h⟩b hb=>by rw[e]at hb;exact⟨h.ltF b hb,h.jl b hb⟩⟩ ⟨rfl,A.ow⟩ λFs V W p=>?_
  .intro i o e z E;rcases i with _|_|_|_|_|_|_|_|_|_|_|_|i;·obtain rfl:=ae z;obtain rfl:=ae E;exact cF rfl (by rw[m];decide) λa G f n=>aR rfl N3 (aW.pers (f.le M) (show aS t (a.get 0) k by rw[n.1];exact i0)).ptr
   ·obtain rfl:=ae z;obtain rfl:=ae E;exact Ov (t:=0) (p:= .tmp 0) rfl (by rw[m];decide) rfl λa G f n=>bV (off:=0) rfl N0 (show cw O 0 (a.eval (.tmp 1)) G by show a.get 1=_;rw[n.1];exact Q) (A.bx.keep f A.nb M) rfl
   ·obtain rfl:=ae z;obtain rfl:=ae E;exact cF rfl (by rw[m];decide) λa G f n=>aR rfl IQ (aW.pers (f.le M) (show aS r (a.get 2) k by rw[n.1];exact i2)).ptr
   ·obtain rfl:=ae z;obtain rfl:=ae E;exact cF rfl (by rw[m];decide) λa G f n=>by obtain⟨_,_,h1⟩:=n.1;exact dL rfl Tryz.underlying47 LO rfl (by decide) (by decide) ⟨rfl,h1,trivial⟩
   ·obtain rfl:=ae z;obtain rfl:=ae E;exact Qh (x:=8) (y:=10) rfl (by rw[m];decide) rfl rfl Tryz.underlying47 LO T rfl λa G f n=>by obtain⟨_,_,h1⟩:=n.1;exact IsV.rd h1
   ·obtain rfl:=ae z;obtain rfl:=ae E;exact cF rfl (by rw[m];decide) λa G f n=>by obtain⟨_,_,h1⟩:=n.1;obtain⟨_,_,h2⟩:=n.2.1;exact bU rfl Tryz.call45 (PY h1 h2 R)
   ·obtain rfl:=ae z;obtain rfl:=ae E;exact cF rfl (by rw[m];decide) λa G f n=>by obtain⟨_,_,h1⟩:=n.1;exact du rfl h1
   ·obtain rfl:=ae z;obtain rfl:=ae E;exact cF rfl (by rw[m];decide) λa G f n=>by obtain⟨_,_,h1⟩:=n.1;exact vP rfl h1
   ·obtain rfl:=ae z;obtain rfl:=ae E;exact cF rfl (by rw[m];decide) λa G f n=>by obtain⟨_,_,h1⟩:=n.1;exact vG rfl h1
   ·obtain rfl:=ae z;obtain rfl:=ae E;exact QU rfl (by rw[m];decide) λa G f n=>gu _ (aA _) rfl z65
   ·obtain rfl:=ae z;obtain rfl:=ae E;exact LM (j:=9) (x:=(default:cU)) rfl rfl rfl U2 rfl λa G f n=>by obtain⟨_,_,h1⟩:=n.1;exact h1
   ·obtain rfl:=ae z;obtain rfl:=ae E;exact cF rfl (by rw[m];decide) λa G f n=>by obtain⟨_,_,h1⟩:=n.1;exact aQ rfl h1
   .cases z
  ·have h5:=p.out 11 _ rfl rfl;exact w1 _ _ ⟨⟨J.step p.chg (λi hi=> .inl hi),p.size.trans m,p.defers.trans I⟩,h5.2⟩
 clear J m I i0 Q i2 A M;rintro a k ⟨⟨J,m,I⟩,i5⟩;refine aK 3 (_::⟨some (IsV (!x.2)),[(15,some 0)]⟩::_::[]) rfl ⟨J,m,I⟩ (by kernel_rfl) ⟨mu rfl i5,ob1 rfl λ _ _ g n=>pW rfl n.1,cp 1 rfl rfl,trivial⟩ [⟨3,IsV (!x.2)⟩] (λb' q p=>⟨p.ou 2 3 rfl,trivial⟩) ?_;rintro a k ⟨⟨J,m,I⟩,i3,_⟩;refine wp_ret ?_;exact cZ rfl I J i3
theorem Mj:Ty Tryz.prog 113 fD:=⟨⟨_,Tryz.underlying113,rfl⟩,by kernel_rfl⟩
theorem J3:Ty Tryz.prog 80 fD:=⟨⟨_,Tryz.underlying80,rfl⟩,by kernel_rfl⟩
def si(dc:DC)(m:List (ByteArray×Int)):Bool:=m.any λp=>decide (oA dc p.1<p.2)
theorem fY.entries{x:Nat}{m:List (ByteArray×Int)}{k:K}(h:fY x m k):∃g f,k.w.heap[x]?=some (.map g f)/\(∀e∈g.toList,e.born<f)/\(g.toList.map (·.born)).Nodup/\g.toList.map (λe=>(e.key,e.val))=m.map (λp=>(kS p.1,Value.int .i64 p.2)):=by obtain⟨g,f,y,j,q,u⟩:=lN.is h;refine⟨g,f,y,q,u,?_⟩;rw[j,dX];rfl
theorem Tr{T:K}{c:CC}{b u:Nat}{dv pv rv mv v0 v1 v3:Value}{F:FP}{t:aP}{r:ai}{m:List (ByteArray×Int)}(C:CnO c b dv pv rv F T)(i0:aS t v0 T)(i1:aS r v1 T)(B:Gb.Box u (⟨[mv]⟩:dt 1) T)(hap:¬CFP b rv F u)(i3:fu b v3 T)(hr:dN t r=some m):
    Calls Tryz.prog 46 #[v0,v1,aw u,v3] T.w (cr (Eq u) T λv k=>IsV (si c.dc m) v k/\∃y,Gb.Box u (⟨[.map (some y)]⟩:dt 1) k/\fY y m k/\T.w.heap.size<=y):=by
 refine cO Tryz.func46 rfl Tryz.ntmps46 (show 4<=25 by decide) λa k hk0 O I ha=>?_;obtain⟨e0,e1,e2,e3,_⟩:=ha;replace i0:aS t (a.get 0) k:=by rw[e0,hk0];exact i0
 replace i1:aS r (a.get 1) k:=by rw[e1,hk0];exact i1
 have i2:Is (aw u) (a.get 2) k:=e2;replace i3:fu b (a.get 3) k:=by rw[e3,hk0];exact i3
 have H:Chg (Eq u) T k:=by rw[hk0];exact Chg.refl _ T
 replace C:CnO c b dv pv rv F k:=by rw[hk0];exact C
 replace B:Gb.Box u (⟨[mv]⟩:dt 1) k:=by rw[hk0];exact B
 have hQ:Gb.LetsOut (bodyPost Tryz.prog Tryz.f46 (cr (Eq u) T λv k=>IsV (si c.dc m) v k/\∃y,Gb.Box u (⟨[.map (some y)]⟩:dt 1) k/\fY y m k/\T.w.heap.size<=y)):=ch;clear e0 e1 e2 e3;refine aK 1 (⟨some (IsV false),[]⟩::[]) rfl ⟨H,O,I⟩ (by kernel_rfl) ⟨ob1 rfl λ _ _ h n=>aQ rfl (aE.2 rfl),trivial⟩ [⟨_,_⟩,⟨_,_⟩,⟨2,Is (aw u)⟩,⟨_,_⟩,⟨0,λ _ k=>CnO c b dv pv rv F k/\Gb.Box u (⟨[mv]⟩:dt 1) k⟩] (λb' q p=>⟨p.ke 0 rfl i0,p.ke 1 rfl i1,p.ke 2 rfl i2,p.ke 3 rfl i3,⟨C.grow p.grow,B.grow p.grow⟩,trivial⟩) ?_;clear H O I i0 i1 i2 i3 C B;rintro a k ⟨⟨H,O,I⟩,i0,i1,i2,i3,⟨C,B⟩,_⟩;have hgz:=H.size;refine wp_seq ?_;refine cut (λa' U=>∃y,Bs (Eq u) T 25 a' U/\Is (aw u) (a'.get 2) U/\fu b (a'.get 3) U/\CnO c b dv pv rv F U/\Gb.Box u (⟨[.map (some y)]⟩:dt 1) U/\fY y m U/\T.w.heap.size<=y/\¬u=y) ?_ hQ ?_
 .intro Q1 W1 w1;refine gS 2 (⟨some (IsV t),[(0,none)]⟩::⟨some (IsV r),[(1,none)]⟩::[]) O (by kernel_rfl) ⟨ob1 rfl λ _ _ g n=>aR rfl N3 (up i0 g n.1).ptr,ob1 rfl λ _ _ g n=>aR rfl IQ (up i1 g n.1).ptr,trivial⟩ W1 λb1 q p=>?_;have hgq:=H.then p.grow;have hsb:=p.size.trans O;have gq:=hgq.size;have gp:=p.grow.size;have j7:IsV t (b1.get 7) q:=p.ou 0 7 rfl;have j8:IsV r (b1.get 8) q:=p.ou 1 8 rfl;have Bq:=B.grow p.grow;have hbl:=B.lt;refine iH (F:=noF) (R:=λv k=>∃b,v= .map (some b)/\q.w.heap.size<=b/\fY b m k) (i:=2) (d:=9) (f:=47) (as_:=[.tmp 7, .tmp 8]) rfl rfl rfl rfl (by rw[hsb];decide) Tryz.call47 W1 (N8 j7 j8 hr) λb2 q2 V hdf2 P E hres=>?_;obtain⟨y,j9,lbm,M⟩:=hres;have B2:=Bq.keep E (λf=>f) (λ _ f=>f.elim);have C2:=(C.grow p.grow).keep E (λ _ _ f=>f) (λ _ f=>f.elim);have f2:b2.get 2=aw u:=by rw[P 2 (by decide)];exact p.ke 2 rfl i2
  have hns:=B2.jl;have nm:¬u=y:=by omega
  refine jb (i:=3) (off:=0) (w:= .map (some y)) rfl rfl rfl rfl (by kernel_rfl) (by decide) (show cw u 0 (b2.get 2) q2 from f2) B2 j9 rfl λq3 hch3 hz=>?_;refine aj (k:=q3) (w1 _ _ ⟨y,⟨(hgq.step E (λ _ f=>f.elim)).step hch3 (λi h=> .inl h),V.trans hsb,hdf2.trans (p.defers.trans I)⟩,f2,?_,C2.keep hch3 (λi hi e=>hap (e▸hi)) hns,hz,M.keep hch3 nm,by omega,nm⟩);rw[P 3 (by decide)];exact aW.pers (hch3.le hns) (aW.pers (E.le λ _ f=>f.elim) (p.ke 3 rfl i3))
 clear H O I i0 i1 i2 i3 C B;rintro a k ⟨y,⟨H,O,I⟩,i2,i3,C,B,M,lbm,nm⟩;obtain⟨es,z,W,hb1,hb2,hes⟩:=M.entries;have hblt:=M.lt
 have hkeys:∀e∈es.toList,∃p∈m,e.key=kS p.1/\e.val= .int .i64 p.2:=by
  intro e he;have:(e.key,e.val)∈m.map (λp=>(kS p.1,Value.int .i64 p.2)):=by rw[<-hes];exact aM.2 ⟨e,he,rfl⟩
  obtain⟨p,hp,he⟩:=aM.1 this;injection he with h1 h2;exact⟨p,hp,h1.symm,h2.symm⟩
 have hall:∀p∈m,∃e∈es.toList,e.key=kS p.1/\e.val= .int .i64 p.2:=by intro p hp;have h2:(kS p.1,Value.int .i64 p.2)∈m.map (λp=>(kS p.1,Value.int .i64 p.2)):=aM.2 ⟨p,hp,rfl⟩;rw[<-hes]at h2;obtain⟨e,he,h3⟩:=aM.1 h2;injection h3 with h3 h4;exact⟨e,he,h3,h4⟩
 have hk:=H.size;refine wp_seq ?_;refine aK 2 (⟨some (Is (.map (some y))),[(2,none)]⟩::⟨some (zE k.w.heap.size y z),[(10,some 0)]⟩::[]) rfl ⟨H,O,I⟩ (by kernel_rfl) ⟨ob1 rfl λa' _ g n=>bV (off:=0) rfl Mj (show cw u 0 (a'.eval (.tmp 2)) _ from up i2 g n.1) (B.grow g) rfl,ob1 rfl λ _ _ g n=>uF (es:=es) g.size rfl Tryz.underlying113 n.1 (by rw[g.blk y hblt];exact W),trivial⟩ [⟨_,_⟩,⟨11,zE k.w.heap.size y z⟩,⟨0,λ _ k=>CnO c b dv pv rv F k/\Gb.Box u (⟨[.map (some y)]⟩:dt 1) k/\fY y m k/\k.w.heap[y]?=some (.map es z)⟩] (λb' q p=>⟨p.ke 3 rfl i3,p.ou 1 11 rfl,⟨C.grow p.grow,B.grow p.grow,M.grow p.grow,by rw[p.grow.blk y hblt];exact W⟩,trivial⟩) ?_;have hCl:∀i,CFP b rv F i->i<k.w.heap.size:=λi hi=>(C.lt i hi).1;have hBl:u<k.w.heap.size:=B.lt;clear H O I i2 i3 C B M W hes;rintro a k1 ⟨⟨H,O,I⟩,i3,⟨rr,J,lor,It⟩,⟨C,B,M,W⟩,_⟩;refine wp_block ?_;refine pC (τ:=Unit) (if si c.dc m then aY.ret true else aY.ex 0 ()) (λ _ _ _=>False) (λi' _ c_ l=>i'=0/\Bs (Eq u) T 25 c_ l/\Gb.Box u (⟨[.map (some y)]⟩:dt 1) l/\fY y m l) (λr' c_ l=>bodyPost Tryz.prog Tryz.f46 (cr (Eq u) T λv k=>IsV r' v k/\∃y,Gb.Box u (⟨[.map (some y)]⟩:dt 1) k/\fY y m k/\T.w.heap.size<=y) .ret c_ l.w) ?_ hQ ?_ ?_ ?_
 .intro Q1 W1 hgo hex hret;refine sj (λn a k=>∃seen c0,n=(leftOf es seen).toList.length/\Bs (Eq u) T 25 a k/\fu b (a.get 3) k/\Is (.pointer (some ⟨rr,0,none⟩)) (a.get 11) k/\kh rr y z seen c0 k/\z<=c0/\CnO c b dv pv rv F k/\Gb.Box u (⟨[.map (some y)]⟩:dt 1) k/\fY y m k/\k.w.heap[y]?=some (.map es z)/\¬CFP b rv F rr/\¬rr=u/\∀e∈es.toList,e∈(leftOf es seen).toList∨∀p:ByteArray×Int,e.key=kS p.1->e.val= .int .i64 p.2->¬oA c.dc p.1<p.2) ⟨_,#[],z,rfl,⟨H,O,I⟩,i3,J,It,aA _,C,B,M,W,?_,?_,λe he=> .inl (by unfold leftOf;simpa using he)⟩ ?_;.exactλh=>by have:=hCl rr h;omega
  .omega
  have lr:T.w.heap.size<=rr:=by omega
  clear H O I i3 J It C B M W hQ hr lor hCl hBl;rintro n a k ⟨seen,c0,rfl,⟨H,O,I⟩,i3,J,It,hle,C,B,M,W,nC,nB,hcov⟩;have hnr:¬rr=y:=λe=>by subst e;have h:=It.is;rw[W]at h;cases h
  refine wp_seq ?_;refine cut (λa' U=>(IsV false (a'.get 13) U/\(leftOf es seen).toList=[]/\Bs (Eq u) T 25 a' U/\Gb.Box u (⟨[.map (some y)]⟩:dt 1) U/\fY y m U)∨(IsV true (a'.get 13) U/\∃(i:Nat) (hi:i<(leftOf es seen).toList.length),Bs (Eq u) T 25 a' U/\fu b (a'.get 3) U/\Is (.pointer (some ⟨rr,0,none⟩)) (a'.get 11) U/\kh rr y z (seen.push ((leftOf es seen).toList[i]).born) z U/\CnO c b dv pv rv F U/\Gb.Box u (⟨[.map (some y)]⟩:dt 1) U/\fY y m U/\U.w.heap[y]?=some (.map es z))) ?_ trivial ?_
  .intro Q2 W2 w2;refine gS 0 [] O (by kernel_rfl) trivial W2 λb1 q p=>?_;have hgq:=H.then p.grow;have hsb:=p.size.trans O;have hblk:y<k.w.heap.size:=(bO.1 W).1;have hhq:q.w.heap[y]?=some (.map es z):=by rw[p.grow.blk y hblk];exact W
   refine q9 (ty:=0) (i:=0) (d:=12) rfl rfl rfl rfl (by rw[hsb];decide) (show b1.get 11=_ from p.ke 11 rfl J) (It.grow p.grow) hhq hb1 hle (λh0 b2 V hdf2 e12 P=>?_) (λe he b2 q2 V hdf2 e12 P E It2=>?_);·refine bL (i:=1) (d:=13) rfl rfl rfl (by rw[V,hsb];decide) W2 (dV (x:= .tmp 12) rfl (show b2.get 12=_ from e12) rfl) λb3 q3 hsz3 hdf3 hoth3 G h13=>?_;refine aj (k:=q3) (w2 _ _ (.inl ⟨aE.2 h13,?_,⟨hgq.then G,by rw[hsz3,V,hsb],by rw[hdf3,hdf2,p.defers,I]⟩,(B.grow p.grow).grow G,(M.grow p.grow).grow G⟩));exact iA (by rw[iE];exact h0)
   · obtain⟨i,hi,rfl⟩:=br he;have hns:∀c,rr=c->¬q.sh c:=λc e=>e▸(It.grow p.grow).own;have hle2:=E.le hns;have hh2:q2.w.heap[y]?=some (.map es z):=by rw[E.blk y (by have:=p.grow.size;omega) hnr];exact hhq
     refine bL (i:=1) (d:=13) rfl rfl rfl (by rw[V,hsb];decide) W2 (dV (x:= .tmp 12) rfl (show b2.get 12=_ from e12) rfl) λb3 q3 hsz3 hdf3 hoth3 G h13=>?_;have hbl2:y<q2.w.heap.size:=(bO.1 hh2).1;refine aj (k:=q3) (w2 _ _ (.inr ⟨aE.2 h13,i,hi,⟨(hgq.step E (λc e=> .inr (e▸lr))).then G,by rw[hsz3,V,hsb],by rw[hdf3,hdf2,p.defers,I]⟩,?_,?_,It2.grow G,((C.grow p.grow).keep E (λi hi e=>nC (e▸hi)) hns).grow G,((B.grow p.grow).keep E nB hns).grow G,((M.grow p.grow).keep E hnr).grow G,by rw[G.blk y hbl2];exact hh2⟩));.rw[hoth3 3 (by decide),P 3 (by decide)];exact aZ.mono G (aW.pers hle2 (p.ke 3 rfl i3))
     .rw[hoth3 11 (by decide),P 11 (by decide)];exact p.ke 11 rfl J
  clear H O I i3 J It C B M W;rintro a k (⟨i13,hnil,hB,B,M⟩|⟨i13,i,hi,⟨H,O,I⟩,i3,J,It,C,B,M,W⟩)
  · refine wp_seq ?_;refine wp_cond_split (isBool i13) (λhc=>by cases hc) (λ _=>?_);have hno:∀p∈m,¬oA c.dc p.1<p.2:=by
     intro p hp;obtain⟨e,he,h1,h2⟩:=hall p hp;rcases hcov e he with h|h;.rw[hnil]at h;cases h
     .exact h p h1 h2
    refine wp_exit (gw (gw (hex 0 () _ _ (if_neg ?_) ⟨rfl,hB,B,M⟩)));intro h;unfold si at h;obtain⟨p,hp,h⟩:=oe.1 h;exact hno p hp (of_decide_eq_true h)
  .refine wp_seq ?_;refine wp_cond_split (isBool i13) (λ _=>?_) (λhc=>by cases hc);refine wp_skip ?_;refine wp_block ?_;have hfl:∀e∈(leftOf es seen).toList,e∈es.toList:=by intro e he;unfold leftOf at he;rw[pZ]at he;exact(bQ.1 he).1
   have hin:=hfl _ (aN hi);have hpush:=rj es seen i hi hb2
   have hcov2:∀e∈es.toList,e=(leftOf es seen).toList[i]∨e∈((leftOf es seen).toList.eraseIdx i)∨∀p:ByteArray×Int,e.key=kS p.1->e.val= .int .i64 p.2->¬oA c.dc p.1<p.2:=by
    intro e he;rcases hcov e he with h|h
    · obtain⟨j,hj,rfl⟩:=br h;by_cases hij:j=i;.subst hij;exact .inl rfl
      .exact .inr (.inl (List.mem_eraseIdx_iff_getElem.2 ⟨j,hj,hij,rfl⟩))
    .exact .inr (.inr h)
   have hlen:((leftOf es seen).toList.eraseIdx i).length<(leftOf es seen).toList.length:=by rw[rL hi];omega
   generalize(leftOf es seen).toList[i]=e at hin hpush It hcov2;rw[<-hpush]at hlen hcov2;obtain⟨⟨cap,n⟩,hn,hk1,hk2⟩:=hkeys e hin;dsimp only at hk1 hk2;have hblk:y<k.w.heap.size:=(bO.1 W).1;refine aK 5 (⟨some (Is (.tuple #[e.key,e.val])),[(11,none)]⟩::⟨some (IsV cap),[(14,some 0)]⟩::⟨some (IsV n),[(14,some 0)]⟩::_::_::[]) rfl ⟨H,O,I⟩ (by kernel_rfl) ⟨ob1 rfl λa' U g m=>um rfl (show a'.get 11=_ from up J g m.1) (It.grow g) (by rw[g.blk y hblk];exact W) hin hb2,ob1 rfl λa' _ g m=>cu (dV rfl m.1 rfl) λv U _ h=>cY.2 ((show v=e.key from h).trans hk1),ob1 rfl λa' _ g m=>cu (dV rfl m.1 rfl) λv U _ h=>au.2 ((show v=e.val from h).trans hk2),cp 1 rfl rfl,cp 2 rfl rfl,trivial⟩ [⟨_,_⟩,⟨5,IsV cap⟩,⟨6,IsV n⟩,⟨11,Is (.pointer (some ⟨rr,0,none⟩))⟩,⟨0,λ _ q=>kh rr y z (seen.push e.born) z q/\CnO c b dv pv rv F q/\Gb.Box u (⟨[.map (some y)]⟩:dt 1) q/\fY y m q/\q.w.heap[y]?=some (.map es z)⟩] (λb1 q p=>⟨p.ke 3 rfl i3,p.ou 3 5 rfl,p.ou 4 6 rfl,p.ke 11 rfl J,⟨It.grow p.grow,C.grow p.grow,B.grow p.grow,M.grow p.grow,by rw[p.grow.blk y hblk];exact W⟩,trivial⟩) ?_;clear H O I i3 J It C B M W i13 hblk;rintro a k ⟨⟨H,O,I⟩,i3,i5,i6,J,⟨It,C,B,M,W⟩,_⟩;have hblk:y<k.w.heap.size:=(bO.1 W).1;refine aK 8 (_::⟨some (Is (aw b)),[(3,none)]⟩::⟨some (Is (aw b)),[(18,some 1)]⟩::⟨some (cw b 2),[(19,some 2)]⟩::⟨some (Is pv),[(20,some 3)]⟩::_::⟨some (IsV (oA c.dc cap)),[(21,some 4),(22,some 5)]⟩::⟨some (IsV (decide (oA c.dc cap<n))),[(17,some 0),(23,some 6)]⟩::[]) rfl ⟨H,O,I⟩ (by kernel_rfl) ⟨mu rfl i6,ob1 rfl λ _ _ g n=>fu.load rfl wX (up i3 g n.1),ob1 rfl λ _ _ g n=>aO rfl ⟨_,n.1⟩ n.1,ob1 rfl λ _ _ g n=>aV rfl zX n.1,ob1 rfl λ _ _ g n=>bV rfl J3 n.1 (C.grow g).box rfl,mu rfl i5,ob1 rfl λa' _ g n=>bU rfl Tryz.call26 (by show Calls _ _ #[a'.get 21,a'.get 22] _ _;rw[show a'.get 21=pv from n.1];exact FX (C.grow g).dk n.2.1),ob1 rfl λ _ _ g n=>sU rfl n.1 n.2.1,trivial⟩ [⟨_,_⟩,⟨11,Is (.pointer (some ⟨rr,0,none⟩))⟩,⟨24,IsV (decide (oA c.dc cap<n))⟩,⟨0,λ _ q=>kh rr y z (seen.push e.born) z q/\CnO c b dv pv rv F q/\Gb.Box u (⟨[.map (some y)]⟩:dt 1) q/\fY y m q/\q.w.heap[y]?=some (.map es z)⟩] (λb1 q p=>⟨p.ke 3 rfl i3,p.ke 11 rfl J,p.ou 7 24 rfl,⟨It.grow p.grow,C.grow p.grow,B.grow p.grow,M.grow p.grow,by rw[p.grow.blk y hblk];exact W⟩,trivial⟩) ?_;clear H O I i3 i5 i6 J It C B M W hblk;rintro a k ⟨⟨H,O,I⟩,i3,J,i24,⟨It,C,B,M,W⟩,_⟩;refine wp_cond_split (isBool i24) (λhc=>?_) (λhc=>?_);·refine aK 1 (⟨some (IsV true),[]⟩::[]) rfl ⟨H,O,I⟩ (by kernel_rfl) ⟨ob1 rfl λ _ _ h n=>aQ rfl (aE.2 rfl),trivial⟩ [⟨4,IsV true⟩,⟨0,λ _ k=>Gb.Box u (⟨[.map (some y)]⟩:dt 1) k/\fY y m k⟩] (λb q p=>⟨p.ou 0 4 rfl,⟨B.grow p.grow,M.grow p.grow⟩,trivial⟩) ?_;clear H O I B M;rintro a k ⟨⟨H,O,I⟩,i4,⟨B,M⟩,_⟩;refine wp_ret ?_;exact hret true _ _ (if_pos (oe.2 ⟨(cap,n),hn,hc⟩)) (cZ rfl I H (show gg _ _ _ (.tmp 4) (λv k=>IsV true v k/\∃y,Gb.Box u (⟨[.map (some y)]⟩:dt 1) k/\fY y m k/\T.w.heap.size<=y)from⟨i4,y,B,M,lbm⟩))
   · refine wp_skip ?_;refine⟨_,k,rfl,hlen,seen.push e.born,z,rfl,⟨H,O,I⟩,i3,J,It,aA _,C,B,M,W,nC,nB,λe' he'=>?_⟩;rcases hcov2 e' he' with rfl|h|h;·refine .inr λp h1 h2=>?_;rw[hk1]at h1;rw[hk2]at h2;injection h1 with h1;injection h2 with _ h2;rw[<-h1,<-h2];simpa using hc
     .exact .inl h
     .exact .inr h
 · rintro r1 a k h hR;by_cases ha:si c.dc m=true;·rw[if_pos ha]at h;obtain rfl:=aY.ret.inj h;rw[ha];exact hR
   ·rw[if_neg ha]at h;cases h
 ·rintro _ _ _ h _;exact absurd h (by split<;>simp)
 clear H O I i3 J lor It C B M W hb1 hb2 hkeys hall;rintro _ _ a k h ⟨rfl,⟨H,O,I⟩,B,M⟩
 have ha:si c.dc m=false:=by
  cases ha:si c.dc m;.rfl
  .rw[if_pos ha]at h;cases h
 refine aK 1 (⟨some (IsV false),[]⟩::[]) rfl ⟨H,O,I⟩ (by kernel_rfl) ⟨ob1 rfl λ _ _ h n=>aQ rfl (aE.2 rfl),trivial⟩ [⟨4,IsV false⟩,⟨0,λ _ k=>Gb.Box u (⟨[.map (some y)]⟩:dt 1) k/\fY y m k⟩] (λb' q p=>⟨p.ou 0 4 rfl,⟨B.grow p.grow,M.grow p.grow⟩,trivial⟩) ?_;clear H O I B M;rintro a k ⟨⟨H,O,I⟩,i4,⟨B,M⟩,_⟩;refine wp_ret ?_;rw[ha];exact cZ rfl I H (show gg _ _ _ (.tmp 4) (λv k=>IsV false v k/\∃y,Gb.Box u (⟨[.map (some y)]⟩:dt 1) k/\fY y m k/\T.w.heap.size<=y)from⟨i4,y,B,M,lbm⟩)
theorem Qq{q:Type}[Enc q]{b:Nat}{k:K}(h:Gb.Box b ([]:List q) k)(E:xX b 0 fo k):Gb.Box b (⟨[fo]⟩:dt 1) k:=by
 obtain⟨F,f,t,e,G⟩:=h;obtain⟨_,w,I,H,g,j⟩:=E;rw[e]at g;injection g with g;injection g with e1 _ _;subst e1;have y:f.toList.length=1:=Enc.len G;obtain⟨x,m⟩:=pz.1 y;rw[m]at j;have j:x=fo:=by simpa using j
 rw[j]at m;refine⟨F,f,t,e,m,y,?_⟩;rw[m];intro u z;simp at z;rw[z];rfl
structure GrS (k0:K)(c:CC)(cb:Nat)(dv pv rv:Value)(F:FP)(t:aP)(r:ai)(b9:Nat)(hv:Value)(l:List ai)(a:Act)(k:K):Prop where
 bs:Bs (CFP cb rv F) k0 107 a k
 v4:fu cb (a.get 4) k
 v5:aS t (a.get 5) k
 v7:aS r (a.get 7) k
 v9:Is (aw b9) (a.get 9) k
 C:CnO c cb dv pv rv F k
 A:uS b9 hv l k
 l9:k0.w.heap.size<=b9
 lo:Lo k0 (obF hv)ap:bj (CFP cb rv F) (λi=>i=b9∨obF hv i)
section
variable {k0 k k':K}{c:CC}{cb b9:Nat}{dv pv rv hv:Value}{F G:FP}{t:aP}{r:ai}{l:List ai}{a a':Act}
theorem GrS.step(h:GrS k0 c cb dv pv rv F t r b9 hv l a k)(g:Chg G k k')(f:Bs (CFP cb rv F) k0 107 a' k')(e:∀i,G i->¬k.sh i)(h1:bj (CFP cb rv F) G)(j:¬G b9)(m:bj (obF hv) G)(q:a'.get 4=a.get 4)(u:a'.get 5=a.get 5)(w:a'.get 7=a.get 7)(x:a'.get 9=a.get 9):GrS k0 c cb dv pv rv F t r b9 hv l a' k':=⟨f,by rw[q];exact aW.pers (g.le e) h.v4,by rw[u];exact aW.pers (g.le e) h.v5,by rw[w];exact aW.pers (g.le e) h.v7,x.trans h.v9,h.C.keep g h1 e,h.A.keep g j m e,h.l9,h.lo,h.ap⟩
theorem GrS.move(h:GrS k0 c cb dv pv rv F t r b9 hv l a k)(g:bE k k')(e:Bs (CFP cb rv F) k0 107 a' k')(j:a'.get 4=a.get 4)(m:a'.get 5=a.get 5)(q:a'.get 7=a.get 7)(u:a'.get 9=a.get 9):GrS k0 c cb dv pv rv F t r b9 hv l a' k':=h.step (Chg.of (F:=noF) g) e (λ _ f=>f.elim) (λ _ _ f=>f) (λf=>f) (λ _ _ f=>f) j m q u
theorem GrS.handed(h:GrS k0 c cb dv pv rv F t r b9 hv l a k){bx:Nat}(g:Gb.Handed k k' (Eq bx))(f:Bs (CFP cb rv F) k0 107 a k')(h1:¬CFP cb rv F bx)(j:¬bx=b9)(m:¬obF hv bx):GrS k0 c cb dv pv rv F t r b9 hv l a k':=⟨f,aW.pers g.le h.v4,aW.pers g.le h.v5,aW.pers g.le h.v7,h.v9,h.C.handed g (λi hi e=>h1 (e▸hi)),⟨h.A.bx.handed g j,h.A.ow.handed g (λi hi e=>m (e▸hi)),h.A.nb⟩,h.l9,h.lo,h.ap⟩
theorem GrS.lt(h:GrS k0 c cb dv pv rv F t r b9 hv l a k):(∀i,CFP cb rv F i->i<k.w.heap.size)/\b9<k.w.heap.size/\∀i,obF hv i->i<k.w.heap.size:=⟨λi hi=>(h.C.lt i hi).1,h.A.bx.lt,h.A.ow.ltF⟩
end
theorem wH{e g:Type}(f:e->g):∀(l:List e)(i:Nat),(l.eraseIdx i).map f=(l.map f).eraseIdx i|[],_=>rfl|_::_,0=>rfl|_::l,i+1=>by simp[wH f l i]
theorem zk{e:Type}:∀(R:List e)(i:Nat)(hi:i<R.length)(O:List e),((O++[R[i]])++R.eraseIdx i).Perm (O++R)
 |x::R,0,_,O=>by simp;|x::R,i+1,hi,O=>by
  have h:i<R.length:=by simpa using hi
  have:=zk R i h (O++[x]);simp only[yL,List.eraseIdx_cons_succ];refine(List.Perm.trans ?_ this).trans (by simp);rw[dm,dm,dm];refine List.Perm.append_left O ?_;exact List.perm_middle (l₁:=[R[i]])
def qk(f e u:Value)(b9 g:Nat):Nat->Nat×Array Value|0=>(36,#[e,u])|1=>(38,#[f,e,u])|2=>(40,#[aw b9,u])|3=>(43,#[f])|4=>(44,#[e,aw b9,u])|_=>(46,#[e,u,aw g,f])
def ua:Nat->Int|0=>1|1=>27|2=>5|3=>6|4=>21|_=>26
def xJ(c:CC)(t:aP)(e:List ai)(r:ai):Nat->Option Bool|0=>(fm t r).bind λy=>some (!y)|1=>yQ c t r|2=>NZ e r|3=>some (decide (5000<=(c.reg.length:Int)))|4=>(Gx t e r).bind λx=>some (!x.2)|_=>(dN t r).bind λm=>some (si c.dc m)
def xF(u f g:Value)(b9 e:Nat):List (Int×fD):=(List.range 6).map λn=>(ua n,⟨.func (.func (qk u f g b9 e n).1) #[] (qk u f g b9 e n).2⟩)
def xk(k0:K)(e:Nat)(t:aP)(r:ai)(k:K):Prop:=∃m f,dN t r=some m/\Gb.Box e (⟨[.map (some f)]⟩:dt 1) k/\fY f m k/\k0.w.heap.size<=f
def FPt(n:Nat)(hv:Value)(e:Nat):FP:=λi=>(n=4/\obF hv i)∨(n=5/\e=i)
theorem qx{f:FuncId}{q:Array Value}{k:K}{G:FP}{R S:Pred}(h:Calls Tryz.prog f q k.w (Ret k R))(x:∀v k',R v k'->S v k'):Calls Tryz.prog f q k.w (cr G k S):=by refine Calls.mono h λe w m=>?_;cases e with|returned v=>obtain⟨k',h1,y,z⟩:=m;exact⟨k',h1,Chg.of y,x _ _ z⟩;|panicked c=>exact m.elim;|outgrown=>exact m.elim
theorem QI{k:K}{c:CC}{cb b9 f:Nat}{dv pv rv hv M E u z:Value}{F:FP}{t:aP}{r:ai}{j:List ai}{n:Nat}{x:Bool}(O:n<=5)(P:GOk tbg k)(C:CnO c cb dv pv rv F k)(i4:fu cb E k)(i5:aS t u k)(q:aS r z k)(A:n<=4->uS b9 hv j k)(B:Gb.Box f (⟨[M]⟩:dt 1) k)(H:¬CFP cb rv F f)(g:xJ c t j r n=some x):Calls Tryz.prog (qk E u z b9 f n).1 (qk E u z b9 f n).2 k.w (cr (FPt n hv f) k λv k'=>IsV x v k'/\(n=5->xk k f t r k')):=by match n,O with|0,_=>obtain⟨y,I,g⟩:=bind_some g;obtain rfl:=ae g;have h:=k36.ok.ok k [u,z] (t,r) (!y) P ⟨tg.2 i5,tg.2 q⟩ (by show(fm t r).bind _=_;rw[I];rfl);exact qx h λv k' h=>⟨(gQ (T:=tbg) (t:= .bool) (x:=!y)).1 h,λe=>by cases e⟩|1,_=>exact qx (Sf C i4 i5 q g) λv k' h=>⟨h,λe=>by cases e⟩;|2,_=>exact qx (TW (A (by decide)) q g) λv k' h=>⟨h,λe=>by cases e⟩;|3,_=>obtain rfl:=ae g;exact qx (SK C i4) λv k' h=>⟨h,λe=>by cases e⟩|4,_=>obtain⟨y,I,g⟩:=bind_some g;obtain rfl:=ae g;exact iZ (SX (A (by decide)) i5 q I) (λi h=> .inl ⟨rfl,h⟩) λv k' _ h=>⟨h,λe=>by cases e⟩|5,_=>obtain⟨m,J,g⟩:=bind_some g;obtain rfl:=ae g;exact iZ (Tr C i5 q B H i4 J) (λi h=> .inr ⟨rfl,h⟩) λv k' _ ⟨h1,Q,R,U,V⟩=>⟨h1,λ _=>⟨m,Q,J,R,U,V⟩⟩
theorem H7{u f g:Value}{b9 e n:Nat}(h:n<=5):aL (xF u f g b9 e) (n:Int)=some (ua n,⟨.func (.func (qk u f g b9 e n).1) #[] (qk u f g b9 e n).2⟩):=by match n,h with|0,_=>rfl;|1,_=>rfl;|2,_=>rfl;|3,_=>rfl;|4,_=>rfl;|5,_=>rfl
theorem Iv{u f g:Value}{b9 e n:Nat}(h:n<=5):∀args w,(callFunc (qk u f g b9 e n).1 args).run Tryz.prog w= .ok (.enter (qk u f g b9 e n).1 args) w:=by match n,h with|0,_=>exact Tryz.call36;|1,_=>exact Tryz.call38;|2,_=>exact Tryz.call40;|3,_=>exact Tryz.call43;|4,_=>exact Tryz.call44;|5,_=>exact Tryz.call46
theorem Re:Ty Tryz.prog 115 (Int×fD):=⟨⟨_,Tryz.underlying115,rfl⟩,by kernel_rfl⟩
theorem UU:Ty Tryz.prog 45 fD:=⟨⟨_,Tryz.underlying45,rfl⟩,by kernel_rfl⟩
theorem Wy:Ty Tryz.prog 49 Int:=⟨⟨_,Tryz.underlying49,rfl⟩,by kernel_rfl⟩
theorem S8:(Tryz.prog.info? 115).map (·.size)=some (Enc.sz (Int×fD)):=by kernel_rfl
theorem Qa:cT Tryz.prog 115 0 0:=⟨_,_,0,Tryz.underlying115,rfl,rfl,by kernel_rfl⟩
theorem P2:cT Tryz.prog 115 1 1:=⟨_,_,0,Tryz.underlying115,rfl,rfl,by kernel_rfl⟩
theorem KD(y:Int×fD)(e:Addr)(k:K)(h:At y e k):At y.1 (e.add 0) k:=At.fst (At.zero (show At (y.1,y.2) e k from h))
theorem Lm(y:Int×fD)(e:Addr)(k:K)(h:At y e k):At y.2 (e.add 1) k:=At.sE (At.zero (show At (y.1,y.2) e k from h))
theorem V6:∃x:Int×fD,Zero Tryz.prog 115 x:=⟨(0,⟨_⟩),_,Tryz.zeroValue115,λ _=>⟨_,rfl,rfl,rfl,rfl,rfl⟩⟩
theorem FA{P:Program}{o:Oper}{a:Act}{k:K}{t:TypeId}{z:Value}(e:Nat)(h:e<=k.w.heap.size)(f:o.op= .alloc t)(g:∀w,(zeroValue t).run P w= .ok z w)(j:z.cells=#[z])(h1:z.oneCell'=true):aX P o a k (λv k=>∃b,v= .pointer (some ⟨b,0,none⟩)/\e<=b/\Gb.Box b (⟨[z]⟩:dt 1) k):=by have m:Enc.rep k ((#[z]:Array Value)).toList (⟨[z]⟩:dt 1):=⟨rfl,rfl,by intro v hv;simp at hv;rw[hv];exact h1⟩;refine eS (v:= .pointer (some ⟨k.w.heap.size,0,none⟩)) (k':=k.alloc (.cells #[z] t)) ?_ (K.dT k _) ⟨_,rfl,h,xK m⟩;simp only[execOp,f];simp[Instr.alloc,g,newVar,newRow,newObj,j,K.alloc];rfl
theorem Uf:dJ Tryz.prog 115 (Int×fD):=⟨_,_,rfl,rfl,rfl,rfl,by decide,by decide⟩
theorem yP{k:K}{v0 h:Value}{e:Int}{f:Nat}{g:Array Value}(e0:v0= .int .i64 e)(e1:h= .func (.func f) #[] g):∃v,(∀w,(Instr.build 115 #[(0,v0),(1,h)]).run Tryz.prog w= .ok v w)/\IsV ((e,⟨.func (.func f) #[] g⟩):Int×fD) v k:=by
 subst e0 e1;refine⟨.agg #[.int .i64 e, .func (.func f) #[] g],λw=>?_,⟨[.int .i64 e, .func (.func f) #[] g],rfl,?_⟩⟩;·have c1:(Value.int .i64 e).cells=#[.int .i64 e]:=rfl;have c2:(Value.func (.func f) #[] g).cells=#[.func (.func f) #[] g]:=rfl;simp[Instr.build,Instr.fill,jF,c1,c2]
 .exact⟨rfl,rfl,rfl,rfl⟩
def Nz(reg:List aq)(s:List ai×Int):Option (aY (List ai×Int) Unit):=if decide (s.2<(reg.length:Int))then(aL reg s.2).bind λf=>(eb s.1 [f.ai]).bind λl=>(bh s.2 1).bind λj=>some (.go (l,j))else some (.ex 0 s)
def Dg(c:CC)(t:aP)(e:List ai)(r:ai)(n:Int):Option (aY Int Int):=if decide (n<6)then(xJ c t e r n.toNat).bind λb=>if b then some (.ret (ua n.toNat))else(bh n 1).bind λj=>some (.go j)else some (.ex 2 n)
def dE(dc:DC)(m:List (ByteArray×Int)):DC:=m.foldl (λd p=>if 0<p.2 then(tZ d p.1 p.2).1 else d) dc
def wJ(num:Int)(reg:List aq)(s:Int×Int):Option (aY (Int×Int) Unit):=if decide (s.2<(reg.length:Int))then(aL reg s.2).bind λf=>(if f.Counter==num then(bh s.1 1).bind λx=>some x else some s.1).bind λn=>(bh s.2 1).bind λj=>some (.go (n,j))else some (.ex 6 s)
def AL(c:CC)(t:aP)(r:ai):Option (CC×Int):=(dN t r).bind λm=>(ar (wJ c.num c.reg) (c.reg.length+1) (1,0)).bind λf=>match f with| .ex _ s=>(lI r).bind λo=>(K8 {c with dc:=dE c.dc m} ⟨c.num,s.1,o⟩).bind λe=>some (e,0)|_=>none
def wk(c:CC)(t:aP)(g:List ai)(r:ai):Option (CC×Int):=(ll g).bind λh=>(ar (Nz c.reg) (c.reg.length+1) (h,0)).bind λf=>match f with
 | .ex _ s=>(ar (Dg c t s.1 r) 7 0).bind λf2=>match f2 with| .ret e=>some (c,e)| .ex _ _=>AL c t r| .go _=>none
 |_=>none
structure TsS (k0:K)(c:CC)(cb:Nat)(dv pv rv:Value)(F:FP)(t:aP)(r:ai)(b9 b12:Nat)(hv u4 u5 u7:Value)(l:List ai)(n:Nat)(a:Act)(k:K):Prop where
 bs:Bs (CFP cb rv F) k0 107 a k
 s4:Is u4 (a.get 4) k
 s7:Is u7 (a.get 7) k
 s12:Is (aw b12) (a.get 12) k
 v4:fu cb u4 k
 v5:aS t u5 k
 v7:aS r u7 k
 C:CnO c cb dv pv rv F k
 A:n<=4->uS b9 hv l k
 B:∃mv,Gb.Box b12 (⟨[mv]⟩:dt 1) k
 N:n=6->xk k0 b12 t r k
section
variable {k0 k k':K}{c:CC}{cb b9 b12:Nat}{dv pv rv hv u4 u5 u7:Value}{F G:FP}{t:aP}{r:ai}{l:List ai}{a a':Act}{n:Nat}
theorem xk.keep(h:xk k0 b12 t r k)(g:Chg G k k')(h1:¬G b12)(q:∀i,G i->k0.w.heap.size<=i->False)(u:∀i,G i->¬k.sh i):xk k0 b12 t r k':=let⟨m,f,e,B,M,j⟩:=h;⟨m,f,e,B.keep g h1 u,M.keep g (λh=>q f h j),j⟩
theorem xk.grow(h:xk k0 b12 t r k)(g:bE k k'):xk k0 b12 t r k':=h.keep (Chg.of (F:=noF) g) (λf=>f) (λ _ f=>f.elim) (λ _ f=>f.elim)
theorem TsS.move(h:TsS k0 c cb dv pv rv F t r b9 b12 hv u4 u5 u7 l n a k)(g:bE k k')(j:Bs (CFP cb rv F) k0 107 a' k')(m:a'.get 4=a.get 4)(q:a'.get 7=a.get 7)(e:a'.get 12=a.get 12):TsS k0 c cb dv pv rv F t r b9 b12 hv u4 u5 u7 l n a' k':=⟨j,m.trans h.s4,q.trans h.s7,e.trans h.s12,aW.pers g.le h.v4,aW.pers g.le h.v5,aW.pers g.le h.v7,h.C.grow g,λf=>(h.A f).grow g,let⟨u,B⟩:=h.B;⟨u,B.grow g⟩,λf=>(h.N f).grow g⟩
end
theorem XI{l:List Value}(h:l.length=7):∃a b c d e f g,l=[a,b,c,d,e,f,g]:=by match l,h with|[a,b,c,d,e,f,g],_=>exact⟨a,b,c,d,e,f,g,rfl⟩
theorem FO{k:K}{v0 y v2:Value}{x0:Int}{x1:Int}{z:ai}(E:IsV x0 v0 k)(h1:IsV x1 y k)(H:IsV z v2 k):∃v,(∀w,(Instr.build 54 #[(0,v0),(1,y),(2,v2)]).run Tryz.prog w= .ok v w)/\IsV (⟨x0,x1,z⟩:aq) v k:=by obtain⟨Q,e0,I,J⟩:=eK E;obtain⟨u,rfl⟩:=I7 J;obtain⟨R,e1,M,n1⟩:=eK h1;obtain⟨e,rfl⟩:=I7 n1;obtain⟨T,O,P,n2⟩:=eK H;obtain⟨f,g,h,j,m,q,x,rfl⟩:=XI n2;refine⟨.agg #[u,e,f,g,h,j,m,q,x],λw=>?_,[u,e,f,g,h,j,m,q,x],rfl,⟨rfl,I,⟨rfl,M,P⟩⟩⟩;simp[Instr.build,Instr.fill,jF,e0,e1,O]
def GrP(k0:K)(cb:Nat)(dv pv rv:Value)(F:FP)(g:CC)(k:K):Prop:=∃e f,CnO g cb dv pv e f k/\(∀i,f i->F i∨k0.w.heap.size<=i)/\∀i,obF e i->obF rv i∨k0.w.heap.size<=i
theorem R3{k0:K}{v0:Value}{x r:ai}(i0:IsV x v0 k0)(e:lI x=some r):Calls Tryz.prog 49 #[v0] k0.w (Ret k0 (IsV r)):=tB (k49.ok.ok k0 [v0] x r gok i0 e) λv k' h=>(gQ (T:=tb) (t:= .st 29) (x:=r)).1 h
def QD(g:Option aG)(n:Int):Option aG:=if 1<=n/\n<=1099511627776 then match g with|none=>none|some x=>if x.Held-x.Used<n then none else some {x with Used:=x.Used+n}else none
def KR(c:DC)(k:ByteArray):Option aG->DC|none=>c|some y=>{c with L:=s6 c.L k y}
theorem Aa(c:DC)(k:ByteArray)(n:Int):(tZ c k n).1=KR c k (QD (jT c.L k) n):=by
 unfold tZ QD;split;.cases jT c.L k with|none=>rfl;|some x=>dsimp only;split<;>rfl
 .rfl
theorem xR{L:List aG}{k:ByteArray}{n:Int}{y:aG}(h:QD (jT L k) n=some y):y.Cap=k:=by
  unfold QD at h;split at h;.cases g:jT L k with|none=>rw[g]at h;cases h;|some x=>
 rw[g]at h;dsimp only at h;split at h;.cases h
 · obtain rfl:=ae h;exact(mq g).2
  .cases h
theorem CQ{c:DC}{k j:ByteArray}{o:Option aG}(m:∀y,o=some y->y.Cap=k)(f:¬j=k):jT (KR c k o).L j=jT c.L j:=by cases o with|none=>rfl;|some y=>have q:=m y rfl;show jT (s6 c.L k y) j=jT c.L j;induction c.L with|nil=>rfl;|cons x l g=>
 show jT ((if x.Cap=k then y else x)::s6 l k y) j=_;by_cases h:x.Cap=k;·rw[if_pos h];unfold jT;rw[if_neg (by rw[q];exactλe=>f e.symm),if_neg (by rw[h];exactλe=>f e.symm)];exact g
 ·rw[if_neg h];unfold jT;rw[g]
theorem LP{c:DC}{k j:ByteArray}{o p:Option aG}(g:∀y,o=some y->y.Cap=k)(m:∀y,p=some y->y.Cap=j)(f:¬j=k):KR (KR c k o) j p=KR (KR c j p) k o:=by cases o with|none=>rfl;|some y=>cases p with|none=>rfl;|some z=>
 have q:=g y rfl;have u:=m z rfl;show({c with L:=s6 (s6 c.L k y) j z}:DC)={c with L:=s6 (s6 c.L j z) k y};congr 1;unfold s6;rw[dX,dX];refine nH λx _=>?_;simp only[Function.comp];by_cases h1:x.Cap=k;·have h:¬x.Cap=j:=λe=>f (e.symm.trans h1);rw[if_pos h1,if_neg h,if_pos h1,if_neg (by rw[q];exactλe=>f e.symm)]
 · by_cases h:x.Cap=j;.rw[if_neg h1,if_pos h,if_neg (by rw[u];exact f)]
   .rw[if_neg h1,if_neg h,if_neg h1]
theorem OS{c:DC}{k j:ByteArray}{n m:Int}(f:¬j=k):(tZ (tZ c k n).1 j m).1=(tZ (tZ c j m).1 k n).1:=by have hk:¬k=j:=λe=>f e.symm;rw[Aa,Aa c k,Aa,Aa c j];rw[CQ (λy h=>xR h) f,CQ (λy h=>xR h) hk];exact LP (λy h=>xR h) (λy h=>xR h) f
theorem Gg{dc:DC}{O m:List (ByteArray×Int)}(h:O.Perm m)(j:(m.map (·.1)).Nodup):dE dc O=dE dc m:=by
 unfold dE;induction h generalizing dc with|nil=>rfl;|cons x _ E=>exact E (gv.1 j).2;|swap x y l=>
 simp only[iw];have q:¬x.1=y.1:=by simp only[cf,gv,bD,not_or]at j;exact j.1.1
 congr 1;by_cases f:0<x.2
 · by_cases e:0<y.2;·rw[if_pos f,if_pos e,if_pos e,if_pos f];exact OS q
   .rw[if_pos f,if_neg e,if_neg e,if_pos f]
 · by_cases e:0<y.2;.rw[if_neg f,if_pos e,if_pos e,if_neg f]
   .rw[if_neg f,if_neg e,if_neg e,if_neg f]|trans h1 H u w=>exact(u ((H.map _).nodup_iff.2 j)).trans (w j)
theorem xu{c:Cap}{eT:List Int}:∀(f:Nat)(s:List (ByteArray×Int)×Int),(s.1.map (·.1)).Nodup->∀i u,ar (oW c eT) f s=some (.ex i u)->(u.1.map (·.1)).Nodup|0,_,_,_,_,h=>by cases h;|n+1,s,j,i,u,h=>by rw[ar]at h;cases e:oW c eT s with|none=>rw[e]at h;cases h;|some g=>
 rw[e]at h;unfold oW at e;split at e;·obtain⟨_,_,e⟩:=bind_some e;obtain⟨_,_,e⟩:=bind_some e;obtain⟨_,_,e⟩:=bind_some e;obtain rfl:=ae e;exact xu n _ (yJ _ _ _ j) i u h
 ·obtain rfl:=ae e;have h:=ae h;injection h with _ h;rw[<-h];exact j
theorem qB{σ ρ:Type}{b:σ->Option (aY σ ρ)}(h:∀s r,b s≠some (.ret r)):∀n s r,ar b n s≠some (.ret r)|0,_,_=>by simp[ar];|n+1,s,r=>by rw[ar];cases hb:b s with|none=>simp;|some f=>cases f with|go s'=>simpa using qB h n s' r;|ex i s'=>simp;|ret r'=>exact absurd hb (h s r')
theorem wV{c:Cap}{eT:List Int}{s:List (ByteArray×Int)×Int}{r:List (ByteArray×Int)}:oW c eT s≠some (.ret r):=λh=>by
 unfold oW at h;split at h;·obtain⟨_,_,h⟩:=bind_some h;obtain⟨_,_,h⟩:=bind_some h;obtain⟨_,_,h⟩:=bind_some h;simp at h
 .simp at h
theorem EZ{t:aP}{x:ai}{s:List (ByteArray×Int)×Int}{r:List (ByteArray×Int)}:oV t x s≠some (.ret r):=λh=>by
 unfold oV at h;split at h;·obtain⟨_,_,h⟩:=bind_some h;obtain⟨_,_,h⟩:=bind_some h;obtain⟨f,hf,h⟩:=bind_some h;cases f with|go _=>simp at h;|ret _=>exact qB (λ _ _=>wV) _ _ _ hf;|ex i u=>obtain⟨_,_,h⟩:=bind_some h;simp at h
 .simp at h
theorem xm{t:aP}{r:ai}:∀(fuel:Nat)(s:List (ByteArray×Int)×Int),(s.1.map (·.1)).Nodup->∀i u,ar (oV t r) fuel s=some (.ex i u)->(u.1.map (·.1)).Nodup|0,_,_,_,_,h=>by cases h;|n+1,s,hs,i,u,h=>by rw[ar]at h;cases hb:oV t r s with|none=>rw[hb]at h;cases h;|some g=>
 rw[hb]at h;unfold oV at hb;split at hb;·obtain⟨_,_,hb⟩:=bind_some hb;obtain⟨_,_,hb⟩:=bind_some hb;obtain⟨f,hf,hb⟩:=bind_some hb;cases f with|go _=>simp at hb;|ret _=>exact absurd hf (qB (λ _ _=>wV) _ _ _);|ex i2 u2=>obtain⟨j,_,hb⟩:=bind_some hb;obtain rfl:=ae hb;exact xm n (u2.1,j) (xu _ (s.1,0) hs i2 u2 hf) i u h
 ·obtain rfl:=ae hb;have h:=ae h;injection h with _ h;rw[<-h];exact hs
theorem uE{t:aP}{r:ai}{m:List (ByteArray×Int)}(h:dN t r=some m):(m.map (·.1)).Nodup:=by unfold dN at h;obtain⟨f,hf,h⟩:=bind_some h;cases f with|go _=>cases h;|ret _=>exact absurd hf (qB (λ _ _=>EZ) _ _ _);|ex i u=>obtain rfl:=ae h;exact xm _ ([],0) List.nodup_nil _ _ hf
theorem NY{k0:K}{c:CC}{cb:Nat}{dv pv rv v1 v2 v3:Value}{F:FP}{t:aP}{rights:List ai}{r:ai}{q:CC×Int}(hG:GOk tbg k0)(C:CnO c cb dv pv rv F k0)(i1:IsV t v1 k0)(i2:IsV rights v2 k0)(i3:IsV r v3 k0)(H:wk c t rights r=some q):
    Calls Tryz.prog 10 #[aw cb,v1,v2,v3] k0.w (cr (CFP cb rv F) k0 λv k=>IsV q.2 v k/\GrP k0 cb dv pv rv F q.1 k):=by
 unfold wk at H;refine cO Tryz.func10 rfl Tryz.ntmps10 (show 4<=107 by decide) λa k hk0 I P ha=>?_;obtain⟨e0,e1,e2,e3,_⟩:=ha;have i0:Is (aw cb) (a.get 0) k:=e0;replace i1:IsV t (a.get 1) k:=by rw[e1,hk0];exact i1
 replace i2:IsV rights (a.get 2) k:=by rw[e2,hk0];exact i2
 replace i3:IsV r (a.get 3) k:=by rw[e3,hk0];exact i3
 have J:Chg (CFP cb rv F) k0 k:=by rw[hk0];exact Chg.refl _ k0
 have C0:=C;replace C:CnO c cb dv pv rv F k:=by rw[hk0];exact C
 have hQ:Gb.LetsOut (bodyPost Tryz.prog Tryz.f10 (cr (CFP cb rv F) k0 λv k=>IsV q.2 v k/\GrP k0 cb dv pv rv F q.1 k)):=ch;clear e0 e1 e2 e3;refine aK 4 (⟨some (fu cb),[(0,none)]⟩::⟨some (aS t),[(1,none)]⟩::⟨some (aS r),[(3,none)]⟩::⟨some (IsI 0),[]⟩::[]) rfl ⟨J,I,P⟩ (by kernel_rfl) ⟨ob1 rfl λa' _ g n=>o7 (x:=fD.mk (aw cb)) rfl (by rw[show a'.eval (.tmp 0)=aw cb from up i0 g n.1];exact AE rfl),ob1 rfl λ _ _ g n=>o7 rfl (up i1 g n.1),ob1 rfl λ _ _ g n=>o7 rfl (up i3 g n.1),aI rfl rfl,trivial⟩ [⟨4,fu cb⟩,⟨5,aS t⟩,⟨7,aS r⟩,⟨2,IsV rights⟩,⟨0,λ _ k=>CnO c cb dv pv rv F k⟩] (λb q p=>⟨p.ou 0 4 rfl,p.ou 1 5 rfl,p.ou 2 7 rfl,p.ke 2 rfl i2,C.grow p.grow,trivial⟩) ?_;clear J I P i0 i1 i2 i3 C;rintro a k ⟨⟨J,I,P⟩,i4,i5,i7,i2,C,_⟩;replace C:CnO c cb dv pv rv F k:=C;obtain⟨l0,hl0,H⟩:=bind_some H;refine wp_seq ?_;refine cut (λa' k'=>∃b9 hv,GrS k0 c cb dv pv rv F t r b9 hv l0 a' k') ?_ hQ ?_
 .intro Q1 W1 w1;refine gS 2 (_::⟨some (ah k.w.heap.size 44 l0),[(20,some 0)]⟩::[]) I (by kernel_rfl) ⟨mu rfl i2,ob1 rfl λ _ _ g n=>cu (bU rfl Tryz.call35 (sS n.1 hl0)) λv k' _ h=>h.weaken g.size,trivial⟩ W1 λb q p=>?_;have hgq:=J.then p.grow;have hsb:=p.size.trans I;have gs:=J.size;have gp:=p.grow.size;have hlt:=C.lt;have j21:ah k.w.heap.size 44 l0 (b.get 21) q:=p.ou 1 21 rfl;refine bL (i:=2) (d:=9) (R:=Be ai q.w.heap.size) rfl rfl rfl (by rw[hsb];decide) W1 (zD _ (aA _) rfl Tryz.zeroValue47) λb2 q2 U W z hgr2 h9=>?_;obtain⟨b9,j9,x9,z9,h9⟩:=h9;have r9:=Qq z9 h9;have f21:b2.get 21=b.get 21:=z 21 (by decide);have l21:∀i,obF (b.get 21) i->k.w.heap.size<=i/\i<q.w.heap.size:=λi hi=>⟨(j21.lt i hi).1,(j21.lt i hi).2.1⟩;replace j21:ah k.w.heap.size 44 l0 (b.get 21) q2:=aZ.mono hgr2 j21;have T:∀i,b9=i->¬q2.sh i:=λi e=>e▸r9.own;have n9:¬obF (b.get 21) b9:=λh=>by have:=(l21 b9 h).2;omega
  have C2:=(C.grow p.grow).grow hgr2;refine jb (i:=3) (off:=0) (w:=b.get 21) rfl rfl rfl rfl (by kernel_rfl) (by decide) (show cw b9 0 (b2.get 9) q2 from j9) r9 f21 (sJ j21) λq3 hch hz=>?_;have hle:=hch.le T;refine aj (k:=q3) (w1 _ _ ⟨b9,b.get 21,⟨(hgq.then hgr2).step hch (λi e=> .inr (by subst e;omega)),U.trans hsb,W.trans (p.defers.trans P)⟩,?_,?_,?_,j9,C2.keep hch (λi hi e=>by have:=(hlt i hi).1;subst e;omega) T,⟨hz,(j21.weaken (bY _)).keep hch (λi hi e=>n9 (e▸hi)) T,n9⟩,by omega,λi hi=>by have:=(l21 i hi).1;omega,?_⟩);.rw[z 4 (by decide)];exact aW.pers hle (aZ.mono hgr2 (p.ke 4 rfl i4))
  .rw[z 5 (by decide)];exact aW.pers hle (aZ.mono hgr2 (p.ke 5 rfl i5))
  .rw[z 7 (by decide)];exact aW.pers hle (aZ.mono hgr2 (p.ke 7 rfl i7))
  · rintro i hi (rfl|h);.have:=(hlt i hi).1;omega
    .have:=(hlt i hi).1;have:=(l21 i h).1;omega
 clear J I P i4 i5 i7 i2 C;rintro a k ⟨b9,hv,S⟩;obtain⟨f1,hf1,H⟩:=bind_some H;refine wp_seq ?_;refine wp_seq ?_;refine cut (λa' k'=>GrS k0 c cb dv pv rv F t r b9 hv l0 a' k'/\Is rv (a'.get 25) k'/\IsL c.reg (a'.get 26) k'/\IsV (0:Int) (a'.get 27) k') ?_ hQ ?_;·intro Q1 W1 w1;have i4:=S.v4;refine gS 6 (⟨some (Is (aw cb)),[(4,none)]⟩::⟨some (Is (aw cb)),[(22,some 0)]⟩::⟨some (cw cb 3),[(23,some 1)]⟩::⟨some (Is rv),[(24,some 2)]⟩::⟨some (IsL c.reg),[(25,some 3)]⟩::⟨some (IsI 0),[]⟩::[]) S.bs.s (by kernel_rfl) ⟨ob1 rfl λ _ _ g n=>fu.load rfl wX (up i4 g n.1),ob1 rfl λ _ _ g n=>aO rfl ⟨_,n.1⟩ n.1,ob1 rfl λ _ _ g n=>aV rfl oR n.1,ob1 rfl λ _ _ g n=>bV rfl zz n.1 (S.C.grow g).box rfl,ob1 rfl λa' _ g n=>gM rfl rfl Tryz.underlying55 (by rw[show a'.eval (.tmp 25)=rv from n.1];exact(S.C.grow g).rg.rd),ob1 rfl λ _ _ h n=>du rfl (Gb.cI rfl),trivial⟩ W1 λb q p=>?_;exact aj (k:=q) (w1 _ _ ⟨S.move p.grow (Bs.post S.bs p) (p.old 4 rfl) (p.old 5 rfl) (p.old 7 rfl) (p.old 9 rfl),p.ou 3 25 rfl,p.ou 4 26 rfl,p.ou 5 27 rfl⟩)
 clear S;rintro a k ⟨S,i25,i26,i27⟩;refine wp_block ?_;refine pC f1 (λs' c_ l_=>∃hv,GrS k0 c cb dv pv rv F t r b9 hv s'.1 c_ l_/\Is rv (c_.get 25) l_/\IsL c.reg (c_.get 26) l_/\IsV s'.2 (c_.get 27) l_) (λi' s' c_ l_=>i'=0/\∃hv,GrS k0 c cb dv pv rv F t r b9 hv s'.1 c_ l_) (λ _ _ _=>False) ?_ hQ ?_ ?_ ?_
 .intro Q1 W1 hgo hex hret;refine gj ?_ _ _ _ _ _ hf1 ⟨hv,S,i25,i26,i27⟩ Q1 W1 hgo hex hret;clear H hf1 hgo hex hret W1 hQ S i25 i26 i27;intro s1 fl_ a k H hS Q hQ hgo hex hret;obtain⟨hv,S,i25,i26,i27⟩:=hS;unfold Nz at H;refine wp_seq ?_;refine cut (λa' k'=>GrS k0 c cb dv pv rv F t r b9 hv s1.1 a' k'/\Is rv (a'.get 25) k'/\IsL c.reg (a'.get 26) k'/\IsV s1.2 (a'.get 27) k'/\IsV (decide (s1.2<(c.reg.length:Int))) (a'.get 28) k') ?_ hQ ?_;·intro Q2 W2 w2;refine gS 1 (_::[]) S.bs.s (by kernel_rfl) ⟨o1 [(27,none),(26,none)] rfl λ _ _ h n=>jY rfl (up i27 h n.1) (up i26 h n.2.1),trivial⟩ W2 λb q p=>?_;exact aj (k:=q) (w2 _ _ ⟨S.move p.grow (Bs.post S.bs p) (p.old 4 rfl) (p.old 5 rfl) (p.old 7 rfl) (p.old 9 rfl),p.ke 25 rfl i25,p.ke 26 rfl i26,p.ke 27 rfl i27,p.ou 0 28 rfl⟩)
  clear S i25 i26 i27;rintro a k ⟨S,i25,i26,i27,i28⟩;refine wp_seq ?_;refine wp_cond_split (isBool i28) (λhc=>?_) (λhc=>?_);rotate_left;·rw[if_neg (by rw[hc];decide)]at H;refine wp_exit ?_;exact hex _ _ _ _ (ae H).symm ⟨rfl,hv,S⟩
  rw[if_pos hc]at H;refine wp_skip ?_;obtain⟨f,hf,H⟩:=bind_some H;obtain⟨l,hl,H⟩:=bind_some H;obtain⟨j,hj,H⟩:=bind_some H;refine wp_seq ?_;refine wp_block ?_;refine wp_seq ?_;refine cut (λa' k'=>GrS k0 c cb dv pv rv F t r b9 hv s1.1 a' k'/\aS f (a'.get 11) k'/\Is rv (a'.get 25) k'/\IsL c.reg (a'.get 26) k'/\IsV s1.2 (a'.get 27) k') ?_ hQ ?_;.intro Q2 W2 w2;refine gS 3 (⟨some (eE f),[(25,none),(27,none)]⟩::⟨some (IsV f),[(29,some 0)]⟩::⟨some (gV k.w.heap.size (⟨0,0,(⟨0,0,(⟨0,[]⟩:ax),0,0,false⟩:ai)⟩:aq)),[]⟩::[]) S.bs.s (by kernel_rfl) ⟨ob1 rfl λa' _ g n=>dj rfl Tryz.underlying55 E5 (by rw[show a'.eval (.tmp 25)=rv from up i25 g n.1];exact(S.C.grow g).rg.rd) (up i27 g n.2.1) hf,ob1 rfl λ _ _ g n=>aR rfl E5 n.1,ob1 rfl λ _ _ h n=>gu _ h.size rfl z54,trivial⟩ W2 λb q p=>?_;have gs:=S.bs.g.size;obtain⟨b11,j11,x11,z11⟩:(gV k.w.heap.size (⟨0,0,(⟨0,0,(⟨0,[]⟩:ax),0,0,false⟩:ai)⟩:aq)) (b.get 11) q:=p.ou 2 11 rfl;have j30:IsV f (b.get 30) q:=p.ou 1 30 rfl;obtain⟨hl1,hl2,hl3⟩:=S.lt;have Sq:GrS k0 c cb dv pv rv F t r b9 hv s1.1 b q:=S.move p.grow (Bs.post S.bs p) (p.old 4 rfl) (p.old 5 rfl) (p.old 7 rfl) (p.old 9 rfl);have T:=z11.jl;have y11:Wr (CFP cb rv F) k0 (Eq b11):=λi e=> .inr (by subst e;omega);refine cG (i:=3) rfl rfl rfl rfl Ni (Upd.self (α:=aq)) j11 z11 j30 λq2 hch hz=>?_;have hle:=hch.le T;have B2:Bs (CFP cb rv F) k0 107 b q2:=⟨Sq.bs.g.step hch y11,Sq.bs.s,Sq.bs.d⟩;have S2:=Sq.step hch B2 T (λi hi e=>by have:=hl1 i hi;subst e;omega) (by omega) (λi hi e=>by have:=hl3 i hi;subst e;omega) rfl rfl rfl rfl;obtain⟨q3,hsh,jn⟩:=hz.gz;rw[<-hsh.w];rw[<-j11]at jn;have S3:=S2.handed hsh ⟨B2.g.hand hsh y11,B2.s,B2.d⟩ (λh=>by have:=hl1 b11 h;omega) (by omega) (λh=>by have:=hl3 b11 h;omega);exact aj (k:=q3) (w2 _ _ ⟨S3,jn,p.ke 25 rfl i25,aW.pers hsh.le (aW.pers hle (p.ke 26 rfl i26)),aW.pers hsh.le (aW.pers hle (p.ke 27 rfl i27))⟩)
  clear S i25 i26 i27 i28 hc hf;rintro a k ⟨S,i11,i25,i26,i27⟩;refine cut (λa' k'=>∃hv,GrS k0 c cb dv pv rv F t r b9 hv l a' k'/\Is rv (a'.get 25) k'/\IsL c.reg (a'.get 26) k'/\IsV s1.2 (a'.get 27) k') ?_ hQ ?_
  .intro Q2 W2 w2;have i9:=S.v9;refine gS 4 (⟨some (Is hv),[(9,none)]⟩::⟨some (eE f.ai),[(11,none)]⟩::⟨some (IsV f.ai),[(32,some 1)]⟩::⟨some (IsV [f.ai]),[(33,some 2)]⟩::[]) S.bs.s (by kernel_rfl) ⟨ob1 rfl λa' _ g n=>bV (off:=0) rfl N0 (show cw b9 0 (a'.eval (.tmp 9)) _ from up i9 g n.1) (S.A.grow g).bx rfl,ob1 rfl λ _ _ g n=>bF rfl Sj (FC _) (up i11 g n.1).ptr,ob1 rfl λ _ _ g n=>aR rfl IQ n.1,ob1 rfl λ _ _ g n=>dL rfl Tryz.underlying47 LO rfl (by decide) (by decide) ⟨rfl,n.1,trivial⟩,trivial⟩ W2 λb q p=>?_;have Sq:GrS k0 c cb dv pv rv F t r b9 hv s1.1 b q:=S.move p.grow (Bs.post S.bs p) (p.old 4 rfl) (p.old 5 rfl) (p.old 7 rfl) (p.old 9 rfl);have hsb:=Sq.bs.s;have gq:=Sq.bs.g.size;have j31:b.get 31=hv:=p.ou 0 31 rfl;have j34:IsV [f.ai] (b.get 34) q:=p.ou 3 34 rfl;obtain⟨hl1,hl2,hl3⟩:=Sq.lt;refine fZ (i:=4) (d:=35) (x:= .tmp 31) (y:= .tmp 34) rfl rfl rfl rfl (by rw[hsb];decide) Tryz.underlying47 LO (by show ah 0 44 s1.1 (b.get 31) q;rw[j31];exact Sq.A.ow) (IsV.rd j34) hl λb2 q2 U W z E j35 hob=>?_;replace E:Chg (obF (b.get 31)) q q2:=E;replace hob:∀i,obF (b2.get 35) i->obF (b.get 31) i∨q.w.heap.size<=i:=hob;rw[j31]at E hob;have hns2:=Sq.A.ow.jl;have bx2:=Sq.A.bx.keep E Sq.A.nb hns2;have C2:=Sq.C.keep E (λi hi h=>Sq.ap i hi (.inr h)) hns2;have hns3:=bx2.jl;have n35:¬obF (b2.get 35) b9:=λh=>(hob b9 h).elim Sq.A.nb (λh=>by omega);refine jb (i:=5) (off:=0) (w:=b2.get 35) rfl rfl rfl rfl (by kernel_rfl) (by decide) (show cw b9 0 (b2.get 9) q2 by rw[z 9 (by decide)];exact Sq.v9) bx2 rfl (sJ j35) λq3 hch3 hz=>?_;have hle2:=E.le hns2;have hle3:=hch3.le hns3;have kp:∀{R:Pred} [aW R] {n:Nat},n≠35->R (b.get n) q->R (b2.get n) q3:=λ {R} _ {n}hn h=>by rw[z n hn];exact aW.pers hle3 (aW.pers hle2 h)
   refine aj (k:=q3) (w2 _ _ ⟨b2.get 35,⟨⟨(Sq.bs.g.step E (λi hi=> .inr (Sq.lo i hi))).step hch3 (λi e=> .inr (e▸Sq.l9)),U.trans hsb,W.trans Sq.bs.d⟩,kp (by decide) Sq.v4,kp (by decide) Sq.v5,kp (by decide) Sq.v7,(z 9 (by decide)).trans Sq.v9,C2.keep hch3 (λi hi e=>Sq.ap i hi (.inl e.symm)) hns3,⟨hz,j35.keep hch3 (λi hi e=>n35 (e▸hi)) hns3,n35⟩,Sq.l9,λi hi=>(hob i hi).elim (Sq.lo i) (λh=>bB gq h),?_⟩,(z 25 (by decide)).trans (p.ke 25 rfl i25),kp (by decide) (p.ke 26 rfl i26),kp (by decide) (p.ke 27 rfl i27)⟩);rintro i hi (rfl|h);.exact Sq.ap _ hi (.inl rfl)
   · rcases hob i h with h|h;.exact Sq.ap _ hi (.inr h)
     .have:=hl1 i hi;omega
  clear S i11 i25 i26 i27;rintro a k ⟨hv,S,i25,i26,i27⟩;refine cut (λa' k'=>GrS k0 c cb dv pv rv F t r b9 hv l a' k'/\Is rv (a'.get 25) k'/\IsL c.reg (a'.get 26) k'/\IsV j (a'.get 27) k') ?_ hQ ?_;·intro Q2 W2 w2;refine gS 2 (_::_::[]) S.bs.s (by kernel_rfl) ⟨o1 [(27,none)] rfl λ _ _ h n=>iK rfl (up i27 h n.1) (Gb.cI rfl) hj,cm 0 rfl rfl,trivial⟩ W2 λb q p=>?_;exact aj (k:=q) (w2 _ _ ⟨S.move p.grow (Bs.post S.bs p) (p.old 4 rfl) (p.old 5 rfl) (p.old 7 rfl) (p.old 9 rfl),p.ke 25 rfl i25,p.ke 26 rfl i26,p.ou 1 27 rfl⟩)
  rintro a k h;exact hgo _ _ _ (ae H).symm ⟨hv,h⟩
 ·rintro _ _ _ _ h;exact h.elim
 ·rintro _ _ _ rfl _;simp at H
 clear hf1 S i25 i26 i27;rintro _ s2 a k rfl ⟨rfl,hv,S⟩;dsimp only at H;obtain⟨f2,hf2,H⟩:=bind_some H;refine wp_seq ?_;refine cut (λa' k'=>∃b12,GrS k0 c cb dv pv rv F t r b9 hv s2.1 a' k'/\Is (aw b12) (a'.get 12) k'/\(∃mv,Gb.Box b12 (⟨[mv]⟩:dt 1) k')/\¬CFP cb rv F b12/\¬b12=b9/\¬obF hv b12/\k0.w.heap.size<=b12) ?_ hQ ?_
 .intro Q1 W1 w1;refine gS 1 (⟨some (λv k'=>∃b,v= .map (some b)/\k.w.heap.size<=b/\lN kS b [] k'),[]⟩::[]) S.bs.s (by kernel_rfl) ⟨ob1 rfl λ _ _ g n=>qo g.size rfl,trivial⟩ W1 λb q p=>?_;obtain⟨bm,j37,x37,m37⟩:(λv k'=>∃b,v=Value.map (some b)/\k.w.heap.size<=b/\lN kS b [] k') (b.get 37) q:=p.ou 0 37 rfl;have Sq:GrS k0 c cb dv pv rv F t r b9 hv s2.1 b q:=S.move p.grow (Bs.post S.bs p) (p.old 4 rfl) (p.old 5 rfl) (p.old 7 rfl) (p.old 9 rfl);have hsb:=Sq.bs.s;have gq:=Sq.bs.g.size;obtain⟨hl1,hl2,hl3⟩:=Sq.lt;refine bL (i:=1) (d:=12) (R:=λv k=>∃b,v= .pointer (some ⟨b,0,none⟩)/\q.w.heap.size<=b/\Gb.Box b (⟨[.map none]⟩:dt 1) k) rfl rfl rfl (by rw[hsb];decide) W1 (FA q.w.heap.size (aA _) rfl Tryz.zeroValue113 rfl rfl) λb2 q2 U W z hgr2 h12=>?_;obtain⟨b12,j12,x12,z12⟩:=h12;have S2:GrS k0 c cb dv pv rv F t r b9 hv s2.1 b2 q2:=Sq.move hgr2 ⟨Sq.bs.g.then hgr2,U.trans hsb,W.trans Sq.bs.d⟩ (z 4 (by decide)) (z 5 (by decide)) (z 7 (by decide)) (z 9 (by decide));have T:=z12.jl;have n1:¬CFP cb rv F b12:=λh=>by have:=hl1 b12 h;omega
  have n3:¬obF hv b12:=λh=>by have:=hl3 b12 h;omega
  have n2:¬b12=b9:=by omega
  refine jb (i:=2) (off:=0) (w:= .map (some bm)) rfl rfl rfl rfl (by kernel_rfl) (by decide) (show cw b12 0 (b2.get 12) q2 from j12) z12 (show b2.get 37=_ by rw[z 37 (by decide)];exact j37) rfl λq3 hch hz=>?_;exact aj (k:=q3) (w1 _ _ ⟨b12,S2.step hch ⟨S2.bs.g.step hch (λi e=> .inr (by subst e;omega)),S2.bs.s,S2.bs.d⟩ T (λi hi e=>n1 (e▸hi)) n2 (λi hi e=>n3 (e▸hi)) rfl rfl rfl rfl,j12,⟨_,hz⟩,n1,n2,n3,by omega⟩)
 clear S;rintro a k ⟨b12,S,i12,⟨mv,B⟩,n1,n2,n3,l12⟩;refine wp_seq ?_;refine wp_seq ?_;have hlo:=S.lo;have hap:bj (CFP cb rv F) (obF hv):=λi hi h=>S.ap i hi (.inr h);refine cut (λa' k'=>∃u4 u5 u7,TsS k0 c cb dv pv rv F t r b9 b12 hv u4 u5 u7 s2.1 0 a' k'/\IsV (xF u4 u5 u7 b9 b12) (a'.get 50) k'/\IsV (6:Int) (a'.get 51) k'/\IsV (0:Int) (a'.get 52) k') ?_ hQ ?_
 .intro Q1 W1 w1;obtain⟨hB,v4,v5,v7,v9,C,A,l9,lo,ap⟩:=S;generalize hu4:a.get 4=u4 at v4
  generalize hu5:a.get 5=u5 at v5;generalize hu7:a.get 7=u7 at v7;have i4:Is u4 (a.get 4) k:=hu4;have i5:Is u5 (a.get 5) k:=hu5;have i7:Is u7 (a.get 7) k:=hu7;refine gS 15 (⟨some (Is (.func (.func 36) #[] #[u5,u7])),[(5,none),(7,none)]⟩::⟨some (IsV ((1,⟨.func (.func 36) #[] #[u5,u7]⟩):Int×fD)),[(38,some 0)]⟩::⟨some (Is (.func (.func 38) #[] #[u4,u5,u7])),[(4,none),(5,none),(7,none)]⟩::⟨some (IsV ((27,⟨.func (.func 38) #[] #[u4,u5,u7]⟩):Int×fD)),[(40,some 2)]⟩::⟨some (Is (.func (.func 40) #[] #[aw b9,u7])),[(9,none),(7,none)]⟩::⟨some (IsV ((5,⟨.func (.func 40) #[] #[aw b9,u7]⟩):Int×fD)),[(42,some 4)]⟩::⟨some (Is (.func (.func 43) #[] #[u4])),[(4,none)]⟩::⟨some (IsV ((6,⟨.func (.func 43) #[] #[u4]⟩):Int×fD)),[(44,some 6)]⟩::⟨some (Is (.func (.func 44) #[] #[u5,aw b9,u7])),[(5,none),(9,none),(7,none)]⟩::⟨some (IsV ((21,⟨.func (.func 44) #[] #[u5,aw b9,u7]⟩):Int×fD)),[(46,some 8)]⟩::⟨some (Is (.func (.func 46) #[] #[u5,u7,aw b12,u4])),[(5,none),(7,none),(12,none),(4,none)]⟩::⟨some (IsV ((26,⟨.func (.func 46) #[] #[u5,u7,aw b12,u4]⟩):Int×fD)),[(48,some 10)]⟩::⟨some (IsV (xF u4 u5 u7 b9 b12)),[(39,some 1),(41,some 3),(43,some 5),(45,some 7),(47,some 9),(49,some 11)]⟩::⟨some (IsL (xF u4 u5 u7 b9 b12)),[(50,some 12)]⟩::⟨some (IsI 0),[]⟩::[]) hB.s (by kernel_rfl) ⟨ob1 rfl λa' _ g n=>fq (first:=[]) (captured:=[.tmp 5, .tmp 7]) rfl (show Value.func (.func 36) #[] #[a'.eval (.tmp 5),a'.eval (.tmp 7)]=_ by rw[show a'.eval (.tmp 5)=u5 from up i5 g n.1,show a'.eval (.tmp 7)=u7 from up i7 g n.2.1]),ob1 rfl λa' _ g n=>fF (ps:=[(0, .const (.int .i64 1)),(1, .tmp 38)]) rfl (yP rfl n.1),ob1 rfl λa' _ g n=>fq (first:=[]) (captured:=[.tmp 4, .tmp 5, .tmp 7]) rfl (show Value.func (.func 38) #[] #[a'.eval (.tmp 4),a'.eval (.tmp 5),a'.eval (.tmp 7)]=_ by rw[show a'.eval (.tmp 4)=u4 from up i4 g n.1,show a'.eval (.tmp 5)=u5 from up i5 g n.2.1,show a'.eval (.tmp 7)=u7 from up i7 g n.2.2.1]),ob1 rfl λa' _ g n=>fF (ps:=[(0, .const (.int .i64 27)),(1, .tmp 40)]) rfl (yP rfl n.1),ob1 rfl λa' _ g n=>fq (first:=[]) (captured:=[.tmp 9, .tmp 7]) rfl (show Value.func (.func 40) #[] #[a'.eval (.tmp 9),a'.eval (.tmp 7)]=_ by rw[show a'.eval (.tmp 9)=aw b9 from up v9 g n.1,show a'.eval (.tmp 7)=u7 from up i7 g n.2.1]),ob1 rfl λa' _ g n=>fF (ps:=[(0, .const (.int .i64 5)),(1, .tmp 42)]) rfl (yP rfl n.1),ob1 rfl λa' _ g n=>fq (first:=[]) (captured:=[.tmp 4]) rfl (show Value.func (.func 43) #[] #[a'.eval (.tmp 4)]=_ by rw[show a'.eval (.tmp 4)=u4 from up i4 g n.1]),ob1 rfl λa' _ g n=>fF (ps:=[(0, .const (.int .i64 6)),(1, .tmp 44)]) rfl (yP rfl n.1),ob1 rfl λa' _ g n=>fq (first:=[]) (captured:=[.tmp 5, .tmp 9, .tmp 7]) rfl (show Value.func (.func 44) #[] #[a'.eval (.tmp 5),a'.eval (.tmp 9),a'.eval (.tmp 7)]=_ by rw[show a'.eval (.tmp 5)=u5 from up i5 g n.1,show a'.eval (.tmp 9)=aw b9 from up v9 g n.2.1,show a'.eval (.tmp 7)=u7 from up i7 g n.2.2.1]),ob1 rfl λa' _ g n=>fF (ps:=[(0, .const (.int .i64 21)),(1, .tmp 46)]) rfl (yP rfl n.1),ob1 rfl λa' _ g n=>fq (first:=[]) (captured:=[.tmp 5, .tmp 7, .tmp 12, .tmp 4]) rfl (show Value.func (.func 46) #[] #[a'.eval (.tmp 5),a'.eval (.tmp 7),a'.eval (.tmp 12),a'.eval (.tmp 4)]=_ by rw[show a'.eval (.tmp 5)=u5 from up i5 g n.1,show a'.eval (.tmp 7)=u7 from up i7 g n.2.1,show a'.eval (.tmp 12)=aw b12 from up i12 g n.2.2.1,show a'.eval (.tmp 4)=u4 from up i4 g n.2.2.2.1]),ob1 rfl λa' _ g n=>fF (ps:=[(0, .const (.int .i64 26)),(1, .tmp 48)]) rfl (yP rfl n.1),ob1 rfl λa' _ g n=>dL rfl Tryz.underlying119 Uf rfl (by decide) (by decide) ⟨rfl,n.1,rfl,n.2.1,rfl,n.2.2.1,rfl,n.2.2.2.1,rfl,n.2.2.2.2.1,rfl,n.2.2.2.2.2.1,trivial⟩,ob1 rfl λ _ _ h n=>gM rfl rfl Tryz.underlying119 (IsV.rd n.1),ob1 rfl λ _ _ h n=>du rfl (Gb.cI rfl),trivial⟩ W1 λb q p=>?_;exact aj (k:=q) (w1 _ _ ⟨u4,u5,u7,⟨Bs.post hB p,p.ke 4 rfl i4,p.ke 7 rfl i7,p.ke 12 rfl i12,aW.pers p.grow.le v4,aW.pers p.grow.le v5,aW.pers p.grow.le v7,C.grow p.grow,λ _=>A.grow p.grow,⟨mv,B.grow p.grow⟩,λh=>by cases h⟩,p.ou 12 50 rfl,p.ou 13 51 rfl,p.ou 14 52 rfl⟩)
 clear S i12 B;rintro a k ⟨u4,u5,u7,S,i50,i51,i52⟩;refine wp_block ?_;refine pC f2 (λn c_ l_=>∃m:Nat,n=(m:Int)/\m<=6/\TsS k0 c cb dv pv rv F t r b9 b12 hv u4 u5 u7 s2.1 m c_ l_/\IsV (xF u4 u5 u7 b9 b12) (c_.get 50) l_/\IsV (6:Int) (c_.get 51) l_/\IsV (m:Int) (c_.get 52) l_) (λi' _ c_ l_=>i'=2/\TsS k0 c cb dv pv rv F t r b9 b12 hv u4 u5 u7 s2.1 6 c_ l_) (λe c_ l_=>bodyPost Tryz.prog Tryz.f10 (cr (CFP cb rv F) k0 λv k=>IsV e v k/\GrP k0 cb dv pv rv F c k) .ret c_ l_.w) ?_ hQ ?_ ?_ ?_
 .intro Q1 W1 hgo hex hret;refine gj ?_ _ _ _ _ _ hf2 ⟨0,rfl,by decide,S,i50,i51,i52⟩ Q1 W1 hgo hex hret;clear H hf2 hgo hex hret W1 hQ S i50 i51 i52;intro s1 fl_ a k H hS Q hQ hgo hex hret;obtain⟨m,rfl,hm,S,i50,i51,i52⟩:=hS;unfold Dg at H;refine wp_seq ?_;refine cut (λa' k'=>TsS k0 c cb dv pv rv F t r b9 b12 hv u4 u5 u7 s2.1 m a' k'/\IsV (xF u4 u5 u7 b9 b12) (a'.get 50) k'/\IsV (6:Int) (a'.get 51) k'/\IsV (m:Int) (a'.get 52) k'/\IsV (decide ((m:Int)<6)) (a'.get 53) k') ?_ hQ ?_;·intro Q2 W2 w2;refine gS 1 (_::[]) S.bs.s (by kernel_rfl) ⟨o1 [(52,none),(51,none)] rfl λ _ _ h n=>jY rfl (up i52 h n.1) (up i51 h n.2.1),trivial⟩ W2 λb q p=>?_;exact aj (k:=q) (w2 _ _ ⟨S.move p.grow (Bs.post S.bs p) (p.old 4 rfl) (p.old 7 rfl) (p.old 12 rfl),p.ke 50 rfl i50,p.ke 51 rfl i51,p.ke 52 rfl i52,p.ou 0 53 rfl⟩)
  clear S i50 i51 i52;rintro a k ⟨S,i50,i51,i52,i53⟩;refine wp_seq ?_;refine wp_cond_split (isBool i53) (λhc=>?_) (λhc=>?_);rotate_left
  · rw[if_neg (by rw[hc];decide)]at H;have hm6:m=6:=by simp at hc;omega
    subst hm6;refine wp_exit ?_;exact hex _ _ _ _ (ae H).symm ⟨rfl,S⟩
  rw[if_pos hc,nI]at H;have hm5:m<=5:=by simp at hc;omega
  obtain⟨x,hx,H⟩:=bind_some H;refine wp_skip ?_;refine wp_seq ?_;refine wp_block ?_;refine wp_seq ?_;obtain⟨z0,hz0⟩:=V6;refine cut (λa' k'=>TsS k0 c cb dv pv rv F t r b9 b12 hv u4 u5 u7 s2.1 m a' k'/\aS ((ua m,⟨.func (.func (qk u4 u5 u7 b9 b12 m).1) #[] (qk u4 u5 u7 b9 b12 m).2⟩):Int×fD) (a'.get 14) k'/\IsV (xF u4 u5 u7 b9 b12) (a'.get 50) k'/\IsV (6:Int) (a'.get 51) k'/\IsV (m:Int) (a'.get 52) k') ?_ hQ ?_
  .intro Q2 W2 w2;refine gS 3 (_::_::⟨some (gV k.w.heap.size z0),[]⟩::[]) S.bs.s (by kernel_rfl) ⟨o1 [(50,none),(52,none)] rfl λ _ _ h n=>dj rfl Tryz.underlying119 Re (IsV.rd (up i50 h n.1)) (up i52 h n.2.1) (H7 hm5),o1 [(54,some 0)] rfl λ _ _ h n=>aR rfl Re n.1,ob1 rfl λ _ _ h n=>gu _ h.size rfl hz0,trivial⟩ W2 λb q p=>?_;have gs:=S.bs.g.size;obtain⟨b14,j14,x14,z14⟩:(gV k.w.heap.size z0) (b.get 14) q:=p.ou 2 14 rfl;have j55:IsV ((ua m,⟨.func (.func (qk u4 u5 u7 b9 b12 m).1) #[] (qk u4 u5 u7 b9 b12 m).2⟩):Int×fD) (b.get 55) q:=p.ou 1 55 rfl;have Sq:=S.move p.grow (Bs.post S.bs p) (p.old 4 rfl) (p.old 7 rfl) (p.old 12 rfl);have T:=z14.jl;have y14:Wr (CFP cb rv F) k0 (Eq b14):=λi e=> .inr (by subst e;omega);obtain⟨mv,B⟩:=S.B;have hB:=B.lt;have hC:=S.C.lt;have hA:∀hm:m<=4,b9<k.w.heap.size/\∀i,obF hv i->i<k.w.heap.size:=λhm=>⟨(S.A hm).bx.lt,(S.A hm).ow.ltF⟩;have hN:m=6->False:=by omega
   refine cG (i:=3) rfl rfl rfl rfl S8 (Upd.self (α:=Int×fD)) j14 z14 j55 λq2 hch hz=>?_;have hle:=hch.le T;obtain⟨q3,hsh,jn⟩:=hz.gz;rw[<-hsh.w];rw[<-j14]at jn;obtain⟨hBq,s4,s7,s12,v4,v5,v7,C,A,⟨mv',B'⟩,N⟩:=Sq;have nC:bj (CFP cb rv F) (Eq b14):=λi hi e=>by have:=(hC i hi).1;subst e;omega
   have pp:∀{R:Value->K->Prop} [aW R] {v:Value},R v q->R v q3:=λ {R} _ {v}h=>aW.pers hsh.le (aW.pers hle h);refine aj (k:=q3) (w2 _ _ ⟨⟨⟨(hBq.g.step hch y14).hand hsh y14,hBq.s,hBq.d⟩,s4,s7,s12,pp v4,pp v5,pp v7,(C.keep hch nC T).handed hsh nC,λhm=>?_,⟨mv',(B'.keep hch (by omega) T).handed hsh (by omega)⟩,λh=>(hN h).elim⟩,jn,pp (p.ke 50 rfl i50),pp (p.ke 51 rfl i51),pp (p.ke 52 rfl i52)⟩);obtain⟨h1,h2⟩:=hA hm;have nO:bj (obF hv) (Eq b14):=λi hi e=>by have:=h2 i hi;subst e;omega
   have A2:=(A hm).keep hch (by omega) nO T;exact⟨A2.bx.handed hsh (by omega),A2.ow.handed hsh nO,A2.nb⟩
  clear S i50 i51 i52 i53 hc hz0;rintro a k ⟨S,i14,i50,i51,i52⟩;refine wp_seq ?_;refine cut (λa' k'=>(x=true->CnO c cb dv pv rv F k')/\Bs (CFP cb rv F) k0 107 a' k'/\(x=false->TsS k0 c cb dv pv rv F t r b9 b12 hv u4 u5 u7 s2.1 (m+1) a' k')/\aS ((ua m,⟨.func (.func (qk u4 u5 u7 b9 b12 m).1) #[] (qk u4 u5 u7 b9 b12 m).2⟩):Int×fD) (a'.get 14) k'/\IsV (xF u4 u5 u7 b9 b12) (a'.get 50) k'/\IsV (6:Int) (a'.get 51) k'/\IsV (m:Int) (a'.get 52) k'/\IsV x (a'.get 58) k') ?_ hQ ?_
  .intro Q2 W2 w2;refine gS 2 (⟨some (eE (fD.mk (.func (.func (qk u4 u5 u7 b9 b12 m).1) #[] (qk u4 u5 u7 b9 b12 m).2))),[(14,none)]⟩::⟨some (Is (.func (.func (qk u4 u5 u7 b9 b12 m).1) #[] (qk u4 u5 u7 b9 b12 m).2)),[(56,some 0)]⟩::[]) S.bs.s (by kernel_rfl) ⟨ob1 rfl λ _ _ g n=>bF rfl P2 (Lm _) (up i14 g n.1).ptr,ob1 rfl λ _ _ g n=>lA (aR rfl UU n.1) λu k' hk hu=>Ad hu,trivial⟩ W2 λb q p=>?_;have Sq:=S.move p.grow (Bs.post S.bs p) (p.old 4 rfl) (p.old 7 rfl) (p.old 12 rfl);have j57:b.get 57= .func (.func (qk u4 u5 u7 b9 b12 m).1) #[] (qk u4 u5 u7 b9 b12 m).2:=p.ou 1 57 rfl;obtain⟨hBq,s4,s7,s12,v4,v5,v7,C,A,⟨mv',B'⟩,N⟩:=Sq
   have T:∀i,FPt m hv b12 i->¬q.sh i:=by
    rintro i (⟨rfl,h⟩|⟨rfl,rfl⟩);.exact(A (by decide)).ow.jl i h
    .exact B'.own
   have nC:bj (CFP cb rv F) (FPt m hv b12):=by
    rintro i hi (⟨_,h⟩|⟨_,rfl⟩);.exact hap i hi h
    .exact n1 hi
   have wF:Wr (CFP cb rv F) k0 (FPt m hv b12):=by
    rintro i (⟨_,h⟩|⟨_,rfl⟩);.exact .inr (hlo i h)
    .exact .inr l12
   have gq:=hBq.g.size;have hGq:GOk tbg q:=hG.le (hBq.g.le λi hi=>(C0.lt i hi).2);refine wM (F:=FPt m hv b12) (R:=λv k'=>IsV x v k'/\(m=5->xk q b12 t r k')) (i:=2) (d:=58) (as_:=[]) (f:=(qk u4 u5 u7 b9 b12 m).1) (first:=#[]) (capt:=(qk u4 u5 u7 b9 b12 m).2) rfl rfl rfl rfl (by rw[hBq.s];decide) j57 (Iv hm5) W2 (by have h:=QI hm5 hGq C v4 v5 v7 A B' n1 hx;simpa using h) λb2 q2 U W z E hres=>?_;obtain⟨j58,hN5⟩:=hres;have hle:=E.le T;have C2:=C.keep E nC T;have B2:Bs (CFP cb rv F) k0 107 b2 q2:=⟨hBq.g.step E wF,U.trans hBq.s,W.trans hBq.d⟩;have kp:∀{R:Value->K->Prop} [aW R] {n:Nat},n≠58->R (b.get n) q->R (b2.get n) q2:=λ {R} _ {n}hn h=>by rw[z n hn];exact aW.pers hle h
   refine aj (k:=q2) (w2 _ _ ⟨λ _=>C2,B2,λ _=>⟨B2,(z 4 (by decide)).trans s4,(z 7 (by decide)).trans s7,(z 12 (by decide)).trans s12,aW.pers hle v4,aW.pers hle v5,aW.pers hle v7,C2,λhm3=>?_,?_,λhm6=>?_⟩,kp (by decide) (p.ke 14 rfl i14),kp (by decide) (p.ke 50 rfl i50),kp (by decide) (p.ke 51 rfl i51),kp (by decide) (p.ke 52 rfl i52),j58⟩)
   · have hno:∀i,¬FPt m hv b12 i:=by rintro i (⟨h,_⟩|⟨h,_⟩)<;>omega
     exact(A (by omega)).keep E (hno _) (λi _ h=>hno i h) T
   · by_cases h5:m=5;·obtain⟨_,bm,_,B3,_⟩:=hN5 h5;exact⟨_,B3⟩
     · refine⟨mv',B'.keep E ?_ T⟩;rintro(⟨_,h⟩|⟨h,_⟩);.exact n3 h
       .exact h5 h
   ·obtain⟨nm,bm,h1,h2,h3,h4⟩:=hN5 (by omega);exact⟨nm,bm,h1,h2,h3,bB gq h4⟩
  clear S i14 i50 i51 i52;rintro a k ⟨hCt,hB,hSf,i14,i50,i51,i52,i58⟩;refine wp_cond_split (isBool i58) (λhc=>?_) (λhc=>?_);·rw[if_pos hc]at H;have C:=hCt hc;refine aK 3 (⟨some (eE (ua m)),[(14,none)]⟩::⟨some (IsV (ua m)),[(59,some 0)]⟩::_::[]) rfl hB (by kernel_rfl) ⟨ob1 rfl λ _ _ g n=>bF rfl Qa (KD _) (up i14 g n.1).ptr,ob1 rfl λ _ _ g n=>aR rfl Wy n.1,cp 1 rfl rfl,trivial⟩ [⟨8,IsV (ua m)⟩,⟨0,λ _ k=>CnO c cb dv pv rv F k⟩] (λb q p=>⟨p.ou 2 8 rfl,C.grow p.grow,trivial⟩) ?_;clear C hB;rintro a k ⟨⟨J,I,P⟩,i8,C,_⟩;refine wp_ret ?_;exact hret _ _ _ (ae H).symm (cZ rfl P J (show gg _ _ _ (.tmp 8) (λv k=>IsV (ua m) v k/\GrP k0 cb dv pv rv F c k)from⟨i8,rv,F,C,λi h=> .inl h,λi h=> .inl h⟩))
  rw[if_neg (by rw[hc];decide)]at H;have S:=hSf hc;clear hCt hSf hB;refine wp_skip ?_;obtain⟨j,hj,H⟩:=bind_some H;have hj1:j=((m+1:Nat):Int):=by obtain⟨_,rfl⟩:=lh hj;omega
  subst hj1;refine cut (λa' k'=>TsS k0 c cb dv pv rv F t r b9 b12 hv u4 u5 u7 s2.1 (m+1) a' k'/\IsV (xF u4 u5 u7 b9 b12) (a'.get 50) k'/\IsV (6:Int) (a'.get 51) k'/\IsV ((m+1:Nat):Int) (a'.get 52) k') ?_ hQ ?_;·intro Q2 W2 w2;refine gS 2 (_::_::[]) S.bs.s (by kernel_rfl) ⟨o1 [(52,none)] rfl λ _ _ h n=>iK rfl (up i52 h n.1) (Gb.cI rfl) hj,cm 0 rfl rfl,trivial⟩ W2 λb q p=>?_;exact aj (k:=q) (w2 _ _ ⟨S.move p.grow (Bs.post S.bs p) (p.old 4 rfl) (p.old 7 rfl) (p.old 12 rfl),p.ke 50 rfl i50,p.ke 51 rfl i51,p.ou 1 52 rfl⟩)
  rintro a k ⟨S,h1,h2,h3⟩;exact hgo _ _ _ (ae H).symm ⟨m+1,rfl,by omega,S,h1,h2,h3⟩
 ·rintro e a k rfl hR;dsimp only at H;obtain rfl:=ae H;exact hR
 ·rintro _ _ _ rfl _;simp at H
 clear hf2 S i50 i51 i52;rintro _ s3 a k rfl ⟨rfl,S⟩;dsimp only at H;obtain⟨m,bm,hm,B,M,lbm⟩:=S.N rfl;obtain⟨hB,s4,s7,s12,v4,v5,v7,C,-,-,-⟩:=S;obtain⟨J,I,P⟩:=hB;unfold AL at H;rw[hm]at H;replace H:(ar (wJ c.num c.reg) (c.reg.length+1) (1,0)).bind _=some q:=H;obtain⟨es,V,hh,hb1,hb2,hes⟩:=M.entries;have hblt:=M.lt;have nbm:¬CFP cb rv F bm:=λh=>by have:=(C0.lt bm h).1;omega
 refine wp_seq ?_;refine aK 2 (⟨some (Is (.map (some bm))),[(12,none)]⟩::⟨some (zE k.w.heap.size bm V),[(62,some 0)]⟩::[]) rfl ⟨J,I,P⟩ (by kernel_rfl) ⟨ob1 rfl λa' _ g n=>bV (off:=0) rfl Mj (show cw b12 0 (a'.eval (.tmp 12)) _ from up s12 g n.1) (B.grow g) rfl,ob1 rfl λ _ _ g n=>uF (es:=es) g.size rfl Tryz.underlying113 n.1 (by rw[g.blk bm hblt];exact hh),trivial⟩ [⟨4,Is u4⟩,⟨7,Is u7⟩,⟨63,zE k.w.heap.size bm V⟩,⟨0,λ _ k=>fu cb u4 k/\aS r u7 k/\CnO c cb dv pv rv F k/\k.w.heap[bm]?=some (.map es V)⟩] (λb' q p=>⟨p.ke 4 rfl s4,p.ke 7 rfl s7,p.ou 1 63 rfl,⟨aZ.mono p.grow v4,aZ.mono p.grow v7,C.grow p.grow,by rw[p.grow.blk bm hblt];exact hh⟩,trivial⟩) ?_;have hCl:∀i,CFP cb rv F i->i<k.w.heap.size:=λi hi=>(C.lt i hi).1;have hk:=J.size;clear J I P s4 s7 s12 v4 v5 v7 C B M hh;rintro a k1 ⟨⟨J,I,P⟩,s4,s7,⟨rr,e63,lor,It⟩,⟨v4,v7,C,hh⟩,_⟩;refine cut (λa' k'=>∃O F',Bs (CFP cb rv F) k0 107 a' k'/\Is u4 (a'.get 4) k'/\Is u7 (a'.get 7) k'/\fu cb u4 k'/\aS r u7 k'/\CnO {c with dc:=dE c.dc O} cb dv pv rv F' k'/\(∀i,F' i->F i∨k0.w.heap.size<=i)/\O.Perm m) ?_ hQ ?_
 .intro Q1 W1 w1;refine wp_block ?_;refine sj (λn a k=>∃O R seen c0 F',n=R.length/\Bs (CFP cb rv F) k0 107 a k/\Is u4 (a.get 4) k/\Is u7 (a.get 7) k/\fu cb u4 k/\aS r u7 k/\Is (.pointer (some ⟨rr,0,none⟩)) (a.get 63) k/\kh rr bm V seen c0 k/\V<=c0/\CnO {c with dc:=dE c.dc O} cb dv pv rv F' k/\(∀i,F' i->F i∨k0.w.heap.size<=i)/\¬CFP cb rv F' rr/\¬CFP cb rv F' bm/\k.w.heap[bm]?=some (.map es V)/\(leftOf es seen).toList.map (λe=>(e.key,e.val))=R.map (λp=>(kS p.1,Value.int .i64 p.2))/\(O++R).Perm m) ⟨_,[],m,#[],V,F,rfl,⟨J,I,P⟩,s4,s7,v4,v7,e63,It,aA _,C,λi h=> .inl h,λh=>by have:=hCl rr h;omega,nbm,hh,?_,by simp⟩ ?_
  · have:(leftOf es #[]).toList=es.toList:=by unfold leftOf;simp
    rw[this,hes]
  have lr:k0.w.heap.size<=rr:=by omega
  clear J I P s4 s7 v4 v7 e63 It C hh hQ H lor hCl nbm;rintro n a k ⟨O,R,seen,c0,F',rfl,⟨J,I,P⟩,s4,s7,v4,v7,e63,It,hle,C,hF',nr,nb,hh,hleft,hperm⟩;have hnr:¬rr=bm:=λe=>by subst e;have h:=It.is;rw[hh]at h;cases h
  have hRl:R.length=(leftOf es seen).toList.length:=by have:=congrArg List.length hleft;simp at this;simp;omega
  refine wp_seq ?_;refine cut (λa' k'=>(IsV false (a'.get 65) k'/\R=[]/\Bs (CFP cb rv F) k0 107 a' k'/\Is u4 (a'.get 4) k'/\Is u7 (a'.get 7) k'/\fu cb u4 k'/\aS r u7 k'/\CnO {c with dc:=dE c.dc O} cb dv pv rv F' k')∨(IsV true (a'.get 65) k'/\∃(i:Nat) (hi:i<(leftOf es seen).toList.length),Bs (CFP cb rv F) k0 107 a' k'/\Is u4 (a'.get 4) k'/\Is u7 (a'.get 7) k'/\fu cb u4 k'/\aS r u7 k'/\Is (.pointer (some ⟨rr,0,none⟩)) (a'.get 63) k'/\kh rr bm V (seen.push ((leftOf es seen).toList[i]).born) V k'/\CnO {c with dc:=dE c.dc O} cb dv pv rv F' k'/\k'.w.heap[bm]?=some (.map es V))) ?_ trivial ?_
  .intro Q2 W2 w2;refine gS 0 [] I (by kernel_rfl) trivial W2 λb1 q p=>?_;have hgq:=J.then p.grow;have hsb:=p.size.trans I;have hblk:bm<k.w.heap.size:=(bO.1 hh).1;have hhq:q.w.heap[bm]?=some (.map es V):=by rw[p.grow.blk bm hblk];exact hh
   refine q9 (ty:=0) (i:=0) (d:=64) rfl rfl rfl rfl (by rw[hsb];decide) (show b1.get 63=_ from p.ke 63 rfl e63) (It.grow p.grow) hhq hb1 hle (λh0 b2 U W e64 z=>?_) (λe he b2 q2 U W e64 z E It2=>?_)
   · refine bL (i:=1) (d:=65) rfl rfl rfl (by rw[U,hsb];decide) W2 (dV (x:= .tmp 64) rfl (show b2.get 64=_ from e64) rfl) λb3 q3 hsz3 hdf3 hoth3 hgr3 h65=>?_;refine aj (k:=q3) (w2 _ _ (.inl ⟨aE.2 h65,?_,⟨hgq.then hgr3,by rw[hsz3,U,hsb],by rw[hdf3,W,p.defers,P]⟩,?_,?_,aZ.mono hgr3 (aZ.mono p.grow v4),aZ.mono hgr3 (aZ.mono p.grow v7),(C.grow p.grow).grow hgr3⟩));.exact iA (by rw[hRl,iE];exact h0)
     .rw[hoth3 4 (by decide),z 4 (by decide)];exact p.ke 4 rfl s4
     .rw[hoth3 7 (by decide),z 7 (by decide)];exact p.ke 7 rfl s7
   · obtain⟨i,hi,rfl⟩:=br he;have T:∀c,rr=c->¬q.sh c:=λc e=>e▸(It.grow p.grow).own;have hle2:=E.le T;have hh2:q2.w.heap[bm]?=some (.map es V):=by rw[E.blk bm (by have:=p.grow.size;omega) hnr];exact hhq
     refine bL (i:=1) (d:=65) rfl rfl rfl (by rw[U,hsb];decide) W2 (dV (x:= .tmp 64) rfl (show b2.get 64=_ from e64) rfl) λb3 q3 hsz3 hdf3 hoth3 hgr3 h65=>?_;have hbl2:bm<q2.w.heap.size:=(bO.1 hh2).1;refine aj (k:=q3) (w2 _ _ (.inr ⟨aE.2 h65,i,hi,⟨(hgq.step E (λc e=> .inr (e▸lr))).then hgr3,by rw[hsz3,U,hsb],by rw[hdf3,W,p.defers,P]⟩,?_,?_,aZ.mono hgr3 (aW.pers hle2 (aZ.mono p.grow v4)),aZ.mono hgr3 (aW.pers hle2 (aZ.mono p.grow v7)),?_,It2.grow hgr3,((C.grow p.grow).keep E (λi hi e=>nr (e▸hi)) T).grow hgr3,by rw[hgr3.blk bm hbl2];exact hh2⟩));.rw[hoth3 4 (by decide),z 4 (by decide)];exact p.ke 4 rfl s4
     .rw[hoth3 7 (by decide),z 7 (by decide)];exact p.ke 7 rfl s7
     .rw[hoth3 63 (by decide),z 63 (by decide)];exact p.ke 63 rfl e63
  clear J I P s4 s7 v4 v7 e63 It C hh;rintro a k (⟨i65,rfl,hB,s4,s7,v4,v7,C⟩|⟨i65,i,hi,⟨J,I,P⟩,s4,s7,v4,v7,e63,It,C,hh⟩);·refine wp_seq ?_;refine wp_cond_split (isBool i65) (λhc=>by cases hc) (λ _=>?_);exact wp_exit (gw (gw (qR (w1 _ _ ⟨O,F',hB,s4,s7,v4,v7,C,hF',by simpa using hperm⟩))))
  .refine wp_seq ?_;refine wp_cond_split (isBool i65) (λ _=>?_) (λhc=>by cases hc);refine wp_skip ?_;refine wp_block ?_;have hiR:i<R.length:=by omega
   have hin:(leftOf es seen).toList[i]∈es.toList:=by have he:=aN hi;revert he;generalize(leftOf es seen).toList[i]=e;intro he;unfold leftOf at he;rw[pZ]at he;exact(bQ.1 he).1
   have hpair:((leftOf es seen).toList[i].key,(leftOf es seen).toList[i].val)=(kS R[i].1,Value.int .i64 R[i].2):=by have:=congrArg (.[i]?) hleft;simp only[nX]at this;rw[bZ hi,bZ hiR]at this;simpa using this
   have hpush:=rj es seen i hi hb2;have hleft':(leftOf es (seen.push (leftOf es seen).toList[i].born)).toList.map (λe=>(e.key,e.val))=(R.eraseIdx i).map (λp=>(kS p.1,Value.int .i64 p.2)):=by rw[hpush,wH,hleft,wH]
   generalize(leftOf es seen).toList[i]=e at hin hpair hleft' It;obtain⟨hk1,hk2⟩:=Prod.mk.inj hpair;have hpe:=(zk R i hiR O).trans hperm;have hlen':(R.eraseIdx i).length<R.length:=by rw[rL hiR];omega
   generalize R[i]=pr at hk1 hk2 hpe;obtain⟨cap,n⟩:=pr;dsimp only at hk1 hk2;have hblk:bm<k.w.heap.size:=(bO.1 hh).1;refine aK 5 (⟨some (Is (.tuple #[e.key,e.val])),[(63,none)]⟩::⟨some (IsV cap),[(66,some 0)]⟩::⟨some (IsV n),[(66,some 0)]⟩::_::_::[]) rfl ⟨J,I,P⟩ (by kernel_rfl) ⟨ob1 rfl λa' k' g m=>um rfl (show a'.get 63=_ from up e63 g m.1) (It.grow g) (by rw[g.blk bm hblk];exact hh) hin hb2,ob1 rfl λa' _ g m=>cu (dV rfl m.1 rfl) λv k' _ h=>cY.2 ((show v=e.key from h).trans hk1),ob1 rfl λa' _ g m=>cu (dV rfl m.1 rfl) λv k' _ h=>au.2 ((show v=e.val from h).trans hk2),cp 1 rfl rfl,cp 2 rfl rfl,trivial⟩ [⟨4,Is u4⟩,⟨7,Is u7⟩,⟨15,IsV cap⟩,⟨16,IsV n⟩,⟨63,Is (.pointer (some ⟨rr,0,none⟩))⟩,⟨0,λ _ q=>fu cb u4 q/\aS r u7 q/\kh rr bm V (seen.push e.born) V q/\CnO {c with dc:=dE c.dc O} cb dv pv rv F' q/\q.w.heap[bm]?=some (.map es V)⟩] (λb1 q p=>⟨p.ke 4 rfl s4,p.ke 7 rfl s7,p.ou 3 15 rfl,p.ou 4 16 rfl,p.ke 63 rfl e63,⟨aZ.mono p.grow v4,aZ.mono p.grow v7,It.grow p.grow,C.grow p.grow,by rw[p.grow.blk bm hblk];exact hh⟩,trivial⟩) ?_;clear J I P s4 s7 v4 v7 e63 It C hh i65 hblk;rintro a k ⟨⟨J,I,P⟩,s4,s7,i15,i16,e63,⟨v4,v7,It,C,hh⟩,_⟩;have hblk:bm<k.w.heap.size:=(bO.1 hh).1;refine aK 2 (_::⟨some (IsV (decide (0<n))),[(69,some 0)]⟩::[]) rfl ⟨J,I,P⟩ (by kernel_rfl) ⟨mu rfl i16,ob1 rfl λ _ _ g n=>sU rfl n.1 (Gb.cI rfl),trivial⟩ [⟨4,Is u4⟩,⟨7,Is u7⟩,⟨15,IsV cap⟩,⟨16,IsV n⟩,⟨63,Is (.pointer (some ⟨rr,0,none⟩))⟩,⟨70,IsV (decide (0<n))⟩,⟨0,λ _ q=>fu cb u4 q/\aS r u7 q/\kh rr bm V (seen.push e.born) V q/\CnO {c with dc:=dE c.dc O} cb dv pv rv F' q/\q.w.heap[bm]?=some (.map es V)⟩] (λb1 q p=>⟨p.ke 4 rfl s4,p.ke 7 rfl s7,p.ke 15 rfl i15,p.ke 16 rfl i16,p.ke 63 rfl e63,p.ou 1 70 rfl,⟨aZ.mono p.grow v4,aZ.mono p.grow v7,It.grow p.grow,C.grow p.grow,by rw[p.grow.blk bm hblk];exact hh⟩,trivial⟩) ?_;clear J I P s4 s7 v4 v7 e63 It C hh hblk i15 i16;rintro a k ⟨⟨J,I,P⟩,s4,s7,i15,i16,e63,i70,⟨v4,v7,It,C,hh⟩,_⟩;refine wp_cond_split (isBool i70) (λhc=>?_) (λhc=>?_)
   .refine gS 6 (⟨some (Is (aw cb)),[(4,none)]⟩::⟨some (Is (aw cb)),[(71,some 0)]⟩::⟨some (cw cb 2),[(72,some 1)]⟩::⟨some (Is pv),[(73,some 2)]⟩::_::_::[]) I (by kernel_rfl) ⟨ob1 rfl λa' _ g n=>fu.load rfl wX (show fu cb (a'.eval (.tmp 4)) _ by rw[show a'.eval (.tmp 4)=u4 from up s4 g n.1];exact aZ.mono g v4),ob1 rfl λ _ _ g n=>aO rfl ⟨_,n.1⟩ n.1,ob1 rfl λ _ _ g n=>aV rfl zX n.1,ob1 rfl λ _ _ g n=>bV rfl J3 n.1 (C.grow g).box rfl,mu rfl i15,mu rfl i16,trivial⟩ trivial λb1 q p=>?_;have hgq:=J.then p.grow;have hsb:=p.size.trans I;have gq:=hgq.size;have gp:=p.grow.size;have Cq:=C.grow p.grow;have Itq:=It.grow p.grow;have hblk:bm<k.w.heap.size:=(bO.1 hh).1;have hhq:q.w.heap[bm]?=some (.map es V):=by rw[p.grow.blk bm hblk];exact hh
    have j74:b1.get 74=pv:=p.ou 3 74 rfl;have j75:IsV cap (b1.get 75) q:=p.ou 4 75 rfl;have j76:IsV n (b1.get 76) q:=p.ou 5 76 rfl;have T:∀i,F' i->¬q.sh i:=Rsc.nsh Cq.dk;have wF:Wr (CFP cb rv F) k0 F':=λi hi=>(hF' i hi).imp (λh=> .inr (.inl h)) id;refine iH (F:=F') (R:=λ _ k=>∃G,mI (tZ (dE c.dc O) cap n).1 G pv k/\Wr F' q G) (i:=6) (d:=77) (f:=48) (as_:=[.tmp 74, .tmp 75, .tmp 76]) rfl rfl rfl rfl (by rw[hsb];decide) Tryz.call48 trivial (by show Calls _ _ #[b1.get 74,b1.get 75,b1.get 76] _ _;rw[j74];exact iZ (QQ Cq.dk j75 j76) (λ _ h=>h) λv k' _ h=>h.1) λb2 q2 U W z E hres=>?_;obtain⟨G,D2,wG⟩:=hres;have hle:=E.le T;have e1:dE c.dc (O++[(cap,n)])=(tZ (dE c.dc O) cap n).1:=by unfold dE;rw[vm];simp only[iw,List.foldl_nil];rw[if_pos (by simpa using hc)]
    have hlq:=Cq.lt
    have C2:CnO {c with dc:=dE c.dc (O++[(cap,n)])} cb dv pv rv G q2:=by
     rw[e1];refine⟨Cq.box.keep E Cq.n1 T,aW.pers hle Cq.od,D2,Cq.rg.keep E (λi hi h=>Cq.ap i h hi) T,λh=>?_,Cq.n2,λi hi h=>?_⟩
     · rcases wG cb h with h|h;.exact Cq.n1 h
       .have:=(hlq cb (.inl rfl)).1;omega
     · rcases wG i hi with h'|h';.exact Cq.ap i h' h
       .have:=(hlq i (.inr (.inr h))).1;omega
    have nG:∀{x:Nat},x<q.w.heap.size->¬CFP cb rv F' x->¬CFP cb rv G x:=λ {x}hx hn h=>by
     rcases h with h|h|h;.exact hn (.inl h)
     · rcases wG x h with h|h;.exact hn (.inr (.inl h))
       .omega
     .exact hn (.inr (.inr h))
    have nFr:¬F' rr:=λh=>nr (.inr (.inl h));have nFb:¬F' bm:=λh=>nb (.inr (.inl h));have hbq:bm<q.w.heap.size:=(bO.1 hhq).1;refine aj (k:=q2) ?_;refine(⟨_,q2,rfl,hlen',O++[(cap,n)],R.eraseIdx i,seen.push e.born,V,G,rfl,⟨hgq.step E wF,U.trans hsb,W.trans (p.defers.trans P)⟩,(z 4 (by decide)).trans (p.ke 4 rfl s4),(z 7 (by decide)).trans (p.ke 7 rfl s7),aW.pers hle (aZ.mono p.grow v4),aW.pers hle (aZ.mono p.grow v7),(z 63 (by decide)).trans (p.ke 63 rfl e63),Itq.keep E nFr,aA _,C2,λi hi=>(wG i hi).elim (hF' i) (λh=> .inr (bB gq h)),nG Itq.lt nr,nG hbq nb,by rw[E.blk bm hbq nFb];exact hhq,hleft',hpe⟩:∃m k',k'.w=q2.w/\m<R.length/\∃O R seen c0 F',m=R.length/\Bs (CFP cb rv F) k0 107 b2 k'/\Is u4 (b2.get 4) k'/\Is u7 (b2.get 7) k'/\fu cb u4 k'/\aS r u7 k'/\Is (.pointer (some ⟨rr,0,none⟩)) (b2.get 63) k'/\kh rr bm V seen c0 k'/\V<=c0/\CnO {c with dc:=dE c.dc O} cb dv pv rv F' k'/\(∀i,F' i->F i∨k0.w.heap.size<=i)/\¬CFP cb rv F' rr/\¬CFP cb rv F' bm/\k'.w.heap[bm]?=some (.map es V)/\(leftOf es seen).toList.map (λe=>(e.key,e.val))=R.map (λp=>(kS p.1,Value.int .i64 p.2))/\(O++R).Perm _)
   · refine wp_skip ?_;refine⟨_,k,rfl,hlen',O++[(cap,n)],R.eraseIdx i,seen.push e.born,V,F',rfl,⟨J,I,P⟩,s4,s7,v4,v7,e63,It,aA _,?_,hF',nr,nb,hh,hleft',hpe⟩;have e1:dE c.dc (O++[(cap,n)])=dE c.dc O:=by unfold dE;rw[vm];simp only[iw,List.foldl_nil];rw[if_neg (by simpa using hc)]
     rw[e1];exact C
 clear J I P s4 s7 e63 It v4 v7 C hh hb1 hb2 lor;rintro a k ⟨O,F',⟨J,I,P⟩,s4,s7,v4,v7,C,hF',hO⟩;rw[Gg hO (uE hm)]at C;clear hO O;obtain⟨f3,hf3,H⟩:=bind_some H;refine aK 1 (⟨some (IsI 1),[]⟩::[]) rfl ⟨J,I,P⟩ (by kernel_rfl) ⟨aI rfl rfl,trivial⟩ [⟨4,Is u4⟩,⟨7,Is u7⟩,⟨17,IsV (1:Int)⟩,⟨0,λ _ k=>fu cb u4 k/\aS r u7 k/\CnO {c with dc:=dE c.dc m} cb dv pv rv F' k⟩] (λb' q p=>⟨p.ke 4 rfl s4,p.ke 7 rfl s7,p.ou 0 17 rfl,⟨aZ.mono p.grow v4,aZ.mono p.grow v7,C.grow p.grow⟩,trivial⟩) ?_;clear J I P s4 s7 v4 v7 C;rintro a k ⟨⟨J,I,P⟩,s4,s7,i17,⟨v4,v7,C⟩,_⟩;refine wp_seq ?_;refine aK 6 (⟨some (Is (aw cb)),[(4,none)]⟩::⟨some (Is (aw cb)),[(78,some 0)]⟩::⟨some (cw cb 3),[(79,some 1)]⟩::⟨some (Is rv),[(80,some 2)]⟩::⟨some (IsL c.reg),[(81,some 3)]⟩::⟨some (IsI 0),[]⟩::[]) rfl ⟨J,I,P⟩ (by kernel_rfl) ⟨ob1 rfl λa' _ g n=>fu.load rfl wX (show fu cb (a'.eval (.tmp 4)) _ by rw[show a'.eval (.tmp 4)=u4 from up s4 g n.1];exact aZ.mono g v4),ob1 rfl λ _ _ g n=>aO rfl ⟨_,n.1⟩ n.1,ob1 rfl λ _ _ g n=>aV rfl oR n.1,ob1 rfl λ _ _ g n=>bV rfl zz n.1 (C.grow g).box rfl,ob1 rfl λa' _ g n=>gM rfl rfl Tryz.underlying55 (by rw[show a'.eval (.tmp 81)=rv from n.1];exact(C.grow g).rg.rd),ob1 rfl λ _ _ h n=>du rfl (Gb.cI rfl),trivial⟩ [⟨4,Is u4⟩,⟨7,Is u7⟩,⟨17,IsV (1:Int)⟩,⟨81,Is rv⟩,⟨82,IsL c.reg⟩,⟨83,IsV (0:Int)⟩,⟨0,λ _ k=>fu cb u4 k/\aS r u7 k/\CnO {c with dc:=dE c.dc m} cb dv pv rv F' k⟩] (λb' q p=>⟨p.ke 4 rfl s4,p.ke 7 rfl s7,p.ke 17 rfl i17,p.ou 3 81 rfl,p.ou 4 82 rfl,p.ou 5 83 rfl,⟨aZ.mono p.grow v4,aZ.mono p.grow v7,C.grow p.grow⟩,trivial⟩) ?_;clear J I P s4 s7 i17 v4 v7 C;rintro a k ⟨⟨J,I,P⟩,s4,s7,i17,i81,i82,i83,⟨v4,v7,C⟩,_⟩;refine wp_block ?_;refine pC f3 (λs' c_ l_=>Bs (CFP cb rv F) k0 107 c_ l_/\Is u4 (c_.get 4) l_/\Is u7 (c_.get 7) l_/\IsV s'.1 (c_.get 17) l_/\Is rv (c_.get 81) l_/\IsL c.reg (c_.get 82) l_/\IsV s'.2 (c_.get 83) l_/\fu cb u4 l_/\aS r u7 l_/\CnO {c with dc:=dE c.dc m} cb dv pv rv F' l_) (λi' s' c_ l_=>i'=6/\Bs (CFP cb rv F) k0 107 c_ l_/\Is u4 (c_.get 4) l_/\Is u7 (c_.get 7) l_/\IsV s'.1 (c_.get 17) l_/\fu cb u4 l_/\aS r u7 l_/\CnO {c with dc:=dE c.dc m} cb dv pv rv F' l_) (λ _ _ _=>False) ?_ hQ ?_ ?_ ?_
 .intro Q1 W1 hgo hex hret;refine gj ?_ _ _ _ _ _ hf3 ⟨⟨J,I,P⟩,s4,s7,i17,i81,i82,i83,v4,v7,C⟩ Q1 W1 hgo hex hret;clear H hf3 hgo hex hret W1 hQ J I P s4 s7 i17 i81 i82 i83 v4 v7 C;intro s1 fl_ a k H hS Q hQ hgo hex hret;obtain⟨⟨J,I,P⟩,s4,s7,i17,i81,i82,i83,v4,v7,C⟩:=hS;unfold wJ at H;refine aK 1 (_::[]) rfl ⟨J,I,P⟩ (by kernel_rfl) ⟨o1 [(83,none),(82,none)] rfl λ _ _ h n=>jY rfl (up i83 h n.1) (up i82 h n.2.1),trivial⟩ [⟨4,Is u4⟩,⟨7,Is u7⟩,⟨_,_⟩,⟨81,Is rv⟩,⟨_,_⟩,⟨_,_⟩,⟨_,_⟩,⟨0,λ _ k=>fu cb u4 k/\aS r u7 k/\CnO {c with dc:=dE c.dc m} cb dv pv rv F' k⟩] (λb' q p=>⟨p.ke 4 rfl s4,p.ke 7 rfl s7,p.ke 17 rfl i17,p.ke 81 rfl i81,p.ke 82 rfl i82,p.ke 83 rfl i83,p.ou 0 84 rfl,⟨aZ.mono p.grow v4,aZ.mono p.grow v7,C.grow p.grow⟩,trivial⟩) ?_;clear J I P s4 s7 i17 i81 i82 i83 v4 v7 C;rintro a k ⟨⟨J,I,P⟩,s4,s7,i17,i81,i82,i83,i84,⟨v4,v7,C⟩,_⟩;refine wp_seq ?_;refine wp_cond_split (isBool i84) (λhc=>?_) (λhc=>?_);rotate_left;·rw[if_neg (by rw[hc];decide)]at H;refine wp_exit ?_;exact hex _ _ _ _ (ae H).symm ⟨rfl,⟨J,I,P⟩,s4,s7,i17,v4,v7,C⟩
  rw[if_pos hc]at H;refine wp_skip ?_;obtain⟨f,hf,H⟩:=bind_some H;obtain⟨n',hn',H⟩:=bind_some H;obtain⟨j,hj,H⟩:=bind_some H;refine wp_seq ?_;refine cut (λa' k'=>Bs (CFP cb rv F) k0 107 a' k'/\Is u4 (a'.get 4) k'/\Is u7 (a'.get 7) k'/\IsV n' (a'.get 17) k'/\Is rv (a'.get 81) k'/\IsL c.reg (a'.get 82) k'/\IsV s1.2 (a'.get 83) k'/\fu cb u4 k'/\aS r u7 k'/\CnO {c with dc:=dE c.dc m} cb dv pv rv F' k') ?_ hQ ?_
  .intro Q9 W9 w9;refine wp_block ?_;refine wp_seq ?_;refine cut (λa' k'=>Bs (CFP cb rv F) k0 107 a' k'/\Is u4 (a'.get 4) k'/\Is u7 (a'.get 7) k'/\IsV s1.1 (a'.get 17) k'/\aS f (a'.get 19) k'/\Is rv (a'.get 81) k'/\IsL c.reg (a'.get 82) k'/\IsV s1.2 (a'.get 83) k'/\fu cb u4 k'/\aS r u7 k'/\CnO {c with dc:=dE c.dc m} cb dv pv rv F' k') ?_ W9 ?_
   .intro Q2 W2 w2;refine gS 3 (⟨some (eE f),[(81,none),(83,none)]⟩::⟨some (IsV f),[(85,some 0)]⟩::⟨some (gV k.w.heap.size (⟨0,0,(⟨0,0,(⟨0,[]⟩:ax),0,0,false⟩:ai)⟩:aq)),[]⟩::[]) I (by kernel_rfl) ⟨ob1 rfl λa' _ g n=>dj rfl Tryz.underlying55 E5 (by rw[show a'.eval (.tmp 81)=rv from up i81 g n.1];exact(C.grow g).rg.rd) (up i83 g n.2.1) hf,ob1 rfl λ _ _ g n=>aR rfl E5 n.1,ob1 rfl λ _ _ h n=>gu _ h.size rfl z54,trivial⟩ W2 λb q p=>?_;have hgq:=J.then p.grow;have gs:=J.size;obtain⟨b19,j19,x19,z19⟩:(gV k.w.heap.size (⟨0,0,(⟨0,0,(⟨0,[]⟩:ax),0,0,false⟩:ai)⟩:aq)) (b.get 19) q:=p.ou 2 19 rfl;have j86:IsV f (b.get 86) q:=p.ou 1 86 rfl;have hlt:=C.lt;have nC:bj (CFP cb rv F') (Eq b19):=λi hi e=>by have:=(hlt i hi).1;subst e;omega
    have y19:Wr (CFP cb rv F) k0 (Eq b19):=λi e=> .inr (by subst e;omega);have T:=z19.jl;refine cG (i:=3) rfl rfl rfl rfl Ni (Upd.self (α:=aq)) j19 z19 j86 λq2 hch hz=>?_;have hle:=hch.le T;obtain⟨q3,hsh,jn⟩:=hz.gz;rw[<-hsh.w];rw[<-j19]at jn;have pp:∀{R:Value->K->Prop} [aW R] {v:Value},R v q->R v q3:=λ {R} _ {v}h=>aW.pers hsh.le (aW.pers hle h);exact aj (k:=q3) (w2 _ _ ⟨⟨(hgq.step hch y19).hand hsh y19,p.size.trans I,p.defers.trans P⟩,p.ke 4 rfl s4,p.ke 7 rfl s7,pp (p.ke 17 rfl i17),jn,p.ke 81 rfl i81,pp (p.ke 82 rfl i82),pp (p.ke 83 rfl i83),pp (aZ.mono p.grow v4),pp (aZ.mono p.grow v7),((C.grow p.grow).keep hch nC T).handed hsh nC⟩)
   clear J I P s4 s7 i17 i81 i82 i83 i84 v4 v7 C hf hc;rintro a k ⟨⟨J,I,P⟩,s4,s7,i17,i19,i81,i82,i83,v4,v7,C⟩;refine wp_seq ?_;refine cut (λa' k'=>Bs (CFP cb rv F) k0 107 a' k'/\Is u4 (a'.get 4) k'/\Is u7 (a'.get 7) k'/\IsV s1.1 (a'.get 17) k'/\Is rv (a'.get 81) k'/\IsL c.reg (a'.get 82) k'/\IsV s1.2 (a'.get 83) k'/\IsV (f.Counter==c.num) (a'.get 93) k'/\fu cb u4 k'/\aS r u7 k'/\CnO {c with dc:=dE c.dc m} cb dv pv rv F' k') ?_ W9 ?_;·intro Q2 W2 w2;refine region (m:=7) (⟨some (eE f.Counter),[(19,none)]⟩::⟨some (IsV f.Counter),[(87,some 0)]⟩::⟨some (Is (aw cb)),[(4,none)]⟩::⟨some (Is (aw cb)),[(89,some 2)]⟩::⟨some (cw cb 0),[(90,some 3)]⟩::⟨some (IsV c.num),[(91,some 4)]⟩::⟨some (IsV (f.Counter==c.num)),[(88,some 1),(92,some 5)]⟩::[]) lS I (by kernel_rfl) ⟨ob1 rfl λ _ _ g n=>bF rfl Sm (FQ _) (up i19 g n.1).ptr,ob1 rfl λ _ _ g n=>aR rfl ty3 n.1,ob1 rfl λa' _ g n=>fu.load rfl wX (show fu cb (a'.eval (.tmp 4)) _ by rw[show a'.eval (.tmp 4)=u4 from up s4 g n.1];exact aZ.mono g v4),ob1 rfl λ _ _ g n=>aO rfl ⟨_,n.1⟩ n.1,ob1 rfl λ _ _ g n=>aV rfl EU n.1,ob1 rfl λ _ _ g n=>cu (bV rfl MF n.1 (C.grow g).box rfl) λv k' _ h=>au.2 h,ob1 rfl λ _ _ g n=>Eb rfl n.1 n.2.1,trivial⟩ W2 λb q p=>?_;exact aj (k:=q) (w2 _ _ ⟨Bs.post ⟨J,I,P⟩ p,p.ke 4 rfl s4,p.ke 7 rfl s7,p.ke 17 rfl i17,p.ke 81 rfl i81,p.ke 82 rfl i82,p.ke 83 rfl i83,p.ou 6 93 rfl,aZ.mono p.grow v4,aZ.mono p.grow v7,C.grow p.grow⟩)
   clear J I P s4 s7 i17 i19 i81 i82 i83 v4 v7 C;rintro a k ⟨⟨J,I,P⟩,s4,s7,i17,i81,i82,i83,i93,v4,v7,C⟩;refine wp_cond_split (isBool i93) (λhc=>?_) (λhc=>?_);·rw[if_pos hc]at hn';obtain⟨y,hy,hn'⟩:=bind_some hn';obtain rfl:=ae hn';refine gS 3 (_::_::_::[]) I (by kernel_rfl) ⟨mu rfl i17,o1 [(94,some 0)] rfl λ _ _ h n=>iK rfl n.1 (Gb.cI rfl) hy,cp 1 rfl rfl,trivial⟩ W9 λb q p=>?_;exact aj (k:=q) (w9 _ _ ⟨Bs.post ⟨J,I,P⟩ p,p.ke 4 rfl s4,p.ke 7 rfl s7,p.ou 2 17 rfl,p.ke 81 rfl i81,p.ke 82 rfl i82,p.ke 83 rfl i83,aZ.mono p.grow v4,aZ.mono p.grow v7,C.grow p.grow⟩)
   ·rw[if_neg (by rw[hc];decide)]at hn';obtain rfl:=ae hn';refine wp_skip ?_;exact w9 _ _ ⟨⟨J,I,P⟩,s4,s7,i17,i81,i82,i83,v4,v7,C⟩
  clear J I P s4 s7 i17 i81 i82 i83 i84 v4 v7 C hn';rintro a k ⟨⟨J,I,P⟩,s4,s7,i17,i81,i82,i83,v4,v7,C⟩;refine cut (λa' k'=>Bs (CFP cb rv F) k0 107 a' k'/\Is u4 (a'.get 4) k'/\Is u7 (a'.get 7) k'/\IsV n' (a'.get 17) k'/\Is rv (a'.get 81) k'/\IsL c.reg (a'.get 82) k'/\IsV j (a'.get 83) k'/\fu cb u4 k'/\aS r u7 k'/\CnO {c with dc:=dE c.dc m} cb dv pv rv F' k') ?_ hQ ?_;·intro Q2 W2 w2;refine gS 2 (_::_::[]) I (by kernel_rfl) ⟨o1 [(83,none)] rfl λ _ _ h n=>iK rfl (up i83 h n.1) (Gb.cI rfl) hj,cm 0 rfl rfl,trivial⟩ W2 λb q p=>?_;exact aj (k:=q) (w2 _ _ ⟨Bs.post ⟨J,I,P⟩ p,p.ke 4 rfl s4,p.ke 7 rfl s7,p.ke 17 rfl i17,p.ke 81 rfl i81,p.ke 82 rfl i82,p.ou 1 83 rfl,aZ.mono p.grow v4,aZ.mono p.grow v7,C.grow p.grow⟩)
  rintro a k h;exact hgo _ _ _ (ae H).symm h
 ·rintro _ _ _ _ h;exact h.elim
 ·rintro _ _ _ rfl _;simp at H
 clear hf3 J I P s4 s7 i17 i81 i82 i83 v4 v7 C;rintro _ s4_ a k rfl ⟨rfl,⟨J,I,P⟩,s4,s7,i17,v4,v7,C⟩;dsimp only at H;obtain⟨o,ho,H⟩:=bind_some H;obtain⟨c',hc',H⟩:=bind_some H;obtain rfl:=ae H;refine wp_seq ?_;refine cut (λa' k'=>Bs (CFP cb rv F) k0 107 a' k'/\GrP k0 cb dv pv rv F c' k') ?_ hQ ?_
 .intro Q1 W1 w1;refine region (m:=9) (⟨some (Is (aw cb)),[(4,none)]⟩::⟨some (Is (aw cb)),[(4,none)]⟩::⟨some (Is (aw cb)),[(98,some 1)]⟩::⟨some (cw cb 0),[(99,some 2)]⟩::⟨some (IsV c.num),[(100,some 3)]⟩::_::⟨some (IsV r),[(7,none)]⟩::⟨some (IsV o),[(103,some 6)]⟩::⟨some (IsV (⟨c.num,s4_.1,o⟩:aq)),[(101,some 4),(102,some 5),(104,some 7)]⟩::[]) lS I (by kernel_rfl) ⟨ob1 rfl λa' _ g n=>fu.load rfl wX (show fu cb (a'.eval (.tmp 4)) _ by rw[show a'.eval (.tmp 4)=u4 from up s4 g n.1];exact aZ.mono g v4),ob1 rfl λa' _ g n=>fu.load rfl wX (show fu cb (a'.eval (.tmp 4)) _ by rw[show a'.eval (.tmp 4)=u4 from up s4 g n.1];exact aZ.mono g v4),ob1 rfl λ _ _ g n=>aO rfl ⟨_,n.1⟩ n.1,ob1 rfl λ _ _ g n=>aV rfl EU n.1,ob1 rfl λ _ _ g n=>cu (bV rfl MF n.1 (C.grow g).box rfl) λv k' _ h=>au.2 h,mu rfl i17,ob1 rfl λa' _ g n=>aR rfl IQ (by rw[show a'.eval (.tmp 7)=u7 from up s7 g n.1];exact(aZ.mono g v7:aS r u7 _).ptr),ob1 rfl λ _ _ g n=>bU rfl Tryz.call49 (R3 n.1 ho),ob1 rfl λ _ _ g n=>fF (ps:=[(0, .tmp 101),(1, .tmp 102),(2, .tmp 104)]) rfl (FO n.1 n.2.1 n.2.2.1),trivial⟩ W1 λb q p=>?_;have hgq:=J.then p.grow;have hsb:=p.size.trans I;have gq:=hgq.size;have Cq:=C.grow p.grow;have j97:b.get 97=aw cb:=p.ou 0 97 rfl;have j105:IsV (⟨c.num,s4_.1,o⟩:aq) (b.get 105) q:=p.ou 8 105 rfl
  have wF:Wr (CFP cb rv F) k0 (CFP cb rv F'):=λi hi=>by
   rcases hi with h|h|h;.exact .inl (.inl h)
   .exact(hF' i h).imp (λh=> .inr (.inl h)) id
   .exact .inl (.inr (.inr h))
  refine iH (F:=CFP cb rv F') (R:=λ _ k=>∃rv',CnO c' cb dv pv rv' F' k/\∀i,obF rv' i->obF rv i∨q.w.heap.size<=i) (i:=9) (d:=106) (f:=34) (as_:=[.tmp 97, .tmp 105]) rfl rfl rfl rfl (by rw[hsb];decide) Tryz.call34 W1 (by show Calls _ _ #[b.get 97,b.get 105] _ _;rw[j97];exact NC Cq j105 hc') λb2 q2 U W z E hres=>?_;obtain⟨rv',C2,hrv'⟩:=hres;exact aj (k:=q2) (w1 _ _ ⟨⟨hgq.step E wF,U.trans hsb,W.trans (p.defers.trans P)⟩,rv',F',C2,hF',λi hi=>(hrv' i hi).imp id (λh=>bB gq h)⟩)
 clear J I P s4 s7 i17 v4 v7 C;rintro a k ⟨⟨J,I,P⟩,rv',F2,C,hF2,hrv'⟩;refine aK 1 (⟨some (IsI 0),[]⟩::[]) rfl ⟨J,I,P⟩ (by kernel_rfl) ⟨aI rfl rfl,trivial⟩ [⟨8,IsI 0⟩,⟨0,λ _ k=>CnO c' cb dv pv rv' F2 k⟩] (λb q p=>⟨p.ou 0 8 rfl,C.grow p.grow,trivial⟩) ?_;clear J I P C;rintro a k ⟨⟨J,I,P⟩,i8,C,_⟩;refine wp_ret ?_;exact cZ rfl P J (show gg _ _ _ (.tmp 8) (λv k=>IsV (0:Int) v k/\GrP k0 cb dv pv rv F c' k)from⟨i8,rv',F2,C,hF2,hrv'⟩)
theorem O1{f:K}{e:Value}{y:List aq}{q:List aq×List aq}(i0:ah 0 54 y e f)(j:BJ y=some q):Calls Tryz.prog 33 #[e] f.w (cr (obF e) f λv k=>ah 0 54 q.1 e k/\IsV q.2 v k):=lK (V5.ok.ok f [e] e e () y () q gok ⟨rfl,trivial⟩ i0 trivial (λ_ _ h=>h.elim) j) (λb=>⟨λh=>h.elim id False.elim, .inl⟩) λv m _ g=>⟨g.tu,(gQ (T:=tb) (t:= .list (.st 28)) (x:=q.2)).1 g.res⟩
def vr(c:CC):Option (CC×List aq):=(BJ c.reg).bind λq=>some ({c with reg:=q.1},q.2)
theorem GA{E:K}{c:CC}{b:Nat}{x y e:Value}{F:FP}{q:CC×List aq}(C:CnO c b x y e F E)(V:vr c=some q):Calls Tryz.prog 12 #[aw b] E.w (cr (CFP b e F) E λv k=>IsV q.2 v k/\CnO q.1 b x y e F k):=by
 unfold vr at V;obtain⟨u,hp,V⟩:=bind_some V;obtain rfl:=ae V;refine cO Tryz.func12 rfl Tryz.ntmps12 (show 1<=8 by decide) λa k O G H ha=>?_;obtain⟨e0,_⟩:=ha;have i0:Is (aw b) (a.get 0) k:=e0;have I:Chg (CFP b e F) E k:=by rw[O];exact Chg.refl _ E
 replace C:CnO c b x y e F k:=by rw[O];exact C
 have hQ:Gb.LetsOut (bodyPost Tryz.prog Tryz.f12 (cr (CFP b e F) E λv k=>IsV u.2 v k/\CnO {c with reg:=u.1} b x y e F k)):=ch;clear e0;refine aK 1 (⟨some ij,[]⟩::[]) rfl ⟨I,G,H⟩ (by kernel_rfl) ⟨ob1 rfl λb q h n=>aQ rfl je,trivial⟩ [⟨_,_⟩,⟨0,λ _ k=>CnO c b x y e F k⟩] (λb q p=>⟨p.ke 0 rfl i0,C.grow p.grow,trivial⟩) ?_;clear i0 C I G H;rintro a k ⟨⟨I,G,H⟩,i0,C,_⟩;replace C:CnO c b x y e F k:=C;refine wp_seq ?_;refine cut (λa' W=>Bs (CFP b e F) E 8 a' W/\IsV u.2 (a'.get 2) W/\CnO {c with reg:=u.1} b x y e F W) ?_ hQ ?_;·intro Q1 W1 w1;refine gS 4 (_::⟨some (Is (aw b)),[(3,some 0)]⟩::⟨some (cw b 3),[(4,some 1)]⟩::⟨some (Is e),[(5,some 2)]⟩::[]) G (by kernel_rfl) ⟨mu rfl i0,ob1 rfl λ _ _ g n=>aO rfl ⟨_,n.1⟩ n.1,ob1 rfl λ _ _ g n=>aV rfl oR n.1,ob1 rfl λ _ _ g n=>bV rfl zz n.1 (C.grow g).box rfl,trivial⟩ W1 λb1 q p=>?_;have hgq:=I.then p.grow;have J:=p.size.trans G;have m:=C.grow p.grow;have j6:b1.get 6=e:=p.ou 3 6 rfl;have M:=m.rg.jl;refine iH (F:=obF e) (R:=λv k=>ah 0 54 u.1 e k/\IsV u.2 v k) (i:=4) (d:=7) (f:=33) (as_:=[.tmp 6]) rfl rfl rfl rfl (by rw[J];decide) Tryz.call33 W1 (by show Calls _ _ #[b1.get 6] _ _;rw[j6];exact O1 m.rg hp) λb2 q2 z P hoth2 j Q=>?_;obtain⟨O2,j7⟩:=Q;refine dg (i:=5) (d:=2) rfl rfl (.inl rfl) rfl (by rw[z,J];decide) λb3 T U e3 hoth3=>?_;refine aj (k:=q2) (w1 _ _ ⟨⟨hgq.step j (λi h=> .inl (.inr (.inr h))),T.trans (z.trans J),U.trans (P.trans (p.defers.trans H))⟩,?_,⟨m.box.keep j m.n2 M,aW.pers (j.le M) m.od,Rsc.keep m.dk j (λi hi h=>m.ap i hi h) M,O2,m.n1,m.n2,m.ap⟩⟩);show IsV u.2 (b3.get 2) q2;rw[e3];exact j7
 clear I G H i0 C;rintro a k ⟨⟨I,G,H⟩,i2,C⟩;refine wp_ret ?_;exact cZ rfl H I (show gg _ _ _ (.tmp 2) (λv k=>IsV u.2 v k/\CnO {c with reg:=u.1} b x y e F k)from⟨i2,C⟩)
def fnC(m:List Pm)(cod:List Tp)(run:HL tbg.S (eY m)->CC->Option (CC×HL tbg.S cod)):FnR tbg:=⟨m, .c 0, .n, .n,cod,Option CC×HL tbg.S cod,λr=>(r.1,(),r.2),λx (y:Option CC) _=>y.bind λc=>(run x c).bind λr=>some (some r.1,r.2)⟩
theorem Ji{f:FuncId}{H:List Pm}{cod:List Tp}{run:HL tbg.S (eY H)->CC->Option (CC×HL tbg.S cod)}(R:∀args w,(callFunc f args).run Tryz.prog w= .ok (.enter f args) w)(ok:∀(e:K)(I:List Value)(g J:Value)(F:FP)(x:HL tbg.S (eY H))(c:CC)(r:CC×HL tbg.S cod),GOk tbg e->PIs H x g J I e->CnS c F g e->run x c=some r->Calls Tryz.prog f I.toArray e.w (cr F e λu k=>(∃G,CnS r.1 G g k/\Wr F e G)/\(mH cod r.2).is ⟨#[],[]⟩ u k)):xE Tryz.prog f (fnC H cod run):=by
 refine⟨R,λe I g J x y z q U hi V hz W M=>?_⟩;obtain⟨c,O,M⟩:=bind_some (show Option.bind (y:Option CC) _=some q from M);obtain⟨r,j,hq⟩:=bind_some M;obtain rfl:=ae hq;obtain⟨F,E⟩:=V;have e1:=iB (T:=tbg) (m:=0) E;rw[O]at E;have E:CnS c F g e:=E;refine lK (ok e I g J F x c r U hi E j) (λb=>?_) λu P hch ⟨⟨G,Q,hw⟩,hv⟩=>?_;·show F b↔Rk.fp tbg (.c 0) g e b∨False;rw[e1];simp
 ·have e2:=iB (T:=tbg) (m:=0) (x:=some r.1) (F:=G) (v:=g) (k:=P) Q;refine⟨⟨G,Q⟩,hv,λb _ h=>Ae b h,λb h=>?_,λb h=>absurd h (Ae b)⟩;have h:Rk.fp tbg (.c 0) g P b:=h;rw[e2]at h;show(Rk.fp tbg (.c 0) g e b∨False)∨_;rw[e1];exact(hw b h).imp .inl id
theorem K9{t:Tp}{x:tbg.D t}{u:Value}{k:K}(h:IsV (α:=tbg.D t) x u k):(mH (T:=tbg) [t] x).is ⟨#[],[]⟩ u k:=gQ.2 h
def kr9:FkR tbg Tryz.prog:=⟨9,fnC [.tu, .v (.list (.st 28))] [.int] (λx c=>JO c x),Ji Tryz.call9 λI J M O F x c r P h g j=>by obtain⟨m,rfl,h1⟩:=h.tu;obtain⟨Q,q,rfl,u,w⟩:=h1.v;obtain rfl:=w.nil;obtain⟨b,y,z,R,E,rfl,C,rfl⟩:=g;exact iZ (Pn C u j) (λ _ h=>h) λv T _ ⟨⟨e,G,f⟩,H⟩=>⟨⟨_,⟨b,y,z,e,E,rfl,G,rfl⟩,λi hi=>by
 rcases hi with h|h|h;.exact .inl (.inl h)
 .exact .inl (.inr (.inl h))
 .exact(f i h).imp (λh=> .inr (.inr h)) id⟩,K9 H⟩⟩
def Un:FkR tbg Tryz.prog:=⟨12,fnC [.tu] [.list (.st 28)] (λ _ c=>vr c),Ji Tryz.call12 λz E G H F x c r I h e f=>by obtain⟨g,rfl,h1⟩:=h.tu;obtain rfl:=h1.nil;obtain⟨b,j,m,q,u,rfl,C,rfl⟩:=e;exact iZ (GA C f) (λ _ h=>h) λv J _ ⟨w,y⟩=>⟨⟨_,⟨b,j,m,q,u,rfl,y,rfl⟩,λi hi=> .inl hi⟩,K9 w⟩⟩
def S5:FkR tbg Tryz.prog:=⟨10,fnC [.tu, .v (.st 7), .v (.list (.st 29)), .v (.st 29)] [.int] (λx c=>wk c x.1 x.2.1 x.2.2),Ji Tryz.call10 λR T U V F x c r G h j m=>by obtain⟨q,rfl,h1⟩:=h.tu;obtain⟨W,u,rfl,w,y⟩:=h1.v;obtain⟨v2,z,rfl,i2,E⟩:=y.v;obtain⟨v3,H,rfl,i3,I⟩:=E.v;obtain rfl:=I.nil;obtain⟨b,J,M,rv,F0,rfl,C,rfl⟩:=j;exact iZ (NY G C w i2 i3 m) (λ _ h=>h) λv k' _ ⟨O,e,P,Q,f,g⟩=>⟨⟨_,⟨b,J,M,e,P,rfl,Q,rfl⟩,λi hi=>by
 rcases hi with h|h|h;.exact .inl (.inl h)
 .exact(f i h).imp (λh=> .inr (.inl h)) id
 .exact(g i h).imp (λh=> .inr (.inr h)) id⟩,K9 O⟩⟩
def kr8:FkR tbg Tryz.prog:=⟨8,⟨[.v .int, .v (.list .int), .v (.list (.st 32))], .n, .n, .c 0,[.int],Option CC×Int,λr=>((),r.1,r.2),λx _ _=>uN x.1 x.2.1 x.2.2⟩,⟨Tryz.call8,λU V W u2 x y z q hG hi hy hz j w=>by
 obtain⟨v1,E,rfl,H,h1⟩:=hi.v;obtain⟨v2,I,rfl,i2,J⟩:=h1.v;obtain⟨v3,M,rfl,i3,O⟩:=J.v;obtain rfl:=O.nil;refine lK (Lw H i2 i3 w) (λb=>?_) λu f P ⟨a,b,e,⟨G,g,Q⟩,h⟩=>?_;·show False↔False∨False;simp
 ·have R:=iB (T:=tbg) (m:=0) (x:=q.1) (F:=G) (v:=a) (k:=f) g;refine⟨trivial,⟨a,[b],e,⟨G,g⟩,h,trivial⟩,λb h=>h.elim,λb h=>h.elim,λb h=>?_⟩;subst e;have h:Rk.fp tbg (.c 0) a f b:=h;rw[R]at h;exact .inr (Q b h)⟩⟩
theorem OO{m:K}{c:CC}{b:Nat}{y e z:Value}{F:FP}(C:CnO c b y e z F m):Calls Tryz.prog 18 #[aw b] m.w (Ret m (Is e)):=by
 refine Ret.ofC ?_;refine cO Tryz.func18 rfl Tryz.ntmps18 (show 1<=7 by decide) λa k u x f E=>?_;obtain⟨e0,_⟩:=E;have i0:Is (aw b) (a.get 0) k:=e0;have j:Chg noF m k:=by rw[u];exact Chg.refl _ m
 replace C:CnO c b y e z F k:=by rw[u];exact C
 clear e0;refine aK 1 (⟨some (Is (.pointer none)),[]⟩::[]) rfl ⟨j,x,f⟩ (by kernel_rfl) ⟨ob1 rfl λ _ _ h n=>aQ rfl rfl,trivial⟩ [⟨_,_⟩,⟨0,λ _ k=>CnO c b y e z F k⟩] (λG q p=>⟨p.ke 0 rfl i0,C.grow p.grow,trivial⟩) ?_;clear j x f i0 C;rintro a k ⟨⟨j,x,f⟩,i0,C,_⟩;replace C:CnO c b y e z F k:=C;refine aK 5 (_::⟨some (Is (aw b)),[(3,some 0)]⟩::⟨some (cw b 2),[(4,some 1)]⟩::⟨some (Is e),[(5,some 2)]⟩::_::[]) rfl ⟨j,x,f⟩ (by kernel_rfl) ⟨mu rfl i0,ob1 rfl λ _ _ g n=>aO rfl ⟨_,n.1⟩ n.1,ob1 rfl λ _ _ g n=>aV rfl zX n.1,ob1 rfl λ _ _ g n=>bV rfl J3 n.1 (C.grow g).box rfl,cp 3 rfl rfl,trivial⟩ [⟨2,Is e⟩] (λG q p=>⟨p.ou 4 2 rfl,trivial⟩) ?_;rintro a k ⟨⟨j,x,f⟩,i2,_⟩;refine wp_ret ?_;exact cZ rfl f j i2
theorem zm{f:FuncId}{x:Array Value}{k:K}{G:FP}{R S:Pred}(h:Calls Tryz.prog f x k.w (Ret k R))(z:∀v m,bE k m->R v m->S v m):Calls Tryz.prog f x k.w (cr G k S):=by refine Calls.mono h λe w q=>?_;cases e with|returned v=>obtain⟨m,h1,y,E⟩:=q;exact⟨m,h1,Chg.of y,z _ _ y E⟩;|panicked c=>exact q.elim;|outgrown=>exact q.elim
def Xb:FkR tbg Tryz.prog:=⟨18,⟨[.tk], .n, .c 0, .c 1,[],Option DC,λr=>((),r,()),λ _ _ (z:Option CC)=>z.bind λc=>some (some c.dc)⟩,⟨Tryz.call18,λG Q R H x y z q U hi V I J e=>by obtain⟨c,j,e⟩:=bind_some (show Option.bind (z:Option CC) _=some q from e);obtain rfl:=ae e;obtain⟨M,rfl,h1⟩:=hi.tk;obtain rfl:=h1.nil;obtain⟨F,u⟩:=I;have e1:=iB (T:=tbg) (m:=0) u;rw[j]at u;obtain⟨b,W,O,rv,w,rfl,C,rfl⟩:=(show CnS c F H G from u);refine zm (OO C) λv E g P=>?_;obtain rfl:v=O:=P;have D:mI c.dc w v E:=Rsc.keep C.dk (Chg.of (F:=noF) g) (λ _ _ f=>f) (λ _ f=>f.elim);refine⟨trivial,⟨w,D⟩,λb h=>h.elim,λb h=>h.elim,λb h=>?_⟩;have h:Rk.fp tbg (.c 1) v E b:=h;rw[iB (T:=tbg) (m:=1) (x:=some c.dc) (F:=w) (v:=v) (k:=E) D]at h;show(False∨Rk.fp tbg (.c 0) _ G b)∨_;rw[e1];exact .inl (.inr (.inr (.inl h)))⟩⟩
theorem TD{d:FnQ tbg}{u v:Value}{k:K}{r:HL tbg.S d.cod}(h:(mH (T:=tbg) d.cod r).is ⟨#[],[]⟩ v k) (hs:d.sq=false:=by rfl):bif d.sq then SPV tbg d.m u v k else(mH (T:=tbg) d.cod r).is ⟨#[],[]⟩ v k:=by rw[hs];exact h
theorem XV{d:FnQ tbg}{u v:Value}{k:K}{r:HL tbg.S d.cod}(h:SPV tbg d.m u v k)(hs:d.sq=true:=by rfl):bif d.sq then SPV tbg d.m u v k else(mH (T:=tbg) d.cod r).is ⟨#[],[]⟩ v k:=by rw[hs];exact h
def Vz:FkQ tbg Tryz.prog:=⟨26,⟨false,1,[.str],[.int],λ (y:Option DC) x=>y.bind λc=>some (oA c x)⟩,⟨Tryz.call26,λk0 u vs z F x r hG hF hx hr=>by obtain⟨c,hyc,hr⟩:=bind_some (show Option.bind (z:Option DC) _=some r from hr);rw[hyc]at hF;obtain⟨v1,rfl,i1⟩:=hx.one;obtain rfl:=ae hr;exact tB (FX hF i1) λv k h=>TD (K9 h)⟩⟩
def mkC(wr:Bool)(f:FuncId)(m cod:List Tp)(run:HL tbg.S m->Option (HL tbg.S cod))(j:List (Fk tbg Tryz.prog))(g:List (FkR tbg Tryz.prog))(q:List (FkQ tbg Tryz.prog))(own:List Nat)(e:Func)(h:Hn tbg)(u:Tryz.prog.funcs[f]?=some e)(y:∀args w,(callFunc f args).run Tryz.prog w= .ok (.enter f args) w)(z:e.body=some (body e))(E:Nat.ble m.length e.ntmps=true)(F:∀x,evF ⟨Tryz.prog,tid,eqs,gx j,fN g,wr,own,e.results.toList,e.ntmps,vU,λc=>c∈fQ (body e),gE q⟩ (body e) h m cod x=run x):Fk tbg Tryz.prog:=⟨f,⟨m,cod,run⟩,E9 j g q wr own e vU (qq rfl) h (T:=tbg) MR lS rfl u y z E F⟩
def J5(y:Option CC)(l:List aq):Option (Option CC×Int):=y.bind λc=>(JO c l).bind λr=>some (some r.1,r.2)
def yk(y:Option CC)(t:aP)(g:List ai)(r:ai):Option (Option CC×Int):=y.bind λc=>(wk c t g r).bind λr=>some (some r.1,r.2)
def Wi(y:Option CC):Option (Option CC×List aq):=y.bind λc=>(vr c).bind λr=>some (some r.1,r.2)
def k6:=mkC false 6 [] [.bool] (λ _=>some true) [k24.lift glv giv gl0,k25.lift glv giv gl0] [kr8,kr9,S5,Un,Xb] [Vz] [5] Tryz.f6 .n Tryz.func6 Tryz.call6 rfl rfl λx=>by kernel_rfl
def LZ(district:List Int)(r:ai)(s:Bool×Int):Option (aY (Bool×Int) Bool):=if decide (s.2<(district.length:Int))then(if s.1 then some true else(aL district s.2).bind λn=>some (n==r.ax.Lot)).bind λb=>(tD s.2 1).bind λj=>some (.go (b,j))else some (.ex 0 s)
def vW(G:aP)(j:List Int)(H:List aG)(x F:ai):Option Bool:=(rE G [x,F]).bind λI=>if(((!I)||decide (5<(j.length:Int)))||decide (3<(H.length:Int)))then some true else(uN 2 j H).bind λc=>if c.1.isNone then some true else(ar (LZ j x) (j.length+1) (false,0)).bind λf=>match f with| .go _=>none| .ret b=>some b| .ex _ s=>(J5 c.1 [(⟨2,1,x⟩:aq)]).bind λq=>(yk q.1 G [] x).bind λe=>if((q.2!=25)||((e.2==0)&&(!s.1)))then some false else if(e.2!=0)then some true else(yk e.1 G [] {F with Id:=x.Id}).bind λm=>if(((m.2!=5)&&(m.2!=1))&&(m.2!=27))then some false else(yk m.1 G [{F with Id:=x.Id}] x).bind λE=>if(E.2!=5)then some false else(J5 E.1 [(⟨2,1,{F with Id:=x.Id}⟩:aq)]).bind λf=>(J5 f.1 [(⟨1,4,{F with Id:=x.Id}⟩:aq)]).bind λg=>(tD F.Holder 1).bind λw=>(J5 g.1 [(⟨1,4,{{F with Id:=x.Id}with Holder:=w}⟩:aq)]).bind λh=>((pB {F with Id:=x.Id} x).bind λy=>some ((f.2==0)==y)).bind λu=>if(((u&&((f.2==0)||(f.2==25)))&&(g.2==0))&&(h.2==25))then(Wi h.1).bind λz=>some ((z.2.length:Int)==2)else some false
def k3:=mkC true 3 [.st 7, .list .int, .list (.st 32), .st 29, .st 29] [.bool] (λx=>vW x.1 x.2.1 x.2.2.1 x.2.2.2.1 x.2.2.2.2) [k6,k7.lift glv giv gl0,k11.lift glv giv gl0] [kr8,kr9,S5,Un] [] [9,21] Tryz.f3 (.s .n (.s .n (.s .n (.s .n (.s .n (.s .n (.s (.s .n (.l [] [(14, .v .bool),(15, .v .int)] [(0,[15],[])] (fL [1]) .n)) .n))))))) Tryz.func3 Tryz.call3 rfl rfl λx=>by kernel_rfl
end Go.Proofs.YtlckpjpbladknaaGreat
namespace Go.Proofs.YtlckpjpbladknaaGreat.Pl
open Go.Gb
def rin(r:ay)(x y:Int):Prop:=(r.X0<=x/\x<r.X1)/\r.Y0<=y/\y<r.Y1
instance(r:ay)(x y:Int):Decidable (rin r x y):=inferInstanceAs(Decidable (_/\_))
def cells(l:List ay)(x y:Int):Prop:=∃r∈l,rin r x y
def VR(r:ay):Prop:=0<=r.X0/\r.X0<r.X1/\r.X1<=1048576/\0<=r.Y0/\r.Y0<r.Y1/\r.Y1<=1048576
instance(r:ay):Decidable (VR r):=inferInstanceAs (Decidable (_/\_))
abbrev Col:=iJ Bool
def aC(l:List ag):Col:=l.map λs=>(s.from_,s.to_,true)
theorem tI(a b:List ag):aC (a++b)=aC a++aC b:=gb
theorem tt:∀{a b:List ag},aC a=aC b->a=b|[],[],_=>rfl|⟨f,t⟩::a,_::b,h=>by simp[aC]at h;obtain⟨⟨rfl,rfl,_⟩,h⟩:=h;rw[tt h]
theorem ft(r:ay):eZ r=some (decide (VR r)):=by unfold eZ;congr 1;unfold VR;grind
def mJ(out:List ag)(s:ag):List ag:=match out.getLast? with|some t=>if s.from_<=t.to_ then out.dropLast++[⟨t.from_,max t.to_ s.to_⟩]else out++[s]|none=>[s]
theorem Jo{out:List ag}{s:ag}(g:Canon false (aC out))(w:s.from_<s.to_)(j:∀t∈out,t.from_<=s.from_):Canon false (aC (mJ out s))/\(∀y,cC false (aC (mJ out s)) y=true↔cC false (aC out) y=true∨(s.from_<=y/\y<s.to_))/\(∀t∈mJ out s,t.from_<=s.from_)/\(mJ out s).length<=out.length+1:=by
 rcases vI out with rfl|⟨o,t,rfl⟩;·refine⟨⟨w,by simp,trivial,trivial⟩,λy=>?_,λt m=>by simp[mJ]at m;subst m;exact gf _,by simp[mJ]⟩;simp[mJ,aC,cC]
 · rw[vM]at*;have m:=j t (by simp);have e:aC (o++[t])=aC o++[(t.from_,t.to_,true)]:=by simp[aC]
   rw[e]at g⊢;obtain⟨h1,F,x⟩:=wN g;have q:=wL g;unfold mJ;simp only[List.getLast?_append,List.getLast?_singleton,Option.some_or,List.dropLast_concat];split
   · rename_i z;rw[tI];refine⟨mU (tc g) x (show t.from_<max t.to_ s.to_ by omega) (by simp),λy=>?_,λu f=>?_,by simp⟩;·show cC false (aC o++[(t.from_,max t.to_ s.to_,true)]) y=true↔_;rw[jy q,jy q];grind
     grind
   · rename_i z;rw[tI,e];have E:qV (aC o++[(t.from_,t.to_,true)]) s.from_:=by
      intro r h;rcases dq.1 h with h|h;.have:=q r h;omega
      .simp at h;subst h;show t.to_<=_;omega
     refine⟨mU g (λr h=>by simp at h;subst h;exact .inl (by show t.to_<_;omega)) w (by simp),λy=>?_,λu f=>?_,by simp⟩;·show cC false (_++[_]) y=true↔_;rw[jy E];grind
     · rcases dq.1 f with f|f;.exact j u f
       .simp at f;subst f;exact gf _
theorem BC:∀(r out:List ag),Canon false (aC out)->(∀s∈r,s.from_<s.to_)->r.Pairwise (λa b=>a.from_<=b.from_)->(∀t∈out,∀s∈r,t.from_<=s.from_)->Canon false (aC (r.foldl mJ out))/\(∀y,cC false (aC (r.foldl mJ out)) y=true↔cC false (aC out) y=true∨∃s∈r,s.from_<=y/\y<s.to_)/\(r.foldl mJ out).length<=out.length+r.length|[],out,f,_,_,_=>⟨f,λy=>by simp,by simp⟩|s::r,out,f,j,m,g=>by obtain⟨h1,x,q,z⟩:=Jo f (j s (by simp)) (λt h=>g t h s (by simp));have e:=km.1 m;obtain⟨E,F,k3⟩:=BC r _ h1 (λt h=>j t (by simp[h])) e.2 (λt h u w=>by have:=q t h;have:=e.1 u w;omega);grind
def Bg(l:List ay)(x:Int):List ag:=(l.filter λr=>decide (r.X0<=x)&&decide (x<r.X1)).map λr=>⟨r.Y0,r.Y1⟩
theorem L6{l:List ay}{x:Int}(h:l.length<=100000):ar (jN l x) (l.length+1) (([]:List ag),0)=some (.ex 0 (Bg l x,(l.length:Int))):=by
 refine(dz (k:=0) (l:=l) _ (λs r=>if(decide (r.X0<=x)&&decide (x<r.X1))then s++[⟨r.Y0,r.Y1⟩]else s) (λi s=>s.length<=i) ?_ ?_ (bY _) (by omega)).1.trans ?_
 · intro i hi s I;constructor
   · unfold jN;rw[if_pos (by simpa using hi),af hi,qb];split;.rw[bS (by simp;omega),qb,qb,an (by omega),qb]
     .rw[qb,an (by omega),qb]
   · split;.simp;omega
     .omega
 .intro s _;unfold jN;rw[if_neg (by simp)]
 .rw[foldl_filterMap _ _];rfl
theorem LH{r:List ag}(f:r.length<=100000):ar (gH r) (r.length+1) (([]:List ag),0)=some (.ex 2 (r.foldl mJ [],(r.length:Int))):=by
 refine(dz (k:=2) (l:=r) _ mJ (λi s=>s.length<=i) ?_ ?_ (bY _) (by omega)).1
 · intro i hi s I;rcases vI s with rfl|⟨o,t,rfl⟩
   · constructor;·unfold gH;dsimp only;rw[if_pos (by simpa using hi),af hi,qb,if_neg (by simp),qb,if_neg (by simp),bS (by simp),qb,qb,an (by omega),qb];rfl
     .simp[mJ]
   · rw[vM]at*;have e:o.length+1<=i:=by simpa using I
     constructor
     · unfold gH;dsimp only;rw[if_pos (by simpa using hi),af hi,qb,if_pos (by simp)];simp only[Fc (l:=o) (x:=t) (by omega),zr (l:=o) (x:=t) rfl,qb];by_cases h:r[i].from_<=t.to_;·rw[if_pos (by simpa using h),Au (by simp),qb,an (by omega),qb];simp[mJ,h]
       ·rw[if_neg (by simpa using h),bS (by simp;omega),qb,qb,an (by omega),qb];simp[mJ,h]
     ·unfold mJ;grind
 ·intro s _;unfold gH;dsimp only;rw[if_neg (by simp)]
structure OG(l:List ay)(x:Int)(c:List ag):Prop where
 canon:Canon false (aC c)val:∀y,cC false (aC c) y=true↔cells l x y
 len:c.length<=l.length
theorem FJ{l:List ay}{x:Int}(u:∀r∈l,VR r)(w:l.length<=100000):∃c,nv l x=some c/\OG l x c:=by
 have z:(Bg l x).length<=l.length:=by unfold Bg;rw[jv];exact yi _ _
 obtain⟨r,E,j,e⟩:=Bw (l:=Bg l x) (by omega);have F:=j.length_eq;have f:∀s∈r,s.from_<s.to_:=by intro s e;have:=j.mem_iff.1 e;simp[Bg,aM,bQ]at this;obtain⟨q,⟨g,_⟩,rfl⟩:=this;exact(u q g).2.2.2.2.1
 obtain⟨h1,G,H⟩:=BC r [] trivial f e (by simp);refine⟨r.foldl mJ [],?_,h1,λy=>?_,by simp at H;omega⟩;.unfold nv;rw[L6 w];dsimp;rw[E,qb,LH (by omega),qb]
 · rw[G];simp[aC,ir,cC,mB,false_or];constructor;.rintro⟨s,e,h⟩;have:=j.mem_iff.1 e;simp[Bg,aM,bQ,aD,decide_eq_true_eq]at this;obtain⟨q,⟨g,m⟩,rfl⟩:=this;exact⟨q,g,m,h⟩
   .rintro⟨q,g,m,h⟩;refine⟨⟨q.Y0,q.Y1⟩,j.mem_iff.2 ?_,h⟩;simp only[Bg,aM,bQ,aD,decide_eq_true_eq];exact⟨q,⟨g,m⟩,rfl⟩
def oO(G:iJ Col):List ay:=G.flatMap λg=>g.2.2.map λs=>⟨g.1,s.1,g.2.1,s.2.1⟩
theorem D9(G H:iJ Col):oO (G++H)=oO G++oO H:=List.flatMap_append
theorem LA(a b:Int)(c:List ag):oO [(a,b,aC c)]=c.map λs=>⟨a,s.from_,b,s.to_⟩:=by simp[oO,aC]
def wq(S:Int->Int->Prop)(out:List ay):Prop:=∃G:iJ Col,Canon [] G/\(∀a b c,(a,b,c)∈G->Canon false c)/\(∀x y,cC false (cC [] G x) y=true↔S x y)/\out=oO G
theorem HC{G:iJ Col}(h:∀a b c,(a,b,c)∈G->Canon false c)(x:Int):Canon false (cC [] G x):=by
 rcases pL (e:=[])with h1|⟨a,b,h1,_⟩;.rw[h1];trivial
 .exact h _ _ _ h1
theorem wq.unique{S e:Int->Int->Prop}{out u:List ay}(h:wq S out)(f:wq e u)(g:∀x y,S x y↔e x y):out=u:=by obtain⟨G,h1,j,m,rfl⟩:=h;obtain⟨z,q,w,k3,rfl⟩:=f;rw[tz h1 q λx=>tz (HC j x) (HC w x) λy=>?_];rw[pq,m,k3,g]
theorem qN{c:Col}{y:Int}:cC false c y=true->∃a b,(a,b,true)∈c/\a<=y/\y<b:=by
 intro h;rcases pL (e:=false)with h1|⟨a,b,h1,f⟩;.rw[h]at h1;simp at h1
 .rw[h]at h1;exact⟨a,b,h1,f⟩
def bM(l:List aB):iJ Col:=l.map λs=>(s.x0,s.x1,aC s.column)
structure jz(l:List aB):Prop where
 pos:∀s∈l,s.x0<s.x1
 next:∀i(h:i+1<l.length),(l[i]'(by omega)).x1=l[i+1].x0
 col:∀s∈l,Canon false (aC s.column)
theorem mM{e ρ j:Type}{body:e->Option (aY e ρ)}{K:aY e ρ->Option j}(Inv:Nat->e->Prop)(N:Nat)(Q:Option j->Prop)(step:∀i s,i<N->Inv i s->(∃m,body s=some (.go m)/\Inv (i+1) m)∨∃f,body s=some f/\f.ends/\Q (K f))(done:∀s,Inv N s->∃f,body s=some f/\f.ends/\Q (K f)){g:e}(q:Inv 0 g){u:Nat}(w:N<u):Q ((ar body u g).bind K):=by obtain⟨f,h,_,x⟩:=cH Inv N _ step done g q u w;rw[h];exact x
theorem uu{u w:Type}[DecidableEq u]{a b:List u}{body:Int->Option (aY Int Bool)}{K:aY Int Bool->Option w}{Q:Option w->Prop}(id:Nat)(x:a.length=b.length)(z:a.length<=1000000){f:Nat}(y:a.length<f)(step:∀i(hi:i<a.length)(E:i<b.length),body (i:Int)=if(!decide (a[i]=b[i]))=true then some (.ret false)else(bh (i:Int) 1).bind λj=>some (.go j))(done:body (a.length:Int)=some (.ex id (a.length:Int)))(h1:a=b->Q (K (.ex id (a.length:Int))))(g:a≠b->Q (K (.ret false))):Q ((ar body f 0).bind K):=by
 refine mM (λi s=>s=(i:Int)/\∀m(F:m<a.length)(G:m<b.length),m<i->a[m]=b[m]) a.length Q (λi s hi⟨q,I⟩=>?_) (λs⟨q,I⟩=>?_) ⟨rfl,λm _ _ h=>by omega⟩ y
 · subst q;rw[step i hi (by omega)];by_cases e:a[i]=b[i];.rw[an (by omega)];grind
   .rw[if_pos (by simpa using e)];exact .inr ⟨_,rfl,trivial,g λh=>e (by subst h;rfl)⟩
 .subst q;exact⟨_,done,trivial,h1 (List.ext_getElem x λi h1 g=>I i h1 g h1)⟩
theorem Ee{g:Type}[DecidableEq g]{a b:List g}(h:a.length<=1000000):eqM a b=some (decide (a=b)):=by
 unfold eqM;by_cases f:a.length=b.length;.rw[if_neg (by simp[f])];refine uu (Q:=(.=some _)) 0 f (by omega) (by omega) (λi hi j=>?_) (by rw[if_neg (by simp)]) (λe=>by rw[decide_eq_true e]) (λe=>by rw[decide_eq_false e]);rw[if_pos (by simpa using hi),af hi,qb,af j,qb]
 .rw[if_pos (by simp;omega),decide_eq_false λe=>f (by rw[e])]
theorem BT{a b:List ag}(h:a.length<=1000000):mE a b=some (decide (a=b)):=Ee h
theorem DQ{l:List aB}(h:jz l):∀i(hi:i<l.length),qV (bM (l.take i)) l[i].x0
 |0,_=>by intro r e;simp[bM]at e;|i+1,hi=>by
  have f:=DQ h i (by omega);have g:=h.pos l[i] (aN _);have j:=h.next i hi;intro r e;rw[dB (by omega)]at e;simp only[bM,gb,cf,ir,dq,eR]at e;rcases e with e|e;.have:=f r e;omega
  .subst e;show(l[i]'(by omega)).x1<=_;omega
theorem vg{l:List aB}(h:jz l){i:Nat}(hi:i<l.length)(x:Int):cC [] (bM (l.take (i+1))) x=if l[i].x0<=x/\x<l[i].x1 then aC l[i].column else cC [] (bM (l.take i)) x:=by rw[dB hi];simp only[bM,gb];exact jy (DQ h i hi) x
theorem Mn{l:List aB}(h:jz l)(W:l.length<=100000)(R:∀s∈l,s.column.length<=1000000){i:Nat}(hi:i<l.length)(s:List ay){fuel:Nat}(T:l.length<fuel):∃k:Nat,ar (dR l (s,(i:Int))) fuel ((i+1:Nat):Int)=some (.ex 2 (k:Int))/\∃(G:i<k)(hk:k<=l.length),(∀x,cC [] (bM (l.take k)) x=if l[i].x0<=x/\x<(l[k-1]'(by omega)).x1 then aC l[i].column else cC [] (bM (l.take i)) x)/\(∀u:k<l.length,l[k].column≠l[i].column):=by
  have H:∀m j,j+m=l.length->∀(g:i<j)(y:j<=l.length),(∀x,cC [] (bM (l.take j)) x=if l[i].x0<=x/\x<(l[j-1]'(by omega)).x1 then aC l[i].column else cC [] (bM (l.take i)) x)->∀fuel,m<fuel->∃k:Nat,ar (dR l (s,(i:Int))) fuel (j:Int)=some (.ex 2 (k:Int))/\∃(G:i<k)(hk:k<=l.length),(∀x,cC [] (bM (l.take k)) x=if l[i].x0<=x/\x<(l[k-1]'(by omega)).x1 then aC l[i].column else cC [] (bM (l.take i)) x)/\(∀u:k<l.length,l[k].column≠l[i].column):=by intro m;induction m with
 |zero=>
 intro j I g y E fuel T;obtain⟨fuel,rfl⟩:∃m,fuel=m+1:=⟨fuel-1,by omega⟩;refine⟨j,?_,g,y,E,λu=>absurd u (by omega)⟩;have e:dR l (s,(i:Int)) (j:Int)=some (.ex 2 (j:Int)):=by unfold dR;dsimp only;rw[if_neg (by simp;omega),qb,if_neg (by simp)]
 simp only[ar,e]|succ m V=>
      intro j I g y E fuel T;obtain⟨fuel,rfl⟩:∃m,fuel=m+1:=⟨fuel-1,by omega⟩;have f:j<l.length:=by omega
      by_cases F:l[j].column=l[i].column
      · have e:dR l (s,(i:Int)) (j:Int)=some (.go ((j+1:Nat):Int)):=by unfold dR;dsimp only;rw[if_pos (by simp;omega)];simp only[af f,af hi,qb,BT (R _ (aN f))];rw[if_pos (by simpa using F),an (by omega),qb]
        simp only[ar,e];refine V (j+1) (by omega) (by omega) (by omega) (λx=>?_) fuel (by omega);rw[vg h f,E x,F];have hn:(l[j-1]'(by omega)).x1=l[j].x0:=by have:=h.next (j-1) (by omega);rw[this];congr 2;omega
        have hp:=h.pos l[j] (aN _);have J:∀q(M:q<l.length),i<=q->l[i].x0<=l[q].x0:=by intro q;induction q with
 | zero => intro M O;have:i=0:=by omega
           subst this;exact gf _|succ q P=>
 intro M O;rcases bJ q i with U|U
 · have:i=q+1:=by omega
   subst this;exact gf _
 ·have:=P (by omega) U;have h2:=h.pos (l[q]'(by omega)) (aN _);have h3:=h.next q M;omega
        have:=J j f (by omega);have Q:(l[j+1-1]'(by omega))=l[j]:=by congr 1
        rw[Q];by_cases c1:l[j].x0<=x/\x<l[j].x1;.rw[if_pos c1,if_pos (by omega)]
        · rw[if_neg c1];by_cases c2:l[i].x0<=x/\x<(l[j-1]'(by omega)).x1;.rw[if_pos c2,if_pos (by omega)]
          .rw[if_neg c2,if_neg (by omega)]
      · refine⟨j,?_,g,y,E,λ _=>F⟩;have e:dR l (s,(i:Int)) (j:Int)=some (.ex 2 (j:Int)):=by unfold dR;dsimp only;rw[if_pos (by simp;omega)];simp only[af f,af hi,qb,BT (R _ (aN f))];rw[if_neg (by simpa using F)]
        simp only[ar,e]
  exact H (l.length-(i+1)) (i+1) (by omega) (by omega) (by omega) (λx=>by
 rw[vg h hi];have Q:(l[i+1-1]'(by omega))=l[i]:=by congr 1
 rw[Q]) fuel (by omega)
theorem Db{V:Type}{e:V}:∀{l:iJ V}{n x:Int},qV l n->n<=x->cC e l x=e|[],_,_,_,_=>rfl|(a,b,v)::t,n,x,h,f=>by have:=h (a,b,v) (by simp);simp at this;simp[cC];rw[if_neg (by omega)];exact Db (λr g=>h r (bR _ g)) f
theorem pX{l:List aB}(h:jz l){i:Nat}(hi:i<l.length):∀q(hq:q<l.length),i<=q->l[i].x0<=l[q].x0
 | 0, hq, hiq => by have:i=0:=by omega
                    subst this;exact gf _|q+1,hq,hiq=>by
  rcases bJ q i with g|g
  · have:i=q+1:=by omega
    subst this;exact gf _
  .have:=pX h hi q (by omega) g;have j:=h.pos (l[q]'(by omega)) (aN _);have m:=h.next q hq;omega
theorem NR{l:List aB}{i k:Nat}(hi:i<l.length)(e:i<k)(hk:k<=l.length)(f:l.length<=100000)(g:l[i].column.length<=1000)(s:List ay){out:List ay}(m:out.length<=1000000000):ar (kM l (s,(i:Int)) (k:Int) l[i]) (l[i].column.length+1) (out,0)=some (.ex 4 (out++l[i].column.map λs=>⟨l[i].x0,s.from_,(l[k-1]'(by omega)).x1,s.to_⟩,(l[i].column.length:Int))):=by
 refine(dz (k:=4) (l:=l[i].column) _ (λo s=>o++[⟨l[i].x0,s.from_,(l[k-1]'(by omega)).x1,s.to_⟩]) (λj o=>o.length<=1000000000+j) ?_ ?_ (by omega) (by omega)).1.trans ?_
 · intro j h o I;constructor;.unfold kM;rw[if_pos (by simpa using h),af h,af hi];simp only[pF (show 0<k by omega) (by omega),qb,af (show k-1<l.length by omega)];rw[bS (by simp;omega),qb,an (by omega),qb]
   .simp;omega
 .intro o _;unfold kM;rw[if_neg (by simp)]
 .rw[foldl_flatMap _,List.map_eq_flatMap]
theorem Bi{l:List aB}(h:jz l)(U:l.length<=100000)(J:∀s∈l,s.column.length<=1000):∃out,gh l=some out/\∃G:iJ Col,Canon [] G/\(∀a b c,(a,b,c)∈G->Canon false c)/\(∀x,cC [] G x=cC [] (bM l) x)/\out=oO G:=by
 refine Exists.elim (xZ (body:=kP l) (λs=>∃(i:Nat)(G:iJ Col),s.2=(i:Int)/\i<=l.length/\s.1=oO G/\Canon [] G/\(∀a b c,(a,b,c)∈G->Canon false c)/\(∀x,cC [] G x=cC [] (bM (l.take i)) x)/\(∀hi:i<l.length,qV G l[i].x0/\Lst G l[i].x0 (aC l[i].column))/\s.1.length<=1000*i) (λs=>l.length-s.2.toNat) (λf=>∃s G,f= .ex 0 s/\s.1=oO G/\Canon [] G/\(∀a b c,(a,b,c)∈G->Canon false c)/\(∀x,cC [] G x=cC [] (bM l) x)) ?_ (_,0) ⟨0,[],rfl,bY _,rfl,trivial,by simp,λx=>by simp[bM],λ _=>⟨λr g=>by simp at g,λr g=>by simp at g⟩,by simp⟩ (l.length+([]:List ay).length+1) (by simp)) ?_
 · rintro⟨out,_⟩⟨i,G,rfl,hil,rfl,M,u,I,hE,V⟩;dsimp only at*;rcases bJ i l.length with hi|hi
   · left;obtain⟨k,hk,O,w,F,P⟩:=Mn h U (λs hs=>by have:=J s hs;omega) hi (oO G) (fuel:=l.length+(oO G).length+1) (by omega);have Q:=NR hi O w U (J _ (aN hi)) (oO G) (out:=oO G) (by omega);obtain⟨E,R⟩:=hE hi;have H:l[i].x0<(l[k-1]'(by omega)).x1:=by have:=pX h hi (k-1) (by omega) (by omega);have:=h.pos (l[k-1]'(by omega)) (aN _);omega
     refine⟨(oO G++l[i].column.map λs=>⟨l[i].x0,s.from_,(l[k-1]'(by omega)).x1,s.to_⟩,(k:Int)),?_,?_,?_⟩;·unfold kP;dsimp only;rw[if_pos (by simpa using hi),an (by omega),qb,hk,qb];dsimp only;rw[af hi,qb,Q,qb]
     · have m:(oO G++l[i].column.map λs=>(⟨l[i].x0,s.from_,(l[k-1]'(by omega)).x1,s.to_⟩:ay)).length<=1000*k:=by have:=J _ (aN hi);simp;omega
       have y:∀j:k<l.length,(l[k-1]'(by omega)).x1=l[k].x0:=λj=>by have:=h.next (k-1) (by omega);rw[this];congr 2;omega
       by_cases q:l[i].column=[]
       · refine⟨k,G,rfl,w,by simp[q],M,u,λx=>?_,λj=>⟨λr g=>?_,λr g=>?_⟩,m⟩
         · rw[F,I];split;·rename_i y;rw[q,<-I,Db E y.1];rfl
           .rfl
         .have:=E r g;have:=y j;omega
         .have:=E r (List.mem_of_getLast? g);have:=y j;exact .inl (by omega)
       · have T:aC l[i].column≠[]:=λe=>q (tt (b:=[]) e);refine⟨k,G++[_],rfl,w,?_,mU M R H T,?_,λx=>?_,λj=>⟨λr g=>?_,λr g=>?_⟩,m⟩;.rw[D9,LA]
         · intro a b c z;rcases dq.1 z with z|z;.exact u a b c z
           ·simp only[eR,Prod.mk.injEq]at z;rw[z.2.2];exact h.col _ (aN hi)
         .rw[jy E,F,I]
         · have:=y j;rcases dq.1 g with g|g;.have:=E r g;omega
           .simp only[eR]at g;subst g;show(l[k-1]'(by omega)).x1<=_;omega
         ·simp at g;subst g;exact .inr ⟨y j,λe=>P j (tt e.symm)⟩
     .dsimp only;simp only[nI];omega
   · right;obtain rfl:i=l.length:=by omega
     refine⟨.ex 0 (oO G,(l.length:Int)),?_,trivial,_,G,rfl,rfl,M,u,λx=>by rw[I,cQ]⟩;unfold kP;dsimp only;rw[if_neg (by simp)]
 ·rintro f ⟨hf,_,s,G,rfl,h1,Q,h3,h4⟩;refine⟨s.1,?_,G,Q,h3,h4,h1⟩;unfold gh;rw[hf,qb]
theorem A7{j:Type}[Enc j]{f:List (List j)}(w:f.flatten.length<=1000000)(y:f.length<=1000000):vA f=some f.flatten:=by
 have h:∀i(hi:i<f.length),(f.take i).flatten.length+f[i].length<=f.flatten.length:=by
  intro i hi;have e:f.flatten=(f.take i).flatten++(f[i]++(f.drop (i+1)).flatten):=by
   conv=>lhs;rw[<-gO i f,l8 hi]
   rw[List.flatten_append,rT]
  rw[e,bA,bA];omega
 have g:∀i(hi:i<f.length),(f.take (i+1)).flatten=(f.take i).flatten++f[i]:=by intro i hi;rw[dB hi,List.flatten_append,rT,List.flatten_nil,mn]
 unfold vA;obtain⟨h1,m⟩:=dz (k:=0) (l:=f) (body:=pN f) (λ (s:Int)i=>(s,i)) (λs x=>s+x.length) (λi s=>s=((f.take i).flatten.length:Int)) (by
 intro i hi s I;have:=h i hi;constructor;·unfold pN;dsimp only;rw[if_pos (by simpa using hi),af hi,qb,cW (by unfold inI;omega),qb,if_neg (by simp;omega),an (by omega),qb]
 .rw[g i hi,I];simp) (by intro s _;unfold pN;dsimp only;rw[if_neg (by simp)]) (s0:=0) (by simp) (fuel:=f.length+1) (by omega);rw[h1,qb];dsimp only;rw[cQ]at m;rw[IL (by omega) (by omega),qb];obtain⟨z,E⟩:=dz (k:=2) (l:=f) (body:=pQ f) (λ (s:List j) i=>(s,i)) _ (λi s=>s=(f.take i).flatten) (by
 intro i hi s I;have:=h i hi;constructor;·unfold pQ;dsimp only;rw[if_pos (by simpa using hi),af hi,qb,bS (by rw[I];omega),qb,an (by omega),qb]
 .rw[g i hi,I]) (by intro s _;unfold pQ;dsimp only;rw[if_neg (by simp)]) (s0:=[]) (by simp) (fuel:=f.length+1) (by omega);grind
theorem FK{e:List (List ay)}(h:e.flatten.length<=1000000)(f:e.length<=1000000):fB e=some e.flatten:=A7 h f
structure Ml(xs:List Int)(l:List ay):Prop where
 asc:xs.Pairwise λa b=>a<b
 mem:∀x,x∈xs↔∃r∈l,x=r.X0∨x=r.X1
 len:xs.length<=2*l.length
theorem qm:∀{e:List Int}{a b x:Int},e.Pairwise (λa b=>a<b)->a∈e->b∈e->a<=x->x<b->∃i,∃h:i+1<e.length,e[i]<=x/\x<e[i+1]
 |[],_,_,_,_,h,_,_,_=>by simp at h;|[h],a,b,x,_,u,w,h1,f=>by simp at u w;omega;|h::f::t,a,b,x,y,u,w,z,g=>by
  have j:=km.1 y;rcases ky x f with m|m;.refine⟨0,by simp,?_,m⟩;grind
  · have q:b∈f::t:=by grind
    obtain⟨i,hi,E,F⟩:=qm j.2 (by simp) q m g;exact⟨i+1,by simp[eU]at hi⊢;omega,by simpa using E,by simpa using F⟩
theorem uX{x:List Int}(e:x.Pairwise λa b=>a<b){i:Nat}(h:i+1<x.length){z:Int}(f:z∈x):z<=x[i]∨x[i+1]<=z:=by
 obtain⟨j,g,rfl⟩:=br f;have e:=fK.1 e;rcases bJ i j with h1|h1;.right;grind
 grind
theorem Cb{l:List ay}{e:List Int}(f:Ml e l){i:Nat}(h:i+1<e.length){x:Int}(h1:e[i]<=x)(j:x<e[i+1])(y:Int):cells l e[i] y↔cells l x y:=by refine exists_congr λr=>and_congr_right λg=>?_;unfold rin;have g1:=uX f.asc h ((f.mem r.X0).2 ⟨r,g, .inl rfl⟩);have g2:=uX f.asc h ((f.mem r.X1).2 ⟨r,g, .inr rfl⟩);grind
structure uI(l:List ay)(out:List aB):Prop where
 gapless:jz out
 col:∀s∈out,OG l s.x0 s.column
 val:∀x y,cC false (cC [] (bM out) x) y=true↔cells l x y
 len:out.length<=2*l.length
 same:∀s∈out,∀x,s.x0<=x->x<s.x1->∀r∈l,(r.X0<=x/\x<r.X1)↔(r.X0<=s.x0/\s.x0<r.X1)cover:∀r∈l,∀x,r.X0<=x->x<r.X1->∃s∈out,s.x0<=x/\x<s.x1
theorem ui{l:List aB}(h:jz l){i:Nat}(hi:i<l.length){x:Int}(h1:l[i].x0<=x)(f:x<l[i].x1):cC [] (bM l) x=aC l[i].column:=by
 have e:∀m j,j+m=l.length->i<j->cC [] (bM (l.take j)) x=cC [] (bM l) x:=by intro m;induction m with|zero=>intro j g _;rw[show j=l.length by omega,cQ];|succ m q=>intro j g w;rw[<-q (j+1) (by omega) (by omega),vg h (show j<l.length by omega),if_neg];have y:=pX h (show i+1<l.length by omega) j (by omega) (by omega);have a2:=h.next i (by omega);omega
 rw[<-e (l.length-(i+1)) (i+1) (by omega) (by omega),vg h hi,if_pos ⟨h1,f⟩]
theorem G2{l:List ay}(F:l.length<=100000):∃y e z,ar (gP l) (l.length+1) (([]:List Int),0)=some (.ex 0 (y,(l.length:Int)))/\kq y=some z/\gn z=some e/\Ml e l:=by
 obtain⟨h1,g⟩:=dz (l:=l) (body:=gP l) (λ (s:List Int)i=>(s,i)) (λs r=>s++[r.X0,r.X1]) (λi s=>s.length=2*i) (by
 intro i hi s I;constructor;.unfold gP;rw[if_pos (by simpa using hi),af hi,qb,bS (by simp;omega),qb,an (by omega),qb]
 .simp;omega) (by intro s _;unfold gP;rw[if_neg (by simp)]) (s0:=[]) (by simp) (fuel:=l.length+1) (by omega);rw[foldl_flatMap _,ko]at h1 g;obtain⟨z,j,h,m⟩:=nq (l:=l.flatMap λr=>[r.X0,r.X1]) (by omega);have q:=h.length_eq;obtain⟨e,u,w,E,H⟩:=mO (by omega) m;refine⟨_,e,z,h1,j,u,w,λx=>?_,by omega⟩;rw[E,h.mem_iff];simp
theorem oc{ls:List (List ay)}(R:∀r∈ls.flatten,VR r)(I:ls.flatten.length<=100000)(hn:ls.length<=1000):∃out,ef ls=some out/\uI ls.flatten out:=by
 unfold ef;rw[FK (by omega) (by omega),qb];generalize ls.flatten=l at R I;obtain⟨ys,f,zs,h1,h2,h3,g⟩:=G2 I;rw[h1,qb];dsimp only;simp only[h2,h3,qb];have hxl:=g.len;rcases sf f.length with J|J
 · have e:f=[]:=pR.1 J;subst e;have M:l=[]:=by cases l with|nil=>rfl;|cons r l=>exact absurd ((g.mem r.X0).2 ⟨r,by simp, .inl rfl⟩) (by simp)
   subst M;refine⟨[],rfl,⟨by simp,by simp,by simp⟩,by simp,by simp[bM,cC,cells],by simp,by simp,by simp⟩
 .obtain⟨out,h4,h5,u⟩:=CN (k:=2) (body:=gG l f) (λ (s:List aB) i=>(s,i)) 1 f.length J (λi s=>s.length+1=i/\∀j(m:j<s.length)(E:j+1<f.length),s[j].x0=f[j]/\s[j].x1=f[j+1]/\OG l f[j] s[j].column) (by
 intro i h1i hi s hI;obtain⟨hI1,O⟩:=hI;obtain⟨c,hc,F⟩:=FJ (x:=f[i-1]'(by omega)) R I;refine⟨s++[⟨f[i-1]'(by omega),f[i],c⟩],?_,by simp;omega,λj m E=>?_⟩;·unfold gG;dsimp only;rw[if_pos (by simpa using hi)];simp only[pF (show 0<i by omega) (by omega),qb,af (show i-1<f.length by omega),af hi,hc];rw[bS (by simp;omega),qb,an (by omega),qb]
 · simp only[bA,eU,iC]at m;rcases bJ j s.length with h|h;·simp only[yY h];exact O j h E
   · have:j=s.length:=by omega
     subst this;simp only[List.getElem_concat_length];have e1:f[i-1]'(by omega)=f[s.length]:=by congr 1;omega
     have T:f[i]=f[s.length+1]:=by congr 1;omega
     refine⟨e1,T,?_⟩;rw[<-e1];exact F) (by intro s _;unfold gG;dsimp only;rw[if_neg (by simp)]) (s0:=[]) (by simp) (fuel:=l.length+f.length+([]:List aB).length+1) (by simp;omega);have P:ar (gG l f) _ (([]:List aB),1)=some _:=h4;rw[P,qb];have V:jz out:=by
   refine⟨λs q=>?_,λi hi=>?_,λs q=>?_⟩;·obtain⟨j,m,rfl⟩:=br q;obtain⟨z,a2,_⟩:=u j m (by omega);rw[z,a2];exact(fK.1 g.asc) j (j+1) (by omega) (by omega) (by omega)
   .rw[(u i (by omega) (by omega)).2.1,(u (i+1) hi (by omega)).1]
   ·obtain⟨j,m,rfl⟩:=br q;exact(u j m (by omega)).2.2.canon
  refine⟨out,rfl,V,λs q=>?_,λx y=>?_,by omega,λs q x c1 c2 r w=>?_,λr w x c1 c2=>?_⟩;·obtain⟨j,m,rfl⟩:=br q;obtain⟨z,_,a3⟩:=u j m (by omega);rw[z];exact a3
  · by_cases q:∃i,∃h:i+1<f.length,f[i]<=x/\x<f[i+1];·obtain⟨i,hi,W,b2⟩:=q;obtain⟨z,a2,a3⟩:=u i (by omega) hi;rw[ui V (show i<out.length by omega) (by omega) (by omega),a3.val,Cb g hi W b2]
    · constructor
      · intro h;rcases pL (e:=[]) (l:=bM out) (x:=x)with H|⟨a,b,H,h8⟩;.rw[H]at h;simp[cC]at h
        ·simp only[bM,aM,Prod.mk.injEq]at H;obtain⟨s,Q,e1,T,_⟩:=H;obtain⟨j,m,rfl⟩:=br Q;obtain⟨z,a2,_⟩:=u j m (by omega);exact absurd ⟨j,by omega,by omega,by omega⟩ q
      ·rintro⟨r,w,G,hry⟩;exact absurd (qm g.asc ((g.mem r.X0).2 ⟨r,w, .inl rfl⟩) ((g.mem r.X1).2 ⟨r,w, .inr rfl⟩) G.1 G.2) q
  ·obtain⟨j,m,rfl⟩:=br q;obtain⟨z,a2,_⟩:=u j m (by omega);have g1:=uX g.asc (show j+1<f.length by omega) ((g.mem r.X0).2 ⟨r,w, .inl rfl⟩);have g2:=uX g.asc (show j+1<f.length by omega) ((g.mem r.X1).2 ⟨r,w, .inr rfl⟩);omega
  ·obtain⟨i,hi,W,b2⟩:=qm g.asc ((g.mem r.X0).2 ⟨r,w, .inl rfl⟩) ((g.mem r.X1).2 ⟨r,w, .inr rfl⟩) c1 c2;obtain⟨z,a2,a3⟩:=u i (by omega) hi;exact⟨_,aN (show i<out.length by omega),by omega,by omega⟩
theorem A9{l:List aB}(h:jz l)(e:l.length<=100000)(f:∀s∈l,s.column.length<=1000){S:Int->Int->Prop}(g:∀x y,cC false (cC [] (bM l) x) y=true↔S x y):∃out,gh l=some out/\wq S out:=by obtain⟨out,h1,G,j,m,q,u⟩:=Bi h e f;exact⟨out,h1,G,j,m,λx y=>by rw[q,g],u⟩
theorem xO{V:Type}{e:V}:∀{t:iJ V}{b:Int}{v:V},Canon e t->Nxt b v t->∀r∈t,b<=r.1
 |[],_,_,_,_,r,f=>by simp at f;|(c,d,w)::t,b,v,g,m,r,f=>by
  have j:b<=c:=by rcases m with h|h<;>omega
  rcases bD.1 f with rfl|f;.exact j
  .have:=xO g.2.2.2 g.2.2.1 r f;have:=g.1;omega
theorem uw{V:Type}{e:V}:∀{l:iJ V},Canon e l->l.Pairwise λa b=>a.2.1<=b.1|[],_=> .nil|(a,b,v)::t,h=>km.2 ⟨λr f=>xO h.2.2.2 h.2.2.1 r f,uw h.2.2.2⟩
theorem DJ{l:List ag}(h:Canon false (aC l)){i j:Nat}(e:i<j)(f:j<l.length):(l[i]'(by omega)).to_<=l[j].from_:=by have:=fK.1 (uw h) i j (by simp[aC];omega) (by simpa[aC]using f) e;simpa[aC]using this
theorem M5{l:List ag}(h:Canon false (aC l)){s:ag}(e:s∈l):s.from_<s.to_:=(yf h (show(s.from_,s.to_,true)∈aC l from aM.2 ⟨s,e,rfl⟩)).1
theorem xS{i j:Nat}(hi:i<1000000)(h:j<1000000):Bz ((i:Int)+(j:Int))=(((i+j)/2:Nat):Int):=by rw[MZ (by omega) (by omega)];omega
theorem Hh{l:List ag}{y:Int}(h:Canon false (aC l))(G:l.length<=100000):∃(n:Nat)(b:Bool),n<=l.length/\dp l y fT=some ((n:Int),b)/\∀i(hi:i<l.length),l[i].to_<=y↔i<n:=by
  have m:∀s:ag,fT s y=some (if s.to_<=y then-1 else 1):=λs=>by unfold fT;by_cases c:s.to_<=y<;>simp[c]
  obtain⟨n,w,h1,z⟩:=bsearch (l:=l) (p:=λs=>decide (s.to_<=y)) (body:=cR l y fT) (by omega) (λi j e q E=>by have:=DJ h e q;have:=M5 h (aN q);simp only[decide_eq_true_eq]at E⊢;omega) (λi j e q=>by
 unfold cR;rw[if_pos (by simpa using e),cW (by unfold inI;omega),qb];have F:∀n,(IntKind.i64.wrap (IK.shr _ 1).n)=Bz n:=λ _=>rfl;simp only[F,xS (show i<1000000 by omega) (show j<1000000 by omega),af (show(i+j)/2<l.length by omega),qb,m];by_cases g:(l[(i+j)/2]'(by omega)).to_<=y;.rw[if_pos g,if_pos (by simp),an (by omega),qb,qb,if_pos (by simpa using g)]
 .rw[if_neg g,if_neg (by simp),qb,if_neg (by simpa using g)]) (λi=>by unfold cR;rw[if_neg (by simp)]) (fuel:=l.length+1) (by omega);unfold dp;rw[h1];dsimp;have f:∀i(hi:i<l.length),l[i].to_<=y↔i<n:=λi hi=>by rw[<-z i hi];simp
  rcases bJ n l.length with u|u;·rw[if_pos (by simpa using u),af u,qb,m];exact⟨n,_,w,rfl,f⟩
  ·rw[if_neg (by simp;omega)];exact⟨n,_,w,rfl,f⟩
theorem zo{l:List ag}(h:Canon false (aC l))(x:l.length<=100000)(y:Int):ku l y=some (cC false (aC l) y):=by
 obtain⟨n,b,F,h1,q⟩:=Hh (y:=y) h x;unfold ku;rw[h1,qb];dsimp only;have m:∀i(hi:i<l.length),_∈aC l:=λi hi=>aM.2 ⟨_,aN hi,rfl⟩;rcases bJ n l.length with e|e
 · rw[if_pos (by simpa using e),af e,qb,qb];congr 1;have G:¬l[n].to_<=y:=λh=>absurd ((q n e).1 h) (fC _);by_cases u:l[n].from_<=y;.rw[uK h (m n e) u (by omega)];simpa using u
   · rw[pq];constructor;.intro f;simp at f;omega
     · intro f;obtain⟨a,b,g,z,E⟩:=qN f;simp only[aC,aM,Prod.mk.injEq]at g;obtain⟨s,j,rfl,rfl,_⟩:=g;obtain⟨i,hi,rfl⟩:=br j;rcases bJ n i with w|w;·have:=DJ h w hi;grind
       grind
 ·rw[if_neg (by simp;omega),qb];congr 1;symm;rw[rV];intro f;obtain⟨a,b,g,z,E⟩:=qN f;simp only[aC,aM,Prod.mk.injEq]at g;obtain⟨s,j,rfl,rfl,_⟩:=g;obtain⟨i,hi,rfl⟩:=br j;have:=(q i hi).2 (by omega);omega
theorem E3{l:List aB}{x:Int}(h:jz l)(H:l.length<=100000):∃(n:Nat)(b:Bool),n<=l.length/\da l x ln=some ((n:Int),b)/\∀i(hi:i<l.length),l[i].x1<=x↔i<n:=by
  have m:∀s:aB,ln s x=some (if s.x1<=x then-1 else 1):=λs=>by unfold ln;by_cases c:s.x1<=x<;>simp[c]
  have f:∀{i j:Nat}(e:i<j)(g:j<l.length),(l[i]'(by omega)).x1<=l[j].x1:=by intro i j e g;have h1:=h.next i (by omega);have y:=pX h (show i+1<l.length by omega) j g e;have u:=h.pos l[j] (aN g);omega
  obtain⟨n,z,h1,y⟩:=bsearch (l:=l) (p:=λs=>decide (s.x1<=x)) (body:=cP l x ln) (k:=0) (by omega) (λi j e g F=>by have:=f e g;simp only[decide_eq_true_eq]at F⊢;omega) (λi j e g=>by
 unfold cP;rw[if_pos (by simpa using e),cW (by unfold inI;omega),qb];have G:∀n,(IntKind.i64.wrap (IK.shr _ 1).n)=Bz n:=λ _=>rfl;simp only[G,xS (show i<1000000 by omega) (show j<1000000 by omega),af (show(i+j)/2<l.length by omega),qb,m];by_cases w:(l[(i+j)/2]'(by omega)).x1<=x;.rw[if_pos w,if_pos (by simp),an (by omega),qb,qb,if_pos (by simpa using w)]
 .rw[if_neg w,if_neg (by simp),qb,if_neg (by simpa using w)]) (λi=>by unfold cP;rw[if_neg (by simp)]) (fuel:=l.length+1) (by omega);unfold da;rw[h1,qb];dsimp only;have q:∀i(hi:i<l.length),l[i].x1<=x↔i<n:=λi hi=>by rw[<-y i hi];simp
  rcases bJ n l.length with u|u;·rw[if_pos (by simpa using u),af u,qb,m,qb,qb];exact⟨n,_,z,rfl,q⟩
  ·rw[if_neg (by simp;omega),qb];exact⟨n,_,z,rfl,q⟩
theorem Js{l:List aB}(h:jz l)(z:l.length<=100000)(x:Int):∃c,rN l x=some c/\aC c=cC [] (bM l) x/\(c=[]∨∃s∈l,c=s.column):=by
 obtain⟨n,b,G,h1,m⟩:=E3 h z;unfold rN;rw[h1,qb];have u:(∀i(hi:i<l.length),¬(l[i].x0<=x/\x<l[i].x1))->cC [] (bM l) x=[]:=by
  intro q;rcases pL (e:=[])with g|⟨a,b,g,H⟩;.exact g
  .simp[bM,aM,Prod.mk.injEq]at g;obtain⟨s,w,e1,I,_⟩:=g;obtain⟨j,E,rfl⟩:=br w;exact absurd ⟨by omega,by omega⟩ (q j E)
 rcases bJ n l.length with f|f
 · rw[if_pos (by simpa using f),af f,qb,qb];have J:¬l[n].x1<=x:=λh=>absurd ((m n f).1 h) (fC _);by_cases y:l[n].x0<=x;.rw[if_pos (by simpa using y)];exact⟨_,rfl,(ui h f y (by omega)).symm, .inr ⟨_,aN f,rfl⟩⟩
   .rw[if_neg (by simpa using y)];refine⟨[],rfl,(u λi hi F=>?_).symm, .inl rfl⟩;have:¬i<n:=λh=>absurd ((m i hi).2 h) (by omega);have:=pX h f i hi (by omega);omega
 .rw[if_neg (by simp;omega)];refine⟨[],rfl,(u λi hi F=>?_).symm, .inl rfl⟩;have:=(m i hi).2 (by omega);omega
theorem xH{V:Type}{e:V}{u z:Int}:∀{c:iJ V},(∀r∈c,(r.1<=u∨z<r.1)/\(r.2.1<=u∨z<r.2.1))->u<=z->cC e c u=cC e c z|[],_,_=>rfl|(a,b,v)::t,h,f=>by have h1:=h (a,b,v) (by simp);simp[cC];rw[xH (λr g=>h r (bR _ g)) f];grind
theorem HB{e:List (List ag)}(h:e.flatten.length<=1000000)(f:e.length<=1000000):fJ e=some e.flatten:=A7 h f
theorem HX{l:List ag}(F:l.length<=100000):∃y e z,ar (iy l) (l.length+1) (([]:List Int),0)=some (.ex 0 (y,(l.length:Int)))/\kq y=some z/\gn z=some e/\e.Pairwise (λa b=>a<b)/\(∀x,x∈e↔∃s∈l,x=s.from_∨x=s.to_)/\e.length<=2*l.length:=by
 obtain⟨h1,g⟩:=dz (l:=l) (body:=iy l) (λ (s:List Int)i=>(s,i)) (λs r=>s++[r.from_,r.to_]) (λi s=>s.length=2*i) (by
 intro i hi s I;constructor;.unfold iy;rw[if_pos (by simpa using hi),af hi,qb,bS (by simp;omega),qb,an (by omega),qb]
 .simp;omega) (by intro s _;unfold iy;rw[if_neg (by simp)]) (s0:=[]) (by simp) (fuel:=l.length+1) (by omega);rw[foldl_flatMap _,ko]at h1 g;obtain⟨z,j,h,m⟩:=nq (l:=l.flatMap λr=>[r.from_,r.to_]) (by omega);have q:=h.length_eq;obtain⟨e,u,w,E,H⟩:=mO (by omega) m;refine⟨_,e,z,h1,j,u,w,λx=>?_,by omega⟩;rw[E,h.mem_iff];simp
theorem Il{a b s:List ag}{ys:List Int}{keep:Bool->Bool->Option Bool}{e:Bool->Bool->Bool}(hk:∀a b,keep a b=some (e a b))(q:Canon false (aC a))(u:Canon false (aC b))(f:a.length<=100000)(g:b.length<=100000){i:Nat}(h1:1<=i)(hi:i<ys.length)(y:ys.length<=1000000)(j:s.length<=1000000):∃m,fS a b keep ys (s,(i:Int))=some (.go (m,((i+1:Nat):Int)))/\m.length<=s.length+1/\aC m=wb false (aC s) (ys[i-1]'(by omega)) ys[i] (e (cC false (aC a) (ys[i-1]'(by omega))) (cC false (aC b) (ys[i-1]'(by omega)))):=by
 unfold fS;rw[if_pos (by simpa using hi)];simp only[pF (show 0<i by omega) (by omega),qb,af (show i-1<ys.length by omega),af hi,zo q f,zo u g,hk];cases w:e _ _;·rw[if_pos (by simp),qb,an (by omega),qb];exact⟨s,rfl,by omega,by simp[wb]⟩
 · rw[if_neg (by simp)];rcases vI s with rfl|⟨o,t,rfl⟩;·rw[if_neg (by simp),qb,if_neg (by simp),bS (by simp),qb,qb,qb,an (by omega),qb];exact⟨_,rfl,by simp,by simp[wb,aC]⟩
   · rw[vM]at*;have x:o.length<1000000:=by simp at j;omega
     rw[if_pos (by simp)];simp only[Fc (l:=o) (by omega),zr rfl,qb];by_cases h:t.to_=ys[i-1]'(by omega);·rw[if_pos (by simpa using h),Au (by simp),qb,qb,an (by omega),qb];exact⟨_,rfl,by simp,by simp[wb,aC,h]⟩
     ·rw[if_neg (by simpa using h),bS (by simp;omega),qb,qb,qb,an (by omega),qb];exact⟨_,rfl,by simp,by simp[wb,aC,h]⟩
theorem IA{a b:List ag}{keep:Bool->Bool->Option Bool}{O:Bool->Bool->Bool}(hk:∀a b,keep a b=some (O a b))(h0:O false false=false)(ha:Canon false (aC a))(hb:Canon false (aC b))(hal:a.length<=1000)(hbl:b.length<=1000):∃c,oX a b keep=some c/\Canon false (aC c)/\(∀y,cC false (aC c) y=O (cC false (aC a) y) (cC false (aC b) y))/\c.length<=2*(a.length+b.length):=by classical
 unfold oX;rw[HB (by simp;omega) (by simp),qb];have W:[a,b].flatten=a++b:=by simp
 rw[W];obtain⟨zs,ys,ws,h1,h2,h3,P,Q,h6⟩:=HX (l:=a++b) (by simp;omega);rw[h1,qb];dsimp only;simp only[h2,h3,qb];simp only[bA]at h6;have hyl:ys.length<=4000:=by omega
 have x:∀(c:List ag),(∀s∈c,s∈a++b)->∀i(hi:i+1<ys.length)z,ys[i]<=z->z<ys[i+1]->cC false (aC c) ys[i]=cC false (aC c) z:=by intro c M i hi z hz1 hz2;refine xH (λr T=>?_) hz1;simp only[aC,aM]at T;obtain⟨s,m,rfl⟩:=T;have g1:=uX P hi ((Q s.from_).2 ⟨s,M s m, .inl rfl⟩);have g2:=uX P hi ((Q s.to_).2 ⟨s,M s m, .inr rfl⟩);dsimp only;omega
 have u:∀(c:List ag),(∀s∈c,s∈a++b)->∀z,(¬∃i,∃h:i+1<ys.length,ys[i]<=z/\z<ys[i+1])->cC false (aC c) z=false:=by intro c M z hz;rw[rV];intro h;obtain⟨f,t,U,h8,h9⟩:=qN h;simp only[aC,aM,Prod.mk.injEq]at U;obtain⟨s,m,rfl,rfl,_⟩:=U;exact hz (qm P ((Q s.from_).2 ⟨s,M s m, .inl rfl⟩) ((Q s.to_).2 ⟨s,M s m, .inr rfl⟩) h8 h9)
 have F:∀s∈a,s∈a++b:=λs m=>qX _ m;have G:∀s∈b,s∈a++b:=λs m=>yl _ m;rcases sf ys.length with H|H;·obtain rfl:ys=[]:=pR.1 H;refine⟨[],rfl,trivial,λy=>?_,by simp⟩;rw[u a F y (by simp),u b G y (by simp),h0];rfl
 .obtain⟨c,U,h8,h9,h10,h11⟩:=CN (k:=2) (body:=fS a b keep ys) _ 1 ys.length H (λi s=>s.length<i/\Canon false (aC s)/\(∀(hi:i-1<ys.length),qV (aC s) ys[i-1])/\∀z,cC false (aC s) z=if(∃j,∃h:j+1<ys.length,j+1<i/\ys[j]<=z/\z<ys[j+1])then O (cC false (aC a) z) (cC false (aC b) z)else false) (by
 intro i h1i hi s⟨hI1,hI2,hI3,hI4⟩;obtain⟨s',k1,k2,k3⟩:=Il (s:=s) (ys:=ys) hk ha hb (by omega) (by omega) h1i hi (by omega) (by omega);have hlt:(ys[i-1]'(by omega))<ys[i]:=(fK.1 P) (i-1) i (by omega) hi (by omega);obtain⟨q1,q2,q3⟩:=Im (e:=false) _ hI2 (hI3 (by omega)) hlt;rw[<-k3]at q1 q2 q3;have V:∀h:i-1+1<ys.length,ys[i-1+1]=ys[i]:=λh=>by congr 1;omega
 refine⟨s',k1,by omega,q1,λ _=>q2,λz=>?_⟩;rw[q3,hI4];by_cases c1:(ys[i-1]'(by omega))<=z/\z<ys[i];·rw[if_pos c1,if_pos ⟨i-1,by omega,by omega,c1.1,by rw[V];exact c1.2⟩];rw[x a F (i-1) (by omega) z c1.1 (by rw[V];exact c1.2),x b G (i-1) (by omega) z c1.1 (by rw[V];exact c1.2)]
 · rw[if_neg c1];by_cases c2:∃j,∃h:j+1<ys.length,j+1<i/\ys[j]<=z/\z<ys[j+1];·rw[if_pos c2,if_pos];obtain⟨j,h,q,r⟩:=c2;exact⟨j,h,by omega,r⟩
   · rw[if_neg c2,if_neg];rintro⟨j,h,q,r1,r2⟩;rcases bJ (j+1) i with h'|h';.exact c2 ⟨j,h,h',r1,r2⟩
     · have:j=i-1:=by omega
       subst this;exact c1 ⟨r1,by rw[<-V h];exact r2⟩) (by intro s _;unfold fS;dsimp only;rw[if_neg (by simp)]) (s0:=[]) ⟨by simp,trivial,λ _ r T=>by simp[aC]at T,λz=>by
 rw[if_neg];.rfl
 .rintro⟨j,h,q,_⟩;omega⟩ (fuel:=a.length+b.length+ys.length+([]:List ag).length+1) (by simp;omega);have h7':ar (fS a b keep ys) _ (([]:List ag),1)=some (.ex 2 (c,(ys.length:Int))):=U;rw[h7',qb];refine⟨c,rfl,h9,λy=>?_,by omega⟩;rw[h11];by_cases c1:∃j,∃h:j+1<ys.length,ys[j]<=y/\y<ys[j+1];·rw[if_pos];obtain⟨j,h,r⟩:=c1;exact⟨j,h,h,r⟩
  ·rw[if_neg,u a F y c1,u b G y c1,h0];rintro⟨j,h,_,r⟩;exact c1 ⟨j,h,r⟩
instance(l:List ay)(x y:Int):Decidable (cells l x y):=inferInstanceAs (Decidable (∃r∈l,rin r x y))
theorem BH{a b:List ay}(h:a.length<=1000000):iM a b=some (decide (a=b)):=Ee h
theorem Ca{a b:List ay}(h:a.length<=1000000):lz a b=some (decide (a=b)):=by unfold lz;rw[BH h,qb]
def lim(out:List ay):List ay×Int:=if 200<out.length then([],6)else(out,0)
theorem Bd(out:List ay):jm out=some (lim out):=by unfold jm lim;grind
theorem AW{l:List ay}(m:l.length<=100000):(¬(∀r∈l,VR r)/\ar (jA l) (l.length+1) 0=some (.ret ([],1)))∨((∀r∈l,VR r)/\ar (jA l) (l.length+1) 0=some (.ex 0 (l.length:Int))):=by
 rcases CU (body:=jA l) (λr=>¬VR r) _ (by
 intro i hi;unfold jA;rw[if_pos (by simpa using hi)];simp only[af hi,qb,ft];by_cases e:VR l[i];.right;rw[if_neg (by simpa using e)];simp only[an (show i<4611686018427387904 by omega),qb];exact⟨λh=>h e,trivial⟩
 .left;rw[if_pos (by simpa using e)];exact⟨e,rfl⟩) (by unfold jA;rw[if_neg (by simp)]) (fuel:=l.length+1) (by omega)with⟨i,hi,f,_,h⟩|⟨f,h⟩;.exact .inl ⟨λg=>f (g _ (aN hi)),h⟩
 .exact .inr ⟨λr j=>Classical.not_not.1 (f r j),h⟩
theorem Ch{l:List ay}(e:l.length<=100000)(h:¬∀r∈l,VR r):ly l=some ([],1):=by
 unfold ly;rcases AW e with⟨_,h1⟩|⟨h1,_⟩;.rw[h1,qb]
 .exact absurd h1 h
theorem BM{l:List ay}(e:l.length<=100000)(h:∀r∈l,VR r)(m:400<l.length):ly l=some ([],6):=by
 unfold ly;rcases AW e with⟨h1,_⟩|⟨_,h1⟩;.exact absurd h h1
 grind
theorem A1{l:List ay}(h:∀r∈l,VR r)(u:l.length<=400):∃out,wq (cells l) out/\ly l=some (lim out):=by
 unfold ly;rcases AW (l:=l) (by omega)with⟨h1,_⟩|⟨_,h1⟩;.exact absurd h h1
 .obtain⟨st,g,e⟩:=oc (ls:=[l]) (by simpa using h) (by simp;omega) (by simp);rw[show[l].flatten=l by simp]at e;have f:=e.len;obtain⟨out,j,m⟩:=A9 e.gapless (by omega) (λs q=>by have:=(e.col s q).len;omega) e.val;refine⟨out,m,?_⟩;rw[h1,qb,if_neg (by simp;omega),g,qb,j,qb,Bd,qb]
def RR(a:List ay):Prop:=(∀r∈a,VR r)/\a.length<=200/\wq (cells a) a
theorem eX{a:List ay}(g:a.length<=100000):∃b,dP a=some b/\(b=true↔RR a):=by
 unfold dP;by_cases h:∀r∈a,VR r
 · rcases bJ 400 a.length with m|m;.rw[BM g h m];exact⟨_,rfl,by simp,λh=>absurd h.2.1 (by omega)⟩
   · obtain⟨out,h1,j⟩:=A1 h m;rw[j];unfold lim;by_cases f:200<out.length;.rw[if_pos f];refine⟨_,rfl,by simp,λh=>?_⟩;have:=h.2.2.unique h1 (λ _ _=>iD);rw[this]at h;exact absurd h.2.1 (by omega)
     · rw[if_neg f];dsimp;rw[BH (by omega)];simp;constructor;.intro e;rw[e]at h1 f;exact⟨h,by omega,h1⟩
       .intro q;exact h1.unique q.2.2 (λ _ _=>iD)
 .rw[Ch g h];exact⟨_,rfl,by simp,λu=>absurd u.1 h⟩
theorem mh{a:List ay}(h:RR a):dP a=some true:=by obtain⟨b,h1,e⟩:=eX (a:=a) (by have:=h.2.1;omega);rw[h1,e.2 h]
theorem pD{a:List ay}(e:a.length<=100000)(h:¬RR a):dP a=some false:=by
 obtain⟨b,h1,f⟩:=eX e;rw[h1];cases b;.rfl
 .exact absurd (f.1 rfl) h
theorem H8{keep:Bool->Bool->Option Bool}{Q:Bool->Bool->Bool}(hk:∀a b,keep a b=some (Q a b))(h0:Q false false=false){a b:List ay}{one w g:List aB}(H:uI a one)(I:uI b w)(u:uI (a++b) g)(hal:a.length<=200)(hbl:b.length<=200):∃st,ar (fX keep one w g) (g.length+1) (g,0)=some (.ex 0 (st,(g.length:Int)))/\jz st/\st.length<=800/\(∀s∈st,s.column.length<=1000)/\∀x y,cC false (cC [] (bM st) x) y=Q (decide (cells a x y)) (decide (cells b x y)):=by
 have l1:=H.len;have l2:=I.len;have l3:=u.len;simp only[bA]at l3;obtain⟨st,h1,h2,E⟩:=GO (k:=0) (l:=g) (body:=fX keep one w g) (λ (s:List aB)i=>(s,i)) (λi s=>s.length=g.length/\∀j(q:j<s.length)(F:j<g.length),s[j].x0=g[j].x0/\s[j].x1=g[j].x1/\(j<i->Canon false (aC s[j].column)/\s[j].column.length<=1000/\∀y,cC false (aC s[j].column) y=Q (cC false (cC [] (bM one) g[j].x0) y) (cC false (cC [] (bM w) g[j].x0) y))) (by
 intro i hi s⟨T,J⟩;obtain⟨ca,c1,c2,c3⟩:=Js H.gapless (by omega) g[i].x0;obtain⟨cb,d1,d2,d3⟩:=Js I.gapless (by omega) g[i].x0;have U:Canon false (aC ca)/\ca.length<=200:=by
  rcases c3 with rfl|⟨s,m,rfl⟩;.exact⟨trivial,by simp⟩
  .exact⟨(H.col s m).canon,by have:=(H.col s m).len;omega⟩
 have V:Canon false (aC cb)/\cb.length<=200:=by
  rcases d3 with rfl|⟨s,m,rfl⟩;.exact⟨trivial,by simp⟩
  .exact⟨(I.col s m).canon,by have:=(I.col s m).len;omega⟩
 obtain⟨c,m1,m2,m3,m4⟩:=IA hk h0 U.1 V.1 (by omega) (by omega);refine⟨s.set i {s[i]'(by omega)with column:=c},?_,by simpa using T,λj q F=>?_⟩;·rw[<-(J i (by omega) hi).1]at c1 d1;unfold fX;dsimp only;rw[if_pos (by simpa using hi),af (show i<s.length by omega),qb,c1,qb,d1,qb,m1,qb,qb,qb,an (by omega),qb,nI]
 · rw[rH]at q;obtain⟨e1,G,W⟩:=J j q F;simp only[List.getElem_set];by_cases M:i=j;·subst M;rw[if_pos rfl];refine⟨e1,G,λ _=>⟨m2,by dsimp only;omega,λy=>?_⟩⟩;rw[<-c2,<-d2];exact m3 y
   ·rw[if_neg M];exact⟨e1,G,λh=>W (by omega)⟩) (by intro s _;unfold fX;dsimp only;rw[if_neg (by simp)]) (s0:=g) ⟨rfl,λj q F=>⟨rfl,rfl,λh=>absurd h (fv j)⟩⟩ (fuel:=g.length+1) (by omega);have hg:jz st:=by
  refine⟨λs m=>?_,λi hi=>?_,λs m=>?_⟩;·obtain⟨j,q,rfl⟩:=br m;obtain⟨e1,G,_⟩:=E j q (by omega);rw[e1,G];exact u.gapless.pos _ (aN _)
  ·rw[(E i (by omega) (by omega)).2.1,(E (i+1) hi (by omega)).1];exact u.gapless.next i (by omega)
  ·obtain⟨j,q,rfl⟩:=br m;exact((E j q (by omega)).2.2 (by omega)).1
 refine⟨st,h1,hg,by omega,λs m=>?_,λx y=>?_⟩;·obtain⟨j,q,rfl⟩:=br m;exact((E j q (by omega)).2.2 (by omega)).2.1
 · by_cases m:∃s∈g,s.x0<=x/\x<s.x1
   · obtain⟨s,m,x1,x2⟩:=m;obtain⟨j,q,rfl⟩:=br m;obtain⟨e1,G,W⟩:=E j (by omega) q;obtain⟨_,_,e4⟩:=W (by omega);rw[ui hg (show j<st.length by omega) (by omega) (by omega),e4];have O:∀(c:List ay)(so:List aB),uI c so->(∀r∈c,r∈a++b)->cC false (cC [] (bM so) g[j].x0) y=decide (cells c x y):=by intro c so hc hcm;rw[pq,hc.val,decide_eq_true_eq];refine exists_congr λr=>and_congr_right λz=>?_;have:=u.same _ m x x1 x2 r (hcm r z);unfold rin;rw[this]
     rw[O a one H (λr z=>qX _ z),O b w I (λr z=>yl _ z)]
   · have P:∀c:List ay,(∀r∈c,r∈a++b)->decide (cells c x y)=false:=by intro c hc;rw[decide_eq_false_iff_not];rintro⟨r,z,⟨r1,r2⟩,_⟩;exact m (u.cover r (hc r z) x r1 r2)
     rw[P a (λr z=>qX _ z),P b (λr z=>yl _ z),h0];rcases pL (e:=[]) (l:=bM st) (x:=x)with R|⟨f,t,R,h8⟩;.rw[R];rfl
     ·simp only[bM,aM,Prod.mk.injEq]at R;obtain⟨s,hs',q1,q2,_⟩:=R;obtain⟨j,q,rfl⟩:=br hs';obtain⟨e1,G,_⟩:=E j q (by omega);exact absurd ⟨_,aN (show j<g.length by omega),by omega,by omega⟩ m
theorem GR{keep:Bool->Bool->Option Bool}{a b:List ay}(e:a.length<=100000)(f:b.length<=100000)(h:¬(RR a/\RR b)):gL a b keep=some ([],1):=by
 unfold gL;by_cases g:RR a;.have j:¬RR b:=λj=>h ⟨g,j⟩;rw[mh g,qb,if_neg (by simp),pD f j,qb,qb,if_pos (by simp)]
 .rw[pD e g,qb,if_pos (by simp),qb,if_pos (by simp)]
theorem Eg{keep:Bool->Bool->Option Bool}{kb:Bool->Bool->Bool}(hk:∀a b,keep a b=some (kb a b))(q:kb false false=false){a b:List ay}(h:RR a)(e:RR b):∃out,wq (λx y=>kb (decide (cells a x y)) (decide (cells b x y))=true) out/\gL a b keep=some (lim out):=by have u:=h.2.1;have w:=e.2.1;obtain⟨one,o1,f⟩:=oc (ls:=[a]) (by simpa using h.1) (by simp;omega) (by simp);obtain⟨z,t1,t2⟩:=oc (ls:=[b]) (by simpa using e.1) (by simp;omega) (by simp);obtain⟨E,F,j⟩:=oc (ls:=[a,b]) (by intro r m;simp[rT]at m;exact m.elim (h.1 r) (e.1 r)) (by simp;omega) (by simp);rw[show[a].flatten=a by simp]at f;rw[show[b].flatten=b by simp]at t2;rw[show[a,b].flatten=a++b by simp]at j;obtain⟨st,G,H,O,s4,I⟩:=H8 hk q f t2 j u w;obtain⟨out,J,M⟩:=A9 H (by omega) s4 (λx y=>by rw[I]);refine⟨out,M,?_⟩;unfold gL;rw[mh h,qb,if_neg (by simp),mh e,qb,qb,o1,qb,t1,qb,F,qb,G];dsimp;rw[J,qb,Bd,qb]
def kj(s:List ct):iJ (List ay):=s.map λx=>(x.Z0,x.Z1,x.Area)
theorem L8(a:List ct):(kj a).length=a.length:=by simp[kj]
def MS(s:List ct)(z:Int):List ay:=cC [] (kj s) z
def wR(s:List ct)(x y z:Int):Prop:=cells (MS s z) x y
instance(s:List ct)(x y z:Int):Decidable (wR s x y z):=inferInstanceAs (Decidable (cells _ _ _))
structure SS(s:List ct):Prop where len:s.length<=80canon:Canon [] (kj s)ok:∀b∈s,0<=b.Z0/\b.Z1<=4096/\RR b.Area
theorem Hs{s:List ct}{b:ct}(h:b∈s):(b.Z0,b.Z1,b.Area)∈kj s:=aM.2 ⟨b,h,rfl⟩
theorem HE{s:List ct}(h:Canon [] (kj s)){b:ct}(e:b∈s):b.Z0<b.Z1/\b.Area≠[]:=yf h (Hs e)
theorem Mf{s:List ct}(h:Canon [] (kj s)){b:ct}(e:b∈s){z:Int}(h1:b.Z0<=z)(f:z<b.Z1):MS s z=b.Area:=uK h (Hs e) h1 f
theorem zn{s:List ct}:Canon [] (kj s)↔(∀i (h:i<s.length),s[i].Z0<s[i].Z1/\s[i].Area≠[])/\∀i(h:i+1<s.length),s[i].Z1<s[i+1].Z0∨(s[i].Z1=s[i+1].Z0/\s[i].Area≠s[i+1].Area):=by rw[C1];simp[kj]
theorem rz{s:List ct}(G:∀b∈s,b.Area.length<=100000):∃b,lE s=some b/\(b=true↔SS s):=by
 unfold lE;by_cases P:80<s.length;·rw[if_pos (by simp;omega)];exact⟨_,rfl,by simp,λh=>absurd h.len (by omega)⟩
 .rw[if_neg (by simp;omega)];have q:∀i,i<s.length->(∀j,j<i->¬¬((∃h:j<s.length,0<=s[j].Z0/\s[j].Z0<s[j].Z1/\s[j].Z1<=4096/\s[j].Area≠[]/\RR s[j].Area)/\∀f:0<j,∀h:j<s.length,(s[j-1]'(by omega)).Z1<s[j].Z0∨((s[j-1]'(by omega)).Z1=s[j].Z0/\(s[j-1]'(by omega)).Area≠s[j].Area)))->(¬((∃h:i<s.length,0<=s[i].Z0/\s[i].Z0<s[i].Z1/\s[i].Z1<=4096/\s[i].Area≠[]/\RR s[i].Area)/\∀f:0<i,∀h:i<s.length,(s[i-1]'(by omega)).Z1<s[i].Z0∨((s[i-1]'(by omega)).Z1=s[i].Z0/\(s[i-1]'(by omega)).Area≠s[i].Area))/\gU s (i:Int)=some (.ret false))∨(¬¬((∃h:i<s.length,0<=s[i].Z0/\s[i].Z0<s[i].Z1/\s[i].Z1<=4096/\s[i].Area≠[]/\RR s[i].Area)/\∀f:0<i,∀h:i<s.length,(s[i-1]'(by omega)).Z1<s[i].Z0∨((s[i-1]'(by omega)).Z1=s[i].Z0/\(s[i-1]'(by omega)).Area≠s[i].Area))/\gU s (i:Int)=some (.go ((i+1:Nat):Int))):=by
   intro i hi _;obtain⟨J,z,y⟩:=eX (a:=s[i].Area) (G _ (aN hi));unfold gU;rw[if_pos (by simpa using hi),af hi,qb];by_cases h1:0<=s[i].Z0/\s[i].Z0<s[i].Z1/\s[i].Z1<=4096/\s[i].Area≠[]
   · have M:0<s[i].Area.length:=List.length_pos_iff.2 h1.2.2.2;rw[if_neg (by simp only[bT,decide_eq_true_eq,beq_iff_eq];omega),z,qb,qb];cases J;·left;rw[if_pos (by simp),qb];refine⟨λh=>?_,rfl⟩;obtain⟨⟨_,_,_,_,_,h⟩,_⟩:=h;exact absurd (y.2 h) (by simp)
     · have R:=y.1 rfl;rw[if_neg (by simp)];rcases sf i with rfl|f;·right;rw[if_pos (by simp),qb];dsimp only;rw[an (by omega),qb];exact⟨λh=>h ⟨⟨hi,h1.1,h1.2.1,h1.2.2.1,h1.2.2.2,R⟩,λh=>absurd h (fC _)⟩,rfl⟩
       · have u:lz (s[i-1]'(by omega)).Area s[i].Area=some _:=Ca (by have:=G _ (aN (show i-1<s.length by omega));omega);rw[if_neg (by simp;omega),pF f (by omega),qb,af (show i-1<s.length by omega),qb];have w:(if decide (s[i].Z0<(s[i-1]'(by omega)).Z1)=true then some true else(if((s[i-1]'(by omega)).Z1==s[i].Z0)=true then(lz (s[i-1]'(by omega)).Area s[i].Area).bind λx=>some x else some false).bind λx=>some x)=some (decide (¬((s[i-1]'(by omega)).Z1<s[i].Z0∨((s[i-1]'(by omega)).Z1=s[i].Z0/\(s[i-1]'(by omega)).Area≠s[i].Area)))):=by
          by_cases c1:s[i].Z0<(s[i-1]'(by omega)).Z1;.rw[if_pos (by simpa using c1)];congr 1;simp;omega
          · rw[if_neg (by simpa using c1),u];by_cases c2:(s[i-1]'(by omega)).Z1=s[i].Z0;.rw[if_pos (by simpa using c2)];simp[c2]
            .rw[if_neg (by simpa using c2)];simp;omega
         rw[w,qb];by_cases c:(s[i-1]'(by omega)).Z1<s[i].Z0∨((s[i-1]'(by omega)).Z1=s[i].Z0/\(s[i-1]'(by omega)).Area≠s[i].Area);·right;rw[if_neg (by simp only[decide_eq_true_eq,Classical.not_not];exact c),qb];dsimp only;rw[an (by omega),qb];exact⟨λh=>h ⟨⟨hi,h1.1,h1.2.1,h1.2.2.1,h1.2.2.2,R⟩,λ _ _=>c⟩,rfl⟩
         ·left;rw[if_pos (decide_eq_true c),qb];exact⟨λh=>c (h.2 f hi),rfl⟩
   ·left;rw[if_pos (by
  simp only[bT,decide_eq_true_eq,beq_iff_eq];rcases ky s[i].Z0 0 with g|g;.exact .inl (.inl (.inl g))
  · rcases ky s[i].Z0 s[i].Z1 with g2|g2
    · rcases ky 4096 s[i].Z1 with g3|g3;.exact .inl (.inr g3)
      ·right;have:s[i].Area=[]:=Classical.not_not.1 λh=>h1 ⟨g,g2,g3,h⟩;rw[this];rfl
    .exact .inl (.inl (.inr g2))),qb,if_pos rfl,qb];refine⟨λh=>h1 ?_,rfl⟩;obtain⟨⟨_,a,b,c,d,_⟩,_⟩:=h;exact⟨a,b,c,d⟩
  rcases HN (body:=gU s) (k:=0) s.length _ _ q (by unfold gU;rw[if_neg (by simp)]) (fuel:=s.length+1) (by omega)with⟨i,hi,E,_,h⟩|⟨E,h⟩
  · rw[h,qb];refine⟨_,rfl,by simp,λF=>absurd ⟨⟨hi,?_⟩,λf _=>?_⟩ E⟩;·have h1:=F.ok _ (aN hi);have I:=HE F.canon (aN hi);exact⟨h1.1,I.1,h1.2.1,I.2,h1.2.2⟩
    · have:=(zn.1 F.canon).2 (i-1) (by omega);have e:i-1+1=i:=by omega
      simp only[e]at this;exact this
  · rw[h,qb];have m:∀i(hi:i<s.length),(0<=s[i].Z0/\s[i].Z0<s[i].Z1/\s[i].Z1<=4096/\s[i].Area≠[]/\RR s[i].Area)/\∀f:0<i,(s[i-1]'(by omega)).Z1<s[i].Z0∨((s[i-1]'(by omega)).Z1=s[i].Z0/\(s[i-1]'(by omega)).Area≠s[i].Area):=by intro i hi;have:=Classical.not_not.1 (E i hi);exact⟨this.1.2,λf=>this.2 f hi⟩
    refine⟨_,rfl,λ _=>⟨by omega,zn.2 ⟨λi hi=>⟨(m i hi).1.2.1,(m i hi).1.2.2.2.1⟩,λi hi=>(m (i+1) hi).2 (by omega)⟩,λb O=>?_⟩,λ _=>rfl⟩;obtain⟨i,hi,rfl⟩:=br O;have:=(m i hi).1;exact⟨this.1,this.2.2.1,this.2.2.2.2⟩
theorem yh{s:List ct}(h:SS s):lE s=some true:=by obtain⟨b,h1,e⟩:=rz (λb f=>by have:=(h.ok b f).2.2.2.1;omega);rw[h1,e.2 h]
theorem xD{s:List ct}(e:∀b∈s,b.Area.length<=100000)(h:¬SS s):lE s=some false:=by
 have⟨b,h1,f⟩:=rz e;rw[h1];cases b;.rfl
 .exact absurd (f.1 rfl) h
def VB(b:Box):Prop:=VR b.Base/\0<=b.Z0/\b.Z0<b.Z1/\b.Z1<=4096
instance(b:Box):Decidable (VB b):=inferInstanceAs (Decidable (_/\_))
def IW(l:List Box)(x y z:Int):Prop:=∃b∈l,rin b.Base x y/\b.Z0<=z/\z<b.Z1
instance(l:List Box)(x y z:Int):Decidable (IW l x y z):=inferInstanceAs (Decidable (∃b∈l,_))
def sO(s:List ct):List Box:=s.flatMap λx=>x.Area.map λr=>⟨r,x.Z0,x.Z1⟩
theorem Mi{x:ct}(h:x.Area.length<=1000000){o:List Box}(e:o.length<=100000000):ar (my x) (x.Area.length+1) (o,0)=some (.ex 2 (o++x.Area.map (λr=>⟨r,x.Z0,x.Z1⟩),(x.Area.length:Int))):=by
 refine(dz _ (λs r=>s++[⟨r,x.Z0,x.Z1⟩]) (λi s=>s.length<=100000000+i) (by
 intro i hi s I;constructor;.unfold my;rw[if_pos (by simpa using hi),af hi,qb,bS (by simp;omega),qb,an (by omega),qb]
 .simp;omega) (by intro s _;unfold my;rw[if_neg (by simp)]) (by omega) (by omega)).1.trans ?_;rw[foldl_flatMap _,List.map_eq_flatMap]
theorem yB{s:List ct}(h:SS s):lJ s=some (sO s):=by
 unfold lJ;rw[yh h];have e:=h.len;obtain⟨h1,g⟩:=dz (l:=s) (body:=l7 s) (λ (s:List Box)i=>(s,i)) (λo x=>o++x.Area.map λr=>⟨r,x.Z0,x.Z1⟩) (λi o=>o.length<=200*i) (by
 intro i hi o I;have j:=(h.ok _ (aN hi)).2.2.2.1;constructor;.unfold l7;dsimp only;rw[if_pos (by simpa using hi),af hi,qb,Mi (by omega) (by omega),qb];dsimp only;rw[an (by omega),qb]
 .simp;omega) (by intro o _;unfold l7;rw[if_neg (by simp)]) (s0:=[]) (by simp) (fuel:=s.length+1) (by omega);rw[h1,foldl_flatMap _];rfl
theorem zO{s:List ct}(e:∀b∈s,b.Area.length<=100000)(h:¬SS s):lJ s=some []:=by unfold lJ;rw[xD e h,qb,if_pos (by simp)]
theorem AS{s:List ct}(h:SS s):(sO s).length<=16000:=by
 have q:=h.len;have e:∀l:List ct,(∀b∈l,b.Area.length<=200)->(sO l).length<=200*l.length:=by intro l;induction l with|nil=>intro _;simp[sO];|cons a l m=>intro f;have h1:=m λb g=>f b (by simp[g]);unfold sO at h1⊢;grind
 have:=e s λb f=>(h.ok b f).2.2.2.1;omega
theorem Jg{s:List ct}(h:SS s):∀b∈sO s,VB b:=by intro b e;obtain⟨x,f,e⟩:=vz.1 e;obtain⟨r,g,rfl⟩:=aM.1 e;have h1:=h.ok x f;have j:=HE h.canon f;exact⟨h1.2.2.1 r g,h1.1,j.1,h1.2.1⟩
theorem uO{s:List ct}(h:Canon [] (kj s))(x y z:Int):IW (sO s) x y z↔wR s x y z:=by
 constructor;.rintro⟨b,f,h1,j⟩;obtain⟨q,E,f⟩:=vz.1 f;obtain⟨r,m,rfl⟩:=aM.1 f;unfold wR;rw[Mf h E j.1 j.2];exact⟨r,m,h1⟩
 · intro g;unfold wR at g;rcases pL (e:=[])with h1|⟨p,q,h1,j⟩;.unfold MS at g;rw[h1]at g;simp[cells]at g
   · obtain⟨b,f,w⟩:=aM.1 h1;simp[Prod.mk.injEq]at w;obtain⟨r,m,u⟩:=g;refine⟨_,vz.2 ⟨b,f,aM.2 ⟨r,?_,rfl⟩⟩,u,by dsimp;omega⟩;have:MS s z=b.Area:=by unfold MS;rw[<-w.2.2]
     rw[<-this];exact m
set_option maxRecDepth 100000
def sg(x y:Int):Int:=if x<y then-1 else if y<x then 1 else 0
theorem cmp_eq(x y:Int):cE x y=some (sg x y):=by unfold cE cmp_isNaN_int sg;grind
theorem HV{x y M:Int}(e:-M<=x)(h1:x<=M)(h:0<=y)(f:y<=M):-(M*M)<=x*y/\x*y<=M*M:=by have g:=nV e h;have a2:=nV h1 h;have a3:M*y<=M*M:=Int.mul_le_mul_of_nonneg_left f (by omega);grind
theorem NI{n1 d1 n2 d2 p q:Int}(hd1:0<d1)(e:0<d2)(j:0<q)(h:n1*d2<n2*d1)(g:n2*q<=p*d2):n1*q<p*d1:=by
 rcases ky (n1*q) (p*d1)with f|f;.exact f
 .have e1:=nV f (nT e);have m:=pf h j;have u:=nV g (nT hd1);grind
theorem BA{n1 d1 n2 d2 p q:Int}(hd1:0<d1)(e:0<d2)(j:0<q)(h:n2*d1<n1*d2)(g:p*d2<=n2*q):p*d1<n1*q:=by
 rcases ky (p*d1) (n1*q)with f|f;.exact f
 .have e1:=nV f (nT e);have m:=pf h j;have u:=nV g (nT hd1);grind
theorem Fo{n1 d1 n2 d2 p q:Int}(hd1:0<d1)(e:0<d2)(h:n1*d2=n2*d1)(g:n2*q<=p*d2):n1*q<=p*d1:=by
 rcases ky (p*d1) (n1*q)with f|f;.have e1:=pf f e;have j:=nV g (nT hd1);grind
 .exact f
theorem DR{n1 d1 n2 d2 p q:Int}(hd1:0<d1)(e:0<d2)(h:n1*d2=n2*d1)(g:p*d2<=n2*q):p*d1<=n1*q:=by
 rcases ky (n1*q) (p*d1)with f|f;.have e1:=pf f e;have j:=nV g (nT hd1);grind
 .exact f
def loR(n d:Int)(o:Bool)(p q:Int):Prop:=n*q<=p*d/\(o=true->n*q<p*d)
def hiR(n d:Int)(o:Bool)(p q:Int):Prop:=p*d<=n*q/\(o=true->p*d<n*q)
def nK(n d:Int):Prop:=0<d/\d<=4194304/\-4194304<=n/\n<=4194304
section
variable{n1 d1 n2 d2 p q:Int}{o1 o2:Bool}
theorem nK.mul(h:nK n1 d1)(g:nK n2 d2):El n1 d2=some (n1*d2):=by have:=HV h.2.2.1 h.2.2.2 (nT g.1) g.2.1;exact rP (by unfold inI;omega)
theorem RV(h:nK n1 d1)(g:nK n2 d2)(e:0<q)(f:n1*d2<n2*d1)(x:loR n2 d2 o2 p q):loR n1 d1 o1 p q:=by have:=NI h.1 g.1 e f x.1;exact⟨by omega,λ _=>this⟩
theorem RF(h:nK n1 d1)(g:nK n2 d2)(e:n1*d2=n2*d1):(n1*q<=p*d1↔n2*q<=p*d2)/\(n1*q<p*d1↔n2*q<p*d2):=by have a:=Fo (p:=p) (q:=q) h.1 g.1 e;have b:=Fo (p:=p) (q:=q) g.1 h.1 e.symm;have c:=DR (p:=p) (q:=q) h.1 g.1 e;have d:=DR (p:=p) (q:=q) g.1 h.1 e.symm;grind
theorem U6(h:nK n1 d1)(g:nK n2 d2)(e:n1*d2=n2*d1):loR n1 d1 (o1||o2) p q↔loR n1 d1 o1 p q/\loR n2 d2 o2 p q:=by obtain⟨a,b⟩:=RF (p:=p) (q:=q) h g e;unfold loR;grind
theorem Rx(h:nK n1 d1)(g:nK n2 d2)(e:0<q)(f:n2*d1<n1*d2)(x:hiR n2 d2 o2 p q):hiR n1 d1 o1 p q:=by have:=BA h.1 g.1 e f x.1;exact⟨by omega,λ _=>this⟩
theorem Rq(h:nK n1 d1)(g:nK n2 d2)(e:n1*d2=n2*d1):(p*d1<=n1*q↔p*d2<=n2*q)/\(p*d1<n1*q↔p*d2<n2*q):=by obtain⟨a,b⟩:=RF (p:=p) (q:=q) h g e;grind
theorem Ud(h:nK n1 d1)(g:nK n2 d2)(e:n1*d2=n2*d1):hiR n1 d1 (o1||o2) p q↔hiR n1 d1 o1 p q/\hiR n2 d2 o2 p q:=by obtain⟨a,b⟩:=Rq (p:=p) (q:=q) h g e;unfold hiR;grind
theorem Oj(h:nK n1 d1)(g:nK n2 d2)(m:0<q)(f:loR n1 d1 o1 p q)(j:hiR n2 d2 o2 p q):n1*d2<=n2*d1/\((o1=true∨o2=true)->n1*d2<n2*d1):=by
 constructor
 · rcases ky _ (n1*d2)with x|x;.have:=BA h.1 g.1 m x j.1;have:=f.1;omega
   .exact x
 · intro e;rcases vF (n1*d2) (n2*d1)with x|x|x;.exact x
   · obtain⟨a,b⟩:=Rq h g x;rcases e with e|e;.have:=f.2 e;have:=a.2 j.1;omega
     .have:=b.2 (j.2 e);have:=f.1;omega
   .have:=BA h.1 g.1 m x j.1;have:=f.1;omega
theorem Mu(h:nK n1 d1)(g:nK n2 d2)(f:n1*d2<n2*d1∨(n1*d2=n2*d1/\o1=false/\o2=false)):∃p q,0<q/\loR n1 d1 o1 p q/\hiR n2 d2 o2 p q:=by
 rcases f with f|⟨f,rfl,rfl⟩
 · refine⟨n1*d2+n2*d1,2*(d1*d2),by have:=Int.mul_pos h.1 g.1;omega,?_,?_⟩
   · have e:=pf f h.1;have:n1*(2*(d1*d2))<(n1*d2+n2*d1)*d1:=by grind
     exact⟨by omega,λ _=>this⟩
   · have e:=pf f g.1;have:(n1*d2+n2*d1)*d2<n2*(2*(d1*d2)):=by grind
     exact⟨by omega,λ _=>this⟩
 .exact⟨n1,d1,h.1,⟨gf _,by simp⟩,⟨by omega,by simp⟩⟩
theorem MK(h:nK n1 d1):∃p q,0<q/\loR n1 d1 o1 p q:=by
 refine⟨n1+d1,d1,h.1,?_⟩;have e:=Int.mul_pos h.1 h.1;have:n1*d1<(n1+d1)*d1:=by grind
 exact⟨by omega,λ _=>this⟩
theorem Tx{e y f:Int}(h:0<y):loR (f-e) y false p q↔f*q<=e*q+y*p:=by unfold loR;grind
theorem RX{e y f:Int}(h:0<y):hiR (f-e) y true p q↔e*q+y*p<f*q:=by unfold hiR;grind
theorem Sn{e y f:Int}:loR (e-f) (0-y) true p q↔e*q+y*p<f*q:=by unfold loR;grind
theorem TI{e y f:Int}:hiR (e-f) (0-y) false p q↔f*q<=e*q+y*p:=by unfold hiR;grind
end
theorem E1{a b:Int}:0<sg a b↔b<a:=by unfold sg;split<;>omega
theorem MW{a b:Int}:sg a b<0↔a<b:=by unfold sg;split<;>omega
theorem vl{a b:Int}:sg a b=0↔a=b:=by unfold sg;split<;>omega
def bK(x:cg):Prop:=nK x.n x.d
def IvK(i:bn):Prop:=bK i.lo/\(i.top=true->bK i.hi)
def Mem(i:bn)(p q:Int):Prop:=i.none_=false/\loR i.lo.n i.lo.d i.lo.open_ p q/\(i.top=true->hiR i.hi.n i.hi.d i.hi.open_ p q)
theorem wB{x y:cg}(h:bK x)(e:bK y):eu x y=some (sg (x.n*y.d) (y.n*x.d)):=by unfold eu;rw[nK.mul h e,qb,nK.mul e h,qb,cmp_eq,qb]
theorem GW{i:bn}{b:cg}(hi:IvK i)(e:bK b):∃j,eO i b=some j/\IvK j/\j.top=i.top/\∀p q,0<q->(Mem j p q↔Mem i p q/\loR b.n b.d b.open_ p q):=by
 unfold eO;rw[wB e hi.1,qb];by_cases c1:i.lo.n*b.d<b.n*i.lo.d
 · rw[if_pos (by rw[decide_eq_true_iff];exact E1.2 c1)];refine⟨_,rfl,⟨e,hi.2⟩,rfl,λp q f=>?_⟩;constructor;.rintro⟨h1,g,m⟩;exact⟨⟨h1,RV hi.1 e f c1 g,m⟩,g⟩
   .rintro⟨⟨h1,_,m⟩,g⟩;exact⟨h1,g,m⟩
 · rw[if_neg (by rw[decide_eq_true_iff];exactλh=>c1 (E1.1 h))];by_cases c2:b.n*i.lo.d=i.lo.n*b.d;.rw[if_pos (by rw[beq_iff_eq];exact vl.2 c2)];refine⟨_,rfl,⟨hi.1,hi.2⟩,rfl,λp q f=>?_⟩;unfold Mem;rw[U6 hi.1 e c2.symm];grind
   .rw[if_neg (by rw[beq_iff_eq];exactλh=>c2 (vl.1 h))];refine⟨_,rfl,hi,rfl,λp q f=>⟨λh=>⟨h,?_⟩,λh=>h.1⟩⟩;exact RV e hi.1 f (by omega) h.2.1
theorem HA{i:bn}{b:cg}(hi:IvK i)(e:bK b):∃j,eQ i b=some j/\IvK j/\j.top=true/\∀p q,0<q->(Mem j p q↔Mem i p q/\hiR b.n b.d b.open_ p q):=by
 unfold eQ;by_cases f:i.top=true
 · have g:=hi.2 f;rw[if_pos f,wB e g,qb,qb];by_cases c1:b.n*i.hi.d<i.hi.n*b.d
   · rw[if_pos (by rw[decide_eq_true_iff];exact MW.2 c1)];refine⟨_,rfl,⟨hi.1,λ _=>e⟩,rfl,λp q m=>?_⟩;unfold Mem;constructor;.rintro⟨h1,w,u⟩;exact⟨⟨h1,w,λ _=>Rx g e m (by omega) (u rfl)⟩,u rfl⟩
     grind
   · rw[if_neg (by rw[decide_eq_true_iff];exactλh=>c1 (MW.1 h))];by_cases c2:b.n*i.hi.d=i.hi.n*b.d;.rw[if_pos (by rw[beq_iff_eq];exact vl.2 c2)];refine⟨_,rfl,⟨hi.1,λ _=>g⟩,f,λp q m=>?_⟩;unfold Mem;rw[Ud g e c2.symm];grind
     .rw[if_neg (by rw[beq_iff_eq];exactλh=>c2 (vl.1 h))];refine⟨_,rfl,hi,f,λp q m=>⟨λh=>⟨h,?_⟩,λh=>h.1⟩⟩;exact Rx e g m (by omega) (h.2.2 f)
 .rw[if_neg f];refine⟨_,rfl,⟨hi.1,λ _=>e⟩,rfl,λp q m=>?_⟩;unfold Mem;grind
def cK(x:Int):Prop:=-2097152<=x/\x<=2097152
theorem yW{i:bn}{e y f g:Int}(hi:IvK i)(h1:cK e)(E:cK y)(F:cK f)(G:cK g):∃j,dK i e y f g=some j/\IvK j/\(i.top=true->j.top=true)/\∀p q,0<q->(Mem j p q↔Mem i p q/\f*q<=e*q+y*p/\e*q+y*p<g*q):=by
 unfold cK at h1 E F G;unfold dK;by_cases c1:0<y;·rw[if_pos (by simpa using c1),db (by unfold inI;omega),qb];obtain⟨j,e1,u,H,w⟩:=GW (b:=⟨f-e,y,false⟩) hi (by unfold bK nK;dsimp only;omega);rw[e1,qb,db (by unfold inI;omega),qb];obtain⟨x,g1,g2,g3,g4⟩:=HA (b:=⟨g-e,y,true⟩) u (by unfold bK nK;dsimp only;omega);rw[g1,qb,qb];refine⟨x,rfl,g2,λ _=>g3,λp q m=>?_⟩;rw[g4 p q m,w p q m];dsimp only;rw[Tx c1,RX c1,and_assoc]
 · rw[if_neg (by simpa using c1)];by_cases c2:y<0;·rw[if_pos (by simpa using c2),db (by unfold inI;omega),qb,db (by unfold inI;omega),qb];obtain⟨j,e1,u,H,w⟩:=GW (b:=⟨e-g,0-y,true⟩) hi (by unfold bK nK;dsimp only;omega);rw[e1,qb,db (by unfold inI;omega),qb,qb];obtain⟨x,g1,g2,g3,g4⟩:=HA (b:=⟨e-f,0-y,false⟩) u (by unfold bK nK;dsimp only;omega);rw[g1,qb,qb,qb];refine⟨x,rfl,g2,λ _=>g3,λp q m=>?_⟩;rw[g4 p q m,w p q m];dsimp only;rw[Sn,TI,and_assoc];exact and_congr_right λ _=>and_comm
   · have I:y=0:=by omega
     subst I;rw[if_neg (by simp)];by_cases z:e<f∨g<=e
     · rw[if_pos (by simpa using z),qb,qb,qb];refine⟨_,rfl,hi,λh=>h,λp q m=>?_⟩;unfold Mem;dsimp only;constructor;.rintro⟨h,_⟩;simp at h
       ·rintro⟨_,g1,g2⟩;rw[Int.zero_mul,Int.add_zero]at g1 g2;have J:=Int.le_of_mul_le_mul_right g1 m;have a2:=Int.lt_of_mul_lt_mul_right g2 (nT m);omega
     ·rw[if_neg (by simpa using z),qb,qb,qb];simp_all
theorem empty_eq{i:bn}(hi:IvK i):∃e,fU i=some e/\(e=false↔∃p q,0<q/\Mem i p q):=by
  unfold fU;by_cases g:i.none_=true;.rw[if_pos (by simp[g])];exact⟨_,rfl,by simp[g],λ⟨p,q,_,h⟩=>by have:=h.1;rw[g]at this;simp at this⟩
  · by_cases j:i.top=true
    · have u:=hi.2 j;rw[if_neg (by simp[g,j]),wB hi.1 u];refine⟨_,rfl,?_⟩;have f:i.none_=false:=by simpa using g
      constructor;·intro h;simp only[pw,decide_eq_false_iff_not,vC,beq_eq_false_iff_ne]at h;rw[E1]at h;obtain⟨p,q,m,h1,w⟩:=Mu hi.1 u (by
 rcases vF _ (i.hi.n*i.lo.d)with x|x|x;.exact .inl x
 · right;rcases h.2 with y|y;.exact absurd (vl.2 x) y
   .exact⟨x,y⟩
 .exact absurd x h.1);exact⟨p,q,m,f,h1,λ _=>w⟩
      · rintro⟨p,q,m,_,h1,w⟩;have⟨g1,g2⟩:=Oj hi.1 u m h1 (w j);simp only[pw,decide_eq_false_iff_not,vC,beq_eq_false_iff_ne];rw[E1];refine⟨by omega,?_⟩;by_cases z:i.lo.open_=true∨i.hi.open_=true;.left;intro E;have:=g2 z;rw[vl]at E;omega
        .right;simpa using z
    · rw[if_pos (by simp[j])];have f:i.none_=false:=by simpa using g
      refine⟨_,rfl,λ _=>?_,λ _=>f⟩;obtain⟨p,q,m,h⟩:=MK hi.1;exact⟨p,q,m,f,h,λh=>absurd h j⟩
def AA(x:Box)(p v:bq)(a b:Int):Prop:=(x.Base.X0*b<=p.X*b+v.X*a/\p.X*b+v.X*a<x.Base.X1*b)/\(x.Base.Y0*b<=p.Y*b+v.Y*a/\p.Y*b+v.Y*a<x.Base.Y1*b)/\(x.Z0*b<=p.Z*b+v.Z*a/\p.Z*b+v.Z*a<x.Z1*b)
def pK(p:bq):Prop:=cK p.X/\cK p.Y/\cK p.Z
theorem WX{x:Box}(h:VB x):cK x.Base.X0/\cK x.Base.X1/\cK x.Base.Y0/\cK x.Base.Y1/\cK x.Z0/\cK x.Z1:=by unfold VB VR at h;unfold cK;omega
theorem ze{p v:bq}{t:bn}{l:List Box}(g:pK p)(j:pK v)(w:IvK t)(y:∀x∈l,VB x)(Q:l.length<=1000000):∃r,(ar (jq p v t l) (l.length+1) 0).bind (λf=>match f with| .go _=>none| .ex _ _=>some false| .ret r=>some r)=some r/\(r=true↔∃x∈l,∃a b,0<b/\Mem t a b/\AA x p v a b):=by
 rcases CU (body:=jq p v t l) (λx=>∃a b,0<b/\Mem t a b/\AA x p v a b) _ (by
 intro i hi;have⟨z,E,k3,F,G,k6⟩:=WX (y _ (aN hi));have⟨R,H,a2,_,a4⟩:=yW w g.1 j.1 z E;have⟨T,I,J,_,M⟩:=yW a2 g.2.1 j.2.1 k3 F;have⟨U,c1,c2,_,O⟩:=yW J g.2.2 j.2.2 G k6;have⟨e,e1,P⟩:=empty_eq c2;have q:e=false↔∃a b,0<b/\Mem t a b/\AA l[i] p v a b:=by rw[P];refine exists_congr λa=>exists_congr λb=>and_congr_right λm=>?_;rw[O a b m,M a b m,a4 a b m];unfold AA;simp[and_assoc]
 unfold jq;rw[if_pos (by simpa using hi),af hi,qb,H,qb,I,qb,c1,qb,e1];cases e;.left;exact⟨q.1 rfl,rfl⟩
 .right;rw[an (by omega)];exact⟨λh=>by simpa using q.2 h,rfl⟩) (by unfold jq;rw[if_neg (by simp)]) (fuel:=l.length+1) (by omega)with⟨i,hi,g,_,h⟩|⟨g,h⟩;.rw[h,qb];grind
 simp_all
def Hit(S:Int->Int->Int->Prop)(p v:bq)(a b:Int):Prop:=S ((p.X*b+v.X*a)/b) ((p.Y*b+v.Y*a)/b) ((p.Z*b+v.Z*a)/b)
theorem K3{x:Box}{p v:bq}{a b:Int}(h:0<b):AA x p v a b↔rin x.Base ((p.X*b+v.X*a)/b) ((p.Y*b+v.Y*a)/b)/\x.Z0<=(p.Z*b+v.Z*a)/b/\(p.Z*b+v.Z*a)/b<x.Z1:=by unfold AA rin;rw[yy h,yy h,yy h,yX h,yX h,yX h];simp[and_assoc]
theorem CK{l:List Box}{p v:bq}{a b:Int}(h:0<b):Hit (IW l) p v a b↔∃x∈l,AA x p v a b:=exists_congr λx=>and_congr_right λ_=>(K3 h).symm
theorem Fz{s:List ct}{p v:bq}{t:bn}(g:pK p)(j:pK v)(q:IvK t)(w:∀b∈s,b.Area.length<=100000):∃r,nR s p v t=some r/\(r=true↔SS s/\∃a b,0<b/\Mem t a b/\Hit (wR s) p v a b):=by
 unfold nR;by_cases h:SS s
 · rw[yB h];have⟨r,h1,u⟩:=ze g j q (Jg h) (by have:=AS h;omega);refine⟨r,h1,u.trans ?_⟩;constructor;.rintro⟨x,f,a,b,e,m,hi⟩;refine⟨h,a,b,e,m,?_⟩;have:=(CK e).2 ⟨x,f,hi⟩;exact(uO h.canon _ _ _).1 this
   .rintro⟨_,a,b,e,m,hi⟩;have⟨x,f,hi⟩:=(CK e).1 ((uO h.canon _ _ _).2 hi);exact⟨x,f,a,b,e,m,hi⟩
 .rw[zO w h];have⟨r,h1,u⟩:=ze (l:=[]) g j q (by simp) (by simp);grind
def onP(p:bq):Prop:=0<=p.X/\p.X<=1048576/\0<=p.Y/\p.Y<=1048576/\0<=p.Z/\p.Z<=4096
instance(p:bq):Decidable (onP p):=by unfold onP;infer_instance
theorem JN(p:bq):rS p=some (decide (onP p)):=by unfold rS;congr 1;rw[pq,decide_eq_true_iff];unfold onP;simp;omega
theorem onP.pK{p:bq}(h:onP p):Pl.pK p:=by unfold onP at h;unfold Pl.pK cK;omega
def JS(q p:bq):bq:=⟨q.X-p.X,q.Y-p.Y,q.Z-p.Z⟩
def NT(S:Int->Int->Int->Prop)(p q:bq):Prop:=∃a b,0<b/\0<a/\a<b/\Hit S p (JS q p) a b
def XA(S:Int->Int->Int->Prop)(p d:bq):Prop:=∃a b,0<b/\0<a/\Hit S p d a b
theorem If{s:List ct}{p q:bq}(m:∀b∈s,b.Area.length<=100000):∃r,gA s p q=some r/\(r=true↔onP p/\onP q/\SS s/\NT (wR s) p q):=by
 unfold gA;rw[JN,qb];by_cases e:onP p
 · by_cases f:onP q
   · rw[if_neg (by simp[e]),JN,qb,qb,if_neg (by simp[f])];have g:=e;have j:=f;unfold onP at g j;rw[db (by unfold inI;omega),qb,db (by unfold inI;omega),qb,db (by unfold inI;omega),qb];have⟨r,h1,u⟩:=Fz (v:=JS q p) (t:=⟨⟨0,1,true⟩,⟨1,1,true⟩,true,false⟩) e.pK (by unfold pK cK JS;dsimp;omega) (by unfold IvK bK nK;dsimp;omega) m;unfold JS at h1;rw[h1];refine⟨r,rfl,u.trans ⟨λ ⟨g1,a,b,g2,g3,g4⟩=>⟨e,f,g1,a,b,g2,?_,?_,g4⟩,λ ⟨_,_,g1,a,b,g2,g3,g4,g5⟩=>⟨g1,a,b,g2,⟨rfl,?_,λ _=>?_⟩,g5⟩⟩⟩;.have:=g3.2.1.2 rfl;dsimp at this;omega
     .have:=(g3.2.2 rfl).2 rfl;dsimp at this;omega
     .unfold loR;dsimp;omega
     .unfold hiR;dsimp;omega
   .rw[if_neg (by simp[e]),JN,qb,qb,if_pos (by simp[f])];exact⟨_,rfl,by simp,λh=>absurd h.2.1 f⟩
 simp_all
def IN(d:bq):Prop:=¬(d.X=0/\d.Y=0/\d.Z=0)/\(-1048576<=d.X/\d.X<=1048576)/\(-1048576<=d.Y/\d.Y<=1048576)/\(-1048576<=d.Z/\d.Z<=1048576)
instance(p:bq):Decidable (IN p):=by unfold IN;infer_instance
theorem TM{s:List ct}{p d:bq}(m:∀b∈s,b.Area.length<=100000):∃r,mS s p d=some r/\(r=true↔onP p/\IN d/\SS s/\XA (wR s) p d):=by
  unfold mS;rw[JN,qb];have q:d=⟨0,0,0⟩↔d.X=0/\d.Y=0/\d.Z=0:=by have⟨x,y,z⟩:=d;simp
  by_cases h:onP p/\IN d
  · have⟨f,e⟩:=h;have g:=e;unfold IN at g;rw[if_neg (by
 simp only[bT,cN,decide_eq_false_iff_not,decide_eq_true_eq];rintro(((h|h)|h)|h);.exact h f
 .exact e.1 (q.1 h)
 .omega
 .omega)];obtain⟨r,h1,u⟩:=Fz (v:=d) (t:=⟨⟨0,1,true⟩,_,false,false⟩) f.pK (by unfold pK cK;omega) (by unfold IvK bK nK;dsimp;exact⟨by omega,λh=>by simp at h⟩) m;rw[h1];refine⟨r,rfl,u.trans ⟨λ ⟨g1,a,b,g2,g3,g4⟩=>⟨f,e,g1,a,b,g2,?_,g4⟩,λ⟨_,_,g1,a,b,g2,g3,g5⟩=>⟨g1,a,b,g2,⟨rfl,?_,λh=>by simp at h⟩,g5⟩⟩⟩;.have:=g3.2.1.2 rfl;dsimp at this;omega
    .unfold loR;dsimp;omega
  ·rw[if_pos (by
 simp[bT,cN,decide_eq_false_iff_not,decide_eq_true_eq];by_cases f:onP p
 · by_cases w:d=⟨0,0,0⟩;.exact .inl (.inl (.inr w))
   .have e:¬IN d:=λe=>h ⟨f,e⟩;unfold IN at e;grind
 .exact .inl (.inl (.inl f)))];exact⟨_,rfl,by simp,λj=>absurd ⟨j.1,j.2.1⟩ h⟩
def Tot{e:Type}(o:Option e):Prop:=∃r,o=some r
theorem Tot.pure{e:Type}(x:e):Tot (some x):=⟨x,rfl⟩
theorem Tot.bind{e m:Type}{o:Option e}{f:e->Option m}(h:Tot o)(g:∀x,o=some x->Tot (f x)):Tot (o.bind f):=by have⟨x,j⟩:=h;rw[j];exact g x j
theorem Tot.ite{e:Type}{c:Prop}[Decidable c]{x y:Option e}(h:c->Tot x)(g:¬c->Tot y):Tot (if c then x else y):=by
 split;.exact h ‹_›
 .exact g ‹_›
theorem lV{e ρ:Type}{body:e->Option (aY e ρ)}(x:e->Int)(I:e->Prop)(N:Nat)(step:∀s i,x s=((i:Nat):Int)->i<N->I s->(∃g,body s=some (.go g)/\x g=((i+1:Nat):Int)/\I g)∨∃f,body s=some f/\f.ends)(done:∀s,x s=((N:Nat):Int)->I s->∃f,body s=some f/\f.ends)(j:e)(m:x j=0)(q:I j){u:Nat}(w:N<u):∃f,ar body u j=some f/\f.ends:=by have⟨f,h1,y,_⟩:=cH (λi s=>x s=i/\I s) N _ (λi s hi h=>(step s i h.1 hi h.2).imp (λ⟨g,a,b,c⟩=>⟨g,a,b,c⟩) λ ⟨f,a,b⟩=>⟨f,a,b,trivial⟩) (λs h=>let⟨f,a,b⟩:=done s h.1 h.2;⟨f,a,b,trivial⟩) j ⟨m,q⟩ u w;exact⟨f,h1,y⟩
theorem Tot.loop{e ρ j:Type}{o:Option (aY e ρ)}{f:aY e ρ->Option j}(h:∃x,o=some x/\x.ends)(g:∀x,x.ends->Tot (f x)):Tot (o.bind f):=by have⟨x,m,q⟩:=h;rw[m];exact g x q
theorem vE{e:Type}{s:List e}{f:e->Option Bool}{g:e->Bool}(E:s.length<=1000000)(u:∀x∈s,f x=some (g x)):Tf s f=some (s.any g):=by
 unfold Tf BV;rw[Option.bind_assoc];refine mM (λi t=>t=(i:Int)/\∀m(h:m<s.length),m<i->g s[m]=false) s.length (.=some _) (λi t hi⟨j,I⟩=>?_) (λt⟨j,I⟩=>?_) ⟨rfl,λm _ h=>by omega⟩ (by omega);.subst j;rw[if_pos (by simpa using hi),af hi,qb,u s[i] (aN hi)];cases w:g s[i]with|true=>exact .inr ⟨_,rfl,trivial,by rw[oe.2 ⟨_,aN hi,w⟩];simp⟩;|false=>rw[an (by omega)];refine .inl ⟨_,rfl,rfl,λm q y=>?_⟩;grind
 .subst j;rw[if_neg (by simp)];refine⟨_,rfl,trivial,?_⟩;rw[show s.any g=false by rw[vN];intro x z;obtain⟨m,q,rfl⟩:=br z;rw[I m q q];simp];rfl
theorem ri{e:Type}{s:List e}{f:e->Option Bool}(h:s.length<=1000000)(j:∀x,Tot (f x)):Tot (Tf s f):=⟨_,vE (g:=λx=>(f x).getD false) h λx _=>by have⟨b,m⟩:=j x;rw[m];rfl⟩
theorem Cd{s:List aF}{f:aF->Option Bool}(h:s.length<=1000000)(e:∀x,Tot (f x)):Tot (ek s f):=ri h e
theorem GS{s:ByteArray}{n:Nat}(h:n<s.size):Tot (HS s (n:Int)):=by
 unfold HS;have:s[(n:Int).toNat]?=some s[n]:=by simp
 rw[this];exact Tot.pure _
theorem As(c:IK .u8):Tot (la c):=Tot.pure _
theorem KL(c:IK .u8):Tot (sw c):=Tot.pure _
theorem Lt(c:IK .u8):Tot (sZ c):=by refine(As c).bind λx _=>?_;refine Tot.bind (Tot.ite (λ _=>Tot.pure _) λ _=>(KL c).bind λ _ _=>Tot.pure _) λ _ _=>Tot.pure _
theorem My{s:ByteArray}{f:IK .u8->Option Bool}(u:s.size<=1000000)(e:∀c,Tot (f c)):Tot (xo s f):=by
 refine Tot.loop (lV (λs=>s) (λ _=>True) s.size ?_ ?_ 0 rfl trivial (by omega)) ?_;.intro i n hi h _;subst hi;unfold qA;have⟨c,g⟩:=GS h;have⟨b,j⟩:=e c;rw[if_pos (by simpa using h),g];simp only[qb,j];cases b with|false=>exact .inr ⟨_,rfl,trivial⟩;|true=>rw[an (by omega)];exact .inl ⟨_,rfl,rfl,trivial⟩
 .intro i hi _;subst hi;unfold qA;rw[if_neg (by simp)];exact⟨_,rfl,trivial⟩
 .intro x m;cases x with|go _=>exact m.elim;|ex _ _=>exact Tot.pure _;|ret _=>exact Tot.pure _
theorem Oc(s:ByteArray):∃b,rR s=some b/\(b=true->s.size<=20):=by
 have h1:Tot (if((s.toList==(⟨#[]⟩:ByteArray).toList))then some true else(HS s 0).bind λc=>(la c).bind λl=>some (!l)):=by
  refine Tot.ite (λ _=>Tot.pure _) λh=>?_;have j:0<s.size:=by
   rcases sf s.size with g|g;.simp_all
   .exact g
  exact(GS j).bind λc _=>(As c).bind λ _ _=>Tot.pure _
 have⟨x,m⟩:=h1;unfold rR;rw[m];simp only[qb];by_cases e:(x||decide (20<(s.size:Int)))=true;.rw[if_pos e];exact⟨_,rfl,λh=>by simp at h⟩
 · rw[if_neg e];have f:s.size<=20:=by simp at e;omega
   have⟨n,q⟩:=My (s:=s) (by omega) Lt;rw[q];exact⟨_,rfl,λ _=>f⟩
theorem EG{s t:ByteArray}(h:s.size<=4000):Tot (strings_Contains s t):=by unfold strings_Contains;rw[if_pos (by omega)];exact Tot.pure _
theorem Qz:IntKind.i64.max=9223372036854775807:=by simp
theorem yG{s t:ByteArray}(h:s.size+t.size<=1000000):GQ s t=some (s++t):=by unfold GQ;rw[Qz,if_pos (by omega)]
theorem Nd(res s:ByteArray)(j:res.size<=4000):Tot ((rR s).bind λx=>(if x then(GQ (⟨#[32]⟩:ByteArray) s).bind λy=>(GQ y (⟨#[32]⟩:ByteArray)).bind λz=>(strings_Contains res z).bind λb=>some (!b)else some false).bind λb=>some b):=by
 have⟨b,g,e⟩:=Oc s;refine Tot.bind ⟨b,g⟩ λx m=>?_;refine Tot.bind (Tot.ite (λh=>?_) λ _=>Tot.pure _) λ _ _=>Tot.pure _;have q:s.size<=20:=e (by rw[<-ae (m.symm.trans g)];exact h);have h1:(⟨#[32]⟩:ByteArray).size=1:=rfl;refine Tot.bind ⟨_,yG (by omega)⟩ λy f=>?_;have f:y.size=1+s.size:=by rw[yG (by omega)]at f;rw[<-ae f,ByteArray.size_append,h1]
 exact Tot.bind ⟨_,yG (by omega)⟩ λz _=>Tot.bind (EG j) λ _ _=>Tot.pure _
theorem Nb(s:ByteArray):Tot (jc s):=by unfold jc;exact Nd _ s (oD (by kernel_rfl))
def SmP(p:Phase):Prop:=p.Volumes.length<=12/\p.cd.length<=6
def SmD(d:ax):Prop:=d.Phases.length<=9/\∀p∈d.Phases,SmP p
def iu(l:List ax):Prop:=l.length<=maxLen/\∀d∈l,d.Phases.length<=maxLen
theorem Jz{d:ax}(h:SmD d):∃l,og d=some l/\l.length<=108:=by have⟨f,h1,h2,h3⟩:=cH (body:=hK d 0 d.Phases.length) (λi s=>s.2=i/\s.1.length<=12*i) d.Phases.length (λf=>match f with| .ex _ s=>s.1.length<=108|_=>False) (λi s hi⟨hs,hI⟩=>by have h9:=h.1;have hv:=(h.2 _ (aN hi)).1;unfold hK;rw[hs,if_pos (by simpa using hi),af hi,qb,if_pos (by simp;omega),bS (by omega),an (by omega)];exact .inl ⟨_,rfl,rfl,by simp;omega⟩) (λs ⟨hs,hI⟩=>by have h9:=h.1;unfold hK;rw[hs,if_neg (by simp)];exact⟨_,rfl,trivial,by show s.1.length<=108;omega⟩) ([],0) ⟨rfl,by simp⟩ (d.Phases.length+1) (by omega);unfold og oF;rw[h1];cases f with|go _=>exact h2.elim;|ret r=>exact h3.elim;|ex _ s=>exact⟨_,rfl,h3⟩
theorem Je(v:aF):Tot (dh v):=by refine Tot.bind (Tot.pure _) λ _ _=>Tot.ite (λ _=>Tot.pure _) λ _=>Tot.ite (λ _=>Tot.pure _) λ _=>Tot.pure _
theorem Mh(a b:Box):Tot (sH a b):=by refine Tot.bind (Tot.bind (Tot.pure _) λ _ _=>Tot.bind (Tot.ite (λ _=>Tot.pure _) λ _=>Tot.bind (Tot.pure _) λ _ _=>Tot.pure _) λ _ _=>Tot.ite (λ _=>Tot.pure _) λ _=>Tot.bind (Tot.bind (Tot.pure _) λ _ _=>Tot.ite (λ _=>Tot.pure _) λ _=>Tot.pure _) λ _ _=>Tot.pure _) λ _ _=>Tot.pure _
theorem L2{l:List aF}(h:l.length<=1000000):∃f,ar (kT l) (l.length+1) 0=some f/\f.ends:=by
 refine lV (λs=>s) (λ _=>True) l.length ?_ ?_ 0 rfl trivial (by omega)
 · intro s i hs hi _;subst hs;unfold kT;rw[if_pos (by simpa using hi),af hi];simp only[qb];have⟨b,hb⟩:=Je l[i];rw[hb];simp only[qb];have⟨c,hc⟩:Tot (if(!b)=true then some true else(ic l 0 i).bind λy=>(ek y (λy0=>pU y0 l[i])).bind λz=>some z):=by refine Tot.ite (λ _=>Tot.pure _) λ _=>?_;rw[nY (by omega) (by omega) (by omega)];simp only[qb];refine Tot.bind (Cd (by simp;omega) λx=>?_) λ _ _=>Tot.pure _;exact Tot.bind (Mh _ _) λ _ _=>Tot.pure _
   rw[hc];cases c with|true=>exact .inr ⟨_,rfl,trivial⟩;|false=>rw[an (by omega)];exact .inl ⟨_,rfl,rfl,trivial⟩
 .intro s hs _;subst hs;unfold kT;rw[if_neg (by simp)];exact⟨_,rfl,trivial⟩
theorem LS{p:Phase}(h:SmP p):∃f,ar (kQ p) (p.cd.length+1) ((⟨[]⟩:(Bv ByteArray Bool)),0)=some f/\f.ends:=by
 have h6:=h.2;refine lV (λs=>s.2) (λ _=>True) p.cd.length ?_ ?_ _ rfl trivial (by omega)
 · intro s i hs hi _;unfold kQ;rw[hs,if_pos (by simpa using hi),af hi];simp only[qb];have⟨c,hc⟩:Tot (if(bz (s.1).l p.cd[i].Name).getD false=true then some true else(jc p.cd[i].Name).bind λy=>some (!y)):=Tot.ite (λ _=>Tot.pure _) λ _=>Tot.bind (Nb _) λ _ _=>Tot.pure _;rw[hc];simp only[qb];split;.exact .inr ⟨_,rfl,trivial⟩
   .rw[an (by omega)];exact .inl ⟨_,rfl,rfl,trivial⟩
 .intro s hs _;unfold kQ;rw[hs,if_neg (by simp)];exact⟨_,rfl,trivial⟩
theorem LY{d:ax}(h:SmD d):∃f,ar (kF d) (d.Phases.length+1) 0=some f/\f.ends:=by
 have h9:=h.1;refine lV (λs=>s) (λ _=>True) d.Phases.length ?_ ?_ 0 rfl trivial (by omega);.intro s i hs hi _;subst hs;unfold kF;rw[if_pos (by simpa using hi),af hi];simp only[qb];have⟨f,hf,he⟩:=LS (h.2 _ (aN hi));rw[hf];cases f with|go _=>exact he.elim;|ret r=>exact .inr ⟨_,rfl,trivial⟩;|ex _ _=>
  dsimp;split;.exact .inr ⟨_,rfl,trivial⟩
  .rw[an (by omega)];exact .inl ⟨_,rfl,rfl,trivial⟩
 .intro s hs _;subst hs;unfold kF;rw[if_neg (by simp)];exact⟨_,rfl,trivial⟩
theorem ON{d:ax}(h:SmD d):Tot (oY d):=by have⟨l,hl,h108⟩:=Jz h;unfold oY;rw[hl];refine Tot.ite (λ _=>Tot.pure _) λ _=>?_;refine Tot.loop (L2 (by omega)) λx hx=>?_;cases x with|go _=>exact hx.elim;|ret _=>exact Tot.pure _;|ex _ _=>refine Tot.loop (LY h) λx hx=>?_;cases x with|go _=>exact hx.elim;|ret _=>exact Tot.pure _;|ex _ _=>exact Tot.pure _
theorem IB{e:Type}{n:Nat}{z:e}(h:n<=1000000):CX (n:Int) z=some (List.replicate n z):=by unfold CX;rw[if_pos (by constructor<;>omega)];simp
theorem FD{i n:Nat}(h:0<n):Kv (i:Int) (n:Int)=some ((i%n:Nat):Int):=by unfold Kv;rw[if_pos (by omega)];congr 1
theorem Bf{p:List fe}(h:p.length<=60):∃l,jt p=some l/\l.length=p.length:=by unfold jt;rw[IB (by omega),qb];obtain⟨f,h1,m,q⟩:=cH (body:=iQ p) (λi s=>s.2=i/\s.1.length=p.length) p.length (λf=>match f with| .ex _ s=>s.1.length=p.length|_=>False) (λi s hi⟨e,g⟩=>by have⟨l,j⟩:=s;subst e;unfold iQ;rw[if_pos (by simpa using hi),af hi,qb,an (by omega),qb,FD (by omega),qb,af (Nat.mod_lt _ (by omega)),af (by omega)];exact .inl ⟨_,rfl,rfl,by simpa using g⟩) (λs ⟨e,g⟩=>by unfold iQ;rw[e,if_neg (by simp)];exact⟨_,rfl,trivial,g⟩) (List.replicate p.length _,0) ⟨rfl,by simp⟩ (p.length+1) (by omega);rw[h1];grind
theorem y9(a b:Int):Tot (cE a b):=Tot.ite (λ_=>Tot.ite (λ_=>Tot.pure _) λ_=>Tot.pure _) λ_=>Tot.ite (λ_=>Tot.pure _) λ_=>Tot.ite (λ_=>Tot.pure _) λ_=>Tot.ite (λ_=>Tot.pure _) λ_=>Tot.pure _
theorem Tq{l:List Int}(h:l.length<=100):Tot (mV l):=by
 refine Tot.loop (lV (λs=>s) (λ _=>True) l.length ?_ ?_ 0 rfl trivial (by omega)) ?_
 · intro s i e hi _;subst e;unfold nw;rw[if_pos (by simpa using hi),af hi,qb];split;.exact .inr ⟨_,rfl,trivial⟩
   .rw[an (by omega)];exact .inl ⟨_,rfl,rfl,trivial⟩
 .intro s e _;subst e;unfold nw;rw[if_neg (by simp)];exact⟨_,rfl,trivial⟩
 .intro x f;cases x with|go _=>exact f.elim;|ex _ _=>exact Tot.pure _;|ret _=>exact Tot.pure _
theorem Ed(a b:fe):Tot (kO a b):=Tot.bind (y9 _ _) λ_ _=>Tot.bind (y9 _ _) λ_ _=>Tot.bind (Tq (by simp)) λ_ _=>Tot.pure _
theorem HI{p:List fe}{l:List bX}(h:p.length<=60)(q:l.length=p.length):∃f,ar (jH p l) (l.length+1) 0=some f/\f.ends:=by
 refine lV (λs=>s) (λ _=>True) l.length ?_ ?_ 0 rfl trivial (by omega)
 · intro s i g hi _;subst g;unfold jH;rw[if_pos (by simpa using hi),af hi,qb,an (by omega),qb,FD (by omega),qb,af (Nat.mod_lt _ (by omega)),qb];unfold qf dA;rw[qb];obtain⟨c,j⟩:Tot (if(_||(_==(l[i].a.Y==l[i].b.Y)))=true then some true else(some (l[i].a.X==l[i].b.X)).bind λx=>(some _).bind λy=>some (x==y)):=Tot.ite (λ _=>Tot.pure _) λ _=>Tot.pure _;rw[j,qb];split;.exact .inr ⟨_,rfl,trivial⟩
   · have⟨e,m⟩:Tot (if(decide ((0:Int)<i))=true then(aL p 0).bind λx=>(aL p i).bind λy=>(kO x y).bind λz=>some (decide (0<=z))else some false):=by refine Tot.ite (λ _=>?_) λ _=>Tot.pure _;rw[show(0:Int)=(0:Nat)from rfl,af (by omega),qb,af (by omega),qb];exact Tot.bind (Ed _ _) λ _ _=>Tot.pure _
     rw[m,qb];split;.exact .inr ⟨_,rfl,trivial⟩
     simp_all
 .intro s g _;subst g;unfold jH;rw[if_neg (by simp)];exact⟨_,rfl,trivial⟩
theorem Fb{l:List bX}{i:Nat}(h:l.length<=60)(hi:i<l.length):∃f,ar (eI l (i:Int)) (l.length+1) ((i+2:Nat):Int)=some f/\f.ends:=by
 by_cases u:l.length<=i+2
 · refine⟨.ex 4 (i+2:Nat),?_,trivial⟩;have e:eI l i (i+2:Nat)=some (.ex 4 (i+2:Nat)):=by unfold eI;rw[if_neg (by simp;omega)]
   simp only[ar,e]
 ·have⟨f,h1,j,_⟩:=cH (body:=eI l i) (λm s=>s=(i+2+m:Nat)) (l.length-(i+2)) (λ _=>True) (λm s w g=>by
 subst g;unfold eI;rw[if_pos (by simp;omega),cW (by constructor<;>omega),qb,db (by constructor<;>omega),qb,af hi,qb,af (by omega),qb];unfold iX;rw[qb];obtain⟨c,q⟩:Tot (if(decide ((1:Int)<i+_-_))=true then some _ else some false):=Tot.ite (λ _=>Tot.pure _) λ _=>Tot.pure _;rw[q,qb];split;.exact .inr ⟨_,rfl,trivial,trivial⟩
 .rw[an (by omega)];exact .inl ⟨_,rfl,by congr 1⟩) (λs g=>by unfold eI;rw[if_neg (by simp;omega)];exact⟨_,rfl,trivial,trivial⟩) (i+2) (by simp) (l.length+1) (by omega);exact⟨f,h1,j⟩
theorem Iz{p:List fe}:Tot (qO p):=by
 refine Tot.ite (λ _=>Tot.pure _) λh=>?_;simp at h;have e:p.length<=60:=by omega
 have⟨l,w,j⟩:=Bf e;rw[w];refine Tot.loop (HI e j) λx m=>?_;cases x with|go _=>exact m.elim;|ret _=>exact Tot.pure _;|ex _ _=>
 refine Tot.loop (lV (λs=>s) (λ _=>True) l.length ?_ ?_ 0 rfl trivial (by omega)) λx m=>?_;.intro s i q hi _;subst q;unfold mY;rw[if_pos (by simpa using hi),cW (by constructor<;>omega),qb];have⟨f,y,z⟩:=Fb (by omega) hi;rw[show((i:Int)+2)=(i+2:Nat)by rfl,y];cases f with|go _=>exact z.elim;|ret _=>exact .inr ⟨_,rfl,trivial⟩;|ex _ _=>rw[an (by omega)];exact .inl ⟨_,rfl,rfl,trivial⟩
 .intro s q _;subst q;unfold mY;rw[if_neg (by simp)];exact⟨_,rfl,trivial⟩
 .cases x with|go _=>exact m.elim;|ret _=>exact Tot.pure _;|ex _ _=>rw[show(0:Int)=(0:Nat)from rfl,af (by omega)];exact Tot.pure _
theorem Gq{xs:List Int}{l:List bX}{s:List ay×Int}{m:Nat}(q:l.length<=60)(e:s.2=(m:Int))(x:m<xs.length):∃f,ar (gd xs l s) (l.length+1) (([]:List Int),0)=some f/\f.ends/\(match f with| .ex _ t=>t.1.length<=60| .go _=>False| .ret _=>False):=by
 refine cH (body:=gd xs l s) (λi t=>t.2=i/\t.1.length<=i) l.length _ (λi t hi⟨h,I⟩=>?_) (λt⟨h,I⟩=>?_) _ ⟨rfl,by simp⟩ _ (by omega);.unfold gd;rw[h,e,if_pos (by simpa using hi),af hi,qb];unfold dA;rw[qb,af x];obtain⟨c,g⟩:Tot (if(!(l[i].a.X==l[i].b.X))=true then(some xs[m]).bind λy=>some (decide (_<=y))else some false):=Tot.ite (λ _=>Tot.pure _) λ _=>Tot.pure _;rw[g,qb];obtain⟨d,j⟩:Tot (if c=true then(some xs[m]).bind λy=>some (decide (y<_))else some false):=Tot.ite (λ _=>Tot.pure _) λ _=>Tot.pure _;rw[j];cases d with|true=>rw[bS (by simp;omega),an (by omega)];exact .inl ⟨_,rfl,rfl,by simp;omega⟩;|false=>rw[an (by omega)];exact .inl ⟨_,rfl,rfl,by show t.1.length<=_;omega⟩
 .unfold gd;rw[h,if_neg (by simp)];exact⟨_,rfl,trivial,by show t.1.length<=60;omega⟩
theorem Hu{xs ys:List Int}{s:List ay×Int}{m fuel:Nat}(e:s.2=(m:Int))(x:m+1<xs.length)(j:ys.length<=60)(q:s.1.length<=60*m)(h:m<=60)(u:ys.length<fuel):∃f,ar (gm xs s ys) fuel (s.1,0)=some f/\f.ends/\(match f with| .ex _ t=>t.1.length<=60*(m+1)| .go _=>False| .ret _=>False):=by
 refine cH (body:=gm xs s ys) (λi t=>t.2=(2*i:Nat)/\t.1.length<=60*m+i) (ys.length/2) _ (λi t hi⟨g,I⟩=>?_) (λt _=>?_) _ ⟨rfl,by omega⟩ _ (by omega);·unfold gm;rw[g,cW (by constructor<;>omega),qb,show(_+1)=((2*i+1:Nat):Int)by rfl,if_pos (by simp;omega),e,af (by omega),qb,af (by omega),qb,an (by omega),qb,af x,qb,qb,af (by omega),qb,bS (by simp;omega),cW (by constructor<;>omega)];exact .inl ⟨_,rfl,by omega,by simp;omega⟩
 .unfold gm;rw[cW (by constructor<;>omega),qb,if_neg (by simp;omega)];exact⟨_,rfl,trivial,by show t.1.length<=_;omega⟩
theorem I5{p:List fe}(h:p.length<=12):∃r,mo p=some r/\r.1.length<=1000:=by unfold mo;obtain⟨b,E⟩:=Iz (p:=p);rw[E,qb];cases b with|false=>rw[if_pos (by simp)];exact⟨_,rfl,by simp⟩;|true=>rw[if_neg (by simp)];obtain⟨f,h1,F,G⟩:=cH (body:=iS p) (λi s=>s.2=((i:Nat):Int)/\s.1.length=i) p.length (λf=>match f with| .ex _ s=>s.1.length=p.length|_=>False) (λi s hi⟨m,j⟩=>by unfold iS;rw[m,if_pos (by simpa using hi),af hi,qb,bS (by simp;omega),qb,an (by omega)];exact .inl ⟨_,rfl,rfl,by simp[j]⟩) (λs ⟨m,j⟩=>by unfold iS;rw[m,if_neg (by simp)];exact⟨_,rfl,trivial,j⟩) (([]:List Int),0) ⟨rfl,rfl⟩ (p.length+1) (by omega);rw[h1,qb];cases f with|go _=>exact F.elim;|ret _=>exact G.elim;|ex _ s=>dsimp only;obtain⟨x1,g1,g2,g3⟩:=nq (l:=s.1) (by omega);have H:=g2.length_eq;obtain⟨x,J,_,_,V⟩:=mO (l:=x1) (by omega) g3;rw[g1,qb,J,qb];obtain⟨l,j,M⟩:=Bf (p:=p) (by omega);rw[j,qb,db (by constructor<;>omega),qb];obtain⟨f,e1,O,u⟩:=cH (body:=iU x l ((x.length:Int)-1)) (λi t=>t.2=((i:Nat):Int)/\t.1.length<=60*i) (x.length-1) (λf=>match f with| .ex _ t=>t.1.length<=1000|_=>False) (λi t hi⟨g,I⟩=>by unfold iU;rw[if_pos (by rw[g];simp;omega)];obtain⟨f2,P,a2,a3⟩:=Gq (xs:=x) (l:=l) (s:=t) (by omega) g (by omega);rw[P,qb];cases f2 with|go _=>exact a2.elim;|ret _=>exact a3.elim;|ex _ t2=>dsimp only;obtain⟨ys,R,T,W⟩:=nq (l:=t2.1) (by omega);have U:=T.length_eq;rw[R,qb];obtain⟨f3,c1,c2,w⟩:=Hu (xs:=x) (ys:=ys) (s:=t) (fuel:=x.length+l.length+t.1.length+ys.length+1) g (by omega) (by omega) I (by omega) (by omega);rw[c1,qb];cases f3 with|go _=>exact c2.elim;|ret _=>exact w.elim;|ex _ t3=>rw[g,an (by omega)];exact .inl ⟨_,rfl,rfl,w⟩) (λt⟨g,I⟩=>by unfold iU;rw[if_neg (by rw[g];simp;omega)];exact⟨_,rfl,trivial,by show t.1.length<=1000;omega⟩) (([]:List ay),0) ⟨rfl,by simp⟩ (((x.length:Int)-1).toNat+1) (by omega);rw[e1,qb];cases f with|go _=>exact O.elim;|ret _=>exact u.elim;|ex _ t=>
 dsimp only;split;.exact⟨_,rfl,by simp⟩
 .exact⟨_,rfl,u⟩
def lmd(n:Int):Int:=min (max n (-1099511627776)) 1099511627776
theorem NK(n:Int):lC n=some (lmd n):=rfl
theorem I6(n:Int):-1099511627776<=lmd n/\lmd n<=1099511627776:=by unfold lmd;omega
def nmd:List Entry->Cap->Int|[],_=>0|e::l,c=>(if e.Name=c.Name then lmd e.N else 0)+nmd l c
theorem JU(c:Cap):∀(l m:List Entry),nmd (l++m) c=nmd l c+nmd m c|[],m=>by simp[nmd];|e::l,m=>by simp[nmd,JU c l m];omega
theorem yj(c:Cap):∀l:List Entry,-(1099511627776*(l.length:Int))<=nmd l c/\nmd l c<=1099511627776*(l.length:Int)|[]=>by simp[nmd];|e::l=>by have h:=yj c l;have f:=I6 e.N;simp[nmd];split<;>omega
theorem Gf{l:List Entry}{c:Cap}(h:l.length<=1000):sb l c=some (nmd l c):=by have⟨f,h1,q,u⟩:=cH (body:=o6 l c) (λi s=>s.2=i/\s.1=nmd (l.take i) c) l.length (λf=>match f with| .ex _ s=>s.1=nmd l c|_=>False) (λi s hi⟨j,I⟩=>by
 unfold o6;have w:=yj c (l.take i);have m:(l.take i).length<=1000:=by simp;omega
 have x:=I6 l[i].N;rw[j,if_pos (by simpa using hi),af hi,qb,<-beq_toListBytes,xi];have e:nmd (l.take (i+1)) c=nmd (l.take i) c+(if l[i].Name=c.Name then lmd l[i].N else 0):=by rw[dB hi,JU];simp[nmd]
 by_cases g:l[i].Name=c.Name;.rw[if_pos (by simpa using g),NK,qb,I,cW (by constructor<;>omega),an (by omega)];exact .inl ⟨_,rfl,rfl,by rw[e,if_pos g]⟩
 .rw[if_neg (by simpa using g),an (by omega)];exact .inl ⟨_,rfl,rfl,by rw[e,if_neg g];omega⟩) (λs⟨j,I⟩=>by unfold o6;rw[j,if_neg (by simp)];rw[cQ]at I;exact⟨_,rfl,trivial,I⟩) (0,0) ⟨rfl,by simp[nmd]⟩ (l.length+1) (by omega);unfold sb;grind
theorem UO{v:aF}:∃b,dh v=some b/\(b=true->VR v.Box.Base/\0<=v.Box.Z0/\v.Box.Z0<v.Box.Z1/\v.Box.Z1<=4096/\0<=v.Use/\v.Use<=5/\0<=v.Units/\v.Units<=1048576):=by
 unfold dh;rw[ft,qb];split;.exact⟨_,rfl,λh=>by simp at h⟩
 · rename_i h;split;.exact⟨_,rfl,λh=>by simp at h⟩
   .refine⟨_,rfl,λg=>?_⟩;grind
def nS(p:az):Prop:=p.Tables.length<=5/\∀t∈p.Tables,t.Rows.length<=10
theorem Jc{s:List Entry}{f:Entry->Option Bool}(m:s.length<=1000000)(g:∀x,Tot (f x)):∃r,hY s f=some r/\(0<=r->r<(s.length:Int)):=by
 refine mM (λi t=>t=(i:Int)) s.length (λo:Option Int=>∃r,o=some r/\(0<=r->r<s.length)) (λi t hi e=>?_) (λt e=>?_) rfl (by omega);.subst e;have⟨b,j⟩:=g s[i];rw[if_pos (by simpa using hi),af hi,qb,j];cases b with|true=>exact .inr ⟨_,rfl,trivial,_,rfl,λ _=>by omega⟩;|false=>rw[an (by omega)];exact .inl ⟨_,rfl,rfl⟩
 .subst e;rw[if_neg (by simp)];exact⟨_,rfl,trivial,_,rfl,λh=>by omega⟩
theorem Md{e:Entry}{q:ByteArray×ByteArray×ByteArray×ByteArray×ByteArray×ByteArray}{u:Int}(h:0<=u)(f:u<=5):Tot (nD e q u):=by unfold nD;rw[vq h (by simp;omega)];exact Tot.pure _
theorem QK{p:az}{u:Int}(j:nS p)(w:0<=u)(y:u<=5):∃n,qp p u=some n/\0<=n/\n<=1048576:=by
 have z:=j.1;have⟨f,h1,E,q⟩:=cH (body:=lW p u) (λi s=>s=i) p.Tables.length (λf=>match f with| .ex _ _=>True| .ret n=>0<=n/\n<=1048576| .go _=>False) (λi s hi e=>by
 subst e;unfold lW;rw[if_pos (by simpa using hi),af hi,qb];split;.rw[an (by omega)];exact .inl ⟨_,rfl,rfl⟩
 · have F:=j.2 _ (aN hi);obtain⟨r,G,g⟩:=Jc (s:=p.Tables[i].Rows) (by omega) λx=>Md w y;rw[G,qb];have⟨m,H⟩:Tot (if(decide (0<=r))=true then(aL p.Tables[i].Rows r).bind λx=>some x.N else some p.Tables[i].Else):=by refine Tot.ite (λh=>?_) λ _=>Tot.pure _;have h:=of_decide_eq_true h;rw[vq h (g h)];exact Tot.pure _
   rw[H];exact .inr ⟨_,rfl,trivial,by omega,by omega⟩) (λs e=>by subst e;unfold lW;rw[if_neg (by simp)];exact⟨_,rfl,trivial,trivial⟩) 0 rfl (p.Tables.length+1) (by omega);unfold qp;rw[h1];cases f with|go _=>exact E.elim;|ex _ _=>exact⟨_,rfl,by omega,by omega⟩;|ret n=>exact⟨_,rfl,q.1,q.2⟩
theorem B9{r:ay}(h:VR r):∃n,iG r=some n/\0<=n/\n<=1099511627776:=by unfold iG jJ;have e:=h;unfold VR at e;rw[ft,decide_eq_true h];dsimp;rw[db (by constructor<;>omega),qb,db (by constructor<;>omega),qb];have h1:0<=(r.X1-r.X0)*(r.Y1-r.Y0):=Int.mul_nonneg (by omega) (by omega);have f:(r.X1-r.X0)*(r.Y1-r.Y0)<=1048576*1048576:=Int.mul_le_mul (by omega) (by omega) (by omega) (by omega);rw[rP (by constructor<;>omega)];exact⟨_,rfl,h1,by omega⟩
theorem K6(v:aF):∃n,nF v=some n/\0<=n/\n<=2251799813685248:=by unfold nF;obtain⟨b,m,e⟩:=UO;rw[m,qb];cases b with|false=>rw[if_pos (by simp)];exact⟨_,rfl,by omega,by omega⟩;|true=>
 have⟨V,h1,w,x,_⟩:=e rfl;have⟨a,q,f,g⟩:=B9 V;rw[q,qb];have⟨s,u,h,j⟩:∃s,kV v=some s/\0<=s/\s<=2048:=by unfold kV;rw[m];cases v.Extra with|true=>rw[if_pos rfl];exact⟨_,rfl,by omega,by omega⟩;|false=>rw[if_neg (by simp),qb,qb,if_neg (by simp),db (by constructor<;>omega),qb,cW (by constructor<;>omega),qb,db (by constructor<;>omega),qb];have y:(v.Box.Z1-v.Box.Z0+3-1).tdiv 3=(v.Box.Z1-v.Box.Z0+3-1)/3:=yH (by omega);unfold HY;rw[if_pos ⟨by omega,by constructor<;>omega⟩];exact⟨_,rfl,by omega,by omega⟩
 rw[u,qb];have g1:0<=a*s:=Int.mul_nonneg f h;have g2:a*s<=1099511627776*2048:=Int.mul_le_mul g j h (by omega);rw[rP (by constructor<;>omega)];exact⟨_,rfl,g1,by omega⟩
theorem Hy{p:az}{v:aF}(g:nS p)(j:0<=v.Use)(m:v.Use<=5):∃n,kC p v=some n/\0<=n/\n<=1099511627776:=by
 unfold kC;have⟨r,q,u,w⟩:=QK g j m;have⟨f,x,h,y⟩:=K6 v;rw[q,qb,x,qb];by_cases z:0<r
 · have E:(109951162777600:Int).tdiv r=109951162777600/r:=yH (by omega);have F:0<=109951162777600/r:=Int.ediv_nonneg (by omega) (by omega);have G:109951162777600/r<=109951162777600:=Int.ediv_le_self _ (by omega);rw[if_pos (by simpa using z)];unfold HY;rw[if_pos ⟨by omega,by constructor<;>omega⟩,qb,qb,E];by_cases e:109951162777600/r<f;.rw[if_pos (by simpa using e)];exact⟨_,rfl,by omega,by omega⟩
   .rw[if_neg (by simpa using e)];have g0:0<=r*f:=Int.mul_nonneg (by omega) h;have g1:r*f<=r*(109951162777600/r):=Int.mul_le_mul_of_nonneg_left (by omega) (by omega);have g2:r*(109951162777600/r)<=109951162777600:=Int.mul_ediv_self_le (by omega);rw[rP (by constructor<;>omega),qb,cW (by constructor<;>omega),qb,db (by constructor<;>omega),qb];have H:(r*f+100-1).tdiv 100=(r*f+100-1)/100:=yH (by omega);rw[if_pos ⟨by omega,by constructor<;>omega⟩];exact⟨_,rfl,by omega,by omega⟩
 · obtain rfl:r=0:=by omega
   rw[rP (by constructor<;>omega),Int.zero_mul];exact⟨_,rfl,by decide,by decide⟩
theorem Cl{s:List ay}{f:ay->Option Bool}(h:s.length<=1000000)(e:∀x,Tot (f x)):Tot (de s f):=ri h e
theorem Dt(a b:ay):Tot (gK a b):=by unfold gK jJ;simp[ft];refine Tot.bind (Tot.ite (λ _=>Tot.pure _) λ _=>Tot.pure _) λ _ _=>Tot.ite (λ _=>Tot.pure _) λ _=>Tot.bind (Tot.ite (λ _=>Tot.pure _) λ _=>Tot.pure _) λ _ _=>Tot.pure _
theorem OI{p:az}{c:Cap}{v:aF}(j:nS p)(m:c.Corners.length<=12):∃n,hM p c v=some n/\0<=n/\n<=1099511627776:=by unfold hM;obtain⟨b,q,h⟩:=UO;rw[q,qb];cases b with|false=>rw[if_pos (by simp)];exact⟨_,rfl,by omega,by omega⟩;|true=>
 have⟨V,h1,H,I,u,w,J,M⟩:=h rfl;rw[if_neg (by simp)];have⟨r,y,z⟩:=I5 m;rw[y,qb];have⟨e,E⟩:Tot (if(r.2!=0)=true then some true else(de r.1 (λF=>qj F v)).bind λx=>some (!x)):=by refine Tot.ite (λ _=>Tot.pure _) λ _=>Tot.bind (Cl (by omega) λx=>?_) λ _ _=>Tot.pure _;exact Tot.bind (Dt _ _) λ _ _=>Tot.pure _
 rw[E,qb];split;.exact⟨_,rfl,by omega,by omega⟩
 · split;.exact⟨_,rfl,by omega,by omega⟩
   · split;·have⟨n,G,f,g⟩:=Hy j u w;grind
     · split;.have⟨n,G,f,g⟩:=B9 V;grind
       .exact⟨_,rfl,by omega,by omega⟩
def ld(p:az)(c:Cap)(v:aF):Int:=(hM p c v).getD 0
theorem L9{p:az}{c:Cap}{v:aF}(h:nS p)(e:c.Corners.length<=12):hM p c v=some (ld p c v)/\0<=ld p c v/\ld p c v<=1099511627776:=by obtain⟨n,f,g,h1⟩:=OI h e;unfold ld;rw[f];exact⟨rfl,g,h1⟩
def lds(p:az)(c:Cap)(l:List aF):Int:=(l.map (ld p c)).sum
theorem P3(p:az)(c:Cap)(l m:List aF):lds p c (l++m)=lds p c l+lds p c m:=by simp[lds]
theorem BI{p:az}{c:Cap}(h:nS p)(f:c.Corners.length<=12):∀l:List aF,0<=lds p c l/\lds p c l<=1099511627776*(l.length:Int)
 |[]=>by simp[lds];|v::l=>by
  have g:=BI h f l;have j:=L9 (v:=v) h f;have e:lds p c (v::l)=ld p c v+lds p c l:=by simp[lds]
  rw[eU];omega
def loadT(t:aP)(c:Cap):Int:=nmd t.Base c+lds t.az c (t.Built.map (·.aF))
def phL(p:az)(c:Cap)(h:Phase):Int:=-(nmd h.cd c)+lds p c h.Volumes
theorem Ie{t:aP}{c:Cap}(e:nS t.az)(g:c.Corners.length<=12)(u:t.Built.length<=1000)(m:t.Base.length<=1000):rM t c=some (loadT t c):=by
 unfold rM;rw[Gf m];have w:=yj c t.Base;have⟨f,h1,x,y⟩:=cH (body:=qG t c) (λi s=>s.2=i/\s.1=nmd t.Base c+lds t.az c ((t.Built.take i).map (·.aF))) t.Built.length (λf=>match f with| .ex _ s=>s.1=loadT t c|_=>False) (λi s hi⟨h,I⟩=>by
 unfold qG;have q:=L9 (v:=t.Built[i].aF) e g;have z:=BI e g ((t.Built.take i).map (·.aF));have j:((t.Built.take i).map (·.aF)).length<=1000:=by simp;omega
 rw[h,if_pos (by simpa using hi),af hi,qb,q.1,qb,I,cW (by constructor<;>omega),an (by omega),dB hi,gb];simp[lds];omega) (λs ⟨h,I⟩=>by unfold qG;rw[h,if_neg (by simp)];rw[cQ]at I;exact⟨_,rfl,trivial,I⟩) (nmd t.Base c,0) ⟨rfl,by simp[lds]⟩ (t.Built.length+1) (by omega);grind
theorem GV{p:az}{c:Cap}{h:Phase}(g:nS p)(j:c.Corners.length<=12)(w:h.Volumes.length<=1000)(q:h.cd.length<=1000):vh p c h=some (phL p c h):=by
 unfold vh;have x:=yj c h.cd;rw[Gf q,qb,db (by constructor<;>omega)];have⟨f,h1,y,z⟩:=cH (body:=o8 p c h) (λi s=>s.2=i/\s.1=-(nmd h.cd c)+lds p c (h.Volumes.take i)) h.Volumes.length (λf=>match f with| .ex _ s=>s.1=phL p c h|_=>False) (λi s hi⟨e,I⟩=>by
 unfold o8;have u:=L9 (v:=h.Volumes[i]) g j;have E:=BI g j (h.Volumes.take i);have m:(h.Volumes.take i).length<=1000:=by simp;omega
 rw[e,if_pos (by simpa using hi),af hi,qb,u.1,qb,I,cW (by constructor<;>omega),an (by omega),dB hi,P3];simp[lds];omega) (λs ⟨e,I⟩=>by unfold o8;rw[e,if_neg (by simp)];rw[cQ]at I;exact⟨_,rfl,trivial,I⟩) (0-nmd h.cd c,0) ⟨rfl,by simp[lds]⟩ (h.Volumes.length+1) (by omega);grind
def after(t:aP)(e:Int)(h:Phase):aP:={t with Built:=t.Built++h.Volumes.map (λv=>(⟨e,v⟩:cD)),Base:=t.Base++h.cd.map (λg=>(⟨g.Name,-(lmd g.N)⟩:Entry))}
theorem eJ{e:Type}{s:List e}(h:s.length<=1000000):eb [] s=some s:=by rw[bS (by simp;omega),ko]
theorem OB{t:aP}{e:Int}{h:Phase}(q:t.Built.length+h.Volumes.length<=1000)(x:t.Base.length+h.cd.length<=1000):oU t e h=some (after t e h):=by unfold oU di bW;rw[eJ (by omega),qb,qb,eJ (by omega),qb,qb];obtain⟨f,h1,u,m⟩:=cH (body:=kU e h) (λi s=>s.2=((i:Nat):Int)/\s.1={t with Built:=t.Built++(h.Volumes.take i).map (λv=>(⟨e,v⟩:cD))}) h.Volumes.length (λf=>match f with| .ex _ s=>s.1={t with Built:=t.Built++h.Volumes.map _}|_=>False) (λi s hi⟨j,I⟩=>by unfold kU;rw[j,if_pos (by simpa using hi),af hi,qb,I];dsimp only;rw[bS (by simp;omega),qb,an (by omega)];refine .inl ⟨_,rfl,rfl,?_⟩;rw[dB hi,gb,dm];rfl) (λs⟨j,I⟩=>by unfold kU;rw[j,if_neg (by simp)];rw[cQ]at I;exact⟨_,rfl,trivial,I⟩) (t,0) ⟨rfl,by simp⟩ (h.Volumes.length+1) (by omega);rw[h1,qb];cases f with|go _=>exact u.elim;|ret _=>exact m.elim;|ex _ s=>have m:s.1={t with Built:=t.Built++h.Volumes.map _}:=m;dsimp only;rw[m];obtain⟨f,g1,g2,g3⟩:=cH (body:=kJ h) (λi s=>s.2=((i:Nat):Int)/\s.1={t with Built:=t.Built++h.Volumes.map (λv=>(⟨e,v⟩:cD)),Base:=t.Base++(h.cd.take i).map (λg=>(⟨g.Name,-(lmd g.N)⟩:Entry))}) h.cd.length (λf=>match f with| .ex _ s=>s.1=after t e h|_=>False) (λi s hi⟨j,I⟩=>by unfold kJ;have q:=I6 h.cd[i].N;rw[j,if_pos (by simpa using hi),af hi,qb,NK,qb,db (by constructor<;>omega),qb,I];dsimp only;rw[bS (by simp;omega),qb,an (by omega)];refine .inl ⟨_,rfl,rfl,?_⟩;rw[dB hi,gb,dm,Int.zero_sub];rfl) (λs⟨j,I⟩=>by unfold kJ;rw[j,if_neg (by simp)];rw[cQ]at I;exact⟨_,rfl,trivial,I⟩) ({t with Built:=t.Built++h.Volumes.map (λv=>(⟨e,v⟩:cD))},0) ⟨rfl,by simp⟩ (h.cd.length+1) (by omega);grind
def PhS(h:Phase):Prop:=h.Volumes.length<=2/\h.cd.length<=3
def RtS(r:ai):Prop:=r.ax.Phases.length<=4/\∀h∈r.ax.Phases,PhS h
def liv(r:ai):Bool:=((!r.Over)&&(decide (0<=r.Used)))&&(decide (r.Used<(r.ax.Phases.length:Int)))
def lft(r:ai):List Phase:=if liv r=true then r.ax.Phases.drop r.Used.toNat else[]
theorem K5{l:List Phase}(h:l.length<=1000)(j:∀m∈l,PhS m):nA l=some l:=by unfold nA;obtain⟨f,h1,w,x⟩:=cH (body:=jK l) (λi s=>s.2=i/\s.1=l.take i) l.length (λf=>match f with| .ex _ s=>s.1=l|_=>False) (λi s hi⟨e,I⟩=>by have g:=j _ (aN hi);have q:=g.1;have u:=g.2;unfold jK ew bW;rw[e,if_pos (by simpa using hi),af hi,qb,eJ (by omega),qb,qb,eJ (by omega),qb,qb,I,bS (by simp;omega),an (by omega)];refine .inl ⟨_,rfl,rfl,?_⟩;rw[dB hi]) (λs ⟨e,I⟩=>by unfold jK;rw[e,if_neg (by simp)];rw[cQ]at I;exact⟨_,rfl,trivial,I⟩) ([],0) ⟨rfl,by simp⟩ (l.length+1) (by omega);grind
theorem qv{r:ai}{e:Phase}(h:e∈lft r):e∈r.ax.Phases:=by
 unfold lft at h;split at h;.exact sx h
 .simp at h
theorem sA{r:ai}(h:RtS r):(lft r).length<=4:=by
 have:=h.1;unfold lft;split;.simp;omega
 .simp
theorem EA{r:ai}(h:RtS r):nJ r=some (lft r):=by
 have m:=h.1;show(if(!(liv r))=true then _ else _)=_;by_cases f:liv r=true;.rw[if_neg (by simp[f])];have e:=f;unfold liv at e;simp at e;rw[nY e.1.2 (by omega) (by omega),qb,nI,cQ];unfold lft;rw[if_pos f,K5 (by simp;omega) λg j=>h.2 g (sx j),qb]
 .rw[if_pos (by simpa using f)];unfold lft;rw[if_neg f]
theorem NO{p:az}{c:Cap}{e:Phase}(f:nS p)(g:c.Corners.length<=12)(h:PhS e):-10995116277760<=phL p c e/\phL p c e<=10995116277760:=by have h1:=yj c e.cd;have j:=BI f g e.Volumes;have m:=h.1;have q:=h.2;unfold phL;constructor<;>omega
theorem Mg{p:az}{c:Cap}{r:ai}(g:nS p)(j:c.Corners.length<=12)(h:RtS r):po p c r=some ((lft r).map (phL p c)):=by have m:=sA h;unfold po;rw[EA h];obtain⟨f,h1,u,w⟩:=cH (body:=pa p c (lft r)) (λi s=>s.2=i/\s.1=((lft r).take i).map (phL p c)) (lft r).length (λf=>match f with| .ex _ s=>s.1=(lft r).map _|_=>False) (λi s hi ⟨e,I⟩=>by have q:=h.2 _ (qv (aN hi));unfold pa;rw[e,if_pos (by simpa using hi),af hi,qb,GV g j (by have:=q.1;omega) (by have:=q.2;omega),qb,I,bS (by simp;omega),an (by omega)];refine .inl ⟨_,rfl,rfl,?_⟩;rw[dB hi,gb];rfl) (λs⟨e,I⟩=>by unfold pa;rw[e,if_neg (by simp)];rw[cQ]at I;exact⟨_,rfl,trivial,I⟩) ([],0) ⟨rfl,by simp⟩ ((lft r).length+1) (by omega);grind
def rD:Int->List Int->List Int|_,[]=>[]|a,x::l=>(a+x)::rD (a+x) l
theorem rJ:∀(a:Int)(l:List Int),(rD a l).length=l.length|_,[]=>rfl|a,x::l=>by simp[rD,rJ]
theorem CZ:∀(a:Int)(l:List Int)(x:Int),rD a (l++[x])=rD a l++[a+l.sum+x]|a,[],x=>by simp[rD];|a,y::l,x=>by simp[rD,CZ (a+y) l x];rw[Int.add_assoc a y l.sum]
theorem xa:∀(a:Int)(l:List Int)(k:Nat)(h:k<(rD a l).length),(rD a l)[k]=a+(l.take (k+1)).sum|a,[],k,h=>by simp[rD]at h;|a,x::l,0,h=>by simp[rD];|a,x::l,k+1,h=>by simp[rD];rw[xa (a+x) l k (by simpa[rD]using h),Int.add_assoc]
def pk(l:List Int):Int:=(rD 0 l).foldl max 0
theorem JG:∀(l:List Int)(m:Int),m<=l.foldl max m/\∀x∈l,x<=l.foldl max m|[],m=>⟨gf _,λx h=>by simp at h⟩|y::l,m=>by have e:=JG l (max m y);grind
theorem Fi:∀(l:List Int)(m:Int),l.foldl max m=m∨l.foldl max m∈l
 |[],m=> .inl rfl|y::l,m=>by
  rcases Fi l (max m y)with h|h
  · rw[iw,h];by_cases e:m<=y;.right;rw[Int.max_eq_right e];exact dw
    .left;exact Int.max_eq_left (by omega)
  grind
theorem UM(l:List Int)(k:Nat)(h:k<=l.length):(l.take k).sum<=pk l:=by unfold pk;have f:=JG (rD 0 l) 0;cases k with|zero=>simpa using f.1;|succ k=>
 have hk:k<(rD 0 l).length:=by rw[rJ];omega
 have:=f.2 _ (aN hk);rw[xa]at this;simpa using this
theorem Ub(l:List Int):∃k,k<=l.length/\pk l=(l.take k).sum:=by
 unfold pk;rcases Fi _ 0 with h|h;.exact⟨0,by omega,by simpa using h⟩
 .obtain⟨k,hk,e⟩:=br h;rw[xa,Int.zero_add]at e;exact⟨k+1,by rw[rJ]at hk;omega,e.symm⟩
theorem IU{B:Int}:∀{l:List Int},(∀x∈l,-B<=x/\x<=B)->0<=B->-(B*(l.length:Int))<=l.sum/\l.sum<=B*(l.length:Int)
 |[],_,_=>by simp;|x::l,h,f=>by
  have j:=IU (λy g=>h y (bR _ g)) f;have m:=h x dw;have e:B*((x::l).length)=B*l.length+B:=by rw[eU];push_cast;rw[Int.mul_add,Int.mul_one]
  rw[px];omega
theorem Gp{l:List Int}(h:l.length<=100)(g:∀x∈l,-10995116277760<=x/\x<=10995116277760):kX l=some (0::rD 0 l):=by unfold kX;obtain⟨f,h1,y,E⟩:=cH (body:=ib l) (λi s=>s.2=i/\s.1=0::rD 0 (l.take i)) l.length (λf=>match f with| .ex _ s=>s.1=0::rD 0 l|_=>False) (λi s hi ⟨e,I⟩=>by
 unfold ib;have j:=g _ (aN hi);have u:=IU (l:=l.take i) (λx j=>g x (pH j)) (by omega);have q:(l.take i).length=i:=by simp;omega
 have w:aL s.1 i=some ((l.take i).sum):=by rw[I,af (by simp[rJ];omega)];cases i with|zero=>simp;|succ i=>rw[yL,xa,Int.zero_add,mj,Nat.min_self]
 rw[e,if_pos (by simpa using hi),af hi,qb,w,qb,cW (by constructor<;>omega),qb,I,bS (by simp[rJ];omega),an (by omega)];refine .inl ⟨_,rfl,rfl,?_⟩;rw[dB hi,CZ,Int.zero_add,rm]) (λs⟨e,I⟩=>by unfold ib;rw[e,if_neg (by simp)];rw[cQ]at I;exact⟨_,rfl,trivial,I⟩) ([0],0) ⟨rfl,by simp[rD]⟩ (l.length+1) (by omega);grind
theorem max_eq{x:Int}{l:List Int}(h:l.length<=1000):mr (x::l)=some (l.foldl max x):=by unfold mr;rw[show(0:Int)=(0:Nat)from rfl,af (by simp)];obtain⟨f,h1,g,j⟩:=cH (body:=iR (x::l)) (λi s=>s.2=(i+1:Nat)/\s.1=(l.take i).foldl max x) l.length (λf=>match f with| .ex _ s=>s.1=l.foldl max x|_=>False) (λi s hi⟨e,I⟩=>by unfold iR;rw[e,if_pos (by simp;omega),af (by simp;omega),an (by omega)];refine .inl ⟨_,rfl,rfl,?_⟩;rw[dB hi,vm,<-I];rfl) (λs⟨e,I⟩=>by unfold iR;rw[e,if_neg (by simp)];rw[cQ]at I;exact⟨_,rfl,trivial,I⟩) (x,1) ⟨rfl,by simp⟩ ((x::l).length+1) (by simp;omega);grind
def top(p:az)(c:Cap)(r:ai):Int:=pk ((lft r).map (phL p c))
theorem SZ{p:az}{c:Cap}{r:ai}(f:nS p)(g:c.Corners.length<=12)(h:RtS r):lu ((lft r).map (phL p c))=some (top p c r):=by have j:=sA h;unfold lu;rw[Gp (by simp;omega) (λx m=>by obtain⟨q,e,rfl⟩:=aM.1 m;exact NO f g (h.2 q (qv e))),qb,max_eq (by rw[rJ];simp;omega)];rfl
theorem EJ{t:aP}{g:List ai}{c:Cap}(j:nS t.az)(m:c.Corners.length<=12)(u:t.Built.length<=1000)(w:t.Base.length<=1000)(x:g.length<=1000)(h:∀r∈g,RtS r):pG t g c=some ⟨c.Name,loadT t c,g.map (top t.az c)⟩:=by unfold pG;rw[Ie j m u w];obtain⟨f,h1,y,z⟩:=cH (body:=qz t g c) (λi s=>s.2=i/\s.1=⟨c.Name,loadT t c,(g.take i).map (top t.az c)⟩) g.length (λf=>match f with| .ex _ s=>s.1=⟨c.Name,loadT t c,g.map _⟩|_=>False) (λi s hi ⟨e,I⟩=>by have q:=h _ (aN hi);unfold qz;rw[e,if_pos (by simpa using hi),af hi,qb,Mg j m q,qb,SZ j m q,qb,I,bS (by simp;omega),an (by omega)];refine .inl ⟨_,rfl,rfl,?_⟩;rw[dB hi,gb];rfl) (λs⟨e,I⟩=>by unfold qz;rw[e,if_neg (by simp)];rw[cQ]at I;exact⟨_,rfl,trivial,I⟩) (⟨c.Name,loadT t c,[]⟩,0) ⟨rfl,by simp⟩ (g.length+1) (by omega);grind
theorem nL{α:Type}{o:Option α}{d:α}(h:Tot o):o=some (o.getD d):=by obtain⟨x,rfl⟩:=h;rfl
def rgt(v:aF):Bool:=(jG v).getD false
theorem Ns(v:aF):jG v=some (rgt v):=nL (Tot.pure _)
def sld(v:aF):List ct:=[⟨v.Box.Z0,v.Box.Z1,[v.Box.Base]⟩]
def ovl(a b:aF):Bool:=(jo a b).getD false
theorem SI(a b:aF):jo a b=some (ovl a b):=nL (by unfold jo;rw[Ns,qb];exact Tot.bind (Tot.ite (λ _=>Tot.pure _) λ _=>Tot.pure _) λ _ _=>Tot.ite (λ _=>Tot.pure _) λ _=>Tot.bind (Dt _ _) λ _ _=>Tot.pure _)
def Ia(s:List ct)(p d:bq):Bool:=(mS s p d).getD false
def HZ(s:List ct)(p q:bq):Bool:=(gA s p q).getD false
def LG(s:List ct):Prop:=∀b∈s,b.Area.length<=100000
theorem AO(v:aF):LG (sld v):=λb hb=>by rw[eR.1 hb];simp
theorem JB{s:List ct}(h:LG s)(p d:bq):mS s p d=some (Ia s p d):=nL (let⟨r,hr,_⟩:=TM h;⟨r,hr⟩)
theorem Jq{s:List ct}(h:LG s)(p q:bq):gA s p q=some (HZ s p q):=nL (let⟨r,hr,_⟩:=If h;⟨r,hr⟩)
theorem Ce{s:List (List ct)}{f:List ct->Option Bool}{g:List ct->Bool}(hl:s.length<=1000000)(hf:∀x∈s,f x=some (g x)):gC s f=some (s.any g):=vE hl hf
theorem Cv{s:List cD}{f:cD->Option Bool}{g:cD->Bool}(hl:s.length<=1000000)(hf:∀x∈s,f x=some (g x)):fE s f=some (s.any g):=vE hl hf
def sG(l:List cD)(β:Int->Bool):List (List ct):=(l.filter λb=>rgt b.aF&&!β b.Lot).map λb=>sld b.aF
theorem LQ(l:List cD)(b:cD)(β:Int->Bool):sG (l++[b]) β=sG l β++(if(rgt b.aF&&!β b.Lot)=true then[sld b.aF]else[]):=by unfold sG;grind
theorem BQ(l:List cD)(β:Int->Bool):(sG l β).length<=l.length:=by unfold sG;rw[jv];exact yi _ _
theorem DL{t:aP}{but:Int->Option Bool}{β:Int->Bool}(hl:t.Built.length<=1000)(hb:∀x,but x=some (β x)):kf t but=some (sG t.Built β):=by
 unfold kf;have⟨f,h1,h2,h3⟩:=cH (body:=jR t but) (λi s=>s.2=i/\s.1=sG (t.Built.take i) β) t.Built.length (λf=>match f with| .ex _ s=>s.1=sG t.Built β|_=>False) (λi s hi⟨hs',hI⟩=>by
 unfold jR;have hlen:=BQ (t.Built.take i) β;have hlt:(t.Built.take i).length<=1000:=by simp;omega
 rw[hs',if_pos (by simpa using hi),af hi,qb,Ns,qb,hb,qb];have e:(if rgt t.Built[i].aF=true then some (!β t.Built[i].Lot)else some false)=some (rgt t.Built[i].aF&&!β t.Built[i].Lot):=by cases rgt t.Built[i].aF<;>rfl
 rw[e,qb];have hst:sG (t.Built.take (i+1)) β=s.1++(if(rgt t.Built[i].aF&&!β t.Built[i].Lot)=true then[sld t.Built[i].aF]else[]):=by rw[dB hi,LQ,hI]
 by_cases hc:(rgt t.Built[i].aF&&!β t.Built[i].Lot)=true;.rw[if_pos hc];unfold tl;rw[qb,bS (by rw[hI];simp;omega),an (by omega)];exact .inl ⟨_,rfl,rfl,by rw[hst,if_pos hc];rfl⟩
 .rw[if_neg hc,an (by omega)];exact .inl ⟨_,rfl,rfl,by rw[hst,if_neg hc,mn]⟩) (λs ⟨hs',hI⟩=>by unfold jR;rw[hs',if_neg (by simp)];rw[cQ]at hI;exact⟨_,rfl,trivial,hI⟩) ([],0) ⟨rfl,rfl⟩ (t.Built.length+1) (by omega);grind
def tN(ps:List bq)(ss:List (List ct))(g:List ct->bq->Bool):Nat:=ps.countP λp=>!(ss.any λs=>g s p)
theorem J1{ps:List bq}{ss:List (List ct)}{f:List ct->bq->Option Bool}{g:List ct->bq->Bool}(hp:ps.length<=1000)(hs:ss.length<=1000)(hf:∀s∈ss,∀p,f s p=some (g s p)):
 oh ps ss f=some (tN ps ss g:Int):=by unfold oh;have⟨fl,h1,h2,h3⟩:=cH (body:=l5 ps ss f) (λi s=>s.2=i/\s.1=(tN (ps.take i) ss g)) ps.length (λf=>match f with| .ex _ s=>s.1=(tN ps ss g)|_=>False) (λi s hi ⟨hs',hI⟩=>by
 unfold l5;rw[hs',if_pos (by simpa using hi),af hi,qb,Ce (by omega) (λs hs=>by unfold qM;rw[hf s hs,qb]),qb];have hst:tN (ps.take (i+1)) ss g=tN (ps.take i) ss g+(if(!(ss.any λs=>g s ps[i]))=true then 1 else 0):=by unfold tN;rw[dB hi,List.countP_append,List.countP_singleton]
 have hle:tN (ps.take i) ss g<=1000:=by refine bB (List.countP_le_length) (by simp;omega)
 by_cases hc:(!(ss.any λs=>g s ps[i]))=true;.rw[if_pos hc,hI,an (by omega),an (by omega)];exact .inl ⟨_,rfl,rfl,by rw[hst,if_pos hc]⟩
 .rw[if_neg hc,an (by omega)];exact .inl ⟨_,rfl,rfl,by rw[hst,if_neg hc];exact hI⟩) (λs⟨hs',hI⟩=>by unfold l5;rw[hs',if_neg (by simp)];rw[cQ]at hI;exact⟨_,rfl,trivial,hI⟩) (0,0) ⟨rfl,by simp[tN]⟩ (ps.length+1) (by omega);grind
def DY(t:aP)(w:mC):Nat:=tN t.az.Sun (sG t.Built λlot=>lot==w.Lot) λs d=>Ia s w.At d
def BY(t:aP)(w:View):Nat:=tN w.Targets (sG t.Built λ_=>false) λs q=>HZ s w.Eye q
def M4(t:aP):Prop:=(∀w∈t.Windows,t.az.Hours<=(DY t w:Int))/\(∀w∈t.az.Views,w.Least<=(BY t w:Int))/\(t.Built.map (·.aF)).Pairwise λa b=>ovl a b=false
structure uA(t:aP):Prop where
 plan:nS t.az
 vX:t.az.Caps.length<=1000cap:∀c∈t.az.Caps,c.Corners.length<=12sun:t.az.Sun.length<=1000views:t.az.Views.length<=1000view:∀w∈t.az.Views,w.Targets.length<=1000wins:t.Windows.length<=1000
theorem N7{t:aP}(h:uA t)(U:t.Built.length<=1000):∃x,oS t=some x/\(x.2=true↔M4 t)/\(x.2=true->x.1.Kind=0)/\(x.2=false->x.1.Kind=2∨x.1.Kind=3∨x.1.Kind=5)/\(¬(∀w∈t.Windows,t.az.Hours<=(DY t w:Int))->∃i:Nat,i<t.Windows.length/\x=(⟨2,⟨#[]⟩,(i:Int)⟩,false)):=by
 have M:=h.wins;have hv:=h.views;have H:=h.sun;unfold oS;obtain⟨f,h1,h2,O⟩:=cH (body:=kI t) (λi s=>s.1=((i:Nat):Int)/\∀m(u:m<t.Windows.length),m<i->t.az.Hours<=(DY t t.Windows[m]:Int)) t.Windows.length (λf=>match f with| .ex _ _=>∀w∈t.Windows,t.az.Hours<=(DY t w:Int)| .ret r=>(∃i:Nat,i<t.Windows.length/\r=(⟨2,⟨#[]⟩,(i:Int)⟩,false))/\∃w∈t.Windows,¬t.az.Hours<=(DY t w:Int)| .go _=>False) (λi s hi⟨z,I⟩=>by
 unfold kI;have P:(sG t.Built λE=>E==t.Windows[i].Lot).length<=1000:=bB (BQ _ _) U;have F:∀s∈(sG t.Built λE=>E==t.Windows[i].Lot),LG s:=λs H=>by unfold sG at H;obtain⟨b,_,rfl⟩:=aM.1 H;exact AO _
 rw[z,if_pos (by simpa using hi),af hi,qb,DL (but:=λQ=>qd Q t.Windows[i]) (β:=λE=>E==t.Windows[i].Lot) U (λx=>rfl),qb,J1 (f:=λQ W=>lZ Q W t.Windows[i]) (g:=λs d=>Ia s t.Windows[i].At d) H P (λs H p=>by unfold lZ;rw[JB (F s H),qb]),qb];by_cases J:((tN t.az.Sun (sG t.Built λE=>E==t.Windows[i].Lot) λs d=>Ia s t.Windows[i].At d:Nat):Int)<t.az.Hours;·rw[if_pos (by simpa using J)];exact .inr ⟨_,rfl,trivial,⟨i,hi,rfl⟩,_,aN hi,by unfold DY;omega⟩
 · rw[if_neg (by simpa using J),an (by omega)];refine .inl ⟨_,rfl,rfl,λm u R=>?_⟩;by_cases e:m=i;.subst e;unfold DY;omega
   .exact I m u (by omega)) (λs⟨z,I⟩=>by unfold kI;rw[z,if_neg (by simp)];refine⟨_,rfl,trivial,λw M=>?_⟩;obtain⟨m,u,rfl⟩:=br M;exact I m u u) ((0,_):Int×cU) ⟨rfl,λm _ h=>by omega⟩ (t.Windows.length+1) (by omega);rw[h1,qb];cases f with|go _=>exact h2.elim;|ret r=>obtain⟨⟨i,hi,rfl⟩,w,M,T⟩:=O;exact⟨_,rfl,⟨λh=>by simp at h,λh=>absurd (h.1 w M) T⟩,λh=>by simp at h,λ _=> .inl rfl,λ _=>⟨i,hi,rfl⟩⟩;|ex _ s0=>
 have O:∀w∈t.Windows,t.az.Hours<=(DY t w:Int):=O;dsimp only;rw[DL (but:=pO) (β:=λ _=>false) U (λx=>rfl),qb];have P:(sG t.Built λ _=>false).length<=1000:=bB (BQ _ _) U;have F:∀s∈(sG t.Built λ _=>false),LG s:=λs H=>by unfold sG at H;obtain⟨b,_,rfl⟩:=aM.1 H;exact AO _
 obtain⟨f,g1,g2,g3⟩:=cH (body:=kH t _) (λi s=>s.1=((i:Nat):Int)/\∀m(u:m<t.az.Views.length),m<i->t.az.Views[m].Least<=(BY t t.az.Views[m]:Int)) t.az.Views.length (λf=>match f with| .ex _ _=>∀w∈t.az.Views,w.Least<=(BY t w:Int)| .ret r=>r.2=false/\r.1.Kind=3/\∃w∈t.az.Views,¬w.Least<=(BY t w:Int)| .go _=>False) (λi s hi ⟨z,I⟩=>by
 unfold kH;rw[z,if_pos (by simpa using hi),af hi,qb,J1 (f:=λQ W=>mD Q W t.az.Views[i]) (g:=λs q=>HZ s t.az.Views[i].Eye q) (h.view _ (aN hi)) P (λs H p=>by unfold mD;rw[Jq (F s H),qb]),qb];by_cases J:((tN t.az.Views[i].Targets (sG t.Built λ _=>false) λs q=>HZ s t.az.Views[i].Eye q:Nat):Int)<t.az.Views[i].Least;·rw[if_pos (by simpa using J)];exact .inr ⟨_,rfl,trivial,rfl,rfl,_,aN hi,by unfold BY;omega⟩
 · rw[if_neg (by simpa using J),an (by omega)];refine .inl ⟨_,rfl,rfl,λm u R=>?_⟩;by_cases e:m=i;.subst e;unfold BY;omega
   .exact I m u (by omega)) (λs⟨z,I⟩=>by unfold kH;rw[z,if_neg (by simp)];refine⟨_,rfl,trivial,λw M=>?_⟩;obtain⟨m,u,rfl⟩:=br M;exact I m u u) (0,s0.2) ⟨rfl,λm _ h=>by omega⟩ (t.az.Views.length+1) (by omega);rw[g1,qb];cases f with
 |go _=>exact g2.elim;|ret r=>obtain⟨a,b,w,M,T⟩:=g3;exact⟨r,rfl,⟨λh=>by rw[a]at h;simp at h,λh=>absurd (h.2.1 w M) T⟩,λh=>by rw[a]at h;simp at h,λ _=> .inr (.inl b),λh=>absurd O h⟩
 |ex _ s1=>have g3:∀w∈t.az.Views,w.Least<=(BY t w:Int):=g3;dsimp only;obtain⟨f,k1,k2,k3⟩:=cH (body:=kE t) (λi s=>s.1=((i:Nat):Int)/\∀m(u:m<t.Built.length),m<i->∀j(G:j<m),ovl t.Built[j].aF t.Built[m].aF=false) t.Built.length (λf=>match f with| .ex _ _=>∀m(u:m<t.Built.length)j(G:j<m),ovl t.Built[j].aF t.Built[m].aF=false| .ret r=>r.2=false/\r.1.Kind=5/\∃m,∃u:m<t.Built.length,∃j,∃G:j<m,ovl t.Built[j].aF t.Built[m].aF=true| .go _=>False) (λi s hi⟨z,I⟩=>by
 unfold kE;rw[z,if_pos (by simpa using hi),af hi,qb,nY (by omega) (by omega) (by omega),qb,show(t.Built.take (i:Int).toNat).drop (0:Int).toNat=t.Built.take i by simp,Cv (f:=λQ=>me Q t.Built[i]) (g:=λa=>ovl a.aF t.Built[i].aF) (by simp;omega) (λa _=>by unfold me;rw[SI,qb]),qb]
 cases J:(t.Built.take i).any λa=>ovl a.aF t.Built[i].aF with|true=>
 rw[if_pos rfl];rw[oe]at J;obtain⟨y,hy,ht⟩:=J;obtain⟨j,G,rfl⟩:=br hy;have hj':j<i:=by simp at G;omega
 rw[List.getElem_take]at ht;exact .inr ⟨_,rfl,trivial,rfl,rfl,i,hi,j,hj',ht⟩|false=>
 rw[if_neg (by simp),an (by omega)];rw[vN]at J;refine .inl ⟨_,rfl,rfl,λm u R j G=>?_⟩;by_cases e:m=i;·subst e;have:=J t.Built[j] (List.mem_take_iff_getElem.2 ⟨j,by omega,rfl⟩);simpa using this
 .exact I m u (by omega) j G) (λs ⟨z,I⟩=>by unfold kE;rw[z,if_neg (by simp)];exact⟨_,rfl,trivial,λm u j G=>I m u u j G⟩) (0,s1.2) ⟨rfl,λm _ h=>by omega⟩ (t.Built.length+1) (by omega);rw[k1,qb];cases f with|go _=>exact k2.elim;|ret r=>obtain⟨a,b,m,u,j,G,T⟩:=k3;refine⟨r,rfl,⟨λh=>by rw[a]at h;simp at h,λh=>?_⟩,λh=>by rw[a]at h;simp at h,λ _=> .inr (.inr b),λh=>absurd O h⟩;have:=fK.1 h.2.2 j m (by simp;omega) (by simpa using u) G;simp only[vy]at this;rw[T]at this;simp at this|ex _ _=>have k3:∀m(u:m<t.Built.length)j(G:j<m),ovl t.Built[j].aF t.Built[m].aF=false:=k3;refine⟨_,rfl,⟨λ _=>⟨O,g3,fK.2 λj m G u hjm=>?_⟩,λ _=>rfl⟩,λ _=>rfl,λh=>by simp at h,λh=>absurd O h⟩;simp only[vy];exact k3 m (by simpa using u) j hjm
def zy(r:ai)(t:aP):aP:=(lft r).foldl (λu h=>after u r.ax.Lot h) t
def ra(g:List ai)(t:aP):aP:=g.foldl (λu r=>zy r u) t
theorem KT{t:aP}{lot:Int}{e:Phase}(h:PhS e):(after t lot e).Built.length<=t.Built.length+2/\(after t lot e).Base.length<=t.Base.length+3:=by have h1:=h.1;have f:=h.2;unfold after;simp;omega
theorem yw{lot:Int}:∀{l:List Phase}{t:aP},(∀e∈l,PhS e)->(l.foldl (λu e=>after u lot e) t).Built.length<=t.Built.length+2*l.length/\(l.foldl (λu e=>after u lot e) t).Base.length<=t.Base.length+3*l.length|[],t,_=>by simp;|e::l,t,h=>by have h1:=KT (t:=t) (lot:=lot) (h e dw);have g:=yw (lot:=lot) (t:=after t lot e) λq f=>h q (bR _ f);simp;omega
theorem Kw{r:ai}{t:aP}(h:RtS r):(zy r t).Built.length<=t.Built.length+8/\(zy r t).Base.length<=t.Base.length+12:=by have j:=sA h;have:=yw (lot:=r.ax.Lot) (t:=t) λf g=>h.2 f (qv g);unfold zy;omega
theorem yR:∀{rights:List ai}{t:aP},(∀r∈rights,RtS r)->(ra rights t).Built.length<=t.Built.length+8*rights.length/\(ra rights t).Base.length<=t.Base.length+12*rights.length|[],t,_=>by simp[ra];|r::rights,t,h=>by have h1:=Kw (t:=t) (h r dw);have e:=yR (t:=zy r t) λq f=>h q (bR _ f);simp[ra]at e⊢;omega
end Go.Proofs.YtlckpjpbladknaaGreat.Pl
