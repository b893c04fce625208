/- What the functions compute that the law reaches, and that the law holds of it, part 1 -/
import Derived.Test.YtljfakcblkdhbaaDoorProg
import Derived.Shelf.SlSortCmp.NoneTotal
import Derived.Shelf.SlMaps.Clone
import Derived.Test.YtljfakcblkdhbaaDoorL8
namespace Go.Proofs.YtljfakcblkdhbaaDoor
open Go.Gb
set_option linter.unusedVariables false
set_option linter.unusedSimpArgs false
set_option maxRecDepth 100000
structure Lease where
  Cap:ByteArray
  Counter:Int
  Held:Int
  Used:Int
  deriving DecidableEq,Inhabited
instance:Enc Lease:=Enc.ofMap fun x=>(x.Cap,x.Counter,x.Held,x.Used)
structure Portion where
  Cap:ByteArray
  From:Int
  To:Int
  Number:Int
  N:Int
  deriving DecidableEq,Inhabited
instance:Enc Portion:=Enc.ofMap fun x=>(x.Cap,x.From,x.To,x.Number,x.N)
structure Ref46Desk where
  Counter:Int
  L:(List Lease)
  Out:(List Portion)
  Sent:Int
  In:(List Portion)
  deriving DecidableEq,Inhabited
instance:Enc Ref46Desk:=Enc.ofMap fun x=>(x.Counter,x.L,x.Out,x.Sent,x.In)
structure LeaseKey where
  from_:Int
  number:Int
  deriving DecidableEq,Inhabited
instance:Enc LeaseKey:=Enc.ofMap fun x=>(x.from_,x.number)
theorem hmix:Tryd.prog.follows .mixedOrders = true:=by kernel_rfl
theorem ty3:Ty Tryd.prog 3 Int:=⟨⟨_,Tryd.underlying3,rfl⟩,by kernel_rfl⟩
theorem szf3:(Tryd.prog.info? 3).map (·.size) = some (Enc.sz Int):=by kernel_rfl
theorem ty9:Ty Tryd.prog 9 ByteArray:=⟨⟨_,Tryd.underlying9,rfl⟩,by kernel_rfl⟩
theorem ty43:Ty Tryd.prog 43 Lease:=⟨⟨_,Tryd.underlying43,rfl⟩,by kernel_rfl⟩
theorem szf43:(Tryd.prog.info? 43).map (·.size) = some (Enc.sz Lease):=by kernel_rfl
theorem ty47:Ty Tryd.prog 47 Portion:=⟨⟨_,Tryd.underlying47,rfl⟩,by kernel_rfl⟩
theorem szf47:(Tryd.prog.info? 47).map (·.size) = some (Enc.sz Portion):=by kernel_rfl
theorem ty81:Ty Tryd.prog 81 LeaseKey:=⟨⟨_,Tryd.underlying81,rfl⟩,by kernel_rfl⟩
theorem szf81:(Tryd.prog.info? 81).map (·.size) = some (Enc.sz LeaseKey):=by kernel_rfl
theorem eo43:ElemOk Tryd.prog 43 Lease:=⟨_,_,rfl,rfl,rfl,rfl,by decide,by decide⟩
theorem z43:Zero Tryd.prog 43 ((⟨(⟨#[]⟩:ByteArray),0,0,0⟩:Lease):Lease):=⟨_,Tryd.zeroValue43,fun _=>⟨_,rfl,⟨rfl,rfl,⟨rfl,rfl,⟨rfl,rfl,rfl⟩⟩⟩⟩⟩
theorem eo47:ElemOk Tryd.prog 47 Portion:=⟨_,_,rfl,rfl,rfl,rfl,by decide,by decide⟩
theorem z47:Zero Tryd.prog 47 ((⟨(⟨#[]⟩:ByteArray),0,0,0,0⟩:Portion):Portion):=⟨_,Tryd.zeroValue47,fun _=>⟨_,rfl,⟨rfl,rfl,⟨rfl,rfl,⟨rfl,rfl,⟨rfl,rfl,rfl⟩⟩⟩⟩⟩⟩
theorem z81:Zero Tryd.prog 81 ((⟨0,0⟩:LeaseKey):LeaseKey):=⟨_,Tryd.zeroValue81,fun _=>⟨_,rfl,⟨rfl,rfl,rfl⟩⟩⟩
theorem fo43_0:FieldOk Tryd.prog 43 0 0:=⟨_,_,0,Tryd.underlying43,rfl,rfl,by kernel_rfl⟩
theorem at_Lease_0 (y:Lease) (ad:Addr) (k:K) (h:At y ad k):At y.Cap (ad.add 0) k:=
  have h0:At (y.Cap,y.Counter,y.Held,y.Used) ad k:=h
  At.fst (At.zero h0)
theorem fo43_1:FieldOk Tryd.prog 43 1 1:=⟨_,_,0,Tryd.underlying43,rfl,rfl,by kernel_rfl⟩
theorem at_Lease_1 (y:Lease) (ad:Addr) (k:K) (h:At y ad k):At y.Counter (ad.add 1) k:=
  have h0:At (y.Cap,y.Counter,y.Held,y.Used) ad k:=h
  At.fst (At.snd' (At.zero h0))
theorem fo43_2:FieldOk Tryd.prog 43 2 2:=⟨_,_,0,Tryd.underlying43,rfl,rfl,by kernel_rfl⟩
theorem at_Lease_2 (y:Lease) (ad:Addr) (k:K) (h:At y ad k):At y.Held (ad.add 2) k:=
  have h0:At (y.Cap,y.Counter,y.Held,y.Used) ad k:=h
  At.fst (At.snd' (At.snd' (At.zero h0)))
theorem fo43_3:FieldOk Tryd.prog 43 3 3:=⟨_,_,0,Tryd.underlying43,rfl,rfl,by kernel_rfl⟩
theorem at_Lease_3 (y:Lease) (ad:Addr) (k:K) (h:At y ad k):At y.Used (ad.add 3) k:=
  have h0:At (y.Cap,y.Counter,y.Held,y.Used) ad k:=h
  At.snd' (At.snd' (At.snd' (At.zero h0)))
theorem fo47_0:FieldOk Tryd.prog 47 0 0:=⟨_,_,0,Tryd.underlying47,rfl,rfl,by kernel_rfl⟩
theorem at_Portion_0 (y:Portion) (ad:Addr) (k:K) (h:At y ad k):At y.Cap (ad.add 0) k:=
  have h0:At (y.Cap,y.From,y.To,y.Number,y.N) ad k:=h
  At.fst (At.zero h0)
theorem fo47_1:FieldOk Tryd.prog 47 1 1:=⟨_,_,0,Tryd.underlying47,rfl,rfl,by kernel_rfl⟩
theorem at_Portion_1 (y:Portion) (ad:Addr) (k:K) (h:At y ad k):At y.From (ad.add 1) k:=
  have h0:At (y.Cap,y.From,y.To,y.Number,y.N) ad k:=h
  At.fst (At.snd' (At.zero h0))
theorem fo47_2:FieldOk Tryd.prog 47 2 2:=⟨_,_,0,Tryd.underlying47,rfl,rfl,by kernel_rfl⟩
theorem at_Portion_2 (y:Portion) (ad:Addr) (k:K) (h:At y ad k):At y.To (ad.add 2) k:=
  have h0:At (y.Cap,y.From,y.To,y.Number,y.N) ad k:=h
  At.fst (At.snd' (At.snd' (At.zero h0)))
theorem fo47_3:FieldOk Tryd.prog 47 3 3:=⟨_,_,0,Tryd.underlying47,rfl,rfl,by kernel_rfl⟩
theorem at_Portion_3 (y:Portion) (ad:Addr) (k:K) (h:At y ad k):At y.Number (ad.add 3) k:=
  have h0:At (y.Cap,y.From,y.To,y.Number,y.N) ad k:=h
  At.fst (At.snd' (At.snd' (At.snd' (At.zero h0))))
theorem fo47_4:FieldOk Tryd.prog 47 4 4:=⟨_,_,0,Tryd.underlying47,rfl,rfl,by kernel_rfl⟩
theorem at_Portion_4 (y:Portion) (ad:Addr) (k:K) (h:At y ad k):At y.N (ad.add 4) k:=
  have h0:At (y.Cap,y.From,y.To,y.Number,y.N) ad k:=h
  At.snd' (At.snd' (At.snd' (At.snd' (At.zero h0))))
theorem fo70_0:FieldOk Tryd.prog 70 0 0:=⟨_,_,0,Tryd.underlying70,rfl,rfl,by kernel_rfl⟩
theorem fo70_1:FieldOk Tryd.prog 70 1 1:=⟨_,_,0,Tryd.underlying70,rfl,rfl,by kernel_rfl⟩
theorem fo70_2:FieldOk Tryd.prog 70 2 2:=⟨_,_,0,Tryd.underlying70,rfl,rfl,by kernel_rfl⟩
theorem fo70_3:FieldOk Tryd.prog 70 3 3:=⟨_,_,0,Tryd.underlying70,rfl,rfl,by kernel_rfl⟩
theorem fo70_4:FieldOk Tryd.prog 70 4 4:=⟨_,_,0,Tryd.underlying70,rfl,rfl,by kernel_rfl⟩
theorem eq81:EqOk Tryd.prog 81 LeaseKey:=by
  refine ⟨by kernel_rfl,fun k x y u v hx hy=>?_⟩
  obtain ⟨csx,ex,rx⟩:=hx
  have fx:csx = [.int .i64 x.from_,.int .i64 x.number]:=by
    have hl:=Enc.len rx
    obtain ⟨u0,u1,rfl⟩:=len2 hl
    obtain ⟨_,qx0,qx1⟩:=rx
    have qx0:u0 = .int .i64 x.from_:=hd1 (show [u0] = [.int .i64 x.from_] from qx0)
    have qx1:u1 = .int .i64 x.number:=hd1 (show [u1] = [.int .i64 x.number] from qx1)
    rw [qx0,qx1]
  obtain ⟨csy,ey,ry⟩:=hy
  have fy:csy = [.int .i64 y.from_,.int .i64 y.number]:=by
    have hl:=Enc.len ry
    obtain ⟨u0,u1,rfl⟩:=len2 hl
    obtain ⟨_,qy0,qy1⟩:=ry
    have qy0:u0 = .int .i64 y.from_:=hd1 (show [u0] = [.int .i64 y.from_] from qy0)
    have qy1:u1 = .int .i64 y.number:=hd1 (show [u1] = [.int .i64 y.number] from qy1)
    rw [qy0,qy1]
  subst fx; subst fy; subst ex; subst ey
  refine ⟨⟨_,rfl⟩,⟨_,rfl⟩,fun w=>?_⟩
  show (Op.equalIn (9998 + 1 + 1) 81 (.agg #[.int .i64 x.from_,.int .i64 x.number]) (.agg #[.int .i64 y.from_,.int .i64 y.number])).run Tryd.prog w = _
  rw [run_equalIn_struct w _ 81 _ _ (by kernel_rfl) Tryd.stoodInHeld81]
  generalize 9998 = d
  simp [Program.fieldsOf,Op.eqFields,part,aggOf,← beq_toListBytes,run_isAgg Tryd.underlying3,run_equalIn_int w d 3 .i64 .i64 _ _ Tryd.underlying3]
  obtain ⟨a0,a1⟩:=x
  obtain ⟨b0,b1⟩:=y
  simp only [LeaseKey.mk.injEq]
  by_cases h0:a0 = b0
  rotate_left
  · simp [h0]
  subst h0
  by_cases h1:a1 = b1
  rotate_left
  · simp [h1]
  subst h1
  simp
theorem upd_F43_2:Upd (α:=Lease) (β:=Int) (0 + 2) (fun x y=>{ x with Held:=y }):=fun k cs cy x y hx hy=>(Upd.snd (Upd.snd (Upd.fst Upd.self))) k cs cy (x.Cap,x.Counter,x.Held,x.Used) y hx hy
theorem upd_F43_3:Upd (α:=Lease) (β:=Int) (0 + 3) (fun x y=>{ x with Used:=y }):=fun k cs cy x y hx hy=>(Upd.snd (Upd.snd (Upd.snd Upd.self))) k cs cy (x.Cap,x.Counter,x.Held,x.Used) y hx hy
theorem bld47_ {k:K}   : ∃ v,(∀ w,(Instr.build 47 #[]).run Tryd.prog w = .ok v w)∧IsV (⟨(⟨#[]⟩:ByteArray),0,0,0,0⟩:Portion) v k:=by
  refine ⟨.agg #[.string ⟨#[]⟩,.int .i64 0,.int .i64 0,.int .i64 0,.int .i64 0],fun w=>?_,[.string ⟨#[]⟩,.int .i64 0,.int .i64 0,.int .i64 0,.int .i64 0],rfl,⟨rfl,rfl,⟨rfl,rfl,⟨rfl,rfl,⟨rfl,rfl,rfl⟩⟩⟩⟩⟩
  simp [Instr.build,Instr.fill,cells_agg]
theorem bld47_0_1_2_3_4 {k:K} {v0 v1 v2 v3 v4:Value} {x0:ByteArray} {x1:Int} {x2:Int} {x3:Int} {x4:Int} (h0:IsV x0 v0 k) (h1:IsV x1 v1 k) (h2:IsV x2 v2 k) (h3:IsV x3 v3 k) (h4:IsV x4 v4 k) : ∃ v,(∀ w,(Instr.build 47 #[(0,v0),(1,v1),(2,v2),(3,v3),(4,v4)]).run Tryd.prog w = .ok v w)∧IsV (⟨x0,x1,x2,x3,x4⟩:Portion) v k:=by
  obtain ⟨l0,e0,r0,n0⟩:=isV_cellsL h0
  obtain ⟨u0_0,rfl⟩:=len1 n0
  obtain ⟨l1,e1,r1,n1⟩:=isV_cellsL h1
  obtain ⟨u1_0,rfl⟩:=len1 n1
  obtain ⟨l2,e2,r2,n2⟩:=isV_cellsL h2
  obtain ⟨u2_0,rfl⟩:=len1 n2
  obtain ⟨l3,e3,r3,n3⟩:=isV_cellsL h3
  obtain ⟨u3_0,rfl⟩:=len1 n3
  obtain ⟨l4,e4,r4,n4⟩:=isV_cellsL h4
  obtain ⟨u4_0,rfl⟩:=len1 n4
  refine ⟨.agg #[u0_0,u1_0,u2_0,u3_0,u4_0],fun w=>?_,[u0_0,u1_0,u2_0,u3_0,u4_0],rfl,⟨rfl,r0,⟨rfl,r1,⟨rfl,r2,⟨rfl,r3,r4⟩⟩⟩⟩⟩
  simp [Instr.build,Instr.fill,cells_agg,e0,e1,e2,e3,e4]
theorem bld47_0_1_2_3 {k:K} {v0 v1 v2 v3:Value} {x0:ByteArray} {x1:Int} {x2:Int} {x3:Int} (h0:IsV x0 v0 k) (h1:IsV x1 v1 k) (h2:IsV x2 v2 k) (h3:IsV x3 v3 k) : ∃ v,(∀ w,(Instr.build 47 #[(0,v0),(1,v1),(2,v2),(3,v3)]).run Tryd.prog w = .ok v w)∧IsV (⟨x0,x1,x2,x3,0⟩:Portion) v k:=by
  obtain ⟨l0,e0,r0,n0⟩:=isV_cellsL h0
  obtain ⟨u0_0,rfl⟩:=len1 n0
  obtain ⟨l1,e1,r1,n1⟩:=isV_cellsL h1
  obtain ⟨u1_0,rfl⟩:=len1 n1
  obtain ⟨l2,e2,r2,n2⟩:=isV_cellsL h2
  obtain ⟨u2_0,rfl⟩:=len1 n2
  obtain ⟨l3,e3,r3,n3⟩:=isV_cellsL h3
  obtain ⟨u3_0,rfl⟩:=len1 n3
  refine ⟨.agg #[u0_0,u1_0,u2_0,u3_0,.int .i64 0],fun w=>?_,[u0_0,u1_0,u2_0,u3_0,.int .i64 0],rfl,⟨rfl,r0,⟨rfl,r1,⟨rfl,r2,⟨rfl,r3,rfl⟩⟩⟩⟩⟩
  simp [Instr.build,Instr.fill,cells_agg,e0,e1,e2,e3]
theorem bld43_0_1 {k:K} {v0 v1:Value} {x0:ByteArray} {x1:Int} (h0:IsV x0 v0 k) (h1:IsV x1 v1 k) : ∃ v,(∀ w,(Instr.build 43 #[(0,v0),(1,v1)]).run Tryd.prog w = .ok v w)∧IsV (⟨x0,x1,0,0⟩:Lease) v k:=by
  obtain ⟨l0,e0,r0,n0⟩:=isV_cellsL h0
  obtain ⟨u0_0,rfl⟩:=len1 n0
  obtain ⟨l1,e1,r1,n1⟩:=isV_cellsL h1
  obtain ⟨u1_0,rfl⟩:=len1 n1
  refine ⟨.agg #[u0_0,u1_0,.int .i64 0,.int .i64 0],fun w=>?_,[u0_0,u1_0,.int .i64 0,.int .i64 0],rfl,⟨rfl,r0,⟨rfl,r1,⟨rfl,rfl,rfl⟩⟩⟩⟩
  simp [Instr.build,Instr.fill,cells_agg,e0,e1]
theorem bld43_0_1_2 {k:K} {v0 v1 v2:Value} {x0:ByteArray} {x1:Int} {x2:Int} (h0:IsV x0 v0 k) (h1:IsV x1 v1 k) (h2:IsV x2 v2 k) : ∃ v,(∀ w,(Instr.build 43 #[(0,v0),(1,v1),(2,v2)]).run Tryd.prog w = .ok v w)∧IsV (⟨x0,x1,x2,0⟩:Lease) v k:=by
  obtain ⟨l0,e0,r0,n0⟩:=isV_cellsL h0
  obtain ⟨u0_0,rfl⟩:=len1 n0
  obtain ⟨l1,e1,r1,n1⟩:=isV_cellsL h1
  obtain ⟨u1_0,rfl⟩:=len1 n1
  obtain ⟨l2,e2,r2,n2⟩:=isV_cellsL h2
  obtain ⟨u2_0,rfl⟩:=len1 n2
  refine ⟨.agg #[u0_0,u1_0,u2_0,.int .i64 0],fun w=>?_,[u0_0,u1_0,u2_0,.int .i64 0],rfl,⟨rfl,r0,⟨rfl,r1,⟨rfl,r2,rfl⟩⟩⟩⟩
  simp [Instr.build,Instr.fill,cells_agg,e0,e1,e2]
theorem bld43_ {k:K}   : ∃ v,(∀ w,(Instr.build 43 #[]).run Tryd.prog w = .ok v w)∧IsV (⟨(⟨#[]⟩:ByteArray),0,0,0⟩:Lease) v k:=by
  refine ⟨.agg #[.string ⟨#[]⟩,.int .i64 0,.int .i64 0,.int .i64 0],fun w=>?_,[.string ⟨#[]⟩,.int .i64 0,.int .i64 0,.int .i64 0],rfl,⟨rfl,rfl,⟨rfl,rfl,⟨rfl,rfl,rfl⟩⟩⟩⟩
  simp [Instr.build,Instr.fill,cells_agg]
theorem bld81_0_1 {k:K} {v0 v1:Value} {x0:Int} {x1:Int} (h0:IsV x0 v0 k) (h1:IsV x1 v1 k) : ∃ v,(∀ w,(Instr.build 81 #[(0,v0),(1,v1)]).run Tryd.prog w = .ok v w)∧IsV (⟨x0,x1⟩:LeaseKey) v k:=by
  obtain ⟨l0,e0,r0,n0⟩:=isV_cellsL h0
  obtain ⟨u0_0,rfl⟩:=len1 n0
  obtain ⟨l1,e1,r1,n1⟩:=isV_cellsL h1
  obtain ⟨u1_0,rfl⟩:=len1 n1
  refine ⟨.agg #[u0_0,u1_0],fun w=>?_,[u0_0,u1_0],rfl,⟨rfl,r0,r1⟩⟩
  simp [Instr.build,Instr.fill,cells_agg,e0,e1]
def lease_within (n_:Int) (lo_:Int) (hi_:Int):Option (Bool):=
 some ((decide (lo_ ≤ n_)) && (decide (n_ ≤ hi_)))
theorem lease_within_ok {k0:K} {v0 v1 v2:Value} {n_:Int} {lo_:Int} {hi_:Int} {r:Bool} (i0:(IsV n_) v0 k0) (i1:(IsV lo_) v1 k0) (i2:(IsV hi_) v2 k0) (hr:lease_within n_ lo_ hi_ = some r) :
  Calls Tryd.prog 43 #[v0,v1,v2] k0.w (Ret k0 (IsV r)):=by
 unfold lease_within at hr
 refine Ret.ofC ?_
 refine enterK Tryd.func43 rfl Tryd.ntmps43 (show 3 ≤ 15 by decide) fun a k hk0 hs hd ha=>?_
 obtain ⟨e0,e1,e2,_⟩:=ha
 replace i0:(IsV n_) (a.get 0) k:=by rw [e0,hk0]; exact i0
 replace i1:(IsV lo_) (a.get 1) k:=by rw [e1,hk0]; exact i1
 replace i2:(IsV hi_) (a.get 2) k:=by rw [e2,hk0]; exact i2
 have hQ:Gb.LetsOut (bodyPost Tryd.prog Tryd.f43 (RetC noF k0 (IsV r))):=letsOutC
 have hg:Chg noF k0 k:=by rw [hk0]; exact Chg.refl _ k0
 refine stepL 1 (⟨some (IsV false),[]⟩::[]) rfl ⟨hg,hs,hd⟩ (by kernel_rfl) ⟨ob1 rfl fun _ _ h n=>ok_assign rfl (isV_bool.2 rfl),trivial⟩ [⟨_,_⟩,⟨_,_⟩,⟨_,_⟩] (fun b q p=>⟨p.ke 0 rfl i0,p.ke 1 rfl i1,p.ke 2 rfl i2,trivial⟩) ?_
 rintro a k ⟨⟨hg,hs,hd⟩,i0,i1,i2,_⟩
 refine stepL 9 (_::_::_::_::_::_::_::_::_::[]) rfl ⟨hg,hs,hd⟩ (by kernel_rfl) ⟨mu rfl i1,mu rfl i0,o1 [(7,some 0),(8,some 1)] rfl fun _ _ h n=>ok_leq rfl n.1 n.2.1,cm 2 rfl rfl,mT rfl rfl i0,mT rfl rfl i2,gT [(11,some 4),(12,some 5)] rfl rfl fun hp _ _ h n=>ok_leq rfl (Gd.get n.1 hp) (Gd.get n.2.1 hp),o1 [(10,some 3),(13,some 6)] rfl fun _ _ h n=>ok_pickAnd rfl n.1 (Gd.get n.2.1) (cB rfl),cp 7 rfl rfl,trivial⟩ [⟨_,_⟩] (fun b q p=>⟨p.ou 8 6 rfl,trivial⟩) ?_
 rintro a k ⟨⟨hg,hs,hd⟩,i6,_⟩
 refine wp_ret ?_
 obtain rfl:=Option.some.inj hr
 exact retC1 rfl hd hg i6
def lease_counter (n_:Int):Option (Bool):=
 (lease_within n_ 0 7).bind fun x1=>
 some x1
theorem lease_counter_ok {k0:K} {v0:Value} {n_:Int} {r:Bool} (i0:(IsV n_) v0 k0) (hr:lease_counter n_ = some r) :
  Calls Tryd.prog 42 #[v0] k0.w (Ret k0 (IsV r)):=by
 unfold lease_counter at hr
 refine Ret.ofC ?_
 refine enterK Tryd.func42 rfl Tryd.ntmps42 (show 1 ≤ 5 by decide) fun a k hk0 hs hd ha=>?_
 obtain ⟨e0,_⟩:=ha
 replace i0:(IsV n_) (a.get 0) k:=by rw [e0,hk0]; exact i0
 have hQ:Gb.LetsOut (bodyPost Tryd.prog Tryd.f42 (RetC noF k0 (IsV r))):=letsOutC
 have hg:Chg noF k0 k:=by rw [hk0]; exact Chg.refl _ k0
 refine stepL 1 (⟨some (IsV false),[]⟩::[]) rfl ⟨hg,hs,hd⟩ (by kernel_rfl) ⟨ob1 rfl fun _ _ h n=>ok_assign rfl (isV_bool.2 rfl),trivial⟩ [⟨_,_⟩] (fun b q p=>⟨p.ke 0 rfl i0,trivial⟩) ?_
 rintro a k ⟨⟨hg,hs,hd⟩,i0,_⟩
 refine wp_seq ?_
 obtain ⟨x1,hx1,hr⟩:=bind_some hr
 refine cut (fun a' k'=>Bs noF k0 5 a' k'∧(IsV x1) (a'.get 2) k'∧True) ?_ hQ ?_
 ·intro Q1 W1 w1
  refine gS 3 (_::_::_::[]) hs (by kernel_rfl) ⟨mu rfl i0,o1 [(3,some 0)] rfl fun _ _ h n=>ok_call rfl Tryd.call43 (lease_within_ok n.1 (cI rfl) (cI rfl) hx1),cp 1 rfl rfl,trivial⟩ W1 fun b q p=>?_
  exact tail_done (k:=q) (w1 _ _ ⟨Bs.post ⟨hg,hs,hd⟩ p,p.ou 2 2 rfl,trivial⟩)
 rintro a k ⟨⟨hg,hs,hd⟩,i2,_⟩
 refine wp_ret ?_
 obtain rfl:=Option.some.inj hr
 exact retC1 rfl hd hg i2
def lease_valid (p_:Portion):Option (Bool):=
 (lease_counter p_.From).bind fun x1=>
 (if x1 then
  (lease_counter p_.To).bind fun x2=>
  some x2
 else
  some false).bind fun x3=>
 (if ((x3 && (p_.From != p_.To)) && (decide (1 ≤ p_.Number))) then
  (lease_within p_.N 0 1099511627776).bind fun x4=>
  some x4
 else
  some false).bind fun x5=>
 some x5
theorem lease_valid_ok {k0:K} {v0:Value} {p_:Portion} {r:Bool} (i0:(IsV p_) v0 k0) (hr:lease_valid p_ = some r) :
  Calls Tryd.prog 38 #[v0] k0.w (Ret k0 (IsV r)):=by
 unfold lease_valid at hr
 refine Ret.ofC ?_
 refine enterK Tryd.func38 rfl Tryd.ntmps38 (show 1 ≤ 28 by decide) fun a k hk0 hs hd ha=>?_
 obtain ⟨e0,_⟩:=ha
 replace i0:(IsV p_) (a.get 0) k:=by rw [e0,hk0]; exact i0
 have hQ:Gb.LetsOut (bodyPost Tryd.prog Tryd.f38 (RetC noF k0 (IsV r))):=letsOutC
 have hg:Chg noF k0 k:=by rw [hk0]; exact Chg.refl _ k0
 refine stepL 2 (⟨some (IsRef p_),[(0,none)]⟩::⟨some (IsV false),[]⟩::[]) rfl ⟨hg,hs,hd⟩ (by kernel_rfl) ⟨ob1 rfl fun _ _ h n=>ok_boxR rfl (up i0 h n.1),ob1 rfl fun _ _ h n=>ok_assign rfl (isV_bool.2 rfl),trivial⟩ [⟨_,_⟩] (fun b q p=>⟨p.ou 0 1 rfl,trivial⟩) ?_
 rintro a k ⟨⟨hg,hs,hd⟩,i1,_⟩
 refine wp_seq ?_
 obtain ⟨x1,hx1,hr⟩:=bind_some hr
 obtain ⟨x2,hx2,hr⟩:=bind_some hr
 obtain ⟨x3,hx3,hx2⟩:=ite_bind hx2
 obtain ⟨x4,hx4,hr⟩:=bind_some hr
 obtain ⟨x5,hx5,hx4⟩:=ite_bind hx4
 refine cut (fun a' k'=>Bs noF k0 28 a' k'∧(IsV x4) (a'.get 2) k'∧True) ?_ hQ ?_
 ·intro Q1 W1 w1
  refine gS 26 (_::_::_::_::_::_::_::_::_::_::_::_::_::⟨some (Gd (x2 = true) (IsV (p_.From != p_.To))),[(13,some 10),(15,some 12)]⟩::_::_::_::_::_::_::_::_::_::_::_::_::[]) hs (by kernel_rfl) ⟨o1 [(1,none)] rfl fun _ _ h n=>ok_fieldAddr rfl fo47_1 (at_Portion_1 _) ((up i1 h n.1)).ptr,o1 [(3,some 0)] rfl fun _ _ h n=>ok_load rfl ty3 n.1,o1 [(4,some 1)] rfl fun _ _ h n=>ok_call rfl Tryd.call42 (lease_counter_ok n.1 hx1),cm 2 rfl rfl,gT [(1,none)] rfl rfl fun hp _ _ h n=>ok_fieldAddr rfl fo47_2 (at_Portion_2 _) ((up i1 h n.1)).ptr,gT [(7,some 4)] rfl rfl fun hp _ _ h n=>ok_load rfl ty3 (Gd.get n.1 hp),gT [(8,some 5)] rfl rfl fun hp _ _ h n=>ok_call rfl Tryd.call42 (lease_counter_ok (Gd.get n.1 hp) (hx3 hp)),o1 [(6,some 3),(9,some 6)] rfl fun _ _ h n=>ok_pickM rfl n.1 hx2 (Gd.get n.2.1) (cB rfl),cm 7 rfl rfl,gT [(1,none)] rfl rfl fun hp _ _ h n=>ok_fieldAddr rfl fo47_1 (at_Portion_1 _) ((up i1 h n.1)).ptr,gT [(12,some 9)] rfl rfl fun hp _ _ h n=>ok_load rfl ty3 (Gd.get n.1 hp),gT [(1,none)] rfl rfl fun hp _ _ h n=>ok_fieldAddr rfl fo47_2 (at_Portion_2 _) ((up i1 h n.1)).ptr,gT [(14,some 11)] rfl rfl fun hp _ _ h n=>ok_load rfl ty3 (Gd.get n.1 hp),gdT rfl rfl fun hp _ _ h n=>ok_neI rfl (Gd.get n.1 hp) (Gd.get n.2.1 hp),o1 [(11,some 8),(16,some 13)] rfl fun _ _ h n=>ok_pickAnd rfl n.1 (Gd.get n.2.1) (cB rfl),cm 14 rfl rfl,gT [(1,none)] rfl rfl fun hp _ _ h n=>ok_fieldAddr rfl fo47_3 (at_Portion_3 _) ((up i1 h n.1)).ptr,gT [(19,some 16)] rfl rfl fun hp _ _ h n=>ok_load rfl ty3 (Gd.get n.1 hp),gT [(20,some 17)] rfl rfl fun hp _ _ h n=>ok_geq rfl (Gd.get n.1 hp) (cI rfl),o1 [(18,some 15),(21,some 18)] rfl fun _ _ h n=>ok_pickAnd rfl n.1 (Gd.get n.2.1) (cB rfl),cm 19 rfl rfl,gT [(1,none)] rfl rfl fun hp _ _ h n=>ok_fieldAddr rfl fo47_4 (at_Portion_4 _) ((up i1 h n.1)).ptr,gT [(24,some 21)] rfl rfl fun hp _ _ h n=>ok_load rfl ty3 (Gd.get n.1 hp),gT [(25,some 22)] rfl rfl fun hp _ _ h n=>ok_call rfl Tryd.call43 (lease_within_ok (Gd.get n.1 hp) (cI rfl) (cI rfl) (hx5 hp)),o1 [(23,some 20),(26,some 23)] rfl fun _ _ h n=>ok_pickM rfl n.1 hx4 (Gd.get n.2.1) (cB rfl),cp 24 rfl rfl,trivial⟩ W1 fun b q p=>?_
  exact tail_done (k:=q) (w1 _ _ ⟨Bs.post ⟨hg,hs,hd⟩ p,p.ou 25 2 rfl,trivial⟩)
 rintro a k ⟨⟨hg,hs,hd⟩,i2,_⟩
 refine wp_ret ?_
 obtain rfl:=Option.some.inj hr
 exact retC1 rfl hd hg i2
def lease_hear1 (q_:Portion) (p1_:Portion):Option (Bool):=
 some ((((q_.Cap.toList == p1_.Cap.toList)) && (q_.Number == p1_.Number)) && (q_.To == p1_.From))
theorem lease_hear1_ok {k0:K} {v0 v1:Value} {q_:Portion} {p1_:Portion} {r:Bool} (i0:(IsV q_) v0 k0) (i1:(IsRef p1_) v1 k0) (hr:lease_hear1 q_ p1_ = some r) :
  Calls Tryd.prog 40 #[v0,v1] k0.w (Ret k0 (IsV r)):=by
 unfold lease_hear1 at hr
 refine Ret.ofC ?_
 refine enterK Tryd.func40 rfl Tryd.ntmps40 (show 2 ≤ 23 by decide) fun a k hk0 hs hd ha=>?_
 obtain ⟨e0,e1,_⟩:=ha
 replace i0:(IsV q_) (a.get 0) k:=by rw [e0,hk0]; exact i0
 replace i1:(IsRef p1_) (a.get 1) k:=by rw [e1,hk0]; exact i1
 have hQ:Gb.LetsOut (bodyPost Tryd.prog Tryd.f40 (RetC noF k0 (IsV r))):=letsOutC
 have hg:Chg noF k0 k:=by rw [hk0]; exact Chg.refl _ k0
 refine stepL 2 (⟨some (IsRef q_),[(0,none)]⟩::⟨some (IsV false),[]⟩::[]) rfl ⟨hg,hs,hd⟩ (by kernel_rfl) ⟨ob1 rfl fun _ _ h n=>ok_boxR rfl (up i0 h n.1),ob1 rfl fun _ _ h n=>ok_assign rfl (isV_bool.2 rfl),trivial⟩ [⟨_,_⟩,⟨_,_⟩] (fun b q p=>⟨p.ke 1 rfl i1,p.ou 0 2 rfl,trivial⟩) ?_
 rintro a k ⟨⟨hg,hs,hd⟩,i1,i2,_⟩
 refine stepL 20 (_::_::_::_::⟨some (IsV ((q_.Cap.toList == p1_.Cap.toList))),[(5,some 1),(7,some 3)]⟩::_::_::_::_::_::_::_::_::_::_::_::_::_::_::_::[]) rfl ⟨hg,hs,hd⟩ (by kernel_rfl) ⟨o1 [(2,none)] rfl fun _ _ h n=>ok_fieldAddr rfl fo47_0 (at_Portion_0 _) ((up i2 h n.1)).ptr,o1 [(4,some 0)] rfl fun _ _ h n=>ok_load rfl ty9 n.1,o1 [(1,none)] rfl fun _ _ h n=>ok_fieldAddr rfl fo47_0 (at_Portion_0 _) ((up i1 h n.1)).ptr,o1 [(6,some 2)] rfl fun _ _ h n=>ok_load rfl ty9 n.1,ob1 rfl fun _ _ h n=>ok_eqS rfl n.1 n.2.1,cm 4 rfl rfl,gT [(2,none)] rfl rfl fun hp _ _ h n=>ok_fieldAddr rfl fo47_3 (at_Portion_3 _) ((up i2 h n.1)).ptr,gT [(10,some 6)] rfl rfl fun hp _ _ h n=>ok_load rfl ty3 (Gd.get n.1 hp),gT [(1,none)] rfl rfl fun hp _ _ h n=>ok_fieldAddr rfl fo47_3 (at_Portion_3 _) ((up i1 h n.1)).ptr,gT [(12,some 8)] rfl rfl fun hp _ _ h n=>ok_load rfl ty3 (Gd.get n.1 hp),gT [(11,some 7),(13,some 9)] rfl rfl fun hp _ _ h n=>ok_eqI rfl (Gd.get n.1 hp) (Gd.get n.2.1 hp),o1 [(9,some 5),(14,some 10)] rfl fun _ _ h n=>ok_pickAnd rfl n.1 (Gd.get n.2.1) (cB rfl),cm 11 rfl rfl,gT [(2,none)] rfl rfl fun hp _ _ h n=>ok_fieldAddr rfl fo47_2 (at_Portion_2 _) ((up i2 h n.1)).ptr,gT [(17,some 13)] rfl rfl fun hp _ _ h n=>ok_load rfl ty3 (Gd.get n.1 hp),gT [(1,none)] rfl rfl fun hp _ _ h n=>ok_fieldAddr rfl fo47_1 (at_Portion_1 _) ((up i1 h n.1)).ptr,gT [(19,some 15)] rfl rfl fun hp _ _ h n=>ok_load rfl ty3 (Gd.get n.1 hp),gT [(18,some 14),(20,some 16)] rfl rfl fun hp _ _ h n=>ok_eqI rfl (Gd.get n.1 hp) (Gd.get n.2.1 hp),o1 [(16,some 12),(21,some 17)] rfl fun _ _ h n=>ok_pickAnd rfl n.1 (Gd.get n.2.1) (cB rfl),cp 18 rfl rfl,trivial⟩ [⟨_,_⟩] (fun b q p=>⟨p.ou 19 3 rfl,trivial⟩) ?_
 rintro a k ⟨⟨hg,hs,hd⟩,i3,_⟩
 refine wp_ret ?_
 obtain rfl:=Option.some.inj hr
 exact retC1 rfl hd hg i3
def cmp_isNaN_string (x_:ByteArray):Option (Bool):=
 some (!(x_.toList == x_.toList))
theorem cmp_isNaN_string_ok {k0:K} {v0:Value} {x_:ByteArray} {r:Bool} (i0:(IsV x_) v0 k0) (hr:cmp_isNaN_string x_ = some r) :
  Calls Tryd.prog 52 #[v0] k0.w (Ret k0 (IsV r)):=by
 unfold cmp_isNaN_string at hr
 refine Ret.ofC ?_
 refine enterK Tryd.func52 rfl Tryd.ntmps52 (show 1 ≤ 6 by decide) fun a k hk0 hs hd ha=>?_
 obtain ⟨e0,_⟩:=ha
 replace i0:(IsV x_) (a.get 0) k:=by rw [e0,hk0]; exact i0
 have hQ:Gb.LetsOut (bodyPost Tryd.prog Tryd.f52 (RetC noF k0 (IsV r))):=letsOutC
 have hg:Chg noF k0 k:=by rw [hk0]; exact Chg.refl _ k0
 refine stepL 1 (⟨some (IsV false),[]⟩::[]) rfl ⟨hg,hs,hd⟩ (by kernel_rfl) ⟨ob1 rfl fun _ _ h n=>ok_assign rfl (isV_bool.2 rfl),trivial⟩ [⟨_,_⟩] (fun b q p=>⟨p.ke 0 rfl i0,trivial⟩) ?_
 rintro a k ⟨⟨hg,hs,hd⟩,i0,_⟩
 refine stepL 4 (_::_::⟨some (IsV (!(x_.toList == x_.toList))),[(3,some 0),(4,some 1)]⟩::_::[]) rfl ⟨hg,hs,hd⟩ (by kernel_rfl) ⟨mu rfl i0,mu rfl i0,ob1 rfl fun _ _ h n=>ok_neS rfl n.1 n.2.1,cp 2 rfl rfl,trivial⟩ [⟨_,_⟩] (fun b q p=>⟨p.ou 3 2 rfl,trivial⟩) ?_
 rintro a k ⟨⟨hg,hs,hd⟩,i2,_⟩
 refine wp_ret ?_
 obtain rfl:=Option.some.inj hr
 exact retC1 rfl hd hg i2
def cmp_Compare_string (x_:ByteArray) (y_:ByteArray):Option (Int):=
 (cmp_isNaN_string x_).bind fun x1=>
 (cmp_isNaN_string y_).bind fun x2=>
 if x1 then
  if x2 then
   some 0
  else
   some (-1)
 else
  if x2 then
   some 1
  else
   if (bLt x_ y_) then
    some (-1)
   else
    if (!(bLt x_ y_ || x_.toList == y_.toList)) then
     some 1
    else
     some 0
theorem cmp_Compare_string_ok {k0:K} {v0 v1:Value} {x_:ByteArray} {y_:ByteArray} {r:Int} (i0:(IsV x_) v0 k0) (i1:(IsV y_) v1 k0) (hr:cmp_Compare_string x_ y_ = some r) :
  Calls Tryd.prog 36 #[v0,v1] k0.w (Ret k0 (IsV r)):=by
 unfold cmp_Compare_string at hr
 refine Ret.ofC ?_
 refine enterK Tryd.func36 rfl Tryd.ntmps36 (show 2 ≤ 20 by decide) fun a k hk0 hs hd ha=>?_
 obtain ⟨e0,e1,_⟩:=ha
 replace i0:(IsV x_) (a.get 0) k:=by rw [e0,hk0]; exact i0
 replace i1:(IsV y_) (a.get 1) k:=by rw [e1,hk0]; exact i1
 have hQ:Gb.LetsOut (bodyPost Tryd.prog Tryd.f36 (RetC noF k0 (IsV r))):=letsOutC
 have hg:Chg noF k0 k:=by rw [hk0]; exact Chg.refl _ k0
 refine stepL 1 (⟨some (IsI 0),[]⟩::[]) rfl ⟨hg,hs,hd⟩ (by kernel_rfl) ⟨aI rfl rfl,trivial⟩ [⟨_,_⟩,⟨_,_⟩] (fun b q p=>⟨p.ke 0 rfl i0,p.ke 1 rfl i1,trivial⟩) ?_
 rintro a k ⟨⟨hg,hs,hd⟩,i0,i1,_⟩
 refine wp_seq ?_
 obtain ⟨x1,hx1,hr⟩:=bind_some hr
 refine cut (fun a' k'=>Bs noF k0 20 a' k'∧(IsV x_) (a'.get 0) k'∧(IsV y_) (a'.get 1) k'∧(IsV x1) (a'.get 5) k'∧True) ?_ hQ ?_
 ·intro Q1 W1 w1
  refine gS 3 (_::_::_::[]) hs (by kernel_rfl) ⟨mu rfl i0,o1 [(7,some 0)] rfl fun _ _ h n=>ok_call rfl Tryd.call52 (cmp_isNaN_string_ok n.1 hx1),cp 1 rfl rfl,trivial⟩ W1 fun b q p=>?_
  exact tail_done (k:=q) (w1 _ _ ⟨Bs.post ⟨hg,hs,hd⟩ p,p.ke 0 rfl i0,p.ke 1 rfl i1,p.ou 2 5 rfl,trivial⟩)
 rintro a k ⟨⟨hg,hs,hd⟩,i0,i1,i5,_⟩
 refine wp_seq ?_
 obtain ⟨x2,hx2,hr⟩:=bind_some hr
 refine cut (fun a' k'=>Bs noF k0 20 a' k'∧(IsV x_) (a'.get 0) k'∧(IsV y_) (a'.get 1) k'∧(IsV x1) (a'.get 5) k'∧(IsV x2) (a'.get 6) k'∧True) ?_ hQ ?_
 ·intro Q2 W2 w2
  refine gS 3 (_::_::_::[]) hs (by kernel_rfl) ⟨mu rfl i1,o1 [(9,some 0)] rfl fun _ _ h n=>ok_call rfl Tryd.call52 (cmp_isNaN_string_ok n.1 hx2),cp 1 rfl rfl,trivial⟩ W2 fun b q p=>?_
  exact tail_done (k:=q) (w2 _ _ ⟨Bs.post ⟨hg,hs,hd⟩ p,p.ke 0 rfl i0,p.ke 1 rfl i1,p.ke 5 rfl i5,p.ou 2 6 rfl,trivial⟩)
 rintro a k ⟨⟨hg,hs,hd⟩,i0,i1,i5,i6,_⟩
 refine wp_seq ?_
 refine stepL 1 (_::[]) rfl ⟨hg,hs,hd⟩ (by kernel_rfl) ⟨mu rfl i5,trivial⟩ [⟨_,_⟩,⟨_,_⟩,⟨_,_⟩,⟨_,_⟩] (fun b q p=>⟨p.ke 0 rfl i0,p.ke 1 rfl i1,p.ke 6 rfl i6,p.ou 0 11 rfl,trivial⟩) ?_
 rintro a k ⟨⟨hg,hs,hd⟩,i0,i1,i6,i11,_⟩
 refine wp_cond_split (isBool i11) (fun hc82=>?_) (fun hc82=>?_)
 ·rw [if_pos hc82] at hr
  refine wp_seq ?_
  refine stepL 1 (_::[]) rfl ⟨hg,hs,hd⟩ (by kernel_rfl) ⟨mu rfl i6,trivial⟩ [⟨_,_⟩] (fun b q p=>⟨p.ou 0 12 rfl,trivial⟩) ?_
  rintro a k ⟨⟨hg,hs,hd⟩,i12,_⟩
  refine wp_cond_split (isBool i12) (fun hc55=>?_) (fun hc55=>?_)
  ·rw [if_pos hc55] at hr
   refine stepL 1 (⟨some (IsI 0),[]⟩::[]) rfl ⟨hg,hs,hd⟩ (by kernel_rfl) ⟨aI rfl rfl,trivial⟩ [⟨_,_⟩] (fun b q p=>⟨p.ou 0 4 rfl,trivial⟩) ?_
   rintro a k ⟨⟨hg,hs,hd⟩,i4,_⟩
   refine wp_ret ?_
   obtain rfl:=Option.some.inj hr
   exact retC1 rfl hd hg i4
  rw [if_neg (by rw [hc55]; decide)] at hr
  refine wp_skip ?_
  refine stepL 1 (⟨some (IsI (-1)),[]⟩::[]) rfl ⟨hg,hs,hd⟩ (by kernel_rfl) ⟨aI rfl rfl,trivial⟩ [⟨_,_⟩] (fun b q p=>⟨p.ou 0 4 rfl,trivial⟩) ?_
  rintro a k ⟨⟨hg,hs,hd⟩,i4,_⟩
  refine wp_ret ?_
  obtain rfl:=Option.some.inj hr
  exact retC1 rfl hd hg i4
 rw [if_neg (by rw [hc82]; decide)] at hr
 refine wp_skip ?_
 refine wp_seq ?_
 refine stepL 1 (_::[]) rfl ⟨hg,hs,hd⟩ (by kernel_rfl) ⟨mu rfl i6,trivial⟩ [⟨_,_⟩,⟨_,_⟩,⟨_,_⟩] (fun b q p=>⟨p.ke 0 rfl i0,p.ke 1 rfl i1,p.ou 0 13 rfl,trivial⟩) ?_
 rintro a k ⟨⟨hg,hs,hd⟩,i0,i1,i13,_⟩
 refine wp_cond_split (isBool i13) (fun hc79=>?_) (fun hc79=>?_)
 ·rw [if_pos hc79] at hr
  refine stepL 1 (⟨some (IsI 1),[]⟩::[]) rfl ⟨hg,hs,hd⟩ (by kernel_rfl) ⟨aI rfl rfl,trivial⟩ [⟨_,_⟩] (fun b q p=>⟨p.ou 0 4 rfl,trivial⟩) ?_
  rintro a k ⟨⟨hg,hs,hd⟩,i4,_⟩
  refine wp_ret ?_
  obtain rfl:=Option.some.inj hr
  exact retC1 rfl hd hg i4
 rw [if_neg (by rw [hc79]; decide)] at hr
 refine wp_skip ?_
 refine wp_seq ?_
 refine stepL 3 (_::_::⟨some (IsV (bLt x_ y_)),[(14,some 0),(15,some 1)]⟩::[]) rfl ⟨hg,hs,hd⟩ (by kernel_rfl) ⟨mu rfl i0,mu rfl i1,ob1 rfl fun _ _ h n=>ok_ltS rfl n.1 n.2.1,trivial⟩ [⟨_,_⟩,⟨_,_⟩,⟨_,_⟩] (fun b q p=>⟨p.ke 0 rfl i0,p.ke 1 rfl i1,p.ou 2 16 rfl,trivial⟩) ?_
 rintro a k ⟨⟨hg,hs,hd⟩,i0,i1,i16,_⟩
 refine wp_cond_split (isBool i16) (fun hc76=>?_) (fun hc76=>?_)
 ·rw [if_pos hc76] at hr
  refine stepL 1 (⟨some (IsI (-1)),[]⟩::[]) rfl ⟨hg,hs,hd⟩ (by kernel_rfl) ⟨aI rfl rfl,trivial⟩ [⟨_,_⟩] (fun b q p=>⟨p.ou 0 4 rfl,trivial⟩) ?_
  rintro a k ⟨⟨hg,hs,hd⟩,i4,_⟩
  refine wp_ret ?_
  obtain rfl:=Option.some.inj hr
  exact retC1 rfl hd hg i4
 rw [if_neg (by rw [hc76]; decide)] at hr
 refine wp_skip ?_
 refine wp_seq ?_
 refine stepL 3 (_::_::⟨some (IsV (!(bLt x_ y_ || x_.toList == y_.toList))),[(17,some 0),(18,some 1)]⟩::[]) rfl ⟨hg,hs,hd⟩ (by kernel_rfl) ⟨mu rfl i0,mu rfl i1,ob1 rfl fun _ _ h n=>ok_gtS rfl n.1 n.2.1,trivial⟩ [⟨_,_⟩] (fun b q p=>⟨p.ou 2 19 rfl,trivial⟩) ?_
 rintro a k ⟨⟨hg,hs,hd⟩,i19,_⟩
 refine wp_cond_split (isBool i19) (fun hc73=>?_) (fun hc73=>?_)
 ·rw [if_pos hc73] at hr
  refine stepL 1 (⟨some (IsI 1),[]⟩::[]) rfl ⟨hg,hs,hd⟩ (by kernel_rfl) ⟨aI rfl rfl,trivial⟩ [⟨_,_⟩] (fun b q p=>⟨p.ou 0 4 rfl,trivial⟩) ?_
  rintro a k ⟨⟨hg,hs,hd⟩,i4,_⟩
  refine wp_ret ?_
  obtain rfl:=Option.some.inj hr
  exact retC1 rfl hd hg i4
 rw [if_neg (by rw [hc73]; decide)] at hr
 refine wp_skip ?_
 refine stepL 1 (⟨some (IsI 0),[]⟩::[]) rfl ⟨hg,hs,hd⟩ (by kernel_rfl) ⟨aI rfl rfl,trivial⟩ [⟨_,_⟩] (fun b q p=>⟨p.ou 0 4 rfl,trivial⟩) ?_
 rintro a k ⟨⟨hg,hs,hd⟩,i4,_⟩
 refine wp_ret ?_
 obtain rfl:=Option.some.inj hr
 exact retC1 rfl hd hg i4
def lease_cmp (a_:Lease) (b_:Lease):Option (Int):=
 (cmp_Compare_string a_.Cap b_.Cap).bind fun x1=>
 some x1
theorem lease_cmp_ok {k0:K} {v0 v1:Value} {a_:Lease} {b_:Lease} {r:Int} (i0:(IsV a_) v0 k0) (i1:(IsV b_) v1 k0) (hr:lease_cmp a_ b_ = some r) :
  Calls Tryd.prog 35 #[v0,v1] k0.w (Ret k0 (IsV r)):=by
 unfold lease_cmp at hr
 refine Ret.ofC ?_
 refine enterK Tryd.func35 rfl Tryd.ntmps35 (show 2 ≤ 10 by decide) fun a k hk0 hs hd ha=>?_
 obtain ⟨e0,e1,_⟩:=ha
 replace i0:(IsV a_) (a.get 0) k:=by rw [e0,hk0]; exact i0
 replace i1:(IsV b_) (a.get 1) k:=by rw [e1,hk0]; exact i1
 have hQ:Gb.LetsOut (bodyPost Tryd.prog Tryd.f35 (RetC noF k0 (IsV r))):=letsOutC
 have hg:Chg noF k0 k:=by rw [hk0]; exact Chg.refl _ k0
 refine stepL 3 (⟨some (IsRef a_),[(0,none)]⟩::⟨some (IsRef b_),[(1,none)]⟩::⟨some (IsI 0),[]⟩::[]) rfl ⟨hg,hs,hd⟩ (by kernel_rfl) ⟨ob1 rfl fun _ _ h n=>ok_boxR rfl (up i0 h n.1),ob1 rfl fun _ _ h n=>ok_boxR rfl (up i1 h n.1),aI rfl rfl,trivial⟩ [⟨_,_⟩,⟨_,_⟩] (fun b q p=>⟨p.ou 0 2 rfl,p.ou 1 3 rfl,trivial⟩) ?_
 rintro a k ⟨⟨hg,hs,hd⟩,i2,i3,_⟩
 refine wp_seq ?_
 obtain ⟨x1,hx1,hr⟩:=bind_some hr
 refine cut (fun a' k'=>Bs noF k0 10 a' k'∧(IsV x1) (a'.get 4) k'∧True) ?_ hQ ?_
 ·intro Q1 W1 w1
  refine gS 6 (_::_::_::_::_::_::[]) hs (by kernel_rfl) ⟨o1 [(2,none)] rfl fun _ _ h n=>ok_fieldAddr rfl fo43_0 (at_Lease_0 _) ((up i2 h n.1)).ptr,o1 [(5,some 0)] rfl fun _ _ h n=>ok_load rfl ty9 n.1,o1 [(3,none)] rfl fun _ _ h n=>ok_fieldAddr rfl fo43_0 (at_Lease_0 _) ((up i3 h n.1)).ptr,o1 [(7,some 2)] rfl fun _ _ h n=>ok_load rfl ty9 n.1,o1 [(6,some 1),(8,some 3)] rfl fun _ _ h n=>ok_call rfl Tryd.call36 (cmp_Compare_string_ok n.1 n.2.1 hx1),cp 4 rfl rfl,trivial⟩ W1 fun b q p=>?_
  exact tail_done (k:=q) (w1 _ _ ⟨Bs.post ⟨hg,hs,hd⟩ p,p.ou 5 4 rfl,trivial⟩)
 rintro a k ⟨⟨hg,hs,hd⟩,i4,_⟩
 refine wp_ret ?_
 obtain rfl:=Option.some.inj hr
 exact retC1 rfl hd hg i4
end Go.Proofs.YtljfakcblkdhbaaDoor

namespace Go.Proofs.YtljfakcblkdhbaaDoor
open Go.Gb
set_option linter.unusedVariables false
set_option linter.unusedSimpArgs false
set_option linter.unusedSectionVars false
set_option maxRecDepth 100000
/-- What a desk holds. -/
structure DeskV where
  counter:Int
  L:List (ByteArray × Lease)
  out:List Portion
  sent:Int
  taken:List (LeaseKey × Bool)
  deriving Inhabited
abbrev kS:ByteArray → Value:=Value.string
def kK (x:LeaseKey):Value:=.agg #[.int .i64 x.from_,.int .i64 x.number]
theorem key9:KeyOk Tryd.prog 9 kS:=keyStr Tryd.underlying9
theorem key81:KeyOk Tryd.prog 81 kK:=keyEq (by kernel_rfl) eq81 (fun x k=>⟨_,rfl,rfl,rfl,rfl⟩)
  (fun e n w=>by
    unfold kK
    rw [Instr.checkKey]
    have h3 : ∀ (v:Int) (w:World),(Instr.checkKey e 9999 3 (.int .i64 v)).run Tryd.prog w = .ok () w:=fun v w=>by unfold Instr.checkKey; simp [run_underlying Tryd.underlying3]
    simp [run_underlying Tryd.underlying81,part,run_isAgg Tryd.underlying3,aggOf,h3])
  (fun n=>by simp [kK,Instr.sameBits])
abbrev LT:=ByteArray × Nat × Lease
def ptrV (n:Nat):Value:=.pointer (some ⟨n,0,none⟩)
def lkv (t:LT):ByteArray × Value:=(t.1,ptrV t.2.1)
def lcv (t:LT):ByteArray × Lease:=(t.1,t.2.2)
def tkv (p:LeaseKey × Bool):LeaseKey × Value:=(p.1,.bool p.2)
def dcells (d:DeskV) (bl bt:Nat) (h:Value):List Value:=[.int .i64 d.counter,.map (some bl),h,.int .i64 d.sent,.map (some bt)]
def dbl (b bl bt:Nat) (T:List LT):List Nat:=b::bl::bt::T.map (·.2.1)
structure DeskO (d:DeskV) (b bl bt:Nat) (h:Value) (T:List LT) (k:K):Prop where
  box:Box b (⟨dcells d bl bt h⟩:RawC 5) k
  ml:MapC kS bl (T.map lkv) k
  bx : ∀ t ∈ T,Box t.2.1 t.2.2 k
  out:IsOwn 0 47 d.out h k
  mt:MapB kK bt (d.taken.map tkv) k
  eL:d.L = T.map lcv
  nk:(T.map (·.1)).Nodup
  nd:(dbl b bl bt T).Nodup
  nh : ∀ c ∈ dbl b bl bt T,¬ obF h c
def DF (b bl bt:Nat) (h:Value) (T:List LT):FP:=fun c=>c ∈ dbl b bl bt T ∨ obF h c
def DeskR (d:DeskV):FP → Pred:=fun F v k=>∃ b bl bt h T,v = ptrV b∧DeskO d b bl bt h T k∧F = DF b bl bt h T
section
variable {d:DeskV} {b bl bt:Nat} {h:Value} {T:List LT} {k k' : K} {G:FP} {F:FP} {v:Value}
theorem mem_b:b ∈ dbl b bl bt T:=by simp [dbl]
theorem mem_bl:bl ∈ dbl b bl bt T:=by simp [dbl]
theorem mem_bt:bt ∈ dbl b bl bt T:=by simp [dbl]
theorem mem_T {t:LT} (ht:t ∈ T):t.2.1 ∈ dbl b bl bt T:=by simp only [dbl,List.mem_cons,List.mem_map]; exact .inr (.inr (.inr ⟨t,ht,rfl⟩))
theorem DeskO.keep (D:DeskO d b bl bt h T k) (g:Chg G k k') (hs:Apart (DF b bl bt h T) G) (hn : ∀ b,G b → ¬ k.sh b):DeskO d b bl bt h T k':=
  ⟨D.box.keep g (hs _ (.inl mem_b)) hn,D.ml.keep g (hs _ (.inl mem_bl)),fun t ht=>(D.bx t ht).keep g (hs _ (.inl (mem_T ht))) hn,D.out.keep g (fun c hc=>hs c (.inr hc)) hn,D.mt.keep g (hs _ (.inl mem_bt)),D.eL,D.nk,D.nd,D.nh⟩
theorem DeskO.handed (D:DeskO d b bl bt h T k) (g:Gb.Handed k k' G) (hs:Apart (DF b bl bt h T) G):DeskO d b bl bt h T k':=
  ⟨D.box.handed g (hs _ (.inl mem_b)),D.ml.handed g (hs _ (.inl mem_bl)),fun t ht=>(D.bx t ht).handed g (hs _ (.inl (mem_T ht))),D.out.handed g (fun c hc=>hs c (.inr hc)),D.mt.handed g (hs _ (.inl mem_bt)),D.eL,D.nk,D.nd,D.nh⟩
theorem DeskO.grow (D:DeskO d b bl bt h T k) (g:Grow k k'):DeskO d b bl bt h T k':=D.keep (Chg.of (F:=noF) g) (fun _ _ f=>f) (fun _ f=>f.elim)
theorem DeskO.lt (D:DeskO d b bl bt h T k) : ∀ c,DF b bl bt h T c → c < k.w.heap.size:=by
  rintro c (hc | hc)
  · simp only [dbl, List.mem_cons, List.mem_map] at hc
    rcases hc with rfl | rfl | rfl | ⟨t,ht,rfl⟩
    · exact D.box.lt
    · exact D.ml.lt
    · exact D.mt.lt
    · exact (D.bx t ht).lt
  · exact D.out.ltF c hc
theorem DeskO.nsh (D:DeskO d b bl bt h T k) : ∀ c,DF b bl bt h T c → ¬ k.sh c:=by
  rintro c (hc | hc)
  · simp only [dbl, List.mem_cons, List.mem_map] at hc
    rcases hc with rfl | rfl | rfl | ⟨t,ht,rfl⟩
    · exact D.box.own
    · exact D.ml.own
    · exact D.mt.own
    · exact (D.bx t ht).own
  · exact D.out.nshF c hc
instance:Rsc (DeskR d) where
  keep:=fun ⟨b,bl,bt,h,T,e,D,eF⟩ g hs hn=>⟨b,bl,bt,h,T,e,D.keep g (eF ▸ hs) hn,eF⟩
  handed:=fun ⟨b,bl,bt,h,T,e,D,eF⟩ g hs=>⟨b,bl,bt,h,T,e,D.handed g (eF ▸ hs),eF⟩
  lt:=fun ⟨b,bl,bt,h,T,e,D,eF⟩ c hc=>D.lt c (by rw [eF] at hc; exact hc)
  nsh:=fun ⟨b,bl,bt,h,T,e,D,eF⟩ c hc=>D.nsh c (by rw [eF] at hc; exact hc)
theorem DeskO.get (cap:ByteArray):getK (T.map lkv) cap = (getK T cap).map fun y=>ptrV y.1:=getK_map (fun y:Nat × Lease=>ptrV y.1) T cap
theorem DeskO.getL (D:DeskO d b bl bt h T k) (cap:ByteArray):getK d.L cap = (getK T cap).map (·.2):=by
  rw [D.eL]; exact getK_map (fun y:Nat × Lease=>y.2) T cap
/-- One lease was turned. -/
theorem DeskO.turn (D:DeskO d b bl bt h T k) {cap:ByteArray} {bi:Nat} {x y:Lease} (hc:getK T cap = some (bi,x)) (g:Chg (Eq bi) k k') (hx:Box bi y k') :
    DeskO { d with L:=setK d.L cap y } b bl bt h (setK T cap (bi,y)) k'∧DF b bl bt h (setK T cap (bi,y)) = DF b bl bt h T∧dbl b bl bt (setK T cap (bi,y)) = dbl b bl bt T:=by
  have hm:=getK_mem hc
  have hbi:=mem_T (b:=b) (bl:=bl) (bt:=bt) hm
  have hn : ∀ c,bi = c → ¬ k.sh c:=fun c e=>e ▸ D.nsh _ (.inl hbi)
  have hnd:=D.nd
  have e1:(setK T cap (bi,y)).map (·.2.1) = T.map (·.2.1):=by
    have : ∀ (T:List LT),getK T cap = some (bi,x) → (setK T cap (bi,y)).map (·.2.1) = T.map (·.2.1):=by
      intro T
      induction T with
      | nil=>simp [getK]
      | cons t T ih =>
        obtain ⟨a,z⟩:=t
        simp only [getK,setK]
        split
        · intro e; simp at e; simp [e]
        · intro e; simp [ih e]
    exact this T hc
  have e2:(setK T cap (bi,y)).map lkv = T.map lkv:=by
    have : ∀ (T:List LT),getK T cap = some (bi,x) → (setK T cap (bi,y)).map lkv = T.map lkv:=by
      intro T
      induction T with
      | nil=>simp [getK]
      | cons t T ih =>
        obtain ⟨a,z⟩:=t
        simp only [getK,setK]
        split
        · intro e; simp at e; simp [e,lkv]
        · intro e; simp [ih e]
    exact this T hc
  have e3:dbl b bl bt (setK T cap (bi,y)) = dbl b bl bt T:=by unfold dbl; rw [e1]
  have ne : ∀ c ∈ dbl b bl bt T,(∀ t ∈ T,t.2.1 = c → t.1 = cap) → c ≠ bi → True:=fun _ _ _ _=>trivial
  simp only [dbl,List.nodup_cons,List.mem_cons,List.mem_map,not_or] at hnd
  obtain ⟨⟨hb1,hb2,hb3⟩,⟨hl1,hl2⟩,ht1,hT⟩:=hnd
  have nb : ¬ bi = b:=fun e=>hb3 ⟨_,hm,e⟩
  have nl : ¬ bi = bl:=fun e=>hl2 ⟨_,hm,e⟩
  have nt : ¬ bi = bt:=fun e=>ht1 ⟨_,hm,e⟩
  refine ⟨⟨D.box.keep g nb hn,by rw [e2]; exact D.ml.keep g nl,?_,D.out.keep g (fun c hc' e=>D.nh bi hbi (e ▸ hc')) hn,D.mt.keep g nt,?_,setK_keys T cap _ D.nk,by rw [e3]; exact D.nd,by rw [e3]; exact D.nh⟩,by unfold DF; rw [e3],e3⟩
  · intro t ht
    rcases setK_mem D.nk ht with rfl | ⟨h1,h2⟩
    · exact hx
    · refine (D.bx t h1).keep g (fun e => ?_) hn
      have : ∀ (T:List LT),(T.map (·.2.1)).Nodup → (cap,bi,x) ∈ T → t ∈ T → bi = t.2.1 → t.1 = cap:=by
        intro T hT hm ht e
        have:=List.pairwise_iff_getElem.1 hT
        obtain ⟨i,hi,hi'⟩:=List.getElem_of_mem hm
        obtain ⟨j,hj,hj'⟩:=List.getElem_of_mem ht
        by_cases hij:i = j
        · subst hij; rw [hi'] at hj'; rw [← hj']
        · exfalso
          rcases Nat.lt_or_gt_of_ne hij with h | h
          · exact this i j (by simpa using hi) (by simpa using hj) h (by simp [hi', hj', e])
          · exact this j i (by simpa using hj) (by simpa using hi) h (by simp [hi', hj', e])
      exact h2 (this T hT hm h1 e)
  · show setK d.L cap y = _
    rw [D.eL]
    exact setK_map (fun y:Nat × Lease=>y.2) T cap (bi,y)
end
theorem ty67r:Ty Tryd.prog 67 RawV:=⟨⟨_,Tryd.underlying67,rfl⟩,by kernel_rfl⟩
theorem ty68r:Ty Tryd.prog 68 RawV:=⟨⟨_,Tryd.underlying68,rfl⟩,by kernel_rfl⟩
theorem ty28r:Ty Tryd.prog 28 RawV:=⟨⟨_,Tryd.underlying28,rfl⟩,by kernel_rfl⟩
theorem ty3r:Ty Tryd.prog 3 RawV:=⟨⟨_,Tryd.underlying3,rfl⟩,by kernel_rfl⟩
theorem zero71 : ∀ w,(zeroValue 71).run Tryd.prog w = .ok (.pointer none) w:=fun w=>Tryd.zeroValue71 w
theorem ok_eqPN {o:Oper} {a:Act} {k:K} {t s w:TypeId} {x:Operand} {p:Option Addr} (ho:o.op = .binOp .eql t x (.const (.pointer none)) w) (hu:Tryd.prog.underlying t = some (.pointer s)) (h:a.eval x = .pointer p):Does Tryd.prog o a k (IsV p.isNone):=by
  have ev:a.eval (.const (.pointer none)) = .pointer none:=rfl
  have hr:(Op.equal t (.pointer p) (.pointer none)).run Tryd.prog k.w = .ok p.isNone k.w:=by
    show (Op.equalIn (9999 + 1) t _ _).run Tryd.prog k.w = _
    rw [Op.equalIn]
    cases p <;> simp [run_underlying hu]
  refine does_pure (v:=.bool p.isNone) ?_ (isV_bool.2 rfl)
  simp only [execOp,ho,h,ev]
  cases p <;> simp [eqGuard,binOp,hr]
theorem ok_nePN {o:Oper} {a:Act} {k:K} {t s w:TypeId} {x:Operand} {p:Option Addr} (ho:o.op = .binOp .neq t x (.const (.pointer none)) w) (hu:Tryd.prog.underlying t = some (.pointer s)) (h:a.eval x = .pointer p):Does Tryd.prog o a k (IsV p.isSome):=by
  have ev:a.eval (.const (.pointer none)) = .pointer none:=rfl
  have hr:(Op.equal t (.pointer p) (.pointer none)).run Tryd.prog k.w = .ok p.isNone k.w:=by
    show (Op.equalIn (9999 + 1) t _ _).run Tryd.prog k.w = _
    rw [Op.equalIn]
    cases p <;> simp [run_underlying hu]
  refine does_pure (v:=.bool p.isSome) ?_ (isV_bool.2 rfl)
  simp only [execOp,ho,h,ev]
  cases p <;> simp [eqGuard,binOp,hr]
/-- The pointer to a lease that a look-up gives. -/
def lpt (y:Option (Nat × Lease)):Option Addr:=y.map fun y=>⟨y.1,0,none⟩
theorem lpt_get (T:List LT) (cap:ByteArray):(getK (T.map lkv) cap).getD (.pointer none) = .pointer (lpt (getK T cap)):=by
  rw [DeskO.get]; cases getK T cap <;> rfl

def deskLeft (d:DeskV) (cap:ByteArray):Option Int:=match getK d.L cap with
  | some x=>subI x.Held x.Used
  | none=>some 0
theorem deskLeft_ok {k0:K} {v1:Value} {d:DeskV} {b bl bt:Nat} {h:Value} {T:List LT} {cap:ByteArray} {r:Int} (D:DeskO d b bl bt h T k0) (i1:IsV cap v1 k0) (hr:deskLeft d cap = some r) :
    Calls Tryd.prog 17 #[ptrV b,v1] k0.w (Ret k0 (IsV r)):=by
  unfold deskLeft at hr
  rw [D.getL] at hr
  refine Ret.ofC ?_
  refine enterK Tryd.func17 rfl Tryd.ntmps17 (show 2 ≤ 23 by decide) fun a k hk0 hs hd ha=>?_
  obtain ⟨e0,e1,_⟩:=ha
  have i0:Is (ptrV b) (a.get 0) k:=e0
  replace i1:IsV cap (a.get 1) k:=by rw [e1,hk0]; exact i1
  have hQ:Gb.LetsOut (bodyPost Tryd.prog Tryd.f17 (RetC noF k0 (IsV r))):=letsOutC
  have hg:Chg noF k0 k:=by rw [hk0]; exact Chg.refl _ k0
  clear e0 e1
  refine stepL 1 (⟨some (IsI 0),[]⟩::[]) rfl ⟨hg,hs,hd⟩ (by kernel_rfl) ⟨aI rfl rfl,trivial⟩ [⟨_,_⟩,⟨_,_⟩] (fun b q p=>⟨p.ke 0 rfl i0,p.ke 1 rfl i1,trivial⟩) ?_
  rintro a k ⟨⟨hg,hs,hd⟩,i0,i1,_⟩
  have D1:DeskO d b bl bt h T k:=D.keep hg (fun _ _ f=>f) (fun _ f=>f.elim)
  refine wp_seq ?_
  refine stepL 7 (_::⟨some (Is (ptrV b)),[(6,some 0)]⟩::⟨some (IsAdr b 1),[(7,some 1)]⟩::⟨some (Is (.map (some bl))),[(8,some 2)]⟩::_::⟨some (Is (.pointer (lpt (getK T cap)))),[(9,some 3),(10,some 4)]⟩::_::[]) rfl ⟨hg,hs,hd⟩ (by kernel_rfl) ⟨mu rfl i0,ob1 rfl fun _ _ g n=>ok_nilCheckV rfl ⟨_,n.1⟩ n.1,ob1 rfl fun _ _ g n=>ok_fieldAdr rfl fo70_1 n.1,ob1 rfl fun _ _ g n=>ok_loadC rfl ty67r n.1 (D1.grow g).box rfl,mu rfl i1,ob1 rfl fun _ _ g n=>by rw [← lpt_get]; exact ok_lookupM rfl key9 Tryd.underlying67 zero71 n.1 (isV_str.1 n.2.1) (D1.grow g).ml.m,cp 5 rfl rfl,trivial⟩ [⟨5,Is (.pointer (lpt (getK T cap)))⟩] (fun b q p=>⟨p.ou 6 5 rfl,trivial⟩) ?_
  rintro a k ⟨⟨hg,hs,hd⟩,i5,_⟩
  have D2:DeskO d b bl bt h T k:=D.keep hg (fun _ _ f=>f) (fun _ f=>f.elim)
  clear i0 i1 D1
  refine stepL 2 (_::⟨some (IsV (lpt (getK T cap)).isSome),[(12,some 0)]⟩::[]) rfl ⟨hg,hs,hd⟩ (by kernel_rfl) ⟨mu rfl i5,ob1 rfl fun _ _ g n=>ok_nePN rfl Tryd.underlying71 n.1,trivial⟩ [⟨_,_⟩,⟨_,_⟩] (fun b q p=>⟨p.ke 5 rfl i5,p.ou 1 13 rfl,trivial⟩) ?_
  clear i5 D2
  rintro a k ⟨⟨hg,hs,hd⟩,i5,i13,_⟩
  have D3:DeskO d b bl bt h T k:=D.keep hg (fun _ _ f=>f) (fun _ f=>f.elim)
  cases hc:getK T cap with
  | none =>
    rw [hc] at i13 hr
    refine wp_cond_split (isBool i13) (fun hc=>by simp [lpt] at hc) (fun hc=>?_)
    refine wp_skip ?_
    refine stepL 1 (⟨some (IsI 0),[]⟩::[]) rfl ⟨hg,hs,hd⟩ (by kernel_rfl) ⟨aI rfl rfl,trivial⟩ [⟨_,_⟩] (fun b q p=>⟨p.ou 0 4 rfl,trivial⟩) ?_
    rintro a k ⟨⟨hg,hs,hd⟩,i4,_⟩
    refine wp_ret ?_
    obtain rfl:=Option.some.inj hr
    exact retC1 rfl hd hg i4
  | some y =>
    obtain ⟨bi,x⟩:=y
    rw [hc] at i13 hr i5
    have hbx:=D3.bx _ (getK_mem hc)
    refine wp_cond_split (isBool i13) (fun hc=>?_) (fun hc=>by simp [lpt] at hc)
    replace i5:Is (ptrV bi) (a.get 5) k:=i5
    have P1 : ∀ {q},Grow k q → IsPtr x (ptrV bi) q:=fun g=>⟨_,rfl,(hbx.grow g).at⟩
    refine wp_seq ?_
    refine cut (fun a' k'=>Bs noF k0 23 a' k'∧IsV r (a'.get 4) k') ?_ hQ ?_
    · intro Q1 W1 w1
      refine region (a0:=a) (k0:=k) (n:=23) (m:=10) (_::⟨some (Is (ptrV bi)),[(14,some 0)]⟩::⟨some (IsPtr x.Held),[(15,some 1)]⟩::⟨some (IsV x.Held),[(16,some 2)]⟩::_::⟨some (Is (ptrV bi)),[(18,some 4)]⟩::⟨some (IsPtr x.Used),[(19,some 5)]⟩::⟨some (IsV x.Used),[(20,some 6)]⟩::⟨some (IsV r),[(17,some 3),(21,some 7)]⟩::_::[]) hmix hs (by kernel_rfl) ⟨mu rfl i5,ob1 rfl fun _ _ g n=>ok_nilCheckV rfl ⟨_,n.1⟩ n.1,ob1 rfl fun a' _ g n=>ok_fieldAddr rfl fo43_2 (at_Lease_2 _) (by rw [show a'.eval (.tmp 15) = ptrV bi from n.1]; exact P1 g),ob1 rfl fun _ _ g n=>ok_load rfl ty3 n.1,
        mu rfl i5,ob1 rfl fun _ _ g n=>ok_nilCheckV rfl ⟨_,n.1⟩ n.1,ob1 rfl fun a' _ g n=>ok_fieldAddr rfl fo43_3 (at_Lease_3 _) (by rw [show a'.eval (.tmp 19) = ptrV bi from n.1]; exact P1 g),ob1 rfl fun _ _ g n=>ok_load rfl ty3 n.1,ob1 rfl fun _ _ g n=>ok_sub rfl n.1 n.2.1 hr,cp 8 rfl rfl,trivial⟩ W1 fun b q p=>?_
      exact tail_done (k:=q) (w1 _ _ ⟨Bs.post ⟨hg,hs,hd⟩ p,p.ou 9 4 rfl⟩)
    rintro a k ⟨⟨hg,hs,hd⟩,i4⟩
    refine wp_ret ?_
    exact retC1 rfl hd hg i4

end Go.Proofs.YtljfakcblkdhbaaDoor

namespace Go.Proofs.YtljfakcblkdhbaaDoor
open Go.Gb
set_option linter.unusedVariables false
set_option linter.unusedSimpArgs false
set_option linter.unusedSectionVars false
set_option maxRecDepth 100000
theorem within_eq (n lo hi:Int):lease_within n lo hi = some (decide (lo ≤ n) && decide (n ≤ hi)):=rfl
/-- What find answers, and which lease it finds. -/
def findE {α:Type} (y:Option α) (n:Int):Int:=if (decide (1 ≤ n) && decide (n ≤ 1099511627776)) then (if y.isNone then 4 else 0) else 1
def findP (y:Option (Nat × Lease)) (n:Int):Option Addr:=if (decide (1 ≤ n) && decide (n ≤ 1099511627776)) then lpt y else none
theorem find_ok {k0:K} {v1 v2:Value} {d:DeskV} {b bl bt:Nat} {h:Value} {T:List LT} {cap:ByteArray} {n:Int} (D:DeskO d b bl bt h T k0) (i1:IsV cap v1 k0) (i2:IsV n v2 k0) :
    Calls Tryd.prog 44 #[ptrV b,v1,v2] k0.w (Ret k0 (IsTup2 (Is (.pointer (findP (getK T cap) n))) (IsV (findE (getK T cap) n)))):=by
  refine Ret.ofC ?_
  refine enterK Tryd.func44 rfl Tryd.ntmps44 (show 3 ≤ 23 by decide) fun a k hk0 hs hd ha=>?_
  obtain ⟨e0,e1,e2,_⟩:=ha
  have i0:Is (ptrV b) (a.get 0) k:=e0
  replace i1:IsV cap (a.get 1) k:=by rw [e1,hk0]; exact i1
  replace i2:IsV n (a.get 2) k:=by rw [e2,hk0]; exact i2
  have hQ:Gb.LetsOut (bodyPost Tryd.prog Tryd.f44 (RetC noF k0 (IsTup2 (Is (.pointer (findP (getK T cap) n))) (IsV (findE (getK T cap) n))))):=letsOutC
  have hg:Chg noF k0 k:=by rw [hk0]; exact Chg.refl _ k0
  clear e0 e1 e2
  refine stepL 2 (⟨some (Is (.pointer none)),[]⟩::⟨some (IsI 0),[]⟩::[]) rfl ⟨hg,hs,hd⟩ (by kernel_rfl) ⟨ob1 rfl fun _ _ g n=>ok_assign rfl rfl,aI rfl rfl,trivial⟩ [⟨_,_⟩,⟨_,_⟩,⟨_,_⟩] (fun b q p=>⟨p.ke 0 rfl i0,p.ke 1 rfl i1,p.ke 2 rfl i2,trivial⟩) ?_
  clear i0 i1 i2
  rintro a k ⟨⟨hg,hs,hd⟩,i0,i1,i2,_⟩
  have D1:DeskO d b bl bt h T k:=D.keep hg (fun _ _ f=>f) (fun _ f=>f.elim)
  refine stepL 7 (_::⟨some (Is (ptrV b)),[(9,some 0)]⟩::⟨some (IsAdr b 1),[(10,some 1)]⟩::⟨some (Is (.map (some bl))),[(11,some 2)]⟩::_::⟨some (Is (.pointer (lpt (getK T cap)))),[(12,some 3),(13,some 4)]⟩::_::[]) rfl ⟨hg,hs,hd⟩ (by kernel_rfl) ⟨mu rfl i0,ob1 rfl fun _ _ g n=>ok_nilCheckV rfl ⟨_,n.1⟩ n.1,ob1 rfl fun _ _ g n=>ok_fieldAdr rfl fo70_1 n.1,ob1 rfl fun _ _ g n=>ok_loadC rfl ty67r n.1 (D1.grow g).box rfl,mu rfl i1,ob1 rfl fun _ _ g n=>by rw [← lpt_get]; exact ok_lookupM rfl key9 Tryd.underlying67 zero71 n.1 (isV_str.1 n.2.1) (D1.grow g).ml.m,cp 5 rfl rfl,trivial⟩ [⟨2,IsV n⟩,⟨8,Is (.pointer (lpt (getK T cap)))⟩] (fun b q p=>⟨p.ke 2 rfl i2,p.ou 6 8 rfl,trivial⟩) ?_
  clear i0 i1 i2 D1
  rintro a k ⟨⟨hg,hs,hd⟩,i2,i8,_⟩
  refine wp_seq ?_
  refine wp_block ?_
  refine stepL 4 (_::⟨some (IsV ((decide (1 ≤ n) && decide (n ≤ 1099511627776)))),[(16,some 0)]⟩::⟨some (IsV (!(decide (1 ≤ n) && decide (n ≤ 1099511627776)))),[(17,some 1)]⟩::_::[]) rfl ⟨hg,hs,hd⟩ (by kernel_rfl) ⟨mu rfl i2,ob1 rfl fun _ _ g n=>ok_call rfl Tryd.call43 (lease_within_ok n.1 (isV_int.2 rfl) (isV_int.2 rfl) (within_eq _ _ _)),ob1 rfl fun _ _ g n=>ok_not rfl n.1,cp 2 rfl rfl,trivial⟩ [⟨_,_⟩,⟨_,_⟩] (fun b q p=>⟨p.ke 8 rfl i8,p.ou 3 15 rfl,trivial⟩) ?_
  clear i2 i8
  rintro a k ⟨⟨hg,hs,hd⟩,i8,i15,_⟩
  unfold findP findE at *
  cases hw:(decide (1 ≤ n) && decide (n ≤ 1099511627776)) with
  | false =>
    rw [hw] at i15
    refine wp_cond_split (isBool i15) (fun _=>?_) (fun hc=>by simp at hc)
    refine stepL 2 (⟨some (Is (.pointer none)),[]⟩::⟨some (IsI 1),[]⟩::[]) rfl ⟨hg,hs,hd⟩ (by kernel_rfl) ⟨ob1 rfl fun _ _ g n=>ok_assign rfl rfl,aI rfl rfl,trivial⟩ [⟨_,_⟩,⟨_,_⟩] (fun b q p=>⟨p.ou 0 6 rfl,p.ou 1 7 rfl,trivial⟩) ?_
    rintro a k ⟨⟨hg,hs,hd⟩,i6,i7,_⟩
    refine wp_ret ?_
    exact retC2 rfl hd hg i6 i7
  | true =>
    rw [hw] at i15
    refine wp_cond_split (isBool i15) (fun hc=>by simp at hc) (fun _=>?_)
    refine stepL 3 (_::⟨some (IsV (lpt (getK T cap)).isNone),[(20,some 0)]⟩::_::[]) rfl ⟨hg,hs,hd⟩ (by kernel_rfl) ⟨mu rfl i8,ob1 rfl fun _ _ g n=>ok_eqPN rfl Tryd.underlying71 n.1,cp 1 rfl rfl,trivial⟩ [⟨_,_⟩,⟨_,_⟩] (fun b q p=>⟨p.ke 8 rfl i8,p.ou 2 19 rfl,trivial⟩) ?_
    clear i8 i15
    rintro a k ⟨⟨hg,hs,hd⟩,i8,i19,_⟩
    cases hc:getK T cap with
    | none =>
      rw [hc] at i19
      refine wp_cond_split (isBool i19) (fun _=>?_) (fun hc=>by simp [lpt] at hc)
      refine stepL 2 (⟨some (Is (.pointer none)),[]⟩::⟨some (IsI 4),[]⟩::[]) rfl ⟨hg,hs,hd⟩ (by kernel_rfl) ⟨ob1 rfl fun _ _ g n=>ok_assign rfl rfl,aI rfl rfl,trivial⟩ [⟨_,_⟩,⟨_,_⟩] (fun b q p=>⟨p.ou 0 6 rfl,p.ou 1 7 rfl,trivial⟩) ?_
      rintro a k ⟨⟨hg,hs,hd⟩,i6,i7,_⟩
      refine wp_ret ?_
      exact retC2 rfl hd hg i6 i7
    | some y =>
      rw [hc] at i19 i8
      refine wp_cond_split (isBool i19) (fun hc=>by simp [lpt] at hc) (fun _=>?_)
      refine wp_skip ?_
      refine stepL 3 (_::_::⟨some (IsI 0),[]⟩::[]) rfl ⟨hg,hs,hd⟩ (by kernel_rfl) ⟨mu rfl i8,cp 0 rfl rfl,aI rfl rfl,trivial⟩ [⟨_,_⟩,⟨_,_⟩] (fun b q p=>⟨p.ou 1 6 rfl,p.ou 2 7 rfl,trivial⟩) ?_
      rintro a k ⟨⟨hg,hs,hd⟩,i6,i7,_⟩
      refine wp_ret ?_
      exact retC2 rfl hd hg i6 i7

/-- Behind a turn of a desk. -/
def Turn (d' : DeskV) (u:Value) (F:FP) (k0:K) (R:Pred):Pred:=fun v k=>(∃ G,DeskR d' G u k∧Wr F k0 G)∧R v k
theorem DeskO.r {d:DeskV} {b bl bt:Nat} {h:Value} {T:List LT} {k:K} (D:DeskO d b bl bt h T k):DeskR d (DF b bl bt h T) (ptrV b) k:=⟨b,bl,bt,h,T,rfl,D,rfl⟩
theorem Wr.self {F:FP} {k:K}:Wr F k F:=fun _ h=>.inl h

def deskUse (d:DeskV) (cap:ByteArray) (n:Int):Option (DeskV × Int):=
  if findE (getK d.L cap) n != 0 then some (d,findE (getK d.L cap) n) else
  match getK d.L cap with
  | some x=>(subI x.Held x.Used).bind fun l=>if l < n then some (d,26) else (addI x.Used n).bind fun u=>some ({ d with L:=setK d.L cap { x with Used:=u } },0)
  | none=>none
def deskFree (d:DeskV) (cap:ByteArray) (n:Int):Option (DeskV × Int):=
  if findE (getK d.L cap) n != 0 then some (d,findE (getK d.L cap) n) else
  match getK d.L cap with
  | some x=>if x.Used < n then some (d,26) else (subI x.Used n).bind fun u=>some ({ d with L:=setK d.L cap { x with Used:=u } },0)
  | none=>none
theorem findE_map (T:List LT) (cap:ByteArray) (n:Int):findE ((getK T cap).map (·.2)) n = findE (getK T cap) n:=by
  unfold findE; cases getK T cap <;> rfl
theorem findE_zero {α:Type} {y:Option α} {n:Int} (h:findE y n = 0):(decide (1 ≤ n) && decide (n ≤ 1099511627776)) = true∧∃ z,y = some z:=by
  unfold findE at h
  split at h
  · rename_i hw; cases y with
    | none=>simp at h
    | some z=>exact ⟨hw,z,rfl⟩
  · simp at h

end Go.Proofs.YtljfakcblkdhbaaDoor

namespace Go.Proofs.YtljfakcblkdhbaaDoor
open Go.Gb
set_option linter.unusedVariables false
set_option linter.unusedSimpArgs false
set_option linter.unusedSectionVars false
set_option maxRecDepth 100000
theorem deskUse_ok {k0:K} {v1 v2:Value} {d:DeskV} {b bl bt:Nat} {h:Value} {T:List LT} {cap:ByteArray} {n:Int} {r:DeskV × Int} (D:DeskO d b bl bt h T k0) (i1:IsV cap v1 k0) (i2:IsV n v2 k0) (hr:deskUse d cap n = some r) :
    Calls Tryd.prog 26 #[ptrV b,v1,v2] k0.w (RetC (DF b bl bt h T) k0 (Turn r.1 (ptrV b) (DF b bl bt h T) k0 (IsV r.2))):=by
  unfold deskUse at hr
  rw [D.getL,findE_map] at hr
  refine enterK Tryd.func26 rfl Tryd.ntmps26 (show 3 ≤ 40 by decide) fun a k hk0 hs hd ha=>?_
  obtain ⟨e0,e1,e2,_⟩:=ha
  have i0:Is (ptrV b) (a.get 0) k:=e0
  replace i1:IsV cap (a.get 1) k:=by rw [e1,hk0]; exact i1
  replace i2:IsV n (a.get 2) k:=by rw [e2,hk0]; exact i2
  have hQ:Gb.LetsOut (bodyPost Tryd.prog Tryd.f26 (RetC (DF b bl bt h T) k0 (Turn r.1 (ptrV b) (DF b bl bt h T) k0 (IsV r.2)))):=letsOutC
  have hg:Chg (DF b bl bt h T) k0 k:=by rw [hk0]; exact Chg.refl _ k0
  replace D:DeskO d b bl bt h T k:=by rw [hk0]; exact D
  clear e0 e1 e2
  refine stepL 1 (⟨some (IsI 0),[]⟩::[]) rfl ⟨hg,hs,hd⟩ (by kernel_rfl) ⟨aI rfl rfl,trivial⟩ [⟨_,_⟩,⟨_,_⟩,⟨_,_⟩,⟨0,fun _ k=>DeskO d b bl bt h T k⟩] (fun b q p=>⟨p.ke 0 rfl i0,p.ke 1 rfl i1,p.ke 2 rfl i2,D.grow p.grow,trivial⟩) ?_
  clear i0 i1 i2 D
  rintro a k ⟨⟨hg,hs,hd⟩,i0,i1,i2,D,_⟩
  replace D:DeskO d b bl bt h T k:=D
  refine stepL 9 (_::_::_::⟨some (IsTup2 (Is (.pointer (findP (getK T cap) n))) (IsV (findE (getK T cap) n))),[(10,some 0),(11,some 1),(12,some 2)]⟩::_::⟨some (Is (.pointer (findP (getK T cap) n))),[(9,some 4)]⟩::⟨some (IsV (findE (getK T cap) n)),[(9,some 4)]⟩::_::_::[]) rfl ⟨hg,hs,hd⟩ (by kernel_rfl) ⟨mu rfl i0,mu rfl i1,mu rfl i2,ob1 rfl fun a' _ g n=>ok_call rfl Tryd.call44 (by show Calls Tryd.prog 44 #[a'.eval (.tmp 10),a'.eval (.tmp 11),a'.eval (.tmp 12)] _ _; rw [show a'.eval (.tmp 10) = ptrV b from n.1]; exact find_ok (D.grow g) n.2.1 n.2.2.1),cm 3 rfl rfl,ob1 rfl fun _ _ g n=>ok_ext2_0 rfl n.1,ob1 rfl fun _ _ g n=>ok_ext2_1 rfl n.1,cp 5 rfl rfl,cp 6 rfl rfl,trivial⟩ [⟨_,_⟩,⟨_,_⟩,⟨7,Is (.pointer (findP (getK T cap) n))⟩,⟨8,IsV (findE (getK T cap) n)⟩,⟨0,fun _ k=>DeskO d b bl bt h T k⟩] (fun b q p=>⟨p.ke 0 rfl i0,p.ke 2 rfl i2,p.ou 7 7 rfl,p.ou 8 8 rfl,D.grow p.grow,trivial⟩) ?_
  clear i0 i1 i2 D
  rintro a k ⟨⟨hg,hs,hd⟩,i0,i2,i7,i8,D,_⟩
  replace D:DeskO d b bl bt h T k:=D
  refine wp_seq ?_
  refine wp_block ?_
  refine stepL 3 (_::⟨some (IsV (findE (getK T cap) n != 0)),[(17,some 0)]⟩::_::[]) rfl ⟨hg,hs,hd⟩ (by kernel_rfl) ⟨mu rfl i8,ob1 rfl fun _ _ g n=>ok_neI rfl n.1 (cI rfl),cp 1 rfl rfl,trivial⟩ [⟨_,_⟩,⟨_,_⟩,⟨_,_⟩,⟨16,IsV (findE (getK T cap) n != 0)⟩,⟨0,fun _ k=>DeskO d b bl bt h T k⟩] (fun b q p=>⟨p.ke 2 rfl i2,p.ke 7 rfl i7,p.ke 8 rfl i8,p.ou 2 16 rfl,D.grow p.grow,trivial⟩) ?_
  clear i0 i2 i7 i8 D
  rintro a k ⟨⟨hg,hs,hd⟩,i2,i7,i8,i16,D,_⟩
  replace D:DeskO d b bl bt h T k:=D
  refine wp_cond_split (isBool i16) (fun hc=>?_) (fun hc=>?_)
  · rw [if_pos hc] at hr
    obtain rfl:=Option.some.inj hr
    refine stepL 2 (_::_::[]) rfl ⟨hg,hs,hd⟩ (by kernel_rfl) ⟨mu rfl i8,cp 0 rfl rfl,trivial⟩ [⟨6,IsV (findE (getK T cap) n)⟩,⟨0,fun _ k=>DeskO d b bl bt h T k⟩] (fun b q p=>⟨p.ou 1 6 rfl,D.grow p.grow,trivial⟩) ?_
    rintro a k ⟨⟨hg,hs,hd⟩,i6,D,_⟩
    replace D:DeskO d b bl bt h T k:=D
    refine wp_ret ?_
    exact retC1 rfl hd hg (show ResOk _ _ _ (.tmp 6) (Turn _ _ _ _ (IsV _)) from ⟨⟨_,D.r,Wr.self⟩,i6⟩)
  rw [if_neg (by rw [hc]; decide)] at hr
  have hE:findE (getK T cap) n = 0:=by simpa using hc
  obtain ⟨hw,⟨bi,x⟩,hT⟩:=findE_zero hE
  have hm:=getK_mem hT
  rw [hT] at hr
  simp only [Option.map_some] at hr
  have eP:findP (getK T cap) n = some ⟨bi,0,none⟩:=by unfold findP; rw [hw,hT]; rfl
  rw [eP] at i7
  replace i7:Is (ptrV bi) (a.get 7) k:=i7
  clear i8 i16 hc
  have P1 : ∀ {q},Grow k q → IsPtr x (ptrV bi) q:=fun g=>⟨_,rfl,((D.bx _ hm).grow g).at⟩
  obtain ⟨l,hl,hr⟩:=bind_some hr
  refine wp_seq ?_
  refine cut (fun a' k'=>Bs (DF b bl bt h T) k0 40 a' k'∧IsV n (a'.get 2) k'∧Is (ptrV bi) (a'.get 7) k'∧IsV (decide (l < n)) (a'.get 20) k'∧DeskO d b bl bt h T k') ?_ trivial ?_
  · intro Q1 W1 w1
    refine region (a0:=a) (k0:=k) (n:=40) (m:=12) (_::⟨some (Is (ptrV bi)),[(21,some 0)]⟩::⟨some (IsPtr x.Held),[(22,some 1)]⟩::⟨some (IsV x.Held),[(23,some 2)]⟩::_::⟨some (Is (ptrV bi)),[(25,some 4)]⟩::⟨some (IsPtr x.Used),[(26,some 5)]⟩::⟨some (IsV x.Used),[(27,some 6)]⟩::⟨some (IsV l),[(24,some 3),(28,some 7)]⟩::_::⟨some (IsV (decide (l < n))),[(29,some 8),(30,some 9)]⟩::_::[]) hmix hs (by kernel_rfl) ⟨mu rfl i7,ob1 rfl fun _ _ g n=>ok_nilCheckV rfl ⟨_,n.1⟩ n.1,ob1 rfl fun a' _ g n=>ok_fieldAddr rfl fo43_2 (at_Lease_2 _) (by rw [show a'.eval (.tmp 22) = ptrV bi from n.1]; exact P1 g),ob1 rfl fun _ _ g n=>ok_load rfl ty3 n.1,mu rfl i7,ob1 rfl fun _ _ g n=>ok_nilCheckV rfl ⟨_,n.1⟩ n.1,ob1 rfl fun a' _ g n=>ok_fieldAddr rfl fo43_3 (at_Lease_3 _) (by rw [show a'.eval (.tmp 26) = ptrV bi from n.1]; exact P1 g),ob1 rfl fun _ _ g n=>ok_load rfl ty3 n.1,ob1 rfl fun _ _ g n=>ok_sub rfl n.1 n.2.1 hl,mu rfl i2,ob1 rfl fun _ _ g n=>ok_lss rfl n.1 n.2.1,cp 10 rfl rfl,trivial⟩ W1 fun b q p=>?_
    exact tail_done (k:=q) (w1 _ _ ⟨Bs.post ⟨hg,hs,hd⟩ p,p.ke 2 rfl i2,p.ke 7 rfl i7,p.ou 11 20 rfl,D.grow p.grow⟩)
  clear i2 i7 D hg hs hd P1
  rintro a k ⟨⟨hg,hs,hd⟩,i2,i7,i20,D⟩
  have P1 : ∀ {q},Grow k q → IsPtr x (ptrV bi) q:=fun g=>⟨_,rfl,((D.bx _ hm).grow g).at⟩
  refine wp_cond_split (isBool i20) (fun hc=>?_) (fun hc=>?_)
  · rw [if_pos (of_decide_eq_true hc)] at hr
    obtain rfl:=Option.some.inj hr
    refine stepL 1 (⟨some (IsI 26),[]⟩::[]) rfl ⟨hg,hs,hd⟩ (by kernel_rfl) ⟨aI rfl rfl,trivial⟩ [⟨6,IsI 26⟩,⟨0,fun _ k=>DeskO d b bl bt h T k⟩] (fun b q p=>⟨p.ou 0 6 rfl,D.grow p.grow,trivial⟩) ?_
    rintro a k ⟨⟨hg,hs,hd⟩,i6,D,_⟩
    replace D:DeskO d b bl bt h T k:=D
    refine wp_ret ?_
    exact retC1 rfl hd hg (show ResOk _ _ _ (.tmp 6) (Turn _ _ _ _ (IsV _)) from ⟨⟨_,D.r,Wr.self⟩,i6⟩)
  rw [if_neg (of_decide_eq_false hc)] at hr
  refine wp_skip ?_
  obtain ⟨u,hu,hr⟩:=bind_some hr
  obtain rfl:=Option.some.inj hr
  refine wp_seq ?_
  refine cut (fun a' k'=>Bs (DF b bl bt h T) k0 40 a' k'∧DeskR { d with L:=setK d.L cap { x with Used:=u } } (DF b bl bt h T) (ptrV b) k') ?_ hQ ?_
  · intro Q1 W1 w1
    refine gS 8 (_::⟨some (Is (ptrV bi)),[(32,some 0)]⟩::⟨some (IsPtr x.Used),[(33,some 1)]⟩::⟨some (IsV x.Used),[(34,some 2)]⟩::_::⟨some (IsV u),[(35,some 3),(36,some 4)]⟩::⟨some (Is (ptrV bi)),[(32,some 0)]⟩::⟨some (IsAdr bi 3),[(38,some 6)]⟩::[]) hs (by kernel_rfl) ⟨mu rfl i7,ob1 rfl fun _ _ g n=>ok_nilCheckV rfl ⟨_,n.1⟩ n.1,ob1 rfl fun a' _ g n=>ok_fieldAddr rfl fo43_3 (at_Lease_3 _) (by rw [show a'.eval (.tmp 33) = ptrV bi from n.1]; exact P1 g),ob1 rfl fun _ _ g n=>ok_load rfl ty3 n.1,mu rfl i2,ob1 rfl fun _ _ g n=>ok_add rfl n.1 n.2.1 hu,ob1 rfl fun _ _ g n=>ok_nilCheckV rfl ⟨_,n.1⟩ n.1,ob1 rfl fun _ _ g n=>ok_fieldAdr rfl fo43_3 n.1,trivial⟩ W1 fun b' q p=>?_
    have hgq:=hg.then p.grow
    have Dq:=D.grow p.grow
    have ju:IsV u (b'.get 37) q:=p.ou 5 37 rfl
    have jp:IsAdr bi 3 (b'.get 39) q:=p.ou 7 39 rfl
    refine tail_storeB (i:=8) rfl rfl rfl rfl szf3 upd_F43_3 jp (Dq.bx _ hm) ju fun q2 hch hz=>?_
    obtain ⟨D2,eF,_⟩:=Dq.turn hT hch hz
    have hw' : Wr (DF b bl bt h T) k0 (Eq bi):=fun c e=>.inl (.inl (e ▸ mem_T hm))
    exact tail_done (k := q2) (w1 _ _ ⟨⟨hgq.step hch hw', p.size.trans hs, p.defers.trans hd⟩, eF ▸ D2.r⟩)
  clear i2 i7 i20 D hg hs hd P1
  rintro a k ⟨⟨hg,hs,hd⟩,D⟩
  refine stepL 1 (⟨some (IsI 0),[]⟩::[]) rfl ⟨hg,hs,hd⟩ (by kernel_rfl) ⟨aI rfl rfl,trivial⟩ [⟨6,IsI 0⟩,⟨0,fun _ k=>DeskR { d with L:=setK d.L cap { x with Used:=u } } (DF b bl bt h T) (ptrV b) k⟩] (fun b q p=>⟨p.ou 0 6 rfl,Rsc.grow D p.grow,trivial⟩) ?_
  rintro a k ⟨⟨hg,hs,hd⟩,i6,D,_⟩
  refine wp_ret ?_
  exact retC1 rfl hd hg (show ResOk _ _ _ (.tmp 6) (Turn _ _ _ _ (IsV _)) from ⟨⟨_,D,Wr.self⟩,i6⟩)
theorem deskFree_ok {k0:K} {v1 v2:Value} {d:DeskV} {b bl bt:Nat} {h:Value} {T:List LT} {cap:ByteArray} {n:Int} {r:DeskV × Int} (D:DeskO d b bl bt h T k0) (i1:IsV cap v1 k0) (i2:IsV n v2 k0) (hr:deskFree d cap n = some r) :
    Calls Tryd.prog 29 #[ptrV b,v1,v2] k0.w (RetC (DF b bl bt h T) k0 (Turn r.1 (ptrV b) (DF b bl bt h T) k0 (IsV r.2))):=by
  unfold deskFree at hr
  rw [D.getL,findE_map] at hr
  refine enterK Tryd.func29 rfl Tryd.ntmps29 (show 3 ≤ 35 by decide) fun a k hk0 hs hd ha=>?_
  obtain ⟨e0,e1,e2,_⟩:=ha
  have i0:Is (ptrV b) (a.get 0) k:=e0
  replace i1:IsV cap (a.get 1) k:=by rw [e1,hk0]; exact i1
  replace i2:IsV n (a.get 2) k:=by rw [e2,hk0]; exact i2
  have hQ:Gb.LetsOut (bodyPost Tryd.prog Tryd.f29 (RetC (DF b bl bt h T) k0 (Turn r.1 (ptrV b) (DF b bl bt h T) k0 (IsV r.2)))):=letsOutC
  have hg:Chg (DF b bl bt h T) k0 k:=by rw [hk0]; exact Chg.refl _ k0
  replace D:DeskO d b bl bt h T k:=by rw [hk0]; exact D
  clear e0 e1 e2
  refine stepL 1 (⟨some (IsI 0),[]⟩::[]) rfl ⟨hg,hs,hd⟩ (by kernel_rfl) ⟨aI rfl rfl,trivial⟩ [⟨_,_⟩,⟨_,_⟩,⟨_,_⟩,⟨0,fun _ k=>DeskO d b bl bt h T k⟩] (fun b q p=>⟨p.ke 0 rfl i0,p.ke 1 rfl i1,p.ke 2 rfl i2,D.grow p.grow,trivial⟩) ?_
  clear i0 i1 i2 D
  rintro a k ⟨⟨hg,hs,hd⟩,i0,i1,i2,D,_⟩
  replace D:DeskO d b bl bt h T k:=D
  refine stepL 9 (_::_::_::⟨some (IsTup2 (Is (.pointer (findP (getK T cap) n))) (IsV (findE (getK T cap) n))),[(10,some 0),(11,some 1),(12,some 2)]⟩::_::⟨some (Is (.pointer (findP (getK T cap) n))),[(9,some 4)]⟩::⟨some (IsV (findE (getK T cap) n)),[(9,some 4)]⟩::_::_::[]) rfl ⟨hg,hs,hd⟩ (by kernel_rfl) ⟨mu rfl i0,mu rfl i1,mu rfl i2,ob1 rfl fun a' _ g n=>ok_call rfl Tryd.call44 (by show Calls Tryd.prog 44 #[a'.eval (.tmp 10),a'.eval (.tmp 11),a'.eval (.tmp 12)] _ _; rw [show a'.eval (.tmp 10) = ptrV b from n.1]; exact find_ok (D.grow g) n.2.1 n.2.2.1),cm 3 rfl rfl,ob1 rfl fun _ _ g n=>ok_ext2_0 rfl n.1,ob1 rfl fun _ _ g n=>ok_ext2_1 rfl n.1,cp 5 rfl rfl,cp 6 rfl rfl,trivial⟩ [⟨_,_⟩,⟨_,_⟩,⟨7,Is (.pointer (findP (getK T cap) n))⟩,⟨8,IsV (findE (getK T cap) n)⟩,⟨0,fun _ k=>DeskO d b bl bt h T k⟩] (fun b q p=>⟨p.ke 0 rfl i0,p.ke 2 rfl i2,p.ou 7 7 rfl,p.ou 8 8 rfl,D.grow p.grow,trivial⟩) ?_
  clear i0 i1 i2 D
  rintro a k ⟨⟨hg,hs,hd⟩,i0,i2,i7,i8,D,_⟩
  replace D:DeskO d b bl bt h T k:=D
  refine wp_seq ?_
  refine wp_block ?_
  refine stepL 3 (_::⟨some (IsV (findE (getK T cap) n != 0)),[(17,some 0)]⟩::_::[]) rfl ⟨hg,hs,hd⟩ (by kernel_rfl) ⟨mu rfl i8,ob1 rfl fun _ _ g n=>ok_neI rfl n.1 (cI rfl),cp 1 rfl rfl,trivial⟩ [⟨_,_⟩,⟨_,_⟩,⟨_,_⟩,⟨16,IsV (findE (getK T cap) n != 0)⟩,⟨0,fun _ k=>DeskO d b bl bt h T k⟩] (fun b q p=>⟨p.ke 2 rfl i2,p.ke 7 rfl i7,p.ke 8 rfl i8,p.ou 2 16 rfl,D.grow p.grow,trivial⟩) ?_
  clear i0 i2 i7 i8 D
  rintro a k ⟨⟨hg,hs,hd⟩,i2,i7,i8,i16,D,_⟩
  replace D:DeskO d b bl bt h T k:=D
  refine wp_cond_split (isBool i16) (fun hc=>?_) (fun hc=>?_)
  · rw [if_pos hc] at hr
    obtain rfl:=Option.some.inj hr
    refine stepL 2 (_::_::[]) rfl ⟨hg,hs,hd⟩ (by kernel_rfl) ⟨mu rfl i8,cp 0 rfl rfl,trivial⟩ [⟨6,IsV (findE (getK T cap) n)⟩,⟨0,fun _ k=>DeskO d b bl bt h T k⟩] (fun b q p=>⟨p.ou 1 6 rfl,D.grow p.grow,trivial⟩) ?_
    rintro a k ⟨⟨hg,hs,hd⟩,i6,D,_⟩
    replace D:DeskO d b bl bt h T k:=D
    refine wp_ret ?_
    exact retC1 rfl hd hg (show ResOk _ _ _ (.tmp 6) (Turn _ _ _ _ (IsV _)) from ⟨⟨_,D.r,Wr.self⟩,i6⟩)
  rw [if_neg (by rw [hc]; decide)] at hr
  have hE:findE (getK T cap) n = 0:=by simpa using hc
  obtain ⟨hw,⟨bi,x⟩,hT⟩:=findE_zero hE
  have hm:=getK_mem hT
  rw [hT] at hr
  simp only [Option.map_some] at hr
  have eP:findP (getK T cap) n = some ⟨bi,0,none⟩:=by unfold findP; rw [hw,hT]; rfl
  rw [eP] at i7
  replace i7:Is (ptrV bi) (a.get 7) k:=i7
  clear i8 i16 hc
  have P1 : ∀ {q},Grow k q → IsPtr x (ptrV bi) q:=fun g=>⟨_,rfl,((D.bx _ hm).grow g).at⟩
  refine wp_seq ?_
  refine cut (fun a' k'=>Bs (DF b bl bt h T) k0 35 a' k'∧IsV n (a'.get 2) k'∧Is (ptrV bi) (a'.get 7) k'∧IsV (decide (x.Used < n)) (a'.get 20) k'∧DeskO d b bl bt h T k') ?_ trivial ?_
  · intro Q1 W1 w1
    refine regionS (a0:=a) (k0:=k) (n:=35) (m:=7) (_::⟨some (Is (ptrV bi)),[(21,some 0)]⟩::⟨some (IsPtr x.Used),[(22,some 1)]⟩::⟨some (IsV x.Used),[(23,some 2)]⟩::_::⟨some (IsV (decide (x.Used < n))),[(24,some 3),(25,some 4)]⟩::_::[]) hs (by kernel_rfl) ⟨mu rfl i7,ob1 rfl fun _ _ g n=>ok_nilCheckV rfl ⟨_,n.1⟩ n.1,ob1 rfl fun a' _ g n=>ok_fieldAddr rfl fo43_3 (at_Lease_3 _) (by rw [show a'.eval (.tmp 22) = ptrV bi from n.1]; exact P1 g),ob1 rfl fun _ _ g n=>ok_load rfl ty3 n.1,mu rfl i2,ob1 rfl fun _ _ g n=>ok_lss rfl n.1 n.2.1,cp 5 rfl rfl,trivial⟩ W1 fun b q p=>?_
    exact tail_done (k:=q) (w1 _ _ ⟨Bs.post ⟨hg,hs,hd⟩ p,p.ke 2 rfl i2,p.ke 7 rfl i7,p.ou 6 20 rfl,D.grow p.grow⟩)
  clear i2 i7 D hg hs hd P1
  rintro a k ⟨⟨hg,hs,hd⟩,i2,i7,i20,D⟩
  have P1 : ∀ {q},Grow k q → IsPtr x (ptrV bi) q:=fun g=>⟨_,rfl,((D.bx _ hm).grow g).at⟩
  refine wp_cond_split (isBool i20) (fun hc=>?_) (fun hc=>?_)
  · rw [if_pos (of_decide_eq_true hc)] at hr
    obtain rfl:=Option.some.inj hr
    refine stepL 1 (⟨some (IsI 26),[]⟩::[]) rfl ⟨hg,hs,hd⟩ (by kernel_rfl) ⟨aI rfl rfl,trivial⟩ [⟨6,IsI 26⟩,⟨0,fun _ k=>DeskO d b bl bt h T k⟩] (fun b q p=>⟨p.ou 0 6 rfl,D.grow p.grow,trivial⟩) ?_
    rintro a k ⟨⟨hg,hs,hd⟩,i6,D,_⟩
    replace D:DeskO d b bl bt h T k:=D
    refine wp_ret ?_
    exact retC1 rfl hd hg (show ResOk _ _ _ (.tmp 6) (Turn _ _ _ _ (IsV _)) from ⟨⟨_,D.r,Wr.self⟩,i6⟩)
  rw [if_neg (of_decide_eq_false hc)] at hr
  refine wp_skip ?_
  obtain ⟨u,hu,hr⟩:=bind_some hr
  obtain rfl:=Option.some.inj hr
  refine wp_seq ?_
  refine cut (fun a' k'=>Bs (DF b bl bt h T) k0 35 a' k'∧DeskR { d with L:=setK d.L cap { x with Used:=u } } (DF b bl bt h T) (ptrV b) k') ?_ hQ ?_
  · intro Q1 W1 w1
    refine gS 8 (_::⟨some (Is (ptrV bi)),[(27,some 0)]⟩::⟨some (IsPtr x.Used),[(28,some 1)]⟩::⟨some (IsV x.Used),[(29,some 2)]⟩::_::⟨some (IsV u),[(30,some 3),(31,some 4)]⟩::⟨some (Is (ptrV bi)),[(27,some 0)]⟩::⟨some (IsAdr bi 3),[(33,some 6)]⟩::[]) hs (by kernel_rfl) ⟨mu rfl i7,ob1 rfl fun _ _ g n=>ok_nilCheckV rfl ⟨_,n.1⟩ n.1,ob1 rfl fun a' _ g n=>ok_fieldAddr rfl fo43_3 (at_Lease_3 _) (by rw [show a'.eval (.tmp 28) = ptrV bi from n.1]; exact P1 g),ob1 rfl fun _ _ g n=>ok_load rfl ty3 n.1,mu rfl i2,ob1 rfl fun _ _ g n=>ok_sub rfl n.1 n.2.1 hu,ob1 rfl fun _ _ g n=>ok_nilCheckV rfl ⟨_,n.1⟩ n.1,ob1 rfl fun _ _ g n=>ok_fieldAdr rfl fo43_3 n.1,trivial⟩ W1 fun b' q p=>?_
    have hgq:=hg.then p.grow
    have Dq:=D.grow p.grow
    have ju:IsV u (b'.get 32) q:=p.ou 5 32 rfl
    have jp:IsAdr bi 3 (b'.get 34) q:=p.ou 7 34 rfl
    refine tail_storeB (i:=8) rfl rfl rfl rfl szf3 upd_F43_3 jp (Dq.bx _ hm) ju fun q2 hch hz=>?_
    obtain ⟨D2,eF,_⟩:=Dq.turn hT hch hz
    have hw' : Wr (DF b bl bt h T) k0 (Eq bi):=fun c e=>.inl (.inl (e ▸ mem_T hm))
    exact tail_done (k := q2) (w1 _ _ ⟨⟨hgq.step hch hw', p.size.trans hs, p.defers.trans hd⟩, eF ▸ D2.r⟩)
  clear i2 i7 i20 D hg hs hd P1
  rintro a k ⟨⟨hg,hs,hd⟩,D⟩
  refine stepL 1 (⟨some (IsI 0),[]⟩::[]) rfl ⟨hg,hs,hd⟩ (by kernel_rfl) ⟨aI rfl rfl,trivial⟩ [⟨6,IsI 0⟩,⟨0,fun _ k=>DeskR { d with L:=setK d.L cap { x with Used:=u } } (DF b bl bt h T) (ptrV b) k⟩] (fun b q p=>⟨p.ou 0 6 rfl,Rsc.grow D p.grow,trivial⟩) ?_
  rintro a k ⟨⟨hg,hs,hd⟩,i6,D,_⟩
  refine wp_ret ?_
  exact retC1 rfl hd hg (show ResOk _ _ _ (.tmp 6) (Turn _ _ _ _ (IsV _)) from ⟨⟨_,D,Wr.self⟩,i6⟩)

end Go.Proofs.YtljfakcblkdhbaaDoor

namespace Go.Proofs.YtljfakcblkdhbaaDoor
open Go.Gb
set_option linter.unusedVariables false
set_option linter.unusedSimpArgs false
set_option linter.unusedSectionVars false
set_option maxRecDepth 100000
abbrev zP:Portion:=⟨(⟨#[]⟩:ByteArray),0,0,0,0⟩
theorem resCell {x:Nat} {a:Act} {k:K} {b8:Nat} {y:Portion} (hp:a.get x = ptrV b8) (hb:Box b8 y k):ResOk Tryd.prog a k (.cell x 47) (IsV y):=by
  obtain ⟨v,h1,h2⟩:=run_loadVar' ty47 hb.at
  exact ⟨_,v,hp,h1,h2⟩
theorem turn2 {fn:Func} {r s:ResultVar} {F:FP} {k k' : K} {a:Act} {d' : DeskV} {u:Value} {R S:Pred} (hr:fn.results = #[r,s]) (hd:a.defers = []) (hg:Chg F k k') (h:ResOk Tryd.prog a k' r R) (g:ResOk Tryd.prog a k' s S) (ht : ∃ G,DeskR d' G u k'∧Wr F k G) :
    bodyPost Tryd.prog fn (RetC F k (Turn d' u F k (IsTup2 R S))) .ret a k'.w:=by
  obtain ⟨v,hv,hR⟩:=resOk_run h
  obtain ⟨u,hu,hS⟩:=resOk_run g
  refine ⟨hd, .tuple #[v, u], ?_, k', rfl, hg, ht, v, u, rfl, hR, hS⟩
  simp only [results_eq,hr]
  simp [hv,hu]
theorem turn3 {fn:Func} {r s t:ResultVar} {F:FP} {k k' : K} {a:Act} {d' : DeskV} {u:Value} {R S U:Pred} (hr:fn.results = #[r,s,t]) (hd:a.defers = []) (hg:Chg F k k') (h:ResOk Tryd.prog a k' r R) (g:ResOk Tryd.prog a k' s S) (f:ResOk Tryd.prog a k' t U) (ht : ∃ G,DeskR d' G u k'∧Wr F k G) :
    bodyPost Tryd.prog fn (RetC F k (Turn d' u F k (IsTup3 R S U))) .ret a k'.w:=by
  obtain ⟨v,hv,hR⟩:=resOk_run h
  obtain ⟨u,hu,hS⟩:=resOk_run g
  obtain ⟨z,hz,hU⟩:=resOk_run f
  refine ⟨hd, .tuple #[v, u, z], ?_, k', rfl, hg, ht, v, u, z, rfl, hR, hS, hU⟩
  simp only [results_eq,hr]
  simp [hv,hu,hz]
theorem counter_eq (n:Int):lease_counter n = some (decide (0 ≤ n) && decide (n ≤ 7)):=rfl
section
variable {d d' : DeskV} {b bl bt:Nat} {h h' : Value} {T:List LT} {k k' : K}
theorem DeskO.recell (D:DeskO d b bl bt h T k) (g:Chg (Eq b) k k') (hL:d'.L = d.L) (ht:d'.taken = d.taken) (hb:Box b (⟨dcells d' bl bt h'⟩:RawC 5) k') (ho:IsOwn 0 47 d'.out h' k') (hn : ∀ c ∈ dbl b bl bt T,¬ obF h' c):DeskO d' b bl bt h' T k':=by
  have hsh : ∀ c,b = c → ¬ k.sh c:=fun c e=>e ▸ D.box.own
  have hnd:=D.nd
  simp only [dbl,List.nodup_cons,List.mem_cons,List.mem_map,not_or] at hnd
  obtain ⟨⟨hb1,hb2,hb3⟩,_,_,_⟩:=hnd
  exact ⟨hb,D.ml.keep g (fun e=>hb1 e),fun t ht=>(D.bx t ht).keep g (fun e=>hb3 ⟨t,ht,e.symm⟩) hsh,ho,by rw [ht]; exact D.mt.keep g (fun e=>hb2 e),by rw [hL]; exact D.eL,D.nk,D.nd,hn⟩
end
theorem Is.int {x:Int} {v:Value} {k:K} (h:Is (.int .i64 x) v k):IsV x v k:=isV_int.2 h
theorem ok_loadI {P:Program} {o:Oper} {a:Act} {k:K} {b n off:Nat} {cs:List Value} {x:Int} {t:TypeId} {p:Operand} (ho:o.op = .load t p) (ht:Ty P t RawV) (hp:IsAdr b off (a.eval p) k) (hb:Box b (⟨cs⟩:RawC n) k) (hw:cs[off]? = some (.int .i64 x)):Does P o a k (IsV x):=
  does_weak (ok_loadC ho ht hp hb hw) fun _ _ _ h=>Is.int h
def deskSend (d:DeskV) (cap:ByteArray) (to n:Int):Option (DeskV × Portion × Int):=
  if (!(decide (0 ≤ to) && decide (to ≤ 7))) || to == d.counter then some (d,zP,1) else
  if findE (getK d.L cap) n != 0 then some (d,zP,findE (getK d.L cap) n) else
  match getK d.L cap with
  | some x => (subI x.Held x.Used).bind fun l => if l < n then some (d, zP, 26) else (subI x.Held n).bind fun u => (addI d.sent 1).bind fun s =>
    (appI d.out [(⟨cap,d.counter,to,s,n⟩:Portion)]).bind fun o=>some ({ d with L:=setK d.L cap { x with Held:=u },sent:=s,out:=o },⟨cap,d.counter,to,s,n⟩,0)
  | none=>none
theorem deskSend_ok {k0:K} {v1 v2 v3:Value} {d:DeskV} {b bl bt:Nat} {h:Value} {T:List LT} {cap:ByteArray} {to n:Int} {r:DeskV × Portion × Int} (D:DeskO d b bl bt h T k0) (i1:IsV cap v1 k0) (i2:IsV to v2 k0) (i3:IsV n v3 k0) (hr:deskSend d cap to n = some r) :
    Calls Tryd.prog 22 #[ptrV b,v1,v2,v3] k0.w (RetC (DF b bl bt h T) k0 (Turn r.1 (ptrV b) (DF b bl bt h T) k0 (IsTup2 (IsV r.2.1) (IsV r.2.2)))):=by
  unfold deskSend at hr
  rw [D.getL,findE_map] at hr
  refine enterK Tryd.func22 rfl Tryd.ntmps22 (show 4 ≤ 88 by decide) fun a k hk0 hs hd ha=>?_
  obtain ⟨e0,e1,e2,e3,_⟩:=ha
  have i0:Is (ptrV b) (a.get 0) k:=e0
  replace i1:IsV cap (a.get 1) k:=by rw [e1,hk0]; exact i1
  replace i2:IsV to (a.get 2) k:=by rw [e2,hk0]; exact i2
  replace i3:IsV n (a.get 3) k:=by rw [e3,hk0]; exact i3
  have hQ:Gb.LetsOut (bodyPost Tryd.prog Tryd.f22 (RetC (DF b bl bt h T) k0 (Turn r.1 (ptrV b) (DF b bl bt h T) k0 (IsTup2 (IsV r.2.1) (IsV r.2.2))))):=letsOutC
  have hg:Chg (DF b bl bt h T) k0 k:=by rw [hk0]; exact Chg.refl _ k0
  have hlt0 : ∀ c,DF b bl bt h T c → c < k0.w.heap.size:=D.lt
  replace D:DeskO d b bl bt h T k:=by rw [hk0]; exact D
  clear e0 e1 e2 e3
  have fin : ∀ {a : Act} {k : K} {d' : DeskV} {G : FP} {p : Portion} {e : Int} {b8 : Nat}, Bs (DF b bl bt h T) k0 88 a k → DeskR d' G (ptrV b) k → Wr (DF b bl bt h T) k0 G → a.get 8 = ptrV b8 → Box b8 p k → IsV e (a.get 9) k → r = (d', p, e) → bodyPost Tryd.prog Tryd.f22 (RetC (DF b bl bt h T) k0 (Turn r.1 (ptrV b) (DF b bl bt h T) k0 (IsTup2 (IsV r.2.1) (IsV r.2.2)))) .ret a k.w := by
    intro a k d' G p e b8 hB hD hG e8 hb i9 er
    subst er
    exact turn2 rfl hB.d hB.g (resCell e8 hb) i9 ⟨G,hD,hG⟩
  refine wp_seq ?_
  refine cut (fun a' k'=>∃ b8,Bs (DF b bl bt h T) k0 88 a' k'∧Is (ptrV b) (a'.get 0) k'∧IsV cap (a'.get 1) k'∧IsV to (a'.get 2) k'∧IsV n (a'.get 3) k'∧a'.get 8 = ptrV b8∧Box b8 zP k'∧k0.w.heap.size ≤ b8∧DeskO d b bl bt h T k') ?_ hQ ?_
  · intro Q1 W1 w1
    refine gS 2 (⟨some (IsBox k.w.heap.size zP),[]⟩::⟨some (IsI 0),[]⟩::[]) hs (by kernel_rfl) ⟨ob1 rfl fun _ _ g n=>ok_alloc _ g.size rfl z47,aI rfl rfl,trivial⟩ W1 fun b q p=>?_
    obtain ⟨b8,e8,lo8,z8⟩:IsBox k.w.heap.size zP (b.get 8) q:=p.ou 0 8 rfl
    exact tail_done (k:=q) (w1 _ _ ⟨b8,Bs.post ⟨hg,hs,hd⟩ p,p.ke 0 rfl i0,p.ke 1 rfl i1,p.ke 2 rfl i2,p.ke 3 rfl i3,e8,z8,Nat.le_trans hg.size lo8,D.grow p.grow⟩)
  clear i0 i1 i2 i3 D hg hs hd
  rintro a k ⟨b8,⟨hg,hs,hd⟩,i0,i1,i2,i3,e8,z8,lo8,D⟩
  have hn8 : ¬ DF b bl bt h T b8:=fun hc=>by have:=hlt0 b8 hc; omega
  generalize hcc:((!(decide (0 ≤ to) && decide (to ≤ 7))) || to == d.counter) = cc at hr
  refine wp_seq ?_
  refine wp_seq ?_
  refine cut (fun a' k'=>Bs (DF b bl bt h T) k0 88 a' k'∧Is (ptrV b) (a'.get 0) k'∧IsV cap (a'.get 1) k'∧IsV to (a'.get 2) k'∧IsV n (a'.get 3) k'∧Is (ptrV b8) (a'.get 8) k'∧Box b8 zP k'∧DeskO d b bl bt h T k'∧IsV cc (a'.get 23) k') ?_ hQ ?_
  · intro Q1 W1 w1
    have i8:Is (ptrV b8) (a.get 8) k:=e8
    cases hm:(decide (0 ≤ to) && decide (to ≤ 7)) with
    | true =>
      refine gS 11 (_::⟨some (IsV (decide (0 ≤ to) && decide (to ≤ 7))),[(13,some 0)]⟩::⟨some (IsV (!(decide (0 ≤ to) && decide (to ≤ 7)))),[(14,some 1)]⟩::_::⟨some (IsV to),[(2,none)]⟩::⟨some (Is (ptrV b)),[(0,none)]⟩::⟨some (Is (ptrV b)),[(18,some 5)]⟩::⟨some (IsAdr b 0),[(19,some 6)]⟩::⟨some (IsV d.counter),[(20,some 7)]⟩::⟨some (IsV (to == d.counter)),[(17,some 4),(21,some 8)]⟩::⟨some (IsV cc),[(16,some 3),(22,some 9)]⟩::[]) hs (by kernel_rfl)
        ⟨mu rfl i2,ob1 rfl fun _ _ g n=>ok_call rfl Tryd.call42 (lease_counter_ok n.1 (counter_eq _)),ob1 rfl fun _ _ g n=>ok_not rfl n.1,cm 2 rfl rfl,
        ⟨inferInstance,.inl ⟨fun b q hk hn=>ok_move rfl (up i2 hk hn.1),guardF (by rw [hm]; rfl)⟩⟩,⟨inferInstance,.inl ⟨fun b q hk hn=>ok_move rfl (up i0 hk hn.1),guardF (by rw [hm]; rfl)⟩⟩,⟨inferInstance,.inl ⟨fun b q hk hn=>ok_nilCheckV rfl ⟨_,hn.1⟩ hn.1,guardF (by rw [hm]; rfl)⟩⟩,⟨inferInstance,.inl ⟨fun b q hk hn=>ok_fieldAdr rfl fo70_0 hn.1,guardF (by rw [hm]; rfl)⟩⟩,⟨inferInstance,.inl ⟨fun b q hk hn=>ok_loadI rfl ty3r hn.1 (D.grow hk).box rfl,guardF (by rw [hm]; rfl)⟩⟩,⟨inferInstance,.inl ⟨fun b q hk hn=>ok_eqI rfl hn.1 hn.2.1,guardF (by rw [hm]; rfl)⟩⟩,
        ob1 rfl fun b q hk hn=>ok_cast (by rw [← hcc,hm]; rfl) (ok_pick_f rfl hn.1 (by rw [hm]; rfl) hn.2.1),trivial⟩ W1 fun b q p=>?_
      exact tail_done (k:=q) (w1 _ _ ⟨Bs.post ⟨hg,hs,hd⟩ p,p.ke 0 rfl i0,p.ke 1 rfl i1,p.ke 2 rfl i2,p.ke 3 rfl i3,p.ke 8 rfl i8,z8.grow p.grow,D.grow p.grow,p.ou 10 23 rfl⟩)
    | false =>
      refine gS 11 (_::⟨some (IsV (decide (0 ≤ to) && decide (to ≤ 7))),[(13,some 0)]⟩::⟨some (IsV (!(decide (0 ≤ to) && decide (to ≤ 7)))),[(14,some 1)]⟩::_::⟨none,[]⟩::⟨none,[]⟩::⟨none,[]⟩::⟨none,[]⟩::⟨none,[]⟩::⟨none,[]⟩::⟨some (IsV cc),[(16,some 3)]⟩::[]) hs (by kernel_rfl)
        ⟨mu rfl i2,ob1 rfl fun _ _ g n=>ok_call rfl Tryd.call42 (lease_counter_ok n.1 (counter_eq _)),ob1 rfl fun _ _ g n=>ok_not rfl n.1,cm 2 rfl rfl,
        guardT (by rw [hm]; rfl),guardT (by rw [hm]; rfl),guardT (by rw [hm]; rfl),guardT (by rw [hm]; rfl),guardT (by rw [hm]; rfl),guardT (by rw [hm]; rfl),
        ob1 rfl fun b q hk hn=>ok_cast (by rw [← hcc,hm]; rfl) (ok_pick_t rfl hn.1 (by rw [hm]; rfl) (isV_bool.2 rfl)),trivial⟩ W1 fun b q p=>?_
      exact tail_done (k:=q) (w1 _ _ ⟨Bs.post ⟨hg,hs,hd⟩ p,p.ke 0 rfl i0,p.ke 1 rfl i1,p.ke 2 rfl i2,p.ke 3 rfl i3,p.ke 8 rfl i8,z8.grow p.grow,D.grow p.grow,p.ou 10 23 rfl⟩)
  clear i0 i1 i2 i3 D hg hs hd e8 z8
  rintro a k ⟨⟨hg,hs,hd⟩,i0,i1,i2,i3,i8,z8,D,i23⟩
  have ap8 : ∀ {x y:FP},True:=fun {_ _}=>trivial
  have out8 : ∀ {k k' : K} {y:Portion},Box b8 y k → DeskO d b bl bt h T k → Chg (Eq b8) k k' → DeskO d b bl bt h T k':=fun hb D g=>D.keep g (fun c hc e=>hn8 (e ▸ hc)) (fun c e=>e ▸ hb.own)
  have w8:Wr (DF b bl bt h T) k0 (Eq b8):=fun c e=>.inr (e ▸ lo8)
  refine wp_cond_split (isBool i23) (fun hc=>?_) (fun hc=>?_)
  · rw [if_pos hc] at hr
    obtain rfl:=Option.some.inj hr
    refine wp_seq ?_
    refine cut (fun a' k'=>Bs (DF b bl bt h T) k0 88 a' k'∧Is (ptrV b8) (a'.get 8) k'∧Box b8 zP k'∧DeskO d b bl bt h T k'∧IsV (1:Int) (a'.get 9) k') ?_ hQ ?_
    · intro Q1 W1 w1
      refine gS 1 (⟨some (IsV zP),[]⟩::[]) hs (by kernel_rfl) ⟨ob1 rfl fun _ _ g n=>ok_build (ps:=[]) rfl bld47_,trivial⟩ W1 fun b' q p=>?_
      have hgq:=hg.then p.grow
      have z8q:=z8.grow p.grow
      have Dq:=D.grow p.grow
      have e8:b'.get 8 = ptrV b8:=(p.old 8 rfl).trans i8
      have j24:IsV zP (b'.get 24) q:=p.ou 0 24 rfl
      refine tail_storeB (i:=1) rfl rfl rfl rfl szf47 (Upd.self (α:=Portion)) e8 z8q j24 fun q2 hch hz=>?_
      refine tail_assign (i:=2) (d:=9) rfl rfl (.inl rfl) rfl (by rw [p.size,hs]; decide) fun b3 hsz3 hdf3 e3 hoth3=>?_
      exact tail_done (k:=q2) (w1 _ _ ⟨⟨hgq.step hch w8,by rw [hsz3,p.size,hs],by rw [hdf3,p.defers,hd]⟩,(hoth3 8 (by decide)).trans e8,hz,out8 z8q Dq hch,isV_int.2 e3⟩)
    rintro a k ⟨hB,i8,z8,D,i9⟩
    refine wp_ret ?_
    exact fin hB D.r Wr.self i8 z8 i9 rfl
  rw [if_neg (by rw [hc]; decide)] at hr
  refine wp_skip ?_
  refine stepL 9 (_::_::_::⟨some (IsTup2 (Is (.pointer (findP (getK T cap) n))) (IsV (findE (getK T cap) n))),[(26,some 0),(27,some 1),(28,some 2)]⟩::_::⟨some (Is (.pointer (findP (getK T cap) n))),[(25,some 4)]⟩::⟨some (IsV (findE (getK T cap) n)),[(25,some 4)]⟩::_::_::[]) rfl ⟨hg,hs,hd⟩ (by kernel_rfl) ⟨mu rfl i0,mu rfl i1,mu rfl i3,ob1 rfl fun a' _ g n=>ok_call rfl Tryd.call44 (by show Calls Tryd.prog 44 #[a'.eval (.tmp 26),a'.eval (.tmp 27),a'.eval (.tmp 28)] _ _; rw [show a'.eval (.tmp 26) = ptrV b from n.1]; exact find_ok (D.grow g) n.2.1 n.2.2.1),cm 3 rfl rfl,ob1 rfl fun _ _ g n=>ok_ext2_0 rfl n.1,ob1 rfl fun _ _ g n=>ok_ext2_1 rfl n.1,cp 5 rfl rfl,cp 6 rfl rfl,trivial⟩ [⟨_,_⟩,⟨_,_⟩,⟨_,_⟩,⟨_,_⟩,⟨_,_⟩,⟨10,Is (.pointer (findP (getK T cap) n))⟩,⟨11,IsV (findE (getK T cap) n)⟩,⟨0,fun _ k=>DeskO d b bl bt h T k∧Box b8 zP k⟩] (fun b q p=>⟨p.ke 0 rfl i0,p.ke 1 rfl i1,p.ke 2 rfl i2,p.ke 3 rfl i3,p.ke 8 rfl i8,p.ou 7 10 rfl,p.ou 8 11 rfl,⟨D.grow p.grow,z8.grow p.grow⟩,trivial⟩) ?_
  clear i0 i1 i2 i3 i8 i23 D z8 hg hs hd
  rintro a k ⟨⟨hg,hs,hd⟩,i0,i1,i2,i3,i8,i10,i11,⟨D,z8⟩,_⟩
  refine wp_seq ?_
  refine wp_block ?_
  refine stepL 3 (_::⟨some (IsV (findE (getK T cap) n != 0)),[(33,some 0)]⟩::_::[]) rfl ⟨hg,hs,hd⟩ (by kernel_rfl) ⟨mu rfl i11,ob1 rfl fun _ _ g n=>ok_neI rfl n.1 (cI rfl),cp 1 rfl rfl,trivial⟩ [⟨_,_⟩,⟨_,_⟩,⟨_,_⟩,⟨_,_⟩,⟨_,_⟩,⟨_,_⟩,⟨_,_⟩,⟨32,IsV (findE (getK T cap) n != 0)⟩,⟨0,fun _ k=>DeskO d b bl bt h T k∧Box b8 zP k⟩] (fun b q p=>⟨p.ke 0 rfl i0,p.ke 1 rfl i1,p.ke 2 rfl i2,p.ke 3 rfl i3,p.ke 8 rfl i8,p.ke 10 rfl i10,p.ke 11 rfl i11,p.ou 2 32 rfl,⟨D.grow p.grow,z8.grow p.grow⟩,trivial⟩) ?_
  clear i0 i1 i2 i3 i8 i10 i11 D z8 hg hs hd hc
  rintro a k ⟨⟨hg,hs,hd⟩,i0,i1,i2,i3,i8,i10,i11,i32,⟨D,z8⟩,_⟩
  refine wp_cond_split (isBool i32) (fun hc=>?_) (fun hc=>?_)
  · rw [if_pos hc] at hr
    obtain rfl:=Option.some.inj hr
    refine wp_seq ?_
    refine cut (fun a' k'=>Bs (DF b bl bt h T) k0 88 a' k'∧Is (ptrV b8) (a'.get 8) k'∧Box b8 zP k'∧DeskO d b bl bt h T k'∧IsV (findE (getK T cap) n) (a'.get 9) k') ?_ trivial ?_
    · intro Q1 W1 w1
      refine gS 2 (⟨some (IsV zP),[]⟩::_::[]) hs (by kernel_rfl) ⟨ob1 rfl fun _ _ g n=>ok_build (ps:=[]) rfl bld47_,mu rfl i11,trivial⟩ W1 fun b' q p=>?_
      have hgq:=hg.then p.grow
      have z8q:=z8.grow p.grow
      have Dq:=D.grow p.grow
      have e8:b'.get 8 = ptrV b8:=(p.old 8 rfl).trans i8
      have j35:IsV zP (b'.get 35) q:=p.ou 0 35 rfl
      have j36:IsV (findE (getK T cap) n) (b'.get 36) q:=p.ou 1 36 rfl
      refine tail_storeB (i:=2) rfl rfl rfl rfl szf47 (Upd.self (α:=Portion)) e8 z8q j35 fun q2 hch hz=>?_
      refine tail_assign (i:=3) (d:=9) rfl rfl (.inl rfl) rfl (by rw [p.size,hs]; decide) fun b3 hsz3 hdf3 e3 hoth3=>?_
      exact tail_done (k:=q2) (w1 _ _ ⟨⟨hgq.step hch w8,by rw [hsz3,p.size,hs],by rw [hdf3,p.defers,hd]⟩,(hoth3 8 (by decide)).trans e8,hz,out8 z8q Dq hch,isV_int.2 (e3.trans (isV_int.1 j36))⟩)
    rintro a k ⟨hB,i8,z8,D,i9⟩
    refine wp_ret ?_
    exact fin hB D.r Wr.self i8 z8 i9 rfl
  rw [if_neg (by rw [hc]; decide)] at hr
  have hE:findE (getK T cap) n = 0:=by simpa using hc
  obtain ⟨hw,⟨bi,x⟩,hT⟩:=findE_zero hE
  have hm:=getK_mem hT
  rw [hT] at hr
  simp only [Option.map_some] at hr
  have eP:findP (getK T cap) n = some ⟨bi,0,none⟩:=by unfold findP; rw [hw,hT]; rfl
  rw [eP] at i10
  replace i10:Is (ptrV bi) (a.get 10) k:=i10
  clear i11 i32 hc
  have P1 : ∀ {q},Grow k q → IsPtr x (ptrV bi) q:=fun g=>⟨_,rfl,((D.bx _ hm).grow g).at⟩
  obtain ⟨l,hl,hr⟩:=bind_some hr
  refine wp_seq ?_
  refine cut (fun a' k'=>Bs (DF b bl bt h T) k0 88 a' k'∧Is (ptrV b) (a'.get 0) k'∧IsV cap (a'.get 1) k'∧IsV to (a'.get 2) k'∧IsV n (a'.get 3) k'∧Is (ptrV b8) (a'.get 8) k'∧Is (ptrV bi) (a'.get 10) k'∧Box b8 zP k'∧DeskO d b bl bt h T k'∧IsV (decide (l < n)) (a'.get 37) k') ?_ trivial ?_
  · intro Q1 W1 w1
    refine region (a0:=a) (k0:=k) (n:=88) (m:=12) (_::⟨some (Is (ptrV bi)),[(38,some 0)]⟩::⟨some (IsPtr x.Held),[(39,some 1)]⟩::⟨some (IsV x.Held),[(40,some 2)]⟩::_::⟨some (Is (ptrV bi)),[(42,some 4)]⟩::⟨some (IsPtr x.Used),[(43,some 5)]⟩::⟨some (IsV x.Used),[(44,some 6)]⟩::⟨some (IsV l),[(41,some 3),(45,some 7)]⟩::_::⟨some (IsV (decide (l < n))),[(46,some 8),(47,some 9)]⟩::_::[]) hmix hs (by kernel_rfl) ⟨mu rfl i10,ob1 rfl fun _ _ g n=>ok_nilCheckV rfl ⟨_,n.1⟩ n.1,ob1 rfl fun a' _ g n=>ok_fieldAddr rfl fo43_2 (at_Lease_2 _) (by rw [show a'.eval (.tmp 39) = ptrV bi from n.1]; exact P1 g),ob1 rfl fun _ _ g n=>ok_load rfl ty3 n.1,
      mu rfl i10,ob1 rfl fun _ _ g n=>ok_nilCheckV rfl ⟨_,n.1⟩ n.1,ob1 rfl fun a' _ g n=>ok_fieldAddr rfl fo43_3 (at_Lease_3 _) (by rw [show a'.eval (.tmp 43) = ptrV bi from n.1]; exact P1 g),ob1 rfl fun _ _ g n=>ok_load rfl ty3 n.1,ob1 rfl fun _ _ g n=>ok_sub rfl n.1 n.2.1 hl,mu rfl i3,ob1 rfl fun _ _ g n=>ok_lss rfl n.1 n.2.1,cp 10 rfl rfl,trivial⟩ W1 fun b q p=>?_
    exact tail_done (k:=q) (w1 _ _ ⟨Bs.post ⟨hg,hs,hd⟩ p,p.ke 0 rfl i0,p.ke 1 rfl i1,p.ke 2 rfl i2,p.ke 3 rfl i3,p.ke 8 rfl i8,p.ke 10 rfl i10,z8.grow p.grow,D.grow p.grow,p.ou 11 37 rfl⟩)
  clear i0 i1 i2 i3 i8 i10 D z8 hg hs hd P1
  rintro a k ⟨⟨hg,hs,hd⟩,i0,i1,i2,i3,i8,i10,z8,D,i37⟩
  refine wp_cond_split (isBool i37) (fun hc=>?_) (fun hc=>?_)
  · rw [if_pos (of_decide_eq_true hc)] at hr
    obtain rfl:=Option.some.inj hr
    refine wp_seq ?_
    refine cut (fun a' k'=>Bs (DF b bl bt h T) k0 88 a' k'∧Is (ptrV b8) (a'.get 8) k'∧Box b8 zP k'∧DeskO d b bl bt h T k'∧IsV (26:Int) (a'.get 9) k') ?_ trivial ?_
    · intro Q1 W1 w1
      refine gS 1 (⟨some (IsV zP),[]⟩::[]) hs (by kernel_rfl) ⟨ob1 rfl fun _ _ g n=>ok_build (ps:=[]) rfl bld47_,trivial⟩ W1 fun b' q p=>?_
      have hgq:=hg.then p.grow
      have z8q:=z8.grow p.grow
      have Dq:=D.grow p.grow
      have e8:b'.get 8 = ptrV b8:=(p.old 8 rfl).trans i8
      have j49:IsV zP (b'.get 49) q:=p.ou 0 49 rfl
      refine tail_storeB (i:=1) rfl rfl rfl rfl szf47 (Upd.self (α:=Portion)) e8 z8q j49 fun q2 hch hz=>?_
      refine tail_assign (i:=2) (d:=9) rfl rfl (.inl rfl) rfl (by rw [p.size,hs]; decide) fun b3 hsz3 hdf3 e3 hoth3=>?_
      exact tail_done (k:=q2) (w1 _ _ ⟨⟨hgq.step hch w8,by rw [hsz3,p.size,hs],by rw [hdf3,p.defers,hd]⟩,(hoth3 8 (by decide)).trans e8,hz,out8 z8q Dq hch,isV_int.2 e3⟩)
    rintro a k ⟨hB,i8,z8,D,i9⟩
    refine wp_ret ?_
    exact fin hB D.r Wr.self i8 z8 i9 rfl
  rw [if_neg (of_decide_eq_false hc)] at hr
  refine wp_skip ?_
  obtain ⟨u,hu,hr⟩:=bind_some hr
  obtain ⟨s,hs1,hr⟩:=bind_some hr
  obtain ⟨o,ho,hr⟩:=bind_some hr
  obtain rfl:=Option.some.inj hr
  clear i37 hc
  have P1 : ∀ {q},Grow k q → IsPtr x (ptrV bi) q:=fun g=>⟨_,rfl,((D.bx _ hm).grow g).at⟩
  refine wp_seq ?_
  refine cut (fun a' k' => ∃ T', DF b bl bt h T' = DF b bl bt h T ∧ dbl b bl bt T' = dbl b bl bt T ∧ Bs (DF b bl bt h T) k0 88 a' k' ∧ Is (ptrV b) (a'.get 0) k' ∧ IsV cap (a'.get 1) k' ∧ IsV to (a'.get 2) k' ∧ IsV n (a'.get 3) k' ∧ Is (ptrV b8) (a'.get 8) k' ∧ Box b8 zP k' ∧ DeskO { d with L := setK d.L cap { x with Held := u } } b bl bt h T' k') ?_ hQ ?_
  · intro Q1 W1 w1
    refine gS 8 (_::⟨some (Is (ptrV bi)),[(50,some 0)]⟩::⟨some (IsPtr x.Held),[(51,some 1)]⟩::⟨some (IsV x.Held),[(52,some 2)]⟩::_::⟨some (IsV u),[(53,some 3),(54,some 4)]⟩::⟨some (Is (ptrV bi)),[(50,some 0)]⟩::⟨some (IsAdr bi 2),[(56,some 6)]⟩::[]) hs (by kernel_rfl) ⟨mu rfl i10,ob1 rfl fun _ _ g n=>ok_nilCheckV rfl ⟨_,n.1⟩ n.1,ob1 rfl fun a' _ g n=>ok_fieldAddr rfl fo43_2 (at_Lease_2 _) (by rw [show a'.eval (.tmp 51) = ptrV bi from n.1]; exact P1 g),ob1 rfl fun _ _ g n=>ok_load rfl ty3 n.1,mu rfl i3,ob1 rfl fun _ _ g n=>ok_sub rfl n.1 n.2.1 hu,ob1 rfl fun _ _ g n=>ok_nilCheckV rfl ⟨_,n.1⟩ n.1,ob1 rfl fun _ _ g n=>ok_fieldAdr rfl fo43_2 n.1,trivial⟩ W1 fun b' q p=>?_
    have hgq:=hg.then p.grow
    have Dq:=D.grow p.grow
    have z8q:=z8.grow p.grow
    have ju:IsV u (b'.get 55) q:=p.ou 5 55 rfl
    have jp:IsAdr bi 2 (b'.get 57) q:=p.ou 7 57 rfl
    have l0:=p.ke 0 rfl i0
    have l1:=p.ke 1 rfl i1
    have l2:=p.ke 2 rfl i2
    have l3:=p.ke 3 rfl i3
    have l8:=p.ke 8 rfl i8
    refine tail_storeB (i:=8) rfl rfl rfl rfl szf3 upd_F43_2 jp (Dq.bx _ hm) ju fun q2 hch hz=>?_
    obtain ⟨D2,eF,eD⟩:=Dq.turn hT hch hz
    have hw' : Wr (DF b bl bt h T) k0 (Eq bi):=fun c e=>.inl (.inl (e ▸ mem_T hm))
    have hnb : ∀ c,bi = c → ¬ q.sh c:=fun c e=>e ▸ (Dq.bx _ hm).own
    have z82:=z8q.keep hch (fun e=>hn8 (.inl (e ▸ mem_T hm))) hnb
    exact tail_done (k := q2) (w1 _ _ ⟨_, eF, eD, ⟨hgq.step hch hw', p.size.trans hs, p.defers.trans hd⟩, l0, isV_str.2 (isV_str.1 l1), isV_int.2 (isV_int.1 l2), isV_int.2 (isV_int.1 l3), l8, z82, D2⟩)
  clear i0 i1 i2 i3 i8 i10 D z8 hg hs hd P1
  rintro a k ⟨T', eF, eD, ⟨hg, hs, hd⟩, i0, i1, i2, i3, i8, z8, D⟩
  have wb:Wr (DF b bl bt h T) k0 (Eq b):=fun c e=>.inl (.inl (e ▸ mem_b))
  refine wp_seq ?_
  refine cut (fun a' k'=>Bs (DF b bl bt h T) k0 88 a' k'∧Is (ptrV b) (a'.get 0) k'∧IsV cap (a'.get 1) k'∧IsV to (a'.get 2) k'∧IsV n (a'.get 3) k'∧Is (ptrV b8) (a'.get 8) k'∧Box b8 zP k'∧DeskO { d with L:=setK d.L cap { x with Held:=u },sent:=s } b bl bt h T' k') ?_ hQ ?_
  · intro Q1 W1 w1
    refine gS 7 (_::⟨some (Is (ptrV b)),[(58,some 0)]⟩::⟨some (IsAdr b 3),[(59,some 1)]⟩::⟨some (IsV d.sent),[(60,some 2)]⟩::⟨some (IsV s),[(61,some 3)]⟩::⟨some (Is (ptrV b)),[(58,some 0)]⟩::⟨some (IsAdr b 3),[(63,some 5)]⟩::[]) hs (by kernel_rfl) ⟨mu rfl i0,ob1 rfl fun _ _ g n=>ok_nilCheckV rfl ⟨_,n.1⟩ n.1,ob1 rfl fun _ _ g n=>ok_fieldAdr rfl fo70_3 n.1,ob1 rfl fun _ _ g n=>ok_loadI rfl ty3r n.1 (D.grow g).box rfl,ob1 rfl fun _ _ g n=>ok_add rfl n.1 (cI rfl) hs1,ob1 rfl fun _ _ g n=>ok_nilCheckV rfl ⟨_,n.1⟩ n.1,ob1 rfl fun _ _ g n=>ok_fieldAdr rfl fo70_3 n.1,trivial⟩ W1 fun b' q p=>?_
    have hgq:=hg.then p.grow
    have Dq:=D.grow p.grow
    have z8q:=z8.grow p.grow
    have ju:IsV s (b'.get 62) q:=p.ou 4 62 rfl
    have jp:IsAdr b 3 (b'.get 64) q:=p.ou 6 64 rfl
    have l0:=p.ke 0 rfl i0
    have l1:=p.ke 1 rfl i1
    have l2:=p.ke 2 rfl i2
    have l3:=p.ke 3 rfl i3
    have l8:=p.ke 8 rfl i8
    refine tail_storeC (i:=7) (off:=3) (w:=.int .i64 s) rfl rfl rfl rfl (by kernel_rfl) (by decide) jp Dq.box (isV_int.1 ju) rfl fun q2 hch hz=>?_
    have D2:=Dq.recell (d':={ d with L:=setK d.L cap { x with Held:=u },sent:=s }) hch rfl rfl hz (Dq.out.keep hch (fun c hc e=>Dq.nh b mem_b (e ▸ hc)) (fun c e=>e ▸ Dq.box.own)) Dq.nh
    have z82:=z8q.keep hch (fun e=>hn8 (.inl (e ▸ mem_b))) (fun c e=>e ▸ Dq.box.own)
    exact tail_done (k:=q2) (w1 _ _ ⟨⟨hgq.step hch wb,p.size.trans hs,p.defers.trans hd⟩,l0,isV_str.2 (isV_str.1 l1),isV_int.2 (isV_int.1 l2),isV_int.2 (isV_int.1 l3),l8,z82,D2⟩)
  clear i0 i1 i2 i3 i8 D z8 hg hs hd
  rintro a k ⟨⟨hg,hs,hd⟩,i0,i1,i2,i3,i8,z8,D⟩
  generalize hd' : ({ d with L:=setK d.L cap { x with Held:=u },sent:=s }:DeskV) = d' at D
  have ec:d'.counter = d.counter:=by rw [← hd']
  have es:d'.sent = s:=by rw [← hd']
  have eo:d'.out = d.out:=by rw [← hd']
  rw [← eo] at ho
  have hn8' : ¬ DF b bl bt h T' b8:=by rw [eF]; exact hn8
  refine wp_seq ?_
  refine cut (fun a' k'=>Bs (DF b bl bt h T) k0 88 a' k'∧Is (ptrV b) (a'.get 0) k'∧Is (ptrV b8) (a'.get 8) k'∧IsRef (⟨cap,d.counter,to,s,n⟩:Portion) (a'.get 12) k'∧Box b8 zP k'∧DeskO d' b bl bt h T' k') ?_ hQ ?_
  · intro Q1 W1 w1
    refine region (a0:=a) (k0:=k) (n:=88) (m:=13) (_::_::⟨some (Is (ptrV b)),[(66,some 1)]⟩::⟨some (IsAdr b 0),[(67,some 2)]⟩::⟨some (IsV d.counter),[(68,some 3)]⟩::_::_::⟨some (Is (ptrV b)),[(71,some 6)]⟩::⟨some (IsAdr b 3),[(72,some 7)]⟩::⟨some (IsV s),[(73,some 8)]⟩::_::⟨some (IsV (⟨cap,d.counter,to,s,n⟩:Portion)),[(65,some 0),(69,some 4),(70,some 5),(74,some 9),(75,some 10)]⟩::⟨some (IsBox k.w.heap.size zP),[]⟩::[]) hmix hs (by kernel_rfl) ⟨mu rfl i1,mu rfl i0,ob1 rfl fun _ _ g n=>ok_nilCheckV rfl ⟨_,n.1⟩ n.1,ob1 rfl fun _ _ g n=>ok_fieldAdr rfl fo70_0 n.1,ob1 rfl fun _ _ g n=>by rw [← ec]; exact ok_loadI rfl ty3r n.1 (D.grow g).box rfl,mu rfl i2,mu rfl i0,ob1 rfl fun _ _ g n=>ok_nilCheckV rfl ⟨_,n.1⟩ n.1,ob1 rfl fun _ _ g n=>ok_fieldAdr rfl fo70_3 n.1,ob1 rfl fun _ _ g n=>by rw [← es]; exact ok_loadI rfl ty3r n.1 (D.grow g).box rfl,mu rfl i3,
      ob1 rfl fun _ _ g n=>ok_build rfl (bld47_0_1_2_3_4 n.1 n.2.1 n.2.2.1 n.2.2.2.1 n.2.2.2.2.1),ob1 rfl fun _ _ g n=>ok_alloc _ g.size rfl z47,trivial⟩ W1 fun b' q p=>?_
    obtain ⟨b12,j12,x12,z12⟩:IsBox k.w.heap.size zP (b'.get 12) q:=p.ou 12 12 rfl
    have j76:IsV (⟨cap,d.counter,to,s,n⟩:Portion) (b'.get 76) q:=p.ou 11 76 rfl
    have hgq:=hg.then p.grow
    have Dq:=D.grow p.grow
    have z8q:=z8.grow p.grow
    have l0:=p.ke 0 rfl i0
    have l8:=p.ke 8 rfl i8
    have hns:=z12.nshF
    have hlo:Lo k (Eq b12):=Lo.eq x12
    have hap:Apart (DF b bl bt h T') (Eq b12):=fun c hc e=>by have:=D.lt c hc; omega
    have h812 : ¬ b12 = b8:=fun e=>by have:=z8.lt; omega
    refine tail_storeB (i:=13) rfl rfl rfl rfl szf47 (Upd.self (α:=Portion)) j12 z12 j76 fun q2 hch hz=>?_
    have D2:=Dq.keep hch hap hns
    have z82:=z8q.keep hch h812 hns
    obtain ⟨q3,hsh,jn⟩:=hz.give
    have hgq2:=(hgq.step hch (hlo.chg hg).wr).hand hsh (hlo.chg hg).wr
    rw [← hsh.w]
    exact tail_done (k:=q3) (w1 _ _ ⟨⟨hgq2,p.size.trans hs,p.defers.trans hd⟩,l0,l8,by rw [j12]; exact jn,z82.handed hsh h812,D2.handed hsh hap⟩)
  clear i0 i1 i2 i3 i8 D z8 hg hs hd
  rintro a k ⟨⟨hg,hs,hd⟩,i0,i8,i12,z8,D⟩
  generalize hp:(⟨cap,d.counter,to,s,n⟩:Portion) = pp at ho i12
  refine wp_seq ?_
  refine cut (fun a' k'=>∃ G,Bs (DF b bl bt h T) k0 88 a' k'∧Is (ptrV b8) (a'.get 8) k'∧IsRef pp (a'.get 12) k'∧Box b8 zP k'∧DeskR { d' with out:=o } G (ptrV b) k'∧Wr (DF b bl bt h T) k0 G∧¬ G b8) ?_ hQ ?_
  · intro Q1 W1 w1
    refine region_mid (a0:=a) (k0:=k) (n:=88) (m:=7) (⟨some (Is (ptrV b)),[(0,none)]⟩::⟨some (Is (ptrV b)),[(0,none)]⟩::⟨some (Is (ptrV b)),[(78,some 1)]⟩::⟨some (IsAdr b 2),[(79,some 2)]⟩::⟨some (OwnAt h 0 47 d'.out),[(80,some 3)]⟩::⟨some (IsV pp),[(12,none)]⟩::⟨some (IsV [pp]),[(82,some 5)]⟩::[]) [0] [7,8,9,10] hmix hs (by kernel_rfl) ⟨mu rfl i0,mu rfl i0,ob1 rfl fun _ _ g n=>ok_nilCheckV rfl ⟨_,n.1⟩ n.1,ob1 rfl fun _ _ g n=>ok_fieldAdr rfl fo70_2 n.1,ob1 rfl fun _ _ g n=>does_weak (ok_loadC rfl ty28r n.1 (D.grow g).box rfl) fun v k' g' hv=>⟨hv,by rw [show v = h from hv]; exact Mono.mono (g.trans g') D.out⟩,ob1 rfl fun _ _ g n=>ok_load rfl ty47 (up i12 g n.1).ptr,ob1 rfl fun _ _ g n=>ok_buildSlice rfl Tryd.underlying28 eo47 rfl (by decide) (by decide) ⟨rfl,n.1,trivial⟩,trivial⟩ W1 ?_ fun b' q p=>?_
    · intro l hl hlm e he
      simp only [List.mem_cons,List.not_mem_nil,or_false] at hl
      subst hl
      obtain rfl:=Option.some.inj he
      exact ⟨_,rfl,fun k g=>i0⟩
    have hgq:=hg.then p.grow
    have hsb:=p.size.trans hs
    have Dq:=D.grow p.grow
    have z8q:=z8.grow p.grow
    have j77:b'.get 77 = ptrV b:=p.val 0 77 _ _ (by decide) rfl rfl
    have j81:OwnAt h 0 47 d'.out (b'.get 81) q:=p.val 4 81 _ _ (by decide) rfl rfl
    have j83:IsV [pp] (b'.get 83) q:=p.val 6 83 _ _ (by decide) rfl rfl
    have l8:b'.get 8 = ptrV b8:=(p.old 8 rfl).trans i8
    have l12:IsRef pp (b'.get 12) q:=by rw [p.old 12 rfl]; exact Mono.mono p.grow i12
    have eh:b'.eval (.tmp 81) = h:=j81.1
    refine tail_appendS (i:=7) (d:=84) rfl rfl rfl rfl (by rw [hsb]; decide) (e:=47) Tryd.underlying28 eo47 j81.2 (IsV.rd j83) ho fun b2 q2 hsz hdf hoth hch hown hob=>?_
    rw [eh] at hch hob
    have hnh : ∀ c,obF h c → ¬ q.sh c:=Dq.out.nshF
    have wh:Wr (DF b bl bt h T) k0 (obF h):=fun c hc=>.inl (.inr hc)
    -- the desk but for its list
    have box2:=Dq.box.keep hch (Dq.nh b mem_b) hnh
    have D2a:MapC kS bl (T'.map lkv) q2:=Dq.ml.keep hch (Dq.nh bl mem_bl)
    have D2b : ∀ t ∈ T', Box t.2.1 t.2.2 q2 := fun t ht => (Dq.bx t ht).keep hch (Dq.nh _ (mem_T ht)) hnh
    have D2c:MapB kK bt (d'.taken.map tkv) q2:=Dq.mt.keep hch (Dq.nh bt mem_bt)
    have z82:=z8q.keep hch (fun hc=>hn8' (.inr hc)) hnh
    have l12':=Pers.pers (hch.le hnh) l12
    have hnew : ∀ c ∈ dbl b bl bt T', ¬ obF (b2.get 84) c := fun c hc hc' => (hob c hc').elim (Dq.nh c hc) (fun h => by have := Dq.lt c (.inl hc); omega)
    have hgq2:=hgq.step hch wh
    refine tail_does (i:=8) (d:=85) (R:=Is (ptrV b)) rfl rfl rfl (by rw [hsz,hsb]; decide) W1 (ok_nilCheckV rfl ⟨_,(hoth 77 (by decide)).trans j77⟩ ((hoth 77 (by decide)).trans j77)) fun b3 q3 hsz3 hdf3 hoth3 hg3 j85=>?_
    refine tail_does (i:=9) (d:=86) (R:=IsAdr b 2) rfl rfl rfl (by rw [hsz3,hsz,hsb]; decide) W1 (ok_fieldAdr rfl fo70_2 j85) fun b4 q4 hsz4 hdf4 hoth4 hg4 j86=>?_
    have hg34:=hg3.trans hg4
    have box4:=box2.grow hg34
    have e84:b4.get 84 = b2.get 84:=(hoth4 84 (by decide)).trans (hoth3 84 (by decide))
    have hown4:IsOwn 0 47 o (b2.get 84) q4:=Mono.mono hg34 hown
    refine tail_storeC (i:=10) (off:=2) (w:=b2.get 84) rfl rfl rfl rfl (by kernel_rfl) (by decide) j86 box4 e84 (own_one hown) fun q5 hch5 hz5=>?_
    have hnd:=Dq.nd
    simp only [dbl,List.nodup_cons,List.mem_cons,List.mem_map,not_or] at hnd
    obtain ⟨⟨hb1,hb2,hb3⟩,_,_,_⟩:=hnd
    have hsh5 : ∀ c,b = c → ¬ q4.sh c:=fun c e=>e ▸ box4.own
    have D5:DeskO { d' with out:=o } b bl bt (b2.get 84) T' q5:=
      ⟨hz5,(D2a.grow hg34).keep hch5 (fun e=>hb1 e),fun t ht=>((D2b t ht).grow hg34).keep hch5 (fun e=>hb3 ⟨t,ht,e.symm⟩) hsh5,hown4.keep hch5 (fun c hc e=>hnew b mem_b (e ▸ hc)) hsh5,(D2c.keep (Chg.of (F:=noF) hg34) (fun f=>f)).keep hch5 (fun e=>hb2 e),Dq.eL,Dq.nk,Dq.nd,hnew⟩
    have hle:=hch5.le hsh5
    refine tail_done (k := q5) (w1 _ _ ⟨DF b bl bt (b2.get 84) T', ⟨(hgq2.then hg34).step hch5 wb, by rw [hsz4, hsz3, hsz, hsb], by rw [hdf4, hdf3, hdf, p.defers, hd]⟩, ?_, ?_, (z82.grow hg34).keep hch5 (fun e => hn8' (.inl (e ▸ mem_b))) hsh5, ⟨b, bl, bt, _, T', rfl, D5, rfl⟩, fun c hc => ?_, fun hc => ?_⟩)
    · show b4.get 8 = _
      rw [hoth4 8 (by decide),hoth3 8 (by decide),hoth 8 (by decide)]; exact l8
    · rw [hoth4 12 (by decide), hoth3 12 (by decide), hoth 12 (by decide)]
      exact Pers.pers hle (Mono.mono hg34 l12')
    · rcases hc with hc | hc
      · exact .inl (.inl (eD ▸ hc))
      · rcases hob c hc with hc | hc
        · exact .inl (.inr hc)
        · exact .inr (Nat.le_trans hgq.size hc)
    · rcases hc with hc | hc
      · exact hn8' (.inl hc)
      · rcases hob _ hc with hc | hc
        · exact hn8' (.inr hc)
        · have:=z8q.lt; omega
  clear i0 i8 i12 D z8 hg hs hd
  rintro a k ⟨G,⟨hg,hs,hd⟩,i8,i12,z8,D,hG,hG8⟩
  refine wp_seq ?_
  refine cut (fun a' k'=>Bs (DF b bl bt h T) k0 88 a' k'∧Is (ptrV b8) (a'.get 8) k'∧Box b8 pp k'∧DeskR { d' with out:=o } G (ptrV b) k'∧IsV (0:Int) (a'.get 9) k') ?_ hQ ?_
  · intro Q1 W1 w1
    refine gS 1 (⟨some (IsV pp),[(12,none)]⟩::[]) hs (by kernel_rfl) ⟨ob1 rfl fun _ _ g n=>ok_load rfl ty47 (up i12 g n.1).ptr,trivial⟩ W1 fun b' q p=>?_
    have hgq:=hg.then p.grow
    have z8q:=z8.grow p.grow
    have Dq:=Rsc.grow D p.grow
    have e8:b'.get 8 = ptrV b8:=(p.old 8 rfl).trans i8
    have j87:IsV pp (b'.get 87) q:=p.ou 0 87 rfl
    have hns:=z8q.nshF
    refine tail_storeB (i:=1) rfl rfl rfl rfl szf47 (Upd.self (α:=Portion)) e8 z8q j87 fun q2 hch hz=>?_
    refine tail_assign (i:=2) (d:=9) rfl rfl (.inl rfl) rfl (by rw [p.size,hs]; decide) fun b3 hsz3 hdf3 e3 hoth3=>?_
    exact tail_done (k:=q2) (w1 _ _ ⟨⟨hgq.step hch w8,by rw [hsz3,p.size,hs],by rw [hdf3,p.defers,hd]⟩,(hoth3 8 (by decide)).trans e8,hz,Rsc.keep Dq hch (fun c hc e=>hG8 (e ▸ hc)) hns,isV_int.2 e3⟩)
  rintro a k ⟨hB,i8,z8,D,i9⟩
  refine wp_ret ?_
  subst hp hd'
  exact fin hB D hG i8 z8 i9 rfl

end Go.Proofs.YtljfakcblkdhbaaDoor

namespace Go.Proofs.YtljfakcblkdhbaaDoor
open Go.Gb
set_option linter.unusedVariables false
set_option linter.unusedSimpArgs false
set_option linter.unusedSectionVars false
set_option maxRecDepth 100000
theorem ok_lenM {P:Program} {o:Oper} {a:Act} {k:K} {κ:Type} {kv:κ → Value} {t kt et:TypeId} {x:Operand} {ts:Array TypeId} {b:Nat} {l:List (κ × Value)} (ho:o.op = .call { callee:=.builtin .len,args:=#[x],argTypes:=ts }) (h0:ts[0]? = some t)
    (hu:P.underlying t = some (.map kt et)) (hx:a.eval x = .map (some b)) (h:MapB kv b l k):Does P o a k (IsV (l.length:Int)):=by
  obtain ⟨_,es,clk,hh,hr⟩:=h
  have hl:es.size = l.length:=by have:=congrArg List.length hr; simpa using this
  refine does_pure (v:=.int .i64 l.length) ?_ (isV_int.2 rfl)
  simp [execOp,ho,resolve,invoke,builtin,hx,Builtin.len_,h0,run_underlying hu,MapKept.run_getObj_map (P:=P) hh,goInt,hl]
theorem isV_key {x:LeaseKey} {v:Value} {k:K} (h:IsV x v k):v = kK x:=by
  obtain ⟨cs,e,r⟩:=h
  have hl:=Enc.len r
  obtain ⟨u0,u1,rfl⟩:=len2 hl
  obtain ⟨_,q0,q1⟩:=r
  have q0:u0 = .int .i64 x.from_:=hd1 (show [u0] = [.int .i64 x.from_] from q0)
  have q1:u1 = .int .i64 x.number:=hd1 (show [u1] = [.int .i64 x.number] from q1)
  rw [e,q0,q1]; rfl
theorem cloneR_ok {k0:K} {v0:Value} {xs:List Portion} (i0:Readable xs v0 k0) (hl:xs.length ≤ 1073741824):Calls Tryd.prog 37 #[v0] k0.w (Ret k0 (IsOwn k0.w.heap.size 47 xs)):=by
  refine Ret.ofC ?_
  refine enterK Tryd.func37 rfl Tryd.ntmps37 (show 1 ≤ 8 by decide) fun a k hk0 hs hd ha=>?_
  obtain ⟨e0,_⟩:=ha
  replace i0:Readable xs (a.get 0) k:=by rw [e0,hk0]; exact i0
  have hg:Chg noF k0 k:=by rw [hk0]; exact Chg.refl _ k0
  clear e0
  refine stepL 1 (⟨some IsE0,[]⟩::[]) rfl ⟨hg,hs,hd⟩ (by kernel_rfl) ⟨ob1 rfl fun b q h n=>ok_assign rfl isE0_nil,trivial⟩ [⟨0,Readable xs⟩] (fun b q p=>⟨p.ke 0 rfl i0,trivial⟩) ?_
  clear i0
  rintro a k ⟨⟨hg,hs,hd⟩,i0,_⟩
  refine wp_seq ?_
  refine stepL 2 (_::⟨some (IsNT xs),[(3,some 0)]⟩::[]) rfl ⟨hg,hs,hd⟩ (by kernel_rfl) ⟨mu rfl i0,ob1 rfl fun _ _ g n=>ok_eqNil rfl Tryd.underlying28 n.1,trivial⟩ [⟨_,_⟩,⟨4,IsNT xs⟩] (fun b q p=>⟨p.ke 0 rfl i0,p.ou 1 4 rfl,trivial⟩) ?_
  clear i0
  rintro a k ⟨⟨hg,hs,hd⟩,i0,i4,_⟩
  obtain ⟨c,hc,hc2⟩:=i4
  refine wp_cond_split hc (fun h1=>?_) (fun h1=>?_)
  · obtain rfl := hc2 h1
    refine stepL 1 (⟨some (Is (.slice none 0 0)),[]⟩::[]) rfl ⟨hg,hs,hd⟩ (by kernel_rfl) ⟨ob1 rfl fun b q h n=>ok_assign rfl rfl,trivial⟩ [⟨_,_⟩] (fun b q p=>⟨p.ou 0 2 rfl,trivial⟩) ?_
    rintro a k ⟨⟨hg,hs,hd⟩,i2,_⟩
    refine wp_ret ?_
    exact retC1 rfl hd hg (show ResOk _ _ _ (.tmp 2) (IsOwn _ 47 _) from .inl ⟨i2,rfl⟩)
  refine wp_skip ?_
  refine wp_seq ?_
  refine cut (fun a' k'=>Bs noF k0 8 a' k'∧IsOwn k0.w.heap.size 47 xs (a'.get 2) k') ?_ trivial ?_
  · intro Q1 W1 w1
    refine gS 4 (⟨some IsE0,[]⟩::_::⟨some (IsOwn k.w.heap.size 47 xs),[(5,some 0),(6,some 1)]⟩::_::[]) hs (by kernel_rfl) ⟨ob1 rfl fun _ _ h n=>ok_buildSlice0 rfl Tryd.underlying28 eo47,mu rfl i0,ob1 rfl fun _ _ h n=>ok_append0 rfl Tryd.underlying28 eo47 h.size n.1 n.2.1 (by unfold appI; rw [if_pos (by simpa using hl)]; rfl),cp 2 rfl rfl,trivial⟩ W1 fun b q p=>?_
    exact tail_done (k:=q) (w1 _ _ ⟨Bs.post ⟨hg,hs,hd⟩ p,(show IsOwn k.w.heap.size 47 xs (b.get 2) q from p.ou 3 2 rfl).weaken hg.size⟩)
  rintro a k ⟨⟨hg,hs,hd⟩,i2⟩
  refine wp_ret ?_
  exact retC1 rfl hd hg (show ResOk _ _ _ (.tmp 2) (IsOwn _ 47 _) from i2)

def deskPending (d:DeskV):Option (List Portion):=if d.out.length ≤ 1073741824 then some d.out else none
theorem deskPending_ok {k0:K} {d:DeskV} {b bl bt:Nat} {h:Value} {T:List LT} {r:List Portion} (D:DeskO d b bl bt h T k0) (hr:deskPending d = some r) :
    Calls Tryd.prog 12 #[ptrV b] k0.w (Ret k0 (IsV r)):=by
  unfold deskPending at hr
  split at hr
  rotate_left
  · simp at hr
  rename_i hl
  obtain rfl:=Option.some.inj hr
  refine Ret.ofC ?_
  refine enterK Tryd.func12 rfl Tryd.ntmps12 (show 1 ≤ 8 by decide) fun a k hk0 hs hd ha=>?_
  obtain ⟨e0,_⟩:=ha
  have i0:Is (ptrV b) (a.get 0) k:=e0
  have hg:Chg noF k0 k:=by rw [hk0]; exact Chg.refl _ k0
  replace D:DeskO d b bl bt h T k:=by rw [hk0]; exact D
  clear e0
  refine stepL 1 (⟨some IsE0,[]⟩::[]) rfl ⟨hg,hs,hd⟩ (by kernel_rfl) ⟨ob1 rfl fun b q h n=>ok_assign rfl isE0_nil,trivial⟩ [⟨_,_⟩,⟨0,fun _ k=>DeskO d b bl bt h T k⟩] (fun b q p=>⟨p.ke 0 rfl i0,D.grow p.grow,trivial⟩) ?_
  clear i0 D
  rintro a k ⟨⟨hg,hs,hd⟩,i0,D,_⟩
  replace D:DeskO d b bl bt h T k:=D
  refine wp_seq ?_
  refine cut (fun a' k'=>Bs noF k0 8 a' k'∧IsOwn k0.w.heap.size 47 d.out (a'.get 2) k') ?_ trivial ?_
  · intro Q1 W1 w1
    refine gS 6 (_::⟨some (Is (ptrV b)),[(3,some 0)]⟩::⟨some (IsAdr b 2),[(4,some 1)]⟩::⟨some (OwnAt h 0 47 d.out),[(5,some 2)]⟩::⟨some (IsOwn k.w.heap.size 47 d.out),[(6,some 3)]⟩::_::[]) hs (by kernel_rfl) ⟨mu rfl i0,ob1 rfl fun _ _ g n=>ok_nilCheckV rfl ⟨_,n.1⟩ n.1,ob1 rfl fun _ _ g n=>ok_fieldAdr rfl fo70_2 n.1,ob1 rfl fun _ _ g n=>does_weak (ok_loadC rfl ty28r n.1 (D.grow g).box rfl) fun v k' g' hv=>⟨hv,by rw [show v = h from hv]; exact Mono.mono (g.trans g') D.out⟩,ob1 rfl fun _ _ g n=>does_weak (ok_call rfl Tryd.call37 (cloneR_ok n.1.2.rd hl)) fun v k' g' hv=>hv.weaken g.size,cp 4 rfl rfl,trivial⟩ W1 fun b q p=>?_
    exact tail_done (k:=q) (w1 _ _ ⟨Bs.post ⟨hg,hs,hd⟩ p,(show IsOwn k.w.heap.size 47 d.out (b.get 2) q from p.ou 5 2 rfl).weaken hg.size⟩)
  rintro a k ⟨⟨hg,hs,hd⟩,i2⟩
  refine wp_ret ?_
  obtain ⟨k2,ew,hle,hg2,hv,_⟩:=i2.share hg.grow (Nat.le_refl _)
  rw [← ew]
  exact retC1 rfl hd (Chg.of hg2) (show ResOk _ _ _ (.tmp 2) (IsV _) from hv)

theorem zero4 : ∀ w,(zeroValue 4).run Tryd.prog w = .ok (.bool false) w:=fun w=>Tryd.zeroValue4 w
theorem tk_get (l:List (LeaseKey × Bool)) (x:LeaseKey):(getK (l.map tkv) x).getD (.bool false) = .bool ((getK l x).getD false):=by
  rw [show l.map tkv = l.map (fun t=>(t.1,Value.bool t.2)) from rfl,getK_map (fun y:Bool=>Value.bool y)]
  cases getK l x <;> rfl
def deskTook (d:DeskV) (from_ number:Int):Option Bool:=some ((getK d.taken ⟨from_,number⟩).getD false)
theorem deskTook_ok {k0:K} {v1 v2:Value} {d:DeskV} {b bl bt:Nat} {h:Value} {T:List LT} {f n:Int} {r:Bool} (D:DeskO d b bl bt h T k0) (i1:IsV f v1 k0) (i2:IsV n v2 k0) (hr:deskTook d f n = some r) :
    Calls Tryd.prog 19 #[ptrV b,v1,v2] k0.w (Ret k0 (IsV r)):=by
  obtain rfl:=Option.some.inj hr
  refine Ret.ofC ?_
  refine enterK Tryd.func19 rfl Tryd.ntmps19 (show 3 ≤ 15 by decide) fun a k hk0 hs hd ha=>?_
  obtain ⟨e0,e1,e2,_⟩:=ha
  have i0:Is (ptrV b) (a.get 0) k:=e0
  replace i1:IsV f (a.get 1) k:=by rw [e1,hk0]; exact i1
  replace i2:IsV n (a.get 2) k:=by rw [e2,hk0]; exact i2
  have hg:Chg noF k0 k:=by rw [hk0]; exact Chg.refl _ k0
  replace D:DeskO d b bl bt h T k:=by rw [hk0]; exact D
  clear e0 e1 e2
  refine stepL 1 (⟨some (IsV false),[]⟩::[]) rfl ⟨hg,hs,hd⟩ (by kernel_rfl) ⟨ob1 rfl fun b q h n=>ok_assign rfl (isV_bool.2 rfl),trivial⟩ [⟨_,_⟩,⟨_,_⟩,⟨_,_⟩,⟨0,fun _ k=>DeskO d b bl bt h T k⟩] (fun b q p=>⟨p.ke 0 rfl i0,p.ke 1 rfl i1,p.ke 2 rfl i2,D.grow p.grow,trivial⟩) ?_
  clear i0 i1 i2 D
  rintro a k ⟨⟨hg,hs,hd⟩,i0,i1,i2,D,_⟩
  replace D:DeskO d b bl bt h T k:=D
  refine stepL 9 (_::⟨some (Is (ptrV b)),[(7,some 0)]⟩::⟨some (IsAdr b 4),[(8,some 1)]⟩::⟨some (Is (.map (some bt))),[(9,some 2)]⟩::_::_::⟨some (IsV (⟨f,n⟩:LeaseKey)),[(11,some 4),(12,some 5)]⟩::⟨some (IsV ((getK d.taken ⟨f,n⟩).getD false)),[(10,some 3),(13,some 6)]⟩::_::[]) rfl ⟨hg,hs,hd⟩ (by kernel_rfl) ⟨mu rfl i0,ob1 rfl fun _ _ g n=>ok_nilCheckV rfl ⟨_,n.1⟩ n.1,ob1 rfl fun _ _ g n=>ok_fieldAdr rfl fo70_4 n.1,ob1 rfl fun _ _ g n=>ok_loadC rfl ty68r n.1 (D.grow g).box rfl,mu rfl i1,mu rfl i2,ob1 rfl fun _ _ g n=>ok_build rfl (bld81_0_1 n.1 n.2.1),ob1 rfl fun _ _ g n=>does_weak (ok_lookupM rfl key81 Tryd.underlying68 zero4 n.1 (isV_key n.2.1) (D.grow g).mt) fun v k' g' hv=>isV_bool.2 (by rw [show v = _ from hv,tk_get]),cp 7 rfl rfl,trivial⟩ [⟨_,_⟩] (fun b q p=>⟨p.ou 8 6 rfl,trivial⟩) ?_
  rintro a k ⟨⟨hg,hs,hd⟩,i6,_⟩
  refine wp_ret ?_
  exact retC1 rfl hd hg i6

end Go.Proofs.YtljfakcblkdhbaaDoor

namespace Go.Proofs.YtljfakcblkdhbaaDoor
open Go.Gb
set_option linter.unusedVariables false
set_option linter.unusedSimpArgs false
set_option linter.unusedSectionVars false
set_option maxRecDepth 100000
theorem setK_setK {γ:Type} {κ:Type} [DecidableEq κ] : ∀ (l:List (κ × γ)) (n:κ) (x y:γ),setK (setK l n x) n y = setK l n y
  | [],n,x,y=>by simp [setK]
  | (a, u) :: l, n, x, y => by
    simp only [setK]
    split
    · rename_i e; simp [setK,e]
    · rename_i e; simp only [setK,if_neg e,setK_setK l n x y]
theorem getK_setK' {γ:Type} {κ:Type} [DecidableEq κ] : ∀ (l:List (κ × γ)) (n:κ) (x:γ),getK (setK l n x) n = some x
  | [],n,x=>by simp [setK,getK]
  | (a, u) :: l, n, x => by
    simp only [setK]
    split
    · rename_i e; simp [getK,e]
    · rename_i e; simp only [getK,if_neg e,getK_setK' l n x]
theorem setK_none {γ:Type} {κ:Type} [DecidableEq κ] : ∀ {l:List (κ × γ)} {n:κ} (x:γ),getK l n = none → setK l n x = l ++ [(n,x)]
  | [],n,x,_=>rfl
  | (a, u) :: l, n, x, h => by
    simp only [getK] at h
    split at h
    · simp at h
    · rename_i e; simp only [setK,if_neg e,setK_none x h,List.cons_append]
def deskTake (d:DeskV) (p:Portion):Option (DeskV × Int):=
  if decide ((⟨p.From,p.Number⟩:LeaseKey) = ⟨-1,0⟩) || (getK d.taken ⟨p.From,p.Number⟩).getD false then some (d,0) else
  match getK d.L p.Cap with
  | none => if 30 ≤ (d.L.length : Int) then some (d, 6) else
    (addI 0 p.N).bind fun u=>some ({ d with L:=setK d.L p.Cap ⟨p.Cap,d.counter,u,0⟩,taken:=setK d.taken ⟨p.From,p.Number⟩ true },0)
  | some x => (addI x.Held p.N).bind fun u => if 1099511627776 < u then some (d, 6) else
    some ({ d with L:=setK d.L p.Cap { x with Held:=u },taken:=setK d.taken ⟨p.From,p.Number⟩ true },0)
/-- A new lease was laid into the map. -/
theorem DeskO.lay {d:DeskV} {b bl bt:Nat} {h:Value} {T:List LT} {k k' : K} {cap:ByteArray} {bi:Nat} {x:Lease} (D:DeskO d b bl bt h T k) (hc:getK T cap = none) (hx:Box bi x k) (hnew : ¬ DF b bl bt h T bi) (g:Chg (Eq bl) k k')
    (hm:MapC kS bl (setK (T.map lkv) cap (ptrV bi)) k'):DeskO { d with L:=setK d.L cap x } b bl bt h (T ++ [(cap,bi,x)]) k':=by
  have hsh : ∀ c,bl = c → ¬ k.sh c:=fun c e=>e ▸ D.ml.own
  have hnd:=D.nd
  have hnd2:=D.nd
  simp only [dbl,List.nodup_cons,List.mem_cons,List.mem_map,not_or] at hnd
  obtain ⟨⟨hb1,hb2,hb3⟩,⟨hl1,hl2⟩,ht1,hT⟩:=hnd
  have hgn:getK (T.map lkv) cap = none:=by rw [DeskO.get,hc]; rfl
  have hnL:getK d.L cap = none:=by rw [D.getL,hc]; rfl
  have hbi:bi ∉ dbl b bl bt T:=fun hc=>hnew (.inl hc)
  have hbh : ¬ obF h bi:=fun hc=>hnew (.inr hc)
  have hbk:=hx.keep g (fun e=>hbi (e ▸ mem_bl)) hsh
  refine ⟨D.box.keep g (fun e=>hb1 e.symm) hsh,?_,?_,D.out.keep g (fun c hc e=>D.nh bl mem_bl (e ▸ hc)) hsh,D.mt.keep g (fun e=>hl1 e),?_,?_,?_,?_⟩
  · rw [setK_none _ hgn] at hm
    simpa [lkv] using hm
  · intro t ht
    rcases List.mem_append.1 ht with ht | ht
    · exact (D.bx t ht).keep g (fun e=>hl2 ⟨t,ht,e.symm⟩) hsh
    · simp only [List.mem_singleton] at ht; subst ht; exact hbk
  · show setK d.L cap x = _
    rw [setK_none _ hnL,D.eL]; simp [lcv]
  · rw [List.map_append, List.nodup_append]
    refine ⟨D.nk,by simp,fun a ha c hc2 e=>?_⟩
    simp only [List.map_cons,List.map_nil,List.mem_singleton] at hc2
    obtain ⟨t,ht,rfl⟩:=List.mem_map.1 ha
    exact getK_none hc t ht (e.trans hc2)
  · have e : dbl b bl bt (T ++ [(cap, bi, x)]) = dbl b bl bt T ++ [bi] := by simp [dbl]
    rw [e,List.nodup_append]
    refine ⟨hnd2,by simp,fun a ha c hc2 e=>?_⟩
    simp only [List.mem_singleton] at hc2
    exact hbi (hc2 ▸ e ▸ ha)
  · have e : dbl b bl bt (T ++ [(cap, bi, x)]) = dbl b bl bt T ++ [bi] := by simp [dbl]
    rw [e]
    intro c hc2
    rcases List.mem_append.1 hc2 with hc2 | hc2
    · exact D.nh c hc2
    · simp only [List.mem_singleton] at hc2; subst hc2; exact hbh
theorem DF_lay {b bl bt:Nat} {h:Value} {T:List LT} {cap:ByteArray} {bi:Nat} {x:Lease} {c:Nat} (hc:DF b bl bt h (T ++ [(cap,bi,x)]) c):DF b bl bt h T c ∨ c = bi:=by
  rcases hc with hc | hc
  · have e : dbl b bl bt (T ++ [(cap, bi, x)]) = dbl b bl bt T ++ [bi] := by simp [dbl]
    rw [e] at hc
    rcases List.mem_append.1 hc with hc | hc
    · exact .inl (.inl hc)
    · exact .inr (by simpa using hc)
  · exact .inl (.inr hc)
theorem getK_lay {γ:Type} {κ:Type} [DecidableEq κ] : ∀ {l:List (κ × γ)} {n:κ} (x:γ),getK l n = none → getK (l ++ [(n,x)]) n = some x
  | [],n,x,_=>by simp [getK]
  | (a, u) :: l, n, x, h => by
    simp only [getK] at h
    split at h
    · simp at h
    · rename_i e; simp only [List.cons_append,getK,if_neg e,getK_lay x h]
/-- One more was taken. -/
theorem DeskO.took {d:DeskV} {b bl bt:Nat} {h:Value} {T:List LT} {k k' : K} {x:LeaseKey} (D:DeskO d b bl bt h T k) (g:Chg (Eq bt) k k') (hm:MapB kK bt (setK (d.taken.map tkv) x (.bool true)) k'):DeskO { d with taken:=setK d.taken x true } b bl bt h T k':=by
  have hsh : ∀ c,bt = c → ¬ k.sh c:=fun c e=>e ▸ D.mt.own
  have hnd:=D.nd
  simp only [dbl,List.nodup_cons,List.mem_cons,List.mem_map,not_or] at hnd
  obtain ⟨⟨hb1,hb2,hb3⟩,⟨hl1,hl2⟩,ht1,hT⟩:=hnd
  refine ⟨D.box.keep g (fun e=>hb2 e.symm) hsh,D.ml.keep g (fun e=>hl1 e.symm),fun t ht=>(D.bx t ht).keep g (fun e=>ht1 ⟨t,ht,e.symm⟩) hsh,D.out.keep g (fun c hc e=>D.nh bt mem_bt (e ▸ hc)) hsh,?_,D.eL,D.nk,D.nd,D.nh⟩
  have e:setK (d.taken.map tkv) x (.bool true) = (setK d.taken x true).map tkv:=setK_map (fun y:Bool=>Value.bool y) d.taken x true
  rw [← e]; exact hm
theorem cutR {P:Program} {x y:Code} {a:Act} {k:K} {Q:Exit → Act → World → Prop} (T:Act → K → Prop) (Rt:Act → K → Prop) 
    (h1 : ∀ Q' : Exit → Act → World → Prop, Gb.LetsOut Q' → (∀ a' k', T a' k' → Q' .normal a' k'.w) → (∀ a' k', Rt a' k' → Q' .ret a' k'.w) → x.wp P Q' a k.w)
    (h2 : ∀ a' k', T a' k' → y.wp P Q a' k'.w) (h3 : ∀ a' k', Rt a' k' → Q .ret a' k'.w) : (Code.seq x y).wp P Q a k.w :=
  wp_seq (h1 _ trivial h2 h3)
abbrev DX (d:DeskV) (b bl bt:Nat) (h:Value) (T:List LT):Nat × Pred:=⟨0,fun _ k=>DeskO d b bl bt h T k⟩

theorem deskTake_ok {k0:K} {v1:Value} {d:DeskV} {b bl bt:Nat} {h:Value} {T:List LT} {p_:Portion} {r:DeskV × Int} (hG:IsRef (⟨-1,0⟩:LeaseKey) (.pointer (some ⟨0,0,none⟩)) k0) (D:DeskO d b bl bt h T k0) (i1:IsV p_ v1 k0) (hr:deskTake d p_ = some r) :
    Calls Tryd.prog 41 #[ptrV b,v1] k0.w (RetC (DF b bl bt h T) k0 (Turn r.1 (ptrV b) (DF b bl bt h T) k0 (IsV r.2))):=by
  unfold deskTake at hr
  rw [D.getL] at hr
  refine enterK Tryd.func41 rfl Tryd.ntmps41 (show 2 ≤ 82 by decide) fun a k hk0 hs hd ha=>?_
  obtain ⟨e0,e1,_⟩:=ha
  have i0:Is (ptrV b) (a.get 0) k:=e0
  replace i1:IsV p_ (a.get 1) k:=by rw [e1,hk0]; exact i1
  have hQ:Gb.LetsOut (bodyPost Tryd.prog Tryd.f41 (RetC (DF b bl bt h T) k0 (Turn r.1 (ptrV b) (DF b bl bt h T) k0 (IsV r.2)))):=letsOutC
  have hg:Chg (DF b bl bt h T) k0 k:=by rw [hk0]; exact Chg.refl _ k0
  have hlt0 : ∀ c,DF b bl bt h T c → c < k0.w.heap.size:=D.lt
  replace D:DeskO d b bl bt h T k:=by rw [hk0]; exact D
  have hns0 : ∀ c,DF b bl bt h T c → ¬ k0.sh c:=by have:=D.nsh; rw [hk0] at this; exact this
  clear e0 e1
  have glob : ∀ {k:K},Chg (DF b bl bt h T) k0 k → IsRef (⟨-1,0⟩:LeaseKey) (.pointer (some ⟨0,0,none⟩)) k:=fun g=>Pers.pers (g.le hns0) hG
  refine stepL 2 (⟨some (IsRef p_),[(1,none)]⟩::⟨some (IsI 0),[]⟩::[]) rfl ⟨hg,hs,hd⟩ (by kernel_rfl) ⟨ob1 rfl fun _ _ g n=>ok_boxR rfl (up i1 g n.1),aI rfl rfl,trivial⟩ [⟨_,_⟩,⟨3,IsRef p_⟩,DX d b bl bt h T] (fun b q p=>⟨p.ke 0 rfl i0,p.ou 0 3 rfl,D.grow p.grow,trivial⟩) ?_
  clear i0 i1 D hg hs hd
  rintro a k ⟨⟨hg,hs,hd⟩,i0,i3,D,_⟩
  replace D:DeskO d b bl bt h T k:=D
  generalize hkey:(⟨p_.From,p_.Number⟩:LeaseKey) = key at hr
  refine wp_seq ?_
  refine cut (fun a' k'=>Bs (DF b bl bt h T) k0 82 a' k'∧Is (ptrV b) (a'.get 0) k'∧IsRef p_ (a'.get 3) k'∧IsRef key (a'.get 5) k'∧DeskO d b bl bt h T k') ?_ hQ ?_
  · intro Q1 W1 w1
    refine gS 6 (⟨some (IsPtr p_.From),[(3,none)]⟩::⟨some (IsV p_.From),[(7,some 0)]⟩::⟨some (IsPtr p_.Number),[(3,none)]⟩::⟨some (IsV p_.Number),[(9,some 2)]⟩::⟨some (IsV key),[(8,some 1),(10,some 3)]⟩::⟨some (IsBox k.w.heap.size (⟨0,0⟩:LeaseKey)),[]⟩::[]) hs (by kernel_rfl) ⟨ob1 rfl fun _ _ g n=>ok_fieldAddr rfl fo47_1 (at_Portion_1 _) (up i3 g n.1).ptr,ob1 rfl fun _ _ g n=>ok_load rfl ty3 n.1,ob1 rfl fun _ _ g n=>ok_fieldAddr rfl fo47_3 (at_Portion_3 _) (up i3 g n.1).ptr,ob1 rfl fun _ _ g n=>ok_load rfl ty3 n.1,ob1 rfl fun _ _ g n=>by rw [← hkey]; exact ok_build rfl (bld81_0_1 n.1 n.2.1),ob1 rfl fun _ _ g n=>ok_alloc _ g.size rfl z81,trivial⟩ W1 fun b' q p=>?_
    obtain ⟨b5,j5,x5,z5⟩:IsBox k.w.heap.size (⟨0,0⟩:LeaseKey) (b'.get 5) q:=p.ou 5 5 rfl
    have j11:IsV key (b'.get 11) q:=p.ou 4 11 rfl
    have hgq:=hg.then p.grow
    have Dq:=D.grow p.grow
    have l0:=p.ke 0 rfl i0
    have l3:=p.ke 3 rfl i3
    have hns:=z5.nshF
    have hlo:Lo k (Eq b5):=Lo.eq x5
    have hap:Apart (DF b bl bt h T) (Eq b5):=fun c hc e=>by have:=D.lt c hc; omega
    refine tail_storeB (i:=6) rfl rfl rfl rfl szf81 (Upd.self (α:=LeaseKey)) j5 z5 j11 fun q2 hch hz=>?_
    have D2:=Dq.keep hch hap hns
    have hle:=hch.le hns
    obtain ⟨q3,hsh,jn⟩:=hz.give
    have hgq2:=(hgq.step hch (hlo.chg hg).wr).hand hsh (hlo.chg hg).wr
    rw [← hsh.w]
    exact tail_done (k:=q3) (w1 _ _ ⟨⟨hgq2,p.size.trans hs,p.defers.trans hd⟩,l0,Pers.pers hsh.le (Pers.pers hle l3),by rw [j5]; exact jn,D2.handed hsh hap⟩)
  clear i0 i3 D hg hs hd
  rintro a k ⟨⟨hg,hs,hd⟩,i0,i3,i5,D⟩
  generalize hcc:(decide (key = (⟨-1,0⟩:LeaseKey)) || (getK d.taken key).getD false) = cc at hr
  have hGk:=glob hg
  refine wp_seq ?_
  refine wp_seq ?_
  refine cut (fun a' k'=>Bs (DF b bl bt h T) k0 82 a' k'∧Is (ptrV b) (a'.get 0) k'∧IsRef p_ (a'.get 3) k'∧IsRef key (a'.get 5) k'∧DeskO d b bl bt h T k'∧IsV cc (a'.get 22) k') ?_ hQ ?_
  · intro Q1 W1 w1
    cases hm:decide (key = (⟨-1,0⟩:LeaseKey)) with
    | false =>
      refine region (a0:=a) (k0:=k) (n:=82) (m:=11) (⟨some (IsV key),[(5,none)]⟩::⟨some (IsV (⟨-1,0⟩:LeaseKey)),[]⟩::⟨some (IsV (decide (key = (⟨-1,0⟩:LeaseKey)))),[(12,some 0),(13,some 1)]⟩::_::⟨some (Is (ptrV b)),[(0,none)]⟩::⟨some (Is (ptrV b)),[(16,some 4)]⟩::⟨some (IsAdr b 4),[(17,some 5)]⟩::⟨some (Is (.map (some bt))),[(18,some 6)]⟩::⟨some (IsV key),[(5,none)]⟩::⟨some (IsV ((getK d.taken key).getD false)),[(19,some 7),(20,some 8)]⟩::⟨some (IsV cc),[(15,some 3),(21,some 9)]⟩::[]) hmix hs (by kernel_rfl)
        ⟨ob1 rfl fun _ _ g n=>ok_load rfl ty81 (up i5 g n.1).ptr,ob1 rfl fun _ _ g n=>ok_load rfl ty81 (show IsPtr (⟨-1,0⟩:LeaseKey) (.pointer (some ⟨0,0,none⟩)) _ from (Mono.mono g hGk:IsRef _ _ _).ptr),ob1 rfl fun _ _ g n=>ok_eqA rfl eq81 n.1 n.2.1,cm 2 rfl rfl,
        ⟨inferInstance,.inl ⟨fun b q hk hn=>ok_move rfl (up i0 hk hn.1),guardF hm⟩⟩,⟨inferInstance,.inl ⟨fun b q hk hn=>ok_nilCheckV rfl ⟨_,hn.1⟩ hn.1,guardF hm⟩⟩,⟨inferInstance,.inl ⟨fun b q hk hn=>ok_fieldAdr rfl fo70_4 hn.1,guardF hm⟩⟩,⟨inferInstance,.inl ⟨fun b q hk hn=>ok_loadC rfl ty68r hn.1 (D.grow hk).box rfl,guardF hm⟩⟩,⟨inferInstance,.inl ⟨fun b q hk hn=>ok_load rfl ty81 (up i5 hk hn.1).ptr,guardF hm⟩⟩,⟨inferInstance,.inl ⟨fun b q hk hn=>does_weak (ok_lookupM rfl key81 Tryd.underlying68 zero4 hn.1 (isV_key hn.2.1) (D.grow hk).mt) fun v k' g' hv=>isV_bool.2 (by rw [show v = _ from hv,tk_get]),guardF hm⟩⟩,
        ob1 rfl fun b q hk hn=>ok_cast (by rw [← hcc,hm]; rfl) (ok_pick_f rfl hn.1 hm hn.2.1),trivial⟩ W1 fun b q p=>?_
      exact tail_done (k:=q) (w1 _ _ ⟨Bs.post ⟨hg,hs,hd⟩ p,p.ke 0 rfl i0,p.ke 3 rfl i3,p.ke 5 rfl i5,D.grow p.grow,p.ou 10 22 rfl⟩)
    | true =>
      refine region (a0:=a) (k0:=k) (n:=82) (m:=11) (⟨some (IsV key),[(5,none)]⟩::⟨some (IsV (⟨-1,0⟩:LeaseKey)),[]⟩::⟨some (IsV (decide (key = (⟨-1,0⟩:LeaseKey)))),[(12,some 0),(13,some 1)]⟩::_::⟨none,[]⟩::⟨none,[]⟩::⟨none,[]⟩::⟨none,[]⟩::⟨none,[]⟩::⟨none,[]⟩::⟨some (IsV cc),[(15,some 3)]⟩::[]) hmix hs (by kernel_rfl)
        ⟨ob1 rfl fun _ _ g n=>ok_load rfl ty81 (up i5 g n.1).ptr,ob1 rfl fun _ _ g n=>ok_load rfl ty81 (show IsPtr (⟨-1,0⟩:LeaseKey) (.pointer (some ⟨0,0,none⟩)) _ from (Mono.mono g hGk:IsRef _ _ _).ptr),ob1 rfl fun _ _ g n=>ok_eqA rfl eq81 n.1 n.2.1,cm 2 rfl rfl,
        guardT hm,guardT hm,guardT hm,guardT hm,guardT hm,guardT hm,
        ob1 rfl fun b q hk hn=>ok_cast (by rw [← hcc,hm]; rfl) (ok_pick_t rfl hn.1 hm (isV_bool.2 rfl)),trivial⟩ W1 fun b q p=>?_
      exact tail_done (k:=q) (w1 _ _ ⟨Bs.post ⟨hg,hs,hd⟩ p,p.ke 0 rfl i0,p.ke 3 rfl i3,p.ke 5 rfl i5,D.grow p.grow,p.ou 10 22 rfl⟩)
  clear i0 i3 i5 D hg hs hd hGk
  rintro a k ⟨⟨hg,hs,hd⟩,i0,i3,i5,D,i22⟩
  have fin0 : ∀ {a:Act} {k:K} {e:Int},Bs (DF b bl bt h T) k0 82 a k → DeskO d b bl bt h T k → IsV e (a.get 4) k → r = (d,e) → bodyPost Tryd.prog Tryd.f41 (RetC (DF b bl bt h T) k0 (Turn r.1 (ptrV b) (DF b bl bt h T) k0 (IsV r.2))) .ret a k.w:=by
    intro a k e hB D i4 er
    subst er
    exact retC1 rfl hB.d hB.g (show ResOk _ _ _ (.tmp 4) (Turn _ _ _ _ (IsV _)) from ⟨⟨_,D.r,Wr.self⟩,i4⟩)
  refine wp_cond_split (isBool i22) (fun hc=>?_) (fun hc=>?_)
  · rw [if_pos hc] at hr
    obtain rfl:=Option.some.inj hr
    refine stepL 1 (⟨some (IsI 0),[]⟩::[]) rfl ⟨hg,hs,hd⟩ (by kernel_rfl) ⟨aI rfl rfl,trivial⟩ [⟨4,IsI 0⟩,DX d b bl bt h T] (fun b q p=>⟨p.ou 0 4 rfl,D.grow p.grow,trivial⟩) ?_
    rintro a k ⟨hB,i4,D,_⟩
    refine wp_ret ?_
    exact fin0 hB D i4 rfl
  rw [if_neg (by rw [hc]; decide)] at hr
  refine wp_skip ?_
  refine wp_seq ?_
  refine cut (fun a' k'=>Bs (DF b bl bt h T) k0 82 a' k'∧Is (ptrV b) (a'.get 0) k'∧IsRef p_ (a'.get 3) k'∧IsRef key (a'.get 5) k'∧DeskO d b bl bt h T k'∧Is (.pointer (lpt (getK T p_.Cap))) (a'.get 6) k') ?_ hQ ?_
  · intro Q1 W1 w1
    refine region (a0:=a) (k0:=k) (n:=82) (m:=8) (_::⟨some (Is (ptrV b)),[(23,some 0)]⟩::⟨some (IsAdr b 1),[(24,some 1)]⟩::⟨some (Is (.map (some bl))),[(25,some 2)]⟩::⟨some (IsPtr p_.Cap),[(3,none)]⟩::⟨some (IsV p_.Cap),[(27,some 4)]⟩::⟨some (Is (.pointer (lpt (getK T p_.Cap)))),[(26,some 3),(28,some 5)]⟩::_::[]) hmix hs (by kernel_rfl) ⟨mu rfl i0,ob1 rfl fun _ _ g n=>ok_nilCheckV rfl ⟨_,n.1⟩ n.1,ob1 rfl fun _ _ g n=>ok_fieldAdr rfl fo70_1 n.1,ob1 rfl fun _ _ g n=>ok_loadC rfl ty67r n.1 (D.grow g).box rfl,ob1 rfl fun _ _ g n=>ok_fieldAddr rfl fo47_0 (at_Portion_0 _) (up i3 g n.1).ptr,ob1 rfl fun _ _ g n=>ok_load rfl ty9 n.1,ob1 rfl fun _ _ g n=>by rw [← lpt_get]; exact ok_lookupM rfl key9 Tryd.underlying67 zero71 n.1 (isV_str.1 n.2.1) (D.grow g).ml.m,cp 6 rfl rfl,trivial⟩ W1 fun b q p=>?_
    exact tail_done (k:=q) (w1 _ _ ⟨Bs.post ⟨hg,hs,hd⟩ p,p.ke 0 rfl i0,p.ke 3 rfl i3,p.ke 5 rfl i5,D.grow p.grow,p.ou 7 6 rfl⟩)
  clear i0 i3 i5 D hg hs hd i22 hc
  rintro a k ⟨⟨hg,hs,hd⟩,i0,i3,i5,D,i6⟩
  have hlen:d.L.length = T.length:=by rw [D.eL]; simp
  rw [hlen] at hr
  refine cutR (fun a' k'=>∃ (T' : List LT) (d1:DeskV) (bi:Nat) (x' : Lease) (u:Int),Bs (DF b bl bt h T) k0 82 a' k'∧Is (ptrV b) (a'.get 0) k'∧IsRef p_ (a'.get 3) k'∧IsRef key (a'.get 5) k'∧DeskO d1 b bl bt h T' k'∧getK T' p_.Cap = some (bi,x')∧Is (ptrV bi) (a'.get 6) k'∧Wr (DF b bl bt h T) k0 (DF b bl bt h T')∧addI x'.Held p_.N = some u∧r = ({ d1 with L:=setK d1.L p_.Cap { x' with Held:=u },taken:=setK d1.taken key true },0))
    (fun a' k'=>bodyPost Tryd.prog Tryd.f41 (RetC (DF b bl bt h T) k0 (Turn r.1 (ptrV b) (DF b bl bt h T) k0 (IsV r.2))) .ret a' k'.w) ?_ ?_ (fun _ _ h=>h)
  · intro Q1 W1 w1 wr1
    refine wp_block ?_
    refine wp_seq ?_
    refine cut (fun a' k'=>Bs (DF b bl bt h T) k0 82 a' k'∧Is (ptrV b) (a'.get 0) k'∧IsRef p_ (a'.get 3) k'∧IsRef key (a'.get 5) k'∧DeskO d b bl bt h T k'∧Is (.pointer (lpt (getK T p_.Cap))) (a'.get 6) k'∧IsV ((lpt (getK T p_.Cap)).isNone && decide (30 ≤ (T.length:Int))) (a'.get 30) k') ?_ trivial ?_
    · intro Q2 W2 w2
      cases hm:(lpt (getK T p_.Cap)).isNone with
      | true =>
        rw [hm] at w2
        refine gS 11 (_::⟨some (IsV (lpt (getK T p_.Cap)).isNone),[(31,some 0)]⟩::_::⟨some (Is (ptrV b)),[(0,none)]⟩::⟨some (Is (ptrV b)),[(34,some 3)]⟩::⟨some (IsAdr b 1),[(35,some 4)]⟩::⟨some (Is (.map (some bl))),[(36,some 5)]⟩::⟨some (IsV (α:=Int) (T.length:Int)),[(37,some 6)]⟩::⟨some (IsV (decide (30 ≤ (T.length:Int)))),[(38,some 7)]⟩::⟨some (IsV (true && decide (30 ≤ (T.length:Int)))),[(33,some 2),(39,some 8)]⟩::_::[]) hs (by kernel_rfl)
          ⟨mu rfl i6,ob1 rfl fun _ _ g n=>ok_eqPN rfl Tryd.underlying71 n.1,cm 1 rfl rfl,
          ⟨inferInstance,.inl ⟨fun b q hk hn=>ok_move rfl (up i0 hk hn.1),guardT hm⟩⟩,⟨inferInstance,.inl ⟨fun b q hk hn=>ok_nilCheckV rfl ⟨_,hn.1⟩ hn.1,guardT hm⟩⟩,⟨inferInstance,.inl ⟨fun b q hk hn=>ok_fieldAdr rfl fo70_1 hn.1,guardT hm⟩⟩,⟨inferInstance,.inl ⟨fun b q hk hn=>ok_loadC rfl ty67r hn.1 (D.grow hk).box rfl,guardT hm⟩⟩,⟨inferInstance,.inl ⟨fun b q hk hn=>ok_cast (by simp) (ok_lenM rfl rfl Tryd.underlying67 hn.1 (D.grow hk).ml.m),guardT hm⟩⟩,⟨inferInstance,.inl ⟨fun b q hk hn=>ok_geq rfl hn.1 (isV_int.2 rfl),guardT hm⟩⟩,
          ob1 rfl fun b q hk hn=>ok_cast rfl (ok_pick_t rfl hn.1 hm hn.2.1),cp 9 rfl rfl,trivial⟩ W2 fun b q p=>?_
        exact tail_done (k:=q) (w2 _ _ ⟨Bs.post ⟨hg,hs,hd⟩ p,p.ke 0 rfl i0,p.ke 3 rfl i3,p.ke 5 rfl i5,D.grow p.grow,p.ke 6 rfl i6,p.ou 10 30 rfl⟩)
      | false =>
        rw [hm] at w2
        refine gS 11 (_::⟨some (IsV (lpt (getK T p_.Cap)).isNone),[(31,some 0)]⟩::_::⟨none,[]⟩::⟨none,[]⟩::⟨none,[]⟩::⟨none,[]⟩::⟨none,[]⟩::⟨none,[]⟩::⟨some (IsV (false && decide (30 ≤ (T.length:Int)))),[(33,some 2)]⟩::_::[]) hs (by kernel_rfl)
          ⟨mu rfl i6,ob1 rfl fun _ _ g n=>ok_eqPN rfl Tryd.underlying71 n.1,cm 1 rfl rfl,
          guardF hm,guardF hm,guardF hm,guardF hm,guardF hm,guardF hm,
          ob1 rfl fun b q hk hn=>ok_cast rfl (ok_pick_f rfl hn.1 hm (isV_bool.2 rfl)),cp 9 rfl rfl,trivial⟩ W2 fun b q p=>?_
        exact tail_done (k:=q) (w2 _ _ ⟨Bs.post ⟨hg,hs,hd⟩ p,p.ke 0 rfl i0,p.ke 3 rfl i3,p.ke 5 rfl i5,D.grow p.grow,p.ke 6 rfl i6,p.ou 10 30 rfl⟩)
    clear i0 i3 i5 D hg hs hd i6
    rintro a k ⟨⟨hg,hs,hd⟩,i0,i3,i5,D,i6,i30⟩
    refine wp_cond_split (isBool i30) (fun hc=>?_) (fun hc=>?_)
    · rw [Bool.and_eq_true] at hc
      have hn:getK T p_.Cap = none:=by
        cases hx:getK T p_.Cap with
        | none=>rfl
        | some y=>rw [hx] at hc; simp [lpt] at hc
      rw [hn] at hr
      simp only [Option.map_none] at hr
      rw [if_pos (of_decide_eq_true hc.2)] at hr
      obtain rfl:=Option.some.inj hr
      refine stepL 1 (⟨some (IsI 6),[]⟩::[]) rfl ⟨hg,hs,hd⟩ (by kernel_rfl) ⟨aI rfl rfl,trivial⟩ [⟨4,IsI 6⟩,DX d b bl bt h T] (fun b q p=>⟨p.ou 0 4 rfl,D.grow p.grow,trivial⟩) ?_
      rintro a k ⟨hB,i4,D,_⟩
      refine wp_ret ?_
      exact wr1 _ _ (fin0 hB D i4 rfl)
    refine stepL 3 (_::⟨some (IsV (lpt (getK T p_.Cap)).isNone),[(42,some 0)]⟩::_::[]) rfl ⟨hg,hs,hd⟩ (by kernel_rfl) ⟨mu rfl i6,ob1 rfl fun _ _ g n=>ok_eqPN rfl Tryd.underlying71 n.1,cp 1 rfl rfl,trivial⟩ [⟨_,_⟩,⟨_,_⟩,⟨_,_⟩,⟨_,_⟩,⟨41,IsV (lpt (getK T p_.Cap)).isNone⟩,DX d b bl bt h T] (fun b q p=>⟨p.ke 0 rfl i0,p.ke 3 rfl i3,p.ke 5 rfl i5,p.ke 6 rfl i6,p.ou 2 41 rfl,D.grow p.grow,trivial⟩) ?_
    clear i0 i3 i5 D hg hs hd i6 i30
    rintro a k ⟨⟨hg,hs,hd⟩,i0,i3,i5,i6,i41,D,_⟩
    replace D:DeskO d b bl bt h T k:=D
    cases hx:getK T p_.Cap with
    | none =>
      rw [hx] at i41 hr hc
      simp only [Option.map_none] at hr
      have hlt : ¬ 30 ≤ (T.length:Int):=by simpa [lpt] using hc
      rw [if_neg hlt] at hr
      obtain ⟨u,hu,hr⟩:=bind_some hr
      refine wp_cond_split (isBool i41) (fun hc=>?_) (fun hc=>by simp [lpt] at hc)
      refine wp_seq ?_
      refine cut (fun a' k'=>∃ bi,Bs (DF b bl bt h T) k0 82 a' k'∧Is (ptrV b) (a'.get 0) k'∧IsRef p_ (a'.get 3) k'∧IsRef key (a'.get 5) k'∧DeskO d b bl bt h T k'∧Is (ptrV bi) (a'.get 6) k'∧Box bi (⟨p_.Cap,d.counter,0,0⟩:Lease) k'∧¬ DF b bl bt h T bi∧k0.w.heap.size ≤ bi) ?_ trivial ?_
      · intro Q2 W2 w2
        refine region (a0:=a) (k0:=k) (n:=82) (m:=9) (⟨some (IsPtr p_.Cap),[(3,none)]⟩::⟨some (IsV p_.Cap),[(44,some 0)]⟩::_::⟨some (Is (ptrV b)),[(46,some 2)]⟩::⟨some (IsAdr b 0),[(47,some 3)]⟩::⟨some (IsV d.counter),[(48,some 4)]⟩::⟨some (IsV (⟨p_.Cap,d.counter,0,0⟩:Lease)),[(45,some 1),(49,some 5)]⟩::⟨some (IsBox k.w.heap.size (⟨p_.Cap,d.counter,0,0⟩:Lease)),[(50,some 6)]⟩::_::[]) hmix hs (by kernel_rfl) ⟨ob1 rfl fun _ _ g n=>ok_fieldAddr rfl fo47_0 (at_Portion_0 _) (up i3 g n.1).ptr,ob1 rfl fun _ _ g n=>ok_load rfl ty9 n.1,mu rfl i0,ob1 rfl fun _ _ g n=>ok_nilCheckV rfl ⟨_,n.1⟩ n.1,ob1 rfl fun _ _ g n=>ok_fieldAdr rfl fo70_0 n.1,ob1 rfl fun _ _ g n=>ok_loadI rfl ty3r n.1 (D.grow g).box rfl,ob1 rfl fun _ _ g n=>ok_build rfl (bld43_0_1 n.1 n.2.1),ob1 rfl fun _ _ g n=>ok_box _ g.size rfl n.1,cp 7 rfl rfl,trivial⟩ W2 fun b' q p=>?_
        obtain ⟨bi,e6,lo6,z6⟩:IsBox k.w.heap.size (⟨p_.Cap,d.counter,0,0⟩:Lease) (b'.get 6) q:=p.ou 8 6 rfl
        exact tail_done (k:=q) (w2 _ _ ⟨bi,Bs.post ⟨hg,hs,hd⟩ p,p.ke 0 rfl i0,p.ke 3 rfl i3,p.ke 5 rfl i5,D.grow p.grow,e6,z6,fun hc=>by have:=D.lt bi hc; omega,Nat.le_trans hg.size lo6⟩)
      clear i0 i3 i5 D hg hs hd i6 i41
      rintro a k ⟨bi,⟨hg,hs,hd⟩,i0,i3,i5,D,i6,z6,hn6,lo6⟩
      refine region (a0:=a) (k0:=k) (n:=82) (m:=7) (_::⟨some (Is (ptrV b)),[(52,some 0)]⟩::⟨some (IsAdr b 1),[(53,some 1)]⟩::⟨some (Is (.map (some bl))),[(54,some 2)]⟩::⟨some (IsPtr p_.Cap),[(3,none)]⟩::⟨some (IsV p_.Cap),[(56,some 4)]⟩::_::[]) hmix hs (by kernel_rfl) ⟨mu rfl i0,ob1 rfl fun _ _ g n=>ok_nilCheckV rfl ⟨_,n.1⟩ n.1,ob1 rfl fun _ _ g n=>ok_fieldAdr rfl fo70_1 n.1,ob1 rfl fun _ _ g n=>ok_loadC rfl ty67r n.1 (D.grow g).box rfl,ob1 rfl fun _ _ g n=>ok_fieldAddr rfl fo47_0 (at_Portion_0 _) (up i3 g n.1).ptr,ob1 rfl fun _ _ g n=>ok_load rfl ty9 n.1,mu rfl i6,trivial⟩ trivial fun b' q p=>?_
      have hgq:=hg.then p.grow
      have Dq:=D.grow p.grow
      have z6q:=z6.grow p.grow
      have l0:=p.ke 0 rfl i0
      have l3:=p.ke 3 rfl i3
      have l5:=p.ke 5 rfl i5
      have l6:=p.ke 6 rfl i6
      have j55:b'.get 55 = .map (some bl):=p.ou 3 55 rfl
      have j57:IsV p_.Cap (b'.get 57) q:=p.ou 5 57 rfl
      have j58:b'.get 58 = ptrV bi:=p.ou 6 58 rfl
      refine tail_mapUpdateC (i:=7) (n:=p_.Cap) rfl rfl rfl rfl key9 Tryd.underlying67 j55 (isV_str.1 j57) Dq.ml fun q2 hch hsz hm=>?_
      rw [show b'.eval (.tmp 58) = ptrV bi from j58] at hm
      have D2:=Dq.lay hx z6q hn6 hch hm
      have hsh : ∀ c,bl = c → ¬ q.sh c:=fun c e=>e ▸ Dq.ml.own
      have hle:=hch.le hsh
      have wbl:Wr (DF b bl bt h T) k0 (Eq bl):=fun c e=>.inl (.inl (e ▸ mem_bl))
      refine tail_done (k:=q2) (w1 _ _ ⟨_,_,bi,_,u,⟨hgq.step hch wbl,p.size.trans hs,p.defers.trans hd⟩,l0,Pers.pers hle l3,Pers.pers hle l5,D2,getK_lay _ hx,l6,fun c hc=>(DF_lay hc).elim .inl (fun e=>.inr (e ▸ lo6)),hu,?_⟩)
      rw [← Option.some.inj hr]
      show _ = ({ d with L:=setK (setK d.L p_.Cap _) p_.Cap _,taken:=_ },_)
      rw [setK_setK]
    | some y =>
      obtain ⟨bi,x⟩:=y
      rw [hx] at i41 hr i6
      simp only [Option.map_some] at hr
      obtain ⟨u,hu,hr⟩:=bind_some hr
      have hm:=getK_mem hx
      replace i6:Is (ptrV bi) (a.get 6) k:=i6
      have P1 : ∀ {q},Grow k q → IsPtr x (ptrV bi) q:=fun g=>⟨_,rfl,((D.bx _ hm).grow g).at⟩
      refine wp_cond_split (isBool i41) (fun hc=>by simp [lpt] at hc) (fun hc=>?_)
      refine wp_seq ?_
      refine cut (fun a' k'=>Bs (DF b bl bt h T) k0 82 a' k'∧Is (ptrV b) (a'.get 0) k'∧IsRef p_ (a'.get 3) k'∧IsRef key (a'.get 5) k'∧DeskO d b bl bt h T k'∧Is (ptrV bi) (a'.get 6) k'∧IsV (decide (1099511627776 < u)) (a'.get 59) k') ?_ trivial ?_
      · intro Q2 W2 w2
        refine region (a0:=a) (k0:=k) (n:=82) (m:=9) (_::⟨some (Is (ptrV bi)),[(60,some 0)]⟩::⟨some (IsPtr x.Held),[(61,some 1)]⟩::⟨some (IsV x.Held),[(62,some 2)]⟩::⟨some (IsPtr p_.N),[(3,none)]⟩::⟨some (IsV p_.N),[(64,some 4)]⟩::⟨some (IsV u),[(63,some 3),(65,some 5)]⟩::⟨some (IsV (decide (1099511627776 < u))),[(66,some 6)]⟩::_::[]) hmix hs (by kernel_rfl) ⟨mu rfl i6,ob1 rfl fun _ _ g n=>ok_nilCheckV rfl ⟨_,n.1⟩ n.1,ob1 rfl fun a' _ g n=>ok_fieldAddr rfl fo43_2 (at_Lease_2 _) (by rw [show a'.eval (.tmp 61) = ptrV bi from n.1]; exact P1 g),ob1 rfl fun _ _ g n=>ok_load rfl ty3 n.1,ob1 rfl fun _ _ g n=>ok_fieldAddr rfl fo47_4 (at_Portion_4 _) (up i3 g n.1).ptr,ob1 rfl fun _ _ g n=>ok_load rfl ty3 n.1,ob1 rfl fun _ _ g n=>ok_add rfl n.1 n.2.1 hu,ob1 rfl fun _ _ g n=>ok_gtr rfl n.1 (cI rfl),cp 7 rfl rfl,trivial⟩ W2 fun b q p=>?_
        exact tail_done (k:=q) (w2 _ _ ⟨Bs.post ⟨hg,hs,hd⟩ p,p.ke 0 rfl i0,p.ke 3 rfl i3,p.ke 5 rfl i5,D.grow p.grow,p.ke 6 rfl i6,p.ou 8 59 rfl⟩)
      clear i0 i3 i5 D hg hs hd i6 i41 P1
      rintro a k ⟨⟨hg,hs,hd⟩,i0,i3,i5,D,i6,i59⟩
      refine wp_cond_split (isBool i59) (fun hc=>?_) (fun hc=>?_)
      · rw [if_pos (of_decide_eq_true hc)] at hr
        obtain rfl:=Option.some.inj hr
        refine stepL 1 (⟨some (IsI 6),[]⟩::[]) rfl ⟨hg,hs,hd⟩ (by kernel_rfl) ⟨aI rfl rfl,trivial⟩ [⟨4,IsI 6⟩,DX d b bl bt h T] (fun b q p=>⟨p.ou 0 4 rfl,D.grow p.grow,trivial⟩) ?_
        rintro a k ⟨hB,i4,D,_⟩
        refine wp_ret ?_
        exact wr1 _ _ (fin0 hB D i4 rfl)
      rw [if_neg (of_decide_eq_false hc)] at hr
      refine wp_skip ?_
      exact w1 _ _ ⟨T,d,bi,x,u,⟨hg,hs,hd⟩,i0,i3,i5,D,hx,i6,Wr.self,hu,(Option.some.inj hr).symm⟩
  clear i0 i3 i5 D hg hs hd i6 hr
  rintro a k ⟨T', d1, bi, x, u, ⟨hg, hs, hd⟩, i0, i3, i5, D, hx, i6, hw, hu, rfl⟩
  have hm:=getK_mem hx
  have P1 : ∀ {q},Grow k q → IsPtr x (ptrV bi) q:=fun g=>⟨_,rfl,((D.bx _ hm).grow g).at⟩
  refine wp_seq ?_
  refine cut (fun a' k'=>∃ T2,DF b bl bt h T2 = DF b bl bt h T'∧Bs (DF b bl bt h T) k0 82 a' k'∧Is (ptrV b) (a'.get 0) k'∧IsRef key (a'.get 5) k'∧DeskO { d1 with L:=setK d1.L p_.Cap { x with Held:=u } } b bl bt h T2 k') ?_ hQ ?_
  · intro Q1 W1 w1
    refine region (a0:=a) (k0:=k) (n:=82) (m:=9) (_::⟨some (Is (ptrV bi)),[(68,some 0)]⟩::⟨some (IsPtr x.Held),[(69,some 1)]⟩::⟨some (IsV x.Held),[(70,some 2)]⟩::⟨some (IsPtr p_.N),[(3,none)]⟩::⟨some (IsV p_.N),[(72,some 4)]⟩::⟨some (IsV u),[(71,some 3),(73,some 5)]⟩::⟨some (Is (ptrV bi)),[(68,some 0)]⟩::⟨some (IsAdr bi 2),[(75,some 7)]⟩::[]) hmix hs (by kernel_rfl) ⟨mu rfl i6,ob1 rfl fun _ _ g n=>ok_nilCheckV rfl ⟨_,n.1⟩ n.1,ob1 rfl fun a' _ g n=>ok_fieldAddr rfl fo43_2 (at_Lease_2 _) (by rw [show a'.eval (.tmp 69) = ptrV bi from n.1]; exact P1 g),ob1 rfl fun _ _ g n=>ok_load rfl ty3 n.1,ob1 rfl fun _ _ g n=>ok_fieldAddr rfl fo47_4 (at_Portion_4 _) (up i3 g n.1).ptr,ob1 rfl fun _ _ g n=>ok_load rfl ty3 n.1,ob1 rfl fun _ _ g n=>ok_add rfl n.1 n.2.1 hu,ob1 rfl fun _ _ g n=>ok_nilCheckV rfl ⟨_,n.1⟩ n.1,ob1 rfl fun _ _ g n=>ok_fieldAdr rfl fo43_2 n.1,trivial⟩ W1 fun b' q p=>?_
    have hgq:=hg.then p.grow
    have Dq:=D.grow p.grow
    have ju:IsV u (b'.get 74) q:=p.ou 6 74 rfl
    have jp:IsAdr bi 2 (b'.get 76) q:=p.ou 8 76 rfl
    have l0:=p.ke 0 rfl i0
    have l5:=p.ke 5 rfl i5
    refine tail_storeB (i:=9) rfl rfl rfl rfl szf3 upd_F43_2 jp (Dq.bx _ hm) ju fun q2 hch hz=>?_
    obtain ⟨D2,eF,_⟩:=Dq.turn hx hch hz
    have hw' : Wr (DF b bl bt h T) k0 (Eq bi):=fun c e=>hw c (.inl (e ▸ mem_T hm))
    have hle:=hch.le (fun c e=>e ▸ (Dq.bx _ hm).own)
    exact tail_done (k := q2) (w1 _ _ ⟨_, eF, ⟨hgq.step hch hw', p.size.trans hs, p.defers.trans hd⟩, l0, Pers.pers hle l5, D2⟩)
  clear i0 i3 i5 D hg hs hd i6 P1
  rintro a k ⟨T2,eF,⟨hg,hs,hd⟩,i0,i5,D⟩
  have wbt:Wr (DF b bl bt h T) k0 (Eq bt):=fun c e=>.inl (.inl (e ▸ mem_bt))
  refine wp_seq ?_
  refine cut (fun a' k'=>Bs (DF b bl bt h T) k0 82 a' k'∧DeskO { d1 with L:=setK d1.L p_.Cap { x with Held:=u },taken:=setK d1.taken key true } b bl bt h T2 k') ?_ hQ ?_
  · intro Q1 W1 w1
    refine region (a0:=a) (k0:=k) (n:=82) (m:=5) (_::⟨some (Is (ptrV b)),[(77,some 0)]⟩::⟨some (IsAdr b 4),[(78,some 1)]⟩::⟨some (Is (.map (some bt))),[(79,some 2)]⟩::⟨some (IsV key),[(5,none)]⟩::[]) hmix hs (by kernel_rfl) ⟨mu rfl i0,ob1 rfl fun _ _ g n=>ok_nilCheckV rfl ⟨_,n.1⟩ n.1,ob1 rfl fun _ _ g n=>ok_fieldAdr rfl fo70_4 n.1,ob1 rfl fun _ _ g n=>ok_loadC rfl ty68r n.1 (D.grow g).box rfl,ob1 rfl fun _ _ g n=>ok_load rfl ty81 (up i5 g n.1).ptr,trivial⟩ W1 fun b' q p=>?_
    have hgq:=hg.then p.grow
    have Dq:=D.grow p.grow
    have j80:b'.get 80 = .map (some bt):=p.ou 3 80 rfl
    have j81:IsV key (b'.get 81) q:=p.ou 4 81 rfl
    refine tail_mapUpdate (i:=5) (n:=key) rfl rfl rfl rfl key81 Tryd.underlying68 j80 (isV_key j81) Dq.mt fun q2 hch hsz hmt=>?_
    exact tail_done (k:=q2) (w1 _ _ ⟨⟨hgq.step hch wbt,p.size.trans hs,p.defers.trans hd⟩,Dq.took hch hmt⟩)
  clear i0 i5 D hg hs hd
  rintro a k ⟨⟨hg,hs,hd⟩,D⟩
  refine stepL 1 (⟨some (IsI 0),[]⟩::[]) rfl ⟨hg,hs,hd⟩ (by kernel_rfl) ⟨aI rfl rfl,trivial⟩ [⟨4,IsI 0⟩,DX _ b bl bt h T2] (fun b q p=>⟨p.ou 0 4 rfl,D.grow p.grow,trivial⟩) ?_
  rintro a k ⟨⟨hg,hs,hd⟩,i4,D,_⟩
  refine wp_ret ?_
  exact retC1 rfl hd hg (show ResOk _ _ _ (.tmp 4) (Turn _ _ _ _ (IsV _)) from ⟨⟨_,DeskO.r D,by rw [eF]; exact hw⟩,i4⟩)

end Go.Proofs.YtljfakcblkdhbaaDoor

namespace Go.Proofs.YtljfakcblkdhbaaDoor
open Go.Gb
set_option linter.unusedVariables false
set_option linter.unusedSimpArgs false
set_option linter.unusedSectionVars false
set_option maxRecDepth 100000
def lease_index_L0 (s_:(List Portion)) (f_:(Portion → Option (Bool))) (s1:Int):Option (Flow (Int) (Int)):=
 if (decide (s1 < (s_.length:Int))) then
  (getI s_ s1).bind fun x1=>
  (f_ x1).bind fun x2=>
  if x2 then
   some (.ret s1)
  else
   (addI s1 1).bind fun x3=>
   some (.go x3)
 else
  some (.ex 0 s1)
def lease_index (s_:(List Portion)) (f_:(Portion → Option (Bool))):Option (Int):=
 (iterL (lease_index_L0 s_ f_) (s_.length + 1) 0).bind fun f1=>match f1 with
  | .go _=>none
  | .ex _ _=>
   some (-1)
  | .ret r1=>some r1
theorem lease_index_ok {k0:K} {v0 v1:Value} {s_:(List Portion)} {f_:(Portion → Option (Bool))} {r:Int} (i0:(Readable s_) v0 k0) (i1:(IsFn1 Tryd.prog f_) v1 k0) (hr:lease_index s_ f_ = some r) :
  Calls Tryd.prog 53 #[v0,v1] k0.w (Ret k0 (IsV r)):=by
 unfold lease_index at hr
 refine Ret.ofC ?_
 refine enterK Tryd.func53 rfl Tryd.ntmps53 (show 2 ≤ 19 by decide) fun a k hk0 hs hd ha=>?_
 obtain ⟨e0,e1,_⟩:=ha
 replace i0:(Readable s_) (a.get 0) k:=by rw [e0,hk0]; exact i0
 replace i1:(IsFn1 Tryd.prog f_) (a.get 1) k:=by rw [e1,hk0]; exact i1
 have hQ:Gb.LetsOut (bodyPost Tryd.prog Tryd.f53 (RetC noF k0 (IsV r))):=letsOutC
 have hg:Chg noF k0 k:=by rw [hk0]; exact Chg.refl _ k0
 refine stepL 1 (⟨some (IsI 0),[]⟩::[]) rfl ⟨hg,hs,hd⟩ (by kernel_rfl) ⟨aI rfl rfl,trivial⟩ [⟨_,_⟩,⟨_,_⟩] (fun b q p=>⟨p.ke 0 rfl i0,p.ke 1 rfl i1,trivial⟩) ?_
 rintro a k ⟨⟨hg,hs,hd⟩,i0,i1,_⟩
 refine wp_seq ?_
 refine stepL 3 (_::_::⟨some (IsI 0),[]⟩::[]) rfl ⟨hg,hs,hd⟩ (by kernel_rfl) ⟨mu rfl i0,o1 [(6,some 0)] rfl fun _ _ h n=>ok_len rfl rfl Tryd.underlying28 n.1,ob1 rfl fun _ _ h n=>ok_move rfl (cI rfl),trivial⟩ [⟨_,_⟩,⟨_,_⟩,⟨_,_⟩,⟨_,_⟩] (fun b q p=>⟨p.ke 0 rfl i0,p.ke 1 rfl i1,p.ou 1 7 rfl,p.ou 2 8 rfl,trivial⟩) ?_
 rintro a k ⟨⟨hg,hs,hd⟩,i0,i1,i7,i8,_⟩
 refine wp_block ?_
 obtain ⟨f1,hf1,hr⟩:=bind_some hr
 refine cutFe f1 (fun s' c l=>Bs noF k0 19 c l∧Readable s_ (c.get 0) l∧IsFn1 Tryd.prog f_ (c.get 1) l∧IsL s_ (c.get 7) l∧IsV s' (c.get 8) l∧True) (fun i' s' c l=>(i' = 0∧Bs noF k0 19 c l∧True)) (fun r' c l=>bodyPost Tryd.prog Tryd.f53 (RetC noF k0 (IsV r')) .ret c l.w) ?_ hQ ?_ ?_ ?_
 ·intro Q1 W1 hgo hex hret
  refine sim_loop ?_ _ _ _ _ _ hf1 ⟨⟨hg,hs,hd⟩,i0,i1,i7,i8,trivial⟩ Q1 W1 hgo hex hret
  clear hr hf1 hgo hex hret W1 hQ hg hs hd i0 i1 i7 i8
  intro s1 fl_ a k hr hS Q hQ hgo4 hex5 hret6
  obtain ⟨⟨hg,hs,hd⟩,i0,i1,i7,i8,_⟩:=hS
  unfold lease_index_L0 at hr
  refine stepL 1 (_::[]) rfl ⟨hg,hs,hd⟩ (by kernel_rfl) ⟨o1 [(8,none),(7,none)] rfl fun _ _ h n=>ok_lss rfl (up i8 h n.1) (up i7 h n.2.1),trivial⟩ [⟨_,_⟩,⟨_,_⟩,⟨_,_⟩,⟨_,_⟩,⟨_,_⟩] (fun b q p=>⟨p.ke 0 rfl i0,p.ke 1 rfl i1,p.ke 7 rfl i7,p.ke 8 rfl i8,p.ou 0 9 rfl,trivial⟩) ?_
  rintro a k ⟨⟨hg,hs,hd⟩,i0,i1,i7,i8,i9,_⟩
  refine wp_seq ?_
  refine wp_cond_split (isBool i9) (fun hc21=>?_) (fun hc21=>?_)
  ·rw [if_pos hc21] at hr
   refine wp_skip ?_
   refine wp_seq ?_
   refine wp_block ?_
   refine stepL 2 (_::_::[]) rfl ⟨hg,hs,hd⟩ (by kernel_rfl) ⟨mu rfl i8,cp 0 rfl rfl,trivial⟩ [⟨_,_⟩,⟨_,_⟩,⟨_,_⟩,⟨_,_⟩,⟨_,_⟩] (fun b q p=>⟨p.ke 0 rfl i0,p.ke 1 rfl i1,p.ou 1 5 rfl,p.ke 7 rfl i7,p.ke 8 rfl i8,trivial⟩) ?_
   rintro a k ⟨⟨hg,hs,hd⟩,i0,i1,i5,i7,i8,_⟩
   refine wp_seq ?_
   obtain ⟨x1,hx1,hr⟩:=bind_some hr
   obtain ⟨x2,hx2,hr⟩:=bind_some hr
   refine cut (fun a' k'=>Bs noF k0 19 a' k'∧(Readable s_) (a'.get 0) k'∧(IsFn1 Tryd.prog f_) (a'.get 1) k'∧(IsV s1) (a'.get 5) k'∧(IsL s_) (a'.get 7) k'∧(IsV s1) (a'.get 8) k'∧(IsV x2) (a'.get 16) k'∧True) ?_ hQ ?_
   ·intro Q2 W2 w1
    refine gS 6 (_::_::_::_::_::⟨some (IsV x2),[(11,some 0),(15,some 4)]⟩::[]) hs (by kernel_rfl) ⟨mu rfl i1,mu rfl i0,mu rfl i5,o1 [(12,some 1),(13,some 2)] rfl fun _ _ h n=>ok_indexAddr rfl Tryd.underlying28 ty47 n.1 n.2.1 hx1,o1 [(14,some 3)] rfl fun _ _ h n=>ok_load rfl ty47 n.1,ob1 rfl fun _ _ h n=>ok_callF1 rfl n.1 n.2.1 hx2,trivial⟩ W2 fun b q p=>?_
    exact tail_done (k:=q) (w1 _ _ ⟨Bs.post ⟨hg,hs,hd⟩ p,p.ke 0 rfl i0,p.ke 1 rfl i1,p.ke 5 rfl i5,p.ke 7 rfl i7,p.ke 8 rfl i8,p.ou 5 16 rfl,trivial⟩)
   rintro a k ⟨⟨hg,hs,hd⟩,i0,i1,i5,i7,i8,i16,_⟩
   refine wp_cond_split (isBool i16) (fun hc16=>?_) (fun hc16=>?_)
   ·rw [if_pos hc16] at hr
    refine stepL 2 (_::_::[]) rfl ⟨hg,hs,hd⟩ (by kernel_rfl) ⟨mu rfl i5,cp 0 rfl rfl,trivial⟩ [⟨_,_⟩] (fun b q p=>⟨p.ou 1 4 rfl,trivial⟩) ?_
    rintro a k ⟨⟨hg,hs,hd⟩,i4,_⟩
    refine wp_ret ?_
    exact hret6 _ _ _ (Option.some.inj hr).symm (retC1 rfl hd hg i4)
   rw [if_neg (by rw [hc16]; decide)] at hr
   refine wp_skip ?_
   obtain ⟨x3,hx3,hr⟩:=bind_some hr
   refine cut (fun a' k'=>Bs noF k0 19 a' k'∧(Readable s_) (a'.get 0) k'∧(IsFn1 Tryd.prog f_) (a'.get 1) k'∧(IsL s_) (a'.get 7) k'∧(IsV x3) (a'.get 8) k'∧True) ?_ hQ ?_
   ·intro Q3 W3 w2
    refine gS 2 (_::_::[]) hs (by kernel_rfl) ⟨o1 [(8,none)] rfl fun _ _ h n=>ok_add rfl (up i8 h n.1) (cI rfl) hx3,cm 0 rfl rfl,trivial⟩ W3 fun b q p=>?_
    exact tail_done (k:=q) (w2 _ _ ⟨Bs.post ⟨hg,hs,hd⟩ p,p.ke 0 rfl i0,p.ke 1 rfl i1,p.ke 7 rfl i7,p.ou 1 8 rfl,trivial⟩)
   rintro a k ⟨⟨hg,hs,hd⟩,i0,i1,i7,i8,_⟩
   exact hgo4 _ _ _ (Option.some.inj hr).symm ⟨⟨hg,hs,hd⟩,i0,i1,i7,i8,trivial⟩
  rw [if_neg (by rw [hc21]; decide)] at hr
  refine wp_exit ?_
  exact hex5 _ _ _ _ (Option.some.inj hr).symm ⟨rfl,⟨hg,hs,hd⟩,trivial⟩
 ·rintro r1 a k rfl hR
  dsimp only at hr
  obtain rfl:=Option.some.inj hr
  exact hR
 ·rintro _ _ _ rfl _
  simp at hr
 clear hf1
 rintro _ s2 a k rfl ⟨rfl,⟨hg,hs,hd⟩,_⟩
 dsimp only at hr
 refine stepL 1 (⟨some (IsI (-1)),[]⟩::[]) rfl ⟨hg,hs,hd⟩ (by kernel_rfl) ⟨aI rfl rfl,trivial⟩ [⟨_,_⟩] (fun b q p=>⟨p.ou 0 4 rfl,trivial⟩) ?_
 rintro a k ⟨⟨hg,hs,hd⟩,i4,_⟩
 refine wp_ret ?_
 obtain rfl:=Option.some.inj hr
 exact retC1 rfl hd hg i4
def lease_del_L0 (f:Portion → Option Bool) (s:List Portion × Int × Int):Option (Flow (List Portion × Int × Int) (List Portion)):=
 if decide (s.2.2 < (s.1.length:Int)) then
  (getI s.1 s.2.2).bind fun x1=>
  (f x1).bind fun x2=>
  (if !x2 then
    (getI s.1 s.2.1).bind fun _=>
    (addI s.2.1 1).bind fun x4=>
    some (s.1.set s.2.1.toNat x1,x4)
  else some (s.1,s.2.1)).bind fun s2=>
  (addI s.2.2 1).bind fun x5=>some (.go (s2.1,s2.2,x5))
 else some (.ex 0 s)
def lease_del (xs:List Portion) (f:Portion → Option Bool):Option (List Portion):=
 (lease_index xs f).bind fun x1=>
 if x1 == -1 then some xs else
 (addI x1 1).bind fun x2=>
 (iterL (lease_del_L0 f) (xs.length + 1) (xs,x1,x2)).bind fun f1=>match f1 with
  | .ex _ s=>if s.2.1.toNat < s.1.length then sliceI s.1 0 s.2.1 else none
  | _=>none
theorem lease_del_ok {k0:K} {v0 v1:Value} {xs:List Portion} {f:Portion → Option Bool} {r:List Portion} (i0:IsOwn 0 47 xs v0 k0) (i1:(IsFn1 Tryd.prog f) v1 k0) (hr:lease_del xs f = some r) :
    Calls Tryd.prog 39 #[v0,v1] k0.w (RetC (obF v0) k0 (OwnSub v0 0 47 r)):=by
  unfold lease_del at hr
  refine enterK Tryd.func39 rfl Tryd.ntmps39 (show 2 ≤ 42 by decide) fun a k hk0 hs hd ha=>?_
  obtain ⟨e0,e1,_⟩:=ha
  have hQ:Gb.LetsOut (bodyPost Tryd.prog Tryd.f39 (RetC (obF v0) k0 (OwnSub v0 0 47 r))):=letsOutC
  have hg:Chg (obF v0) k0 k:=by rw [hk0]; exact Chg.refl _ k0
  replace i0:OwnAt v0 0 47 xs (a.get 0) k:=by rw [e0,hk0]; exact ⟨rfl,i0⟩
  replace i1:(IsFn1 Tryd.prog f) (a.get 1) k:=by rw [e1,hk0]; exact i1
  clear e0 e1
  refine stepL 1 (⟨some IsE0,[]⟩::[]) rfl ⟨hg,hs,hd⟩ (by kernel_rfl) ⟨ob1 rfl fun b q h n=>ok_assign rfl isE0_nil,trivial⟩ [⟨0,OwnAt v0 0 47 xs⟩,⟨_,_⟩] (fun b q p=>⟨p.ke 0 rfl i0,p.ke 1 rfl i1,trivial⟩) ?_
  clear i0 i1
  rintro a k ⟨⟨hg,hs,hd⟩,i0,i1,_⟩
  obtain ⟨x1,hx1,hr⟩:=bind_some hr
  refine stepL 4 (⟨some (OwnAt v0 0 47 xs),[(0,none)]⟩::_::⟨some (IsV x1),[(8,some 0),(9,some 1)]⟩::_::[]) rfl ⟨hg,hs,hd⟩ (by kernel_rfl) ⟨ob1 rfl fun _ _ g n=>ok_moveOA (.inl rfl) (up i0 g n.1),mu rfl i1,ob1 rfl fun _ _ g n=>ok_call rfl Tryd.call53 (lease_index_ok n.1.2.rd n.2.1 hx1),cp 2 rfl rfl,trivial⟩ [⟨0,OwnAt v0 0 47 xs⟩,⟨1,IsFn1 Tryd.prog f⟩,⟨5,IsV x1⟩] (fun b q p=>⟨p.ke 0 rfl i0,p.ke 1 rfl i1,p.ou 3 5 rfl,trivial⟩) ?_
  clear i0 i1
  rintro a k ⟨⟨hg,hs,hd⟩,i0,i1,i5,_⟩
  refine wp_seq ?_
  refine stepL 2 (_::⟨some (IsV (x1 == -1)),[(11,some 0)]⟩::[]) rfl ⟨hg,hs,hd⟩ (by kernel_rfl) ⟨mu rfl i5,ob1 rfl fun _ _ g n=>ok_eqI rfl n.1 (cI rfl),trivial⟩ [⟨0,OwnAt v0 0 47 xs⟩,⟨1,IsFn1 Tryd.prog f⟩,⟨5,IsV x1⟩,⟨12,IsV (x1 == -1)⟩] (fun b q p=>⟨p.ke 0 rfl i0,p.ke 1 rfl i1,p.ke 5 rfl i5,p.ou 1 12 rfl,trivial⟩) ?_
  clear i0 i1 i5
  rintro a k ⟨⟨hg,hs,hd⟩,i0,i1,i5,i12,_⟩
  refine wp_cond_split (isBool i12) (fun hc=>?_) (fun hc=>?_)
  · rw [if_pos hc] at hr
    obtain rfl:=Option.some.inj hr
    refine stepL 2 (⟨some (OwnAt v0 0 47 xs),[(0,none)]⟩::_::[]) rfl ⟨hg,hs,hd⟩ (by kernel_rfl) ⟨ob1 rfl fun _ _ g n=>ok_moveOA (.inl rfl) (up i0 g n.1),cp 0 rfl rfl,trivial⟩ [⟨4,OwnAt v0 0 47 xs⟩] (fun b q p=>⟨p.ou 1 4 rfl,trivial⟩) ?_
    rintro a k ⟨⟨hg,hs,hd⟩,i4,_⟩
    refine wp_ret ?_
    exact retC1 rfl hd hg (show ResOk _ _ _ (.tmp 4) (OwnSub v0 0 47 _) from ⟨i4.2 |> fun h=>i4.1 ▸ h,fun c hc=>i4.1 ▸ hc⟩)
  rw [if_neg (by rw [hc]; decide)] at hr
  refine wp_skip ?_
  obtain ⟨x2,hx2,hr⟩:=bind_some hr
  refine wp_seq ?_
  refine stepL 3 (_::⟨some (IsV x2),[(14,some 0)]⟩::_::[]) rfl ⟨hg,hs,hd⟩ (by kernel_rfl) ⟨mu rfl i5,ob1 rfl fun _ _ g n=>ok_add rfl n.1 (cI rfl) hx2,cp 1 rfl rfl,trivial⟩ [⟨0,OwnAt v0 0 47 xs⟩,⟨1,IsFn1 Tryd.prog f⟩,⟨5,IsV x1⟩,⟨6,IsV x2⟩] (fun b q p=>⟨p.ke 0 rfl i0,p.ke 1 rfl i1,p.ke 5 rfl i5,p.ou 2 6 rfl,trivial⟩) ?_
  clear i0 i1 i5 i12 hc
  rintro a k ⟨⟨hg,hs,hd⟩,i0,i1,i5,i6,_⟩
  refine wp_block ?_
  obtain ⟨f1,hf1,hr⟩:=bind_some hr
  refine cutFe f1 (fun s' c l=>Bs (obF v0) k0 42 c l∧OwnAt v0 0 47 s'.1 (c.get 0) l∧IsFn1 Tryd.prog f (c.get 1) l∧IsV s'.2.1 (c.get 5) l∧IsV s'.2.2 (c.get 6) l) (fun i' s' c l=>i' = 0∧Bs (obF v0) k0 42 c l∧OwnAt v0 0 47 s'.1 (c.get 0) l∧IsV s'.2.1 (c.get 5) l) (fun r' c l=>False) ?_ hQ ?_ ?_ ?_
  · intro Q1 W1 hgo hex hret
    refine sim_loop ?_ _ _ _ _ _ hf1 ⟨⟨hg,hs,hd⟩,i0,i1,i5,i6⟩ Q1 W1 hgo hex hret
    clear hr hf1 hgo hex hret W1 hQ hg hs hd i0 i1 i5 i6
    intro s1 fl_ a k hr hS Q hQ hgo hex hret
    obtain ⟨⟨hg,hs,hd⟩,i0,i1,i5,i6⟩:=hS
    unfold lease_del_L0 at hr
    refine wp_seq ?_
    refine stepL 4 (_::⟨some (OwnAt v0 0 47 s1.1),[(0,none)]⟩::⟨some (IsL s1.1),[(17,some 1)]⟩::⟨some (IsV (decide (s1.2.2 < (s1.1.length:Int)))),[(16,some 0),(18,some 2)]⟩::[]) rfl ⟨hg,hs,hd⟩ (by kernel_rfl) ⟨mu rfl i6,ob1 rfl fun _ _ g n=>ok_moveOA (.inl rfl) (up i0 g n.1),ob1 rfl fun _ _ g n=>ok_len rfl rfl Tryd.underlying28 n.1.2.rd,ob1 rfl fun _ _ g n=>ok_lss rfl n.1 n.2.1,trivial⟩ [⟨0,OwnAt v0 0 47 s1.1⟩,⟨1,IsFn1 Tryd.prog f⟩,⟨5,IsV s1.2.1⟩,⟨6,IsV s1.2.2⟩,⟨19,IsV (decide (s1.2.2 < (s1.1.length:Int)))⟩] (fun b q p=>⟨p.ke 0 rfl i0,p.ke 1 rfl i1,p.ke 5 rfl i5,p.ke 6 rfl i6,p.ou 3 19 rfl,trivial⟩) ?_
    clear i0 i1 i5 i6
    rintro a k ⟨⟨hg,hs,hd⟩,i0,i1,i5,i6,i19,_⟩
    refine wp_cond_split (isBool i19) (fun hc=>?_) (fun hc=>?_)
    · rw [if_pos hc] at hr
      refine wp_skip ?_
      obtain ⟨x3,hx3,hr⟩:=bind_some hr
      obtain ⟨x4,hx4,hr⟩:=bind_some hr
      obtain ⟨s2,hs2,hr⟩:=bind_some hr
      refine wp_seq ?_
      refine cut (fun a' k'=>Bs (obF v0) k0 42 a' k'∧OwnAt v0 0 47 s2.1 (a'.get 0) k'∧IsFn1 Tryd.prog f (a'.get 1) k'∧IsV s2.2 (a'.get 5) k'∧IsV s1.2.2 (a'.get 6) k') ?_ hQ ?_
      · intro Q2 W2 w2
        clear hQ hgo hex hret hr
        refine wp_block ?_
        refine wp_seq ?_
        refine cut (fun a' k'=>Bs (obF v0) k0 42 a' k'∧OwnAt v0 0 47 s1.1 (a'.get 0) k'∧IsFn1 Tryd.prog f (a'.get 1) k'∧IsV s1.2.1 (a'.get 5) k'∧IsV s1.2.2 (a'.get 6) k'∧IsRef x3 (a'.get 7) k') ?_ W2 ?_
        · intro Q3 W3 w3
          refine gS 5 (⟨some (OwnAt v0 0 47 s1.1),[(0,none)]⟩::_::⟨some (IsPtr x3),[(22,some 0),(23,some 1)]⟩::⟨some (IsV x3),[(24,some 2)]⟩::⟨some (IsBox k.w.heap.size (⟨⟨#[]⟩,0,0,0,0⟩:Portion)),[]⟩::[]) hs (by kernel_rfl) ⟨ob1 rfl fun _ _ g n=>ok_moveOA (.inl rfl) (up i0 g n.1),mu rfl i6,ob1 rfl fun _ _ g n=>ok_indexAddr rfl Tryd.underlying28 ty47 n.1.2.rd n.2.1 hx3,ob1 rfl fun _ _ g n=>ok_load rfl ty47 n.1,ob1 rfl fun _ _ g n=>ok_alloc _ g.size rfl z47,trivial⟩ W3 fun b q p=>?_
          have hgq:=hg.then p.grow
          have hsb:=p.size.trans hs
          have hdb:=p.defers.trans hd
          have j0:OwnAt v0 0 47 s1.1 (b.get 0) q:=p.ke 0 rfl i0
          have j1:=p.ke 1 rfl i1
          have j5:=p.ke 5 rfl i5
          have j6:=p.ke 6 rfl i6
          have j25:IsV x3 (b.get 25) q:=p.ou 3 25 rfl
          obtain ⟨b7,j7,x7,z7⟩:(IsBox k.w.heap.size (⟨⟨#[]⟩,0,0,0,0⟩:Portion)) (b.get 7) q:=p.ou 4 7 rfl
          replace x7:Lo k (Eq b7):=Lo.eq x7
          have y7:Lo k0 (Eq b7):=x7.chg hg
          have w0:Apart (obF v0) (Eq b7):=Apart.new (fun c hc=>i0.2.ltF c (i0.1 ▸ hc)) x7
          have hns:=z7.nshF
          refine tail_storeB (i:=5) rfl rfl rfl rfl szf47 (Upd.self (α:=Portion)) j7 z7 j25 fun q2 hch hz=>?_
          replace hgq:=hgq.step hch y7.wr
          have hle:=hch.le hns
          obtain ⟨q3,hsh,jn⟩:=hz.give
          rw [← hsh.w]
          refine tail_done (k:=q3) (w3 _ _ ⟨⟨hgq.hand hsh y7.wr,hsb,hdb⟩,⟨j0.1,(j0.2.keep hch (by rw [j0.1]; exact w0) hns).handed hsh (by rw [j0.1]; exact w0)⟩,Pers.pers hsh.le (Pers.pers hle j1),Pers.pers hsh.le (Pers.pers hle j5),Pers.pers hsh.le (Pers.pers hle j6),?_⟩)
          rw [← j7] at jn
          exact jn
        clear hg hs hd i0 i1 i5 i6 i19
        rintro a k ⟨⟨hg,hs,hd⟩,i0,i1,i5,i6,i7⟩
        refine stepL 4 (_::⟨some (IsV x3),[(7,none)]⟩::⟨some (IsV x4),[(26,some 0),(27,some 1)]⟩::⟨some (IsV (!x4)),[(28,some 2)]⟩::[]) rfl ⟨hg,hs,hd⟩ (by kernel_rfl) ⟨mu rfl i1,ob1 rfl fun _ _ g n=>ok_load rfl ty47 (up i7 g n.1).ptr,ob1 rfl fun _ _ g n=>ok_callF1 rfl n.1 n.2.1 hx4,ob1 rfl fun _ _ g n=>ok_not rfl n.1,trivial⟩ [⟨0,OwnAt v0 0 47 s1.1⟩,⟨1,IsFn1 Tryd.prog f⟩,⟨5,IsV s1.2.1⟩,⟨6,IsV s1.2.2⟩,⟨7,IsRef x3⟩,⟨29,IsV (!x4)⟩] (fun b q p=>⟨p.ke 0 rfl i0,p.ke 1 rfl i1,p.ke 5 rfl i5,p.ke 6 rfl i6,p.ke 7 rfl i7,p.ou 3 29 rfl,trivial⟩) ?_
        clear i0 i1 i5 i6 i7
        rintro a k ⟨⟨hg,hs,hd⟩,i0,i1,i5,i6,i7,i29,_⟩
        refine wp_cond_split (isBool i29) (fun hc=>?_) (fun hc=>?_)
        · rw [if_pos hc] at hs2
          obtain ⟨x5,hx5,hs2⟩:=bind_some hs2
          obtain ⟨x6,hx6,hs2⟩:=bind_some hs2
          obtain rfl:=Option.some.inj hs2
          obtain ⟨g1,g2,_⟩:=getI_spec hx5
          refine wp_seq ?_
          refine cut (fun a' k'=>Bs (obF v0) k0 42 a' k'∧OwnAt v0 0 47 (s1.1.set s1.2.1.toNat x3) (a'.get 0) k'∧IsFn1 Tryd.prog f (a'.get 1) k'∧IsV s1.2.1 (a'.get 5) k'∧IsV s1.2.2 (a'.get 6) k') ?_ W2 ?_
          · intro Q3 W3 w3
            refine gS 3 (⟨some (OwnAt v0 0 47 s1.1),[(0,none)]⟩::_::⟨some (IsV x3),[(7,none)]⟩::[]) hs (by kernel_rfl) ⟨ob1 rfl fun _ _ g n=>ok_moveOA (.inl rfl) (up i0 g n.1),mu rfl i5,ob1 rfl fun _ _ g n=>ok_load rfl ty47 (up i7 g n.1).ptr,trivial⟩ W3 fun b q p=>?_
            have hgq:=hg.then p.grow
            have hsb:=p.size.trans hs
            have hdb:=p.defers.trans hd
            have j0:OwnAt v0 0 47 s1.1 (b.get 0) q:=p.ke 0 rfl i0
            have j1:=p.ke 1 rfl i1
            have j5:=p.ke 5 rfl i5
            have j6:=p.ke 6 rfl i6
            have j30:OwnAt v0 0 47 s1.1 (b.get 30) q:=p.ou 0 30 rfl
            have j31:IsV s1.2.1 (b.get 31) q:=p.ou 1 31 rfl
            have j32:IsV x3 (b.get 32) q:=p.ou 2 32 rfl
            refine tail_does (i:=3) (d:=33) rfl rfl rfl (by rw [hsb]; decide) W3 (ok_indexO rfl Tryd.underlying28 ty47 j30 j31 hx5) fun b2 q2 hsz hdf hoth hgr h33=>?_
            rw [← hoth 0 (by decide)] at j0
            rw [← hoth 1 (by decide)] at j1
            rw [← hoth 5 (by decide)] at j5
            rw [← hoth 6 (by decide)] at j6
            rw [← hoth 32 (by decide)] at j32
            replace j0:OwnAt v0 0 47 s1.1 (b2.get 0) q2:=Mono.mono hgr j0
            have hns : ∀ c,obF v0 c → ¬ q2.sh c:=fun c hc=>j0.2.nshF c (j0.1 ▸ hc)
            refine tail_storeS (i:=4) (off:=0) rfl rfl rfl rfl szf47 (Upd.self (α:=Portion)) (show IsAdrO v0 (s1.2.1.toNat * Enc.sz Portion + 0) (b2.get 33) q2 from h33) (j0.1 ▸ j0.2) g2 (Pers.pers hgr.le j32) fun q3 hch hz=>?_
            have hle:=hch.le hns
            exact tail_done (k:=q3) (w3 _ _ ⟨⟨(hgq.then hgr).step hch Wr.self,hsz.trans hsb,hdf.trans hdb⟩,⟨j0.1,by rw [j0.1]; exact hz⟩,Pers.pers hle (Pers.pers hgr.le j1),Pers.pers hle (Pers.pers hgr.le j5),Pers.pers hle (Pers.pers hgr.le j6)⟩)
          clear hg hs hd i0 i1 i5 i6 i7 i29
          rintro a k ⟨⟨hg,hs,hd⟩,i0,i1,i5,i6⟩
          refine gS 3 (_::⟨some (IsV x6),[(34,some 0)]⟩::_::[]) hs (by kernel_rfl) ⟨mu rfl i5,ob1 rfl fun _ _ g n=>ok_add rfl n.1 (cI rfl) hx6,cp 1 rfl rfl,trivial⟩ W2 fun b q p=>?_
          exact tail_done (k:=q) (w2 _ _ ⟨Bs.post ⟨hg,hs,hd⟩ p,p.ke 0 rfl i0,p.ke 1 rfl i1,p.ou 2 5 rfl,p.ke 6 rfl i6⟩)
        · rw [if_neg (by rw [hc]; decide)] at hs2
          obtain rfl:=Option.some.inj hs2
          refine wp_skip ?_
          exact w2 _ _ ⟨⟨hg,hs,hd⟩,i0,i1,i5,i6⟩
      clear hg hs hd i0 i1 i5 i6 i19
      rintro a k ⟨⟨hg,hs,hd⟩,i0,i1,i5,i6⟩
      obtain ⟨x5,hx5,hr⟩:=bind_some hr
      refine cut (fun a' k'=>Bs (obF v0) k0 42 a' k'∧OwnAt v0 0 47 s2.1 (a'.get 0) k'∧IsFn1 Tryd.prog f (a'.get 1) k'∧IsV s2.2 (a'.get 5) k'∧IsV x5 (a'.get 6) k') ?_ hQ ?_
      · intro Q3 W3 w3
        refine gS 3 (_::⟨some (IsV x5),[(20,some 0)]⟩::_::[]) hs (by kernel_rfl) ⟨mu rfl i6,ob1 rfl fun _ _ g n=>ok_add rfl n.1 (cI rfl) hx5,cp 1 rfl rfl,trivial⟩ W3 fun b q p=>?_
        exact tail_done (k:=q) (w3 _ _ ⟨Bs.post ⟨hg,hs,hd⟩ p,p.ke 0 rfl i0,p.ke 1 rfl i1,p.ke 5 rfl i5,p.ou 2 6 rfl⟩)
      clear hg hs hd i0 i1 i5 i6
      rintro a k ⟨⟨hg,hs,hd⟩,i0,i1,i5,i6⟩
      exact hgo _ _ _ (Option.some.inj hr).symm ⟨⟨hg,hs,hd⟩,i0,i1,i5,i6⟩
    · rw [if_neg (by rw [hc]; decide)] at hr
      refine wp_exit ?_
      exact hex _ _ _ _ (Option.some.inj hr).symm ⟨rfl,⟨hg,hs,hd⟩,i0,i5⟩
  · rintro r1 a k rfl hR
    exact hR.elim
  · rintro _ _ _ rfl _
    simp at hr
  clear hf1
  rintro _ s2 a k rfl ⟨rfl,⟨hg,hs,hd⟩,i0,i5⟩
  dsimp only at hr
  split at hr
  rotate_left
  · simp at hr
  rename_i hlt
  obtain ⟨⟨_,h1,h2⟩,-⟩:=of_ite hr
  have i5' : IsV ((s2.2.1.toNat:Nat):Int) (a.get 5) k:=by rw [Int.toNat_of_nonneg h1]; exact i5
  refine wp_seq ?_
  refine cut (fun a' k'=>Bs (obF v0) k0 42 a' k'∧OwnAt v0 0 47 (s2.1.take s2.2.1.toNat ++ List.replicate (s2.1.length - s2.2.1.toNat) (⟨⟨#[]⟩,0,0,0,0⟩:Portion)) (a'.get 0) k'∧IsV s2.2.1 (a'.get 5) k') ?_ hQ ?_
  · intro Q3 W3 w3
    refine gS 3 (⟨some (OwnAt v0 0 47 s2.1), [(0, none)]⟩ :: _ :: ⟨some (CutAt v0 s2.2.1.toNat (Enc.sz Portion)), [(36, some 0), (37, some 1)]⟩ :: []) hs (by kernel_rfl) ⟨ob1 rfl fun _ _ g n => ok_moveOA (.inl rfl) (up i0 g n.1), mu rfl i5', ob1 rfl fun _ _ g n => ok_sliceCut rfl Tryd.underlying28 szf47 n.1 n.2.1 hlt, trivial⟩ W3 fun b q p => ?_
    have hgq:=hg.then p.grow
    have j0:OwnAt v0 0 47 s2.1 (b.get 0) q:=p.ke 0 rfl i0
    have j5:=p.ke 5 rfl i5
    have j38:CutAt v0 s2.2.1.toNat (Enc.sz Portion) (b.get 38) q:=p.ou 2 38 rfl
    have hns : ∀ c,obF v0 c → ¬ q.sh c:=fun c hc=>j0.2.nshF c (j0.1 ▸ hc)
    refine tail_clear (i:=3) rfl rfl rfl rfl Tryd.underlying28 z47 hlt j38 (j0.1 ▸ j0.2) fun q2 hch hz=>?_
    exact tail_done (k:=q2) (w3 _ _ ⟨⟨hgq.step hch Wr.self,p.size.trans hs,p.defers.trans hd⟩,⟨j0.1,by rw [j0.1]; exact hz⟩,Pers.pers (hch.le hns) j5⟩)
  clear hg hs hd i0 i5 i5'
  rintro a k ⟨⟨hg,hs,hd⟩,i0,i5⟩
  have hsl:sliceI (s2.1.take s2.2.1.toNat ++ List.replicate (s2.1.length - s2.2.1.toNat) (⟨⟨#[]⟩,0,0,0,0⟩:Portion)) 0 s2.2.1 = some r:=by
    unfold sliceI at hr ⊢
    rw [if_pos ⟨by omega,by omega,by omega⟩] at hr
    rw [if_pos ⟨by omega,by omega,by simp; omega⟩,← hr]
    congr 2
    rw [List.take_append_of_le_length (by simp; omega),List.take_take,Nat.min_self]
  refine stepL 4 (⟨some (OwnAt v0 0 47 (s2.1.take s2.2.1.toNat ++ List.replicate (s2.1.length - s2.2.1.toNat) (⟨⟨#[]⟩,0,0,0,0⟩:Portion))),[(0,none)]⟩::_::⟨some (OwnSub v0 0 47 r),[(39,some 0),(40,some 1)]⟩::_::[]) rfl ⟨hg,hs,hd⟩ (by kernel_rfl) ⟨ob1 rfl fun _ _ g n=>ok_moveOA (.inl rfl) (up i0 g n.1),mu rfl i5,ob1 rfl fun _ _ g n=>ok_sliceO_hi rfl Tryd.underlying28 szf47 n.1 n.2.1 hsl,cp 2 rfl rfl,trivial⟩ [⟨4,OwnSub v0 0 47 r⟩] (fun b q p=>⟨p.ou 3 4 rfl,trivial⟩) ?_
  rintro a k ⟨⟨hg,hs,hd⟩,i4,_⟩
  refine wp_ret ?_
  exact retC1 rfl hd hg (show ResOk _ _ _ (.tmp 4) (OwnSub v0 0 47 _) from i4)

end Go.Proofs.YtljfakcblkdhbaaDoor

namespace Go.Proofs.YtljfakcblkdhbaaDoor
open Go.Gb
set_option linter.unusedVariables false
set_option linter.unusedSimpArgs false
set_option linter.unusedSectionVars false
set_option maxRecDepth 100000
def deskHear (d:DeskV) (p:Portion):Option (DeskV × Portion × Bool × Int):=
  (lease_valid p).bind fun v=>if !v then some (d,zP,false,1) else
  if p.To != d.counter then some (d,zP,false,24) else
  if p.N == 0 then (if d.out.length ≤ 1073741824 then (lease_del d.out (fun q=>lease_hear1 q p)).bind fun o=>some ({ d with out:=o },zP,false,0) else none) else
  (deskTake d p).bind fun t=>if t.2 != 0 then some (t.1,zP,false,t.2) else some (t.1,⟨p.Cap,d.counter,p.From,p.Number,0⟩,true,0)
theorem take_counter {d:DeskV} {p:Portion} {t:DeskV × Int} (h:deskTake d p = some t):t.1.counter = d.counter:=by
  unfold deskTake at h
  split at h
  · obtain rfl:=Option.some.inj h; rfl
  · split at h
    · split at h
      · obtain rfl:=Option.some.inj h; rfl
      · obtain ⟨u, _, h⟩ := bind_some h
        obtain rfl:=Option.some.inj h; rfl
    · obtain ⟨u, _, h⟩ := bind_some h
      split at h
      · obtain rfl:=Option.some.inj h; rfl
      · obtain rfl:=Option.some.inj h; rfl
theorem deskHear_ok {k0:K} {v1:Value} {d:DeskV} {b bl bt:Nat} {h:Value} {T:List LT} {p_:Portion} {r:DeskV × Portion × Bool × Int} (hG:IsRef (⟨-1,0⟩:LeaseKey) (.pointer (some ⟨0,0,none⟩)) k0) (D:DeskO d b bl bt h T k0) (i1:IsV p_ v1 k0) (hr:deskHear d p_ = some r) :
    Calls Tryd.prog 18 #[ptrV b,v1] k0.w (RetC (DF b bl bt h T) k0 (Turn r.1 (ptrV b) (DF b bl bt h T) k0 (IsTup3 (IsV r.2.1) (IsV r.2.2.1) (IsV r.2.2.2)))):=by
  unfold deskHear at hr
  refine enterK Tryd.func18 rfl Tryd.ntmps18 (show 2 ≤ 55 by decide) fun a k hk0 hs hd ha=>?_
  obtain ⟨e0,e1,_⟩:=ha
  have i0:Is (ptrV b) (a.get 0) k:=e0
  replace i1:IsV p_ (a.get 1) k:=by rw [e1,hk0]; exact i1
  have hQ:Gb.LetsOut (bodyPost Tryd.prog Tryd.f18 (RetC (DF b bl bt h T) k0 (Turn r.1 (ptrV b) (DF b bl bt h T) k0 (IsTup3 (IsV r.2.1) (IsV r.2.2.1) (IsV r.2.2.2))))):=letsOutC
  have hg:Chg (DF b bl bt h T) k0 k:=by rw [hk0]; exact Chg.refl _ k0
  have hlt0 : ∀ c,DF b bl bt h T c → c < k0.w.heap.size:=D.lt
  have hns0 : ∀ c,DF b bl bt h T c → ¬ k0.sh c:=D.nsh
  replace D:DeskO d b bl bt h T k:=by rw [hk0]; exact D
  clear e0 e1
  have glob : ∀ {k:K},Chg (DF b bl bt h T) k0 k → IsRef (⟨-1,0⟩:LeaseKey) (.pointer (some ⟨0,0,none⟩)) k:=fun g=>Pers.pers (g.le hns0) hG
  have fin : ∀ {a : Act} {k : K} {d' : DeskV} {G : FP} {p : Portion} {y : Bool} {e : Int} {b4 : Nat}, Bs (DF b bl bt h T) k0 55 a k → DeskR d' G (ptrV b) k → Wr (DF b bl bt h T) k0 G → a.get 4 = ptrV b4 → Box b4 p k → IsV y (a.get 5) k → IsV e (a.get 6) k → r = (d', p, y, e) → bodyPost Tryd.prog Tryd.f18 (RetC (DF b bl bt h T) k0 (Turn r.1 (ptrV b) (DF b bl bt h T) k0 (IsTup3 (IsV r.2.1) (IsV r.2.2.1) (IsV r.2.2.2)))) .ret a k.w := by
    intro a k d' G p y e b4 hB hD hG e4 hb i5 i6 er
    subst er
    exact turn3 rfl hB.d hB.g (resCell e4 hb) i5 i6 ⟨G,hD,hG⟩
  refine wp_seq ?_
  refine cut (fun a' k'=>∃ b4,Bs (DF b bl bt h T) k0 55 a' k'∧Is (ptrV b) (a'.get 0) k'∧IsRef p_ (a'.get 3) k'∧a'.get 4 = ptrV b4∧Box b4 zP k'∧k0.w.heap.size ≤ b4∧DeskO d b bl bt h T k') ?_ hQ ?_
  · intro Q1 W1 w1
    refine gS 4 (⟨some (IsRef p_),[(1,none)]⟩::⟨some (IsBox k.w.heap.size zP),[]⟩::⟨some (IsV false),[]⟩::⟨some (IsI 0),[]⟩::[]) hs (by kernel_rfl) ⟨ob1 rfl fun _ _ g n=>ok_boxR rfl (up i1 g n.1),ob1 rfl fun _ _ g n=>ok_alloc _ g.size rfl z47,ob1 rfl fun _ _ g n=>ok_assign rfl (isV_bool.2 rfl),aI rfl rfl,trivial⟩ W1 fun b' q p=>?_
    obtain ⟨b4,e4,lo4,z4⟩:IsBox k.w.heap.size zP (b'.get 4) q:=p.ou 1 4 rfl
    exact tail_done (k:=q) (w1 _ _ ⟨b4,Bs.post ⟨hg,hs,hd⟩ p,p.ke 0 rfl i0,p.ou 0 3 rfl,e4,z4,Nat.le_trans hg.size lo4,D.grow p.grow⟩)
  clear i0 i1 D hg hs hd
  rintro a k ⟨b4,⟨hg,hs,hd⟩,i0,i3,i4,z4,lo4,D⟩
  replace i4:Is (ptrV b4) (a.get 4) k:=i4
  have hn4 : ¬ DF b bl bt h T b4:=fun hc=>by have:=hlt0 b4 hc; omega
  have out4 : ∀ {k k' : K} {y:Portion},Box b4 y k → DeskO d b bl bt h T k → Chg (Eq b4) k k' → DeskO d b bl bt h T k':=fun hb D g=>D.keep g (fun c hc e=>hn4 (e ▸ hc)) (fun c e=>e ▸ hb.own)
  have w4:Wr (DF b bl bt h T) k0 (Eq b4):=fun c e=>.inr (e ▸ lo4)
  obtain ⟨vl,hvl,hr⟩:=bind_some hr
  refine wp_seq ?_
  refine wp_block ?_
  refine stepL 4 (⟨some (IsV p_),[(3,none)]⟩::⟨some (IsV vl),[(9,some 0)]⟩::⟨some (IsV (!vl)),[(10,some 1)]⟩::_::[]) rfl ⟨hg,hs,hd⟩ (by kernel_rfl) ⟨ob1 rfl fun _ _ g n=>ok_load rfl ty47 (up i3 g n.1).ptr,ob1 rfl fun _ _ g n=>ok_call rfl Tryd.call38 (lease_valid_ok n.1 hvl),ob1 rfl fun _ _ g n=>ok_not rfl n.1,cp 2 rfl rfl,trivial⟩ [⟨_,_⟩,⟨3,IsRef p_⟩,⟨4,Is (ptrV b4)⟩,⟨8,IsV (!vl)⟩,⟨0,fun _ k=>DeskO d b bl bt h T k∧Box b4 zP k⟩] (fun b q p=>⟨p.ke 0 rfl i0,p.ke 3 rfl i3,p.ke 4 rfl i4,p.ou 3 8 rfl,⟨D.grow p.grow,z4.grow p.grow⟩,trivial⟩) ?_
  clear i0 i3 i4 D z4 hg hs hd
  rintro a k ⟨⟨hg,hs,hd⟩,i0,i3,i4,i8,⟨D,z4⟩,_⟩
  refine wp_cond_split (isBool i8) (fun hc=>?_) (fun hc=>?_)
  · rw [if_pos hc] at hr
    obtain rfl:=Option.some.inj hr
    refine wp_seq ?_
    refine cut (fun a' k'=>Bs (DF b bl bt h T) k0 55 a' k'∧Is (ptrV b4) (a'.get 4) k'∧Box b4 zP k'∧DeskO d b bl bt h T k'∧IsV false (a'.get 5) k'∧IsV (1:Int) (a'.get 6) k') ?_ trivial ?_
    · intro Q1 W1 w1
      refine gS 1 (⟨some (IsV zP),[]⟩::[]) hs (by kernel_rfl) ⟨ob1 rfl fun _ _ g n=>ok_build (ps:=[]) rfl bld47_,trivial⟩ W1 fun b' q p=>?_
      have hgq:=hg.then p.grow
      have z4q:=z4.grow p.grow
      have Dq:=D.grow p.grow
      have e4:b'.get 4 = ptrV b4:=(p.old 4 rfl).trans i4
      have jz:IsV zP (b'.get 12) q:=p.ou 0 12 rfl
      refine tail_storeB (i:=1) rfl rfl rfl rfl szf47 (Upd.self (α:=Portion)) e4 z4q jz fun q2 hch hz=>?_
      refine tail_assign (i:=2) (d:=5) rfl rfl (.inl rfl) rfl (by rw [p.size,hs]; decide) fun b2 hsz2 hdf2 e5 hoth2=>?_
      refine tail_assign (i:=3) (d:=6) rfl rfl (.inl rfl) rfl (by rw [hsz2,p.size,hs]; decide) fun b3 hsz3 hdf3 e6 hoth3=>?_
      exact tail_done (k:=q2) (w1 _ _ ⟨⟨hgq.step hch w4,by rw [hsz3,hsz2,p.size,hs],by rw [hdf3,hdf2,p.defers,hd]⟩,(hoth3 4 (by decide)).trans ((hoth2 4 (by decide)).trans e4),hz,out4 z4q Dq hch,isV_bool.2 ((hoth3 5 (by decide)).trans e5),isV_int.2 e6⟩)
    rintro a k ⟨hB,i4,z4,D,i5,i6⟩
    refine wp_ret ?_
    exact fin hB D.r Wr.self i4 z4 i5 i6 rfl
  rw [if_neg (by rw [hc]; decide)] at hr
  clear i8
  refine wp_seq ?_
  refine cut (fun a' k'=>Bs (DF b bl bt h T) k0 55 a' k'∧Is (ptrV b) (a'.get 0) k'∧IsRef p_ (a'.get 3) k'∧Is (ptrV b4) (a'.get 4) k'∧Box b4 zP k'∧DeskO d b bl bt h T k'∧IsV (p_.To != d.counter) (a'.get 13) k') ?_ trivial ?_
  · intro Q1 W1 w1
    refine region (a0:=a) (k0:=k) (n:=55) (m:=8) (⟨some (IsPtr p_.To),[(3,none)]⟩::⟨some (IsV p_.To),[(14,some 0)]⟩::_::⟨some (Is (ptrV b)),[(16,some 2)]⟩::⟨some (IsAdr b 0),[(17,some 3)]⟩::⟨some (IsV d.counter),[(18,some 4)]⟩::⟨some (IsV (p_.To != d.counter)),[(15,some 1),(19,some 5)]⟩::_::[]) hmix hs (by kernel_rfl) ⟨ob1 rfl fun _ _ g n=>ok_fieldAddr rfl fo47_2 (at_Portion_2 _) (up i3 g n.1).ptr,ob1 rfl fun _ _ g n=>ok_load rfl ty3 n.1,mu rfl i0,ob1 rfl fun _ _ g n=>ok_nilCheckV rfl ⟨_,n.1⟩ n.1,ob1 rfl fun _ _ g n=>ok_fieldAdr rfl fo70_0 n.1,ob1 rfl fun _ _ g n=>ok_loadI rfl ty3r n.1 (D.grow g).box rfl,ob1 rfl fun _ _ g n=>ok_neI rfl n.1 n.2.1,cp 6 rfl rfl,trivial⟩ W1 fun b q p=>?_
    exact tail_done (k:=q) (w1 _ _ ⟨Bs.post ⟨hg,hs,hd⟩ p,p.ke 0 rfl i0,p.ke 3 rfl i3,p.ke 4 rfl i4,z4.grow p.grow,D.grow p.grow,p.ou 7 13 rfl⟩)
  clear i0 i3 i4 D z4 hg hs hd
  rintro a k ⟨⟨hg,hs,hd⟩,i0,i3,i4,z4,D,i13⟩
  refine wp_cond_split (isBool i13) (fun hc=>?_) (fun hc=>?_)
  · rw [if_pos hc] at hr
    obtain rfl:=Option.some.inj hr
    refine wp_seq ?_
    refine cut (fun a' k'=>Bs (DF b bl bt h T) k0 55 a' k'∧Is (ptrV b4) (a'.get 4) k'∧Box b4 zP k'∧DeskO d b bl bt h T k'∧IsV false (a'.get 5) k'∧IsV (24:Int) (a'.get 6) k') ?_ trivial ?_
    · intro Q1 W1 w1
      refine gS 1 (⟨some (IsV zP),[]⟩::[]) hs (by kernel_rfl) ⟨ob1 rfl fun _ _ g n=>ok_build (ps:=[]) rfl bld47_,trivial⟩ W1 fun b' q p=>?_
      have hgq:=hg.then p.grow
      have z4q:=z4.grow p.grow
      have Dq:=D.grow p.grow
      have e4:b'.get 4 = ptrV b4:=(p.old 4 rfl).trans i4
      have jz:IsV zP (b'.get 21) q:=p.ou 0 21 rfl
      refine tail_storeB (i:=1) rfl rfl rfl rfl szf47 (Upd.self (α:=Portion)) e4 z4q jz fun q2 hch hz=>?_
      refine tail_assign (i:=2) (d:=5) rfl rfl (.inl rfl) rfl (by rw [p.size,hs]; decide) fun b2 hsz2 hdf2 e5 hoth2=>?_
      refine tail_assign (i:=3) (d:=6) rfl rfl (.inl rfl) rfl (by rw [hsz2,p.size,hs]; decide) fun b3 hsz3 hdf3 e6 hoth3=>?_
      exact tail_done (k:=q2) (w1 _ _ ⟨⟨hgq.step hch w4,by rw [hsz3,hsz2,p.size,hs],by rw [hdf3,hdf2,p.defers,hd]⟩,(hoth3 4 (by decide)).trans ((hoth2 4 (by decide)).trans e4),hz,out4 z4q Dq hch,isV_bool.2 ((hoth3 5 (by decide)).trans e5),isV_int.2 e6⟩)
    rintro a k ⟨hB,i4,z4,D,i5,i6⟩
    refine wp_ret ?_
    exact fin hB D.r Wr.self i4 z4 i5 i6 rfl
  rw [if_neg (by rw [hc]; decide)] at hr
  clear i13
  refine stepL 4 (⟨some (IsPtr p_.N),[(3,none)]⟩::⟨some (IsV p_.N),[(23,some 0)]⟩::⟨some (IsV (p_.N == 0)),[(24,some 1)]⟩::_::[]) rfl ⟨hg,hs,hd⟩ (by kernel_rfl) ⟨ob1 rfl fun _ _ g n=>ok_fieldAddr rfl fo47_4 (at_Portion_4 _) (up i3 g n.1).ptr,ob1 rfl fun _ _ g n=>ok_load rfl ty3 n.1,ob1 rfl fun _ _ g n=>ok_eqI rfl n.1 (cI rfl),cp 2 rfl rfl,trivial⟩ [⟨_,_⟩,⟨3,IsRef p_⟩,⟨4,Is (ptrV b4)⟩,⟨22,IsV (p_.N == 0)⟩,⟨0,fun _ k=>DeskO d b bl bt h T k∧Box b4 zP k⟩] (fun b q p=>⟨p.ke 0 rfl i0,p.ke 3 rfl i3,p.ke 4 rfl i4,p.ou 3 22 rfl,⟨D.grow p.grow,z4.grow p.grow⟩,trivial⟩) ?_
  clear i0 i3 i4 D z4 hg hs hd
  rintro a k ⟨⟨hg,hs,hd⟩,i0,i3,i4,i22,⟨D,z4⟩,_⟩
  refine wp_cond_split (isBool i22) (fun hc=>?_) (fun hc=>?_)
  · rw [if_pos hc] at hr
    split at hr
    rotate_left
    · simp at hr
    rename_i hl
    obtain ⟨o,ho,hr⟩:=bind_some hr
    obtain rfl:=Option.some.inj hr
    refine wp_seq ?_
    refine cut (fun a' k' => ∃ h', Bs (DF b bl bt h T) k0 55 a' k' ∧ Is (ptrV b4) (a'.get 4) k' ∧ Box b4 zP k' ∧ DeskO { d with out := o } b bl bt h' T k' ∧ Wr (DF b bl bt h T) k0 (DF b bl bt h' T) ∧ ¬ DF b bl bt h' T b4) ?_ trivial ?_
    · intro Q1 W1 w1
      refine gS 7 (_::_::⟨some (Is (ptrV b)),[(27,some 1)]⟩::⟨some (IsAdr b 2),[(28,some 2)]⟩::⟨some (OwnAt h 0 47 d.out),[(29,some 3)]⟩::⟨some (IsOwn k.w.heap.size 47 d.out),[(30,some 4)]⟩::⟨some (IsFn1 Tryd.prog fun q=>lease_hear1 q p_),[(3,none)]⟩::[]) hs (by kernel_rfl) ⟨mu rfl i0,mu rfl i0,ob1 rfl fun _ _ g n=>ok_nilCheckV rfl ⟨_,n.1⟩ n.1,ob1 rfl fun _ _ g n=>ok_fieldAdr rfl fo70_2 n.1,ob1 rfl fun _ _ g n=>does_weak (ok_loadC rfl ty28r n.1 (D.grow g).box rfl) fun v k' g' hv=>⟨hv,by rw [show v = h from hv]; exact Mono.mono (g.trans g') D.out⟩,ob1 rfl fun _ _ g n=>does_weak (ok_call rfl Tryd.call37 (cloneR_ok n.1.2.rd hl)) fun v k' g' hv=>hv.weaken g.size,ob1 rfl fun _ _ g n=>ok_makeFunc (first:=[]) (captured:=[.tmp 3]) rfl ⟨40,_,_,rfl,Tryd.call40,fun k' hk x vx y hx hy=>lease_hear1_ok hx (Pers.pers hk (up i3 g n.1)) hy⟩,trivial⟩ W1 fun b' q p=>?_
      have hgq:=hg.then p.grow
      have Dq:=D.grow p.grow
      have z4q:=z4.grow p.grow
      have e4:b'.get 4 = ptrV b4:=(p.old 4 rfl).trans i4
      have j26:b'.get 26 = ptrV b:=(show Is (ptrV b) (b'.get 26) q from p.ou 0 26 rfl)
      have j31:IsOwn k.w.heap.size 47 d.out (b'.get 31) q:=p.ou 5 31 rfl
      have j32:IsFn1 Tryd.prog (fun q=>lease_hear1 q p_) (b'.get 32) q:=p.ou 6 32 rfl
      have hlo:Lo k (obF (b'.get 31)):=j31.loF
      have hsb:=p.size.trans hs
      have hns:=j31.nshF
      have hap:Apart (DF b bl bt h T) (obF (b'.get 31)):=fun c hc e=>by have:=D.lt c hc; have:=hlo c e; omega
      have ha4 : ¬ obF (b'.get 31) b4:=fun e=>by have:=hlo b4 e; have:=z4.lt; omega
      refine tail_call (F:=obF (b'.get 31)) (i:=7) (d:=33) rfl rfl rfl rfl (by rw [hsb]; decide) Tryd.call39 W1 (lease_del_ok (j31.weaken (Nat.zero_le _)) j32 ho) fun b2 q2 hsz2 hdf2 hoth2 hch2 hres=>?_
      obtain ⟨ho2,hsub⟩:=hres
      have D2:=Dq.keep hch2 hap hns
      have z42:=z4q.keep hch2 ha4 hns
      have hg2:=hgq.step hch2 (hlo.chg hg).wr
      refine tail_does (i:=8) (d:=34) rfl rfl rfl (by rw [hsz2,hsb]; decide) W1 (ok_nilCheckV (x:=.tmp 26) rfl ⟨_,show b2.get 26 = ptrV b from (hoth2 26 (by decide)).trans j26⟩ (show Is (ptrV b) (b2.get 26) q2 from (hoth2 26 (by decide)).trans j26)) fun b3 q3 hsz3 hdf3 hoth3 hgr3 j34=>?_
      refine tail_does (i:=9) (d:=35) rfl rfl rfl (by rw [hsz3,hsz2,hsb]; decide) W1 (ok_fieldAdr (x:=.tmp 34) rfl fo70_2 (show IsAdr b 0 (b3.get 34) q3 from j34)) fun b5 q5 hsz5 hdf5 hoth5 hgr5 j35=>?_
      have gr:Grow q2 q5:=hgr3.trans hgr5
      have D5:=D2.grow gr
      have z45:=z42.grow gr
      have ho5:IsOwn 0 47 o (b2.get 33) q5:=Mono.mono gr ho2
      have e33:b5.get 33 = b2.get 33:=(hoth5 33 (by decide)).trans (hoth3 33 (by decide))
      refine tail_storeC (i:=10) (off:=2) (w:=b2.get 33) rfl rfl rfl rfl (by kernel_rfl) (by decide) (show IsAdr b 2 (b5.get 35) q5 from j35) D5.box e33 (own_one ho5) fun q6 hch6 hz6=>?_
      have hlo2 : ∀ c,obF (b2.get 33) c → k.w.heap.size ≤ c:=fun c hc=>hlo c (hsub c hc)
      have nh : ∀ c ∈ dbl b bl bt T,¬ obF (b2.get 33) c:=fun c hc e=>by have:=D.lt c (.inl hc); have:=hlo2 c e; omega
      have hb : ∀ c,b = c → ¬ q5.sh c:=fun c e=>e ▸ D5.box.own
      have D6:=D5.recell (d':={ d with out:=o }) hch6 rfl rfl hz6 (ho5.keep hch6 (fun c hc e=>nh b mem_b (e ▸ hc)) hb) nh
      have nb4 : ¬ b = b4:=fun e=>hn4 (.inl (e ▸ mem_b))
      refine tail_done (k:=q6) (w1 _ _ ⟨_,⟨(hg2.then gr).step hch6 (fun c e=>.inl (.inl (e ▸ mem_b))),by rw [hsz5,hsz3,hsz2,hsb],by rw [hdf5,hdf3,hdf2,p.defers,hd]⟩,(hoth5 4 (by decide)).trans ((hoth3 4 (by decide)).trans ((hoth2 4 (by decide)).trans e4)),z45.keep hch6 nb4 hb,D6,?_,?_⟩)
      · rintro c (hc | hc)
        · exact .inl (.inl hc)
        · exact .inr (Nat.le_trans hg.size (hlo2 c hc))
      · rintro (hc | hc)
        · exact hn4 (.inl hc)
        · have:=hlo2 b4 hc; have:=z4.lt; omega
    clear i0 i3 i4 D z4 hg hs hd hn4 out4 i22 hc
    rintro a k ⟨h', ⟨hg, hs, hd⟩, i4, z4, D, hW, hn4⟩
    replace i4:Is (ptrV b4) (a.get 4) k:=i4
    have out4 : ∀ {k k' : K} {y:Portion},Box b4 y k → DeskO { d with out:=o } b bl bt h' T k → Chg (Eq b4) k k' → DeskO { d with out:=o } b bl bt h' T k':=fun hb D g=>D.keep g (fun c hc e=>hn4 (e ▸ hc)) (fun c e=>e ▸ hb.own)
    refine wp_seq ?_
    refine cut (fun a' k'=>Bs (DF b bl bt h T) k0 55 a' k'∧Is (ptrV b4) (a'.get 4) k'∧Box b4 zP k'∧DeskO { d with out:=o } b bl bt h' T k'∧IsV false (a'.get 5) k'∧IsV (0:Int) (a'.get 6) k') ?_ trivial ?_
    · intro Q1 W1 w1
      refine gS 1 (⟨some (IsV zP),[]⟩::[]) hs (by kernel_rfl) ⟨ob1 rfl fun _ _ g n=>ok_build (ps:=[]) rfl bld47_,trivial⟩ W1 fun b' q p=>?_
      have hgq:=hg.then p.grow
      have z4q:=z4.grow p.grow
      have Dq:=D.grow p.grow
      have e4:b'.get 4 = ptrV b4:=(p.old 4 rfl).trans i4
      have jz:IsV zP (b'.get 36) q:=p.ou 0 36 rfl
      refine tail_storeB (i:=1) rfl rfl rfl rfl szf47 (Upd.self (α:=Portion)) e4 z4q jz fun q2 hch hz=>?_
      refine tail_assign (i:=2) (d:=5) rfl rfl (.inl rfl) rfl (by rw [p.size,hs]; decide) fun b2 hsz2 hdf2 e5 hoth2=>?_
      refine tail_assign (i:=3) (d:=6) rfl rfl (.inl rfl) rfl (by rw [hsz2,p.size,hs]; decide) fun b3 hsz3 hdf3 e6 hoth3=>?_
      exact tail_done (k:=q2) (w1 _ _ ⟨⟨hgq.step hch w4,by rw [hsz3,hsz2,p.size,hs],by rw [hdf3,hdf2,p.defers,hd]⟩,(hoth3 4 (by decide)).trans ((hoth2 4 (by decide)).trans e4),hz,out4 z4q Dq hch,isV_bool.2 ((hoth3 5 (by decide)).trans e5),isV_int.2 e6⟩)
    rintro a k ⟨hB,i4,z4,D,i5,i6⟩
    refine wp_ret ?_
    exact fin hB D.r hW i4 z4 i5 i6 rfl
  rw [if_neg (by rw [hc]; decide)] at hr
  refine wp_skip ?_
  clear i22 hc
  obtain ⟨t,ht,hr⟩:=bind_some hr
  have ec:=take_counter ht
  refine wp_seq ?_
  refine wp_seq ?_
  refine cut (fun a' k' => ∃ bl' bt' h' T', Bs (DF b bl bt h T) k0 55 a' k' ∧ Is (ptrV b) (a'.get 0) k' ∧ IsRef p_ (a'.get 3) k' ∧ Is (ptrV b4) (a'.get 4) k' ∧ Box b4 zP k' ∧ DeskO t.1 b bl' bt' h' T' k' ∧ Wr (DF b bl bt h T) k0 (DF b bl' bt' h' T') ∧ ¬ DF b bl' bt' h' T' b4 ∧ IsV t.2 (a'.get 7) k') ?_ trivial ?_
  · intro Q1 W1 w1
    refine gS 2 (_::⟨some (IsV p_),[(3,none)]⟩::[]) hs (by kernel_rfl) ⟨mu rfl i0,ob1 rfl fun _ _ g n=>ok_load rfl ty47 (up i3 g n.1).ptr,trivial⟩ W1 fun b' q p=>?_
    have hgq:=hg.then p.grow
    have Dq:=D.grow p.grow
    have z4q:=z4.grow p.grow
    have hsb:=p.size.trans hs
    have l0:b'.get 0 = ptrV b:=(p.old 0 rfl).trans i0
    have l3:=p.ke 3 rfl i3
    have l4:b'.get 4 = ptrV b4:=(p.old 4 rfl).trans i4
    have j37:b'.get 37 = ptrV b:=(show Is (ptrV b) (b'.get 37) q from p.ou 0 37 rfl)
    have j38:IsV p_ (b'.get 38) q:=p.ou 1 38 rfl
    have hns:=Dq.nsh
    refine tail_call (F:=DF b bl bt h T) (i:=2) (d:=39) (as_:=[.tmp 37,.tmp 38]) rfl rfl rfl rfl (by rw [hsb]; decide) Tryd.call41 W1 (by show Calls Tryd.prog 41 #[b'.get 37,b'.get 38] _ _; rw [j37]; exact deskTake_ok (glob hgq) Dq j38 ht) fun b2 q2 hsz2 hdf2 hoth2 hch2 hres=>?_
    obtain ⟨⟨G, ⟨b_, bl', bt', h', T', eb, D2, rfl⟩, hW⟩, j39⟩ := hres
    obtain rfl:b = b_:=by simpa [ptrV] using eb
    refine tail_assign (i:=3) (d:=7) rfl rfl (.inl rfl) rfl (by rw [hsz2,hsb]; decide) fun b3 hsz3 hdf3 e7 hoth3=>?_
    refine tail_done (k := q2) (w1 _ _ ⟨bl', bt', h', T', ⟨hgq.step hch2 Wr.self, by rw [hsz3, hsz2, hsb], by rw [hdf3, hdf2, p.defers, hd]⟩, (hoth3 0 (by decide)).trans ((hoth2 0 (by decide)).trans l0), ?_, (hoth3 4 (by decide)).trans ((hoth2 4 (by decide)).trans l4), z4q.keep hch2 hn4 hns, D2, fun c hc => ?_, fun hc => ?_, isV_int.2 (e7.trans (isV_int.1 j39))⟩)
    · rw [hoth3 3 (by decide), hoth2 3 (by decide)]
      exact Pers.pers (hch2.le hns) l3
    · rcases hW c hc with hc | hc
      · exact .inl hc
      · exact .inr (Nat.le_trans hgq.size hc)
    · rcases hW b4 hc with hc | hc
      · exact hn4 hc
      · have:=z4q.lt; omega
  clear i0 i3 i4 D z4 hg hs hd hn4 out4
  rintro a k ⟨bl', bt', h', T', ⟨hg, hs, hd⟩, i0, i3, i4, z4, D, hW, hn4, i7⟩
  have out4 : ∀ {k k' : K} {y:Portion},Box b4 y k → DeskO t.1 b bl' bt' h' T' k → Chg (Eq b4) k k' → DeskO t.1 b bl' bt' h' T' k':=fun hb D g=>D.keep g (fun c hc e=>hn4 (e ▸ hc)) (fun c e=>e ▸ hb.own)
  refine stepL 2 (_::⟨some (IsV (t.2 != 0)),[(40,some 0)]⟩::[]) rfl ⟨hg,hs,hd⟩ (by kernel_rfl) ⟨mu rfl i7,ob1 rfl fun _ _ g n=>ok_neI rfl n.1 (cI rfl),trivial⟩ [⟨_,_⟩,⟨3,IsRef p_⟩,⟨4,Is (ptrV b4)⟩,⟨7,IsV t.2⟩,⟨41,IsV (t.2 != 0)⟩,⟨0,fun _ k=>DeskO t.1 b bl' bt' h' T' k∧Box b4 zP k⟩] (fun b q p=>⟨p.ke 0 rfl i0,p.ke 3 rfl i3,p.ke 4 rfl i4,p.ke 7 rfl i7,p.ou 1 41 rfl,⟨D.grow p.grow,z4.grow p.grow⟩,trivial⟩) ?_
  clear i0 i3 i4 D z4 hg hs hd i7
  rintro a k ⟨⟨hg,hs,hd⟩,i0,i3,i4,i7,i41,⟨D,z4⟩,_⟩
  refine wp_cond_split (isBool i41) (fun hc=>?_) (fun hc=>?_)
  · rw [if_pos hc] at hr
    obtain rfl:=Option.some.inj hr
    refine wp_seq ?_
    refine cut (fun a' k'=>Bs (DF b bl bt h T) k0 55 a' k'∧Is (ptrV b4) (a'.get 4) k'∧Box b4 zP k'∧DeskO t.1 b bl' bt' h' T' k'∧IsV false (a'.get 5) k'∧IsV t.2 (a'.get 6) k') ?_ trivial ?_
    · intro Q1 W1 w1
      refine gS 2 (⟨some (IsV zP),[]⟩::_::[]) hs (by kernel_rfl) ⟨ob1 rfl fun _ _ g n=>ok_build (ps:=[]) rfl bld47_,mu rfl i7,trivial⟩ W1 fun b' q p=>?_
      have hgq:=hg.then p.grow
      have z4q:=z4.grow p.grow
      have Dq:=D.grow p.grow
      have e4:b'.get 4 = ptrV b4:=(p.old 4 rfl).trans i4
      have jz:IsV zP (b'.get 42) q:=p.ou 0 42 rfl
      have j43:IsV t.2 (b'.get 43) q:=p.ou 1 43 rfl
      refine tail_storeB (i:=2) rfl rfl rfl rfl szf47 (Upd.self (α:=Portion)) e4 z4q jz fun q2 hch hz=>?_
      refine tail_assign (i:=3) (d:=5) rfl rfl (.inl rfl) rfl (by rw [p.size,hs]; decide) fun b2 hsz2 hdf2 e5 hoth2=>?_
      refine tail_assign (i:=4) (d:=6) rfl rfl (.inl rfl) rfl (by rw [hsz2,p.size,hs]; decide) fun b3 hsz3 hdf3 e6 hoth3=>?_
      exact tail_done (k:=q2) (w1 _ _ ⟨⟨hgq.step hch w4,by rw [hsz3,hsz2,p.size,hs],by rw [hdf3,hdf2,p.defers,hd]⟩,(hoth3 4 (by decide)).trans ((hoth2 4 (by decide)).trans e4),hz,out4 z4q Dq hch,isV_bool.2 ((hoth3 5 (by decide)).trans e5),isV_int.2 (e6.trans ((hoth2 43 (by decide)).trans (isV_int.1 j43)))⟩)
    rintro a k ⟨hB,i4,z4,D,i5,i6⟩
    refine wp_ret ?_
    exact fin hB D.r hW i4 z4 i5 i6 rfl
  rw [if_neg (by rw [hc]; decide)] at hr
  obtain rfl:=Option.some.inj hr
  refine wp_skip ?_
  refine wp_seq ?_
  refine cut (fun a' k'=>Bs (DF b bl bt h T) k0 55 a' k'∧Is (ptrV b4) (a'.get 4) k'∧Box b4 (⟨p_.Cap,d.counter,p_.From,p_.Number,0⟩:Portion) k'∧DeskO t.1 b bl' bt' h' T' k'∧IsV true (a'.get 5) k'∧IsV (0:Int) (a'.get 6) k') ?_ hQ ?_
  · intro Q1 W1 w1
    refine region (a0:=a) (k0:=k) (n:=55) (m:=11) (⟨some (IsPtr p_.Cap),[(3,none)]⟩::⟨some (IsV p_.Cap),[(44,some 0)]⟩::_::⟨some (Is (ptrV b)),[(46,some 2)]⟩::⟨some (IsAdr b 0),[(47,some 3)]⟩::⟨some (IsV d.counter),[(48,some 4)]⟩::⟨some (IsPtr p_.From),[(3,none)]⟩::⟨some (IsV p_.From),[(50,some 6)]⟩::⟨some (IsPtr p_.Number),[(3,none)]⟩::⟨some (IsV p_.Number),[(52,some 8)]⟩::⟨some (IsV (⟨p_.Cap,d.counter,p_.From,p_.Number,0⟩:Portion)),[(45,some 1),(49,some 5),(51,some 7),(53,some 9)]⟩::[]) hmix hs (by kernel_rfl) ⟨ob1 rfl fun _ _ g n=>ok_fieldAddr rfl fo47_0 (at_Portion_0 _) (up i3 g n.1).ptr,ob1 rfl fun _ _ g n=>ok_load rfl ty9 n.1,mu rfl i0,ob1 rfl fun _ _ g n=>ok_nilCheckV rfl ⟨_,n.1⟩ n.1,ob1 rfl fun _ _ g n=>ok_fieldAdr rfl fo70_0 n.1,ob1 rfl fun _ _ g n=>by rw [← ec]; exact ok_loadI rfl ty3r n.1 (D.grow g).box rfl,ob1 rfl fun _ _ g n=>ok_fieldAddr rfl fo47_1 (at_Portion_1 _) (up i3 g n.1).ptr,ob1 rfl fun _ _ g n=>ok_load rfl ty3 n.1,ob1 rfl fun _ _ g n=>ok_fieldAddr rfl fo47_3 (at_Portion_3 _) (up i3 g n.1).ptr,ob1 rfl fun _ _ g n=>ok_load rfl ty3 n.1,ob1 rfl fun _ _ g n=>ok_build rfl (bld47_0_1_2_3 n.1 n.2.1 n.2.2.1 n.2.2.2.1),trivial⟩ W1 fun b' q p=>?_
    have hgq:=hg.then p.grow
    have z4q:=z4.grow p.grow
    have Dq:=D.grow p.grow
    have e4:b'.get 4 = ptrV b4:=(p.old 4 rfl).trans i4
    have jz:IsV (⟨p_.Cap,d.counter,p_.From,p_.Number,0⟩:Portion) (b'.get 54) q:=p.ou 10 54 rfl
    refine tail_storeB (i:=11) rfl rfl rfl rfl szf47 (Upd.self (α:=Portion)) e4 z4q jz fun q2 hch hz=>?_
    refine tail_assign (i:=12) (d:=5) rfl rfl (.inl rfl) rfl (by rw [p.size,hs]; decide) fun b2 hsz2 hdf2 e5 hoth2=>?_
    refine tail_assign (i:=13) (d:=6) rfl rfl (.inl rfl) rfl (by rw [hsz2,p.size,hs]; decide) fun b3 hsz3 hdf3 e6 hoth3=>?_
    exact tail_done (k:=q2) (w1 _ _ ⟨⟨hgq.step hch w4,by rw [hsz3,hsz2,p.size,hs],by rw [hdf3,hdf2,p.defers,hd]⟩,(hoth3 4 (by decide)).trans ((hoth2 4 (by decide)).trans e4),hz,out4 z4q Dq hch,isV_bool.2 ((hoth3 5 (by decide)).trans e5),isV_int.2 e6⟩)
  rintro a k ⟨hB,i4,z4,D,i5,i6⟩
  refine wp_ret ?_
  exact fin hB D.r hW i4 z4 i5 i6 rfl

end Go.Proofs.YtljfakcblkdhbaaDoor

