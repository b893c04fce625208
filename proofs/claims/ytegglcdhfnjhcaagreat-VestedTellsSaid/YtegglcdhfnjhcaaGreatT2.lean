/- What the functions compute that the law reaches, part 2 -/
import Derived.Test.YtegglcdhfnjhcaaGreatT1
set_option linter.unusedVariables false
set_option linter.unusedSimpArgs false
set_option linter.unusedSectionVars false
namespace Go.Proofs.YtegglcdhfnjhcaaGreat
open Go.Gb
set_option maxRecDepth 100000
def mc (x_:Int) (units_:Int):Option (af):=
 (aD x_ 1).bind fun x1=>
 some (⟨(⟨(⟨x_,0,x1,1⟩:aw),0,3⟩:Box),0,units_,false⟩:af)
noncomputable def k32:=mk 32 [.int,.int] [.st 4] (fun x=>mc x.1 x.2) [] [4] Tryz.f32 (.n) Tryz.func32 Tryz.call32 rfl rfl fun x=>by kernel_rfl
def lH (units_:Int):Option (aq × (List ax)):=
 (mc 1 60).bind fun x1=>
 (mc 3 units_).bind fun x2=>
 some ((⟨(⟨[],[],[],[],[(⟨(⟨#[99]⟩:ByteArray),0,100,[(⟨0,0⟩:aT),(⟨9,0⟩:aT),(⟨9,9⟩:aT),(⟨0,9⟩:aT)]⟩:Cap)],[],[],0⟩:an),[],[],[],[],[]⟩:aq),[(⟨1,0,(⟨0,[(⟨[x1],[]⟩:Phase),(⟨[],[(⟨(⟨#[99]⟩:ByteArray),30⟩:Entry)]⟩:Phase)]⟩:aE),0,0,false⟩:ax),(⟨2,0,(⟨1,[(⟨[x2],[]⟩:Phase)]⟩:aE),0,0,false⟩:ax)])
noncomputable def k31:=mk 31 [.int] [.st 7,.list (.st 30)] (fun x=>lH x) [k32] [2] Tryz.f31 (.n) Tryz.func31 Tryz.call31 rfl rfl fun x=>by kernel_rfl
def lO (n_:Int):Option (Int):=
 some (min (max n_ (-1099511627776)) 1099511627776)
noncomputable def k35:=mk 35 [.int] [.int] (fun x=>lO x) [] [] Tryz.f35 (.n) Tryz.func35 Tryz.call35 rfl rfl fun x=>by kernel_rfl
theorem uo {k0:K} {v0:Value} {x0:Int} {r:Int} (i0:(IsV x0) v0 k0) (hr:lO x0 = some r):Calls Tryz.prog 35 #[v0] k0.w (Ret k0 (IsV r)):=(k35.ok.ok k0 [v0] x0 r (GOk.none (fun _=>rfl) fun _ e=>by cases e) i0 hr)
def mD (l_:(List Entry)) (c_:Cap) (s1:Int × Int):Option (aN (Int × Int) (Int)):=
 if (decide (s1.2 < (l_.length:Int))) then
  (au l_ s1.2).bind fun x1=>
  (if ((x1.Name.toList == c_.Name.toList)) then
   (lO x1.N).bind fun x2=>
   (aD s1.1 x2).bind fun x3=>
   some x3
  else
   some s1.1).bind fun s2=>
  (aD s1.2 1).bind fun x4=>
  some (.go (s2,x4))
 else
  some (.ex 0 (s1.1,s1.2))
def og (l_:(List Entry)) (c_:Cap):Option (Int):=
 (ah (mD l_ c_) (l_.length + 1) (0,0)).bind fun f1=>match f1 with
  | .go _=>none
  | .ex _ s1=>
   some s1.1
  | .ret r1=>some r1
noncomputable def k50:=mk 50 [.list (.st 6),.st 15] [.int] (fun x=>og x.1 x.2) [k35] [] Tryz.f50 (.s .n (.s .n (.s (.s .n (.l [] [(5,.v .int),(10,.v .int)] [(0,[10],[])] (fI 9) (.s .n (.s .n (.s (.s .n (.s .n (.j [] [(5,.v .int)] ([],[]) (.s .n .n)))) .n))))) .n))) Tryz.func50 Tryz.call50 rfl rfl fun x=>by kernel_rfl
def gk (r_:aw):Option (Bool):=
 some ((((((decide (0 ≤ r_.X0)) && (decide (r_.X0 < r_.X1))) && (decide (r_.X1 ≤ 1048576))) && (decide (0 ≤ r_.Y0))) && (decide (r_.Y0 < r_.Y1))) && (decide (r_.Y1 ≤ 1048576)))
noncomputable def k99:=mk 99 [.st 2] [.bool] (fun x=>gk x) [] [] Tryz.f99 (.n) Tryz.func99 Tryz.call99 rfl rfl fun x=>by kernel_rfl
def bP (v_:af):Option (Bool):=
 (gk v_.Box.Base).bind fun x1=>
 if ((((!x1) || (decide (v_.Box.Z0 < 0))) || (decide (v_.Box.Z1 ≤ v_.Box.Z0))) || (decide (4096 < v_.Box.Z1))) then
  some false
 else
  if ((v_.Use != 0) && (v_.Units != 0)) then
   some false
  else
   some ((((decide (0 ≤ v_.Use)) && (decide (v_.Use < 6))) && (decide (0 ≤ v_.Units))) && (decide (v_.Units ≤ 1048576)))
noncomputable def k75:=mk 75 [.st 4] [.bool] (fun x=>bP x) [k99] [] Tryz.f75 (.n) Tryz.func75 Tryz.call75 rfl rfl fun x=>by kernel_rfl
def cS (p_:(List aT)) (s1:(List bj) × Int):Option (aN ((List bj) × Int) ((List bj))):=
 if (decide (s1.2 < (p_.length:Int))) then
  (au p_ s1.2).bind fun x1=>
  (aD s1.2 1).bind fun x2=>
  (nm x2 (p_.length:Int)).bind fun x3=>
  (au p_ x3).bind fun x4=>
  (au s1.1 s1.2).bind fun x5=>
  (some (s1.1.set (s1.2).toNat (⟨x1,x4⟩:bj))).bind fun x6=>
  (aD s1.2 1).bind fun x7=>
  some (.go (x6,x7))
 else
  some (.ex 0 (s1.1,s1.2))
def dD (p_:(List aT)):Option ((List bj)):=
 (xK (p_.length:Int) (⟨(⟨0,0⟩:aT),(⟨0,0⟩:aT)⟩:bj)).bind fun x1=>
 (ah (cS p_) (p_.length + 1) (x1,0)).bind fun f1=>match f1 with
  | .go _=>none
  | .ex _ s1=>
   some s1.1
  | .ret r1=>some r1
noncomputable def JX:=mk 103 [.list (.st 1)] [.list (.st 0)] (fun x=>dD x) [] [3,7] Tryz.f103 (.s .n (.s .n (.s (.s .n (.l [] [(3,.o 155 (.st 0)),(10,.v .int)] [(0,[10],[])] (fI 9) .n)) (.s (.f [3] .n) .n)))) Tryz.func103 Tryz.call103 rfl rfl fun x=>by kernel_rfl
def kB (p_:aT):Option (Bool):=
 some ((((decide (0 ≤ p_.X)) && (decide (p_.X ≤ 1048576))) && (decide (0 ≤ p_.Y))) && (decide (p_.Y ≤ 1048576)))
noncomputable def LA:=mk 128 [.st 1] [.bool] (fun x=>kB x) [] [] Tryz.f128 (.n) Tryz.func128 Tryz.call128 rfl rfl fun x=>by kernel_rfl
def bp (s_:bj):Option (Bool):=
 some (s_.a.X == s_.b.X)
noncomputable def JF:=mk 104 [.st 0] [.bool] (fun x=>bp x) [] [] Tryz.f104 (.n) Tryz.func104 Tryz.call104 rfl rfl fun x=>by kernel_rfl
def cmp_isNaN_int (x_:Int):Option (Bool):=
 some (x_ != x_)
noncomputable def KC:=mk 167 [.int] [.bool] (fun x=>cmp_isNaN_int x) [] [] Tryz.f167 (.n) Tryz.func167 Tryz.call167 rfl rfl fun x=>by kernel_rfl
def cq (x_:Int) (y_:Int):Option (Int):=
 (cmp_isNaN_int x_).bind fun x1=>
 (cmp_isNaN_int y_).bind fun x2=>
 if x1 then
  if x2 then
   some 0
  else
   some (-1)
 else
  if x2 then
   some 1
  else
   if (decide (x_ < y_)) then
    some (-1)
   else
    if (decide (y_ < x_)) then
     some 1
    else
     some 0
noncomputable def H9:=mk 150 [.int,.int] [.int] (fun x=>cq x.1 x.2) [KC] [] Tryz.f150 (.n) Tryz.func150 Tryz.call150 rfl rfl fun x=>by kernel_rfl
def gK (vals_:(List Int)) (s1:Int):Option (aN (Int) (Int)):=
 if (decide (s1 < (vals_.length:Int))) then
  (au vals_ s1).bind fun x1=>
  if (x1 != 0) then
   some (.ret x1)
  else
   (aD s1 1).bind fun x2=>
   some (.go x2)
 else
  some (.ex 0 s1)
def kR (vals_:(List Int)):Option (Int):=
 (ah (gK vals_) (vals_.length + 1) 0).bind fun f1=>match f1 with
  | .go _=>none
  | .ex _ _=>
   some 0
  | .ret r1=>some r1
noncomputable def Kl:=mk 149 [.list .int] [.int] (fun x=>kR x) [] [] Tryz.f149 (.s .n (.s .n (.s (.s .n (.l [] [(8,.v .int)] [(0,[8],[])] (fI 7) .n)) .n))) Tryz.func149 Tryz.call149 rfl rfl fun x=>by kernel_rfl
def dg (a_:aT) (b_:aT):Option (Int):=
 (cq a_.X b_.X).bind fun x1=>
 (cq a_.Y b_.Y).bind fun x2=>
 (kR ([x1,x2])).bind fun x3=>
 some x3
noncomputable def Lq:=mk 129 [.st 1,.st 1] [.int] (fun x=>dg x.1 x.2) [H9,Kl] [] Tryz.f129 (.n) Tryz.func129 Tryz.call129 rfl rfl fun x=>by kernel_rfl
def ig (s_:bj) (t_:bj):Option (Bool):=
 some ((decide ((max (min s_.a.X s_.b.X) (min t_.a.X t_.b.X)) ≤ (min (max s_.a.X s_.b.X) (max t_.a.X t_.b.X)))) && (decide ((max (min s_.a.Y s_.b.Y) (min t_.a.Y t_.b.Y)) ≤ (min (max s_.a.Y s_.b.Y) (max t_.a.Y t_.b.Y)))))
noncomputable def Kg:=mk 130 [.st 0,.st 0] [.bool] (fun x=>ig x.1 x.2) [] [] Tryz.f130 (.n) Tryz.func130 Tryz.call130 rfl rfl fun x=>by kernel_rfl
def bQ (p_:(List aT)) (x1:(List bj)) (s1:Int):Option (aN (Int) (Bool)):=
 if (decide (s1 < (x1.length:Int))) then
  (au x1 s1).bind fun x2=>
  (aD s1 1).bind fun x3=>
  (nm x3 (x1.length:Int)).bind fun x4=>
  (au x1 x4).bind fun x5=>
  (kB x2.a).bind fun x6=>
  (if ((!x6) || ((x2.a.X == x2.b.X) == (x2.a.Y == x2.b.Y))) then
   some true
  else
   (bp x2).bind fun x7=>
   (bp x5).bind fun x8=>
   some (x7 == x8)).bind fun x9=>
  if x9 then
   some (.ret false)
  else
   (if (decide (0 < s1)) then
    (au p_ 0).bind fun x10=>
    (au p_ s1).bind fun x11=>
    (dg x10 x11).bind fun x12=>
    some (decide (0 ≤ x12))
   else
    some false).bind fun x13=>
   if x13 then
    some (.ret false)
   else
    (aD s1 1).bind fun x14=>
    some (.go x14)
 else
  some (.ex 0 s1)
def bh (x1:(List bj)) (s1:Int) (s2:Int):Option (aN (Int) (Bool)):=
 if (decide (s2 < (x1.length:Int))) then
  (aD s1 (x1.length:Int)).bind fun x2=>
  (bZ x2 s2).bind fun x3=>
  (if (decide (1 < x3)) then
   (au x1 s1).bind fun x4=>
   (au x1 s2).bind fun x5=>
   (ig x4 x5).bind fun x6=>
   some x6
  else
   some false).bind fun x7=>
  if x7 then
   some (.ret false)
  else
   (aD s2 1).bind fun x8=>
   some (.go x8)
 else
  some (.ex 4 s2)
def ef (x1:(List bj)) (s1:Int):Option (aN (Int) (Bool)):=
 if (decide (s1 < (x1.length:Int))) then
  (aD s1 2).bind fun x2=>
  (ah (bh x1 s1) (x1.length + 1) x2).bind fun f1=>match f1 with
   | .go _=>none
   | .ex _ _=>
    (aD s1 1).bind fun x3=>
    some (.go x3)
   | .ret r1=>some (.ret r1)
 else
  some (.ex 2 s1)
def fu (p_:(List aT)):Option (Bool):=
 if ((decide ((p_.length:Int) < 4)) || (decide (60 < (p_.length:Int)))) then
  some false
 else
  (dD p_).bind fun x1=>
  (ah (bQ p_ x1) (x1.length + 1) 0).bind fun f1=>match f1 with
   | .go _=>none
   | .ex _ _ =>
    (ah (ef x1) (x1.length + 1) 0).bind fun f2=>match f2 with
     | .go _=>none
     | .ex _ _=>
      (au x1 0).bind fun x2=>
      (bp x2).bind fun x3=>
      some (!x3)
     | .ret r1=>some r1
   | .ret r2=>some r2
noncomputable def Lx:=mk 100 [.list (.st 1)] [.bool] (fun x=>fu x) [JX,LA,JF,Lq,Kg] [] Tryz.f100 (.s .n (.s .n (.s .n (.s (.s .n (.l [] [(21,.v .int)] [(0,[21],[])] (fI 20) .n)) (.s (.s .n (.l [] [(78,.v .int)] [(2,[78],[])] (fI 77) (.s .n (.s .n (.s (.s .n (.s .n (.l [] [(8,.v .int)] [(4,[8],[])] (fL [3]) .n))) .n))))) .n))))) Tryz.func100 Tryz.call100 rfl rfl fun x=>by kernel_rfl
section
open Go.Proofs Go.RowKit Go.Lib Go.Sort Go.Shelf
def Tryz.wF:Go.Shelf.Ren:=⟨fun | 189=>101 | 125=>132 | 257=>131 | 128=>160 | 129=>161 | 294=>151 | 295=>152 | 296=>153 | 297=>154 | 298=>155 | 299=>156 | 216=>157 | 300=>158 | 301=>159 | 328=>168 | 329=>169 | 330=>170 | 331=>171 | 332=>172 | 215=>167 | 343=>177 | n=>n,fun | 28=>67 | 3=>3 | 46=>179 | 0=>0 | 51=>207 | 53=>209 | 4=>4 | 183=>199 | 182=>198 | 131=>204 | 5=>5 | 9=>9 | 218=>214 | 222=>218 | 228=>221 | 229=>222 | n=>n,fun | n=>n⟩
theorem Tryz.wK:Go.Proofs.Lays.n189 Tryz.prog Tryz.wF:={
 mixed:=by kernel_rfl,
 f125:=Tryz.func132.trans (congrArg some (by kernel_rfl)),
 f128:=Tryz.func160.trans (congrArg some (by kernel_rfl)),
 f129:=Tryz.func161.trans (congrArg some (by kernel_rfl)),
 f189:=Tryz.func101.trans (congrArg some (by kernel_rfl)),
 f215:=Tryz.func167.trans (congrArg some (by kernel_rfl)),
 f216:=Tryz.func157.trans (congrArg some (by kernel_rfl)),
 f257:=Tryz.func131.trans (congrArg some (by kernel_rfl)),
 f294:=Tryz.func151.trans (congrArg some (by kernel_rfl)),
 f295:=Tryz.func152.trans (congrArg some (by kernel_rfl)),
 f296:=Tryz.func153.trans (congrArg some (by kernel_rfl)),
 f297:=Tryz.func154.trans (congrArg some (by kernel_rfl)),
 f298:=Tryz.func155.trans (congrArg some (by kernel_rfl)),
 f299:=Tryz.func156.trans (congrArg some (by kernel_rfl)),
 f300:=Tryz.func158.trans (congrArg some (by kernel_rfl)),
 f301:=Tryz.func159.trans (congrArg some (by kernel_rfl)),
 f328:=Tryz.func168.trans (congrArg some (by kernel_rfl)),
 f329:=Tryz.func169.trans (congrArg some (by kernel_rfl)),
 f330:=Tryz.func170.trans (congrArg some (by kernel_rfl)),
 f331:=Tryz.func171.trans (congrArg some (by kernel_rfl)),
 f332:=Tryz.func172.trans (congrArg some (by kernel_rfl)),
 f343:=Tryz.func177.trans (congrArg some (by kernel_rfl)),
 t0:=Tryz.underlying0,
 a0:=Tryz.isAgg0,
 z0:=Tryz.sizeOf0,
 v0:=Tryz.zeroValue0,
 t3:=Tryz.underlying3,
 a3:=Tryz.isAgg3,
 z3:=Tryz.sizeOf3,
 v3:=Tryz.zeroValue3,
 t4:=Tryz.underlying4,
 a4:=Tryz.isAgg4,
 z4:=Tryz.sizeOf4,
 v4:=Tryz.zeroValue4,
 t5:=Tryz.underlying5,
 a5:=Tryz.isAgg5,
 z5:=Tryz.sizeOf5,
 v5:=Tryz.zeroValue5,
 t9:=Tryz.underlying9,
 a9:=Tryz.isAgg9,
 z9:=Tryz.sizeOf9,
 v9:=Tryz.zeroValue9,
 t28:=Tryz.underlying67,
 a28:=Tryz.isAgg67,
 z28:=Tryz.sizeOf67,
 v28:=Tryz.zeroValue67,
 t46:=Tryz.underlying179,
 a46:=Tryz.isAgg179,
 z46:=Tryz.sizeOf179,
 v46:=Tryz.zeroValue179,
 t51:=Tryz.underlying207,
 a51:=Tryz.isAgg207,
 z51:=Tryz.sizeOf207,
 v51:=Tryz.zeroValue207,
 t53:=Tryz.underlying209,
 a53:=Tryz.isAgg209,
 z53:=Tryz.sizeOf209,
 v53:=Tryz.zeroValue209,
 t131:=Tryz.underlying204,
 a131:=Tryz.isAgg204,
 z131:=Tryz.sizeOf204,
 v131:=Tryz.zeroValue204,
 t182:=Tryz.underlying198,
 a182:=Tryz.isAgg198,
 z182:=Tryz.sizeOf198,
 v182:=Tryz.zeroValue198,
 t183:=Tryz.underlying199,
 a183:=Tryz.isAgg199,
 z183:=Tryz.sizeOf199,
 v183:=Tryz.zeroValue199,
 t218:=Tryz.underlying214,
 a218:=Tryz.isAgg214,
 z218:=Tryz.sizeOf214,
 v218:=Tryz.zeroValue214,
 t222:=Tryz.underlying218,
 a222:=Tryz.isAgg218,
 z222:=Tryz.sizeOf218,
 v222:=Tryz.zeroValue218,
 t228:=Tryz.underlying221,
 a228:=Tryz.isAgg221,
 z228:=Tryz.sizeOf221,
 v228:=Tryz.zeroValue221,
 t229:=Tryz.underlying222,
 a229:=Tryz.isAgg222,
 z229:=Tryz.sizeOf222,
 v229:=Tryz.zeroValue222 }
theorem AB {k0:K} {v0:Value} {l r:List Int} (i0:ay 0 3 l v0 k0) (hr:gE l = some r):Calls Tryz.prog 101 #[v0] k0.w (dw (obF v0) k0 fun _ k'=>ay 0 3 r v0 k'):=by
 unfold gE at hr
 split at hr
 ·rename_i hl
  obtain rfl:=Option.some.inj hr
  refine Dg (S:=fun l=>l.mergeSort fun x y=>decide (x ≤ y)) (List.length_mergeSort _) (fun p cap w=>?_) (fun blk off cap w hH hblk=>?_) i0
  ·have hcon:=Any.slices_Sort_int_none Tryz.wK p cap w
   change Calls Tryz.prog 101 _ _ _ at hcon
   exact hcon
  ·have hcon:=Any.slices_Sort_int Tryz.wK blk off cap l w hH hblk (by omega)
   change Calls Tryz.prog 101 _ _ _ at hcon
   exact hcon
 ·simp at hr
end
noncomputable def Hg:FkR tb Tryz.prog:=⟨101,fnT tb [.tu] 3 .int (fun x y=>gE y),Fq Tryz.call101 fun k0 vs u1 u2 x y r hG h hy hr=>by obtain ⟨vs0,rfl,h1⟩:=h.tu; obtain rfl:=h1.nil; exact AB hy hr⟩
section
open Go.Proofs Go.RowKit Go.Lib Go.Sort Go.Shelf
def Tryz.yJ:Go.Shelf.Ren:=⟨fun | 20=>102 | n=>n,fun | 22=>67 | 3=>3 | 4=>4 | 0=>0 | n=>n,fun | n=>n⟩
theorem Tryz.Bc:Go.Proofs.Lays2.n20 Tryz.prog Tryz.yJ:={
 mixed:=by kernel_rfl,
 f20:=Tryz.func102.trans (congrArg some (by kernel_rfl)),
 t0:=Tryz.underlying0,
 a0:=Tryz.isAgg0,
 z0:=Tryz.sizeOf0,
 v0:=Tryz.zeroValue0,
 t3:=Tryz.underlying3,
 a3:=Tryz.isAgg3,
 z3:=Tryz.sizeOf3,
 v3:=Tryz.zeroValue3,
 t4:=Tryz.underlying4,
 a4:=Tryz.isAgg4,
 z4:=Tryz.sizeOf4,
 v4:=Tryz.zeroValue4,
 t22:=Tryz.underlying67,
 a22:=Tryz.isAgg67,
 z22:=Tryz.sizeOf67,
 v22:=Tryz.zeroValue67,
 i3:=by kernel_rfl }
theorem uJ {k0:K} {v0:Value} {l r:List Int} (i0:ay 0 3 l v0 k0) (hr:eb l = some r):Calls Tryz.prog 102 #[v0] k0.w (dw (obF v0) k0 (yr v0 k0 3 r)):=by
 unfold eb at hr
 split at hr
 ·rename_i hl
  obtain rfl:=Option.some.inj hr
  refine yq vW hl (fun p cap w=>?_) (fun blk off cap w hH hc=>?_) i0
  ·have hcon:=Any.slices_Compact_int_empty Tryz.Bc p cap w
   change Calls Tryz.prog 102 _ _ _ at hcon
   exact hcon
  ·have hcon:=Any.slices_Compact_int Tryz.Bc blk off cap l w hH (by omega) hc
   change Calls Tryz.prog 102 _ _ _ at hcon
   exact hcon
 ·simp at hr
end
noncomputable def G7:FkR tb Tryz.prog:=⟨102,fnK tb [.tk] 3 .int 3 .int (fun x z=>eb z),HC Tryz.call102 fun k0 vs u1 u2 x z r hG h hz hr=>by obtain ⟨vs0,rfl,h1⟩:=h.tk; obtain rfl:=h1.nil; exact uJ hz hr⟩
def cw (p_:(List aT)) (s1:(List Int) × Int):Option (aN ((List Int) × Int) ((List aw) × Int)):=
 if (decide (s1.2 < (p_.length:Int))) then
  (au p_ s1.2).bind fun x1=>
  (cg s1.1 ([x1.X])).bind fun x2=>
  (aD s1.2 1).bind fun x3=>
  some (.go (x2,x3))
 else
  some (.ex 0 (s1.1,s1.2))
def bS (x1:(List Int)) (x2:(List bj)) (s1:(List aw) × Int) (s2:(List Int) × Int):Option (aN ((List Int) × Int) ((List aw) × Int)):=
 if (decide (s2.2 < (x2.length:Int))) then
  (au x2 s2.2).bind fun x3=>
  (bp x3).bind fun x4=>
  (if (!x4) then
   (au x1 s1.2).bind fun x5=>
   some (decide ((min x3.a.X x3.b.X) ≤ x5))
  else
   some false).bind fun x6=>
  (if x6 then
   (au x1 s1.2).bind fun x7=>
   some (decide (x7 < (max x3.a.X x3.b.X)))
  else
   some false).bind fun x8=>
  (if x8 then
   (cg s2.1 ([x3.a.Y])).bind fun x9=>
   some x9
  else
   some s2.1).bind fun s3=>
  (aD s2.2 1).bind fun x10=>
  some (.go (s3,x10))
 else
  some (.ex 4 (s2.1,s2.2))
def bG (x1:(List Int)) (s1:(List aw) × Int) (x2:(List Int)) (s2:(List aw) × Int):Option (aN ((List aw) × Int) ((List aw) × Int)):=
 (aD s2.2 1).bind fun x3=>
 if (decide (x3 < (x2.length:Int))) then
  (au x1 s1.2).bind fun x4=>
  (au x2 s2.2).bind fun x5=>
  (aD s1.2 1).bind fun x6=>
  (au x1 x6).bind fun x7=>
  (aD s2.2 1).bind fun x8=>
  (au x2 x8).bind fun x9=>
  (cg s2.1 ([(⟨x4,x5,x7,x9⟩:aw)])).bind fun x10=>
  (aD s2.2 2).bind fun x11=>
  some (.go (x10,x11))
 else
  some (.ex 6 (s2.1,s2.2))
def bu (x1:(List Int)) (x2:(List bj)) (x3:Int) (s1:(List aw) × Int):Option (aN ((List aw) × Int) ((List aw) × Int)):=
 if (decide (s1.2 < x3)) then
  (ah (bS x1 x2 s1) (x2.length + 1) (([]:List Int),0)).bind fun f1=>match f1 with
   | .go _=>none
   | .ex _ s2 =>
    (gE s2.1).bind fun x4=>
    (ah (bG x1 s1 x4) (x1.length + x2.length + s1.1.length + x4.length + 1) (s1.1,0)).bind fun f2=>match f2 with
     | .go _=>none
     | .ex _ s3=>
      (aD s1.2 1).bind fun x5=>
      some (.go (s3.1,x5))
     | .ret r1=>some (.ret r1)
   | .ret r2=>some (.ret r2)
 else
  some (.ex 2 (s1.1,s1.2))
def bI (p_:(List aT)):Option ((List aw) × Int):=
 (fu p_).bind fun x1=>
 if (!x1) then
  some (([]:List aw),10)
 else
  (ah (cw p_) (p_.length + 1) (([]:List Int),0)).bind fun f1=>match f1 with
   | .go _=>none
   | .ex _ s1 =>
    (gE s1.1).bind fun x2=>
    (eb x2).bind fun x3=>
    (dD p_).bind fun x4=>
    (bZ (x3.length:Int) 1).bind fun x5=>
    (ah (bu x3 x4 x5) (x5.toNat + 1) (([]:List aw),0)).bind fun f2=>match f2 with
     | .go _=>none
     | .ex _ s2 =>
      if (decide (200 < (s2.1.length:Int))) then
       some (([]:List aw),6)
      else
       some (s2.1,0)
     | .ret r1=>some r1
   | .ret r2=>some r2
noncomputable def k76:=mkc 76 [.list (.st 1)] [.list (.st 2),.int] (fun x=>bI x) [Lx,JX,JF] [Hg,G7] [4,8,10,23,27,29,31,78,83,85,94,115] Tryz.f76 (.s .n (.s .n (.s .n (.s (.s .n (.l [] [(4,.o 3 .int),(19,.v .int)] [(0,[19],[])] (fI 18) .n)) (.s .n (.s .n (.s (.f [4] .n) (.s (.f [4] .n) (.s (.s (.f [4] .n) (.l [] [(8,.o 79 (.st 2)),(38,.v .int)] [(2,[38],[])] (fI 37) (.s (.f [4] .n) (.s .n (.s (.s (.f [4] .n) (.s (.f [4] .n) (.s (.s (.f [4] .n) (.l [] [(10,.o 3 .int),(43,.v .int)] [(4,[43],[])] (fI 42) (.s (.f [4] .n) (.s .n (.s (.s (.f [4] .n) (.s (.f [4] .n) (.j [] [(10,.o 3 .int)] ([],[]) (.s (.f [4] .n) .n)))) (.f [4] .n)))))) (.s (.f [4] .n) (.s (.f [4,10] .n) (.l [] [(8,.o 79 (.st 2)),(13,.v .int)] [(6,[13],[])] (fL [4,7,8,10]) (.s (.s (.f [4,10] .n) .n) (.s (.f [4,10] .n) (.f [4,10] .n))))))))) (.f [4] .n)))))) (.s (.s (.f [8] .n) .n) (.s (.f [8] .n) .n))))))))))) Tryz.func76 Tryz.call76 rfl rfl fun x=>by kernel_rfl
def eV (r_:aw):Option (aw × Bool):=
 (gk r_).bind fun x1=>
 if x1 then
  some (r_,true)
 else
  some ((⟨0,0,0,0⟩:aw),false)
noncomputable def JS:=mk 105 [.st 2] [.st 2,.bool] (fun x=>eV x) [k99] [2] Tryz.f105 (.n) Tryz.func105 Tryz.call105 rfl rfl fun x=>by kernel_rfl
def cj (a_:aw) (b_:aw):Option (aw × Bool):=
 (gk a_).bind fun x1=>
 (if (!x1) then
  some true
 else
  (gk b_).bind fun x2=>
  some (!x2)).bind fun x3=>
 if x3 then
  some ((⟨0,0,0,0⟩:aw),false)
 else
  (eV (⟨(max a_.X0 b_.X0),(max a_.Y0 b_.Y0),(min a_.X1 b_.X1),(min a_.Y1 b_.Y1)⟩:aw)).bind fun x4=>
  some (x4.1,x4.2)
noncomputable def k78:=mk 78 [.st 2,.st 2] [.st 2,.bool] (fun x=>cj x.1 x.2) [k99,JS] [4] Tryz.f78 (.n) Tryz.func78 Tryz.call78 rfl rfl fun x=>by kernel_rfl
def cc (s_:(List aw)) (f_:(aw → Option (Bool))) (s1:Int):Option (aN (Int) (Int)):=
 if (decide (s1 < (s_.length:Int))) then
  (au s_ s1).bind fun x1=>
  (f_ x1).bind fun x2=>
  if x2 then
   some (.ret s1)
  else
   (aD s1 1).bind fun x3=>
   some (.go x3)
 else
  some (.ex 0 s1)
def ez (s_:(List aw)) (f_:(aw → Option (Bool))):Option (Int):=
 (ah (cc s_ f_) (s_.length + 1) 0).bind fun f1=>match f1 with
  | .go _=>none
  | .ex _ _=>
   some (-1)
  | .ret r1=>some r1
noncomputable def La:=mk 106 [.list (.st 2),.f1 (.st 2) .bool] [.int] (fun x=>ez x.1 x.2) [] [] Tryz.f106 (.s .n (.s (.s .n (.l [] [(8,.v .int)] [(0,[8],[])] (fI 7) .n)) .n)) Tryz.func106 Tryz.call106 rfl rfl fun x=>by kernel_rfl
def aX (s_:(List aw)) (f_:(aw → Option (Bool))):Option (Bool):=
 (ez s_ f_).bind fun x1=>
 some (decide (0 ≤ x1))
noncomputable def k79:=mk 79 [.list (.st 2),.f1 (.st 2) .bool] [.bool] (fun x=>aX x.1 x.2) [La] [] Tryz.f79 (.n) Tryz.func79 Tryz.call79 rfl rfl fun x=>by kernel_rfl
def bF (s_:(List Entry)) (f_:(Entry → Option (Bool))) (s1:Int):Option (aN (Int) (Int)):=
 if (decide (s1 < (s_.length:Int))) then
  (au s_ s1).bind fun x1=>
  (f_ x1).bind fun x2=>
  if x2 then
   some (.ret s1)
  else
   (aD s1 1).bind fun x3=>
   some (.go x3)
 else
  some (.ex 0 s1)
def cr (s_:(List Entry)) (f_:(Entry → Option (Bool))):Option (Int):=
 (ah (bF s_ f_) (s_.length + 1) 0).bind fun f1=>match f1 with
  | .go _=>none
  | .ex _ _=>
   some (-1)
  | .ret r1=>some r1
noncomputable def Ln:=mk 133 [.list (.st 6),.f1 (.st 6) .bool] [.int] (fun x=>cr x.1 x.2) [] [] Tryz.f133 (.s .n (.s (.s .n (.l [] [(8,.v .int)] [(0,[8],[])] (fI 7) .n)) .n)) Tryz.func133 Tryz.call133 rfl rfl fun x=>by kernel_rfl
def gN (e_:Entry) (p1_:(ByteArray × ByteArray × ByteArray × ByteArray × ByteArray × ByteArray)) (p2_:Int):Option (Bool):=
 (au ([p1_.1,p1_.2.1,p1_.2.2.1,p1_.2.2.2.1,p1_.2.2.2.2.1,p1_.2.2.2.2.2]:List ByteArray) p2_).bind fun x1=>
 some ((e_.Name.toList == x1.toList))
noncomputable def Ll:=mk 134 [.st 6,.rf (.st 32),.rf .int] [.bool] (fun x=>gN x.1 x.2.1 x.2.2) [] [] Tryz.f134 (.n) Tryz.func134 Tryz.call134 rfl rfl fun x=>by kernel_rfl
def bY (p_:an) (use_:Int) (s1:Int):Option (aN (Int) (Int)):=
 if (decide (s1 < (p_.Tables.length:Int))) then
  (au p_.Tables s1).bind fun x1=>
  if (!(x1.Name.toList == (⟨#[116,114,97,102,102,105,99]⟩:ByteArray).toList)) then
   (aD s1 1).bind fun x2=>
   some (.go x2)
  else
   (cr x1.Rows (fun y0=>gN y0 (((⟨#[104,111,109,101]⟩:ByteArray),(⟨#[115,104,111,112]⟩:ByteArray),(⟨#[119,111,114,107]⟩:ByteArray),(⟨#[112,97,114,107]⟩:ByteArray),(⟨#[112,108,97,110,116]⟩:ByteArray),(⟨#[104,97,108,108]⟩:ByteArray)):(ByteArray × ByteArray × ByteArray × ByteArray × ByteArray × ByteArray)) use_)).bind fun x3=>
   (if (decide (0 ≤ x3)) then
    (au x1.Rows x3).bind fun x4=>
    some x4.N
   else
    some x1.Else).bind fun s2=>
   some (.ret (max 0 (min s2 1048576)))
 else
  some (.ex 0 s1)
def jI (p_:an) (use_:Int):Option (Int):=
 (ah (bY p_ use_) (p_.Tables.length + 1) 0).bind fun f1=>match f1 with
  | .go _=>none
  | .ex _ _=>
   some 0
  | .ret r1=>some r1
noncomputable def Lb:=mk 107 [.st 8,.int] [.int] (fun x=>jI x.1 x.2) [Ll,Ln] [] Tryz.f107 (.s .n (.s .n (.s (.s .n (.l [] [(14,.v .int)] [(0,[14],[])] (fI 13) (.s .n (.s .n (.s (.s .n (.s .n (.s .n (.s (.s .n (.s .n (.j [] [(8,.v .int)] ([],[]) (.s .n .n)))) .n)))) .n))))) .n))) Tryz.func107 Tryz.call107 rfl rfl fun x=>by kernel_rfl
def kV (r_:aw):Option (Int):=
 (eV r_).bind fun x1=>
 (bZ x1.1.X1 x1.1.X0).bind fun x2=>
 (bZ x1.1.Y1 x1.1.Y0).bind fun x3=>
 (qs x2 x3).bind fun x4=>
 some x4
noncomputable def k81:=mk 81 [.st 2] [.int] (fun x=>kV x) [JS] [1] Tryz.f81 (.n) Tryz.func81 Tryz.call81 rfl rfl fun x=>by kernel_rfl
def eP (v_:af):Option (Int):=
 (if v_.Extra then
  some true
 else
  (bP v_).bind fun x1=>
  some (!x1)).bind fun x2=>
 if x2 then
  some 0
 else
  (bZ v_.Box.Z1 v_.Box.Z0).bind fun x3=>
  (aD x3 3).bind fun x4=>
  (bZ x4 1).bind fun x5=>
  (qJ x5 3).bind fun x6=>
  some x6
noncomputable def K5:=mk 135 [.st 4] [.int] (fun x=>eP x) [k75] [] Tryz.f135 (.n) Tryz.func135 Tryz.call135 rfl rfl fun x=>by kernel_rfl
def gL (v_:af):Option (Int):=
 (bP v_).bind fun x1=>
 if (!x1) then
  some 0
 else
  (kV v_.Box.Base).bind fun x2=>
  (eP v_).bind fun x3=>
  (qs x2 x3).bind fun x4=>
  some x4
noncomputable def K4:=mk 108 [.st 4] [.int] (fun x=>gL x) [k75,k81,K5] [] Tryz.f108 (.n) Tryz.func108 Tryz.call108 rfl rfl fun x=>by kernel_rfl
def eE (p_:an) (v_:af):Option (Int):=
 (jI p_ v_.Use).bind fun x1=>
 (gL v_).bind fun x2=>
 (if (decide (0 < x1)) then
  (qJ 109951162777600 x1).bind fun x3=>
  some (decide (x3 < x2))
 else
  some false).bind fun x4=>
 if x4 then
  some 1099511627776
 else
  (qs x1 x2).bind fun x5=>
  (aD x5 100).bind fun x6=>
  (bZ x6 1).bind fun x7=>
  (qJ x7 100).bind fun x8=>
  some x8
noncomputable def k80:=mk 80 [.st 8,.st 4] [.int] (fun x=>eE x.1 x.2) [Lb,K4] [] Tryz.f80 (.n) Tryz.func80 Tryz.call80 rfl rfl fun x=>by kernel_rfl
def ck (r_:aw) (p1_:af):Option (Bool):=
 (cj r_ p1_.Box.Base).bind fun x1=>
 some x1.2
noncomputable def k77:=mk 77 [.st 2,.rf (.st 4)] [.bool] (fun x=>ck x.1 x.2) [k78] [] Tryz.f77 (.n) Tryz.func77 Tryz.call77 rfl rfl fun x=>by kernel_rfl
def cR (p_:an) (c_:Cap) (v_:af):Option (Int):=
 (bP v_).bind fun x1=>
 if (!x1) then
  some 0
 else
  (bI c_.Corners).bind fun x2=>
  (if (x2.2 != 0) then
   some true
  else
   (aX x2.1 (fun y0=>ck y0 v_)).bind fun x3=>
   some (!x3)).bind fun x4=>
  if x4 then
   some 0
  else
   if (c_.Load == 0) then
    some v_.Units
   else
    if (c_.Load == 1) then
     (eE p_ v_).bind fun x5=>
     some x5
    else
     if (c_.Load == 2) then
      (kV v_.Box.Base).bind fun x6=>
      some x6
     else
      some 0
noncomputable def k51:=mk 51 [.st 8,.st 15,.st 4] [.int] (fun x=>cR x.1 x.2.1 x.2.2) [k75,k76,k77,k79,k80,k81] [] Tryz.f51 (.n) Tryz.func51 Tryz.call51 rfl rfl fun x=>by kernel_rfl
def nq (t_:aq) (c_:Cap) (s1:Int × Int):Option (aN (Int × Int) (Int)):=
 if (decide (s1.2 < (t_.Built.length:Int))) then
  (au t_.Built s1.2).bind fun x1=>
  (cR t_.an c_ x1.af).bind fun x2=>
  (aD s1.1 x2).bind fun x3=>
  (aD s1.2 1).bind fun x4=>
  some (.go (x3,x4))
 else
  some (.ex 0 (s1.1,s1.2))
def oE (t_:aq) (c_:Cap):Option (Int):=
 (og t_.Base c_).bind fun x1=>
 (ah (nq t_ c_) (t_.Built.length + 1) (x1,0)).bind fun f1=>match f1 with
  | .go _=>none
  | .ex _ s1=>
   some s1.1
  | .ret r1=>some r1
noncomputable def k30:=mk 30 [.st 7,.st 15] [.int] (fun x=>oE x.1 x.2) [k50,k51] [] Tryz.f30 (.s .n (.s .n (.s (.s .n (.l [] [(5,.v .int),(15,.v .int)] [(0,[15],[])] (fI 14) .n)) .n))) Tryz.func30 Tryz.call30 rfl rfl fun x=>by kernel_rfl
theorem AD {k0:K} {v0 v1:Value} {x0:aq} {x1:Cap} {r:Int} (i0:(IsV x0) v0 k0) (i1:(IsV x1) v1 k0) (hr:oE x0 x1 = some r):Calls Tryz.prog 30 #[v0,v1] k0.w (Ret k0 (IsV r)):=(k30.ok.ok k0 [v0,v1] (x0,x1) r (GOk.none (fun _=>rfl) fun _ e=>by cases e) ⟨i0,i1⟩ hr)
def fj (r_:ax):Option (Bool):=
 some (((!r_.Over) && (decide (0 ≤ r_.Used))) && (decide (r_.Used < (r_.aE.Phases.length:Int))))
noncomputable def k28:=mk 28 [.st 30] [.bool] (fun x=>fj x) [] [] Tryz.f28 (.n) Tryz.func28 Tryz.call28 rfl rfl fun x=>by kernel_rfl
theorem r7 {k0:K} {v0:Value} {x0:ax} {r:Bool} (i0:(IsV x0) v0 k0) (hr:fj x0 = some r):Calls Tryz.prog 28 #[v0] k0.w (Ret k0 (IsV r)):=(k28.ok.ok k0 [v0] x0 r (GOk.none (fun _=>rfl) fun _ e=>by cases e) i0 hr)
def dT (s_:(List af)):Option ((List af)):=
 (cg [] s_).bind fun x1=>
 some x1
theorem oS {k0:K} {v0:Value} {s_:(List af)} {r:(List af)} (i0:(IsV s_) v0 k0) (hr:dT s_ = some r) :
  Calls Tryz.prog 71 #[v0] k0.w (Ret k0 (IsV r)):=by
 unfold dT at hr
 refine Ret.ofC ?_
 refine iN Tryz.func71 rfl Tryz.ntmps71 (show 1 ≤ 8 by decide) fun a k hk0 hs hd ha=>?_
 obtain ⟨e0,_⟩:=ha
 replace i0:(IsV s_) (a.get 0) k:=by rw [e0,hk0]; exact i0
 have hQ:Gb.LetsOut (bodyPost Tryz.prog Tryz.f71 (dw noF k0 (IsV r))):=fc
 have hg:Chg noF k0 k:=by rw [hk0]; exact Chg.refl _ k0
 refine dr 1 (⟨some cO,[]⟩::[]) rfl ⟨hg,hs,hd⟩ (by kernel_rfl) ⟨ob1 rfl fun b q h n=>bL rfl dp,trivial⟩ [⟨_,_⟩] (fun b q p=>⟨p.ke 0 rfl i0,trivial⟩) ?_
 rintro a k ⟨⟨hg,hs,hd⟩,i0,_⟩
 refine wp_seq ?_
 refine dr 2 (_::⟨some (Df s_),[(3,some 0)]⟩::[]) rfl ⟨hg,hs,hd⟩ (by kernel_rfl) ⟨mu rfl i0,ob1 rfl fun _ _ h n=>rP rfl Tryz.underlying44 (IsV.rd n.1),trivial⟩ [⟨_,_⟩,⟨_,_⟩] (fun b q p=>⟨p.ke 0 rfl i0,p.ou 1 4 rfl,trivial⟩) ?_
 rintro a k ⟨⟨hg,hs,hd⟩,i0,i4,_⟩
 obtain ⟨bb,hbb,hnil⟩:=i4
 refine wp_cond_split hbb (fun hc802=>?_) (fun hc802=>?_)
 ·replace hr:some ([]:List af) = some r:=by rw [hnil hc802] at hr; simpa [cg] using hr
  refine GC noF k0 8 [⟨2,IsV ([]:List af)⟩] ?_ ?_
  ·intro Q1 W1 w1
   refine gS 1 (⟨some cO,[]⟩::[]) hs (by kernel_rfl) ⟨ob1 rfl fun b q h n=>bL rfl dp,trivial⟩ W1 fun b q p=>?_
   have hgq:=hg.then p.grow
   have hsb:=p.size.trans hs
   have hdb:=p.defers.trans hd
   have j2:cO (b.get 2) q:=p.ou 0 2 rfl
   replace j2:IsV ([]:List af) (b.get 2) q:=j2.isV
   exact aj (k:=q) (w1 _ _ ⟨⟨hgq,hsb,hdb⟩,j2,trivial⟩)
  rintro a k ⟨⟨hg,hs,hd⟩,i2,_⟩
  refine wp_ret ?_
  obtain rfl:=Option.some.inj hr
  exact iT rfl hd hg i2
 ·skip
  refine wp_skip ?_
  refine wp_seq ?_
  obtain ⟨x1,hx1,hr⟩:=bind_some hr
  refine cut (fun a' k'=>Bs noF k0 8 a' k'∧(IsV x1) (a'.get 2) k'∧True) ?_ hQ ?_
  ·intro Q2 W2 w2
   refine gS 4 (⟨some cO,[]⟩::_::⟨some (IsV x1),[(5,some 0),(6,some 1)]⟩::_::[]) hs (by kernel_rfl) ⟨ob1 rfl fun b q h n=>fO rfl Tryz.underlying44 IY,mu rfl i0,ob1 rfl fun _ _ h n=>tz rfl Tryz.underlying44 IY n.1 (IsV.rd n.2.1) hx1,cp 2 rfl rfl,trivial⟩ W2 fun b q p=>?_
   exact aj (k:=q) (w2 _ _ ⟨Bs.post ⟨hg,hs,hd⟩ p,p.ou 3 2 rfl,trivial⟩)
  rintro a k ⟨⟨hg,hs,hd⟩,i2,_⟩
  refine wp_ret ?_
  obtain rfl:=Option.some.inj hr
  exact iT rfl hd hg i2
noncomputable def k71:=mkO 71 [.list (.st 4)] [.list (.st 4)] (fun x=>dT x) Tryz.call71 fun k0 vs x r hG h hr=>by obtain ⟨v0,rfl,i0⟩:=h.one; exact oS i0 hr
def bq (s_:(List Entry)):Option ((List Entry)):=
 (cg [] s_).bind fun x1=>
 some x1
theorem ku {k0:K} {v0:Value} {s_:(List Entry)} {r:(List Entry)} (i0:(IsV s_) v0 k0) (hr:bq s_ = some r) :
  Calls Tryz.prog 34 #[v0] k0.w (Ret k0 (ay k0.w.heap.size 99 r)):=by
 unfold bq at hr
 refine Ret.ofC ?_
 refine iN Tryz.func34 rfl Tryz.ntmps34 (show 1 ≤ 8 by decide) fun a k hk0 hs hd ha=>?_
 obtain ⟨e0,_⟩:=ha
 replace i0:(IsV s_) (a.get 0) k:=by rw [e0,hk0]; exact i0
 have hQ:Gb.LetsOut (bodyPost Tryz.prog Tryz.f34 (dw noF k0 (ay k0.w.heap.size 99 r))):=fc
 have hg:Chg noF k0 k:=by rw [hk0]; exact Chg.refl _ k0
 refine dr 1 (⟨some cO,[]⟩::[]) rfl ⟨hg,hs,hd⟩ (by kernel_rfl) ⟨ob1 rfl fun b q h n=>bL rfl dp,trivial⟩ [⟨_,_⟩] (fun b q p=>⟨p.ke 0 rfl i0,trivial⟩) ?_
 rintro a k ⟨⟨hg,hs,hd⟩,i0,_⟩
 refine wp_seq ?_
 refine dr 2 (_::⟨some (Df s_),[(3,some 0)]⟩::[]) rfl ⟨hg,hs,hd⟩ (by kernel_rfl) ⟨mu rfl i0,ob1 rfl fun _ _ h n=>rP rfl Tryz.underlying35 (IsV.rd n.1),trivial⟩ [⟨_,_⟩,⟨_,_⟩] (fun b q p=>⟨p.ke 0 rfl i0,p.ou 1 4 rfl,trivial⟩) ?_
 rintro a k ⟨⟨hg,hs,hd⟩,i0,i4,_⟩
 obtain ⟨bb,hbb,hnil⟩:=i4
 refine wp_cond_split hbb (fun hc815=>?_) (fun hc815=>?_)
 ·replace hr:some ([]:List Entry) = some r:=by rw [hnil hc815] at hr; simpa [cg] using hr
  refine gP (fun c l=>Bs noF k0 8 c l∧ay 0 99 ([]:List Entry) (c.get 2) l∧Lo k0 (obF (c.get 2))∧True) ?_ ?_
  ·intro Q1 W1 w1
   refine gS 1 (⟨some cO,[]⟩::[]) hs (by kernel_rfl) ⟨ob1 rfl fun b q h n=>bL rfl dp,trivial⟩ W1 fun b q p=>?_
   have hgq:=hg.then p.grow
   have hsb:=p.size.trans hs
   have hdb:=p.defers.trans hd
   have j2:cO (b.get 2) q:=p.ou 0 2 rfl
   have y2:Lo k0 (obF (b.get 2)):=j2.lo
   replace j2:ay 0 99 ([]:List Entry) (b.get 2) q:=j2.DS
   exact aj (k:=q) (w1 _ _ ⟨⟨hgq,hsb,hdb⟩,j2,y2,trivial⟩)
  rintro a k ⟨⟨hg,hs,hd⟩,i2,n2,_⟩
  refine wp_ret ?_
  obtain rfl:=Option.some.inj hr
  exact iT rfl hd hg (show pd _ _ _ (.tmp 2) _ from ay.raise (k0:=k0) i2 n2)
 ·skip
  refine wp_skip ?_
  refine wp_seq ?_
  obtain ⟨x1,hx1,hr⟩:=bind_some hr
  refine cut (fun a' k'=>Bs noF k0 8 a' k'∧ay 0 99 x1 (a'.get 2) k'∧Lo k0 (obF (a'.get 2))∧True) ?_ hQ ?_
  ·intro Q2 W2 w2
   refine gS 4 (⟨some cO,[]⟩::_::⟨some (ay k.w.heap.size 99 x1),[(5,some 0),(6,some 1)]⟩::_::[]) hs (by kernel_rfl) ⟨ob1 rfl fun b q h n=>fO rfl Tryz.underlying35 Gl,mu rfl i0,ob1 rfl fun _ _ h n=>kO rfl Tryz.underlying35 Gl h.size n.1 (IsV.rd n.2.1) hx1,cp 2 rfl rfl,trivial⟩ W2 fun b q p=>?_
   have hgq:=hg.then p.grow
   have hsb:=p.size.trans hs
   have hdb:=p.defers.trans hd
   have j2:(ay k.w.heap.size 99 x1) (b.get 2) q:=p.ou 3 2 rfl
   have x2:Lo k (obF (b.get 2)):=j2.loF
   have y2:=x2.chg hg
   replace j2:=j2.weaken (Nat.zero_le _)
   exact aj (k:=q) (w2 _ _ ⟨⟨hgq,hsb,hdb⟩,j2,y2,trivial⟩)
  rintro a k ⟨⟨hg,hs,hd⟩,i2,n2,_⟩
  refine wp_ret ?_
  obtain rfl:=Option.some.inj hr
  exact iT rfl hd hg (show pd _ _ _ (.tmp 2) _ from ay.raise (k0:=k0) i2 n2)
theorem kL {k0:K} {v0:Value} {s_:(List Entry)} {r:(List Entry)} (i0:(IsV s_) v0 k0) (hr:bq s_ = some r) :
  Calls Tryz.prog 34 #[v0] k0.w (Ret k0 (IsV r)):=
 vr (ku i0 hr)
noncomputable def k34:=mkO 34 [.list (.st 6)] [.list (.st 6)] (fun x=>bq x) Tryz.call34 fun k0 vs x r hG h hr=>by obtain ⟨v0,rfl,i0⟩:=h.one; exact kL i0 hr
def iK (l_:(List Phase)) (s1:(List Phase) × Int):Option (aN ((List Phase) × Int) ((List Phase))):=
 if (decide (s1.2 < (l_.length:Int))) then
  (au l_ s1.2).bind fun x1=>
  (dT x1.Volumes).bind fun x2=>
  (bq x1.bd).bind fun x3=>
  (cg s1.1 ([(⟨x2,x3⟩:Phase)])).bind fun x4=>
  (aD s1.2 1).bind fun x5=>
  some (.go (x4,x5))
 else
  some (.ex 0 (s1.1,s1.2))
def lC (l_:(List Phase)):Option ((List Phase)):=
 (ah (iK l_) (l_.length + 1) (([]:List Phase),0)).bind fun f1=>match f1 with
  | .go _=>none
  | .ex _ s1=>
   some s1.1
  | .ret r1=>some r1
noncomputable def k47:=mk 47 [.list (.st 3)] [.list (.st 3)] (fun x=>lC x) [k71,k34] [3,12,21] Tryz.f47 (.s .n (.s .n (.s (.s .n (.l [] [(3,.o 46 (.st 3)),(8,.v .int)] [(0,[8],[])] (fI 7) .n)) (.s (.f [3] .n) .n)))) Tryz.func47 Tryz.call47 rfl rfl fun x=>by kernel_rfl
def gd (r_:ax):Option ((List Phase)):=
 (fj r_).bind fun x1=>
 if (!x1) then
  some ([]:List Phase)
 else
  (gQ r_.aE.Phases r_.Used (r_.aE.Phases.length:Int)).bind fun x2=>
  (lC x2).bind fun x3=>
  some x3
noncomputable def k27:=mk 27 [.st 30] [.list (.st 3)] (fun x=>gd x) [k28,k47] [] Tryz.f27 (.n) Tryz.func27 Tryz.call27 rfl rfl fun x=>by kernel_rfl
theorem pV {k0:K} {v0:Value} {x0:ax} {r:(List Phase)} (i0:(IsV x0) v0 k0) (hr:gd x0 = some r):Calls Tryz.prog 27 #[v0] k0.w (Ret k0 (IsV r)):=(k27.ok.ok k0 [v0] x0 r (GOk.none (fun _=>rfl) fun _ e=>by cases e) i0 hr)
def mE (p_:an) (c_:Cap) (ph_:Phase) (s1:Int × Int):Option (aN (Int × Int) (Int)):=
 if (decide (s1.2 < (ph_.Volumes.length:Int))) then
  (au ph_.Volumes s1.2).bind fun x1=>
  (cR p_ c_ x1).bind fun x2=>
  (aD s1.1 x2).bind fun x3=>
  (aD s1.2 1).bind fun x4=>
  some (.go (x3,x4))
 else
  some (.ex 0 (s1.1,s1.2))
def qo (p_:an) (c_:Cap) (ph_:Phase):Option (Int):=
 (og ph_.bd c_).bind fun x1=>
 (bZ 0 x1).bind fun x2=>
 (ah (mE p_ c_ ph_) (ph_.Volumes.length + 1) (x2,0)).bind fun f1=>match f1 with
  | .go _=>none
  | .ex _ s1=>
   some s1.1
  | .ret r1=>some r1
noncomputable def k74:=mk 74 [.st 8,.st 15,.st 3] [.int] (fun x=>qo x.1 x.2.1 x.2.2) [k50,k51] [] Tryz.f74 (.s .n (.s .n (.s (.s .n (.l [] [(7,.v .int),(18,.v .int)] [(0,[18],[])] (fI 17) .n)) .n))) Tryz.func74 Tryz.call74 rfl rfl fun x=>by kernel_rfl
def ml (p_:an) (c_:Cap) (x1:(List Phase)) (s1:(List Int) × Int):Option (aN ((List Int) × Int) ((List Int))):=
 if (decide (s1.2 < (x1.length:Int))) then
  (au x1 s1.2).bind fun x2=>
  (qo p_ c_ x2).bind fun x3=>
  (cg s1.1 ([x3])).bind fun x4=>
  (aD s1.2 1).bind fun x5=>
  some (.go (x4,x5))
 else
  some (.ex 0 (s1.1,s1.2))
def oF (p_:an) (c_:Cap) (r_:ax):Option ((List Int)):=
 (gd r_).bind fun x1=>
 (ah (ml p_ c_ x1) (x1.length + 1) (([]:List Int),0)).bind fun f1=>match f1 with
  | .go _=>none
  | .ex _ s1=>
   some s1.1
  | .ret r1=>some r1
noncomputable def k49:=mk 49 [.st 8,.st 15,.st 30] [.list .int] (fun x=>oF x.1 x.2.1 x.2.2) [k27,k74] [7,17,23] Tryz.f49 (.s .n (.s .n (.s (.s .n (.l [] [(7,.o 3 .int),(13,.v .int)] [(0,[13],[])] (fI 12) .n)) (.s (.f [7] .n) .n)))) Tryz.func49 Tryz.call49 rfl rfl fun x=>by kernel_rfl
theorem xV {k0:K} {v0 v1 v2:Value} {x0:an} {x1:Cap} {x2:ax} {r:(List Int)} (i0:(IsV x0) v0 k0) (i1:(IsV x1) v1 k0) (i2:(IsV x2) v2 k0) (hr:oF x0 x1 x2 = some r):Calls Tryz.prog 49 #[v0,v1,v2] k0.w (Ret k0 (IsV r)):=(k49.ok.ok k0 [v0,v1,v2] (x0,x1,x2) r (GOk.none (fun _=>rfl) fun _ e=>by cases e) ⟨i0,i1,i2⟩ hr)
def gq (l_:(List Int)) (s1:(List Int) × Int):Option (aN ((List Int) × Int) ((List Int))):=
 if (decide (s1.2 < (l_.length:Int))) then
  (au l_ s1.2).bind fun x1=>
  (au s1.1 s1.2).bind fun x2=>
  (aD x2 x1).bind fun x3=>
  (cg s1.1 ([x3])).bind fun x4=>
  (aD s1.2 1).bind fun x5=>
  some (.go (x4,x5))
 else
  some (.ex 0 (s1.1,s1.2))
def iZ (l_:(List Int)):Option ((List Int)):=
 (ah (gq l_) (l_.length + 1) ([0],0)).bind fun f1=>match f1 with
  | .go _=>none
  | .ex _ s1=>
   some s1.1
  | .ret r1=>some r1
noncomputable def k73:=mk 73 [.list .int] [.list .int] (fun x=>iZ x) [] [3,6,14,22] Tryz.f73 (.s .n (.s .n (.s (.s .n (.l [] [(3,.o 3 .int),(9,.v .int)] [(0,[9],[])] (fI 8) .n)) (.s (.f [3] .n) .n)))) Tryz.func73 Tryz.call73 rfl rfl fun x=>by kernel_rfl
def gX (x_:(List Int)) (s1:Int × Int):Option (aN (Int × Int) (Int)):=
 if (decide (s1.2 < (x_.length:Int))) then
  (au x_ s1.2).bind fun x1=>
  (aD s1.2 1).bind fun x2=>
  some (.go ((max s1.1 x1),x2))
 else
  some (.ex 0 (s1.1,s1.2))
def ka (x_:(List Int)):Option (Int):=
 if (decide ((x_.length:Int) < 1)) then
  none
 else
  (au x_ 0).bind fun x1=>
  (ah (gX x_) (x_.length + 1) (x1,1)).bind fun f1=>match f1 with
   | .go _=>none
   | .ex _ s1=>
    some s1.1
   | .ret r1=>some r1
noncomputable def k72:=mk 72 [.list .int] [.int] (fun x=>ka x) [] [] Tryz.f72 (.s .n (.s .n (.s .n (.s (.s .n (.l [] [(3,.v .int),(4,.v .int)] [(0,[4],[])] (fL [0]) .n)) .n)))) Tryz.func72 Tryz.call72 rfl rfl fun x=>by kernel_rfl
def lQ (l_:(List Int)):Option (Int):=
 (iZ l_).bind fun x1=>
 (ka x1).bind fun x2=>
 some x2
noncomputable def k48:=mk 48 [.list .int] [.int] (fun x=>lQ x) [k73,k72] [] Tryz.f48 (.n) Tryz.func48 Tryz.call48 rfl rfl fun x=>by kernel_rfl
theorem uY {k0:K} {v0:Value} {x0:(List Int)} {r:Int} (i0:(IsV x0) v0 k0) (hr:lQ x0 = some r):Calls Tryz.prog 48 #[v0] k0.w (Ret k0 (IsV r)):=(k48.ok.ok k0 [v0] x0 r (GOk.none (fun _=>rfl) fun _ e=>by cases e) i0 hr)
def lM (t_:aq) (rights_:(List ax)) (c_:Cap) (s1:ct × Int):Option (aN (ct × Int) (ct)):=
 if (decide (s1.2 < (rights_.length:Int))) then
  (au rights_ s1.2).bind fun x1=>
  (oF t_.an c_ x1).bind fun x2=>
  (lQ x2).bind fun x3=>
  (cg s1.1.Tops ([x3])).bind fun x4=>
  (aD s1.2 1).bind fun x5=>
  some (.go ({ s1.1 with Tops:=x4 },x5))
 else
  some (.ex 0 (s1.1,s1.2))
def od (t_:aq) (rights_:(List ax)) (c_:Cap):Option (ct):=
 (oE t_ c_).bind fun x1=>
 (ah (lM t_ rights_ c_) (rights_.length + 1) ((⟨c_.Name,x1,[]⟩:ct),0)).bind fun f1=>match f1 with
  | .go _=>none
  | .ex _ s1=>
   some s1.1
  | .ret r1=>some r1
theorem Ab {k0:K} {v0 v1 v2:Value} {t_:aq} {rights_:(List ax)} {c_:Cap} {r:ct} (i0:(IsV t_) v0 k0) (i1:(IsV rights_) v1 k0) (i2:(IsV c_) v2 k0) (hr:od t_ rights_ c_ = some r) :
  Calls Tryz.prog 29 #[v0,v1,v2] k0.w (Ret k0 (IsV r)):=by
 unfold od at hr
 refine Ret.ofC ?_
 refine iN Tryz.func29 rfl Tryz.ntmps29 (show 3 ≤ 35 by decide) fun a k hk0 hs hd ha=>?_
 obtain ⟨e0,e1,e2,_⟩:=ha
 replace i0:(IsV t_) (a.get 0) k:=by rw [e0,hk0]; exact i0
 replace i1:(IsV rights_) (a.get 1) k:=by rw [e1,hk0]; exact i1
 replace i2:(IsV c_) (a.get 2) k:=by rw [e2,hk0]; exact i2
 have hQ:Gb.LetsOut (bodyPost Tryz.prog Tryz.f29 (dw noF k0 (IsV r))):=fc
 have hg:Chg noF k0 k:=by rw [hk0]; exact Chg.refl _ k0
 refine gP (fun c l=>Bs noF k0 35 c l∧IsV rights_ (c.get 1) l∧aL t_ (c.get 3) l∧aL c_ (c.get 5) l∧(∃ b6,c.get 6 = .pointer (some ⟨b6,0,none⟩)∧Lo k0 (Eq b6)∧Gb.Box b6 (⟨(⟨#[]⟩:ByteArray),0,[]⟩:ct) l∧True)) ?_ ?_
 ·intro Q1 W1 w1
  refine gS 3 (⟨some (aL t_),[(0,none)]⟩::⟨some (aL c_),[(2,none)]⟩::⟨some (dR k.w.heap.size (⟨(⟨#[]⟩:ByteArray),0,[]⟩:ct)),[]⟩::[]) hs (by kernel_rfl) ⟨ob1 rfl fun _ _ h n=>js rfl (up i0 h n.1),ob1 rfl fun _ _ h n=>js rfl (up i2 h n.1),ob1 rfl fun _ _ h n=>dQ _ h.size rfl z75,trivial⟩ W1 fun b q p=>?_
  have hgq:=hg.then p.grow
  have hsb:=p.size.trans hs
  have hdb:=p.defers.trans hd
  have j1:=p.ke 1 rfl i1
  have j3:(aL t_) (b.get 3) q:=p.ou 0 3 rfl
  have j5:(aL c_) (b.get 5) q:=p.ou 1 5 rfl
  obtain ⟨b6,j6,x6,z6⟩:(dR k.w.heap.size (⟨(⟨#[]⟩:ByteArray),0,[]⟩:ct)) (b.get 6) q:=p.ou 2 6 rfl
  replace x6:Lo k (Eq b6):=Lo.eq x6
  have y6:Lo k0 (Eq b6):=x6.chg hg
  exact aj (k:=q) (w1 _ _ ⟨⟨hgq,hsb,hdb⟩,j1,j3,j5,b6,j6,y6,z6,trivial⟩)
 rintro a k ⟨⟨hg,hs,hd⟩,i1,i3,i5,b6,i6,n6,c6,_⟩
 refine wp_seq ?_
 obtain ⟨x1,hx1,hr⟩:=bind_some hr
 refine cut (fun a' k'=>Bs noF k0 35 a' k'∧(IsV rights_) (a'.get 1) k'∧(aL t_) (a'.get 3) k'∧(aL c_) (a'.get 5) k'∧a'.get 6 = .pointer (some ⟨b6,0,none⟩)∧Lo k0 (Eq b6)∧Gb.Box b6 (⟨(⟨#[]⟩:ByteArray),0,[]⟩:ct) k'∧(∃ b7 F7,(aU b7 [aY] [aY] (⟨c_.Name,x1,[]⟩:ct)) F7 (a'.get 7) k'∧Lo k0 F7∧ai (Eq b6) F7∧True)) ?_ hQ ?_
 ·intro Q2 W2 w2
  refine region (m:=7) (_::_::_::_::_::⟨some (yN [aY.off] (⟨c_.Name,x1,[]⟩:ct)),[(11,some 1),(14,some 4)]⟩::⟨some (dR k.w.heap.size (⟨(⟨#[]⟩:ByteArray),0,[]⟩:ct)),[]⟩::[]) oH hs (by kernel_rfl) ⟨o1 [(5,none)] rfl fun _ _ h n=>bB rfl FW (Ay _) ((up i5 h n.1)).ptr,o1 [(10,some 0)] rfl fun _ _ h n=>aM rfl ty9 n.1,o1 [(3,none)] rfl fun _ _ h n=>aM rfl pP ((up i3 h n.1)).ptr,o1 [(5,none)] rfl fun _ _ h n=>aM rfl GJ ((up i5 h n.1)).ptr,o1 [(12,some 2),(13,some 3)] rfl fun _ _ h n=>cN rfl Tryz.call30 (AD n.1 n.2.1 hx1),ob1 rfl fun _ _ h n=>xA rfl (uI n.1 n.2.1),ob1 rfl fun _ _ h n=>dQ _ h.size rfl z75,trivial⟩ W2 fun b q p=>?_
  have hgq:=hg.then p.grow
  have hsb:=p.size.trans hs
  have hdb:=p.defers.trans hd
  have j1:=p.ke 1 rfl i1
  have j3:=p.ke 3 rfl i3
  have j5:=p.ke 5 rfl i5
  have j6:=upE i6 (p.old 6 rfl)
  have z6:=Gb.Box.grow c6 p.grow
  have y6:=n6
  obtain ⟨b7,j7,x7,z7⟩:(dR k.w.heap.size (⟨(⟨#[]⟩:ByteArray),0,[]⟩:ct)) (b.get 7) q:=p.ou 6 7 rfl
  replace x7:Lo k (Eq b7):=Lo.eq x7
  have y7:Lo k0 (Eq b7):=x7.chg hg
  have j15:(yN [aY.off] (⟨c_.Name,x1,[]⟩:ct)) (b.get 15) q:=p.ou 5 15 rfl
  have w6_7:ai (Eq b6) (Eq b7):=ai.new c6.ltF x7
  have hns:=z7.kN
  refine tn (i:=7) rfl rfl rfl rfl C3 j7 z7 j15 fun q2 hch hz hnn=>?_
  replace hgq:=hgq.step hch y7.wr
  have hle:=hch.le hns
  replace j1:=aA.pers hle j1
  replace j3:=aA.pers hle j3
  replace j5:=aA.pers hle j5
  replace z6:=z6.keep hch (w6_7 _ rfl) hns
  replace j15:=aA.pers hle j15
  replace z7:=hz
  clear hns hle hch
  obtain ⟨q,hqq⟩ : ∃ q,q = q2:=⟨q2,rfl⟩
  subst hqq
  obtain ⟨F7,jn,hFe⟩ : ∃ F,aU b7 [aY] [] (⟨c_.Name,x1,[]⟩:ct) F (b.get 7) q∧F = Eq b7:=⟨_,Box.open z7 CF j7,rfl⟩
  replace j7:=jn
  replace y7:Lo k0 F7:=by rw [hFe]; exact y7
  replace w6_7:ai (Eq b6) F7:=by rw [hFe]; exact w6_7
  clear jn hFe z7
  replace j7:=aU.Ir (g:=aY) j7 (hnn _ (.head _)) rfl
  exact aj (k:=q) (w2 _ _ ⟨⟨hgq,hsb,hdb⟩,j1,j3,j5,j6,y6,z6,b7,F7,j7,y7,w6_7,trivial⟩)
 rintro a k ⟨⟨hg,hs,hd⟩,i1,i3,i5,i6,n6,c6,b7,F7,i7,n7,d6_7,_⟩
 refine wp_seq ?_
 refine gP (fun c l=>∃ F7,Bs noF k0 35 c l∧aL t_ (c.get 3) l∧aL c_ (c.get 5) l∧c.get 6 = .pointer (some ⟨b6,0,none⟩)∧Lo k0 (Eq b6)∧Gb.Box b6 (⟨(⟨#[]⟩:ByteArray),0,[]⟩:ct) l∧(aU b7 [aY] [aY] (⟨c_.Name,x1,[]⟩:ct)) F7 (c.get 7) l∧Lo k0 F7∧IsV rights_ (c.get 16) l∧IsL rights_ (c.get 17) l∧IsI 0 (c.get 18) l∧ai (Eq b6) F7∧True) ?_ ?_
 ·intro Q3 W3 w3
  refine gS 3 (_::_::⟨some (IsI 0),[]⟩::[]) hs (by kernel_rfl) ⟨mu rfl i1,o1 [(16,some 0)] rfl fun _ _ h n=>ep rfl rfl Tryz.underlying38 (IsV.rd n.1),ob1 rfl fun _ _ h n=>cV rfl (cI rfl),trivial⟩ W3 fun b q p=>?_
  exact aj (k:=q) (w3 _ _ ⟨F7,Bs.post ⟨hg,hs,hd⟩ p,p.ke 3 rfl i3,p.ke 5 rfl i5,upE i6 (p.old 6 rfl),n6,Gb.Box.grow c6 p.grow,p.ke 7 rfl i7,n7,p.ou 0 16 rfl,p.ou 1 17 rfl,p.ou 2 18 rfl,d6_7,trivial⟩)
 rintro a k ⟨F7,⟨hg,hs,hd⟩,i3,i5,i6,n6,c6,i7,n7,i16,i17,i18,d6_7,_⟩
 refine wp_block ?_
 obtain ⟨f1,hf1,hr⟩:=bind_some hr
 refine nM f1 (fun s' c l=>∃ F7,Bs noF k0 35 c l∧aL t_ (c.get 3) l∧aL c_ (c.get 5) l∧c.get 6 = .pointer (some ⟨b6,0,none⟩)∧Lo k0 (Eq b6)∧Gb.Box b6 (⟨(⟨#[]⟩:ByteArray),0,[]⟩:ct) l∧(aU b7 [aY] [aY] s'.1) F7 (c.get 7) l∧Lo k0 F7∧IsV rights_ (c.get 16) l∧IsL rights_ (c.get 17) l∧IsV s'.2 (c.get 18) l∧ai (Eq b6) F7∧True) (fun i' s' c l=>(i' = 0∧Bs noF k0 35 c l∧c.get 6 = .pointer (some ⟨b6,0,none⟩)∧Lo k0 (Eq b6)∧Gb.Box b6 (⟨(⟨#[]⟩:ByteArray),0,[]⟩:ct) l∧c.get 7 = .pointer (some ⟨b7,0,none⟩)∧Lo k0 (Eq b7)∧Gb.Box b7 s'.1 l∧ai (Eq b6) (Eq b7)∧True)) (fun r' c l=>bodyPost Tryz.prog Tryz.f29 (dw noF k0 (IsV r')) .ret c l.w) ?_ hQ ?_ ?_ ?_
 ·intro Q4 W4 hgo hex hret
  refine ek ?_ _ _ _ _ _ hf1 ⟨F7,⟨hg,hs,hd⟩,i3,i5,i6,n6,c6,i7,n7,i16,i17,i18,d6_7,trivial⟩ Q4 W4 hgo hex hret
  clear hr hf1 hgo hex hret W4 hQ hg hs hd F7 c6 d6_7 i16 i17 i18 i3 i5 i6 i7 n6 n7
  intro s1 fl_ a k hr hS Q hQ hgo1012 hex1013 hret1014
  obtain ⟨F7,⟨hg,hs,hd⟩,i3,i5,i6,n6,c6,i7,n7,i16,i17,i18,d6_7,_⟩:=hS
  unfold lM at hr
  refine gP (fun c l=>∃ F7,Bs noF k0 35 c l∧aL t_ (c.get 3) l∧aL c_ (c.get 5) l∧c.get 6 = .pointer (some ⟨b6,0,none⟩)∧Lo k0 (Eq b6)∧Gb.Box b6 (⟨(⟨#[]⟩:ByteArray),0,[]⟩:ct) l∧(aU b7 [aY] [aY] s1.1) F7 (c.get 7) l∧Lo k0 F7∧IsV rights_ (c.get 16) l∧IsL rights_ (c.get 17) l∧IsV s1.2 (c.get 18) l∧(IsV (decide (s1.2 < (rights_.length:Int)))) (c.get 19) l∧ai (Eq b6) F7∧True) ?_ ?_
  ·intro Q5 W5 w4
   refine gS 1 (_::[]) hs (by kernel_rfl) ⟨o1 [(18,none),(17,none)] rfl fun _ _ h n=>gU rfl (up i18 h n.1) (up i17 h n.2.1),trivial⟩ W5 fun b q p=>?_
   exact aj (k:=q) (w4 _ _ ⟨F7,Bs.post ⟨hg,hs,hd⟩ p,p.ke 3 rfl i3,p.ke 5 rfl i5,upE i6 (p.old 6 rfl),n6,Gb.Box.grow c6 p.grow,p.ke 7 rfl i7,n7,p.ke 16 rfl i16,p.ke 17 rfl i17,p.ke 18 rfl i18,p.ou 0 19 rfl,d6_7,trivial⟩)
  rintro a k ⟨F7,⟨hg,hs,hd⟩,i3,i5,i6,n6,c6,i7,n7,i16,i17,i18,i19,d6_7,_⟩
  refine wp_seq ?_
  refine wp_cond_split (isBool i19) (fun hc1026=>?_) (fun hc1026=>?_)
  ·rw [if_pos hc1026] at hr
   refine wp_skip ?_
   refine wp_seq ?_
   refine wp_block ?_
   refine wp_seq ?_
   obtain ⟨x2,hx2,hr⟩:=bind_some hr
   refine cut (fun a' k'=>∃ F7,Bs noF k0 35 a' k'∧(aL t_) (a'.get 3) k'∧(aL c_) (a'.get 5) k'∧a'.get 6 = .pointer (some ⟨b6,0,none⟩)∧Lo k0 (Eq b6)∧Gb.Box b6 (⟨(⟨#[]⟩:ByteArray),0,[]⟩:ct) k'∧(aU b7 [aY] [aY] s1.1) F7 (a'.get 7) k'∧Lo k0 F7∧(aL x2) (a'.get 9) k'∧(IsV rights_) (a'.get 16) k'∧(IsL rights_) (a'.get 17) k'∧(IsV s1.2) (a'.get 18) k'∧ai (Eq b6) F7∧True) ?_ hQ ?_
   ·intro Q6 W6 w5
    refine gS 3 (_::_::⟨some (dR k.w.heap.size (⟨0,0,(⟨0,[]⟩:aE),0,0,false⟩:ax)),[]⟩::[]) hs (by kernel_rfl) ⟨o1 [(16,none),(18,none)] rfl fun _ _ h n=>bs rfl Tryz.underlying38 oN (IsV.rd (up i16 h n.1)) (up i18 h n.2.1) hx2,o1 [(20,some 0)] rfl fun _ _ h n=>aM rfl oN n.1,ob1 rfl fun _ _ h n=>dQ _ h.size rfl z43,trivial⟩ W6 fun b q p=>?_
    have hgq:=hg.then p.grow
    have hsb:=p.size.trans hs
    have hdb:=p.defers.trans hd
    have j3:=p.ke 3 rfl i3
    have j5:=p.ke 5 rfl i5
    have j6:=upE i6 (p.old 6 rfl)
    have z6:=Gb.Box.grow c6 p.grow
    have y6:=n6
    have j7:(aU b7 [aY] [aY] s1.1) F7 (b.get 7) q:=p.ke 7 rfl i7
    have y7:=n7
    obtain ⟨b9,j9,x9,z9⟩:(dR k.w.heap.size (⟨0,0,(⟨0,[]⟩:aE),0,0,false⟩:ax)) (b.get 9) q:=p.ou 2 9 rfl
    replace x9:Lo k (Eq b9):=Lo.eq x9
    have y9:Lo k0 (Eq b9):=x9.chg hg
    have j16:=p.ke 16 rfl i16
    have j17:=p.ke 17 rfl i17
    have j18:=p.ke 18 rfl i18
    have j21:(IsV x2) (b.get 21) q:=p.ou 1 21 rfl
    have w6_7:ai (Eq b6) F7:=by exact d6_7
    have w6_9:ai (Eq b6) (Eq b9):=ai.new c6.ltF x9
    have w7_9:ai F7 (Eq b9):=ai.new (Rsc.lt i7) x9
    have hns:=z9.kN
    refine bC (i:=3) rfl rfl rfl rfl C4 (Upd.self (α:=ax)) j9 z9 j21 fun q2 hch hz=>?_
    replace hgq:=hgq.step hch y9.wr
    have hle:=hch.le hns
    replace j3:=aA.pers hle j3
    replace j5:=aA.pers hle j5
    replace z6:=z6.keep hch (w6_9 _ rfl) hns
    replace j7:=Rsc.keep j7 hch w7_9 hns
    replace j16:=aA.pers hle j16
    replace j17:=aA.pers hle j17
    replace j18:=aA.pers hle j18
    replace j21:=aA.pers hle j21
    replace z9:=hz
    clear hns hle hch
    obtain ⟨q,hqq⟩ : ∃ q,q = q2:=⟨q2,rfl⟩
    subst hqq
    obtain ⟨q2,hsh,jn⟩:=z9.fZ
    replace j3:=aA.pers hsh.le j3
    replace j5:=aA.pers hsh.le j5
    replace z6:=z6.handed hsh (w6_9 _ rfl)
    replace j7:=Rsc.handed j7 hsh w7_9
    replace j16:=aA.pers hsh.le j16
    replace j17:=aA.pers hsh.le j17
    replace j18:=aA.pers hsh.le j18
    rw [← j9] at jn
    replace j9:=jn
    replace hgq:=hgq.hand hsh y9.wr
    rw [← hsh.w]
    clear hsh
    obtain ⟨q,hqq⟩ : ∃ q,q = q2:=⟨q2,rfl⟩
    subst hqq
    exact aj (k:=q) (w5 _ _ ⟨F7,⟨hgq,hsb,hdb⟩,j3,j5,j6,y6,z6,j7,y7,j9,j16,j17,j18,w6_7,trivial⟩)
   rintro a k ⟨F7,⟨hg,hs,hd⟩,i3,i5,i6,n6,c6,i7,n7,i9,i16,i17,i18,d6_7,_⟩
   obtain ⟨x3,hx3,hr⟩:=bind_some hr
   obtain ⟨x4,hx4,hr⟩:=bind_some hr
   obtain ⟨x5,hx5,hr⟩:=bind_some hr
   refine cut (fun a' k'=>∃ F7,Bs noF k0 35 a' k'∧(aL t_) (a'.get 3) k'∧(aL c_) (a'.get 5) k'∧a'.get 6 = .pointer (some ⟨b6,0,none⟩)∧Lo k0 (Eq b6)∧Gb.Box b6 (⟨(⟨#[]⟩:ByteArray),0,[]⟩:ct) k'∧(aU b7 [aY] [aY] ({ s1.1 with Tops:=x5 })) F7 (a'.get 7) k'∧Lo k0 F7∧(IsV rights_) (a'.get 16) k'∧(IsL rights_) (a'.get 17) k'∧(IsV s1.2) (a'.get 18) k'∧ai (Eq b6) F7∧True) ?_ hQ ?_
   ·intro Q7 W7 w6
    refine region (m:=9) (_::⟨some (pW b7 aY.off),[(22,some 0)]⟩::_::_::_::_::_::_::⟨some (IsV (α:=(List Int)) ([x4])),[(29,some 7)]⟩::[]) oH hs (by kernel_rfl) ⟨o1 [(7,none)] rfl fun _ _ h n=>cM rfl yR (upE (aU.ptr i7) n.1),ob1 rfl fun _ _ h n=>pQ (g:=aY) rfl Tryz.underlying67 Cm n.1 (Rsc.grow i7 h) (.head _),o1 [(3,none)] rfl fun _ _ h n=>bB rfl Fp (xH _) ((up i3 h n.1)).ptr,o1 [(24,some 2)] rfl fun _ _ h n=>aM rfl J3 n.1,o1 [(5,none)] rfl fun _ _ h n=>aM rfl GJ ((up i5 h n.1)).ptr,o1 [(9,none)] rfl fun _ _ h n=>aM rfl oN ((up i9 h n.1)).ptr,o1 [(25,some 3),(26,some 4),(27,some 5)] rfl fun _ _ h n=>cN rfl Tryz.call49 (xV n.1 n.2.1 n.2.2.1 hx3),o1 [(28,some 6)] rfl fun _ _ h n=>cN rfl Tryz.call48 (uY n.1 hx4),ob1 rfl fun _ _ h n=>cG rfl Tryz.underlying67 eo3 rfl (by decide) (by decide) ⟨rfl,n.1,trivial⟩,trivial⟩ W7 fun b q p=>?_
    have hgq:=hg.then p.grow
    have hsb:=p.size.trans hs
    have hdb:=p.defers.trans hd
    have j3:=p.ke 3 rfl i3
    have j5:=p.ke 5 rfl i5
    have j6:=upE i6 (p.old 6 rfl)
    have z6:=Gb.Box.grow c6 p.grow
    have y6:=n6
    have j7:(aU b7 [aY] [aY] s1.1) F7 (b.get 7) q:=p.ke 7 rfl i7
    have y7:=n7
    have j16:=p.ke 16 rfl i16
    have j17:=p.ke 17 rfl i17
    have j18:=p.ke 18 rfl i18
    have j23:(pW b7 aY.off) (b.get 23) q:=p.ou 1 23 rfl
    have j30:(IsV (α:=(List Int)) ([x4])) (b.get 30) q:=p.ou 8 30 rfl
    have w6_7:ai (Eq b6) F7:=by exact d6_7
    obtain ⟨F7,jt,jo,jw,jf,je⟩:=aU.take j7 j23
    have wo6:ai (obF (b.get 23)) (Eq b6):=fun c h=>(w6_7.symm) c (je c h)
    have wn6:ai F7 (Eq b6):=fun c h=>(w6_7.symm) c (jf c h)
    have y23:Lo k0 (obF (b.get 23)):=fun c h=>y7 c (je c h)
    replace y7:Lo k0 F7:=fun c h=>y7 c (jf c h)
    replace j7:=jt
    replace j23:ay 0 3 s1.1.Tops (b.get 23) q:=jo
    have w6_23:ai (Eq b6) (obF (b.get 23)):=(wo6).symm
    have w6_7:ai (Eq b6) F7:=(wn6).symm
    have w7_23:ai F7 (obF (b.get 23)):=(jw).symm
    clear jt jo jw jf je wo6 wn6
    have hns:=j23.kN
    refine cX (i:=9) (d:=31) rfl rfl rfl rfl (by rw [hsb]; decide) (e:=3) Tryz.underlying67 eo3 j23 (IsV.rd j30) hx5 fun b2 q2 hsz hdf hoth hch hown hob=>?_
    have hle:=hch.le hns
    have yn:Lo k0 (obF (b2.get 31)):=y23.app hgq hob
    have v6:ai (Eq b6) (obF (b2.get 31)):=ai.app w6_23 z6.ltF hob
    have v7:ai F7 (obF (b2.get 31)):=ai.app w7_23 (Rsc.lt j7) hob
    replace j3:=aA.pers hle j3
    replace j5:=aA.pers hle j5
    replace z6:=z6.keep hch (w6_23 _ rfl) hns
    replace j7:=Rsc.keep j7 hch w7_23 hns
    replace j16:=aA.pers hle j16
    replace j17:=aA.pers hle j17
    replace j18:=aA.pers hle j18
    replace j30:=aA.pers hle j30
    replace hgq:=hgq.step hch y23.wr
    rw [← hoth 3 (by decide)] at j3
    rw [← hoth 5 (by decide)] at j5
    rw [← hoth 6 (by decide)] at j6
    rw [← hoth 7 (by decide)] at j7
    rw [← hoth 16 (by decide)] at j16
    rw [← hoth 17 (by decide)] at j17
    rw [← hoth 18 (by decide)] at j18
    rw [← hoth 30 (by decide)] at j30
    have w6_31:=v6
    have w7_31:=v7
    have j31:=hown
    have y31:=yn
    replace hsb:=hsz.trans hsb
    replace hdb:=hdf.trans hdb
    clear hle hch hown hob hns yn hsz hdf hoth
    obtain ⟨b,hbb⟩ : ∃ b,b = b2:=⟨b2,rfl⟩
    subst hbb
    obtain ⟨q,hqq⟩ : ∃ q,q = q2:=⟨q2,rfl⟩
    subst hqq
    refine gI (R:=jG b7 (2)) (i:=10) (d:=32) rfl rfl rfl (by rw [hsb]; decide) W7 (cM rfl yR (aU.ptr j7)) fun b2 q2 hsz hdf hoth hgr hnew=>?_
    replace j3:=aA.pers hgr.le j3
    replace j5:=aA.pers hgr.le j5
    replace z6:=z6.grow hgr
    replace j7:=Rsc.grow j7 hgr
    replace j16:=aA.pers hgr.le j16
    replace j17:=aA.pers hgr.le j17
    replace j18:=aA.pers hgr.le j18
    replace j30:=aA.pers hgr.le j30
    replace j31:=dX.mono hgr j31
    replace hgq:=hgq.then hgr
    rw [← hoth 3 (by decide)] at j3
    rw [← hoth 5 (by decide)] at j5
    rw [← hoth 6 (by decide)] at j6
    rw [← hoth 7 (by decide)] at j7
    rw [← hoth 16 (by decide)] at j16
    rw [← hoth 17 (by decide)] at j17
    rw [← hoth 18 (by decide)] at j18
    rw [← hoth 30 (by decide)] at j30
    rw [← hoth 31 (by decide)] at j31
    rw [← hoth 31 (by decide)] at y31
    rw [← hoth 31 (by decide)] at w6_31
    rw [← hoth 31 (by decide)] at w7_31
    have j32:=hnew
    replace hsb:=hsz.trans hsb
    replace hdb:=hdf.trans hdb
    clear hgr hsz hdf hoth hnew
    obtain ⟨b,hbb⟩ : ∃ b,b = b2:=⟨b2,rfl⟩
    subst hbb
    obtain ⟨q,hqq⟩ : ∃ q,q = q2:=⟨q2,rfl⟩
    subst hqq
    refine ij (i:=11) (g:=aY) (x':=({ s1.1 with Tops:=x5 }:ct)) rfl rfl rfl rfl Cm j32 j7 (by decide) ⟨_,(.head _),rfl⟩ rfl (fun _ _ _ h=>h) (fun _ h=>nomatch h) j31 (w7_31.symm) fun q2 FF hch hz hF=>?_
    have hns:=Rsc.nsh j7
    have hle:=hch.le hns
    replace hgq:=hgq.step hch y7.wr
    replace j3:=aA.pers hle j3
    replace j5:=aA.pers hle j5
    replace z6:=z6.keep hch (w6_7 _ rfl) hns
    replace j16:=aA.pers hle j16
    replace j17:=aA.pers hle j17
    replace j18:=aA.pers hle j18
    replace j30:=aA.pers hle j30
    replace j32:=aA.pers hle j32
    have wn6:ai FF (Eq b6):=fun c h=>(hF c h).elim (fun h=>(w6_7.symm) c h) (fun h=>(w6_31.symm) c h)
    have yn:Lo k0 FF:=fun c h=>(hF c h).elim (fun h=>y7 c h) (fun h=>y31 c h)
    clear hns hle hch hF
    obtain ⟨F7,hFe⟩ : ∃ F,F = FF:=⟨FF,rfl⟩
    subst hFe
    replace j7:=hz
    replace y7:=yn
    clear hz yn
    have w6_7:ai (Eq b6) F7:=(wn6).symm
    clear wn6
    obtain ⟨q,hqq⟩ : ∃ q,q = q2:=⟨q2,rfl⟩
    subst hqq
    exact aj (k:=q) (w6 _ _ ⟨F7,⟨hgq,hsb,hdb⟩,j3,j5,j6,y6,z6,j7,y7,j16,j17,j18,w6_7,trivial⟩)
   rintro a k ⟨F7,⟨hg,hs,hd⟩,i3,i5,i6,n6,c6,i7,n7,i16,i17,i18,d6_7,_⟩
   obtain ⟨x8,hx8,hr⟩:=bind_some hr
   refine cut (fun a' k'=>∃ F7,Bs noF k0 35 a' k'∧(aL t_) (a'.get 3) k'∧(aL c_) (a'.get 5) k'∧a'.get 6 = .pointer (some ⟨b6,0,none⟩)∧Lo k0 (Eq b6)∧Gb.Box b6 (⟨(⟨#[]⟩:ByteArray),0,[]⟩:ct) k'∧(aU b7 [aY] [aY] ({ s1.1 with Tops:=x5 })) F7 (a'.get 7) k'∧Lo k0 F7∧(IsV rights_) (a'.get 16) k'∧(IsL rights_) (a'.get 17) k'∧(IsV x8) (a'.get 18) k'∧ai (Eq b6) F7∧True) ?_ hQ ?_
   ·intro Q8 W8 w7
    refine gS 2 (_::_::[]) hs (by kernel_rfl) ⟨o1 [(18,none)] rfl fun _ _ h n=>gV rfl (up i18 h n.1) (cI rfl) hx8,cm 0 rfl rfl,trivial⟩ W8 fun b q p=>?_
    exact aj (k:=q) (w7 _ _ ⟨F7,Bs.post ⟨hg,hs,hd⟩ p,p.ke 3 rfl i3,p.ke 5 rfl i5,upE i6 (p.old 6 rfl),n6,Gb.Box.grow c6 p.grow,p.ke 7 rfl i7,n7,p.ke 16 rfl i16,p.ke 17 rfl i17,p.ou 1 18 rfl,d6_7,trivial⟩)
   rintro a k ⟨F7,⟨hg,hs,hd⟩,i3,i5,i6,n6,c6,i7,n7,i16,i17,i18,d6_7,_⟩
   exact hgo1012 _ _ _ (Option.some.inj hr).symm ⟨F7,⟨hg,hs,hd⟩,i3,i5,i6,n6,c6,i7,n7,i16,i17,i18,d6_7,trivial⟩
  rw [if_neg (by rw [hc1026]; decide)] at hr
  refine wp_exit ?_
  obtain ⟨kk,sh1025,cc7⟩:=aU.close i7 (Ci _) (fun _ h=>h)
  replace c6:=c6.handed sh1025 (d6_7 _ rfl)
  replace hg:=hg.hand sh1025 n7.wr
  rw [← sh1025.w]
  replace d6_7:ai (Eq b6) (Eq b7):=fun c h e=>d6_7 c h (aU.sub i7 c e)
  replace n7:Lo k0 (Eq b7):=fun c e=>n7 c (aU.sub i7 c e)
  replace i7:=aU.ptr i7
  have c7:=cc7
  clear sh1025 cc7
  obtain ⟨k,hkk⟩ : ∃ k,k = kk:=⟨kk,rfl⟩
  subst hkk
  exact hex1013 _ _ _ _ (Option.some.inj hr).symm ⟨rfl,⟨hg,hs,hd⟩,i6,n6,c6,i7,n7,c7,d6_7,trivial⟩
 ·rintro r1 a k rfl hR
  dsimp only at hr
  obtain rfl:=Option.some.inj hr
  exact hR
 ·rintro _ _ _ rfl _
  simp at hr
 clear hf1
 rintro _ s2 a k rfl ⟨rfl,⟨hg,hs,hd⟩,i6,n6,c6,i7,n7,c7,d6_7,_⟩
 dsimp only at hr
 refine gP (fun c l=>Bs noF k0 35 c l∧c.get 6 = .pointer (some ⟨b6,0,none⟩)∧Lo k0 (Eq b6)∧Gb.Box b6 s2.1 l∧True) ?_ ?_
 ·intro Q9 W9 w8
  refine gS 1 (_::[]) hs (by kernel_rfl) ⟨o1 [(7,none)] rfl fun _ _ h n=>aM rfl FX ⟨_,(upE i7 n.1),(c7.grow h).at⟩,trivial⟩ W9 fun b q p=>?_
  have hgq:=hg.then p.grow
  have hsb:=p.size.trans hs
  have hdb:=p.defers.trans hd
  have j6:=upE i6 (p.old 6 rfl)
  have z6:=Gb.Box.grow c6 p.grow
  have y6:=n6
  have j34:(IsV s2.1) (b.get 34) q:=p.ou 0 34 rfl
  have hns:=z6.kN
  refine bC (i:=1) rfl rfl rfl rfl C3 (Upd.self (α:=ct)) j6 z6 j34 fun q2 hch hz=>?_
  replace hgq:=hgq.step hch y6.wr
  have hle:=hch.le hns
  replace j34:=aA.pers hle j34
  replace z6:=hz
  clear hns hle hch
  obtain ⟨q,hqq⟩ : ∃ q,q = q2:=⟨q2,rfl⟩
  subst hqq
  exact aj (k:=q) (w8 _ _ ⟨⟨hgq,hsb,hdb⟩,j6,y6,z6,trivial⟩)
 rintro a k ⟨⟨hg,hs,hd⟩,i6,n6,c6,_⟩
 refine wp_ret ?_
 obtain rfl:=Option.some.inj hr
 exact iT rfl hd hg (tU FX i6 c6)
noncomputable def k29:=mkO 29 [.st 7,.list (.st 30),.st 15] [.st 33] (fun x=>od x.1 x.2.1 x.2.2) Tryz.call29 fun k0 vs x r hG h hr=>by obtain ⟨v0,vs,rfl,i0,h⟩:=h.cons; obtain ⟨v1,vs,rfl,i1,h⟩:=h.cons; obtain ⟨v2,rfl,i2⟩:=h.one; exact Ab i0 i1 i2 hr
def bD (s_:(List bf)):Option ((List bf)):=
 (cg [] s_).bind fun x1=>
 some x1
theorem jO {k0:K} {v0:Value} {s_:(List bf)} {r:(List bf)} (i0:(IsV s_) v0 k0) (hr:bD s_ = some r) :
  Calls Tryz.prog 33 #[v0] k0.w (Ret k0 (ay k0.w.heap.size 97 r)):=by
 unfold bD at hr
 refine Ret.ofC ?_
 refine iN Tryz.func33 rfl Tryz.ntmps33 (show 1 ≤ 8 by decide) fun a k hk0 hs hd ha=>?_
 obtain ⟨e0,_⟩:=ha
 replace i0:(IsV s_) (a.get 0) k:=by rw [e0,hk0]; exact i0
 have hQ:Gb.LetsOut (bodyPost Tryz.prog Tryz.f33 (dw noF k0 (ay k0.w.heap.size 97 r))):=fc
 have hg:Chg noF k0 k:=by rw [hk0]; exact Chg.refl _ k0
 refine dr 1 (⟨some cO,[]⟩::[]) rfl ⟨hg,hs,hd⟩ (by kernel_rfl) ⟨ob1 rfl fun b q h n=>bL rfl dp,trivial⟩ [⟨_,_⟩] (fun b q p=>⟨p.ke 0 rfl i0,trivial⟩) ?_
 rintro a k ⟨⟨hg,hs,hd⟩,i0,_⟩
 refine wp_seq ?_
 refine dr 2 (_::⟨some (Df s_),[(3,some 0)]⟩::[]) rfl ⟨hg,hs,hd⟩ (by kernel_rfl) ⟨mu rfl i0,ob1 rfl fun _ _ h n=>rP rfl Tryz.underlying34 (IsV.rd n.1),trivial⟩ [⟨_,_⟩,⟨_,_⟩] (fun b q p=>⟨p.ke 0 rfl i0,p.ou 1 4 rfl,trivial⟩) ?_
 rintro a k ⟨⟨hg,hs,hd⟩,i0,i4,_⟩
 obtain ⟨bb,hbb,hnil⟩:=i4
 refine wp_cond_split hbb (fun hc1050=>?_) (fun hc1050=>?_)
 ·replace hr:some ([]:List bf) = some r:=by rw [hnil hc1050] at hr; simpa [cg] using hr
  refine gP (fun c l=>Bs noF k0 8 c l∧ay 0 97 ([]:List bf) (c.get 2) l∧Lo k0 (obF (c.get 2))∧True) ?_ ?_
  ·intro Q1 W1 w1
   refine gS 1 (⟨some cO,[]⟩::[]) hs (by kernel_rfl) ⟨ob1 rfl fun b q h n=>bL rfl dp,trivial⟩ W1 fun b q p=>?_
   have hgq:=hg.then p.grow
   have hsb:=p.size.trans hs
   have hdb:=p.defers.trans hd
   have j2:cO (b.get 2) q:=p.ou 0 2 rfl
   have y2:Lo k0 (obF (b.get 2)):=j2.lo
   replace j2:ay 0 97 ([]:List bf) (b.get 2) q:=j2.DS
   exact aj (k:=q) (w1 _ _ ⟨⟨hgq,hsb,hdb⟩,j2,y2,trivial⟩)
  rintro a k ⟨⟨hg,hs,hd⟩,i2,n2,_⟩
  refine wp_ret ?_
  obtain rfl:=Option.some.inj hr
  exact iT rfl hd hg (show pd _ _ _ (.tmp 2) _ from ay.raise (k0:=k0) i2 n2)
 ·skip
  refine wp_skip ?_
  refine wp_seq ?_
  obtain ⟨x1,hx1,hr⟩:=bind_some hr
  refine cut (fun a' k'=>Bs noF k0 8 a' k'∧ay 0 97 x1 (a'.get 2) k'∧Lo k0 (obF (a'.get 2))∧True) ?_ hQ ?_
  ·intro Q2 W2 w2
   refine gS 4 (⟨some cO,[]⟩::_::⟨some (ay k.w.heap.size 97 x1),[(5,some 0),(6,some 1)]⟩::_::[]) hs (by kernel_rfl) ⟨ob1 rfl fun b q h n=>fO rfl Tryz.underlying34 GA,mu rfl i0,ob1 rfl fun _ _ h n=>kO rfl Tryz.underlying34 GA h.size n.1 (IsV.rd n.2.1) hx1,cp 2 rfl rfl,trivial⟩ W2 fun b q p=>?_
   have hgq:=hg.then p.grow
   have hsb:=p.size.trans hs
   have hdb:=p.defers.trans hd
   have j2:(ay k.w.heap.size 97 x1) (b.get 2) q:=p.ou 3 2 rfl
   have x2:Lo k (obF (b.get 2)):=j2.loF
   have y2:=x2.chg hg
   replace j2:=j2.weaken (Nat.zero_le _)
   exact aj (k:=q) (w2 _ _ ⟨⟨hgq,hsb,hdb⟩,j2,y2,trivial⟩)
  rintro a k ⟨⟨hg,hs,hd⟩,i2,n2,_⟩
  refine wp_ret ?_
  obtain rfl:=Option.some.inj hr
  exact iT rfl hd hg (show pd _ _ _ (.tmp 2) _ from ay.raise (k0:=k0) i2 n2)
theorem kH {k0:K} {v0:Value} {s_:(List bf)} {r:(List bf)} (i0:(IsV s_) v0 k0) (hr:bD s_ = some r) :
  Calls Tryz.prog 33 #[v0] k0.w (Ret k0 (IsV r)):=
 vr (jO i0 hr)
noncomputable def k33:=mkO 33 [.list (.st 21)] [.list (.st 21)] (fun x=>bD x) Tryz.call33 fun k0 vs x r hG h hr=>by obtain ⟨v0,rfl,i0⟩:=h.one; exact kH i0 hr
def gw (lot_:Int) (ph_:Phase) (s1:aq × Int):Option (aN (aq × Int) (aq)):=
 if (decide (s1.2 < (ph_.Volumes.length:Int))) then
  (au ph_.Volumes s1.2).bind fun x1=>
  (cg s1.1.Built ([(⟨lot_,x1⟩:bf)])).bind fun x2=>
  (aD s1.2 1).bind fun x3=>
  some (.go ({ s1.1 with Built:=x2 },x3))
 else
  some (.ex 0 (s1.1,s1.2))
def gy (ph_:Phase) (s1:aq × Int):Option (aN (aq × Int) (aq)):=
 if (decide (s1.2 < (ph_.bd.length:Int))) then
  (au ph_.bd s1.2).bind fun x1=>
  (lO x1.N).bind fun x2=>
  (bZ 0 x2).bind fun x3=>
  (cg s1.1.Base ([(⟨x1.Name,x3⟩:Entry)])).bind fun x4=>
  (aD s1.2 1).bind fun x5=>
  some (.go ({ s1.1 with Base:=x4 },x5))
 else
  some (.ex 2 (s1.1,s1.2))
def eX (t_:aq) (lot_:Int) (ph_:Phase):Option (aq):=
 (bD t_.Built).bind fun x1=>
 (bq t_.Base).bind fun x2=>
 (ah (gw lot_ ph_) (ph_.Volumes.length + 1) ({ ({ t_ with Built:=x1 }:aq) with Base:=x2 },0)).bind fun f1=>match f1 with
  | .go _=>none
  | .ex _ s1 =>
   (ah (gy ph_) (ph_.bd.length + 1) (s1.1,0)).bind fun f2=>match f2 with
    | .go _=>none
    | .ex _ s2=>
     some s2.1
    | .ret r1=>some r1
  | .ret r2=>some r2
theorem o8 {k0:K} {v0 v1 v2:Value} {t_:aq} {lot_:Int} {ph_:Phase} {r:aq} (i0:(IsV t_) v0 k0) (i1:(IsV lot_) v1 k0) (i2:(IsV ph_) v2 k0) (hr:eX t_ lot_ ph_ = some r) :
  Calls Tryz.prog 15 #[v0,v1,v2] k0.w (Ret k0 (IsV r)):=by
 unfold eX at hr
 refine Ret.ofC ?_
 refine iN Tryz.func15 rfl Tryz.ntmps15 (show 3 ≤ 56 by decide) fun a k hk0 hs hd ha=>?_
 obtain ⟨e0,e1,e2,_⟩:=ha
 replace i0:(IsV t_) (a.get 0) k:=by rw [e0,hk0]; exact i0
 replace i1:(IsV lot_) (a.get 1) k:=by rw [e1,hk0]; exact i1
 replace i2:(IsV ph_) (a.get 2) k:=by rw [e2,hk0]; exact i2
 have hQ:Gb.LetsOut (bodyPost Tryz.prog Tryz.f15 (dw noF k0 (IsV r))):=fc
 have hg:Chg noF k0 k:=by rw [hk0]; exact Chg.refl _ k0
 refine gP (fun c l=>Bs noF k0 56 c l∧IsV lot_ (c.get 1) l∧aL ph_ (c.get 5) l∧(∃ b3,c.get 3 = .pointer (some ⟨b3,0,none⟩)∧Lo k0 (Eq b3)∧Gb.Box b3 t_ l∧(∃ b6,c.get 6 = .pointer (some ⟨b6,0,none⟩)∧Lo k0 (Eq b6)∧Gb.Box b6 (⟨(⟨[],[],[],[],[],[],[],0⟩:an),[],[],[],[],[]⟩:aq) l∧ai (Eq b3) (Eq b6)∧True))) ?_ ?_
 ·intro Q1 W1 w1
  refine gS 2 (⟨some (dR k.w.heap.size t_),[(0,none)]⟩::⟨some (aL ph_),[(2,none)]⟩::[]) hs (by kernel_rfl) ⟨ob1 rfl fun _ _ h n=>xS _ h.size rfl (up i0 h n.1),ob1 rfl fun _ _ h n=>js rfl (up i2 h n.1),trivial⟩ W1 fun b q p=>?_
  have hgq:=hg.then p.grow
  have hsb:=p.size.trans hs
  have hdb:=p.defers.trans hd
  have j1:=p.ke 1 rfl i1
  obtain ⟨b3,j3,x3,z3⟩:(dR k.w.heap.size t_) (b.get 3) q:=p.ou 0 3 rfl
  replace x3:Lo k (Eq b3):=Lo.eq x3
  have y3:Lo k0 (Eq b3):=x3.chg hg
  have j5:(aL ph_) (b.get 5) q:=p.ou 1 5 rfl
  refine gI (i:=2) (d:=6) rfl rfl rfl (by rw [hsb]; decide) W1 (dQ _ (Nat.le_refl _) rfl z37) fun b2 q2 hsz hdf hoth hgr hnew=>?_
  obtain ⟨b6,jn,xn,zn⟩:=hnew
  have v3:ai (Eq b3) (Eq b6):=ai.new z3.ltF (Lo.eq xn)
  have yn:Lo k0 (Eq b6):=(Lo.eq xn).chg hgq
  replace j1:=aA.pers hgr.le j1
  replace z3:=z3.grow hgr
  replace j5:=aA.pers hgr.le j5
  replace hgq:=hgq.then hgr
  rw [← hoth 1 (by decide)] at j1
  rw [← hoth 3 (by decide)] at j3
  rw [← hoth 5 (by decide)] at j5
  have w3_6:=v3
  have j6:=jn
  have z6:=zn
  have y6:=yn
  replace hsb:=hsz.trans hsb
  replace hdb:=hdf.trans hdb
  clear hgr hsz hdf hoth jn zn yn xn
  obtain ⟨b,hbb⟩ : ∃ b,b = b2:=⟨b2,rfl⟩
  subst hbb
  obtain ⟨q,hqq⟩ : ∃ q,q = q2:=⟨q2,rfl⟩
  subst hqq
  exact aj (k:=q) (w1 _ _ ⟨⟨hgq,hsb,hdb⟩,j1,j5,b3,j3,y3,z3,b6,j6,y6,z6,w3_6,trivial⟩)
 rintro a k ⟨⟨hg,hs,hd⟩,i1,i5,b3,i3,n3,c3,b6,i6,n6,c6,d3_6,_⟩
 refine wp_seq ?_
 obtain ⟨x1,hx1,hr⟩:=bind_some hr
 obtain ⟨x2,hx2,hr⟩:=bind_some hr
 refine cut (fun a' k'=>∃ F3,Bs noF k0 56 a' k'∧(IsV lot_) (a'.get 1) k'∧(aU b3 [bm,bn] [bm,bn] ({ ({ t_ with Built:=x1 }:aq) with Base:=x2 })) F3 (a'.get 3) k'∧Lo k0 F3∧(aL ph_) (a'.get 5) k'∧a'.get 6 = .pointer (some ⟨b6,0,none⟩)∧Lo k0 (Eq b6)∧Gb.Box b6 (⟨(⟨[],[],[],[],[],[],[],0⟩:an),[],[],[],[],[]⟩:aq) k'∧ai F3 (Eq b6)∧True) ?_ hQ ?_
 ·intro Q2 W2 w2
  refine region (m:=7) (_::_::_::_::_::_::_::[]) oH hs (by kernel_rfl) ⟨o1 [(3,none)] rfl fun _ _ h n=>bB rfl sB (xG _) ⟨_,(upE i3 n.1),(c3.grow h).at⟩,o1 [(11,some 0)] rfl fun _ _ h n=>aM rfl IZ n.1,o1 [(12,some 1)] rfl fun _ _ h n=>cN rfl Tryz.call33 (oP h.size (jO n.1 hx1)),o1 [(3,none)] rfl fun _ _ h n=>bB rfl se (xg _) ⟨_,(upE i3 n.1),(c3.grow h).at⟩,o1 [(14,some 3)] rfl fun _ _ h n=>aM rfl HW n.1,o1 [(15,some 4)] rfl fun _ _ h n=>cN rfl Tryz.call34 (oP h.size (ku n.1 hx2)),o1 [(3,none)] rfl fun _ _ h n=>cM rfl sB (upE i3 n.1),trivial⟩ W2 fun b q p=>?_
  have hgq:=hg.then p.grow
  have hsb:=p.size.trans hs
  have hdb:=p.defers.trans hd
  have j1:=p.ke 1 rfl i1
  have j3:=upE i3 (p.old 3 rfl)
  have z3:=Gb.Box.grow c3 p.grow
  have y3:=n3
  have j5:=p.ke 5 rfl i5
  have j6:=upE i6 (p.old 6 rfl)
  have z6:=Gb.Box.grow c6 p.grow
  have y6:=n6
  have j13:(ay k.w.heap.size 97 x1) (b.get 13) q:=p.ou 2 13 rfl
  have x13:Lo k (obF (b.get 13)):=j13.loF
  have y13:=x13.chg hg
  replace j13:=j13.weaken (Nat.zero_le _)
  have j16:(ay k.w.heap.size 99 x2) (b.get 16) q:=p.ou 5 16 rfl
  have x16:Lo k (obF (b.get 16)):=j16.loF
  have y16:=x16.chg hg
  replace j16:=j16.weaken (Nat.zero_le _)
  have j17:jG b3 (11) (b.get 17) q:=p.ou 6 17 rfl
  have w3_6:ai (Eq b3) (Eq b6):=by exact d3_6
  have w3_13:ai (Eq b3) (obF (b.get 13)):=ai.new c3.ltF x13
  have w3_16:ai (Eq b3) (obF (b.get 16)):=ai.new c3.ltF x16
  have w6_13:ai (Eq b6) (obF (b.get 13)):=ai.new c6.ltF x13
  have w6_16:ai (Eq b6) (obF (b.get 16)):=ai.new c6.ltF x16
  have w13_16:ai (obF (b.get 13)) (obF (b.get 16)):=Gg j13 j16 (by decide)
  obtain ⟨F3,jn,hFe⟩ : ∃ F,aU b3 [bm,bn] [] t_ F (b.get 3) q∧F = Eq b3:=⟨_,Box.open z3 xQ j3,rfl⟩
  replace j3:=jn
  replace y3:Lo k0 F3:=by rw [hFe]; exact y3
  replace w3_6:ai F3 (Eq b6):=by rw [hFe]; exact w3_6
  replace w3_13:ai F3 (obF (b.get 13)):=by rw [hFe]; exact w3_13
  replace w3_16:ai F3 (obF (b.get 16)):=by rw [hFe]; exact w3_16
  clear jn hFe z3
  refine ij (i:=7) (g:=bm) (x':=({ t_ with Built:=x1 }:aq)) rfl rfl rfl rfl C7 j17 j3 (by decide) ⟨_,(.head _),rfl⟩ rfl (fun _ _ _ h=>h) (fun _ h=>nomatch h) j13 (w3_13.symm) fun q2 FF hch hz hF=>?_
  have hns:=Rsc.nsh j3
  have hle:=hch.le hns
  replace hgq:=hgq.step hch y3.wr
  replace j1:=aA.pers hle j1
  replace j5:=aA.pers hle j5
  replace z6:=z6.keep hch ((w3_6.symm) _ rfl) hns
  replace j16:=j16.keep hch (w3_16.symm) hns
  replace j17:=aA.pers hle j17
  have wn6:ai FF (Eq b6):=fun c h=>(hF c h).elim (fun h=>w3_6 c h) (fun h=>(w6_13.symm) c h)
  have wn16:ai FF (obF (b.get 16)):=fun c h=>(hF c h).elim (fun h=>w3_16 c h) (fun h=>w13_16 c h)
  have yn:Lo k0 FF:=fun c h=>(hF c h).elim (fun h=>y3 c h) (fun h=>y13 c h)
  clear hns hle hch hF
  obtain ⟨F3,hFe⟩ : ∃ F,F = FF:=⟨FF,rfl⟩
  subst hFe
  replace j3:=hz
  replace y3:=yn
  clear hz yn
  have w3_6:ai F3 (Eq b6):=wn6
  clear wn6
  have w3_16:ai F3 (obF (b.get 16)):=wn16
  clear wn16
  obtain ⟨q,hqq⟩ : ∃ q,q = q2:=⟨q2,rfl⟩
  subst hqq
  refine gI (R:=jG b3 (12)) (i:=8) (d:=18) rfl rfl rfl (by rw [hsb]; decide) W2 (cM rfl se (aU.ptr j3)) fun b2 q2 hsz hdf hoth hgr hnew=>?_
  replace j1:=aA.pers hgr.le j1
  replace j3:=Rsc.grow j3 hgr
  replace j5:=aA.pers hgr.le j5
  replace z6:=z6.grow hgr
  replace j16:=dX.mono hgr j16
  replace j17:=aA.pers hgr.le j17
  replace hgq:=hgq.then hgr
  rw [← hoth 1 (by decide)] at j1
  rw [← hoth 3 (by decide)] at j3
  rw [← hoth 5 (by decide)] at j5
  rw [← hoth 6 (by decide)] at j6
  rw [← hoth 16 (by decide)] at j16
  rw [← hoth 16 (by decide)] at y16
  rw [← hoth 17 (by decide)] at j17
  rw [← hoth 16 (by decide)] at w3_16
  rw [← hoth 16 (by decide)] at w6_16
  have j18:=hnew
  replace hsb:=hsz.trans hsb
  replace hdb:=hdf.trans hdb
  clear hgr hsz hdf hoth hnew
  obtain ⟨b,hbb⟩ : ∃ b,b = b2:=⟨b2,rfl⟩
  subst hbb
  obtain ⟨q,hqq⟩ : ∃ q,q = q2:=⟨q2,rfl⟩
  subst hqq
  refine ij (i:=9) (g:=bn) (x':=({ ({ t_ with Built:=x1 }:aq) with Base:=x2 }:aq)) rfl rfl rfl rfl CH j18 j3 (by decide) ⟨_,(.tail _ (.head _)),rfl⟩ rfl (fun _ _ _ h=>h) (fun _ h=>by cases h with | head=>decide | tail _ h=>exact nomatch h) j16 (w3_16.symm) fun q2 FF hch hz hF=>?_
  have hns:=Rsc.nsh j3
  have hle:=hch.le hns
  replace hgq:=hgq.step hch y3.wr
  replace j1:=aA.pers hle j1
  replace j5:=aA.pers hle j5
  replace z6:=z6.keep hch ((w3_6.symm) _ rfl) hns
  replace j17:=aA.pers hle j17
  replace j18:=aA.pers hle j18
  have wn6:ai FF (Eq b6):=fun c h=>(hF c h).elim (fun h=>w3_6 c h) (fun h=>(w6_16.symm) c h)
  have yn:Lo k0 FF:=fun c h=>(hF c h).elim (fun h=>y3 c h) (fun h=>y16 c h)
  clear hns hle hch hF
  obtain ⟨F3,hFe⟩ : ∃ F,F = FF:=⟨FF,rfl⟩
  subst hFe
  replace j3:=hz
  replace y3:=yn
  clear hz yn
  have w3_6:ai F3 (Eq b6):=wn6
  clear wn6
  obtain ⟨q,hqq⟩ : ∃ q,q = q2:=⟨q2,rfl⟩
  subst hqq
  replace j3:=aU.swap j3
  exact aj (k:=q) (w2 _ _ ⟨F3,⟨hgq,hsb,hdb⟩,j1,j3,y3,j5,j6,y6,z6,w3_6,trivial⟩)
 rintro a k ⟨F3,⟨hg,hs,hd⟩,i1,i3,n3,i5,i6,n6,c6,d3_6,_⟩
 refine wp_seq ?_
 refine gP (fun c l=>∃ F3,Bs noF k0 56 c l∧IsV lot_ (c.get 1) l∧(aU b3 [bm,bn] [bm,bn] ({ ({ t_ with Built:=x1 }:aq) with Base:=x2 })) F3 (c.get 3) l∧Lo k0 F3∧aL ph_ (c.get 5) l∧c.get 6 = .pointer (some ⟨b6,0,none⟩)∧Lo k0 (Eq b6)∧Gb.Box b6 (⟨(⟨[],[],[],[],[],[],[],0⟩:an),[],[],[],[],[]⟩:aq) l∧IsV ph_.Volumes (c.get 20) l∧IsI (ph_.Volumes.length:Int) (c.get 21) l∧IsI 0 (c.get 22) l∧ai F3 (Eq b6)∧True) ?_ ?_
 ·intro Q3 W3 w3
  refine gS 4 (_::_::_::⟨some (IsI 0),[]⟩::[]) hs (by kernel_rfl) ⟨o1 [(5,none)] rfl fun _ _ h n=>bB rfl II (BY _) ((up i5 h n.1)).ptr,o1 [(19,some 0)] rfl fun _ _ h n=>aM rfl Ki n.1,o1 [(20,some 1)] rfl fun _ _ h n=>ep rfl rfl Tryz.underlying44 (IsV.rd n.1),ob1 rfl fun _ _ h n=>cV rfl (cI rfl),trivial⟩ W3 fun b q p=>?_
  exact aj (k:=q) (w3 _ _ ⟨F3,Bs.post ⟨hg,hs,hd⟩ p,p.ke 1 rfl i1,p.ke 3 rfl i3,n3,p.ke 5 rfl i5,upE i6 (p.old 6 rfl),n6,Gb.Box.grow c6 p.grow,p.ou 1 20 rfl,p.ou 2 21 rfl,p.ou 3 22 rfl,d3_6,trivial⟩)
 rintro a k ⟨F3,⟨hg,hs,hd⟩,i1,i3,n3,i5,i6,n6,c6,i20,i21,i22,d3_6,_⟩
 refine wp_block ?_
 obtain ⟨f1,hf1,hr⟩:=bind_some hr
 refine nM f1 (fun s' c l=>∃ F3,Bs noF k0 56 c l∧IsV lot_ (c.get 1) l∧(aU b3 [bm,bn] [bm,bn] s'.1) F3 (c.get 3) l∧Lo k0 F3∧aL ph_ (c.get 5) l∧c.get 6 = .pointer (some ⟨b6,0,none⟩)∧Lo k0 (Eq b6)∧Gb.Box b6 (⟨(⟨[],[],[],[],[],[],[],0⟩:an),[],[],[],[],[]⟩:aq) l∧IsV ph_.Volumes (c.get 20) l∧IsI (ph_.Volumes.length:Int) (c.get 21) l∧IsV s'.2 (c.get 22) l∧ai F3 (Eq b6)∧True) (fun i' s' c l=>(i' = 0∧∃ F3,Bs noF k0 56 c l∧(aU b3 [bm,bn] [bm,bn] s'.1) F3 (c.get 3) l∧Lo k0 F3∧aL ph_ (c.get 5) l∧c.get 6 = .pointer (some ⟨b6,0,none⟩)∧Lo k0 (Eq b6)∧Gb.Box b6 (⟨(⟨[],[],[],[],[],[],[],0⟩:an),[],[],[],[],[]⟩:aq) l∧ai F3 (Eq b6)∧True)) (fun r' c l=>bodyPost Tryz.prog Tryz.f15 (dw noF k0 (IsV r')) .ret c l.w) ?_ hQ ?_ ?_ ?_
 ·intro Q4 W4 hgo hex hret
  refine ek ?_ _ _ _ _ _ hf1 ⟨F3,⟨hg,hs,hd⟩,i1,i3,n3,i5,i6,n6,c6,i20,i21,i22,d3_6,trivial⟩ Q4 W4 hgo hex hret
  clear hr hf1 hgo hex hret W4 hQ hg hs hd F3 c6 d3_6 i1 i20 i21 i22 i3 i5 i6 n3 n6
  intro s1 fl_ a k hr hS Q hQ hgo1059 hex1060 hret1061
  obtain ⟨F3,⟨hg,hs,hd⟩,i1,i3,n3,i5,i6,n6,c6,i20,i21,i22,d3_6,_⟩:=hS
  unfold gw at hr
  refine gP (fun c l=>∃ F3,Bs noF k0 56 c l∧IsV lot_ (c.get 1) l∧(aU b3 [bm,bn] [bm,bn] s1.1) F3 (c.get 3) l∧Lo k0 F3∧aL ph_ (c.get 5) l∧c.get 6 = .pointer (some ⟨b6,0,none⟩)∧Lo k0 (Eq b6)∧Gb.Box b6 (⟨(⟨[],[],[],[],[],[],[],0⟩:an),[],[],[],[],[]⟩:aq) l∧IsV ph_.Volumes (c.get 20) l∧IsI (ph_.Volumes.length:Int) (c.get 21) l∧IsV s1.2 (c.get 22) l∧(IsV (decide (s1.2 < (ph_.Volumes.length:Int)))) (c.get 23) l∧ai F3 (Eq b6)∧True) ?_ ?_
  ·intro Q5 W5 w4
   refine gS 1 (_::[]) hs (by kernel_rfl) ⟨o1 [(22,none),(21,none)] rfl fun _ _ h n=>gU rfl (up i22 h n.1) (up i21 h n.2.1),trivial⟩ W5 fun b q p=>?_
   exact aj (k:=q) (w4 _ _ ⟨F3,Bs.post ⟨hg,hs,hd⟩ p,p.ke 1 rfl i1,p.ke 3 rfl i3,n3,p.ke 5 rfl i5,upE i6 (p.old 6 rfl),n6,Gb.Box.grow c6 p.grow,p.ke 20 rfl i20,p.ke 21 rfl i21,p.ke 22 rfl i22,p.ou 0 23 rfl,d3_6,trivial⟩)
  rintro a k ⟨F3,⟨hg,hs,hd⟩,i1,i3,n3,i5,i6,n6,c6,i20,i21,i22,i23,d3_6,_⟩
  refine wp_seq ?_
  refine wp_cond_split (isBool i23) (fun hc1072=>?_) (fun hc1072=>?_)
  ·rw [if_pos hc1072] at hr
   refine wp_skip ?_
   refine wp_seq ?_
   refine wp_block ?_
   refine wp_seq ?_
   obtain ⟨x4,hx4,hr⟩:=bind_some hr
   refine cut (fun a' k'=>∃ F3,Bs noF k0 56 a' k'∧(IsV lot_) (a'.get 1) k'∧(aU b3 [bm,bn] [bm,bn] s1.1) F3 (a'.get 3) k'∧Lo k0 F3∧(aL ph_) (a'.get 5) k'∧a'.get 6 = .pointer (some ⟨b6,0,none⟩)∧Lo k0 (Eq b6)∧Gb.Box b6 (⟨(⟨[],[],[],[],[],[],[],0⟩:an),[],[],[],[],[]⟩:aq) k'∧(aL x4) (a'.get 8) k'∧(IsV ph_.Volumes) (a'.get 20) k'∧(IsI (ph_.Volumes.length:Int)) (a'.get 21) k'∧(IsV s1.2) (a'.get 22) k'∧ai F3 (Eq b6)∧True) ?_ hQ ?_
   ·intro Q6 W6 w5
    refine gS 3 (_::_::⟨some (dR k.w.heap.size (⟨(⟨(⟨0,0,0,0⟩:aw),0,0⟩:Box),0,0,false⟩:af)),[]⟩::[]) hs (by kernel_rfl) ⟨o1 [(20,none),(22,none)] rfl fun _ _ h n=>bs rfl Tryz.underlying44 Ie (IsV.rd (up i20 h n.1)) (up i22 h n.2.1) hx4,o1 [(24,some 0)] rfl fun _ _ h n=>aM rfl Ie n.1,ob1 rfl fun _ _ h n=>dQ _ h.size rfl z83,trivial⟩ W6 fun b q p=>?_
    have hgq:=hg.then p.grow
    have hsb:=p.size.trans hs
    have hdb:=p.defers.trans hd
    have j1:=p.ke 1 rfl i1
    have j3:(aU b3 [bm,bn] [bm,bn] s1.1) F3 (b.get 3) q:=p.ke 3 rfl i3
    have y3:=n3
    have j5:=p.ke 5 rfl i5
    have j6:=upE i6 (p.old 6 rfl)
    have z6:=Gb.Box.grow c6 p.grow
    have y6:=n6
    obtain ⟨b8,j8,x8,z8⟩:(dR k.w.heap.size (⟨(⟨(⟨0,0,0,0⟩:aw),0,0⟩:Box),0,0,false⟩:af)) (b.get 8) q:=p.ou 2 8 rfl
    replace x8:Lo k (Eq b8):=Lo.eq x8
    have y8:Lo k0 (Eq b8):=x8.chg hg
    have j20:=p.ke 20 rfl i20
    have j21:=p.ke 21 rfl i21
    have j22:=p.ke 22 rfl i22
    have j25:(IsV x4) (b.get 25) q:=p.ou 1 25 rfl
    have w3_6:ai F3 (Eq b6):=by exact d3_6
    have w3_8:ai F3 (Eq b8):=ai.new (Rsc.lt i3) x8
    have w6_8:ai (Eq b6) (Eq b8):=ai.new c6.ltF x8
    have hns:=z8.kN
    refine bC (i:=3) rfl rfl rfl rfl J1 (Upd.self (α:=af)) j8 z8 j25 fun q2 hch hz=>?_
    replace hgq:=hgq.step hch y8.wr
    have hle:=hch.le hns
    replace j1:=aA.pers hle j1
    replace j3:=Rsc.keep j3 hch w3_8 hns
    replace j5:=aA.pers hle j5
    replace z6:=z6.keep hch (w6_8 _ rfl) hns
    replace j20:=aA.pers hle j20
    replace j21:=aA.pers hle j21
    replace j22:=aA.pers hle j22
    replace j25:=aA.pers hle j25
    replace z8:=hz
    clear hns hle hch
    obtain ⟨q,hqq⟩ : ∃ q,q = q2:=⟨q2,rfl⟩
    subst hqq
    obtain ⟨q2,hsh,jn⟩:=z8.fZ
    replace j1:=aA.pers hsh.le j1
    replace j3:=Rsc.handed j3 hsh w3_8
    replace j5:=aA.pers hsh.le j5
    replace z6:=z6.handed hsh (w6_8 _ rfl)
    replace j20:=aA.pers hsh.le j20
    replace j21:=aA.pers hsh.le j21
    replace j22:=aA.pers hsh.le j22
    rw [← j8] at jn
    replace j8:=jn
    replace hgq:=hgq.hand hsh y8.wr
    rw [← hsh.w]
    clear hsh
    obtain ⟨q,hqq⟩ : ∃ q,q = q2:=⟨q2,rfl⟩
    subst hqq
    exact aj (k:=q) (w5 _ _ ⟨F3,⟨hgq,hsb,hdb⟩,j1,j3,y3,j5,j6,y6,z6,j8,j20,j21,j22,w3_6,trivial⟩)
   rintro a k ⟨F3,⟨hg,hs,hd⟩,i1,i3,n3,i5,i6,n6,c6,i8,i20,i21,i22,d3_6,_⟩
   obtain ⟨x5,hx5,hr⟩:=bind_some hr
   refine cut (fun a' k'=>∃ F3,Bs noF k0 56 a' k'∧(IsV lot_) (a'.get 1) k'∧(aU b3 [bm,bn] [bm,bn] ({ s1.1 with Built:=x5 })) F3 (a'.get 3) k'∧Lo k0 F3∧(aL ph_) (a'.get 5) k'∧a'.get 6 = .pointer (some ⟨b6,0,none⟩)∧Lo k0 (Eq b6)∧Gb.Box b6 (⟨(⟨[],[],[],[],[],[],[],0⟩:an),[],[],[],[],[]⟩:aq) k'∧(IsV ph_.Volumes) (a'.get 20) k'∧(IsI (ph_.Volumes.length:Int)) (a'.get 21) k'∧(IsV s1.2) (a'.get 22) k'∧ai F3 (Eq b6)∧True) ?_ hQ ?_
   ·intro Q7 W7 w6
    refine gS 6 (_::⟨some (pW b3 bm.off),[(26,some 0)]⟩::_::_::⟨some (IsV (⟨lot_,x4⟩:bf)),[(28,some 2),(29,some 3)]⟩::⟨some (IsV (α:=(List bf)) ([(⟨lot_,x4⟩:bf)])),[(30,some 4)]⟩::[]) hs (by kernel_rfl) ⟨o1 [(3,none)] rfl fun _ _ h n=>cM rfl sB (upE (aU.ptr i3) n.1),ob1 rfl fun _ _ h n=>pQ (g:=bm) rfl Tryz.underlying34 C7 n.1 (Rsc.grow i3 h) (.head _),mu rfl i1,o1 [(8,none)] rfl fun _ _ h n=>aM rfl Ie ((up i8 h n.1)).ptr,ob1 rfl fun _ _ h n=>rJ rfl (DG n.1 n.2.1),ob1 rfl fun _ _ h n=>cG rfl Tryz.underlying34 GA rfl (by decide) (by decide) ⟨rfl,n.1,trivial⟩,trivial⟩ W7 fun b q p=>?_
    have hgq:=hg.then p.grow
    have hsb:=p.size.trans hs
    have hdb:=p.defers.trans hd
    have j1:=p.ke 1 rfl i1
    have j3:(aU b3 [bm,bn] [bm,bn] s1.1) F3 (b.get 3) q:=p.ke 3 rfl i3
    have y3:=n3
    have j5:=p.ke 5 rfl i5
    have j6:=upE i6 (p.old 6 rfl)
    have z6:=Gb.Box.grow c6 p.grow
    have y6:=n6
    have j20:=p.ke 20 rfl i20
    have j21:=p.ke 21 rfl i21
    have j22:=p.ke 22 rfl i22
    have j27:(pW b3 bm.off) (b.get 27) q:=p.ou 1 27 rfl
    have j31:(IsV (α:=(List bf)) ([(⟨lot_,x4⟩:bf)])) (b.get 31) q:=p.ou 5 31 rfl
    have w3_6:ai F3 (Eq b6):=by exact d3_6
    obtain ⟨F3,jt,jo,jw,jf,je⟩:=aU.take j3 j27
    have wo6:ai (obF (b.get 27)) (Eq b6):=fun c h=>w3_6 c (je c h)
    have wn6:ai F3 (Eq b6):=fun c h=>w3_6 c (jf c h)
    have y27:Lo k0 (obF (b.get 27)):=fun c h=>y3 c (je c h)
    replace y3:Lo k0 F3:=fun c h=>y3 c (jf c h)
    replace j3:=jt
    replace j27:ay 0 97 s1.1.Built (b.get 27) q:=jo
    have w6_27:ai (Eq b6) (obF (b.get 27)):=(wo6).symm
    have w3_6:ai F3 (Eq b6):=wn6
    have w3_27:ai F3 (obF (b.get 27)):=(jw).symm
    clear jt jo jw jf je wo6 wn6
    have hns:=j27.kN
    refine cX (i:=6) (d:=32) rfl rfl rfl rfl (by rw [hsb]; decide) (e:=97) Tryz.underlying34 GA j27 (IsV.rd j31) hx5 fun b2 q2 hsz hdf hoth hch hown hob=>?_
    have hle:=hch.le hns
    have yn:Lo k0 (obF (b2.get 32)):=y27.app hgq hob
    have v3:ai F3 (obF (b2.get 32)):=ai.app w3_27 (Rsc.lt j3) hob
    have v6:ai (Eq b6) (obF (b2.get 32)):=ai.app w6_27 z6.ltF hob
    replace j1:=aA.pers hle j1
    replace j3:=Rsc.keep j3 hch w3_27 hns
    replace j5:=aA.pers hle j5
    replace z6:=z6.keep hch (w6_27 _ rfl) hns
    replace j20:=aA.pers hle j20
    replace j21:=aA.pers hle j21
    replace j22:=aA.pers hle j22
    replace j31:=aA.pers hle j31
    replace hgq:=hgq.step hch y27.wr
    rw [← hoth 1 (by decide)] at j1
    rw [← hoth 3 (by decide)] at j3
    rw [← hoth 5 (by decide)] at j5
    rw [← hoth 6 (by decide)] at j6
    rw [← hoth 20 (by decide)] at j20
    rw [← hoth 21 (by decide)] at j21
    rw [← hoth 22 (by decide)] at j22
    rw [← hoth 31 (by decide)] at j31
    have w3_32:=v3
    have w6_32:=v6
    have j32:=hown
    have y32:=yn
    replace hsb:=hsz.trans hsb
    replace hdb:=hdf.trans hdb
    clear hle hch hown hob hns yn hsz hdf hoth
    obtain ⟨b,hbb⟩ : ∃ b,b = b2:=⟨b2,rfl⟩
    subst hbb
    obtain ⟨q,hqq⟩ : ∃ q,q = q2:=⟨q2,rfl⟩
    subst hqq
    refine gI (R:=jG b3 (11)) (i:=7) (d:=33) rfl rfl rfl (by rw [hsb]; decide) W7 (cM rfl sB (aU.ptr j3)) fun b2 q2 hsz hdf hoth hgr hnew=>?_
    replace j1:=aA.pers hgr.le j1
    replace j3:=Rsc.grow j3 hgr
    replace j5:=aA.pers hgr.le j5
    replace z6:=z6.grow hgr
    replace j20:=aA.pers hgr.le j20
    replace j21:=aA.pers hgr.le j21
    replace j22:=aA.pers hgr.le j22
    replace j31:=aA.pers hgr.le j31
    replace j32:=dX.mono hgr j32
    replace hgq:=hgq.then hgr
    rw [← hoth 1 (by decide)] at j1
    rw [← hoth 3 (by decide)] at j3
    rw [← hoth 5 (by decide)] at j5
    rw [← hoth 6 (by decide)] at j6
    rw [← hoth 20 (by decide)] at j20
    rw [← hoth 21 (by decide)] at j21
    rw [← hoth 22 (by decide)] at j22
    rw [← hoth 31 (by decide)] at j31
    rw [← hoth 32 (by decide)] at j32
    rw [← hoth 32 (by decide)] at y32
    rw [← hoth 32 (by decide)] at w3_32
    rw [← hoth 32 (by decide)] at w6_32
    have j33:=hnew
    replace hsb:=hsz.trans hsb
    replace hdb:=hdf.trans hdb
    clear hgr hsz hdf hoth hnew
    obtain ⟨b,hbb⟩ : ∃ b,b = b2:=⟨b2,rfl⟩
    subst hbb
    obtain ⟨q,hqq⟩ : ∃ q,q = q2:=⟨q2,rfl⟩
    subst hqq
    refine ij (i:=8) (g:=bm) (x':=({ s1.1 with Built:=x5 }:aq)) rfl rfl rfl rfl C7 j33 j3 (by decide) ⟨_,(.head _),rfl⟩ rfl (fun _ _ _ h=>h) (fun _ h=>by cases h with | head=>decide | tail _ h=>exact nomatch h) j32 (w3_32.symm) fun q2 FF hch hz hF=>?_
    have hns:=Rsc.nsh j3
    have hle:=hch.le hns
    replace hgq:=hgq.step hch y3.wr
    replace j1:=aA.pers hle j1
    replace j5:=aA.pers hle j5
    replace z6:=z6.keep hch ((w3_6.symm) _ rfl) hns
    replace j20:=aA.pers hle j20
    replace j21:=aA.pers hle j21
    replace j22:=aA.pers hle j22
    replace j31:=aA.pers hle j31
    replace j33:=aA.pers hle j33
    have wn6:ai FF (Eq b6):=fun c h=>(hF c h).elim (fun h=>w3_6 c h) (fun h=>(w6_32.symm) c h)
    have yn:Lo k0 FF:=fun c h=>(hF c h).elim (fun h=>y3 c h) (fun h=>y32 c h)
    clear hns hle hch hF
    obtain ⟨F3,hFe⟩ : ∃ F,F = FF:=⟨FF,rfl⟩
    subst hFe
    replace j3:=hz
    replace y3:=yn
    clear hz yn
    have w3_6:ai F3 (Eq b6):=wn6
    clear wn6
    obtain ⟨q,hqq⟩ : ∃ q,q = q2:=⟨q2,rfl⟩
    subst hqq
    exact aj (k:=q) (w6 _ _ ⟨F3,⟨hgq,hsb,hdb⟩,j1,j3,y3,j5,j6,y6,z6,j20,j21,j22,w3_6,trivial⟩)
   rintro a k ⟨F3,⟨hg,hs,hd⟩,i1,i3,n3,i5,i6,n6,c6,i20,i21,i22,d3_6,_⟩
   obtain ⟨x6,hx6,hr⟩:=bind_some hr
   refine cut (fun a' k'=>∃ F3,Bs noF k0 56 a' k'∧(IsV lot_) (a'.get 1) k'∧(aU b3 [bm,bn] [bm,bn] ({ s1.1 with Built:=x5 })) F3 (a'.get 3) k'∧Lo k0 F3∧(aL ph_) (a'.get 5) k'∧a'.get 6 = .pointer (some ⟨b6,0,none⟩)∧Lo k0 (Eq b6)∧Gb.Box b6 (⟨(⟨[],[],[],[],[],[],[],0⟩:an),[],[],[],[],[]⟩:aq) k'∧(IsV ph_.Volumes) (a'.get 20) k'∧(IsI (ph_.Volumes.length:Int)) (a'.get 21) k'∧(IsV x6) (a'.get 22) k'∧ai F3 (Eq b6)∧True) ?_ hQ ?_
   ·intro Q8 W8 w7
    refine gS 2 (_::_::[]) hs (by kernel_rfl) ⟨o1 [(22,none)] rfl fun _ _ h n=>gV rfl (up i22 h n.1) (cI rfl) hx6,cm 0 rfl rfl,trivial⟩ W8 fun b q p=>?_
    exact aj (k:=q) (w7 _ _ ⟨F3,Bs.post ⟨hg,hs,hd⟩ p,p.ke 1 rfl i1,p.ke 3 rfl i3,n3,p.ke 5 rfl i5,upE i6 (p.old 6 rfl),n6,Gb.Box.grow c6 p.grow,p.ke 20 rfl i20,p.ke 21 rfl i21,p.ou 1 22 rfl,d3_6,trivial⟩)
   rintro a k ⟨F3,⟨hg,hs,hd⟩,i1,i3,n3,i5,i6,n6,c6,i20,i21,i22,d3_6,_⟩
   exact hgo1059 _ _ _ (Option.some.inj hr).symm ⟨F3,⟨hg,hs,hd⟩,i1,i3,n3,i5,i6,n6,c6,i20,i21,i22,d3_6,trivial⟩
  rw [if_neg (by rw [hc1072]; decide)] at hr
  refine wp_exit ?_
  exact hex1060 _ _ _ _ (Option.some.inj hr).symm ⟨rfl,F3,⟨hg,hs,hd⟩,i3,n3,i5,i6,n6,c6,d3_6,trivial⟩
 ·rintro r1 a k rfl hR
  dsimp only at hr
  obtain rfl:=Option.some.inj hr
  exact hR
 ·rintro _ _ _ rfl _
  simp at hr
 clear hf1
 rintro _ s2 a k rfl ⟨rfl,F3,⟨hg,hs,hd⟩,i3,n3,i5,i6,n6,c6,d3_6,_⟩
 dsimp only at hr
 refine wp_seq ?_
 refine gP (fun c l=>∃ F3,Bs noF k0 56 c l∧(aU b3 [bm,bn] [bm,bn] s2.1) F3 (c.get 3) l∧Lo k0 F3∧c.get 6 = .pointer (some ⟨b6,0,none⟩)∧Lo k0 (Eq b6)∧Gb.Box b6 (⟨(⟨[],[],[],[],[],[],[],0⟩:an),[],[],[],[],[]⟩:aq) l∧IsV ph_.bd (c.get 36) l∧IsI (ph_.bd.length:Int) (c.get 37) l∧IsI 0 (c.get 38) l∧ai F3 (Eq b6)∧True) ?_ ?_
 ·intro Q9 W9 w8
  refine gS 4 (_::_::_::⟨some (IsI 0),[]⟩::[]) hs (by kernel_rfl) ⟨o1 [(5,none)] rfl fun _ _ h n=>bB rfl HB (BQ _) ((up i5 h n.1)).ptr,o1 [(35,some 0)] rfl fun _ _ h n=>aM rfl HW n.1,o1 [(36,some 1)] rfl fun _ _ h n=>ep rfl rfl Tryz.underlying35 (IsV.rd n.1),ob1 rfl fun _ _ h n=>cV rfl (cI rfl),trivial⟩ W9 fun b q p=>?_
  exact aj (k:=q) (w8 _ _ ⟨F3,Bs.post ⟨hg,hs,hd⟩ p,p.ke 3 rfl i3,n3,upE i6 (p.old 6 rfl),n6,Gb.Box.grow c6 p.grow,p.ou 1 36 rfl,p.ou 2 37 rfl,p.ou 3 38 rfl,d3_6,trivial⟩)
 rintro a k ⟨F3,⟨hg,hs,hd⟩,i3,n3,i6,n6,c6,i36,i37,i38,d3_6,_⟩
 refine wp_block ?_
 obtain ⟨f2,hf2,hr⟩:=bind_some hr
 refine nM f2 (fun s' c l=>∃ F3,Bs noF k0 56 c l∧(aU b3 [bm,bn] [bm,bn] s'.1) F3 (c.get 3) l∧Lo k0 F3∧c.get 6 = .pointer (some ⟨b6,0,none⟩)∧Lo k0 (Eq b6)∧Gb.Box b6 (⟨(⟨[],[],[],[],[],[],[],0⟩:an),[],[],[],[],[]⟩:aq) l∧IsV ph_.bd (c.get 36) l∧IsI (ph_.bd.length:Int) (c.get 37) l∧IsV s'.2 (c.get 38) l∧ai F3 (Eq b6)∧True) (fun i' s' c l=>(i' = 2∧Bs noF k0 56 c l∧c.get 3 = .pointer (some ⟨b3,0,none⟩)∧Lo k0 (Eq b3)∧Gb.Box b3 s'.1 l∧c.get 6 = .pointer (some ⟨b6,0,none⟩)∧Lo k0 (Eq b6)∧Gb.Box b6 (⟨(⟨[],[],[],[],[],[],[],0⟩:an),[],[],[],[],[]⟩:aq) l∧ai (Eq b3) (Eq b6)∧True)) (fun r' c l=>bodyPost Tryz.prog Tryz.f15 (dw noF k0 (IsV r')) .ret c l.w) ?_ hQ ?_ ?_ ?_
 ·intro Q10 W10 hgo hex hret
  refine ek ?_ _ _ _ _ _ hf2 ⟨F3,⟨hg,hs,hd⟩,i3,n3,i6,n6,c6,i36,i37,i38,d3_6,trivial⟩ Q10 W10 hgo hex hret
  clear hr hf2 hgo hex hret W10 hQ hg hs hd F3 c6 d3_6 i3 i36 i37 i38 i6 n3 n6
  intro s3 fl_ a k hr hS Q hQ hgo1079 hex1080 hret1081
  obtain ⟨F3,⟨hg,hs,hd⟩,i3,n3,i6,n6,c6,i36,i37,i38,d3_6,_⟩:=hS
  unfold gy at hr
  refine gP (fun c l=>∃ F3,Bs noF k0 56 c l∧(aU b3 [bm,bn] [bm,bn] s3.1) F3 (c.get 3) l∧Lo k0 F3∧c.get 6 = .pointer (some ⟨b6,0,none⟩)∧Lo k0 (Eq b6)∧Gb.Box b6 (⟨(⟨[],[],[],[],[],[],[],0⟩:an),[],[],[],[],[]⟩:aq) l∧IsV ph_.bd (c.get 36) l∧IsI (ph_.bd.length:Int) (c.get 37) l∧IsV s3.2 (c.get 38) l∧(IsV (decide (s3.2 < (ph_.bd.length:Int)))) (c.get 39) l∧ai F3 (Eq b6)∧True) ?_ ?_
  ·intro Q11 W11 w9
   refine gS 1 (_::[]) hs (by kernel_rfl) ⟨o1 [(38,none),(37,none)] rfl fun _ _ h n=>gU rfl (up i38 h n.1) (up i37 h n.2.1),trivial⟩ W11 fun b q p=>?_
   exact aj (k:=q) (w9 _ _ ⟨F3,Bs.post ⟨hg,hs,hd⟩ p,p.ke 3 rfl i3,n3,upE i6 (p.old 6 rfl),n6,Gb.Box.grow c6 p.grow,p.ke 36 rfl i36,p.ke 37 rfl i37,p.ke 38 rfl i38,p.ou 0 39 rfl,d3_6,trivial⟩)
  rintro a k ⟨F3,⟨hg,hs,hd⟩,i3,n3,i6,n6,c6,i36,i37,i38,i39,d3_6,_⟩
  refine wp_seq ?_
  refine wp_cond_split (isBool i39) (fun hc1093=>?_) (fun hc1093=>?_)
  ·rw [if_pos hc1093] at hr
   refine wp_skip ?_
   refine wp_seq ?_
   refine wp_block ?_
   refine wp_seq ?_
   obtain ⟨x7,hx7,hr⟩:=bind_some hr
   refine cut (fun a' k'=>∃ F3,Bs noF k0 56 a' k'∧(aU b3 [bm,bn] [bm,bn] s3.1) F3 (a'.get 3) k'∧Lo k0 F3∧a'.get 6 = .pointer (some ⟨b6,0,none⟩)∧Lo k0 (Eq b6)∧Gb.Box b6 (⟨(⟨[],[],[],[],[],[],[],0⟩:an),[],[],[],[],[]⟩:aq) k'∧(aL x7) (a'.get 10) k'∧(IsV ph_.bd) (a'.get 36) k'∧(IsI (ph_.bd.length:Int)) (a'.get 37) k'∧(IsV s3.2) (a'.get 38) k'∧ai F3 (Eq b6)∧True) ?_ hQ ?_
   ·intro Q12 W12 w10
    refine gS 3 (_::_::⟨some (dR k.w.heap.size (⟨(⟨#[]⟩:ByteArray),0⟩:Entry)),[]⟩::[]) hs (by kernel_rfl) ⟨o1 [(36,none),(38,none)] rfl fun _ _ h n=>bs rfl Tryz.underlying35 JP (IsV.rd (up i36 h n.1)) (up i38 h n.2.1) hx7,o1 [(40,some 0)] rfl fun _ _ h n=>aM rfl JP n.1,ob1 rfl fun _ _ h n=>dQ _ h.size rfl z99,trivial⟩ W12 fun b q p=>?_
    have hgq:=hg.then p.grow
    have hsb:=p.size.trans hs
    have hdb:=p.defers.trans hd
    have j3:(aU b3 [bm,bn] [bm,bn] s3.1) F3 (b.get 3) q:=p.ke 3 rfl i3
    have y3:=n3
    have j6:=upE i6 (p.old 6 rfl)
    have z6:=Gb.Box.grow c6 p.grow
    have y6:=n6
    obtain ⟨b10,j10,x10,z10⟩:(dR k.w.heap.size (⟨(⟨#[]⟩:ByteArray),0⟩:Entry)) (b.get 10) q:=p.ou 2 10 rfl
    replace x10:Lo k (Eq b10):=Lo.eq x10
    have y10:Lo k0 (Eq b10):=x10.chg hg
    have j36:=p.ke 36 rfl i36
    have j37:=p.ke 37 rfl i37
    have j38:=p.ke 38 rfl i38
    have j41:(IsV x7) (b.get 41) q:=p.ou 1 41 rfl
    have w3_6:ai F3 (Eq b6):=by exact d3_6
    have w3_10:ai F3 (Eq b10):=ai.new (Rsc.lt i3) x10
    have w6_10:ai (Eq b6) (Eq b10):=ai.new c6.ltF x10
    have hns:=z10.kN
    refine bC (i:=3) rfl rfl rfl rfl JC (Upd.self (α:=Entry)) j10 z10 j41 fun q2 hch hz=>?_
    replace hgq:=hgq.step hch y10.wr
    have hle:=hch.le hns
    replace j3:=Rsc.keep j3 hch w3_10 hns
    replace z6:=z6.keep hch (w6_10 _ rfl) hns
    replace j36:=aA.pers hle j36
    replace j37:=aA.pers hle j37
    replace j38:=aA.pers hle j38
    replace j41:=aA.pers hle j41
    replace z10:=hz
    clear hns hle hch
    obtain ⟨q,hqq⟩ : ∃ q,q = q2:=⟨q2,rfl⟩
    subst hqq
    obtain ⟨q2,hsh,jn⟩:=z10.fZ
    replace j3:=Rsc.handed j3 hsh w3_10
    replace z6:=z6.handed hsh (w6_10 _ rfl)
    replace j36:=aA.pers hsh.le j36
    replace j37:=aA.pers hsh.le j37
    replace j38:=aA.pers hsh.le j38
    rw [← j10] at jn
    replace j10:=jn
    replace hgq:=hgq.hand hsh y10.wr
    rw [← hsh.w]
    clear hsh
    obtain ⟨q,hqq⟩ : ∃ q,q = q2:=⟨q2,rfl⟩
    subst hqq
    exact aj (k:=q) (w10 _ _ ⟨F3,⟨hgq,hsb,hdb⟩,j3,y3,j6,y6,z6,j10,j36,j37,j38,w3_6,trivial⟩)
   rintro a k ⟨F3,⟨hg,hs,hd⟩,i3,n3,i6,n6,c6,i10,i36,i37,i38,d3_6,_⟩
   obtain ⟨x9,hx9,hr⟩:=bind_some hr
   obtain ⟨x11,hx11,hr⟩:=bind_some hr
   obtain ⟨x12,hx12,hr⟩:=bind_some hr
   refine cut (fun a' k'=>∃ F3,Bs noF k0 56 a' k'∧(aU b3 [bm,bn] [bm,bn] ({ s3.1 with Base:=x12 })) F3 (a'.get 3) k'∧Lo k0 F3∧a'.get 6 = .pointer (some ⟨b6,0,none⟩)∧Lo k0 (Eq b6)∧Gb.Box b6 (⟨(⟨[],[],[],[],[],[],[],0⟩:an),[],[],[],[],[]⟩:aq) k'∧(IsV ph_.bd) (a'.get 36) k'∧(IsI (ph_.bd.length:Int)) (a'.get 37) k'∧(IsV s3.2) (a'.get 38) k'∧ai F3 (Eq b6)∧True) ?_ hQ ?_
   ·intro Q13 W13 w11
    refine region (m:=10) (_::⟨some (pW b3 bn.off),[(42,some 0)]⟩::_::_::_::_::_::⟨some (IsV x11),[(48,some 6)]⟩::⟨some (IsV (⟨x7.Name,x11⟩:Entry)),[(45,some 3),(49,some 7)]⟩::⟨some (IsV (α:=(List Entry)) ([(⟨x7.Name,x11⟩:Entry)])),[(50,some 8)]⟩::[]) oH hs (by kernel_rfl) ⟨o1 [(3,none)] rfl fun _ _ h n=>cM rfl se (upE (aU.ptr i3) n.1),ob1 rfl fun _ _ h n=>pQ (g:=bn) rfl Tryz.underlying35 CH n.1 (Rsc.grow i3 h) (.tail _ (.head _)),o1 [(10,none)] rfl fun _ _ h n=>bB rfl H2 (BV _) ((up i10 h n.1)).ptr,o1 [(44,some 2)] rfl fun _ _ h n=>aM rfl ty9 n.1,o1 [(10,none)] rfl fun _ _ h n=>bB rfl HT (B4 _) ((up i10 h n.1)).ptr,o1 [(46,some 4)] rfl fun _ _ h n=>aM rfl ty3 n.1,o1 [(47,some 5)] rfl fun _ _ h n=>cN rfl Tryz.call35 (uo n.1 hx9),ob1 rfl fun _ _ h n=>E7 rfl n.1 hx11,ob1 rfl fun _ _ h n=>rJ rfl (D1 n.1 n.2.1),ob1 rfl fun _ _ h n=>cG rfl Tryz.underlying35 Gl rfl (by decide) (by decide) ⟨rfl,n.1,trivial⟩,trivial⟩ W13 fun b q p=>?_
    have hgq:=hg.then p.grow
    have hsb:=p.size.trans hs
    have hdb:=p.defers.trans hd
    have j3:(aU b3 [bm,bn] [bm,bn] s3.1) F3 (b.get 3) q:=p.ke 3 rfl i3
    have y3:=n3
    have j6:=upE i6 (p.old 6 rfl)
    have z6:=Gb.Box.grow c6 p.grow
    have y6:=n6
    have j36:=p.ke 36 rfl i36
    have j37:=p.ke 37 rfl i37
    have j38:=p.ke 38 rfl i38
    have j43:(pW b3 bn.off) (b.get 43) q:=p.ou 1 43 rfl
    have j51:(IsV (α:=(List Entry)) ([(⟨x7.Name,x11⟩:Entry)])) (b.get 51) q:=p.ou 9 51 rfl
    have w3_6:ai F3 (Eq b6):=by exact d3_6
    replace j3:=aU.swap j3
    obtain ⟨F3,jt,jo,jw,jf,je⟩:=aU.take j3 j43
    have wo6:ai (obF (b.get 43)) (Eq b6):=fun c h=>w3_6 c (je c h)
    have wn6:ai F3 (Eq b6):=fun c h=>w3_6 c (jf c h)
    have y43:Lo k0 (obF (b.get 43)):=fun c h=>y3 c (je c h)
    replace y3:Lo k0 F3:=fun c h=>y3 c (jf c h)
    replace j3:=jt
    replace j43:ay 0 99 s3.1.Base (b.get 43) q:=jo
    have w6_43:ai (Eq b6) (obF (b.get 43)):=(wo6).symm
    have w3_6:ai F3 (Eq b6):=wn6
    have w3_43:ai F3 (obF (b.get 43)):=(jw).symm
    clear jt jo jw jf je wo6 wn6
    have hns:=j43.kN
    refine cX (i:=10) (d:=52) rfl rfl rfl rfl (by rw [hsb]; decide) (e:=99) Tryz.underlying35 Gl j43 (IsV.rd j51) hx12 fun b2 q2 hsz hdf hoth hch hown hob=>?_
    have hle:=hch.le hns
    have yn:Lo k0 (obF (b2.get 52)):=y43.app hgq hob
    have v3:ai F3 (obF (b2.get 52)):=ai.app w3_43 (Rsc.lt j3) hob
    have v6:ai (Eq b6) (obF (b2.get 52)):=ai.app w6_43 z6.ltF hob
    replace j3:=Rsc.keep j3 hch w3_43 hns
    replace z6:=z6.keep hch (w6_43 _ rfl) hns
    replace j36:=aA.pers hle j36
    replace j37:=aA.pers hle j37
    replace j38:=aA.pers hle j38
    replace j51:=aA.pers hle j51
    replace hgq:=hgq.step hch y43.wr
    rw [← hoth 3 (by decide)] at j3
    rw [← hoth 6 (by decide)] at j6
    rw [← hoth 36 (by decide)] at j36
    rw [← hoth 37 (by decide)] at j37
    rw [← hoth 38 (by decide)] at j38
    rw [← hoth 51 (by decide)] at j51
    have w3_52:=v3
    have w6_52:=v6
    have j52:=hown
    have y52:=yn
    replace hsb:=hsz.trans hsb
    replace hdb:=hdf.trans hdb
    clear hle hch hown hob hns yn hsz hdf hoth
    obtain ⟨b,hbb⟩ : ∃ b,b = b2:=⟨b2,rfl⟩
    subst hbb
    obtain ⟨q,hqq⟩ : ∃ q,q = q2:=⟨q2,rfl⟩
    subst hqq
    refine gI (R:=jG b3 (12)) (i:=11) (d:=53) rfl rfl rfl (by rw [hsb]; decide) W13 (cM rfl se (aU.ptr j3)) fun b2 q2 hsz hdf hoth hgr hnew=>?_
    replace j3:=Rsc.grow j3 hgr
    replace z6:=z6.grow hgr
    replace j36:=aA.pers hgr.le j36
    replace j37:=aA.pers hgr.le j37
    replace j38:=aA.pers hgr.le j38
    replace j51:=aA.pers hgr.le j51
    replace j52:=dX.mono hgr j52
    replace hgq:=hgq.then hgr
    rw [← hoth 3 (by decide)] at j3
    rw [← hoth 6 (by decide)] at j6
    rw [← hoth 36 (by decide)] at j36
    rw [← hoth 37 (by decide)] at j37
    rw [← hoth 38 (by decide)] at j38
    rw [← hoth 51 (by decide)] at j51
    rw [← hoth 52 (by decide)] at j52
    rw [← hoth 52 (by decide)] at y52
    rw [← hoth 52 (by decide)] at w3_52
    rw [← hoth 52 (by decide)] at w6_52
    have j53:=hnew
    replace hsb:=hsz.trans hsb
    replace hdb:=hdf.trans hdb
    clear hgr hsz hdf hoth hnew
    obtain ⟨b,hbb⟩ : ∃ b,b = b2:=⟨b2,rfl⟩
    subst hbb
    obtain ⟨q,hqq⟩ : ∃ q,q = q2:=⟨q2,rfl⟩
    subst hqq
    refine ij (i:=12) (g:=bn) (x':=({ s3.1 with Base:=x12 }:aq)) rfl rfl rfl rfl CH j53 j3 (by decide) ⟨_,(.tail _ (.head _)),rfl⟩ rfl (fun _ _ _ h=>h) (fun _ h=>by cases h with | head=>decide | tail _ h=>exact nomatch h) j52 (w3_52.symm) fun q2 FF hch hz hF=>?_
    have hns:=Rsc.nsh j3
    have hle:=hch.le hns
    replace hgq:=hgq.step hch y3.wr
    replace z6:=z6.keep hch ((w3_6.symm) _ rfl) hns
    replace j36:=aA.pers hle j36
    replace j37:=aA.pers hle j37
    replace j38:=aA.pers hle j38
    replace j51:=aA.pers hle j51
    replace j53:=aA.pers hle j53
    have wn6:ai FF (Eq b6):=fun c h=>(hF c h).elim (fun h=>w3_6 c h) (fun h=>(w6_52.symm) c h)
    have yn:Lo k0 FF:=fun c h=>(hF c h).elim (fun h=>y3 c h) (fun h=>y52 c h)
    clear hns hle hch hF
    obtain ⟨F3,hFe⟩ : ∃ F,F = FF:=⟨FF,rfl⟩
    subst hFe
    replace j3:=hz
    replace y3:=yn
    clear hz yn
    have w3_6:ai F3 (Eq b6):=wn6
    clear wn6
    obtain ⟨q,hqq⟩ : ∃ q,q = q2:=⟨q2,rfl⟩
    subst hqq
    replace j3:=aU.swap j3
    exact aj (k:=q) (w11 _ _ ⟨F3,⟨hgq,hsb,hdb⟩,j3,y3,j6,y6,z6,j36,j37,j38,w3_6,trivial⟩)
   rintro a k ⟨F3,⟨hg,hs,hd⟩,i3,n3,i6,n6,c6,i36,i37,i38,d3_6,_⟩
   obtain ⟨x14,hx14,hr⟩:=bind_some hr
   refine cut (fun a' k'=>∃ F3,Bs noF k0 56 a' k'∧(aU b3 [bm,bn] [bm,bn] ({ s3.1 with Base:=x12 })) F3 (a'.get 3) k'∧Lo k0 F3∧a'.get 6 = .pointer (some ⟨b6,0,none⟩)∧Lo k0 (Eq b6)∧Gb.Box b6 (⟨(⟨[],[],[],[],[],[],[],0⟩:an),[],[],[],[],[]⟩:aq) k'∧(IsV ph_.bd) (a'.get 36) k'∧(IsI (ph_.bd.length:Int)) (a'.get 37) k'∧(IsV x14) (a'.get 38) k'∧ai F3 (Eq b6)∧True) ?_ hQ ?_
   ·intro Q14 W14 w12
    refine gS 2 (_::_::[]) hs (by kernel_rfl) ⟨o1 [(38,none)] rfl fun _ _ h n=>gV rfl (up i38 h n.1) (cI rfl) hx14,cm 0 rfl rfl,trivial⟩ W14 fun b q p=>?_
    exact aj (k:=q) (w12 _ _ ⟨F3,Bs.post ⟨hg,hs,hd⟩ p,p.ke 3 rfl i3,n3,upE i6 (p.old 6 rfl),n6,Gb.Box.grow c6 p.grow,p.ke 36 rfl i36,p.ke 37 rfl i37,p.ou 1 38 rfl,d3_6,trivial⟩)
   rintro a k ⟨F3,⟨hg,hs,hd⟩,i3,n3,i6,n6,c6,i36,i37,i38,d3_6,_⟩
   exact hgo1079 _ _ _ (Option.some.inj hr).symm ⟨F3,⟨hg,hs,hd⟩,i3,n3,i6,n6,c6,i36,i37,i38,d3_6,trivial⟩
  rw [if_neg (by rw [hc1093]; decide)] at hr
  refine wp_exit ?_
  obtain ⟨kk,sh1092,cc3⟩:=aU.close i3 (yg _) (fun _ h=>h)
  replace c6:=c6.handed sh1092 ((d3_6.symm) _ rfl)
  replace hg:=hg.hand sh1092 n3.wr
  rw [← sh1092.w]
  replace d3_6:ai (Eq b3) (Eq b6):=fun c e=>d3_6 c (aU.sub i3 c e)
  replace n3:Lo k0 (Eq b3):=fun c e=>n3 c (aU.sub i3 c e)
  replace i3:=aU.ptr i3
  have c3:=cc3
  clear sh1092 cc3
  obtain ⟨k,hkk⟩ : ∃ k,k = kk:=⟨kk,rfl⟩
  subst hkk
  exact hex1080 _ _ _ _ (Option.some.inj hr).symm ⟨rfl,⟨hg,hs,hd⟩,i3,n3,c3,i6,n6,c6,d3_6,trivial⟩
 ·rintro r2 a k rfl hR
  dsimp only at hr
  obtain rfl:=Option.some.inj hr
  exact hR
 ·rintro _ _ _ rfl _
  simp at hr
 clear hf2
 rintro _ s4 a k rfl ⟨rfl,⟨hg,hs,hd⟩,i3,n3,c3,i6,n6,c6,d3_6,_⟩
 dsimp only at hr
 refine gP (fun c l=>Bs noF k0 56 c l∧c.get 6 = .pointer (some ⟨b6,0,none⟩)∧Lo k0 (Eq b6)∧Gb.Box b6 s4.1 l∧True) ?_ ?_
 ·intro Q15 W15 w13
  refine gS 1 (_::[]) hs (by kernel_rfl) ⟨o1 [(3,none)] rfl fun _ _ h n=>aM rfl pP ⟨_,(upE i3 n.1),(c3.grow h).at⟩,trivial⟩ W15 fun b q p=>?_
  have hgq:=hg.then p.grow
  have hsb:=p.size.trans hs
  have hdb:=p.defers.trans hd
  have j6:=upE i6 (p.old 6 rfl)
  have z6:=Gb.Box.grow c6 p.grow
  have y6:=n6
  have j55:(IsV s4.1) (b.get 55) q:=p.ou 0 55 rfl
  have hns:=z6.kN
  refine bC (i:=1) rfl rfl rfl rfl C6 (Upd.self (α:=aq)) j6 z6 j55 fun q2 hch hz=>?_
  replace hgq:=hgq.step hch y6.wr
  have hle:=hch.le hns
  replace j55:=aA.pers hle j55
  replace z6:=hz
  clear hns hle hch
  obtain ⟨q,hqq⟩ : ∃ q,q = q2:=⟨q2,rfl⟩
  subst hqq
  exact aj (k:=q) (w13 _ _ ⟨⟨hgq,hsb,hdb⟩,j6,y6,z6,trivial⟩)
 rintro a k ⟨⟨hg,hs,hd⟩,i6,n6,c6,_⟩
 refine wp_ret ?_
 obtain rfl:=Option.some.inj hr
 exact iT rfl hd hg (tU pP i6 c6)
noncomputable def k15:=mkO 15 [.st 7,.int,.st 3] [.st 7] (fun x=>eX x.1 x.2.1 x.2.2) Tryz.call15 fun k0 vs x r hG h hr=>by obtain ⟨v0,vs,rfl,i0,h⟩:=h.cons; obtain ⟨v1,vs,rfl,i1,h⟩:=h.cons; obtain ⟨v2,rfl,i2⟩:=h.one; exact o8 i0 i1 i2 hr
def hK (x1:ax) (x2:(List Phase)) (s1:Int × aq):Option (aN (Int × aq) (aq)):=
 if (decide (s1.1 < (x2.length:Int))) then
  (au x2 s1.1).bind fun x3=>
  (eX s1.2 x1.aE.Lot x3).bind fun x4=>
  (aD s1.1 1).bind fun x5=>
  some (.go (x5,x4))
 else
  some (.ex 2 (s1.1,s1.2))
def jY (rights_:(List ax)) (s1:Int × aq):Option (aN (Int × aq) (aq)):=
 if (decide (s1.1 < (rights_.length:Int))) then
  (au rights_ s1.1).bind fun x1=>
  (gd x1).bind fun x2=>
  (ah (hK x1 x2) (x2.length + 1) (0,s1.2)).bind fun f1=>match f1 with
   | .go _=>none
   | .ex _ s2=>
    (aD s1.1 1).bind fun x3=>
    some (.go (x3,s2.2))
   | .ret r1=>some (.ret r1)
 else
  some (.ex 0 (s1.1,s1.2))
def l6 (t_:aq) (rights_:(List ax)):Option (aq):=
 (bD t_.Built).bind fun x1=>
 (bq t_.Base).bind fun x2=>
 (ah (jY rights_) (rights_.length + 1) (0,{ { t_ with Built:=x1 } with Base:=x2 })).bind fun f1=>match f1 with
  | .go _=>none
  | .ex _ s1=>
   some s1.2
  | .ret r1=>some r1
noncomputable def k17:=mk 17 [.st 7,.list (.st 30)] [.st 7] (fun x=>l6 x.1 x.2) [k33,k34,k27,k15] [2,4] Tryz.f17 (.s .n (.s .n (.s (.s .n (.l [] [(19,.v .int),(2,.b (.st 7))] [(0,[19],[])] (fI 18) (.s .n (.s .n (.s (.s .n (.s .n (.l [] [(26,.v .int),(2,.b (.st 7))] [(2,[26],[])] (fI 25) .n))) .n))))) .n))) Tryz.func17 Tryz.call17 rfl rfl fun x=>by kernel_rfl
def e9 (v_:af):Option (Bool):=
 (gk v_.Box.Base).bind fun x1=>
 some (((((x1 && (decide (0 ≤ v_.Box.Z0))) && (decide (v_.Box.Z0 < v_.Box.Z1))) && (decide (v_.Box.Z1 ≤ 4096))) && (decide (0 ≤ v_.Use))) && (decide (v_.Use < 6)))
noncomputable def k82:=mk 82 [.st 4] [.bool] (fun x=>e9 x) [k99] [] Tryz.f82 (.n) Tryz.func82 Tryz.call82 rfl rfl fun x=>by kernel_rfl
def o4 (v_:af):Option ((List bk)):=
 some ([(⟨v_.Box.Z0,v_.Box.Z1,[v_.Box.Base]⟩:bk)])
noncomputable def k83:=mk 83 [.st 4] [.list (.st 22)] (fun x=>o4 x) [] [] Tryz.f83 (.n) Tryz.func83 Tryz.call83 rfl rfl fun x=>by kernel_rfl
def iB (t_:aq) (but_:(Int → Option (Bool))) (s1:(List (List bk)) × Int):Option (aN ((List (List bk)) × Int) ((List (List bk)))):=
 if (decide (s1.2 < (t_.Built.length:Int))) then
  (au t_.Built s1.2).bind fun x1=>
  (e9 x1.af).bind fun x2=>
  (if x2 then
   (but_ x1.Lot).bind fun x3=>
   some (!x3)
  else
   some false).bind fun x4=>
  (if x4 then
   (o4 x1.af).bind fun x5=>
   (cg s1.1 ([x5])).bind fun x6=>
   some x6
  else
   some s1.1).bind fun s2=>
  (aD s1.2 1).bind fun x7=>
  some (.go (s2,x7))
 else
  some (.ex 0 (s1.1,s1.2))
def iR (t_:aq) (but_:(Int → Option (Bool))):Option ((List (List bk))):=
 (ah (iB t_ but_) (t_.Built.length + 1) (([]:List (List bk)),0)).bind fun f1=>match f1 with
  | .go _=>none
  | .ex _ s1=>
   some s1.1
  | .ret r1=>some r1
noncomputable def k53:=mk 53 [.st 7,.f1 .int .bool] [.list (.list (.st 22))] (fun x=>iR x.1 x.2) [k82,k83] [5,25,30] Tryz.f53 (.s .n (.s .n (.s (.s .n (.l [] [(5,.o 117 (.list (.st 22))),(11,.v .int)] [(0,[11],[])] (fI 10) (.s .n (.s .n (.s (.s .n (.s .n (.j [] [(5,.o 117 (.list (.st 22)))] ([],[]) (.s .n .n)))) .n))))) (.s (.f [5] .n) .n)))) Tryz.func53 Tryz.call53 rfl rfl fun x=>by kernel_rfl
def oy (p_:aJ):Option (Bool):=
 some (((decide (0 ≤ (min (min p_.X p_.Y) p_.Z))) && (decide ((max p_.X p_.Y) ≤ 1048576))) && (decide (p_.Z ≤ 4096)))
noncomputable def k86:=mk 86 [.st 17] [.bool] (fun x=>oy x) [] [] Tryz.f86 (.n) Tryz.func86 Tryz.call86 rfl rfl fun x=>by kernel_rfl
section
open Go.Proofs Go.RowKit Go.Lib Go.Sort Go.Shelf
def Tryz.yo:Go.Shelf.Ren:=⟨fun | 4=>185 | n=>n,fun | 22=>130 | 25=>79 | 3=>3 | 4=>4 | 9=>9 | 20=>20 | 0=>0 | n=>n,fun | n=>n⟩
theorem Tryz.AR:Go.Proofs.Lays8.n4 Tryz.prog Tryz.yo:={
 mixed:=by kernel_rfl,
 f4:=⟨Tryz.f185.name,by decide,Tryz.func185.trans (congrArg some (by kernel_rfl))⟩,
 t0:=Tryz.underlying0,
 a0:=Tryz.isAgg0,
 z0:=Tryz.sizeOf0,
 v0:=Tryz.zeroValue0,
 t3:=Tryz.underlying3,
 a3:=Tryz.isAgg3,
 z3:=Tryz.sizeOf3,
 v3:=Tryz.zeroValue3,
 t4:=Tryz.underlying4,
 a4:=Tryz.isAgg4,
 z4:=Tryz.sizeOf4,
 v4:=Tryz.zeroValue4,
 t9:=Tryz.underlying9,
 a9:=Tryz.isAgg9,
 z9:=Tryz.sizeOf9,
 v9:=Tryz.zeroValue9,
 t20:=Tryz.underlying20,
 a20:=Tryz.isAgg20,
 z20:=Tryz.sizeOf20,
 v20:=Tryz.zeroValue20,
 t22:=Tryz.underlying130,
 a22:=Tryz.isAgg130,
 z22:=Tryz.sizeOf130,
 v22:=Tryz.zeroValue130 }
theorem po {k0:K} {v0 v1:Value} {n:Int} {r:List aw} (i0:v0 = .slice none 0 0) (i1:IsV n v1 k0) (hr:zq aw n = some r):Calls Tryz.prog 185 #[v0,v1] k0.w (Ret k0 (ay k0.w.heap.size 79 r)):=by
 refine Fi Jq i0 i1 hr ?_ fun m i z h0 hm hi hz hs hb=>?_
 ·have hcon:=Any8.slices_Grow_room Tryz.AR none 0 0 0 k0.w (by omega) (by omega) (by omega) (by omega)
  change Calls Tryz.prog 185 _ _ _ at hcon
  exact hcon
 ·have hcon:=Any8.slices_Grow_grow Tryz.AR i z hi hz hs none 0 0 m [] k0.w (by omega) (by omega) (by
   have:(0 + m) * i.bytes ≤ 1073741824 * 65536:=Nat.mul_le_mul (by omega) hb
   omega) (by omega) (by simp) (fun _=>rfl) (fun a h=>by simp at h)
  change Calls Tryz.prog 185 _ _ _ at hcon
  exact hcon
end
def dt (slices_:(List (List aw))) (s1:Int × Int):Option (aN (Int × Int) ((List aw))):=
 if (decide (s1.2 < (slices_.length:Int))) then
  (au slices_ s1.2).bind fun x1=>
  (aD s1.1 (x1.length:Int)).bind fun x2=>
  if (decide (x2 < 0)) then
   none
  else
   (aD s1.2 1).bind fun x3=>
   some (.go (x2,x3))
 else
  some (.ex 0 (s1.1,s1.2))
def dq (slices_:(List (List aw))) (s1:(List aw) × Int):Option (aN ((List aw) × Int) ((List aw))):=
 if (decide (s1.2 < (slices_.length:Int))) then
  (au slices_ s1.2).bind fun x1=>
  (cg s1.1 x1).bind fun x2=>
  (aD s1.2 1).bind fun x3=>
  some (.go (x2,x3))
 else
  some (.ex 2 (s1.1,s1.2))
def cJ (slices_:(List (List aw))):Option ((List aw)):=
 (ah (dt slices_) (slices_.length + 1) (0,0)).bind fun f1=>match f1 with
  | .go _=>none
  | .ex _ s1 =>
   (zq aw s1.1).bind fun x1=>
   (ah (dq slices_) (slices_.length + 1) (x1,0)).bind fun f2=>match f2 with
    | .go _=>none
    | .ex _ s2=>
     some s2.1
    | .ret r1=>some r1
  | .ret r2=>some r2
theorem oY {k0:K} {v0:Value} {slices_:(List (List aw))} {r:(List aw)} (i0:(IsV slices_) v0 k0) (hr:cJ slices_ = some r) :
  Calls Tryz.prog 183 #[v0] k0.w (Ret k0 (ay k0.w.heap.size 79 r)):=by
 unfold cJ at hr
 refine Ret.ofC ?_
 refine iN Tryz.func183 rfl Tryz.ntmps183 (show 1 ≤ 36 by decide) fun a k hk0 hs hd ha=>?_
 obtain ⟨e0,_⟩:=ha
 replace i0:(IsV slices_) (a.get 0) k:=by rw [e0,hk0]; exact i0
 have hQ:Gb.LetsOut (bodyPost Tryz.prog Tryz.f183 (dw noF k0 (ay k0.w.heap.size 79 r))):=fc
 have hg:Chg noF k0 k:=by rw [hk0]; exact Chg.refl _ k0
 refine dr 1 (⟨some cO,[]⟩::[]) rfl ⟨hg,hs,hd⟩ (by kernel_rfl) ⟨ob1 rfl fun b q h n=>bL rfl dp,trivial⟩ [⟨_,_⟩] (fun b q p=>⟨p.ke 0 rfl i0,trivial⟩) ?_
 rintro a k ⟨⟨hg,hs,hd⟩,i0,_⟩
 refine dr 1 (⟨some (IsI 0),[]⟩::[]) rfl ⟨hg,hs,hd⟩ (by kernel_rfl) ⟨aI rfl rfl,trivial⟩ [⟨_,_⟩,⟨_,_⟩] (fun b q p=>⟨p.ke 0 rfl i0,p.ou 0 3 rfl,trivial⟩) ?_
 rintro a k ⟨⟨hg,hs,hd⟩,i0,i3,_⟩
 refine wp_seq ?_
 refine dr 3 (_::_::⟨some (IsI 0),[]⟩::[]) rfl ⟨hg,hs,hd⟩ (by kernel_rfl) ⟨mu rfl i0,o1 [(9,some 0)] rfl fun _ _ h n=>ep rfl rfl Tryz.underlying233 (IsV.rd n.1),ob1 rfl fun _ _ h n=>cV rfl (cI rfl),trivial⟩ [⟨_,_⟩,⟨_,_⟩,⟨_,_⟩,⟨_,_⟩,⟨_,_⟩] (fun b q p=>⟨p.ke 0 rfl i0,p.ke 3 rfl i3,p.ou 0 9 rfl,p.ou 1 10 rfl,p.ou 2 11 rfl,trivial⟩) ?_
 rintro a k ⟨⟨hg,hs,hd⟩,i0,i3,i9,i10,i11,_⟩
 refine wp_block ?_
 obtain ⟨f1,hf1,hr⟩:=bind_some hr
 refine nM f1 (fun s' c l=>Bs noF k0 36 c l∧IsV slices_ (c.get 0) l∧IsV s'.1 (c.get 3) l∧IsV slices_ (c.get 9) l∧IsL slices_ (c.get 10) l∧IsV s'.2 (c.get 11) l∧True) (fun i' s' c l=>(i' = 0∧Bs noF k0 36 c l∧IsV slices_ (c.get 0) l∧IsV s'.1 (c.get 3) l∧True)) (fun r' c l=>bodyPost Tryz.prog Tryz.f183 (dw noF k0 (ay k0.w.heap.size 79 r')) .ret c l.w) ?_ hQ ?_ ?_ ?_
 ·intro Q1 W1 hgo hex hret
  refine ek ?_ _ _ _ _ _ hf1 ⟨⟨hg,hs,hd⟩,i0,i3,i9,i10,i11,trivial⟩ Q1 W1 hgo hex hret
  clear hr hf1 hgo hex hret W1 hQ hg hs hd i0 i10 i11 i3 i9
  intro s1 fl_ a k hr hS Q hQ hgo1233 hex1234 hret1235
  obtain ⟨⟨hg,hs,hd⟩,i0,i3,i9,i10,i11,_⟩:=hS
  unfold dt at hr
  refine dr 1 (_::[]) rfl ⟨hg,hs,hd⟩ (by kernel_rfl) ⟨o1 [(11,none),(10,none)] rfl fun _ _ h n=>gU rfl (up i11 h n.1) (up i10 h n.2.1),trivial⟩ [⟨_,_⟩,⟨_,_⟩,⟨_,_⟩,⟨_,_⟩,⟨_,_⟩,⟨_,_⟩] (fun b q p=>⟨p.ke 0 rfl i0,p.ke 3 rfl i3,p.ke 9 rfl i9,p.ke 10 rfl i10,p.ke 11 rfl i11,p.ou 0 12 rfl,trivial⟩) ?_
  rintro a k ⟨⟨hg,hs,hd⟩,i0,i3,i9,i10,i11,i12,_⟩
  refine wp_seq ?_
  refine wp_cond_split (isBool i12) (fun hc1250=>?_) (fun hc1250=>?_)
  ·rw [if_pos hc1250] at hr
   refine wp_skip ?_
   refine wp_seq ?_
   refine wp_block ?_
   refine wp_seq ?_
   obtain ⟨x1,hx1,hr⟩:=bind_some hr
   refine cut (fun a' k'=>Bs noF k0 36 a' k'∧(IsV slices_) (a'.get 0) k'∧(IsV s1.1) (a'.get 3) k'∧(IsV x1) (a'.get 5) k'∧(IsV slices_) (a'.get 9) k'∧(IsL slices_) (a'.get 10) k'∧(IsV s1.2) (a'.get 11) k'∧True) ?_ hQ ?_
   ·intro Q2 W2 w1
    refine gS 3 (_::_::_::[]) hs (by kernel_rfl) ⟨o1 [(9,none),(11,none)] rfl fun _ _ h n=>bs rfl Tryz.underlying233 CL (IsV.rd (up i9 h n.1)) (up i11 h n.2.1) hx1,o1 [(13,some 0)] rfl fun _ _ h n=>aM rfl CL n.1,cp 1 rfl rfl,trivial⟩ W2 fun b q p=>?_
    exact aj (k:=q) (w1 _ _ ⟨Bs.post ⟨hg,hs,hd⟩ p,p.ke 0 rfl i0,p.ke 3 rfl i3,p.ou 2 5 rfl,p.ke 9 rfl i9,p.ke 10 rfl i10,p.ke 11 rfl i11,trivial⟩)
   rintro a k ⟨⟨hg,hs,hd⟩,i0,i3,i5,i9,i10,i11,_⟩
   refine wp_seq ?_
   obtain ⟨x2,hx2,hr⟩:=bind_some hr
   refine cut (fun a' k'=>Bs noF k0 36 a' k'∧(IsV slices_) (a'.get 0) k'∧(IsV x2) (a'.get 3) k'∧(IsV slices_) (a'.get 9) k'∧(IsL slices_) (a'.get 10) k'∧(IsV s1.2) (a'.get 11) k'∧True) ?_ hQ ?_
   ·intro Q3 W3 w2
    refine gS 5 (_::_::_::_::_::[]) hs (by kernel_rfl) ⟨mu rfl i3,mu rfl i5,o1 [(16,some 1)] rfl fun _ _ h n=>ep rfl rfl Tryz.underlying130 (IsV.rd n.1),o1 [(15,some 0),(17,some 2)] rfl fun _ _ h n=>gV rfl n.1 n.2.1 hx2,cp 3 rfl rfl,trivial⟩ W3 fun b q p=>?_
    exact aj (k:=q) (w2 _ _ ⟨Bs.post ⟨hg,hs,hd⟩ p,p.ke 0 rfl i0,p.ou 4 3 rfl,p.ke 9 rfl i9,p.ke 10 rfl i10,p.ke 11 rfl i11,trivial⟩)
   rintro a k ⟨⟨hg,hs,hd⟩,i0,i3,i9,i10,i11,_⟩
   refine dr 2 (_::_::[]) rfl ⟨hg,hs,hd⟩ (by kernel_rfl) ⟨mu rfl i3,o1 [(19,some 0)] rfl fun _ _ h n=>gU rfl n.1 (cI rfl),trivial⟩ [⟨_,_⟩,⟨_,_⟩,⟨_,_⟩,⟨_,_⟩,⟨_,_⟩,⟨_,_⟩] (fun b q p=>⟨p.ke 0 rfl i0,p.ke 3 rfl i3,p.ke 9 rfl i9,p.ke 10 rfl i10,p.ke 11 rfl i11,p.ou 1 20 rfl,trivial⟩) ?_
   rintro a k ⟨⟨hg,hs,hd⟩,i0,i3,i9,i10,i11,i20,_⟩
   refine wp_cond_split (isBool i20) (fun hc1243=>?_) (fun hc1243=>?_)
   ·rw [if_pos hc1243] at hr
    simp at hr
   rw [if_neg (by rw [hc1243]; decide)] at hr
   refine wp_skip ?_
   obtain ⟨x3,hx3,hr⟩:=bind_some hr
   refine cut (fun a' k'=>Bs noF k0 36 a' k'∧(IsV slices_) (a'.get 0) k'∧(IsV x2) (a'.get 3) k'∧(IsV slices_) (a'.get 9) k'∧(IsL slices_) (a'.get 10) k'∧(IsV x3) (a'.get 11) k'∧True) ?_ hQ ?_
   ·intro Q4 W4 w3
    refine gS 2 (_::_::[]) hs (by kernel_rfl) ⟨o1 [(11,none)] rfl fun _ _ h n=>gV rfl (up i11 h n.1) (cI rfl) hx3,cm 0 rfl rfl,trivial⟩ W4 fun b q p=>?_
    exact aj (k:=q) (w3 _ _ ⟨Bs.post ⟨hg,hs,hd⟩ p,p.ke 0 rfl i0,p.ke 3 rfl i3,p.ke 9 rfl i9,p.ke 10 rfl i10,p.ou 1 11 rfl,trivial⟩)
   rintro a k ⟨⟨hg,hs,hd⟩,i0,i3,i9,i10,i11,_⟩
   exact hgo1233 _ _ _ (Option.some.inj hr).symm ⟨⟨hg,hs,hd⟩,i0,i3,i9,i10,i11,trivial⟩
  rw [if_neg (by rw [hc1250]; decide)] at hr
  refine wp_exit ?_
  exact hex1234 _ _ _ _ (Option.some.inj hr).symm ⟨rfl,⟨hg,hs,hd⟩,i0,i3,trivial⟩
 ·rintro r1 a k rfl hR
  dsimp only at hr
  obtain rfl:=Option.some.inj hr
  exact hR
 ·rintro _ _ _ rfl _
  simp at hr
 clear hf1
 rintro _ s2 a k rfl ⟨rfl,⟨hg,hs,hd⟩,i0,i3,_⟩
 dsimp only at hr
 refine wp_seq ?_
 obtain ⟨x4,hx4,hr⟩:=bind_some hr
 refine cut (fun a' k'=>Bs noF k0 36 a' k'∧(IsV slices_) (a'.get 0) k'∧ay 0 79 x4 (a'.get 6) k'∧Lo k0 (obF (a'.get 6))∧True) ?_ hQ ?_
 ·intro Q5 W5 w4
  refine gS 3 (_::_::_::[]) hs (by kernel_rfl) ⟨mu rfl i3,o1 [(23,some 0)] rfl fun _ _ h n=>cN rfl Tryz.call185 (oP h.size (po rfl n.1 hx4)),cp 1 rfl rfl,trivial⟩ W5 fun b q p=>?_
  have hgq:=hg.then p.grow
  have hsb:=p.size.trans hs
  have hdb:=p.defers.trans hd
  have j0:=p.ke 0 rfl i0
  have j6:(ay k.w.heap.size 79 x4) (b.get 6) q:=p.ou 2 6 rfl
  have x6:Lo k (obF (b.get 6)):=j6.loF
  have y6:=x6.chg hg
  replace j6:=j6.weaken (Nat.zero_le _)
  exact aj (k:=q) (w4 _ _ ⟨⟨hgq,hsb,hdb⟩,j0,j6,y6,trivial⟩)
 rintro a k ⟨⟨hg,hs,hd⟩,i0,i6,n6,_⟩
 refine wp_seq ?_
 refine gP (fun c l=>Bs noF k0 36 c l∧ay 0 79 x4 (c.get 6) l∧Lo k0 (obF (c.get 6))∧IsV slices_ (c.get 25) l∧IsL slices_ (c.get 26) l∧IsI 0 (c.get 27) l∧True) ?_ ?_
 ·intro Q6 W6 w5
  refine gS 3 (_::_::⟨some (IsI 0),[]⟩::[]) hs (by kernel_rfl) ⟨mu rfl i0,o1 [(25,some 0)] rfl fun _ _ h n=>ep rfl rfl Tryz.underlying233 (IsV.rd n.1),ob1 rfl fun _ _ h n=>cV rfl (cI rfl),trivial⟩ W6 fun b q p=>?_
  exact aj (k:=q) (w5 _ _ ⟨Bs.post ⟨hg,hs,hd⟩ p,p.ke 6 rfl i6,(by rw [p.old 6 rfl]; exact n6),p.ou 0 25 rfl,p.ou 1 26 rfl,p.ou 2 27 rfl,trivial⟩)
 rintro a k ⟨⟨hg,hs,hd⟩,i6,n6,i25,i26,i27,_⟩
 refine wp_block ?_
 obtain ⟨f2,hf2,hr⟩:=bind_some hr
 refine nM f2 (fun s' c l=>Bs noF k0 36 c l∧ay 0 79 s'.1 (c.get 6) l∧Lo k0 (obF (c.get 6))∧IsV slices_ (c.get 25) l∧IsL slices_ (c.get 26) l∧IsV s'.2 (c.get 27) l∧True) (fun i' s' c l=>(i' = 2∧Bs noF k0 36 c l∧ay 0 79 s'.1 (c.get 6) l∧Lo k0 (obF (c.get 6))∧True)) (fun r' c l=>bodyPost Tryz.prog Tryz.f183 (dw noF k0 (ay k0.w.heap.size 79 r')) .ret c l.w) ?_ hQ ?_ ?_ ?_
 ·intro Q7 W7 hgo hex hret
  refine ek ?_ _ _ _ _ _ hf2 ⟨⟨hg,hs,hd⟩,i6,n6,i25,i26,i27,trivial⟩ Q7 W7 hgo hex hret
  clear hr hf2 hgo hex hret W7 hQ hg hs hd i25 i26 i27 i6 n6
  intro s3 fl_ a k hr hS Q hQ hgo1258 hex1259 hret1260
  obtain ⟨⟨hg,hs,hd⟩,i6,n6,i25,i26,i27,_⟩:=hS
  unfold dq at hr
  refine gP (fun c l=>Bs noF k0 36 c l∧ay 0 79 s3.1 (c.get 6) l∧Lo k0 (obF (c.get 6))∧IsV slices_ (c.get 25) l∧IsL slices_ (c.get 26) l∧IsV s3.2 (c.get 27) l∧(IsV (decide (s3.2 < (slices_.length:Int)))) (c.get 28) l∧True) ?_ ?_
  ·intro Q8 W8 w6
   refine gS 1 (_::[]) hs (by kernel_rfl) ⟨o1 [(27,none),(26,none)] rfl fun _ _ h n=>gU rfl (up i27 h n.1) (up i26 h n.2.1),trivial⟩ W8 fun b q p=>?_
   exact aj (k:=q) (w6 _ _ ⟨Bs.post ⟨hg,hs,hd⟩ p,p.ke 6 rfl i6,(by rw [p.old 6 rfl]; exact n6),p.ke 25 rfl i25,p.ke 26 rfl i26,p.ke 27 rfl i27,p.ou 0 28 rfl,trivial⟩)
  rintro a k ⟨⟨hg,hs,hd⟩,i6,n6,i25,i26,i27,i28,_⟩
  refine wp_seq ?_
  refine wp_cond_split (isBool i28) (fun hc1271=>?_) (fun hc1271=>?_)
  ·rw [if_pos hc1271] at hr
   refine wp_skip ?_
   refine wp_seq ?_
   refine wp_block ?_
   refine wp_seq ?_
   obtain ⟨x5,hx5,hr⟩:=bind_some hr
   refine cut (fun a' k'=>Bs noF k0 36 a' k'∧ay 0 79 s3.1 (a'.get 6) k'∧Lo k0 (obF (a'.get 6))∧(IsV x5) (a'.get 8) k'∧(IsV slices_) (a'.get 25) k'∧(IsL slices_) (a'.get 26) k'∧(IsV s3.2) (a'.get 27) k'∧True) ?_ hQ ?_
   ·intro Q9 W9 w7
    refine gS 3 (_::_::_::[]) hs (by kernel_rfl) ⟨o1 [(25,none),(27,none)] rfl fun _ _ h n=>bs rfl Tryz.underlying233 CL (IsV.rd (up i25 h n.1)) (up i27 h n.2.1) hx5,o1 [(29,some 0)] rfl fun _ _ h n=>aM rfl CL n.1,cp 1 rfl rfl,trivial⟩ W9 fun b q p=>?_
    exact aj (k:=q) (w7 _ _ ⟨Bs.post ⟨hg,hs,hd⟩ p,p.ke 6 rfl i6,(by rw [p.old 6 rfl]; exact n6),p.ou 2 8 rfl,p.ke 25 rfl i25,p.ke 26 rfl i26,p.ke 27 rfl i27,trivial⟩)
   rintro a k ⟨⟨hg,hs,hd⟩,i6,n6,i8,i25,i26,i27,_⟩
   obtain ⟨x7,hx7,hr⟩:=bind_some hr
   refine cut (fun a' k'=>Bs noF k0 36 a' k'∧ay 0 79 x7 (a'.get 6) k'∧Lo k0 (obF (a'.get 6))∧(IsV slices_) (a'.get 25) k'∧(IsL slices_) (a'.get 26) k'∧(IsV s3.2) (a'.get 27) k'∧True) ?_ hQ ?_
   ·intro Q10 W10 w8
    refine gS 2 (⟨some (qy (a.get 6) 0 79 s3.1),[(6,none)]⟩::_::[]) hs (by kernel_rfl) ⟨ob1 rfl fun _ _ h n=>oz (.inl rfl) (Cj n.1 (up i6 h n.1)),mu rfl i8,trivial⟩ W10 fun b q p=>?_
    have hgq:=hg.then p.grow
    have hsb:=p.size.trans hs
    have hdb:=p.defers.trans hd
    have j25:=p.ke 25 rfl i25
    have j26:=p.ke 26 rfl i26
    have j27:=p.ke 27 rfl i27
    have e31:b.get 31 = a.get 6:=(p.ou 0 31 rfl).1
    have j31:ay 0 79 s3.1 (b.get 31) q:=(p.ou 0 31 rfl).2
    have y31:Lo k0 (obF (b.get 31)):=by rw [e31]; exact n6
    have j32:(IsV x5) (b.get 32) q:=p.ou 1 32 rfl
    have hns:=j31.kN
    refine cX (i:=2) (d:=33) rfl rfl rfl rfl (by rw [hsb]; decide) (e:=79) Tryz.underlying130 Jq j31 (IsV.rd j32) hx7 fun b2 q2 hsz hdf hoth hch hown hob=>?_
    have hle:=hch.le hns
    have yn:Lo k0 (obF (b2.get 33)):=y31.app hgq hob
    replace j25:=aA.pers hle j25
    replace j26:=aA.pers hle j26
    replace j27:=aA.pers hle j27
    replace j32:=aA.pers hle j32
    replace hgq:=hgq.step hch y31.wr
    rw [← hoth 25 (by decide)] at j25
    rw [← hoth 26 (by decide)] at j26
    rw [← hoth 27 (by decide)] at j27
    rw [← hoth 32 (by decide)] at j32
    have j33:=hown
    have y33:=yn
    replace hsb:=hsz.trans hsb
    replace hdb:=hdf.trans hdb
    clear hle hch hown hob hns yn hsz hdf hoth
    obtain ⟨b,hbb⟩ : ∃ b,b = b2:=⟨b2,rfl⟩
    subst hbb
    obtain ⟨q,hqq⟩ : ∃ q,q = q2:=⟨q2,rfl⟩
    subst hqq
    refine lL (i:=3) (d:=6) rfl rfl (.inl rfl) rfl (by rw [hsb]; decide) fun b2 hsz hdf hnew hoth=>?_
    have jn:(ay 0 79 x7) (b2.get 6) q:=by rw [hnew]; exact j33
    have yn:Lo k0 (obF (b2.get 6)):=by rw [hnew]; exact y33
    rw [← hoth 25 (by decide)] at j25
    rw [← hoth 26 (by decide)] at j26
    rw [← hoth 27 (by decide)] at j27
    rw [← hoth 32 (by decide)] at j32
    have j6:=jn
    have y6:=yn
    replace hsb:=hsz.trans hsb
    replace hdb:=hdf.trans hdb
    clear hsz hdf hoth
    obtain ⟨b,hbb⟩ : ∃ b,b = b2:=⟨b2,rfl⟩
    subst hbb
    exact aj (k:=q) (w8 _ _ ⟨⟨hgq,hsb,hdb⟩,j6,y6,j25,j26,j27,trivial⟩)
   rintro a k ⟨⟨hg,hs,hd⟩,i6,n6,i25,i26,i27,_⟩
   obtain ⟨x8,hx8,hr⟩:=bind_some hr
   refine cut (fun a' k'=>Bs noF k0 36 a' k'∧ay 0 79 x7 (a'.get 6) k'∧Lo k0 (obF (a'.get 6))∧(IsV slices_) (a'.get 25) k'∧(IsL slices_) (a'.get 26) k'∧(IsV x8) (a'.get 27) k'∧True) ?_ hQ ?_
   ·intro Q11 W11 w9
    refine gS 2 (_::_::[]) hs (by kernel_rfl) ⟨o1 [(27,none)] rfl fun _ _ h n=>gV rfl (up i27 h n.1) (cI rfl) hx8,cm 0 rfl rfl,trivial⟩ W11 fun b q p=>?_
    exact aj (k:=q) (w9 _ _ ⟨Bs.post ⟨hg,hs,hd⟩ p,p.ke 6 rfl i6,(by rw [p.old 6 rfl]; exact n6),p.ke 25 rfl i25,p.ke 26 rfl i26,p.ou 1 27 rfl,trivial⟩)
   rintro a k ⟨⟨hg,hs,hd⟩,i6,n6,i25,i26,i27,_⟩
   exact hgo1258 _ _ _ (Option.some.inj hr).symm ⟨⟨hg,hs,hd⟩,i6,n6,i25,i26,i27,trivial⟩
  rw [if_neg (by rw [hc1271]; decide)] at hr
  refine wp_exit ?_
  exact hex1259 _ _ _ _ (Option.some.inj hr).symm ⟨rfl,⟨hg,hs,hd⟩,i6,n6,trivial⟩
 ·rintro r2 a k rfl hR
  dsimp only at hr
  obtain rfl:=Option.some.inj hr
  exact hR
 ·rintro _ _ _ rfl _
  simp at hr
 clear hf2
 rintro _ s4 a k rfl ⟨rfl,⟨hg,hs,hd⟩,i6,n6,_⟩
 dsimp only at hr
 refine gP (fun c l=>Bs noF k0 36 c l∧ay 0 79 s4.1 (c.get 2) l∧Lo k0 (obF (c.get 2))∧True) ?_ ?_
 ·intro Q12 W12 w10
  refine gS 2 (⟨some (qy (a.get 6) 0 79 s4.1),[(6,none)]⟩::⟨some (qy (a.get 6) 0 79 s4.1),[(35,some 0)]⟩::[]) hs (by kernel_rfl) ⟨ob1 rfl fun _ _ h n=>oz (.inl rfl) (Cj n.1 (up i6 h n.1)),ob1 rfl fun _ _ h n=>oz (.inr rfl) n.1,trivial⟩ W12 fun b q p=>?_
  have hgq:=hg.then p.grow
  have hsb:=p.size.trans hs
  have hdb:=p.defers.trans hd
  have e2:b.get 2 = a.get 6:=(p.ou 1 2 rfl).1
  have j2:ay 0 79 s4.1 (b.get 2) q:=(p.ou 1 2 rfl).2
  have y2:Lo k0 (obF (b.get 2)):=by rw [e2]; exact n6
  exact aj (k:=q) (w10 _ _ ⟨⟨hgq,hsb,hdb⟩,j2,y2,trivial⟩)
 rintro a k ⟨⟨hg,hs,hd⟩,i2,n2,_⟩
 refine wp_ret ?_
 obtain rfl:=Option.some.inj hr
 exact iT rfl hd hg (show pd _ _ _ (.tmp 2) _ from ay.raise (k0:=k0) i2 n2)
theorem pj {k0:K} {v0:Value} {slices_:(List (List aw))} {r:(List aw)} (i0:(IsV slices_) v0 k0) (hr:cJ slices_ = some r) :
  Calls Tryz.prog 183 #[v0] k0.w (Ret k0 (IsV r)):=
 vr (oY i0 hr)
noncomputable def Kp:=mkO 183 [.list (.list (.st 2))] [.list (.st 2)] (fun x=>cJ x) Tryz.call183 fun k0 vs x r hG h hr=>by obtain ⟨v0,rfl,i0⟩:=h.one; exact pj i0 hr
def jg (a_:ar) (b_:ar):Option (Int):=
 (cq a_.from_ b_.from_).bind fun x1=>
 some x1
noncomputable def KW:=mk 187 [.st 23,.st 23] [.int] (fun x=>jg x.1 x.2) [H9] [] Tryz.f187 (.n) Tryz.func187 Tryz.call187 rfl rfl fun x=>by kernel_rfl
theorem qN {k0:K} {v0 v1:Value} {x0:ar} {x1:ar} {r:Int} (i0:(IsV x0) v0 k0) (i1:(IsV x1) v1 k0) (hr:jg x0 x1 = some r):Calls Tryz.prog 187 #[v0,v1] k0.w (Ret k0 (IsV r)):=(KW.ok.ok k0 [v0,v1] (x0,x1) r (GOk.none (fun _=>rfl) fun _ e=>by cases e) ⟨i0,i1⟩ hr)
section
open Go.Proofs Go.RowKit Go.Lib Go.Sort Go.Shelf
def Tryz.uM:Go.Shelf.Ren:=⟨fun | 6=>186 | 15=>132 | 14=>188 | 28=>160 | 29=>161 | 20=>189 | 21=>190 | 22=>191 | 23=>192 | 24=>193 | 25=>194 | 26=>195 | 27=>196 | 46=>197 | 47=>169 | 48=>170 | 49=>198 | 50=>199 | 57=>200 | n=>n,fun | 22=>228 | 24=>230 | 25=>238 | 3=>3 | 39=>179 | 0=>0 | 53=>207 | 55=>209 | 4=>4 | 46=>199 | 45=>198 | 50=>204 | 5=>5 | 9=>9 | 66=>214 | 70=>218 | 76=>221 | 77=>222 | n=>n,fun | n=>n⟩
theorem Tryz.uP:Go.Proofs.SlLaysF0.n6 Tryz.prog Tryz.uM:={
 mixed:=by kernel_rfl,
 f6:=⟨Tryz.f186.name,by decide,Tryz.func186.trans (congrArg some (by kernel_rfl))⟩,
 f14:=⟨Tryz.f188.name,by decide,Tryz.func188.trans (congrArg some (by kernel_rfl))⟩,
 f15:=Tryz.func132.trans (congrArg some (by kernel_rfl)),
 f20:=⟨Tryz.f189.name,by decide,Tryz.func189.trans (congrArg some (by kernel_rfl))⟩,
 f21:=⟨Tryz.f190.name,by decide,Tryz.func190.trans (congrArg some (by kernel_rfl))⟩,
 f22:=⟨Tryz.f191.name,by decide,Tryz.func191.trans (congrArg some (by kernel_rfl))⟩,
 f23:=⟨Tryz.f192.name,by decide,Tryz.func192.trans (congrArg some (by kernel_rfl))⟩,
 f24:=⟨Tryz.f193.name,by decide,Tryz.func193.trans (congrArg some (by kernel_rfl))⟩,
 f25:=⟨Tryz.f194.name,by decide,Tryz.func194.trans (congrArg some (by kernel_rfl))⟩,
 f26:=⟨Tryz.f195.name,by decide,Tryz.func195.trans (congrArg some (by kernel_rfl))⟩,
 f27:=⟨Tryz.f196.name,by decide,Tryz.func196.trans (congrArg some (by kernel_rfl))⟩,
 f28:=Tryz.func160.trans (congrArg some (by kernel_rfl)),
 f29:=Tryz.func161.trans (congrArg some (by kernel_rfl)),
 f46:=⟨Tryz.f197.name,by decide,Tryz.func197.trans (congrArg some (by kernel_rfl))⟩,
 f47:=Tryz.func169.trans (congrArg some (by kernel_rfl)),
 f48:=Tryz.func170.trans (congrArg some (by kernel_rfl)),
 f49:=⟨Tryz.f198.name,by decide,Tryz.func198.trans (congrArg some (by kernel_rfl))⟩,
 f50:=⟨Tryz.f199.name,by decide,Tryz.func199.trans (congrArg some (by kernel_rfl))⟩,
 f57:=⟨Tryz.f200.name,by decide,Tryz.func200.trans (congrArg some (by kernel_rfl))⟩,
 t0:=Tryz.underlying0,
 a0:=Tryz.isAgg0,
 z0:=Tryz.sizeOf0,
 v0:=Tryz.zeroValue0,
 t3:=Tryz.underlying3,
 a3:=Tryz.isAgg3,
 z3:=Tryz.sizeOf3,
 v3:=Tryz.zeroValue3,
 t4:=Tryz.underlying4,
 a4:=Tryz.isAgg4,
 z4:=Tryz.sizeOf4,
 v4:=Tryz.zeroValue4,
 t5:=Tryz.underlying5,
 a5:=Tryz.isAgg5,
 z5:=Tryz.sizeOf5,
 v5:=Tryz.zeroValue5,
 t9:=Tryz.underlying9,
 a9:=Tryz.isAgg9,
 z9:=Tryz.sizeOf9,
 v9:=Tryz.zeroValue9,
 t22:=Tryz.underlying228,
 a22:=Tryz.isAgg228,
 z22:=Tryz.sizeOf228,
 v22:=Tryz.zeroValue228,
 t25:=Tryz.underlying238,
 a25:=Tryz.isAgg238,
 z25:=Tryz.sizeOf238,
 v25:=Tryz.zeroValue238,
 t39:=Tryz.underlying179,
 a39:=Tryz.isAgg179,
 z39:=Tryz.sizeOf179,
 v39:=Tryz.zeroValue179,
 t45:=Tryz.underlying198,
 a45:=Tryz.isAgg198,
 z45:=Tryz.sizeOf198,
 v45:=Tryz.zeroValue198,
 t46:=Tryz.underlying199,
 a46:=Tryz.isAgg199,
 z46:=Tryz.sizeOf199,
 v46:=Tryz.zeroValue199,
 t50:=Tryz.underlying204,
 a50:=Tryz.isAgg204,
 z50:=Tryz.sizeOf204,
 v50:=Tryz.zeroValue204,
 t53:=Tryz.underlying207,
 a53:=Tryz.isAgg207,
 z53:=Tryz.sizeOf207,
 v53:=Tryz.zeroValue207,
 t55:=Tryz.underlying209,
 a55:=Tryz.isAgg209,
 z55:=Tryz.sizeOf209,
 v55:=Tryz.zeroValue209,
 t66:=Tryz.underlying214,
 a66:=Tryz.isAgg214,
 z66:=Tryz.sizeOf214,
 v66:=Tryz.zeroValue214,
 t70:=Tryz.underlying218,
 a70:=Tryz.isAgg218,
 z70:=Tryz.sizeOf218,
 v70:=Tryz.zeroValue218,
 t76:=Tryz.underlying221,
 a76:=Tryz.isAgg221,
 z76:=Tryz.sizeOf221,
 v76:=Tryz.zeroValue221,
 t77:=Tryz.underlying222,
 a77:=Tryz.isAgg222,
 z77:=Tryz.sizeOf222,
 v77:=Tryz.zeroValue222 }
instance:cf ar:=cf.ofMap fun x:ar=>(x.from_,x.to_)
def jr (x y:ar):Int:=if x.from_ < y.from_ then -1 else if y.from_ < x.from_ then 1 else 0
theorem qt (x y:ar):jg x y = some (jr x y):=by
 unfold jg cq cmp_isNaN_int jr
 by_cases h:x.from_ < y.from_
 ·simp [h]
 ·by_cases h2:y.from_ < x.from_ <;> simp [h,h2]
theorem wO (x y:ar):ltOf jr x y = decide (x.from_ < y.from_):=by
 unfold ltOf jr
 congr 1
 rw [eq_iff_iff]
 split
 ·simp [*]
 ·split <;> simp [*]
theorem pO:SWO (ltOf jr):=by
 constructor <;> simp only [wO,decide_eq_true_eq,decide_eq_false_iff_not] <;> intros <;> omega
def oA (l:List ar):Option (List ar):=if l.length ≤ 1073741824 then some (pdq (ltOf jr) l.toArray 0 l.toArray.size (Lib.bitLen l.toArray.size) true true).toList else none
theorem vt {l:List ar} (h:l.length ≤ 1000000) : ∃ r,oA l = some r∧r.Perm l∧r.Pairwise fun a b=>a.from_ ≤ b.from_:=by
 obtain ⟨⟨h1,_,h2⟩,h3⟩:=pdq_sorts (ltOf jr) pO l.toArray 0 l.toArray.size (Lib.bitLen l.toArray.size) true true (Nat.zero_le _) (Nat.le_refl _) (Or.inl rfl)
 refine ⟨_,if_pos (by omega),?_,?_⟩
 ·generalize pdq (ltOf jr) l.toArray 0 l.toArray.size (Lib.bitLen l.toArray.size) true true = r at h1 h2
  have e:r.extract 0 l.toArray.size = r:=by rw [← h1]; simp
  rw [e] at h2
  simpa using h2
 ·rw [List.pairwise_iff_getElem]
  intro i j hi hj hij
  have:=h3 i j (Nat.zero_le _) hij (by rw [← h1]; simpa using hj)
  rw [getElem!_pos _ j (by simpa using hj),getElem!_pos _ i (by simpa using hi)] at this
  rw [wO,decide_eq_false_iff_not] at this
  simp only [Array.getElem_toList]
  omega
theorem wB (d:Array ar):(pdq (ltOf jr) d 0 d.size (Lib.bitLen d.size) true true).size = d.size:=
 (pdq_sorts (ltOf jr) pO d 0 d.size (Lib.bitLen d.size) true true (Nat.zero_le _) (Nat.le_refl _) (Or.inl rfl)).1.1
set_option maxHeartbeats 2000000 in
theorem yl {k0:K} {v0:Value} {l r:List ar} (i0:ay 0 230 l v0 k0) (hr:oA l = some r) :
  Calls Tryz.prog 186 #[v0,.func (.func 187) #[] #[]] k0.w (dw (obF v0) k0 fun _ k'=>ay 0 230 r v0 k'):=by
 unfold oA at hr
 split at hr
 ·rename_i h12
  obtain rfl:=Option.some.inj hr
  refine FA (S:=fun d=>pdq (ltOf jr) d 0 d.size (Lib.bitLen d.size) true true) wB (fun p cap w=>?_) (fun blk off cap w hH hblk=>?_) i0
  ·have hcon:=AnyF.slices_SortFunc_none { Tryz.uP with } p cap (.func (.func 187) #[] #[]) w
   change Calls Tryz.prog 186 _ _ _ at hcon
   exact hcon
  ·have hcon:=AnyQ.slices_SortFunc_eq Tryz.uP 2 Tryz.isAgg230 Tryz.sizeOf230 (cf.enc (α:=ar)) (fun _=>rfl) (fun x v hv=>Eb k0 x v hv) jr pO 187 #[] blk off cap l.toArray w (enters_of Tryz.func187 (by kernel_rfl) rfl)
    (fun _ _ _ _ x y=>Ga (k:=Jz _) (qN (zD rfl x _) (zD rfl y _) (qt x y))) hH hblk (by simp; omega)
   change Calls Tryz.prog 186 _ _ _ at hcon
   exact hcon
 ·simp at hr
end
noncomputable def I7:FkR tb Tryz.prog:=⟨186,fnT tb [.tu,.fn 187] 230 (.st 23) (fun x y=>oA y),Fq Tryz.call186 fun k0 vs u1 u2 x y r hG h hy hr=>by obtain ⟨vs0,rfl,h1⟩:=h.tu; obtain ⟨vs1,rfl,h2⟩:=h1.fn; obtain rfl:=h2.nil; exact yl hy hr⟩
def iG (l_:(List aw)) (x_:Int) (s1:(List ar) × Int):Option (aN ((List ar) × Int) ((List ar))):=
 if (decide (s1.2 < (l_.length:Int))) then
  (au l_ s1.2).bind fun x1=>
  (if ((decide (x1.X0 ≤ x_)) && (decide (x_ < x1.X1))) then
   (cg s1.1 ([(⟨x1.Y0,x1.Y1⟩:ar)])).bind fun x2=>
   some x2
  else
   some s1.1).bind fun s2=>
  (aD s1.2 1).bind fun x3=>
  some (.go (s2,x3))
 else
  some (.ex 0 (s1.1,s1.2))
def fQ (x1:(List ar)) (s1:(List ar) × Int):Option (aN ((List ar) × Int) ((List ar))):=
 if (decide (s1.2 < (x1.length:Int))) then
  (au x1 s1.2).bind fun x2=>
  (if (decide (0 < (s1.1.length:Int))) then
   (bZ (s1.1.length:Int) 1).bind fun x3=>
   (au s1.1 x3).bind fun x4=>
   some (decide (x2.from_ ≤ x4.to_))
  else
   some false).bind fun x5=>
  (if x5 then
   (bZ (s1.1.length:Int) 1).bind fun x6=>
   (bZ (s1.1.length:Int) 1).bind fun x7=>
   (au s1.1 x7).bind fun x8=>
   (au s1.1 x6).bind fun x9=>
   (some (s1.1.set (x6).toNat ({ x9 with to_:=(max x8.to_ x2.to_) }))).bind fun x10=>
   some x10
  else
   (cg s1.1 ([x2])).bind fun x11=>
   some x11).bind fun s2=>
  (aD s1.2 1).bind fun x12=>
  some (.go (s2,x12))
 else
  some (.ex 2 (s1.1,s1.2))
def ln (l_:(List aw)) (x_:Int):Option ((List ar)):=
 (ah (iG l_ x_) (l_.length + 1) (([]:List ar),0)).bind fun f1=>match f1 with
  | .go _=>none
  | .ex _ s1 =>
   (oA s1.1).bind fun x1=>
   (ah (fQ x1) (x1.length + 1) (([]:List ar),0)).bind fun f2=>match f2 with
    | .go _=>none
    | .ex _ s2=>
     some s2.1
    | .ret r1=>some r1
  | .ret r2=>some r2
noncomputable def Lj:=mkc 184 [.list (.st 2),.int] [.list (.st 23)] (fun x=>ln x.1 x.2) [] [I7] [5,8,28,35,37,74,77] Tryz.f184 (.s .n (.s .n (.s (.s .n (.l [] [(5,.o 230 (.st 23)),(14,.v .int)] [(0,[14],[])] (fI 13) (.s .n (.s .n (.s (.s .n (.s .n (.j [] [(5,.o 230 (.st 23))] ([],[]) (.s .n .n)))) .n))))) (.s .n (.s (.f [5] .n) (.s (.s (.f [5] .n) (.l [] [(8,.o 230 (.st 23)),(41,.v .int)] [(2,[41],[])] (fI 40) (.s .n (.s .n (.s (.s .n (.s .n (.s .n (.j [] [(8,.o 230 (.st 23))] ([],[]) (.s .n .n))))) .n))))) (.s (.f [8] .n) .n))))))) Tryz.func184 Tryz.call184 rfl rfl fun x=>by kernel_rfl
def fM (x1:(List aw)) (s1:(List Int) × Int):Option (aN ((List Int) × Int) ((List aO))):=
 if (decide (s1.2 < (x1.length:Int))) then
  (au x1 s1.2).bind fun x2=>
  (cg s1.1 ([x2.X0,x2.X1])).bind fun x3=>
  (aD s1.2 1).bind fun x4=>
  some (.go (x3,x4))
 else
  some (.ex 0 (s1.1,s1.2))
def fN (x1:(List aw)) (x2:(List Int)) (s1:(List aO) × Int):Option (aN ((List aO) × Int) ((List aO))):=
 if (decide (s1.2 < (x2.length:Int))) then
  (bZ s1.2 1).bind fun x3=>
  (au x2 x3).bind fun x4=>
  (au x2 s1.2).bind fun x5=>
  (bZ s1.2 1).bind fun x6=>
  (au x2 x6).bind fun x7=>
  (ln x1 x7).bind fun x8=>
  (cg s1.1 ([(⟨x4,x5,x8⟩:aO)])).bind fun x9=>
  (aD s1.2 1).bind fun x10=>
  some (.go (x9,x10))
 else
  some (.ex 2 (s1.1,s1.2))
def lq (lists_:(List (List aw))):Option ((List aO)):=
 (cJ lists_).bind fun x1=>
 (ah (fM x1) (x1.length + 1) (([]:List Int),0)).bind fun f1=>match f1 with
  | .go _=>none
  | .ex _ s1 =>
   (gE s1.1).bind fun x2=>
   (eb x2).bind fun x3=>
   (ah (fN x1 x3) (x1.length + x3.length + ([]:List aO).length + 1) (([]:List aO),1)).bind fun f2=>match f2 with
    | .go _=>none
    | .ex _ s2=>
     some s2.1
    | .ret r1=>some r1
  | .ret r2=>some r2
noncomputable def Lr:=mkc 180 [.list (.list (.st 2))] [.list (.st 24)] (fun x=>lq x) [Kp,Lj] [Hg,G7] [2,4,7,17,23,25,27,35,54,55] Tryz.f180 (.s .n (.s .n (.s .n (.s (.s .n (.l [] [(4,.o 3 .int),(13,.v .int)] [(0,[13],[])] (fI 12) .n)) (.s .n (.s .n (.s (.f [4] .n) (.s (.s (.f [4] .n) (.l [] [(7,.o 232 (.st 24)),(8,.v .int)] [(2,[8],[])] (fL [3,4,7]) (.s (.s (.f [4] .n) .n) (.s (.f [4] .n) (.f [4] .n))))) .n)))))))) Tryz.func180 Tryz.call180 rfl rfl fun x=>by kernel_rfl
def bV (s1_:(List ar)) (s2_:(List ar)) (s1:Int):Option (aN (Int) (Bool)):=
 if (decide (s1 < (s1_.length:Int))) then
  (au s1_ s1).bind fun x1=>
  (au s2_ s1).bind fun x2=>
  if (!decide (x1 = x2)) then
   some (.ret false)
  else
   (aD s1 1).bind fun x3=>
   some (.go x3)
 else
  some (.ex 0 s1)
def gW (s1_:(List ar)) (s2_:(List ar)):Option (Bool):=
 if ((s1_.length:Int) != (s2_.length:Int)) then
  some false
 else
  (ah (bV s1_ s2_) (s1_.length + 1) 0).bind fun f1=>match f1 with
   | .go _=>none
   | .ex _ _=>
    some true
   | .ret r1=>some r1
noncomputable def LI:=mk 182 [.list (.st 23),.list (.st 23)] [.bool] (fun x=>gW x.1 x.2) [] [] Tryz.f182 (.s .n (.s .n (.s (.s .n (.l [] [(13,.v .int)] [(0,[13],[])] (fI 12) .n)) .n))) Tryz.func182 Tryz.call182 rfl rfl fun x=>by kernel_rfl
def cH (l_:(List aO)) (s1:(List aw) × Int) (s2:Int):Option (aN (Int) ((List aw))):=
 (if (decide (s2 < (l_.length:Int))) then
  (au l_ s2).bind fun x1=>
  (au l_ s1.2).bind fun x2=>
  (gW x1.column x2.column).bind fun x3=>
  some x3
 else
  some false).bind fun x4=>
 if x4 then
  (aD s2 1).bind fun x5=>
  some (.go x5)
 else
  some (.ex 2 s2)
def jl (l_:(List aO)) (s1:(List aw) × Int) (s2:Int) (x2:aO) (s3:(List aw) × Int):Option (aN ((List aw) × Int) ((List aw))):=
 if (decide (s3.2 < (x2.column.length:Int))) then
  (au x2.column s3.2).bind fun x3=>
  (au l_ s1.2).bind fun x4=>
  (bZ s2 1).bind fun x5=>
  (au l_ x5).bind fun x6=>
  (cg s3.1 ([(⟨x4.x0,x3.from_,x6.x1,x3.to_⟩:aw)])).bind fun x7=>
  (aD s3.2 1).bind fun x8=>
  some (.go (x7,x8))
 else
  some (.ex 4 (s3.1,s3.2))
def jb (l_:(List aO)) (s1:(List aw) × Int):Option (aN ((List aw) × Int) ((List aw))):=
 if (decide (s1.2 < (l_.length:Int))) then
  (aD s1.2 1).bind fun x1=>
  (ah (cH l_ s1) (l_.length + s1.1.length + 1) x1).bind fun f1=>match f1 with
   | .go _=>none
   | .ex _ s2 =>
    (au l_ s1.2).bind fun x2=>
    (ah (jl l_ s1 s2 x2) (x2.column.length + 1) (s1.1,0)).bind fun f2=>match f2 with
     | .go _=>none
     | .ex _ s3=>
      some (.go (s3.1,s2))
     | .ret r1=>some (.ret r1)
   | .ret r2=>some (.ret r2)
 else
  some (.ex 0 (s1.1,s1.2))
def kn (l_:(List aO)):Option ((List aw)):=
 (ah (jb l_) (l_.length + ([]:List aw).length + 1) (([]:List aw),0)).bind fun f1=>match f1 with
  | .go _=>none
  | .ex _ s1=>
   some s1.1
  | .ret r1=>some r1
noncomputable def Kh:=mk 179 [.list (.st 24)] [.list (.st 2)] (fun x=>kn x) [LI] [3,43,61] Tryz.f179 (.s .n (.s .n (.s (.s .n (.l [] [(3,.o 79 (.st 2)),(4,.v .int)] [(0,[4],[])] (fL [0,3]) (.s .n (.s .n (.s (.l [] [(5,.v .int)] [(2,[],[])] (fL [0,3]) .n) (.s (.s .n (.l [] [(3,.o 79 (.st 2)),(39,.v .int)] [(4,[39],[])] (fI 38) .n)) .n)))))) (.s (.f [3] .n) .n)))) Tryz.func179 Tryz.call179 rfl rfl fun x=>by kernel_rfl
def kr (l_:(List aw)):Option ((List aw) × Int):=
 if (decide (200 < (l_.length:Int))) then
  some (([]:List aw),6)
 else
  some (l_,0)
noncomputable def KS:=mk 178 [.list (.st 2)] [.list (.st 2),.int] (fun x=>kr x) [] [] Tryz.f178 (.n) Tryz.func178 Tryz.call178 rfl rfl fun x=>by kernel_rfl
def iI (l_:(List aw)) (s1:Int):Option (aN (Int) ((List aw) × Int)):=
 if (decide (s1 < (l_.length:Int))) then
  (au l_ s1).bind fun x1=>
  (gk x1).bind fun x2=>
  if (!x2) then
   some (.ret (([]:List aw),1))
  else
   (aD s1 1).bind fun x3=>
   some (.go x3)
 else
  some (.ex 0 s1)
def iH (l_:(List aw)):Option ((List aw) × Int):=
 (ah (iI l_) (l_.length + 1) 0).bind fun f1=>match f1 with
  | .go _=>none
  | .ex _ _ =>
   if (decide (400 < (l_.length:Int))) then
    some (([]:List aw),6)
   else
    (lq ([l_])).bind fun x1=>
    (kn x1).bind fun x2=>
    (kr x2).bind fun x3=>
    some (x3.1,x3.2)
  | .ret r1=>some r1
noncomputable def Kb:=mk 173 [.list (.st 2)] [.list (.st 2),.int] (fun x=>iH x) [k99,Lr,Kh,KS] [] Tryz.f173 (.s .n (.s (.s .n (.l [] [(8,.v .int)] [(0,[8],[])] (fI 7) .n)) .n)) Tryz.func173 Tryz.call173 rfl rfl fun x=>by kernel_rfl
def bT (s1_:(List aw)) (s2_:(List aw)) (s1:Int):Option (aN (Int) (Bool)):=
 if (decide (s1 < (s1_.length:Int))) then
  (au s1_ s1).bind fun x1=>
  (au s2_ s1).bind fun x2=>
  if (!decide (x1 = x2)) then
   some (.ret false)
  else
   (aD s1 1).bind fun x3=>
   some (.go x3)
 else
  some (.ex 0 s1)
def fa (s1_:(List aw)) (s2_:(List aw)):Option (Bool):=
 if ((s1_.length:Int) != (s2_.length:Int)) then
  some false
 else
  (ah (bT s1_ s2_) (s1_.length + 1) 0).bind fun f1=>match f1 with
   | .go _=>none
   | .ex _ _=>
    some true
   | .ret r1=>some r1
noncomputable def JT:=mk 174 [.list (.st 2),.list (.st 2)] [.bool] (fun x=>fa x.1 x.2) [] [] Tryz.f174 (.s .n (.s .n (.s (.s .n (.l [] [(13,.v .int)] [(0,[13],[])] (fI 12) .n)) .n))) Tryz.func174 Tryz.call174 rfl rfl fun x=>by kernel_rfl
def iD (a_:(List aw)):Option (Bool):=
 (iH a_).bind fun x1=>
 (if (x1.2 == 0) then
  (fa x1.1 a_).bind fun x2=>
  some x2
 else
  some false).bind fun x3=>
 some x3
noncomputable def Lm:=mk 162 [.list (.st 2)] [.bool] (fun x=>iD x) [Kb,JT] [] Tryz.f162 (.n) Tryz.func162 Tryz.call162 rfl rfl fun x=>by kernel_rfl
def jN (a_:(List aw)) (b_:(List aw)):Option (Bool):=
 (fa a_ b_).bind fun x1=>
 some x1
noncomputable def LF:=mk 163 [.list (.st 2),.list (.st 2)] [.bool] (fun x=>jN x.1 x.2) [JT] [] Tryz.f163 (.n) Tryz.func163 Tryz.call163 rfl rfl fun x=>by kernel_rfl
def fE (s_:(List bk)) (s1:Int):Option (aN (Int) (Bool)):=
 if (decide (s1 < (s_.length:Int))) then
  ((au s_ s1).bind fun x1=>
  (if ((((decide (x1.Z0 < 0)) || (decide (x1.Z1 ≤ x1.Z0))) || (decide (4096 < x1.Z1))) || ((x1.Area.length:Int) == 0)) then
   some true
  else
   (iD x1.Area).bind fun x2=>
   some (!x2)).bind fun x3=>
  if x3 then
   some (.ret false)
  else
   if (s1 == 0) then
    some (.go ())
   else
    (bZ s1 1).bind fun x4=>
    (au s_ x4).bind fun x5=>
    (if (decide (x1.Z0 < x5.Z1)) then
     some true
    else
     (if (x5.Z1 == x1.Z0) then
      (jN x5.Area x1.Area).bind fun x6=>
      some x6
     else
      some false).bind fun x7=>
     some x7).bind fun x8=>
    if x8 then
     some (.ret false)
    else
     some (.go ()):Option (aN (Unit) (Bool))).bind fun f1=>match f1 with
   | .go _=>
    (aD s1 1).bind fun x9=>
    some (.go x9)
   | .ex _ _=>none
   | .ret r1=>some (.ret r1)
 else
  some (.ex 0 s1)
def jQ (s_:(List bk)):Option (Bool):=
 if (decide (80 < (s_.length:Int))) then
  some false
 else
  (ah (fE s_) (s_.length + 1) 0).bind fun f1=>match f1 with
   | .go _=>none
   | .ex _ _=>
    some true
   | .ret r1=>some r1
noncomputable def KV:=mk 136 [.list (.st 22)] [.bool] (fun x=>jQ x) [Lm,LF] [] Tryz.f136 (.s .n (.s .n (.s (.s .n (.l [] [(11,.v .int)] [(0,[11],[])] (fI 10) (.s .n (.s .n (.s (.jf [] [] ([],[]) [] .n) .n))))) .n))) Tryz.func136 Tryz.call136 rfl rfl fun x=>by kernel_rfl
def iq (x1:bk) (s1:(List Box) × Int):Option (aN ((List Box) × Int) ((List Box))):=
 if (decide (s1.2 < (x1.Area.length:Int))) then
  (au x1.Area s1.2).bind fun x2=>
  (cg s1.1 ([(⟨x2,x1.Z0,x1.Z1⟩:Box)])).bind fun x3=>
  (aD s1.2 1).bind fun x4=>
  some (.go (x3,x4))
 else
  some (.ex 2 (s1.1,s1.2))
def ky (s_:(List bk)) (s1:(List Box) × Int):Option (aN ((List Box) × Int) ((List Box))):=
 if (decide (s1.2 < (s_.length:Int))) then
  (au s_ s1.2).bind fun x1=>
  (ah (iq x1) (x1.Area.length + 1) (s1.1,0)).bind fun f1=>match f1 with
   | .go _=>none
   | .ex _ s2=>
    (aD s1.2 1).bind fun x2=>
    some (.go (s2.1,x2))
   | .ret r1=>some (.ret r1)
 else
  some (.ex 0 (s1.1,s1.2))
def jC (s_:(List bk)):Option ((List Box)):=
 (jQ s_).bind fun x1=>
 if (!x1) then
  some ([]:List Box)
 else
  (ah (ky s_) (s_.length + 1) (([]:List Box),0)).bind fun f1=>match f1 with
   | .go _=>none
   | .ex _ s1=>
    some s1.1
   | .ret r1=>some r1
noncomputable def K6:=mk 110 [.list (.st 22)] [.list (.st 5)] (fun x=>jC x) [KV] [3,24,32] Tryz.f110 (.s .n (.s .n (.s .n (.s (.s .n (.l [] [(3,.o 81 (.st 5)),(13,.v .int)] [(0,[13],[])] (fI 12) (.s .n (.s .n (.s (.s .n (.s .n (.l [] [(3,.o 81 (.st 5)),(20,.v .int)] [(2,[20],[])] (fI 19) .n))) .n))))) (.s (.f [3] .n) .n))))) Tryz.func110 Tryz.call110 rfl rfl fun x=>by kernel_rfl
def c0 (b_:bz) (c_:bz):Option (Int):=
 (qs b_.n c_.d).bind fun x1=>
 (qs c_.n b_.d).bind fun x2=>
 (cq x1 x2).bind fun x3=>
 some x3
noncomputable def IC:=mk 139 [.st 26,.st 26] [.int] (fun x=>c0 x.1 x.2) [H9] [] Tryz.f139 (.n) Tryz.func139 Tryz.call139 rfl rfl fun x=>by kernel_rfl
def dG (i_:aW) (b_:bz):Option (aW):=
 (c0 b_ i_.lo).bind fun x1=>
 (if (decide (0 < x1)) then
  some { i_ with lo:=b_ }
 else
  (if (x1 == 0) then
   some { i_ with lo:={ i_.lo with open_:=(i_.lo.open_ || b_.open_) } }
  else
   some i_).bind fun s1=>
  some s1).bind fun s2=>
 some s2
noncomputable def Je:=mkR 137 (fnB tb [.tu,.v (.st 26)] (.st 25) (fun x y=>dG y x)) (fun r=>r.1) (fun _=>rfl) [IC] [] false [0] Tryz.f137 (.s .n (.s .n (.s .n (.j [] [(0,.b (.st 25))] ([],[]) (.s .n (.s .n (.j [] [(0,.b (.st 25))] ([],[]) (.s .n .n)))))))) 0 Tryz.func137 Tryz.call137 rfl rfl rfl fun x y z=>by kernel_rfl
def dF (i_:aW) (b_:bz):Option (aW):=
 (if i_.top then
  (c0 b_ i_.hi).bind fun x1=>
  some x1
 else
  some (-1)).bind fun s1=>
 (if (decide (s1 < 0)) then
  some { { i_ with hi:=b_ } with top:=true }
 else
  (if (s1 == 0) then
   some { i_ with hi:={ i_.hi with open_:=(i_.hi.open_ || b_.open_) } }
  else
   some i_).bind fun s2=>
  some s2).bind fun s3=>
 some s3
noncomputable def Jj:=mkR 138 (fnB tb [.tu,.v (.st 26)] (.st 25) (fun x y=>dF y x)) (fun r=>r.1) (fun _=>rfl) [IC] [] false [0] Tryz.f138 (.s .n (.s .n (.s (.s .n (.j [] [(4,.v .int)] ([],[]) (.s .n .n))) (.s .n (.j [] [(0,.b (.st 25))] ([],[]) (.s .n (.s .n (.j [] [(0,.b (.st 25))] ([],[]) (.s .n .n))))))))) 0 Tryz.func138 Tryz.call138 rfl rfl rfl fun x y z=>by kernel_rfl
def cA (i_:aW) (at_:Int) (by_:Int) (from_:Int) (to_:Int):Option (aW):=
 (if (decide (0 < by_)) then
  (bZ from_ at_).bind fun x1=>
  (dG i_ (⟨x1,by_,false⟩:bz)).bind fun x2=>
  (bZ to_ at_).bind fun x3=>
  (dF x2 (⟨x3,by_,true⟩:bz)).bind fun x4=>
  some x4
 else
  (if (decide (by_ < 0)) then
   (bZ at_ to_).bind fun x5=>
   (bZ 0 by_).bind fun x6=>
   (dG i_ (⟨x5,x6,true⟩:bz)).bind fun x7=>
   (bZ at_ from_).bind fun x8=>
   (bZ 0 by_).bind fun x9=>
   (dF x7 (⟨x8,x9,false⟩:bz)).bind fun x10=>
   some x10
  else
   (if ((decide (at_ < from_)) || (decide (to_ ≤ at_))) then
    some { i_ with none_:=true }
   else
    some i_).bind fun s1=>
   some s1).bind fun s2=>
  some s2).bind fun s3=>
 some s3
noncomputable def JE:=mkR 111 (fnB tb [.tu,.v .int,.v .int,.v .int,.v .int] (.st 25) (fun x y=>cA y x.1 x.2.1 x.2.2.1 x.2.2.2)) (fun r=>r.1) (fun _=>rfl) [] [Je,Jj] false [0] Tryz.f111 (.s .n (.j [] [(0,.b (.st 25))] ([],[]) (.s .n (.s .n (.j [] [(0,.b (.st 25))] ([],[]) (.s .n (.s .n (.j [] [(0,.b (.st 25))] ([],[]) (.s .n .n))))))))) 0 Tryz.func111 Tryz.call111 rfl rfl rfl fun x y z=>by kernel_rfl
def fb (i_:aW):Option (Bool):=
 if (i_.none_ || (!i_.top)) then
  some i_.none_
 else
  (c0 i_.lo i_.hi).bind fun x1=>
  some ((decide (0 < x1)) || ((x1 == 0) && (i_.lo.open_ || i_.hi.open_)))
noncomputable def K9:=mk 112 [.rf (.st 25)] [.bool] (fun x=>fb x) [IC] [] Tryz.f112 (.n) Tryz.func112 Tryz.call112 rfl rfl fun x=>by kernel_rfl
def hM (p_:aJ) (v_:aJ) (t_:aW) (x1:(List Box)) (s1:Int):Option (aN (Int) (Bool)):=
 if (decide (s1 < (x1.length:Int))) then
  (au x1 s1).bind fun x2=>
  (cA t_ p_.X v_.X x2.Base.X0 x2.Base.X1).bind fun x3=>
  (cA x3 p_.Y v_.Y x2.Base.Y0 x2.Base.Y1).bind fun x4=>
  (cA x4 p_.Z v_.Z x2.Z0 x2.Z1).bind fun x5=>
  (fb x5).bind fun x6=>
  if (!x6) then
   some (.ret true)
  else
   (aD s1 1).bind fun x7=>
   some (.go x7)
 else
  some (.ex 0 s1)
def lR (s_:(List bk)) (p_:aJ) (v_:aJ) (t_:aW):Option (Bool):=
 (jC s_).bind fun x1=>
 (ah (hM p_ v_ t_ x1) (x1.length + 1) 0).bind fun f1=>match f1 with
  | .go _=>none
  | .ex _ _=>
   some false
  | .ret r1=>some r1
noncomputable def k87:=mkc 87 [.list (.st 22),.st 17,.st 17,.st 25] [.bool] (fun x=>lR x.1 x.2.1 x.2.2.1 x.2.2.2) [K6,K9] [JE] [11] Tryz.f87 (.s .n (.s (.s .n (.l [] [(16,.v .int)] [(0,[16],[])] (fI 15) (.s .n (.s .n (.s (.s .n (.s .n (.s .n (.s .n (.s .n (.s .n (.s (.f [11] .n) .n))))))) .n))))) .n)) Tryz.func87 Tryz.call87 rfl rfl fun x=>by kernel_rfl
def kT (s_:(List bk)) (p_:aJ) (d_:aJ):Option (Bool):=
 (oy p_).bind fun x1=>
 if ((((!x1) || (decide (d_ = (⟨0,0,0⟩:aJ)))) || (decide ((min (min d_.X d_.Y) d_.Z) < (-1048576)))) || (decide (1048576 < (max (max d_.X d_.Y) d_.Z)))) then
  some false
 else
  (lR s_ p_ d_ (⟨(⟨0,1,true⟩:bz),(⟨0,0,false⟩:bz),false,false⟩:aW)).bind fun x2=>
  some x2
noncomputable def k57:=mk 57 [.list (.st 22),.st 17,.st 17] [.bool] (fun x=>kT x.1 x.2.1 x.2.2) [k86,k87] [] Tryz.f57 (.n) Tryz.func57 Tryz.call57 rfl rfl fun x=>by kernel_rfl
def dA (s_:(List (List bk))) (f_:((List bk) → Option (Bool))) (s1:Int):Option (aN (Int) (Int)):=
 if (decide (s1 < (s_.length:Int))) then
  (au s_ s1).bind fun x1=>
  (f_ x1).bind fun x2=>
  if x2 then
   some (.ret s1)
  else
   (aD s1 1).bind fun x3=>
   some (.go x3)
 else
  some (.ex 0 s1)
def gR (s_:(List (List bk))) (f_:((List bk) → Option (Bool))):Option (Int):=
 (ah (dA s_ f_) (s_.length + 1) 0).bind fun f1=>match f1 with
  | .go _=>none
  | .ex _ _=>
   some (-1)
  | .ret r1=>some r1
noncomputable def Ks:=mk 109 [.list (.list (.st 22)),.f1 (.list (.st 22)) .bool] [.int] (fun x=>gR x.1 x.2) [] [] Tryz.f109 (.s .n (.s (.s .n (.l [] [(8,.v .int)] [(0,[8],[])] (fI 7) .n)) .n)) Tryz.func109 Tryz.call109 rfl rfl fun x=>by kernel_rfl
def dB (s_:(List (List bk))) (f_:((List bk) → Option (Bool))):Option (Bool):=
 (gR s_ f_).bind fun x1=>
 some (decide (0 ≤ x1))
noncomputable def k84:=mk 84 [.list (.list (.st 22)),.f1 (.list (.st 22)) .bool] [.bool] (fun x=>dB x.1 x.2) [Ks] [] Tryz.f84 (.n) Tryz.func84 Tryz.call84 rfl rfl fun x=>by kernel_rfl
def nX (s_:(List bk)) (p1_:((List bk) → aJ → Option (Bool))) (p2_:aJ):Option (Bool):=
 (p1_ s_ p2_).bind fun x1=>
 some x1
noncomputable def k85:=mk 85 [.list (.st 22),.rf (.f2 (.list (.st 22)) (.st 17) .bool),.rf (.st 17)] [.bool] (fun x=>nX x.1 x.2.1 x.2.2) [] [] Tryz.f85 (.n) Tryz.func85 Tryz.call85 rfl rfl fun x=>by kernel_rfl
def kh (points_:(List aJ)) (solids_:(List (List bk))) (blocks_:((List bk) → aJ → Option (Bool))) (s1:Int × Int):Option (aN (Int × Int) (Int)):=
 if (decide (s1.2 < (points_.length:Int))) then
  (au points_ s1.2).bind fun x1=>
  (dB solids_ (fun y0=>nX y0 blocks_ x1)).bind fun x2=>
  (if (!x2) then
   (aD s1.1 1).bind fun x3=>
   some x3
  else
   some s1.1).bind fun s2=>
  (aD s1.2 1).bind fun x4=>
  some (.go (s2,x4))
 else
  some (.ex 0 (s1.1,s1.2))
def lU (points_:(List aJ)) (solids_:(List (List bk))) (blocks_:((List bk) → aJ → Option (Bool))):Option (Int):=
 (ah (kh points_ solids_ blocks_) (points_.length + 1) (0,0)).bind fun f1=>match f1 with
  | .go _=>none
  | .ex _ s1=>
   some s1.1
  | .ret r1=>some r1
noncomputable def k55:=mk 55 [.list (.st 17),.list (.list (.st 22)),.f2 (.list (.st 22)) (.st 17) .bool] [.int] (fun x=>lU x.1 x.2.1 x.2.2) [k85,k84] [] Tryz.f55 (.s .n (.s .n (.s (.s .n (.l [] [(7,.v .int),(12,.v .int)] [(0,[12],[])] (fI 11) (.s .n (.s .n (.s (.s .n (.s .n (.j [] [(7,.v .int)] ([],[]) (.s .n .n)))) .n))))) .n))) Tryz.func55 Tryz.call55 rfl rfl fun x=>by kernel_rfl
def kC (p0_:Int):Option (Bool):=
 some false
noncomputable def k58:=mk 58 [.int] [.bool] (fun x=>kC x) [] [] Tryz.f58 (.n) Tryz.func58 Tryz.call58 rfl rfl fun x=>by kernel_rfl
def fk (s_:(List bk)) (p_:aJ) (q_:aJ):Option (Bool):=
 (oy p_).bind fun x1=>
 (if (!x1) then
  some true
 else
  (oy q_).bind fun x2=>
  some (!x2)).bind fun x3=>
 if x3 then
  some false
 else
  (bZ q_.X p_.X).bind fun x4=>
  (bZ q_.Y p_.Y).bind fun x5=>
  (bZ q_.Z p_.Z).bind fun x6=>
  (lR s_ p_ (⟨x4,x5,x6⟩:aJ) (⟨(⟨0,1,true⟩:bz),(⟨1,1,true⟩:bz),true,false⟩:aW)).bind fun x7=>
  some x7
noncomputable def k60:=mk 60 [.list (.st 22),.st 17,.st 17] [.bool] (fun x=>fk x.1 x.2.1 x.2.2) [k86,k87] [] Tryz.f60 (.n) Tryz.func60 Tryz.call60 rfl rfl fun x=>by kernel_rfl
def cQ (a_:af) (b_:af):Option (Bool):=
 (e9 a_).bind fun x1=>
 (if (!x1) then
  some true
 else
  (e9 b_).bind fun x2=>
  some (!x2)).bind fun x3=>
 if x3 then
  some false
 else
  (cj a_.Box.Base b_.Box.Base).bind fun x4=>
  some (x4.2 && (decide ((max a_.Box.Z0 b_.Box.Z0) < (min a_.Box.Z1 b_.Box.Z1))))
noncomputable def k63:=mk 63 [.st 4,.st 4] [.bool] (fun x=>cQ x.1 x.2) [k82,k78] [] Tryz.f63 (.n) Tryz.func63 Tryz.call63 rfl rfl fun x=>by kernel_rfl
def cU (s_:(List bf)) (f_:(bf → Option (Bool))) (s1:Int):Option (aN (Int) (Int)):=
 if (decide (s1 < (s_.length:Int))) then
  (au s_ s1).bind fun x1=>
  (f_ x1).bind fun x2=>
  if x2 then
   some (.ret s1)
  else
   (aD s1 1).bind fun x3=>
   some (.go x3)
 else
  some (.ex 0 s1)
def fJ (s_:(List bf)) (f_:(bf → Option (Bool))):Option (Int):=
 (ah (cU s_ f_) (s_.length + 1) 0).bind fun f1=>match f1 with
  | .go _=>none
  | .ex _ _=>
   some (-1)
  | .ret r1=>some r1
noncomputable def k88:=mk 88 [.list (.st 21),.f1 (.st 21) .bool] [.int] (fun x=>fJ x.1 x.2) [] [] Tryz.f88 (.s .n (.s (.s .n (.l [] [(8,.v .int)] [(0,[8],[])] (fI 7) .n)) .n)) Tryz.func88 Tryz.call88 rfl rfl fun x=>by kernel_rfl
def cT (s_:(List bf)) (f_:(bf → Option (Bool))):Option (Bool):=
 (fJ s_ f_).bind fun x1=>
 some (decide (0 ≤ x1))
noncomputable def k61:=mk 61 [.list (.st 21),.f1 (.st 21) .bool] [.bool] (fun x=>cT x.1 x.2) [k88] [] Tryz.f61 (.n) Tryz.func61 Tryz.call61 rfl rfl fun x=>by kernel_rfl
def kA (lot_:Int) (p1_:fm):Option (Bool):=
 some (lot_ == p1_.Lot)
noncomputable def k54:=mk 54 [.int,.rf (.st 20)] [.bool] (fun x=>kA x.1 x.2) [] [] Tryz.f54 (.n) Tryz.func54 Tryz.call54 rfl rfl fun x=>by kernel_rfl
def fK (s_:(List bk)) (d_:aJ) (p2_:fm):Option (Bool):=
 (kT s_ p2_.At d_).bind fun x1=>
 some x1
noncomputable def k56:=mk 56 [.list (.st 22),.st 17,.rf (.st 20)] [.bool] (fun x=>fK x.1 x.2.1 x.2.2) [k57] [] Tryz.f56 (.n) Tryz.func56 Tryz.call56 rfl rfl fun x=>by kernel_rfl
def fU (s_:(List bk)) (q_:aJ) (p2_:View):Option (Bool):=
 (fk s_ p2_.Eye q_).bind fun x1=>
 some x1
noncomputable def k59:=mk 59 [.list (.st 22),.st 17,.rf (.st 16)] [.bool] (fun x=>fU x.1 x.2.1 x.2.2) [k60] [] Tryz.f59 (.n) Tryz.func59 Tryz.call59 rfl rfl fun x=>by kernel_rfl
def fW (a_:bf) (p1_:bf):Option (Bool):=
 (cQ a_.af p1_.af).bind fun x1=>
 some x1
noncomputable def k62:=mk 62 [.st 21,.rf (.st 21)] [.bool] (fun x=>fW x.1 x.2) [k63] [] Tryz.f62 (.n) Tryz.func62 Tryz.call62 rfl rfl fun x=>by kernel_rfl
def dM (t_:aq) (s1:Int × aK):Option (aN (Int × aK) (aK × Bool)):=
 if (decide (s1.1 < (t_.Windows.length:Int))) then
  (au t_.Windows s1.1).bind fun x1=>
  (iR t_ (fun y0=>kA y0 x1)).bind fun x2=>
  (lU t_.an.Sun x2 (fun y0 y1=>fK y0 y1 x1)).bind fun x3=>
  if (decide (x3 < t_.an.Hours)) then
   some (.ret ((⟨2,(⟨#[]⟩:ByteArray),s1.1⟩:aK),false))
  else
   (aD s1.1 1).bind fun x4=>
   some (.go (x4,s1.2))
 else
  some (.ex 0 (s1.1,s1.2))
def dK (t_:aq) (x1:(List (List bk))) (s1:Int × aK):Option (aN (Int × aK) (aK × Bool)):=
 if (decide (s1.1 < (t_.an.Views.length:Int))) then
  (au t_.an.Views s1.1).bind fun x2=>
  (lU x2.Targets x1 (fun y0 y1=>fU y0 y1 x2)).bind fun x3=>
  if (decide (x3 < x2.Least)) then
   some (.ret ((⟨3,x2.Name,0⟩:aK),false))
  else
   (aD s1.1 1).bind fun x4=>
   some (.go (x4,s1.2))
 else
  some (.ex 2 (s1.1,s1.2))
def dP (t_:aq) (s1:Int × aK):Option (aN (Int × aK) (aK × Bool)):=
 if (decide (s1.1 < (t_.Built.length:Int))) then
  (au t_.Built s1.1).bind fun x1=>
  (gQ t_.Built 0 s1.1).bind fun x2=>
  (cT x2 (fun y0=>fW y0 x1)).bind fun x3=>
  if x3 then
   some (.ret ((⟨5,(⟨#[]⟩:ByteArray),s1.1⟩:aK),false))
  else
   (aD s1.1 1).bind fun x4=>
   some (.go (x4,s1.2))
 else
  some (.ex 4 (s1.1,s1.2))
def gn (t_:aq):Option (aK × Bool):=
 (ah (dM t_) (t_.Windows.length + 1) (0,(⟨0,(⟨#[]⟩:ByteArray),0⟩:aK))).bind fun f1=>match f1 with
  | .go _=>none
  | .ex _ s1 =>
   (iR t_ kC).bind fun x1=>
   (ah (dK t_ x1) (t_.an.Views.length + 1) (0,s1.2)).bind fun f2=>match f2 with
    | .go _=>none
    | .ex _ s2 =>
     (ah (dP t_) (t_.Built.length + 1) (0,s2.2)).bind fun f3=>match f3 with
      | .go _=>none
      | .ex _ _=>
       some ((⟨0,(⟨#[]⟩:ByteArray),0⟩:aK),true)
      | .ret r1=>some r1
    | .ret r2=>some r2
  | .ret r3=>some r3
noncomputable def k38:=mk 38 [.st 7] [.st 27,.bool] (fun x=>gn x) [k54,k53,k56,k55,k58,k59,k62,k61] [2] Tryz.f38 (.s .n (.s (.s .n (.l [] [(15,.v .int),(2,.b (.st 27))] [(0,[15],[])] (fI 14) .n)) (.s .n (.s (.s .n (.l [] [(42,.v .int),(2,.b (.st 27))] [(2,[42],[])] (fI 41) .n)) (.s (.s .n (.l [] [(61,.v .int),(2,.b (.st 27))] [(4,[61],[])] (fI 60) .n)) .n))))) Tryz.func38 Tryz.call38 rfl rfl fun x=>by kernel_rfl
def cE (x1:ct) (s1:Int × Int):Option (aN (Int × Int) (aK × Bool)):=
 if (decide (s1.2 < (x1.Tops.length:Int))) then
  (au x1.Tops s1.2).bind fun x2=>
  (aD s1.1 x2).bind fun x3=>
  (aD s1.2 1).bind fun x4=>
  some (.go (x3,x4))
 else
  some (.ex 2 (s1.1,s1.2))
def eu (t_:aq) (rights_:(List ax)) (s1:Int × aK):Option (aN (Int × aK) (aK × Bool)):=
 if (decide (s1.1 < (t_.an.Caps.length:Int))) then
  (au t_.an.Caps s1.1).bind fun x1=>
  (od t_ rights_ x1).bind fun x2=>
  (ah (cE x2) (x2.Tops.length + 1) (x2.Base,0)).bind fun f1=>match f1 with
   | .go _=>none
   | .ex _ s2 =>
    if (decide (x1.aK < s2.1)) then
     some (.ret ((⟨1,x1.Name,0⟩:aK),false))
    else
     (aD s1.1 1).bind fun x3=>
     some (.go (x3,s1.2))
   | .ret r1=>some (.ret r1)
 else
  some (.ex 0 (s1.1,s1.2))
def bU (t_:aq) (rights_:(List ax)):Option (aK × Bool):=
 (ah (eu t_ rights_) (t_.an.Caps.length + 1) (0,(⟨0,(⟨#[]⟩:ByteArray),0⟩:aK))).bind fun f1=>match f1 with
  | .go _=>none
  | .ex _ _=>
   (l6 t_ rights_).bind fun x1=>
   (gn x1).bind fun x2=>
   some (x2.1,x2.2)
  | .ret r1=>some r1
noncomputable def k21:=mk 21 [.st 7,.list (.st 30)] [.st 27,.bool] (fun x=>bU x.1 x.2) [k29,k17,k38] [4] Tryz.f21 (.s .n (.s (.s .n (.l [] [(16,.v .int),(4,.b (.st 27))] [(0,[16],[])] (fI 15) (.s .n (.s .n (.s (.s .n (.s .n (.s .n (.s (.s .n (.l [] [(9,.v .int),(29,.v .int)] [(2,[29],[])] (fI 28) .n)) .n)))) .n))))) .n)) Tryz.func21 Tryz.call21 rfl rfl fun x=>by kernel_rfl
theorem vV {k0:K} {v0 v1:Value} {x0:aq} {x1:(List ax)} {r:aK × Bool} (i0:(IsV x0) v0 k0) (i1:(IsV x1) v1 k0) (hr:bU x0 x1 = some r):Calls Tryz.prog 21 #[v0,v1] k0.w (Ret k0 (dv (IsV r.1) (IsV r.2))):=Hj (T:=tb) (k21.ok.ok k0 [v0,v1] (x0,x1) r (GOk.none (fun _=>rfl) fun _ e=>by cases e) ⟨i0,i1⟩ hr)
def dJ (t_:aq) (s1:Int × aK):Option (aN (Int × aK) (aK × Bool)):=
 if (decide (s1.1 < (t_.an.Caps.length:Int))) then
  (au t_.an.Caps s1.1).bind fun x1=>
  (oE t_ x1).bind fun x2=>
  if (decide (x1.aK < x2)) then
   some (.ret ((⟨1,x1.Name,0⟩:aK),false))
  else
   (aD s1.1 1).bind fun x3=>
   some (.go (x3,s1.2))
 else
  some (.ex 0 (s1.1,s1.2))
def dW (t_:aq):Option (aK × Bool):=
 (ah (dJ t_) (t_.an.Caps.length + 1) (0,(⟨0,(⟨#[]⟩:ByteArray),0⟩:aK))).bind fun f1=>match f1 with
  | .go _=>none
  | .ex _ _=>
   (gn t_).bind fun x1=>
   some (x1.1,x1.2)
  | .ret r1=>some r1
noncomputable def k19:=mk 19 [.st 7] [.st 27,.bool] (fun x=>dW x) [k30,k38] [2] Tryz.f19 (.s .n (.s (.s .n (.l [] [(10,.v .int),(2,.b (.st 27))] [(0,[10],[])] (fI 9) .n)) .n)) Tryz.func19 Tryz.call19 rfl rfl fun x=>by kernel_rfl
end Go.Proofs.YtegglcdhfnjhcaaGreat
