/- What the functions compute that the law reaches, part 2 -/
import Derived.Test.YtegglcdhfnjhcaaGreatT1
namespace Go.Proofs.YtegglcdhfnjhcaaGreat
open Go.Gb
set_option linter.unusedVariables false
set_option linter.unusedSimpArgs false
set_option maxRecDepth 100000
def law33_homes (x_:Int) (units_:Int):Option (Volume):=
 (addI x_ 1).bind fun x1=>
 some (⟨(⟨(⟨x_,0,x1,1⟩:Rect),0,3⟩:Box),0,units_,false⟩:Volume)
noncomputable def k32:=mk 32 [.int,.int] [.st 4] (fun x=>law33_homes x.1 x.2) [] [4] Tryz.f32 (.n) Tryz.func32 Tryz.call32 rfl rfl fun x=>by kernel_rfl
def law33_example (units_:Int):Option (Town × (List Right)):=
 (law33_homes 1 60).bind fun x1=>
 (law33_homes 3 units_).bind fun x2=>
 some ((⟨(⟨[],[],[],[],[(⟨(⟨#[99]⟩:ByteArray),0,100,[(⟨0,0⟩:Point),(⟨9,0⟩:Point),(⟨9,9⟩:Point),(⟨0,9⟩:Point)]⟩:Cap)],[],[],0⟩:Plan),[],[],[],[],[]⟩:Town),[(⟨1,0,(⟨0,[(⟨[x1],[]⟩:Phase),(⟨[],[(⟨(⟨#[99]⟩:ByteArray),30⟩:Entry)]⟩:Phase)]⟩:Drawing),0,0,false⟩:Right),(⟨2,0,(⟨1,[(⟨[x2],[]⟩:Phase)]⟩:Drawing),0,0,false⟩:Right)])
noncomputable def k31:=mk 31 [.int] [.st 7,.list (.st 28)] (fun x=>law33_example x) [k32] [2] Tryz.f31 (.n) Tryz.func31 Tryz.call31 rfl rfl fun x=>by kernel_rfl
def cap_Limited (n_:Int):Option (Int):=
 some (min (max n_ (-1099511627776)) 1099511627776)
noncomputable def k35:=mk 35 [.int] [.int] (fun x=>cap_Limited x) [] [] Tryz.f35 (.n) Tryz.func35 Tryz.call35 rfl rfl fun x=>by kernel_rfl
theorem cap_Limited_ok {k0:K} {v0:Value} {x0:Int} {r:Int} (i0:(IsV x0) v0 k0) (hr:cap_Limited x0 = some r):Calls Tryz.prog 35 #[v0] k0.w (Ret k0 (IsV r)):=(k35.ok.ok k0 [v0] x0 r (GOk.none (fun _=>rfl) fun _ e=>by cases e) i0 hr)
def cap_named_L0 (l_:(List Entry)) (c_:Cap) (s1:Int × Int):Option (Flow (Int × Int) (Int)):=
 if (decide (s1.2 < (l_.length:Int))) then
  (getI l_ s1.2).bind fun x1=>
  (if ((x1.Name.toList == c_.Name.toList)) then
   (cap_Limited x1.N).bind fun x2=>
   (addI s1.1 x2).bind fun x3=>
   some x3
  else
   some s1.1).bind fun s2=>
  (addI s1.2 1).bind fun x4=>
  some (.go (s2,x4))
 else
  some (.ex 0 (s1.1,s1.2))
def cap_named (l_:(List Entry)) (c_:Cap):Option (Int):=
 (iterL (cap_named_L0 l_ c_) (l_.length + 1) (0,0)).bind fun f1=>match f1 with
  | .go _=>none
  | .ex _ s1=>
   some s1.1
  | .ret r1=>some r1
noncomputable def k50:=mk 50 [.list (.st 6),.st 15] [.int] (fun x=>cap_named x.1 x.2) [k35] [] Tryz.f50 (.s .n (.s .n (.s (.s .n (.l [] [(5,.v .int),(10,.v .int)] [(0,[10],[])] (fI 9) (.s .n (.s .n (.s (.s .n (.s .n (.j [] [(5,.v .int)] ([],[]) (.s .n .n)))) .n))))) .n))) Tryz.func50 Tryz.call50 rfl rfl fun x=>by kernel_rfl
def rect_Right (r_:Rect):Option (Bool):=
 some ((((((decide (0 ≤ r_.X0)) && (decide (r_.X0 < r_.X1))) && (decide (r_.X1 ≤ 1048576))) && (decide (0 ≤ r_.Y0))) && (decide (r_.Y0 < r_.Y1))) && (decide (r_.Y1 ≤ 1048576)))
noncomputable def k99:=mk 99 [.st 2] [.bool] (fun x=>rect_Right x) [] [] Tryz.f99 (.n) Tryz.func99 Tryz.call99 rfl rfl fun x=>by kernel_rfl
def drawing_RightVolume (v_:Volume):Option (Bool):=
 (rect_Right v_.Box.Base).bind fun x1=>
 if ((((!x1) || (decide (v_.Box.Z0 < 0))) || (decide (v_.Box.Z1 ≤ v_.Box.Z0))) || (decide (4096 < v_.Box.Z1))) then
  some false
 else
  if ((v_.Use != 0) && (v_.Units != 0)) then
   some false
  else
   some ((((decide (0 ≤ v_.Use)) && (decide (v_.Use < 6))) && (decide (0 ≤ v_.Units))) && (decide (v_.Units ≤ 1048576)))
noncomputable def k75:=mk 75 [.st 4] [.bool] (fun x=>drawing_RightVolume x) [k99] [] Tryz.f75 (.n) Tryz.func75 Tryz.call75 rfl rfl fun x=>by kernel_rfl
def polygon_around_L0 (p_:(List Point)) (s1:(List PolygonSide) × Int):Option (Flow ((List PolygonSide) × Int) ((List PolygonSide))):=
 if (decide (s1.2 < (p_.length:Int))) then
  (getI p_ s1.2).bind fun x1=>
  (addI s1.2 1).bind fun x2=>
  (remI x2 (p_.length:Int)).bind fun x3=>
  (getI p_ x3).bind fun x4=>
  (getI s1.1 s1.2).bind fun x5=>
  (some (s1.1.set (s1.2).toNat (⟨x1,x4⟩:PolygonSide))).bind fun x6=>
  (addI s1.2 1).bind fun x7=>
  some (.go (x6,x7))
 else
  some (.ex 0 (s1.1,s1.2))
def polygon_around (p_:(List Point)):Option ((List PolygonSide)):=
 (makeI (p_.length:Int) (⟨(⟨0,0⟩:Point),(⟨0,0⟩:Point)⟩:PolygonSide)).bind fun x1=>
 (iterL (polygon_around_L0 p_) (p_.length + 1) (x1,0)).bind fun f1=>match f1 with
  | .go _=>none
  | .ex _ s1=>
   some s1.1
  | .ret r1=>some r1
noncomputable def k103:=mk 103 [.list (.st 1)] [.list (.st 0)] (fun x=>polygon_around x) [] [3,7] Tryz.f103 (.s .n (.s .n (.s (.s .n (.l [] [(3,.o 155 (.st 0)),(10,.v .int)] [(0,[10],[])] (fI 9) .n)) (.s (.f [3] .n) .n)))) Tryz.func103 Tryz.call103 rfl rfl fun x=>by kernel_rfl
theorem polygon_around_ok {k0:K} {v0:Value} {x0:(List Point)} {r:(List PolygonSide)} (i0:(IsV x0) v0 k0) (hr:polygon_around x0 = some r):Calls Tryz.prog 103 #[v0] k0.w (Ret k0 (IsV r)):=(k103.ok.ok k0 [v0] x0 r (GOk.none (fun _=>rfl) fun _ e=>by cases e) i0 hr)
def polygon_onGrid (p_:Point):Option (Bool):=
 some ((((decide (0 ≤ p_.X)) && (decide (p_.X ≤ 1048576))) && (decide (0 ≤ p_.Y))) && (decide (p_.Y ≤ 1048576)))
noncomputable def k128:=mk 128 [.st 1] [.bool] (fun x=>polygon_onGrid x) [] [] Tryz.f128 (.n) Tryz.func128 Tryz.call128 rfl rfl fun x=>by kernel_rfl
def polygon_side_upright (s_:PolygonSide):Option (Bool):=
 some (s_.a.X == s_.b.X)
noncomputable def k104:=mk 104 [.st 0] [.bool] (fun x=>polygon_side_upright x) [] [] Tryz.f104 (.n) Tryz.func104 Tryz.call104 rfl rfl fun x=>by kernel_rfl
theorem polygon_side_upright_ok {k0:K} {v0:Value} {x0:PolygonSide} {r:Bool} (i0:(IsV x0) v0 k0) (hr:polygon_side_upright x0 = some r):Calls Tryz.prog 104 #[v0] k0.w (Ret k0 (IsV r)):=(k104.ok.ok k0 [v0] x0 r (GOk.none (fun _=>rfl) fun _ e=>by cases e) i0 hr)
def cmp_isNaN_int (x_:Int):Option (Bool):=
 some (x_ != x_)
noncomputable def k167:=mk 167 [.int] [.bool] (fun x=>cmp_isNaN_int x) [] [] Tryz.f167 (.n) Tryz.func167 Tryz.call167 rfl rfl fun x=>by kernel_rfl
def cmp_Compare_int (x_:Int) (y_:Int):Option (Int):=
 (cmp_isNaN_int x_).bind fun x1=>
 (cmp_isNaN_int y_).bind fun x2=>
 if x1 then
  if x2 then
   some 0
  else
   some (-1)
 else
  if x2 then
   some 1
  else
   if (decide (x_ < y_)) then
    some (-1)
   else
    if (decide (y_ < x_)) then
     some 1
    else
     some 0
noncomputable def k150:=mk 150 [.int,.int] [.int] (fun x=>cmp_Compare_int x.1 x.2) [k167] [] Tryz.f150 (.n) Tryz.func150 Tryz.call150 rfl rfl fun x=>by kernel_rfl
def cmp_Or_int_L0 (vals_:(List Int)) (s1:Int):Option (Flow (Int) (Int)):=
 if (decide (s1 < (vals_.length:Int))) then
  (getI vals_ s1).bind fun x1=>
  if (x1 != 0) then
   some (.ret x1)
  else
   (addI s1 1).bind fun x2=>
   some (.go x2)
 else
  some (.ex 0 s1)
def cmp_Or_int (vals_:(List Int)):Option (Int):=
 (iterL (cmp_Or_int_L0 vals_) (vals_.length + 1) 0).bind fun f1=>match f1 with
  | .go _=>none
  | .ex _ _=>
   some 0
  | .ret r1=>some r1
noncomputable def k149:=mk 149 [.list .int] [.int] (fun x=>cmp_Or_int x) [] [] Tryz.f149 (.s .n (.s .n (.s (.s .n (.l [] [(8,.v .int)] [(0,[8],[])] (fI 7) .n)) .n))) Tryz.func149 Tryz.call149 rfl rfl fun x=>by kernel_rfl
def polygon_compare (a_:Point) (b_:Point):Option (Int):=
 (cmp_Compare_int a_.X b_.X).bind fun x1=>
 (cmp_Compare_int a_.Y b_.Y).bind fun x2=>
 (cmp_Or_int ([x1,x2])).bind fun x3=>
 some x3
noncomputable def k129:=mk 129 [.st 1,.st 1] [.int] (fun x=>polygon_compare x.1 x.2) [k150,k149] [] Tryz.f129 (.n) Tryz.func129 Tryz.call129 rfl rfl fun x=>by kernel_rfl
def polygon_side_crosses (s_:PolygonSide) (t_:PolygonSide):Option (Bool):=
 some ((decide ((max (min s_.a.X s_.b.X) (min t_.a.X t_.b.X)) ≤ (min (max s_.a.X s_.b.X) (max t_.a.X t_.b.X)))) && (decide ((max (min s_.a.Y s_.b.Y) (min t_.a.Y t_.b.Y)) ≤ (min (max s_.a.Y s_.b.Y) (max t_.a.Y t_.b.Y)))))
noncomputable def k130:=mk 130 [.st 0,.st 0] [.bool] (fun x=>polygon_side_crosses x.1 x.2) [] [] Tryz.f130 (.n) Tryz.func130 Tryz.call130 rfl rfl fun x=>by kernel_rfl
def polygon_Right_L0 (p_:(List Point)) (x1:(List PolygonSide)) (s1:Int):Option (Flow (Int) (Bool)):=
 if (decide (s1 < (x1.length:Int))) then
  (getI x1 s1).bind fun x2=>
  (addI s1 1).bind fun x3=>
  (remI x3 (x1.length:Int)).bind fun x4=>
  (getI x1 x4).bind fun x5=>
  (polygon_onGrid x2.a).bind fun x6=>
  (if ((!x6) || ((x2.a.X == x2.b.X) == (x2.a.Y == x2.b.Y))) then
   some true
  else
   (polygon_side_upright x2).bind fun x7=>
   (polygon_side_upright x5).bind fun x8=>
   some (x7 == x8)).bind fun x9=>
  if x9 then
   some (.ret false)
  else
   (if (decide (0 < s1)) then
    (getI p_ 0).bind fun x10=>
    (getI p_ s1).bind fun x11=>
    (polygon_compare x10 x11).bind fun x12=>
    some (decide (0 ≤ x12))
   else
    some false).bind fun x13=>
   if x13 then
    some (.ret false)
   else
    (addI s1 1).bind fun x14=>
    some (.go x14)
 else
  some (.ex 0 s1)
def polygon_Right_L2 (x1:(List PolygonSide)) (s1:Int) (s2:Int):Option (Flow (Int) (Bool)):=
 if (decide (s2 < (x1.length:Int))) then
  (addI s1 (x1.length:Int)).bind fun x2=>
  (subI x2 s2).bind fun x3=>
  (if (decide (1 < x3)) then
   (getI x1 s1).bind fun x4=>
   (getI x1 s2).bind fun x5=>
   (polygon_side_crosses x4 x5).bind fun x6=>
   some x6
  else
   some false).bind fun x7=>
  if x7 then
   some (.ret false)
  else
   (addI s2 1).bind fun x8=>
   some (.go x8)
 else
  some (.ex 4 s2)
def polygon_Right_L1 (x1:(List PolygonSide)) (s1:Int):Option (Flow (Int) (Bool)):=
 if (decide (s1 < (x1.length:Int))) then
  (addI s1 2).bind fun x2=>
  (iterL (polygon_Right_L2 x1 s1) (x1.length + 1) x2).bind fun f1=>match f1 with
   | .go _=>none
   | .ex _ _=>
    (addI s1 1).bind fun x3=>
    some (.go x3)
   | .ret r1=>some (.ret r1)
 else
  some (.ex 2 s1)
def polygon_Right (p_:(List Point)):Option (Bool):=
 if ((decide ((p_.length:Int) < 4)) || (decide (60 < (p_.length:Int)))) then
  some false
 else
  (polygon_around p_).bind fun x1=>
  (iterL (polygon_Right_L0 p_ x1) (x1.length + 1) 0).bind fun f1=>match f1 with
   | .go _=>none
   | .ex _ _ =>
    (iterL (polygon_Right_L1 x1) (x1.length + 1) 0).bind fun f2=>match f2 with
     | .go _=>none
     | .ex _ _=>
      (getI x1 0).bind fun x2=>
      (polygon_side_upright x2).bind fun x3=>
      some (!x3)
     | .ret r1=>some r1
   | .ret r2=>some r2
noncomputable def k100:=mk 100 [.list (.st 1)] [.bool] (fun x=>polygon_Right x) [k103,k128,k104,k129,k130] [] Tryz.f100 (.s .n (.s .n (.s .n (.s (.s .n (.l [] [(21,.v .int)] [(0,[21],[])] (fI 20) .n)) (.s (.s .n (.l [] [(78,.v .int)] [(2,[78],[])] (fI 77) (.s .n (.s .n (.s (.s .n (.s .n (.l [] [(8,.v .int)] [(4,[8],[])] (fL [3]) .n))) .n))))) .n))))) Tryz.func100 Tryz.call100 rfl rfl fun x=>by kernel_rfl
theorem polygon_Right_ok {k0:K} {v0:Value} {x0:(List Point)} {r:Bool} (i0:(IsV x0) v0 k0) (hr:polygon_Right x0 = some r):Calls Tryz.prog 100 #[v0] k0.w (Ret k0 (IsV r)):=(k100.ok.ok k0 [v0] x0 r (GOk.none (fun _=>rfl) fun _ e=>by cases e) i0 hr)
section
open Go.Proofs Go.RowKit Go.Lib Go.Sort Go.Shelf
def Tryz.sortIntsL_ren:Go.Shelf.Ren:=⟨fun | 189=>101 | 125=>132 | 257=>131 | 128=>160 | 129=>161 | 294=>151 | 295=>152 | 296=>153 | 297=>154 | 298=>155 | 299=>156 | 216=>157 | 300=>158 | 301=>159 | 328=>168 | 329=>169 | 330=>170 | 331=>171 | 332=>172 | 215=>167 | 343=>177 | n=>n,fun | 28=>67 | 3=>3 | 46=>179 | 0=>0 | 51=>207 | 53=>209 | 4=>4 | 183=>199 | 182=>198 | 131=>204 | 5=>5 | 9=>9 | 218=>214 | 222=>218 | 228=>221 | 229=>222 | n=>n,fun | n=>n⟩
theorem Tryz.sortIntsL:Go.Proofs.Lays.n189 Tryz.prog Tryz.sortIntsL_ren:={
 mixed:=by kernel_rfl,
 f125:=Tryz.func132.trans (congrArg some (by kernel_rfl)),
 f128:=Tryz.func160.trans (congrArg some (by kernel_rfl)),
 f129:=Tryz.func161.trans (congrArg some (by kernel_rfl)),
 f189:=Tryz.func101.trans (congrArg some (by kernel_rfl)),
 f215:=Tryz.func167.trans (congrArg some (by kernel_rfl)),
 f216:=Tryz.func157.trans (congrArg some (by kernel_rfl)),
 f257:=Tryz.func131.trans (congrArg some (by kernel_rfl)),
 f294:=Tryz.func151.trans (congrArg some (by kernel_rfl)),
 f295:=Tryz.func152.trans (congrArg some (by kernel_rfl)),
 f296:=Tryz.func153.trans (congrArg some (by kernel_rfl)),
 f297:=Tryz.func154.trans (congrArg some (by kernel_rfl)),
 f298:=Tryz.func155.trans (congrArg some (by kernel_rfl)),
 f299:=Tryz.func156.trans (congrArg some (by kernel_rfl)),
 f300:=Tryz.func158.trans (congrArg some (by kernel_rfl)),
 f301:=Tryz.func159.trans (congrArg some (by kernel_rfl)),
 f328:=Tryz.func168.trans (congrArg some (by kernel_rfl)),
 f329:=Tryz.func169.trans (congrArg some (by kernel_rfl)),
 f330:=Tryz.func170.trans (congrArg some (by kernel_rfl)),
 f331:=Tryz.func171.trans (congrArg some (by kernel_rfl)),
 f332:=Tryz.func172.trans (congrArg some (by kernel_rfl)),
 f343:=Tryz.func177.trans (congrArg some (by kernel_rfl)),
 t0:=Tryz.underlying0,
 a0:=Tryz.isAgg0,
 z0:=Tryz.sizeOf0,
 v0:=Tryz.zeroValue0,
 t3:=Tryz.underlying3,
 a3:=Tryz.isAgg3,
 z3:=Tryz.sizeOf3,
 v3:=Tryz.zeroValue3,
 t4:=Tryz.underlying4,
 a4:=Tryz.isAgg4,
 z4:=Tryz.sizeOf4,
 v4:=Tryz.zeroValue4,
 t5:=Tryz.underlying5,
 a5:=Tryz.isAgg5,
 z5:=Tryz.sizeOf5,
 v5:=Tryz.zeroValue5,
 t9:=Tryz.underlying9,
 a9:=Tryz.isAgg9,
 z9:=Tryz.sizeOf9,
 v9:=Tryz.zeroValue9,
 t28:=Tryz.underlying67,
 a28:=Tryz.isAgg67,
 z28:=Tryz.sizeOf67,
 v28:=Tryz.zeroValue67,
 t46:=Tryz.underlying179,
 a46:=Tryz.isAgg179,
 z46:=Tryz.sizeOf179,
 v46:=Tryz.zeroValue179,
 t51:=Tryz.underlying207,
 a51:=Tryz.isAgg207,
 z51:=Tryz.sizeOf207,
 v51:=Tryz.zeroValue207,
 t53:=Tryz.underlying209,
 a53:=Tryz.isAgg209,
 z53:=Tryz.sizeOf209,
 v53:=Tryz.zeroValue209,
 t131:=Tryz.underlying204,
 a131:=Tryz.isAgg204,
 z131:=Tryz.sizeOf204,
 v131:=Tryz.zeroValue204,
 t182:=Tryz.underlying198,
 a182:=Tryz.isAgg198,
 z182:=Tryz.sizeOf198,
 v182:=Tryz.zeroValue198,
 t183:=Tryz.underlying199,
 a183:=Tryz.isAgg199,
 z183:=Tryz.sizeOf199,
 v183:=Tryz.zeroValue199,
 t218:=Tryz.underlying214,
 a218:=Tryz.isAgg214,
 z218:=Tryz.sizeOf214,
 v218:=Tryz.zeroValue214,
 t222:=Tryz.underlying218,
 a222:=Tryz.isAgg218,
 z222:=Tryz.sizeOf218,
 v222:=Tryz.zeroValue218,
 t228:=Tryz.underlying221,
 a228:=Tryz.isAgg221,
 z228:=Tryz.sizeOf221,
 v228:=Tryz.zeroValue221,
 t229:=Tryz.underlying222,
 a229:=Tryz.isAgg222,
 z229:=Tryz.sizeOf222,
 v229:=Tryz.zeroValue222 }
theorem sortInts_ok {k0:K} {v0:Value} {l r:List Int} (i0:IsOwn 0 3 l v0 k0) (hr:sortInts l = some r):Calls Tryz.prog 101 #[v0] k0.w (RetC (obF v0) k0 fun _ k'=>IsOwn 0 3 r v0 k'):=by
 unfold sortInts at hr
 split at hr
 ·rename_i hl
  obtain rfl:=Option.some.inj hr
  refine sortI_own (S:=fun l=>l.mergeSort fun x y=>decide (x ≤ y)) (List.length_mergeSort _) (fun p cap w=>?_) (fun blk off cap w hH hblk=>?_) i0
  ·have hcon:=Any.slices_Sort_int_none Tryz.sortIntsL p cap w
   change Calls Tryz.prog 101 _ _ _ at hcon
   exact hcon
  ·have hcon:=Any.slices_Sort_int Tryz.sortIntsL blk off cap l w hH hblk (by omega)
   change Calls Tryz.prog 101 _ _ _ at hcon
   exact hcon
 ·simp at hr
end
section
open Go.Proofs Go.RowKit Go.Lib Go.Sort Go.Shelf
def Tryz.compactL_ren:Go.Shelf.Ren:=⟨fun | 20=>102 | n=>n,fun | 22=>67 | 3=>3 | 4=>4 | 0=>0 | n=>n,fun | n=>n⟩
theorem Tryz.compactL:Go.Proofs.Lays2.n20 Tryz.prog Tryz.compactL_ren:={
 mixed:=by kernel_rfl,
 f20:=Tryz.func102.trans (congrArg some (by kernel_rfl)),
 t0:=Tryz.underlying0,
 a0:=Tryz.isAgg0,
 z0:=Tryz.sizeOf0,
 v0:=Tryz.zeroValue0,
 t3:=Tryz.underlying3,
 a3:=Tryz.isAgg3,
 z3:=Tryz.sizeOf3,
 v3:=Tryz.zeroValue3,
 t4:=Tryz.underlying4,
 a4:=Tryz.isAgg4,
 z4:=Tryz.sizeOf4,
 v4:=Tryz.zeroValue4,
 t22:=Tryz.underlying67,
 a22:=Tryz.isAgg67,
 z22:=Tryz.sizeOf67,
 v22:=Tryz.zeroValue67,
 i3:=by kernel_rfl }
theorem compactInts_ok {k0:K} {v0:Value} {l r:List Int} (i0:IsOwn 0 3 l v0 k0) (hr:compactInts l = some r):Calls Tryz.prog 102 #[v0] k0.w (RetC (obF v0) k0 (IsOwnW v0 k0 3 r)):=by
 unfold compactInts at hr
 split at hr
 ·rename_i hl
  obtain rfl:=Option.some.inj hr
  refine compactI_own compact_length hl (fun p cap w=>?_) (fun blk off cap w hH hc=>?_) i0
  ·have hcon:=Any.slices_Compact_int_empty Tryz.compactL p cap w
   change Calls Tryz.prog 102 _ _ _ at hcon
   exact hcon
  ·have hcon:=Any.slices_Compact_int Tryz.compactL blk off cap l w hH (by omega) hc
   change Calls Tryz.prog 102 _ _ _ at hcon
   exact hcon
 ·simp at hr
end
def polygon_Region_L0 (p_:(List Point)) (s1:(List Int) × Int):Option (Flow ((List Int) × Int) ((List Rect) × Int)):=
 if (decide (s1.2 < (p_.length:Int))) then
  (getI p_ s1.2).bind fun x1=>
  (appI s1.1 ([x1.X])).bind fun x2=>
  (addI s1.2 1).bind fun x3=>
  some (.go (x2,x3))
 else
  some (.ex 0 (s1.1,s1.2))
def polygon_Region_L2 (x1:(List Int)) (x2:(List PolygonSide)) (s1:(List Rect) × Int) (s2:(List Int) × Int):Option (Flow ((List Int) × Int) ((List Rect) × Int)):=
 if (decide (s2.2 < (x2.length:Int))) then
  (getI x2 s2.2).bind fun x3=>
  (polygon_side_upright x3).bind fun x4=>
  (if (!x4) then
   (getI x1 s1.2).bind fun x5=>
   some (decide ((min x3.a.X x3.b.X) ≤ x5))
  else
   some false).bind fun x6=>
  (if x6 then
   (getI x1 s1.2).bind fun x7=>
   some (decide (x7 < (max x3.a.X x3.b.X)))
  else
   some false).bind fun x8=>
  (if x8 then
   (appI s2.1 ([x3.a.Y])).bind fun x9=>
   some x9
  else
   some s2.1).bind fun s3=>
  (addI s2.2 1).bind fun x10=>
  some (.go (s3,x10))
 else
  some (.ex 4 (s2.1,s2.2))
def polygon_Region_L3 (x1:(List Int)) (s1:(List Rect) × Int) (x2:(List Int)) (s2:(List Rect) × Int):Option (Flow ((List Rect) × Int) ((List Rect) × Int)):=
 (addI s2.2 1).bind fun x3=>
 if (decide (x3 < (x2.length:Int))) then
  (getI x1 s1.2).bind fun x4=>
  (getI x2 s2.2).bind fun x5=>
  (addI s1.2 1).bind fun x6=>
  (getI x1 x6).bind fun x7=>
  (addI s2.2 1).bind fun x8=>
  (getI x2 x8).bind fun x9=>
  (appI s2.1 ([(⟨x4,x5,x7,x9⟩:Rect)])).bind fun x10=>
  (addI s2.2 2).bind fun x11=>
  some (.go (x10,x11))
 else
  some (.ex 6 (s2.1,s2.2))
def polygon_Region_L1 (x1:(List Int)) (x2:(List PolygonSide)) (x3:Int) (s1:(List Rect) × Int):Option (Flow ((List Rect) × Int) ((List Rect) × Int)):=
 if (decide (s1.2 < x3)) then
  (iterL (polygon_Region_L2 x1 x2 s1) (x2.length + 1) (([]:List Int),0)).bind fun f1=>match f1 with
   | .go _=>none
   | .ex _ s2 =>
    (sortInts s2.1).bind fun x4=>
    (iterL (polygon_Region_L3 x1 s1 x4) (x1.length + x2.length + s1.1.length + x4.length + 1) (s1.1,0)).bind fun f2=>match f2 with
     | .go _=>none
     | .ex _ s3=>
      (addI s1.2 1).bind fun x5=>
      some (.go (s3.1,x5))
     | .ret r1=>some (.ret r1)
   | .ret r2=>some (.ret r2)
 else
  some (.ex 2 (s1.1,s1.2))
def polygon_Region (p_:(List Point)):Option ((List Rect) × Int):=
 (polygon_Right p_).bind fun x1=>
 if (!x1) then
  some (([]:List Rect),10)
 else
  (iterL (polygon_Region_L0 p_) (p_.length + 1) (([]:List Int),0)).bind fun f1=>match f1 with
   | .go _=>none
   | .ex _ s1 =>
    (sortInts s1.1).bind fun x2=>
    (compactInts x2).bind fun x3=>
    (polygon_around p_).bind fun x4=>
    (subI (x3.length:Int) 1).bind fun x5=>
    (iterL (polygon_Region_L1 x3 x4 x5) (x5.toNat + 1) (([]:List Rect),0)).bind fun f2=>match f2 with
     | .go _=>none
     | .ex _ s2 =>
      if (decide (200 < (s2.1.length:Int))) then
       some (([]:List Rect),6)
      else
       some (s2.1,0)
     | .ret r1=>some r1
   | .ret r2=>some r2
theorem polygon_Region_ok {k0:K} {v0:Value} {p_:(List Point)} {r:(List Rect) × Int} (i0:(IsV p_) v0 k0) (hr:polygon_Region p_ = some r) :
  Calls Tryz.prog 76 #[v0] k0.w (Ret k0 (IsTup2 (IsV r.1) (IsV r.2))):=by
 unfold polygon_Region at hr
 refine Ret.ofC ?_
 refine enterK Tryz.func76 rfl Tryz.ntmps76 (show 1 ≤ 121 by decide) fun a k hk0 hs hd ha=>?_
 obtain ⟨e0,_⟩:=ha
 replace i0:(IsV p_) (a.get 0) k:=by rw [e0,hk0]; exact i0
 have hQ:Gb.LetsOut (bodyPost Tryz.prog Tryz.f76 (RetC noF k0 (IsTup2 (IsV r.1) (IsV r.2)))):=letsOutC
 have hg:Chg noF k0 k:=by rw [hk0]; exact Chg.refl _ k0
 refine stepL 2 (⟨some IsE0,[]⟩::⟨some (IsI 0),[]⟩::[]) rfl ⟨hg,hs,hd⟩ (by kernel_rfl) ⟨ob1 rfl fun b q h n=>ok_assign rfl isE0_nil,aI rfl rfl,trivial⟩ [⟨_,_⟩] (fun b q p=>⟨p.ke 0 rfl i0,trivial⟩) ?_
 rintro a k ⟨⟨hg,hs,hd⟩,i0,_⟩
 refine wp_seq ?_
 refine wp_seq ?_
 obtain ⟨x1,hx1,hr⟩:=bind_some hr
 refine cut (fun a' k'=>Bs noF k0 121 a' k'∧(IsV p_) (a'.get 0) k'∧(IsV (!x1)) (a'.get 16) k'∧True) ?_ hQ ?_
 ·intro Q1 W1 w1
  refine gS 3 (_::_::_::[]) hs (by kernel_rfl) ⟨mu rfl i0,o1 [(14,some 0)] rfl fun _ _ h n=>ok_call rfl Tryz.call100 (polygon_Right_ok n.1 hx1),o1 [(15,some 1)] rfl fun _ _ h n=>ok_not rfl n.1,trivial⟩ W1 fun b q p=>?_
  exact tail_done (k:=q) (w1 _ _ ⟨Bs.post ⟨hg,hs,hd⟩ p,p.ke 0 rfl i0,p.ou 2 16 rfl,trivial⟩)
 rintro a k ⟨⟨hg,hs,hd⟩,i0,i16,_⟩
 refine wp_cond_split (isBool i16) (fun hc481=>?_) (fun hc481=>?_)
 ·rw [if_pos hc481] at hr
  refine cutL noF k0 121 [⟨2,IsV ([]:List Rect)⟩,⟨3,IsI 10⟩] ?_ ?_
  ·intro Q2 W2 w2
   refine gS 2 (⟨some IsE0,[]⟩::⟨some (IsI 10),[]⟩::[]) hs (by kernel_rfl) ⟨ob1 rfl fun b q h n=>ok_assign rfl isE0_nil,aI rfl rfl,trivial⟩ W2 fun b q p=>?_
   have hgq:=hg.then p.grow
   have hsb:=p.size.trans hs
   have hdb:=p.defers.trans hd
   have j2:IsE0 (b.get 2) q:=p.ou 0 2 rfl
   have j3:(IsI 10) (b.get 3) q:=p.ou 1 3 rfl
   replace j2:IsV ([]:List Rect) (b.get 2) q:=j2.isV
   exact tail_done (k:=q) (w2 _ _ ⟨⟨hgq,hsb,hdb⟩,j2,j3,trivial⟩)
  rintro a k ⟨⟨hg,hs,hd⟩,i2,i3,_⟩
  refine wp_ret ?_
  obtain rfl:=Option.some.inj hr
  exact retC2 rfl hd hg i2 i3
 rw [if_neg (by rw [hc481]; decide)] at hr
 refine wp_skip ?_
 refine cutS (fun c l=>Bs noF k0 121 c l∧IsV p_ (c.get 0) l∧IsOwn 0 3 ([]:List Int) (c.get 4) l∧Lo k0 (obF (c.get 4))∧True) ?_ ?_
 ·intro Q3 W3 w3
  refine gS 1 (⟨some IsE0,[]⟩::[]) hs (by kernel_rfl) ⟨ob1 rfl fun b q h n=>ok_assign rfl isE0_nil,trivial⟩ W3 fun b q p=>?_
  have hgq:=hg.then p.grow
  have hsb:=p.size.trans hs
  have hdb:=p.defers.trans hd
  have j0:=p.ke 0 rfl i0
  have j4:IsE0 (b.get 4) q:=p.ou 0 4 rfl
  have y4:Lo k0 (obF (b.get 4)):=j4.lo
  replace j4:IsOwn 0 3 ([]:List Int) (b.get 4) q:=j4.own0
  exact tail_done (k:=q) (w3 _ _ ⟨⟨hgq,hsb,hdb⟩,j0,j4,y4,trivial⟩)
 rintro a k ⟨⟨hg,hs,hd⟩,i0,i4,n4,_⟩
 refine wp_seq ?_
 refine cutS (fun c l=>Bs noF k0 121 c l∧IsV p_ (c.get 0) l∧IsOwn 0 3 ([]:List Int) (c.get 4) l∧Lo k0 (obF (c.get 4))∧IsV p_ (c.get 17) l∧IsL p_ (c.get 18) l∧IsI 0 (c.get 19) l∧True) ?_ ?_
 ·intro Q4 W4 w4
  refine gS 3 (_::_::⟨some (IsI 0),[]⟩::[]) hs (by kernel_rfl) ⟨mu rfl i0,o1 [(17,some 0)] rfl fun _ _ h n=>ok_len rfl rfl Tryz.underlying69 (IsV.rd n.1),ob1 rfl fun _ _ h n=>ok_move rfl (cI rfl),trivial⟩ W4 fun b q p=>?_
  exact tail_done (k:=q) (w4 _ _ ⟨Bs.post ⟨hg,hs,hd⟩ p,p.ke 0 rfl i0,p.ke 4 rfl i4,(by rw [p.old 4 rfl]; exact n4),p.ou 0 17 rfl,p.ou 1 18 rfl,p.ou 2 19 rfl,trivial⟩)
 rintro a k ⟨⟨hg,hs,hd⟩,i0,i4,n4,i17,i18,i19,_⟩
 refine wp_block ?_
 obtain ⟨f1,hf1,hr⟩:=bind_some hr
 refine cutFe f1 (fun s' c l=>Bs noF k0 121 c l∧IsV p_ (c.get 0) l∧IsOwn 0 3 s'.1 (c.get 4) l∧Lo k0 (obF (c.get 4))∧IsV p_ (c.get 17) l∧IsL p_ (c.get 18) l∧IsV s'.2 (c.get 19) l∧True) (fun i' s' c l=>(i' = 0∧Bs noF k0 121 c l∧IsV p_ (c.get 0) l∧IsOwn 0 3 s'.1 (c.get 4) l∧Lo k0 (obF (c.get 4))∧True)) (fun r' c l=>bodyPost Tryz.prog Tryz.f76 (RetC noF k0 (IsTup2 (IsV r'.1) (IsV r'.2))) .ret c l.w) ?_ hQ ?_ ?_ ?_
 ·intro Q5 W5 hgo hex hret
  refine sim_loop ?_ _ _ _ _ _ hf1 ⟨⟨hg,hs,hd⟩,i0,i4,n4,i17,i18,i19,trivial⟩ Q5 W5 hgo hex hret
  clear hr hf1 hgo hex hret W5 hQ hg hs hd i0 i17 i18 i19 i4 n4
  intro s1 fl_ a k hr hS Q hQ hgo353 hex354 hret355
  obtain ⟨⟨hg,hs,hd⟩,i0,i4,n4,i17,i18,i19,_⟩:=hS
  unfold polygon_Region_L0 at hr
  refine cutS (fun c l=>Bs noF k0 121 c l∧IsV p_ (c.get 0) l∧IsOwn 0 3 s1.1 (c.get 4) l∧Lo k0 (obF (c.get 4))∧IsV p_ (c.get 17) l∧IsL p_ (c.get 18) l∧IsV s1.2 (c.get 19) l∧(IsV (decide (s1.2 < (p_.length:Int)))) (c.get 20) l∧True) ?_ ?_
  ·intro Q6 W6 w5
   refine gS 1 (_::[]) hs (by kernel_rfl) ⟨o1 [(19,none),(18,none)] rfl fun _ _ h n=>ok_lss rfl (up i19 h n.1) (up i18 h n.2.1),trivial⟩ W6 fun b q p=>?_
   exact tail_done (k:=q) (w5 _ _ ⟨Bs.post ⟨hg,hs,hd⟩ p,p.ke 0 rfl i0,p.ke 4 rfl i4,(by rw [p.old 4 rfl]; exact n4),p.ke 17 rfl i17,p.ke 18 rfl i18,p.ke 19 rfl i19,p.ou 0 20 rfl,trivial⟩)
  rintro a k ⟨⟨hg,hs,hd⟩,i0,i4,n4,i17,i18,i19,i20,_⟩
  refine wp_seq ?_
  refine wp_cond_split (isBool i20) (fun hc366=>?_) (fun hc366=>?_)
  ·rw [if_pos hc366] at hr
   refine wp_skip ?_
   refine wp_seq ?_
   refine wp_block ?_
   refine wp_seq ?_
   obtain ⟨x2,hx2,hr⟩:=bind_some hr
   refine cut (fun a' k'=>Bs noF k0 121 a' k'∧(IsV p_) (a'.get 0) k'∧IsOwn 0 3 s1.1 (a'.get 4) k'∧Lo k0 (obF (a'.get 4))∧(IsRef x2) (a'.get 6) k'∧(IsV p_) (a'.get 17) k'∧(IsL p_) (a'.get 18) k'∧(IsV s1.2) (a'.get 19) k'∧True) ?_ hQ ?_
   ·intro Q7 W7 w6
    refine gS 3 (_::_::⟨some (IsBox k.w.heap.size (⟨0,0⟩:Point)),[]⟩::[]) hs (by kernel_rfl) ⟨o1 [(17,none),(19,none)] rfl fun _ _ h n=>ok_indexAddr rfl Tryz.underlying69 ty112 (IsV.rd (up i17 h n.1)) (up i19 h n.2.1) hx2,o1 [(21,some 0)] rfl fun _ _ h n=>ok_load rfl ty112 n.1,ob1 rfl fun _ _ h n=>ok_alloc _ h.size rfl z112,trivial⟩ W7 fun b q p=>?_
    have hgq:=hg.then p.grow
    have hsb:=p.size.trans hs
    have hdb:=p.defers.trans hd
    have j0:=p.ke 0 rfl i0
    have j4:=p.ke 4 rfl i4
    have y4:Lo k0 (obF (b.get 4)):=by rw [p.old 4 rfl]; exact n4
    obtain ⟨b6,j6,x6,z6⟩:(IsBox k.w.heap.size (⟨0,0⟩:Point)) (b.get 6) q:=p.ou 2 6 rfl
    replace x6:Lo k (Eq b6):=Lo.eq x6
    have y6:Lo k0 (Eq b6):=x6.chg hg
    have j17:=p.ke 17 rfl i17
    have j18:=p.ke 18 rfl i18
    have j19:=p.ke 19 rfl i19
    have j22:(IsV x2) (b.get 22) q:=p.ou 1 22 rfl
    have w4_6:Apart (obF (b.get 4)) (Eq b6):=Apart.new (by rw [p.old 4 rfl]; exact i4.ltF) x6
    have hns:=z6.nshF
    refine tail_storeB (i:=3) rfl rfl rfl rfl szf112 (Upd.self (α:=Point)) j6 z6 j22 fun q2 hch hz=>?_
    replace hgq:=hgq.step hch y6.wr
    have hle:=hch.le hns
    replace j0:=Pers.pers hle j0
    replace j4:=j4.keep hch w4_6 hns
    replace j17:=Pers.pers hle j17
    replace j18:=Pers.pers hle j18
    replace j19:=Pers.pers hle j19
    replace j22:=Pers.pers hle j22
    replace z6:=hz
    clear hns hle hch
    obtain ⟨q,hqq⟩ : ∃ q,q = q2:=⟨q2,rfl⟩
    subst hqq
    obtain ⟨q2,hsh,jn⟩:=z6.give
    replace j0:=Pers.pers hsh.le j0
    replace j4:=j4.handed hsh w4_6
    replace j17:=Pers.pers hsh.le j17
    replace j18:=Pers.pers hsh.le j18
    replace j19:=Pers.pers hsh.le j19
    rw [← j6] at jn
    replace j6:=jn
    replace hgq:=hgq.hand hsh y6.wr
    rw [← hsh.w]
    clear hsh
    obtain ⟨q,hqq⟩ : ∃ q,q = q2:=⟨q2,rfl⟩
    subst hqq
    exact tail_done (k:=q) (w6 _ _ ⟨⟨hgq,hsb,hdb⟩,j0,j4,y4,j6,j17,j18,j19,trivial⟩)
   rintro a k ⟨⟨hg,hs,hd⟩,i0,i4,n4,i6,i17,i18,i19,_⟩
   obtain ⟨x3,hx3,hr⟩:=bind_some hr
   refine cut (fun a' k'=>Bs noF k0 121 a' k'∧(IsV p_) (a'.get 0) k'∧IsOwn 0 3 x3 (a'.get 4) k'∧Lo k0 (obF (a'.get 4))∧(IsV p_) (a'.get 17) k'∧(IsL p_) (a'.get 18) k'∧(IsV s1.2) (a'.get 19) k'∧True) ?_ hQ ?_
   ·intro Q8 W8 w7
    refine gS 4 (⟨some (OwnAt (a.get 4) 0 3 s1.1),[(4,none)]⟩::_::_::⟨some (IsV (α:=(List Int)) ([x2.X])),[(25,some 2)]⟩::[]) hs (by kernel_rfl) ⟨ob1 rfl fun _ _ h n=>ok_moveOA (.inl rfl) (ownAt n.1 (up i4 h n.1)),o1 [(6,none)] rfl fun _ _ h n=>ok_fieldAddr rfl fo112_0 (at_Point_0 _) ((up i6 h n.1)).ptr,o1 [(24,some 1)] rfl fun _ _ h n=>ok_load rfl ty3 n.1,ob1 rfl fun _ _ h n=>ok_buildSlice rfl Tryz.underlying67 eo3 rfl (by decide) (by decide) ⟨rfl,n.1,trivial⟩,trivial⟩ W8 fun b q p=>?_
    have hgq:=hg.then p.grow
    have hsb:=p.size.trans hs
    have hdb:=p.defers.trans hd
    have j0:=p.ke 0 rfl i0
    have j17:=p.ke 17 rfl i17
    have j18:=p.ke 18 rfl i18
    have j19:=p.ke 19 rfl i19
    have e23:b.get 23 = a.get 4:=(p.ou 0 23 rfl).1
    have j23:IsOwn 0 3 s1.1 (b.get 23) q:=(p.ou 0 23 rfl).2
    have y23:Lo k0 (obF (b.get 23)):=by rw [e23]; exact n4
    have j26:(IsV (α:=(List Int)) ([x2.X])) (b.get 26) q:=p.ou 3 26 rfl
    have hns:=j23.nshF
    refine tail_appendS (i:=4) (d:=27) rfl rfl rfl rfl (by rw [hsb]; decide) (e:=3) Tryz.underlying67 eo3 j23 (IsV.rd j26) hx3 fun b2 q2 hsz hdf hoth hch hown hob=>?_
    have hle:=hch.le hns
    have yn:Lo k0 (obF (b2.get 27)):=y23.app hgq hob
    replace j0:=Pers.pers hle j0
    replace j17:=Pers.pers hle j17
    replace j18:=Pers.pers hle j18
    replace j19:=Pers.pers hle j19
    replace j26:=Pers.pers hle j26
    replace hgq:=hgq.step hch y23.wr
    rw [← hoth 0 (by decide)] at j0
    rw [← hoth 17 (by decide)] at j17
    rw [← hoth 18 (by decide)] at j18
    rw [← hoth 19 (by decide)] at j19
    rw [← hoth 26 (by decide)] at j26
    have j27:=hown
    have y27:=yn
    replace hsb:=hsz.trans hsb
    replace hdb:=hdf.trans hdb
    clear hle hch hown hob hns yn hsz hdf hoth
    obtain ⟨b,hbb⟩ : ∃ b,b = b2:=⟨b2,rfl⟩
    subst hbb
    obtain ⟨q,hqq⟩ : ∃ q,q = q2:=⟨q2,rfl⟩
    subst hqq
    refine tail_assign (i:=5) (d:=4) rfl rfl (.inl rfl) rfl (by rw [hsb]; decide) fun b2 hsz hdf hnew hoth=>?_
    have jn:(IsOwn 0 3 x3) (b2.get 4) q:=by rw [hnew]; exact j27
    have yn:Lo k0 (obF (b2.get 4)):=by rw [hnew]; exact y27
    rw [← hoth 0 (by decide)] at j0
    rw [← hoth 17 (by decide)] at j17
    rw [← hoth 18 (by decide)] at j18
    rw [← hoth 19 (by decide)] at j19
    rw [← hoth 26 (by decide)] at j26
    have j4:=jn
    have y4:=yn
    replace hsb:=hsz.trans hsb
    replace hdb:=hdf.trans hdb
    clear hsz hdf hoth
    obtain ⟨b,hbb⟩ : ∃ b,b = b2:=⟨b2,rfl⟩
    subst hbb
    exact tail_done (k:=q) (w7 _ _ ⟨⟨hgq,hsb,hdb⟩,j0,j4,y4,j17,j18,j19,trivial⟩)
   rintro a k ⟨⟨hg,hs,hd⟩,i0,i4,n4,i17,i18,i19,_⟩
   obtain ⟨x4,hx4,hr⟩:=bind_some hr
   refine cut (fun a' k'=>Bs noF k0 121 a' k'∧(IsV p_) (a'.get 0) k'∧IsOwn 0 3 x3 (a'.get 4) k'∧Lo k0 (obF (a'.get 4))∧(IsV p_) (a'.get 17) k'∧(IsL p_) (a'.get 18) k'∧(IsV x4) (a'.get 19) k'∧True) ?_ hQ ?_
   ·intro Q9 W9 w8
    refine gS 2 (_::_::[]) hs (by kernel_rfl) ⟨o1 [(19,none)] rfl fun _ _ h n=>ok_add rfl (up i19 h n.1) (cI rfl) hx4,cm 0 rfl rfl,trivial⟩ W9 fun b q p=>?_
    exact tail_done (k:=q) (w8 _ _ ⟨Bs.post ⟨hg,hs,hd⟩ p,p.ke 0 rfl i0,p.ke 4 rfl i4,(by rw [p.old 4 rfl]; exact n4),p.ke 17 rfl i17,p.ke 18 rfl i18,p.ou 1 19 rfl,trivial⟩)
   rintro a k ⟨⟨hg,hs,hd⟩,i0,i4,n4,i17,i18,i19,_⟩
   exact hgo353 _ _ _ (Option.some.inj hr).symm ⟨⟨hg,hs,hd⟩,i0,i4,n4,i17,i18,i19,trivial⟩
  rw [if_neg (by rw [hc366]; decide)] at hr
  refine wp_exit ?_
  exact hex354 _ _ _ _ (Option.some.inj hr).symm ⟨rfl,⟨hg,hs,hd⟩,i0,i4,n4,trivial⟩
 ·rintro r1 a k rfl hR
  dsimp only at hr
  obtain rfl:=Option.some.inj hr
  exact hR
 ·rintro _ _ _ rfl _
  simp at hr
 clear hf1
 rintro _ s2 a k rfl ⟨rfl,⟨hg,hs,hd⟩,i0,i4,n4,_⟩
 dsimp only at hr
 refine wp_seq ?_
 obtain ⟨x5,hx5,hr⟩:=bind_some hr
 refine cut (fun a' k'=>Bs noF k0 121 a' k'∧(IsV p_) (a'.get 0) k'∧IsOwn 0 3 x5 (a'.get 4) k'∧Lo k0 (obF (a'.get 4))∧True) ?_ hQ ?_
 ·intro Q10 W10 w9
  refine gS 1 (⟨some (OwnAt (a.get 4) 0 3 s2.1),[(4,none)]⟩::[]) hs (by kernel_rfl) ⟨ob1 rfl fun _ _ h n=>ok_moveOA (.inl rfl) (ownAt n.1 (up i4 h n.1)),trivial⟩ W10 fun b q p=>?_
  have hgq:=hg.then p.grow
  have hsb:=p.size.trans hs
  have hdb:=p.defers.trans hd
  have j0:=p.ke 0 rfl i0
  have j4:=p.ke 4 rfl i4
  have y4:Lo k0 (obF (b.get 4)):=by rw [p.old 4 rfl]; exact n4
  have e29:b.get 29 = a.get 4:=(p.ou 0 29 rfl).1
  have j29:IsOwn 0 3 s2.1 (b.get 29) q:=(p.ou 0 29 rfl).2
  have y29:Lo k0 (obF (b.get 29)):=by rw [e29]; exact n4
  have hns:=j29.nshF
  have eS:b.get 4 = b.get 29:=(p.old 4 rfl).trans e29.symm
  refine tail_call (F:=obF (b.get 29)) (i:=1) (d:=30) rfl rfl rfl rfl (by rw [hsb]; decide) Tryz.call101 W10 (sortInts_ok j29 hx5) fun b2 q2 hsz hdf hoth hch hres=>?_
  have hle:=hch.le hns
  replace j0:=Pers.pers hle j0
  replace hgq:=hgq.step hch y29.wr
  replace j4:IsOwn 0 3 x5 (b.get 4) q2:=by rw [eS]; exact hres
  clear hres eS
  rw [← hoth 0 (by decide)] at j0
  rw [← hoth 4 (by decide)] at j4
  rw [← hoth 4 (by decide)] at y4
  replace hsb:=hsz.trans hsb
  replace hdb:=hdf.trans hdb
  clear hle hch hns hsz hdf hoth
  obtain ⟨b,hbb⟩ : ∃ b,b = b2:=⟨b2,rfl⟩
  subst hbb
  obtain ⟨q,hqq⟩ : ∃ q,q = q2:=⟨q2,rfl⟩
  subst hqq
  exact tail_done (k:=q) (w9 _ _ ⟨⟨hgq,hsb,hdb⟩,j0,j4,y4,trivial⟩)
 rintro a k ⟨⟨hg,hs,hd⟩,i0,i4,n4,_⟩
 refine wp_seq ?_
 obtain ⟨x7,hx7,hr⟩:=bind_some hr
 refine cut (fun a' k'=>Bs noF k0 121 a' k'∧(IsV p_) (a'.get 0) k'∧IsOwn 0 3 x7 (a'.get 4) k'∧Lo k0 (obF (a'.get 4))∧True) ?_ hQ ?_
 ·intro Q11 W11 w10
  refine gS 1 (⟨some (OwnAt (a.get 4) 0 3 x5),[(4,none)]⟩::[]) hs (by kernel_rfl) ⟨ob1 rfl fun _ _ h n=>ok_moveOA (.inl rfl) (ownAt n.1 (up i4 h n.1)),trivial⟩ W11 fun b q p=>?_
  have hgq:=hg.then p.grow
  have hsb:=p.size.trans hs
  have hdb:=p.defers.trans hd
  have j0:=p.ke 0 rfl i0
  have e31:b.get 31 = a.get 4:=(p.ou 0 31 rfl).1
  have j31:IsOwn 0 3 x5 (b.get 31) q:=(p.ou 0 31 rfl).2
  have y31:Lo k0 (obF (b.get 31)):=by rw [e31]; exact n4
  have hns:=j31.nshF
  refine tail_call (F:=obF (b.get 31)) (i:=1) (d:=32) rfl rfl rfl rfl (by rw [hsb]; decide) Tryz.call102 W11 (compactInts_ok j31 hx7) fun b2 q2 hsz hdf hoth hch hres=>?_
  have hle:=hch.le hns
  obtain ⟨hown,hob⟩:=hres
  have yn:Lo k0 (obF (b2.get 32)):=y31.app hgq hob
  replace j0:=Pers.pers hle j0
  replace hgq:=hgq.step hch y31.wr
  rw [← hoth 0 (by decide)] at j0
  have j32:=hown
  have y32:=yn
  have hres:=True.intro
  clear hown hob yn
  replace hsb:=hsz.trans hsb
  replace hdb:=hdf.trans hdb
  clear hle hch hres hns hsz hdf hoth
  obtain ⟨b,hbb⟩ : ∃ b,b = b2:=⟨b2,rfl⟩
  subst hbb
  obtain ⟨q,hqq⟩ : ∃ q,q = q2:=⟨q2,rfl⟩
  subst hqq
  refine tail_assign (i:=2) (d:=4) rfl rfl (.inl rfl) rfl (by rw [hsb]; decide) fun b2 hsz hdf hnew hoth=>?_
  have jn:(IsOwn 0 3 x7) (b2.get 4) q:=by rw [hnew]; exact j32
  have yn:Lo k0 (obF (b2.get 4)):=by rw [hnew]; exact y32
  rw [← hoth 0 (by decide)] at j0
  have j4:=jn
  have y4:=yn
  replace hsb:=hsz.trans hsb
  replace hdb:=hdf.trans hdb
  clear hsz hdf hoth
  obtain ⟨b,hbb⟩ : ∃ b,b = b2:=⟨b2,rfl⟩
  subst hbb
  exact tail_done (k:=q) (w10 _ _ ⟨⟨hgq,hsb,hdb⟩,j0,j4,y4,trivial⟩)
 rintro a k ⟨⟨hg,hs,hd⟩,i0,i4,n4,_⟩
 refine wp_seq ?_
 obtain ⟨kk,sh373,ii4⟩:=i4.give
 replace i0:=Pers.pers sh373.le i0
 replace i4:=ii4
 replace hg:=hg.hand sh373 n4.wr
 rw [← sh373.w]
 clear sh373
 obtain ⟨k,hkk⟩ : ∃ k,k = kk:=⟨kk,rfl⟩
 subst hkk
 obtain ⟨x8,hx8,hr⟩:=bind_some hr
 refine cut (fun a' k'=>Bs noF k0 121 a' k'∧(IsV x7) (a'.get 4) k'∧(IsV x8) (a'.get 7) k'∧True) ?_ hQ ?_
 ·intro Q12 W12 w11
  refine gS 3 (_::_::_::[]) hs (by kernel_rfl) ⟨mu rfl i0,o1 [(33,some 0)] rfl fun _ _ h n=>ok_call rfl Tryz.call103 (polygon_around_ok n.1 hx8),cp 1 rfl rfl,trivial⟩ W12 fun b q p=>?_
  exact tail_done (k:=q) (w11 _ _ ⟨Bs.post ⟨hg,hs,hd⟩ p,p.ke 4 rfl i4,p.ou 2 7 rfl,trivial⟩)
 rintro a k ⟨⟨hg,hs,hd⟩,i4,i7,_⟩
 refine cutS (fun c l=>Bs noF k0 121 c l∧IsV x7 (c.get 4) l∧IsV x8 (c.get 7) l∧IsOwn 0 79 ([]:List Rect) (c.get 8) l∧Lo k0 (obF (c.get 8))∧True) ?_ ?_
 ·intro Q13 W13 w12
  refine gS 1 (⟨some IsE0,[]⟩::[]) hs (by kernel_rfl) ⟨ob1 rfl fun b q h n=>ok_assign rfl isE0_nil,trivial⟩ W13 fun b q p=>?_
  have hgq:=hg.then p.grow
  have hsb:=p.size.trans hs
  have hdb:=p.defers.trans hd
  have j4:=p.ke 4 rfl i4
  have j7:=p.ke 7 rfl i7
  have j8:IsE0 (b.get 8) q:=p.ou 0 8 rfl
  have y8:Lo k0 (obF (b.get 8)):=j8.lo
  replace j8:IsOwn 0 79 ([]:List Rect) (b.get 8) q:=j8.own0
  exact tail_done (k:=q) (w12 _ _ ⟨⟨hgq,hsb,hdb⟩,j4,j7,j8,y8,trivial⟩)
 rintro a k ⟨⟨hg,hs,hd⟩,i4,i7,i8,n8,_⟩
 refine wp_seq ?_
 refine wp_seq ?_
 obtain ⟨x9,hx9,hr⟩:=bind_some hr
 refine cut (fun a' k'=>Bs noF k0 121 a' k'∧(IsV x7) (a'.get 4) k'∧(IsV x8) (a'.get 7) k'∧IsOwn 0 79 ([]:List Rect) (a'.get 8) k'∧Lo k0 (obF (a'.get 8))∧(IsV x9) (a'.get 37) k'∧(IsI 0) (a'.get 38) k'∧True) ?_ hQ ?_
 ·intro Q14 W14 w13
  refine gS 4 (_::_::_::⟨some (IsI 0),[]⟩::[]) hs (by kernel_rfl) ⟨mu rfl i4,o1 [(35,some 0)] rfl fun _ _ h n=>ok_len rfl rfl Tryz.underlying67 (IsV.rd n.1),o1 [(36,some 1)] rfl fun _ _ h n=>ok_sub rfl n.1 (cI rfl) hx9,ob1 rfl fun _ _ h n=>ok_move rfl (cI rfl),trivial⟩ W14 fun b q p=>?_
  exact tail_done (k:=q) (w13 _ _ ⟨Bs.post ⟨hg,hs,hd⟩ p,p.ke 4 rfl i4,p.ke 7 rfl i7,p.ke 8 rfl i8,(by rw [p.old 8 rfl]; exact n8),p.ou 2 37 rfl,p.ou 3 38 rfl,trivial⟩)
 rintro a k ⟨⟨hg,hs,hd⟩,i4,i7,i8,n8,i37,i38,_⟩
 refine wp_block ?_
 obtain ⟨f2,hf2,hr⟩:=bind_some hr
 refine cutFe f2 (fun s' c l=>Bs noF k0 121 c l∧IsV x7 (c.get 4) l∧IsV x8 (c.get 7) l∧IsOwn 0 79 s'.1 (c.get 8) l∧Lo k0 (obF (c.get 8))∧IsV x9 (c.get 37) l∧IsV s'.2 (c.get 38) l∧True) (fun i' s' c l=>(i' = 2∧Bs noF k0 121 c l∧IsV s'.1 (c.get 8) l∧True)) (fun r' c l=>bodyPost Tryz.prog Tryz.f76 (RetC noF k0 (IsTup2 (IsV r'.1) (IsV r'.2))) .ret c l.w) ?_ hQ ?_ ?_ ?_
 ·intro Q15 W15 hgo hex hret
  refine sim_loop ?_ _ _ _ _ _ hf2 ⟨⟨hg,hs,hd⟩,i4,i7,i8,n8,i37,i38,trivial⟩ Q15 W15 hgo hex hret
  clear hr hf2 hgo hex hret W15 hQ hg hs hd i37 i38 i4 i7 i8 n8
  intro s3 fl_ a k hr hS Q hQ hgo378 hex379 hret380
  obtain ⟨⟨hg,hs,hd⟩,i4,i7,i8,n8,i37,i38,_⟩:=hS
  unfold polygon_Region_L1 at hr
  refine cutS (fun c l=>Bs noF k0 121 c l∧IsV x7 (c.get 4) l∧IsV x8 (c.get 7) l∧IsOwn 0 79 s3.1 (c.get 8) l∧Lo k0 (obF (c.get 8))∧IsV x9 (c.get 37) l∧IsV s3.2 (c.get 38) l∧IsV (decide (s3.2 < x9)) (c.get 39) l∧True) ?_ ?_
  ·intro Q16 W16 w14
   refine gS 1 (_::[]) hs (by kernel_rfl) ⟨o1 [(38,none),(37,none)] rfl fun _ _ h n=>ok_lss rfl (up i38 h n.1) (up i37 h n.2.1),trivial⟩ W16 fun b q p=>?_
   exact tail_done (k:=q) (w14 _ _ ⟨Bs.post ⟨hg,hs,hd⟩ p,p.ke 4 rfl i4,p.ke 7 rfl i7,p.ke 8 rfl i8,(by rw [p.old 8 rfl]; exact n8),p.ke 37 rfl i37,p.ke 38 rfl i38,p.ou 0 39 rfl,trivial⟩)
  rintro a k ⟨⟨hg,hs,hd⟩,i4,i7,i8,n8,i37,i38,i39,_⟩
  refine wp_seq ?_
  refine wp_cond_split (isBool i39) (fun hc448=>?_) (fun hc448=>?_)
  ·rw [if_pos hc448] at hr
   refine wp_skip ?_
   refine wp_seq ?_
   refine wp_block ?_
   refine cutS (fun c l=>Bs noF k0 121 c l∧IsV x7 (c.get 4) l∧IsV x8 (c.get 7) l∧IsOwn 0 79 s3.1 (c.get 8) l∧Lo k0 (obF (c.get 8))∧IsV s3.2 (c.get 9) l∧IsV x9 (c.get 37) l∧IsV s3.2 (c.get 38) l∧True) ?_ ?_
   ·intro Q17 W17 w15
    refine gS 2 (_::_::[]) hs (by kernel_rfl) ⟨mu rfl i38,cp 0 rfl rfl,trivial⟩ W17 fun b q p=>?_
    exact tail_done (k:=q) (w15 _ _ ⟨Bs.post ⟨hg,hs,hd⟩ p,p.ke 4 rfl i4,p.ke 7 rfl i7,p.ke 8 rfl i8,(by rw [p.old 8 rfl]; exact n8),p.ou 1 9 rfl,p.ke 37 rfl i37,p.ke 38 rfl i38,trivial⟩)
   rintro a k ⟨⟨hg,hs,hd⟩,i4,i7,i8,n8,i9,i37,i38,_⟩
   refine cutS (fun c l=>Bs noF k0 121 c l∧IsV x7 (c.get 4) l∧IsV x8 (c.get 7) l∧IsOwn 0 79 s3.1 (c.get 8) l∧Lo k0 (obF (c.get 8))∧IsV s3.2 (c.get 9) l∧IsOwn 0 3 ([]:List Int) (c.get 10) l∧Lo k0 (obF (c.get 10))∧IsV x9 (c.get 37) l∧IsV s3.2 (c.get 38) l∧Apart (obF (c.get 8)) (obF (c.get 10))∧True) ?_ ?_
   ·intro Q18 W18 w16
    refine gS 1 (⟨some IsE0,[]⟩::[]) hs (by kernel_rfl) ⟨ob1 rfl fun b q h n=>ok_assign rfl isE0_nil,trivial⟩ W18 fun b q p=>?_
    have hgq:=hg.then p.grow
    have hsb:=p.size.trans hs
    have hdb:=p.defers.trans hd
    have j4:=p.ke 4 rfl i4
    have j7:=p.ke 7 rfl i7
    have j8:=p.ke 8 rfl i8
    have y8:Lo k0 (obF (b.get 8)):=by rw [p.old 8 rfl]; exact n8
    have j9:=p.ke 9 rfl i9
    have j10:IsE0 (b.get 10) q:=p.ou 0 10 rfl
    have j37:=p.ke 37 rfl i37
    have j38:=p.ke 38 rfl i38
    have y10:Lo k0 (obF (b.get 10)):=j10.lo
    have w8_10:Apart (obF (b.get 8)) (obF (b.get 10)):=j10.apart.symm
    replace j10:IsOwn 0 3 ([]:List Int) (b.get 10) q:=j10.own0
    exact tail_done (k:=q) (w16 _ _ ⟨⟨hgq,hsb,hdb⟩,j4,j7,j8,y8,j9,j10,y10,j37,j38,w8_10,trivial⟩)
   rintro a k ⟨⟨hg,hs,hd⟩,i4,i7,i8,n8,i9,i10,n10,i37,i38,d8_10,_⟩
   refine wp_seq ?_
   refine cutS (fun c l=>Bs noF k0 121 c l∧IsV x7 (c.get 4) l∧IsV x8 (c.get 7) l∧IsOwn 0 79 s3.1 (c.get 8) l∧Lo k0 (obF (c.get 8))∧IsV s3.2 (c.get 9) l∧IsOwn 0 3 ([]:List Int) (c.get 10) l∧Lo k0 (obF (c.get 10))∧IsV x9 (c.get 37) l∧IsV s3.2 (c.get 38) l∧IsV x8 (c.get 41) l∧IsL x8 (c.get 42) l∧IsI 0 (c.get 43) l∧Apart (obF (c.get 8)) (obF (c.get 10))∧True) ?_ ?_
   ·intro Q19 W19 w17
    refine gS 3 (_::_::⟨some (IsI 0),[]⟩::[]) hs (by kernel_rfl) ⟨mu rfl i7,o1 [(41,some 0)] rfl fun _ _ h n=>ok_len rfl rfl Tryz.underlying152 (IsV.rd n.1),ob1 rfl fun _ _ h n=>ok_move rfl (cI rfl),trivial⟩ W19 fun b q p=>?_
    exact tail_done (k:=q) (w17 _ _ ⟨Bs.post ⟨hg,hs,hd⟩ p,p.ke 4 rfl i4,p.ke 7 rfl i7,p.ke 8 rfl i8,(by rw [p.old 8 rfl]; exact n8),p.ke 9 rfl i9,p.ke 10 rfl i10,(by rw [p.old 10 rfl]; exact n10),p.ke 37 rfl i37,p.ke 38 rfl i38,p.ou 0 41 rfl,p.ou 1 42 rfl,p.ou 2 43 rfl,(by rw [p.old 8 rfl,p.old 10 rfl]; exact d8_10),trivial⟩)
   rintro a k ⟨⟨hg,hs,hd⟩,i4,i7,i8,n8,i9,i10,n10,i37,i38,i41,i42,i43,d8_10,_⟩
   refine wp_block ?_
   obtain ⟨f3,hf3,hr⟩:=bind_some hr
   refine cutFe f3 (fun s' c l=>Bs noF k0 121 c l∧IsV x7 (c.get 4) l∧IsV x8 (c.get 7) l∧IsOwn 0 79 s3.1 (c.get 8) l∧Lo k0 (obF (c.get 8))∧IsV s3.2 (c.get 9) l∧IsOwn 0 3 s'.1 (c.get 10) l∧Lo k0 (obF (c.get 10))∧IsV x9 (c.get 37) l∧IsV s3.2 (c.get 38) l∧IsV x8 (c.get 41) l∧IsL x8 (c.get 42) l∧IsV s'.2 (c.get 43) l∧Apart (obF (c.get 8)) (obF (c.get 10))∧True) (fun i' s' c l=>(i' = 4∧Bs noF k0 121 c l∧IsV x7 (c.get 4) l∧IsV x8 (c.get 7) l∧IsOwn 0 79 s3.1 (c.get 8) l∧Lo k0 (obF (c.get 8))∧IsV s3.2 (c.get 9) l∧IsOwn 0 3 s'.1 (c.get 10) l∧Lo k0 (obF (c.get 10))∧IsV x9 (c.get 37) l∧IsV s3.2 (c.get 38) l∧Apart (obF (c.get 8)) (obF (c.get 10))∧True)) (fun r' c l=>bodyPost Tryz.prog Tryz.f76 (RetC noF k0 (IsTup2 (IsV r'.1) (IsV r'.2))) .ret c l.w) ?_ hQ ?_ ?_ ?_
   ·intro Q20 W20 hgo hex hret
    refine sim_loop ?_ _ _ _ _ _ hf3 ⟨⟨hg,hs,hd⟩,i4,i7,i8,n8,i9,i10,n10,i37,i38,i41,i42,i43,d8_10,trivial⟩ Q20 W20 hgo hex hret
    clear hr hf3 hgo hex hret W20 hQ hg hs hd d8_10 i10 i37 i38 i4 i41 i42 i43 i7 i8 i9 n10 n8
    intro s4 fl_ a k hr hS Q hQ hgo386 hex387 hret388
    obtain ⟨⟨hg,hs,hd⟩,i4,i7,i8,n8,i9,i10,n10,i37,i38,i41,i42,i43,d8_10,_⟩:=hS
    unfold polygon_Region_L2 at hr
    refine cutS (fun c l=>Bs noF k0 121 c l∧IsV x7 (c.get 4) l∧IsV x8 (c.get 7) l∧IsOwn 0 79 s3.1 (c.get 8) l∧Lo k0 (obF (c.get 8))∧IsV s3.2 (c.get 9) l∧IsOwn 0 3 s4.1 (c.get 10) l∧Lo k0 (obF (c.get 10))∧IsV x9 (c.get 37) l∧IsV s3.2 (c.get 38) l∧IsV x8 (c.get 41) l∧IsL x8 (c.get 42) l∧IsV s4.2 (c.get 43) l∧(IsV (decide (s4.2 < (x8.length:Int)))) (c.get 44) l∧Apart (obF (c.get 8)) (obF (c.get 10))∧True) ?_ ?_
    ·intro Q21 W21 w18
     refine gS 1 (_::[]) hs (by kernel_rfl) ⟨o1 [(43,none),(42,none)] rfl fun _ _ h n=>ok_lss rfl (up i43 h n.1) (up i42 h n.2.1),trivial⟩ W21 fun b q p=>?_
     exact tail_done (k:=q) (w18 _ _ ⟨Bs.post ⟨hg,hs,hd⟩ p,p.ke 4 rfl i4,p.ke 7 rfl i7,p.ke 8 rfl i8,(by rw [p.old 8 rfl]; exact n8),p.ke 9 rfl i9,p.ke 10 rfl i10,(by rw [p.old 10 rfl]; exact n10),p.ke 37 rfl i37,p.ke 38 rfl i38,p.ke 41 rfl i41,p.ke 42 rfl i42,p.ke 43 rfl i43,p.ou 0 44 rfl,(by rw [p.old 8 rfl,p.old 10 rfl]; exact d8_10),trivial⟩)
    rintro a k ⟨⟨hg,hs,hd⟩,i4,i7,i8,n8,i9,i10,n10,i37,i38,i41,i42,i43,i44,d8_10,_⟩
    refine wp_seq ?_
    refine wp_cond_split (isBool i44) (fun hc406=>?_) (fun hc406=>?_)
    ·rw [if_pos hc406] at hr
     refine wp_skip ?_
     refine wp_seq ?_
     refine wp_block ?_
     refine wp_seq ?_
     obtain ⟨x10,hx10,hr⟩:=bind_some hr
     refine cut (fun a' k'=>Bs noF k0 121 a' k'∧(IsV x7) (a'.get 4) k'∧(IsV x8) (a'.get 7) k'∧IsOwn 0 79 s3.1 (a'.get 8) k'∧Lo k0 (obF (a'.get 8))∧(IsV s3.2) (a'.get 9) k'∧IsOwn 0 3 s4.1 (a'.get 10) k'∧Lo k0 (obF (a'.get 10))∧(IsRef x10) (a'.get 12) k'∧(IsV x9) (a'.get 37) k'∧(IsV s3.2) (a'.get 38) k'∧(IsV x8) (a'.get 41) k'∧(IsL x8) (a'.get 42) k'∧(IsV s4.2) (a'.get 43) k'∧Apart (obF (a'.get 8)) (obF (a'.get 10))∧True) ?_ hQ ?_
     ·intro Q22 W22 w19
      refine gS 3 (_::_::⟨some (IsBox k.w.heap.size (⟨(⟨0,0⟩:Point),(⟨0,0⟩:Point)⟩:PolygonSide)),[]⟩::[]) hs (by kernel_rfl) ⟨o1 [(41,none),(43,none)] rfl fun _ _ h n=>ok_indexAddr rfl Tryz.underlying152 ty155 (IsV.rd (up i41 h n.1)) (up i43 h n.2.1) hx10,o1 [(45,some 0)] rfl fun _ _ h n=>ok_load rfl ty155 n.1,ob1 rfl fun _ _ h n=>ok_alloc _ h.size rfl z155,trivial⟩ W22 fun b q p=>?_
      have hgq:=hg.then p.grow
      have hsb:=p.size.trans hs
      have hdb:=p.defers.trans hd
      have j4:=p.ke 4 rfl i4
      have j7:=p.ke 7 rfl i7
      have j8:=p.ke 8 rfl i8
      have y8:Lo k0 (obF (b.get 8)):=by rw [p.old 8 rfl]; exact n8
      have j9:=p.ke 9 rfl i9
      have j10:=p.ke 10 rfl i10
      have y10:Lo k0 (obF (b.get 10)):=by rw [p.old 10 rfl]; exact n10
      obtain ⟨b12,j12,x12,z12⟩:(IsBox k.w.heap.size (⟨(⟨0,0⟩:Point),(⟨0,0⟩:Point)⟩:PolygonSide)) (b.get 12) q:=p.ou 2 12 rfl
      replace x12:Lo k (Eq b12):=Lo.eq x12
      have y12:Lo k0 (Eq b12):=x12.chg hg
      have j37:=p.ke 37 rfl i37
      have j38:=p.ke 38 rfl i38
      have j41:=p.ke 41 rfl i41
      have j42:=p.ke 42 rfl i42
      have j43:=p.ke 43 rfl i43
      have j46:(IsV x10) (b.get 46) q:=p.ou 1 46 rfl
      have w8_10:Apart (obF (b.get 8)) (obF (b.get 10)):=by rw [p.old 8 rfl,p.old 10 rfl]; exact d8_10
      have w8_12:Apart (obF (b.get 8)) (Eq b12):=Apart.new (by rw [p.old 8 rfl]; exact i8.ltF) x12
      have w10_12:Apart (obF (b.get 10)) (Eq b12):=Apart.new (by rw [p.old 10 rfl]; exact i10.ltF) x12
      have hns:=z12.nshF
      refine tail_storeB (i:=3) rfl rfl rfl rfl szf155 (Upd.self (α:=PolygonSide)) j12 z12 j46 fun q2 hch hz=>?_
      replace hgq:=hgq.step hch y12.wr
      have hle:=hch.le hns
      replace j4:=Pers.pers hle j4
      replace j7:=Pers.pers hle j7
      replace j8:=j8.keep hch w8_12 hns
      replace j9:=Pers.pers hle j9
      replace j10:=j10.keep hch w10_12 hns
      replace j37:=Pers.pers hle j37
      replace j38:=Pers.pers hle j38
      replace j41:=Pers.pers hle j41
      replace j42:=Pers.pers hle j42
      replace j43:=Pers.pers hle j43
      replace j46:=Pers.pers hle j46
      replace z12:=hz
      clear hns hle hch
      obtain ⟨q,hqq⟩ : ∃ q,q = q2:=⟨q2,rfl⟩
      subst hqq
      obtain ⟨q2,hsh,jn⟩:=z12.give
      replace j4:=Pers.pers hsh.le j4
      replace j7:=Pers.pers hsh.le j7
      replace j8:=j8.handed hsh w8_12
      replace j9:=Pers.pers hsh.le j9
      replace j10:=j10.handed hsh w10_12
      replace j37:=Pers.pers hsh.le j37
      replace j38:=Pers.pers hsh.le j38
      replace j41:=Pers.pers hsh.le j41
      replace j42:=Pers.pers hsh.le j42
      replace j43:=Pers.pers hsh.le j43
      rw [← j12] at jn
      replace j12:=jn
      replace hgq:=hgq.hand hsh y12.wr
      rw [← hsh.w]
      clear hsh
      obtain ⟨q,hqq⟩ : ∃ q,q = q2:=⟨q2,rfl⟩
      subst hqq
      exact tail_done (k:=q) (w19 _ _ ⟨⟨hgq,hsb,hdb⟩,j4,j7,j8,y8,j9,j10,y10,j12,j37,j38,j41,j42,j43,w8_10,trivial⟩)
     rintro a k ⟨⟨hg,hs,hd⟩,i4,i7,i8,n8,i9,i10,n10,i12,i37,i38,i41,i42,i43,d8_10,_⟩
     refine wp_seq ?_
     obtain ⟨x11,hx11,hr⟩:=bind_some hr
     obtain ⟨x13,hx13,hr⟩:=bind_some hr
     obtain ⟨x14,hx14,hx13⟩:=ite_bind hx13
     obtain ⟨x15,hx15,hr⟩:=bind_some hr
     obtain ⟨x16,hx16,hx15⟩:=ite_bind hx15
     refine cut (fun a' k'=>Bs noF k0 121 a' k'∧(IsV x7) (a'.get 4) k'∧(IsV x8) (a'.get 7) k'∧IsOwn 0 79 s3.1 (a'.get 8) k'∧Lo k0 (obF (a'.get 8))∧(IsV s3.2) (a'.get 9) k'∧IsOwn 0 3 s4.1 (a'.get 10) k'∧Lo k0 (obF (a'.get 10))∧(IsRef x10) (a'.get 12) k'∧(IsV x9) (a'.get 37) k'∧(IsV s3.2) (a'.get 38) k'∧(IsV x8) (a'.get 41) k'∧(IsL x8) (a'.get 42) k'∧(IsV s4.2) (a'.get 43) k'∧(IsV x15) (a'.get 77) k'∧Apart (obF (a'.get 8)) (obF (a'.get 10))∧True) ?_ hQ ?_
     ·intro Q23 W23 w20
      refine region (m:=31) (_::_::_::_::_::_::_::_::_::_::_::_::_::_::_::_::_::_::_::_::_::_::_::_::_::_::_::_::_::_::_::[]) hmix hs (by kernel_rfl) ⟨o1 [(12,none)] rfl fun _ _ h n=>ok_load rfl ty155 ((up i12 h n.1)).ptr,o1 [(47,some 0)] rfl fun _ _ h n=>ok_call rfl Tryz.call104 (polygon_side_upright_ok n.1 hx11),o1 [(48,some 1)] rfl fun _ _ h n=>ok_not rfl n.1,cm 2 rfl rfl,gT [(12,none)] rfl rfl fun hp _ _ h n=>ok_fieldAddr rfl fo155_0 (at_PolygonSide_0 _) ((up i12 h n.1)).ptr,gT [(51,some 4)] rfl rfl fun hp _ _ h n=>ok_fieldAddr rfl fo112_0 (at_Point_0 _) (Gd.get n.1 hp),gT [(52,some 5)] rfl rfl fun hp _ _ h n=>ok_load rfl ty3 (Gd.get n.1 hp),gT [(12,none)] rfl rfl fun hp _ _ h n=>ok_fieldAddr rfl fo155_1 (at_PolygonSide_1 _) ((up i12 h n.1)).ptr,gT [(54,some 7)] rfl rfl fun hp _ _ h n=>ok_fieldAddr rfl fo112_0 (at_Point_0 _) (Gd.get n.1 hp),gT [(55,some 8)] rfl rfl fun hp _ _ h n=>ok_load rfl ty3 (Gd.get n.1 hp),gT [(53,some 6),(56,some 9)] rfl rfl fun hp _ _ h n=>ok_min2 rfl (Gd.get n.1 hp) (Gd.get n.2.1 hp),mT rfl rfl i4,mT rfl rfl i9,gT [(58,some 11),(59,some 12)] rfl rfl fun hp _ _ h n=>ok_indexAddr rfl Tryz.underlying67 ty3 (IsV.rd (Gd.get n.1 hp)) (Gd.get n.2.1 hp) (hx14 hp),gT [(60,some 13)] rfl rfl fun hp _ _ h n=>ok_load rfl ty3 (Gd.get n.1 hp),gT [(57,some 10),(61,some 14)] rfl rfl fun hp _ _ h n=>ok_leq rfl (Gd.get n.1 hp) (Gd.get n.2.1 hp),o1 [(50,some 3),(62,some 15)] rfl fun _ _ h n=>ok_pickM rfl n.1 hx13 (Gd.get n.2.1) (cB rfl),cm 16 rfl rfl,mT rfl rfl i4,mT rfl rfl i9,gT [(65,some 18),(66,some 19)] rfl rfl fun hp _ _ h n=>ok_indexAddr rfl Tryz.underlying67 ty3 (IsV.rd (Gd.get n.1 hp)) (Gd.get n.2.1 hp) (hx16 hp),gT [(67,some 20)] rfl rfl fun hp _ _ h n=>ok_load rfl ty3 (Gd.get n.1 hp),gT [(12,none)] rfl rfl fun hp _ _ h n=>ok_fieldAddr rfl fo155_0 (at_PolygonSide_0 _) ((up i12 h n.1)).ptr,gT [(69,some 22)] rfl rfl fun hp _ _ h n=>ok_fieldAddr rfl fo112_0 (at_Point_0 _) (Gd.get n.1 hp),gT [(70,some 23)] rfl rfl fun hp _ _ h n=>ok_load rfl ty3 (Gd.get n.1 hp),gT [(12,none)] rfl rfl fun hp _ _ h n=>ok_fieldAddr rfl fo155_1 (at_PolygonSide_1 _) ((up i12 h n.1)).ptr,gT [(72,some 25)] rfl rfl fun hp _ _ h n=>ok_fieldAddr rfl fo112_0 (at_Point_0 _) (Gd.get n.1 hp),gT [(73,some 26)] rfl rfl fun hp _ _ h n=>ok_load rfl ty3 (Gd.get n.1 hp),gT [(71,some 24),(74,some 27)] rfl rfl fun hp _ _ h n=>ok_max2 rfl (Gd.get n.1 hp) (Gd.get n.2.1 hp),gT [(68,some 21),(75,some 28)] rfl rfl fun hp _ _ h n=>ok_lss rfl (Gd.get n.1 hp) (Gd.get n.2.1 hp),o1 [(64,some 17),(76,some 29)] rfl fun _ _ h n=>ok_pickM rfl n.1 hx15 (Gd.get n.2.1) (cB rfl),trivial⟩ W23 fun b q p=>?_
      exact tail_done (k:=q) (w20 _ _ ⟨Bs.post ⟨hg,hs,hd⟩ p,p.ke 4 rfl i4,p.ke 7 rfl i7,p.ke 8 rfl i8,(by rw [p.old 8 rfl]; exact n8),p.ke 9 rfl i9,p.ke 10 rfl i10,(by rw [p.old 10 rfl]; exact n10),p.ke 12 rfl i12,p.ke 37 rfl i37,p.ke 38 rfl i38,p.ke 41 rfl i41,p.ke 42 rfl i42,p.ke 43 rfl i43,p.ou 30 77 rfl,(by rw [p.old 8 rfl,p.old 10 rfl]; exact d8_10),trivial⟩)
     rintro a k ⟨⟨hg,hs,hd⟩,i4,i7,i8,n8,i9,i10,n10,i12,i37,i38,i41,i42,i43,i77,d8_10,_⟩
     obtain ⟨s5,hs5,hr⟩:=bind_some hr
     refine cut (fun a' k'=>Bs noF k0 121 a' k'∧(IsV x7) (a'.get 4) k'∧(IsV x8) (a'.get 7) k'∧IsOwn 0 79 s3.1 (a'.get 8) k'∧Lo k0 (obF (a'.get 8))∧(IsV s3.2) (a'.get 9) k'∧IsOwn 0 3 s5 (a'.get 10) k'∧Lo k0 (obF (a'.get 10))∧(IsV x9) (a'.get 37) k'∧(IsV s3.2) (a'.get 38) k'∧(IsV x8) (a'.get 41) k'∧(IsL x8) (a'.get 42) k'∧(IsV s4.2) (a'.get 43) k'∧Apart (obF (a'.get 8)) (obF (a'.get 10))∧True) ?_ hQ ?_
     ·intro Q24 W24 w21
      replace hr:=hs5
      clear hQ
      have hQ:=W24
      refine wp_cond_split (isBool i77) (fun hc397=>?_) (fun hc397=>?_)
      ·rw [if_pos hc397] at hr
       obtain ⟨x17,hx17,hr⟩:=bind_some hr
       refine cut (fun a' k'=>Bs noF k0 121 a' k'∧(IsV x7) (a'.get 4) k'∧(IsV x8) (a'.get 7) k'∧IsOwn 0 79 s3.1 (a'.get 8) k'∧Lo k0 (obF (a'.get 8))∧(IsV s3.2) (a'.get 9) k'∧IsOwn 0 3 x17 (a'.get 10) k'∧Lo k0 (obF (a'.get 10))∧(IsV x9) (a'.get 37) k'∧(IsV s3.2) (a'.get 38) k'∧(IsV x8) (a'.get 41) k'∧(IsL x8) (a'.get 42) k'∧(IsV s4.2) (a'.get 43) k'∧Apart (obF (a'.get 8)) (obF (a'.get 10))∧True) ?_ hQ ?_
       ·intro Q25 W25 w22
        refine gS 5 (⟨some (OwnAt (a.get 10) 0 3 s4.1),[(10,none)]⟩::_::_::_::⟨some (IsV (α:=(List Int)) ([x10.a.Y])),[(81,some 3)]⟩::[]) hs (by kernel_rfl) ⟨ob1 rfl fun _ _ h n=>ok_moveOA (.inl rfl) (ownAt n.1 (up i10 h n.1)),o1 [(12,none)] rfl fun _ _ h n=>ok_fieldAddr rfl fo155_0 (at_PolygonSide_0 _) ((up i12 h n.1)).ptr,o1 [(79,some 1)] rfl fun _ _ h n=>ok_fieldAddr rfl fo112_1 (at_Point_1 _) n.1,o1 [(80,some 2)] rfl fun _ _ h n=>ok_load rfl ty3 n.1,ob1 rfl fun _ _ h n=>ok_buildSlice rfl Tryz.underlying67 eo3 rfl (by decide) (by decide) ⟨rfl,n.1,trivial⟩,trivial⟩ W25 fun b q p=>?_
        have hgq:=hg.then p.grow
        have hsb:=p.size.trans hs
        have hdb:=p.defers.trans hd
        have j4:=p.ke 4 rfl i4
        have j7:=p.ke 7 rfl i7
        have j8:=p.ke 8 rfl i8
        have y8:Lo k0 (obF (b.get 8)):=by rw [p.old 8 rfl]; exact n8
        have j9:=p.ke 9 rfl i9
        have j37:=p.ke 37 rfl i37
        have j38:=p.ke 38 rfl i38
        have j41:=p.ke 41 rfl i41
        have j42:=p.ke 42 rfl i42
        have j43:=p.ke 43 rfl i43
        have e78:b.get 78 = a.get 10:=(p.ou 0 78 rfl).1
        have j78:IsOwn 0 3 s4.1 (b.get 78) q:=(p.ou 0 78 rfl).2
        have y78:Lo k0 (obF (b.get 78)):=by rw [e78]; exact n10
        have j82:(IsV (α:=(List Int)) ([x10.a.Y])) (b.get 82) q:=p.ou 4 82 rfl
        have w8_78:Apart (obF (b.get 8)) (obF (b.get 78)):=by rw [p.old 8 rfl,e78]; exact d8_10
        have hns:=j78.nshF
        refine tail_appendS (i:=5) (d:=83) rfl rfl rfl rfl (by rw [hsb]; decide) (e:=3) Tryz.underlying67 eo3 j78 (IsV.rd j82) hx17 fun b2 q2 hsz hdf hoth hch hown hob=>?_
        have hle:=hch.le hns
        have yn:Lo k0 (obF (b2.get 83)):=y78.app hgq hob
        have v8:Apart (obF (b.get 8)) (obF (b2.get 83)):=Apart.app w8_78 j8.ltF hob
        replace j4:=Pers.pers hle j4
        replace j7:=Pers.pers hle j7
        replace j8:=j8.keep hch w8_78 hns
        replace j9:=Pers.pers hle j9
        replace j37:=Pers.pers hle j37
        replace j38:=Pers.pers hle j38
        replace j41:=Pers.pers hle j41
        replace j42:=Pers.pers hle j42
        replace j43:=Pers.pers hle j43
        replace j82:=Pers.pers hle j82
        replace hgq:=hgq.step hch y78.wr
        rw [← hoth 4 (by decide)] at j4
        rw [← hoth 7 (by decide)] at j7
        rw [← hoth 8 (by decide)] at j8
        rw [← hoth 8 (by decide)] at y8
        rw [← hoth 9 (by decide)] at j9
        rw [← hoth 37 (by decide)] at j37
        rw [← hoth 38 (by decide)] at j38
        rw [← hoth 41 (by decide)] at j41
        rw [← hoth 42 (by decide)] at j42
        rw [← hoth 43 (by decide)] at j43
        rw [← hoth 82 (by decide)] at j82
        rw [← hoth 8 (by decide)] at v8
        have w8_83:=v8
        have j83:=hown
        have y83:=yn
        replace hsb:=hsz.trans hsb
        replace hdb:=hdf.trans hdb
        clear hle hch hown hob hns yn hsz hdf hoth
        obtain ⟨b,hbb⟩ : ∃ b,b = b2:=⟨b2,rfl⟩
        subst hbb
        obtain ⟨q,hqq⟩ : ∃ q,q = q2:=⟨q2,rfl⟩
        subst hqq
        refine tail_assign (i:=6) (d:=10) rfl rfl (.inl rfl) rfl (by rw [hsb]; decide) fun b2 hsz hdf hnew hoth=>?_
        have jn:(IsOwn 0 3 x17) (b2.get 10) q:=by rw [hnew]; exact j83
        have yn:Lo k0 (obF (b2.get 10)):=by rw [hnew]; exact y83
        have v8:Apart (obF (b.get 8)) (obF (b2.get 10)):=by rw [hnew]; exact w8_83
        rw [← hoth 4 (by decide)] at j4
        rw [← hoth 7 (by decide)] at j7
        rw [← hoth 8 (by decide)] at j8
        rw [← hoth 8 (by decide)] at y8
        rw [← hoth 9 (by decide)] at j9
        rw [← hoth 37 (by decide)] at j37
        rw [← hoth 38 (by decide)] at j38
        rw [← hoth 41 (by decide)] at j41
        rw [← hoth 42 (by decide)] at j42
        rw [← hoth 43 (by decide)] at j43
        rw [← hoth 82 (by decide)] at j82
        rw [← hoth 8 (by decide)] at v8
        have w8_10:=v8
        have j10:=jn
        have y10:=yn
        replace hsb:=hsz.trans hsb
        replace hdb:=hdf.trans hdb
        clear hsz hdf hoth
        obtain ⟨b,hbb⟩ : ∃ b,b = b2:=⟨b2,rfl⟩
        subst hbb
        exact tail_done (k:=q) (w22 _ _ ⟨⟨hgq,hsb,hdb⟩,j4,j7,j8,y8,j9,j10,y10,j37,j38,j41,j42,j43,w8_10,trivial⟩)
       rintro a k ⟨⟨hg,hs,hd⟩,i4,i7,i8,n8,i9,i10,n10,i37,i38,i41,i42,i43,d8_10,_⟩
       obtain rfl:=Option.some.inj hr
       exact w21 _ _ ⟨⟨hg,hs,hd⟩,i4,i7,i8,n8,i9,i10,n10,i37,i38,i41,i42,i43,d8_10,trivial⟩
      rw [if_neg (by rw [hc397]; decide)] at hr
      refine wp_skip ?_
      obtain rfl:=Option.some.inj hr
      exact w21 _ _ ⟨⟨hg,hs,hd⟩,i4,i7,i8,n8,i9,i10,n10,i37,i38,i41,i42,i43,d8_10,trivial⟩
     clear hs5
     rintro a k ⟨⟨hg,hs,hd⟩,i4,i7,i8,n8,i9,i10,n10,i37,i38,i41,i42,i43,d8_10,_⟩
     obtain ⟨x18,hx18,hr⟩:=bind_some hr
     refine cut (fun a' k'=>Bs noF k0 121 a' k'∧(IsV x7) (a'.get 4) k'∧(IsV x8) (a'.get 7) k'∧IsOwn 0 79 s3.1 (a'.get 8) k'∧Lo k0 (obF (a'.get 8))∧(IsV s3.2) (a'.get 9) k'∧IsOwn 0 3 s5 (a'.get 10) k'∧Lo k0 (obF (a'.get 10))∧(IsV x9) (a'.get 37) k'∧(IsV s3.2) (a'.get 38) k'∧(IsV x8) (a'.get 41) k'∧(IsL x8) (a'.get 42) k'∧(IsV x18) (a'.get 43) k'∧Apart (obF (a'.get 8)) (obF (a'.get 10))∧True) ?_ hQ ?_
     ·intro Q26 W26 w23
      refine gS 2 (_::_::[]) hs (by kernel_rfl) ⟨o1 [(43,none)] rfl fun _ _ h n=>ok_add rfl (up i43 h n.1) (cI rfl) hx18,cm 0 rfl rfl,trivial⟩ W26 fun b q p=>?_
      exact tail_done (k:=q) (w23 _ _ ⟨Bs.post ⟨hg,hs,hd⟩ p,p.ke 4 rfl i4,p.ke 7 rfl i7,p.ke 8 rfl i8,(by rw [p.old 8 rfl]; exact n8),p.ke 9 rfl i9,p.ke 10 rfl i10,(by rw [p.old 10 rfl]; exact n10),p.ke 37 rfl i37,p.ke 38 rfl i38,p.ke 41 rfl i41,p.ke 42 rfl i42,p.ou 1 43 rfl,(by rw [p.old 8 rfl,p.old 10 rfl]; exact d8_10),trivial⟩)
     rintro a k ⟨⟨hg,hs,hd⟩,i4,i7,i8,n8,i9,i10,n10,i37,i38,i41,i42,i43,d8_10,_⟩
     exact hgo386 _ _ _ (Option.some.inj hr).symm ⟨⟨hg,hs,hd⟩,i4,i7,i8,n8,i9,i10,n10,i37,i38,i41,i42,i43,d8_10,trivial⟩
    rw [if_neg (by rw [hc406]; decide)] at hr
    refine wp_exit ?_
    exact hex387 _ _ _ _ (Option.some.inj hr).symm ⟨rfl,⟨hg,hs,hd⟩,i4,i7,i8,n8,i9,i10,n10,i37,i38,d8_10,trivial⟩
   ·rintro r2 a k rfl hR
    dsimp only at hr
    exact hret380 _ _ _ (Option.some.inj hr).symm hR
   ·rintro _ _ _ rfl _
    simp at hr
   clear hf3
   rintro _ s6 a k rfl ⟨rfl,⟨hg,hs,hd⟩,i4,i7,i8,n8,i9,i10,n10,i37,i38,d8_10,_⟩
   dsimp only at hr
   refine wp_seq ?_
   obtain ⟨x19,hx19,hr⟩:=bind_some hr
   refine cut (fun a' k'=>Bs noF k0 121 a' k'∧(IsV x7) (a'.get 4) k'∧(IsV x8) (a'.get 7) k'∧IsOwn 0 79 s3.1 (a'.get 8) k'∧Lo k0 (obF (a'.get 8))∧(IsV s3.2) (a'.get 9) k'∧IsOwn 0 3 x19 (a'.get 10) k'∧Lo k0 (obF (a'.get 10))∧(IsV x9) (a'.get 37) k'∧(IsV s3.2) (a'.get 38) k'∧Apart (obF (a'.get 8)) (obF (a'.get 10))∧True) ?_ hQ ?_
   ·intro Q27 W27 w24
    refine gS 1 (⟨some (OwnAt (a.get 10) 0 3 s6.1),[(10,none)]⟩::[]) hs (by kernel_rfl) ⟨ob1 rfl fun _ _ h n=>ok_moveOA (.inl rfl) (ownAt n.1 (up i10 h n.1)),trivial⟩ W27 fun b q p=>?_
    have hgq:=hg.then p.grow
    have hsb:=p.size.trans hs
    have hdb:=p.defers.trans hd
    have j4:=p.ke 4 rfl i4
    have j7:=p.ke 7 rfl i7
    have j8:=p.ke 8 rfl i8
    have y8:Lo k0 (obF (b.get 8)):=by rw [p.old 8 rfl]; exact n8
    have j9:=p.ke 9 rfl i9
    have j10:=p.ke 10 rfl i10
    have y10:Lo k0 (obF (b.get 10)):=by rw [p.old 10 rfl]; exact n10
    have j37:=p.ke 37 rfl i37
    have j38:=p.ke 38 rfl i38
    have e85:b.get 85 = a.get 10:=(p.ou 0 85 rfl).1
    have j85:IsOwn 0 3 s6.1 (b.get 85) q:=(p.ou 0 85 rfl).2
    have y85:Lo k0 (obF (b.get 85)):=by rw [e85]; exact n10
    have w8_10:Apart (obF (b.get 8)) (obF (b.get 10)):=by rw [p.old 8 rfl,p.old 10 rfl]; exact d8_10
    have w8_85:Apart (obF (b.get 8)) (obF (b.get 85)):=by rw [p.old 8 rfl,e85]; exact d8_10
    have hns:=j85.nshF
    have eS:b.get 10 = b.get 85:=(p.old 10 rfl).trans e85.symm
    refine tail_call (F:=obF (b.get 85)) (i:=1) (d:=86) rfl rfl rfl rfl (by rw [hsb]; decide) Tryz.call101 W27 (sortInts_ok j85 hx19) fun b2 q2 hsz hdf hoth hch hres=>?_
    have hle:=hch.le hns
    replace j4:=Pers.pers hle j4
    replace j7:=Pers.pers hle j7
    replace j8:=j8.keep hch w8_85 hns
    replace j9:=Pers.pers hle j9
    replace j37:=Pers.pers hle j37
    replace j38:=Pers.pers hle j38
    replace hgq:=hgq.step hch y85.wr
    replace j10:IsOwn 0 3 x19 (b.get 10) q2:=by rw [eS]; exact hres
    clear hres eS
    rw [← hoth 4 (by decide)] at j4
    rw [← hoth 7 (by decide)] at j7
    rw [← hoth 8 (by decide)] at j8
    rw [← hoth 8 (by decide)] at y8
    rw [← hoth 9 (by decide)] at j9
    rw [← hoth 10 (by decide)] at j10
    rw [← hoth 10 (by decide)] at y10
    rw [← hoth 37 (by decide)] at j37
    rw [← hoth 38 (by decide)] at j38
    rw [← hoth 8 (by decide),← hoth 10 (by decide)] at w8_10
    replace hsb:=hsz.trans hsb
    replace hdb:=hdf.trans hdb
    clear hle hch hns hsz hdf hoth
    obtain ⟨b,hbb⟩ : ∃ b,b = b2:=⟨b2,rfl⟩
    subst hbb
    obtain ⟨q,hqq⟩ : ∃ q,q = q2:=⟨q2,rfl⟩
    subst hqq
    exact tail_done (k:=q) (w24 _ _ ⟨⟨hgq,hsb,hdb⟩,j4,j7,j8,y8,j9,j10,y10,j37,j38,w8_10,trivial⟩)
   rintro a k ⟨⟨hg,hs,hd⟩,i4,i7,i8,n8,i9,i10,n10,i37,i38,d8_10,_⟩
   refine wp_seq ?_
   obtain ⟨kk,sh412,ii10⟩:=i10.give
   replace i4:=Pers.pers sh412.le i4
   replace i7:=Pers.pers sh412.le i7
   replace i8:=i8.handed sh412 d8_10
   replace i9:=Pers.pers sh412.le i9
   replace i37:=Pers.pers sh412.le i37
   replace i38:=Pers.pers sh412.le i38
   replace i10:=ii10
   replace hg:=hg.hand sh412 n10.wr
   rw [← sh412.w]
   clear sh412
   obtain ⟨k,hkk⟩ : ∃ k,k = kk:=⟨kk,rfl⟩
   subst hkk
   refine cut (fun a' k'=>Bs noF k0 121 a' k'∧(IsV x7) (a'.get 4) k'∧(IsV x8) (a'.get 7) k'∧IsOwn 0 79 s3.1 (a'.get 8) k'∧Lo k0 (obF (a'.get 8))∧(IsV s3.2) (a'.get 9) k'∧(IsV x19) (a'.get 10) k'∧(IsI 0) (a'.get 13) k'∧(IsV x9) (a'.get 37) k'∧(IsV s3.2) (a'.get 38) k'∧True) ?_ hQ ?_
   ·intro Q28 W28 w25
    refine gS 1 (⟨some (IsI 0),[]⟩::[]) hs (by kernel_rfl) ⟨aI rfl rfl,trivial⟩ W28 fun b q p=>?_
    exact tail_done (k:=q) (w25 _ _ ⟨Bs.post ⟨hg,hs,hd⟩ p,p.ke 4 rfl i4,p.ke 7 rfl i7,p.ke 8 rfl i8,(by rw [p.old 8 rfl]; exact n8),p.ke 9 rfl i9,p.ke 10 rfl i10,p.ou 0 13 rfl,p.ke 37 rfl i37,p.ke 38 rfl i38,trivial⟩)
   rintro a k ⟨⟨hg,hs,hd⟩,i4,i7,i8,n8,i9,i10,i13,i37,i38,_⟩
   refine wp_block ?_
   obtain ⟨f4,hf4,hr⟩:=bind_some hr
   refine cutFe f4 (fun s' c l=>Bs noF k0 121 c l∧IsV x7 (c.get 4) l∧IsV x8 (c.get 7) l∧IsOwn 0 79 s'.1 (c.get 8) l∧Lo k0 (obF (c.get 8))∧IsV s3.2 (c.get 9) l∧IsV x19 (c.get 10) l∧IsV s'.2 (c.get 13) l∧IsV x9 (c.get 37) l∧IsV s3.2 (c.get 38) l∧True) (fun i' s' c l=>(i' = 6∧Bs noF k0 121 c l∧IsV x7 (c.get 4) l∧IsV x8 (c.get 7) l∧IsOwn 0 79 s'.1 (c.get 8) l∧Lo k0 (obF (c.get 8))∧IsV x9 (c.get 37) l∧IsV s3.2 (c.get 38) l∧True)) (fun r' c l=>bodyPost Tryz.prog Tryz.f76 (RetC noF k0 (IsTup2 (IsV r'.1) (IsV r'.2))) .ret c l.w) ?_ hQ ?_ ?_ ?_
   ·intro Q29 W29 hgo hex hret
    refine sim_loop ?_ _ _ _ _ _ hf4 ⟨⟨hg,hs,hd⟩,i4,i7,i8,n8,i9,i10,i13,i37,i38,trivial⟩ Q29 W29 hgo hex hret
    clear hr hf4 hgo hex hret W29 hQ hg hs hd i10 i13 i37 i38 i4 i7 i8 i9 n8
    intro s7 fl_ a k hr hS Q hQ hgo415 hex416 hret417
    obtain ⟨⟨hg,hs,hd⟩,i4,i7,i8,n8,i9,i10,i13,i37,i38,_⟩:=hS
    unfold polygon_Region_L3 at hr
    refine wp_seq ?_
    refine wp_seq ?_
    obtain ⟨x20,hx20,hr⟩:=bind_some hr
    refine cut (fun a' k'=>Bs noF k0 121 a' k'∧(IsV x7) (a'.get 4) k'∧(IsV x8) (a'.get 7) k'∧IsOwn 0 79 s7.1 (a'.get 8) k'∧Lo k0 (obF (a'.get 8))∧(IsV s3.2) (a'.get 9) k'∧(IsV x19) (a'.get 10) k'∧(IsV s7.2) (a'.get 13) k'∧(IsV x9) (a'.get 37) k'∧(IsV s3.2) (a'.get 38) k'∧(IsV (decide (x20 < (x19.length:Int)))) (a'.get 91) k'∧True) ?_ hQ ?_
    ·intro Q30 W30 w26
     refine gS 5 (_::_::_::_::_::[]) hs (by kernel_rfl) ⟨mu rfl i13,o1 [(87,some 0)] rfl fun _ _ h n=>ok_add rfl n.1 (cI rfl) hx20,mu rfl i10,o1 [(89,some 2)] rfl fun _ _ h n=>ok_len rfl rfl Tryz.underlying67 (IsV.rd n.1),o1 [(88,some 1),(90,some 3)] rfl fun _ _ h n=>ok_lss rfl n.1 n.2.1,trivial⟩ W30 fun b q p=>?_
     exact tail_done (k:=q) (w26 _ _ ⟨Bs.post ⟨hg,hs,hd⟩ p,p.ke 4 rfl i4,p.ke 7 rfl i7,p.ke 8 rfl i8,(by rw [p.old 8 rfl]; exact n8),p.ke 9 rfl i9,p.ke 10 rfl i10,p.ke 13 rfl i13,p.ke 37 rfl i37,p.ke 38 rfl i38,p.ou 4 91 rfl,trivial⟩)
    rintro a k ⟨⟨hg,hs,hd⟩,i4,i7,i8,n8,i9,i10,i13,i37,i38,i91,_⟩
    refine wp_cond_split (isBool i91) (fun hc425=>?_) (fun hc425=>?_)
    ·rw [if_pos hc425] at hr
     refine wp_skip ?_
     refine wp_seq ?_
     refine wp_block ?_
     obtain ⟨x21,hx21,hr⟩:=bind_some hr
     obtain ⟨x22,hx22,hr⟩:=bind_some hr
     obtain ⟨x23,hx23,hr⟩:=bind_some hr
     obtain ⟨x24,hx24,hr⟩:=bind_some hr
     obtain ⟨x25,hx25,hr⟩:=bind_some hr
     obtain ⟨x26,hx26,hr⟩:=bind_some hr
     obtain ⟨x27,hx27,hr⟩:=bind_some hr
     refine cut (fun a' k'=>Bs noF k0 121 a' k'∧(IsV x7) (a'.get 4) k'∧(IsV x8) (a'.get 7) k'∧IsOwn 0 79 x27 (a'.get 8) k'∧Lo k0 (obF (a'.get 8))∧(IsV s3.2) (a'.get 9) k'∧(IsV x19) (a'.get 10) k'∧(IsV s7.2) (a'.get 13) k'∧(IsV x9) (a'.get 37) k'∧(IsV s3.2) (a'.get 38) k'∧True) ?_ hQ ?_
     ·intro Q31 W31 w27
      refine region (m:=21) (⟨some (OwnAt (a.get 8) 0 79 s7.1),[(8,none)]⟩::_::_::_::_::_::_::_::_::_::_::_::_::_::_::_::_::_::_::⟨some (IsV (⟨x21,x22,x24,x26⟩:Rect)),[(98,some 4),(102,some 8),(107,some 13),(112,some 18)]⟩::⟨some (IsV (α:=(List Rect)) ([(⟨x21,x22,x24,x26⟩:Rect)])),[(113,some 19)]⟩::[]) hmix hs (by kernel_rfl) ⟨ob1 rfl fun _ _ h n=>ok_moveOA (.inl rfl) (ownAt n.1 (up i8 h n.1)),mu rfl i4,mu rfl i9,o1 [(95,some 1),(96,some 2)] rfl fun _ _ h n=>ok_indexAddr rfl Tryz.underlying67 ty3 (IsV.rd n.1) n.2.1 hx21,o1 [(97,some 3)] rfl fun _ _ h n=>ok_load rfl ty3 n.1,mu rfl i10,mu rfl i13,o1 [(99,some 5),(100,some 6)] rfl fun _ _ h n=>ok_indexAddr rfl Tryz.underlying67 ty3 (IsV.rd n.1) n.2.1 hx22,o1 [(101,some 7)] rfl fun _ _ h n=>ok_load rfl ty3 n.1,mu rfl i4,mu rfl i9,o1 [(104,some 10)] rfl fun _ _ h n=>ok_add rfl n.1 (cI rfl) hx23,o1 [(103,some 9),(105,some 11)] rfl fun _ _ h n=>ok_indexAddr rfl Tryz.underlying67 ty3 (IsV.rd n.1) n.2.1 hx24,o1 [(106,some 12)] rfl fun _ _ h n=>ok_load rfl ty3 n.1,mu rfl i10,mu rfl i13,o1 [(109,some 15)] rfl fun _ _ h n=>ok_add rfl n.1 (cI rfl) hx25,o1 [(108,some 14),(110,some 16)] rfl fun _ _ h n=>ok_indexAddr rfl Tryz.underlying67 ty3 (IsV.rd n.1) n.2.1 hx26,o1 [(111,some 17)] rfl fun _ _ h n=>ok_load rfl ty3 n.1,ob1 rfl fun _ _ h n=>ok_build rfl (bld79_0_1_2_3 n.1 n.2.1 n.2.2.1 n.2.2.2.1),ob1 rfl fun _ _ h n=>ok_buildSlice rfl Tryz.underlying130 eo79 rfl (by decide) (by decide) ⟨rfl,n.1,trivial⟩,trivial⟩ W31 fun b q p=>?_
      have hgq:=hg.then p.grow
      have hsb:=p.size.trans hs
      have hdb:=p.defers.trans hd
      have j4:=p.ke 4 rfl i4
      have j7:=p.ke 7 rfl i7
      have j9:=p.ke 9 rfl i9
      have j10:=p.ke 10 rfl i10
      have j13:=p.ke 13 rfl i13
      have j37:=p.ke 37 rfl i37
      have j38:=p.ke 38 rfl i38
      have e94:b.get 94 = a.get 8:=(p.ou 0 94 rfl).1
      have j94:IsOwn 0 79 s7.1 (b.get 94) q:=(p.ou 0 94 rfl).2
      have y94:Lo k0 (obF (b.get 94)):=by rw [e94]; exact n8
      have j114:(IsV (α:=(List Rect)) ([(⟨x21,x22,x24,x26⟩:Rect)])) (b.get 114) q:=p.ou 20 114 rfl
      have hns:=j94.nshF
      refine tail_appendS (i:=21) (d:=115) rfl rfl rfl rfl (by rw [hsb]; decide) (e:=79) Tryz.underlying130 eo79 j94 (IsV.rd j114) hx27 fun b2 q2 hsz hdf hoth hch hown hob=>?_
      have hle:=hch.le hns
      have yn:Lo k0 (obF (b2.get 115)):=y94.app hgq hob
      replace j4:=Pers.pers hle j4
      replace j7:=Pers.pers hle j7
      replace j9:=Pers.pers hle j9
      replace j10:=Pers.pers hle j10
      replace j13:=Pers.pers hle j13
      replace j37:=Pers.pers hle j37
      replace j38:=Pers.pers hle j38
      replace j114:=Pers.pers hle j114
      replace hgq:=hgq.step hch y94.wr
      rw [← hoth 4 (by decide)] at j4
      rw [← hoth 7 (by decide)] at j7
      rw [← hoth 9 (by decide)] at j9
      rw [← hoth 10 (by decide)] at j10
      rw [← hoth 13 (by decide)] at j13
      rw [← hoth 37 (by decide)] at j37
      rw [← hoth 38 (by decide)] at j38
      rw [← hoth 114 (by decide)] at j114
      have j115:=hown
      have y115:=yn
      replace hsb:=hsz.trans hsb
      replace hdb:=hdf.trans hdb
      clear hle hch hown hob hns yn hsz hdf hoth
      obtain ⟨b,hbb⟩ : ∃ b,b = b2:=⟨b2,rfl⟩
      subst hbb
      obtain ⟨q,hqq⟩ : ∃ q,q = q2:=⟨q2,rfl⟩
      subst hqq
      refine tail_assign (i:=22) (d:=8) rfl rfl (.inl rfl) rfl (by rw [hsb]; decide) fun b2 hsz hdf hnew hoth=>?_
      have jn:(IsOwn 0 79 x27) (b2.get 8) q:=by rw [hnew]; exact j115
      have yn:Lo k0 (obF (b2.get 8)):=by rw [hnew]; exact y115
      rw [← hoth 4 (by decide)] at j4
      rw [← hoth 7 (by decide)] at j7
      rw [← hoth 9 (by decide)] at j9
      rw [← hoth 10 (by decide)] at j10
      rw [← hoth 13 (by decide)] at j13
      rw [← hoth 37 (by decide)] at j37
      rw [← hoth 38 (by decide)] at j38
      rw [← hoth 114 (by decide)] at j114
      have j8:=jn
      have y8:=yn
      replace hsb:=hsz.trans hsb
      replace hdb:=hdf.trans hdb
      clear hsz hdf hoth
      obtain ⟨b,hbb⟩ : ∃ b,b = b2:=⟨b2,rfl⟩
      subst hbb
      exact tail_done (k:=q) (w27 _ _ ⟨⟨hgq,hsb,hdb⟩,j4,j7,j8,y8,j9,j10,j13,j37,j38,trivial⟩)
     rintro a k ⟨⟨hg,hs,hd⟩,i4,i7,i8,n8,i9,i10,i13,i37,i38,_⟩
     obtain ⟨x28,hx28,hr⟩:=bind_some hr
     refine cut (fun a' k'=>Bs noF k0 121 a' k'∧(IsV x7) (a'.get 4) k'∧(IsV x8) (a'.get 7) k'∧IsOwn 0 79 x27 (a'.get 8) k'∧Lo k0 (obF (a'.get 8))∧(IsV s3.2) (a'.get 9) k'∧(IsV x19) (a'.get 10) k'∧(IsV x28) (a'.get 13) k'∧(IsV x9) (a'.get 37) k'∧(IsV s3.2) (a'.get 38) k'∧True) ?_ hQ ?_
     ·intro Q32 W32 w28
      refine gS 3 (_::_::_::[]) hs (by kernel_rfl) ⟨mu rfl i13,o1 [(92,some 0)] rfl fun _ _ h n=>ok_add rfl n.1 (cI rfl) hx28,cp 1 rfl rfl,trivial⟩ W32 fun b q p=>?_
      exact tail_done (k:=q) (w28 _ _ ⟨Bs.post ⟨hg,hs,hd⟩ p,p.ke 4 rfl i4,p.ke 7 rfl i7,p.ke 8 rfl i8,(by rw [p.old 8 rfl]; exact n8),p.ke 9 rfl i9,p.ke 10 rfl i10,p.ou 2 13 rfl,p.ke 37 rfl i37,p.ke 38 rfl i38,trivial⟩)
     rintro a k ⟨⟨hg,hs,hd⟩,i4,i7,i8,n8,i9,i10,i13,i37,i38,_⟩
     exact hgo415 _ _ _ (Option.some.inj hr).symm ⟨⟨hg,hs,hd⟩,i4,i7,i8,n8,i9,i10,i13,i37,i38,trivial⟩
    rw [if_neg (by rw [hc425]; decide)] at hr
    refine wp_exit ?_
    exact hex416 _ _ _ _ (Option.some.inj hr).symm ⟨rfl,⟨hg,hs,hd⟩,i4,i7,i8,n8,i37,i38,trivial⟩
   ·rintro r3 a k rfl hR
    dsimp only at hr
    exact hret380 _ _ _ (Option.some.inj hr).symm hR
   ·rintro _ _ _ rfl _
    simp at hr
   clear hf4
   rintro _ s8 a k rfl ⟨rfl,⟨hg,hs,hd⟩,i4,i7,i8,n8,i37,i38,_⟩
   dsimp only at hr
   obtain ⟨x29,hx29,hr⟩:=bind_some hr
   refine cut (fun a' k'=>Bs noF k0 121 a' k'∧(IsV x7) (a'.get 4) k'∧(IsV x8) (a'.get 7) k'∧IsOwn 0 79 s8.1 (a'.get 8) k'∧Lo k0 (obF (a'.get 8))∧(IsV x9) (a'.get 37) k'∧(IsV x29) (a'.get 38) k'∧True) ?_ hQ ?_
   ·intro Q33 W33 w29
    refine gS 2 (_::_::[]) hs (by kernel_rfl) ⟨o1 [(38,none)] rfl fun _ _ h n=>ok_add rfl (up i38 h n.1) (cI rfl) hx29,cm 0 rfl rfl,trivial⟩ W33 fun b q p=>?_
    exact tail_done (k:=q) (w29 _ _ ⟨Bs.post ⟨hg,hs,hd⟩ p,p.ke 4 rfl i4,p.ke 7 rfl i7,p.ke 8 rfl i8,(by rw [p.old 8 rfl]; exact n8),p.ke 37 rfl i37,p.ou 1 38 rfl,trivial⟩)
   rintro a k ⟨⟨hg,hs,hd⟩,i4,i7,i8,n8,i37,i38,_⟩
   exact hgo378 _ _ _ (Option.some.inj hr).symm ⟨⟨hg,hs,hd⟩,i4,i7,i8,n8,i37,i38,trivial⟩
  rw [if_neg (by rw [hc448]; decide)] at hr
  refine wp_exit ?_
  obtain ⟨kk,sh447,ii8⟩:=i8.give
  replace i8:=ii8
  replace hg:=hg.hand sh447 n8.wr
  rw [← sh447.w]
  clear sh447
  obtain ⟨k,hkk⟩ : ∃ k,k = kk:=⟨kk,rfl⟩
  subst hkk
  exact hex379 _ _ _ _ (Option.some.inj hr).symm ⟨rfl,⟨hg,hs,hd⟩,i8,trivial⟩
 ·rintro r4 a k rfl hR
  dsimp only at hr
  obtain rfl:=Option.some.inj hr
  exact hR
 ·rintro _ _ _ rfl _
  simp at hr
 clear hf2
 rintro _ s9 a k rfl ⟨rfl,⟨hg,hs,hd⟩,i8,_⟩
 dsimp only at hr
 refine wp_seq ?_
 refine stepL 3 (_::_::_::[]) rfl ⟨hg,hs,hd⟩ (by kernel_rfl) ⟨mu rfl i8,o1 [(117,some 0)] rfl fun _ _ h n=>ok_len rfl rfl Tryz.underlying130 (IsV.rd n.1),o1 [(118,some 1)] rfl fun _ _ h n=>ok_gtr rfl n.1 (cI rfl),trivial⟩ [⟨_,_⟩,⟨_,_⟩] (fun b q p=>⟨p.ke 8 rfl i8,p.ou 2 119 rfl,trivial⟩) ?_
 rintro a k ⟨⟨hg,hs,hd⟩,i8,i119,_⟩
 refine wp_cond_split (isBool i119) (fun hc460=>?_) (fun hc460=>?_)
 ·rw [if_pos hc460] at hr
  refine cutL noF k0 121 [⟨2,IsV ([]:List Rect)⟩,⟨3,IsI 6⟩] ?_ ?_
  ·intro Q34 W34 w30
   refine gS 2 (⟨some IsE0,[]⟩::⟨some (IsI 6),[]⟩::[]) hs (by kernel_rfl) ⟨ob1 rfl fun b q h n=>ok_assign rfl isE0_nil,aI rfl rfl,trivial⟩ W34 fun b q p=>?_
   have hgq:=hg.then p.grow
   have hsb:=p.size.trans hs
   have hdb:=p.defers.trans hd
   have j2:IsE0 (b.get 2) q:=p.ou 0 2 rfl
   have j3:(IsI 6) (b.get 3) q:=p.ou 1 3 rfl
   replace j2:IsV ([]:List Rect) (b.get 2) q:=j2.isV
   exact tail_done (k:=q) (w30 _ _ ⟨⟨hgq,hsb,hdb⟩,j2,j3,trivial⟩)
  rintro a k ⟨⟨hg,hs,hd⟩,i2,i3,_⟩
  refine wp_ret ?_
  obtain rfl:=Option.some.inj hr
  exact retC2 rfl hd hg i2 i3
 rw [if_neg (by rw [hc460]; decide)] at hr
 refine wp_skip ?_
 refine stepL 3 (_::_::⟨some (IsI 0),[]⟩::[]) rfl ⟨hg,hs,hd⟩ (by kernel_rfl) ⟨mu rfl i8,cp 0 rfl rfl,aI rfl rfl,trivial⟩ [⟨_,_⟩,⟨_,_⟩] (fun b q p=>⟨p.ou 1 2 rfl,p.ou 2 3 rfl,trivial⟩) ?_
 rintro a k ⟨⟨hg,hs,hd⟩,i2,i3,_⟩
 refine wp_ret ?_
 obtain rfl:=Option.some.inj hr
 exact retC2 rfl hd hg i2 i3
noncomputable def k76:=mkO 76 [.list (.st 1)] [.list (.st 2),.int] (fun x=>polygon_Region x) Tryz.call76 fun k0 vs x r hG h hr=>by obtain ⟨v0,rfl,i0⟩:=h.one; exact ret2F (T:=tb) (polygon_Region_ok i0 hr)
def rect_checked (r_:Rect):Option (Rect × Bool):=
 (rect_Right r_).bind fun x1=>
 if x1 then
  some (r_,true)
 else
  some ((⟨0,0,0,0⟩:Rect),false)
noncomputable def k105:=mk 105 [.st 2] [.st 2,.bool] (fun x=>rect_checked x) [k99] [2] Tryz.f105 (.n) Tryz.func105 Tryz.call105 rfl rfl fun x=>by kernel_rfl
def rect_Intersect (a_:Rect) (b_:Rect):Option (Rect × Bool):=
 (rect_Right a_).bind fun x1=>
 (if (!x1) then
  some true
 else
  (rect_Right b_).bind fun x2=>
  some (!x2)).bind fun x3=>
 if x3 then
  some ((⟨0,0,0,0⟩:Rect),false)
 else
  (rect_checked (⟨(max a_.X0 b_.X0),(max a_.Y0 b_.Y0),(min a_.X1 b_.X1),(min a_.Y1 b_.Y1)⟩:Rect)).bind fun x4=>
  some (x4.1,x4.2)
noncomputable def k78:=mk 78 [.st 2,.st 2] [.st 2,.bool] (fun x=>rect_Intersect x.1 x.2) [k99,k105] [4] Tryz.f78 (.n) Tryz.func78 Tryz.call78 rfl rfl fun x=>by kernel_rfl
def slices_IndexFunc_Rect_L0 (s_:(List Rect)) (f_:(Rect → Option (Bool))) (s1:Int):Option (Flow (Int) (Int)):=
 if (decide (s1 < (s_.length:Int))) then
  (getI s_ s1).bind fun x1=>
  (f_ x1).bind fun x2=>
  if x2 then
   some (.ret s1)
  else
   (addI s1 1).bind fun x3=>
   some (.go x3)
 else
  some (.ex 0 s1)
def slices_IndexFunc_Rect (s_:(List Rect)) (f_:(Rect → Option (Bool))):Option (Int):=
 (iterL (slices_IndexFunc_Rect_L0 s_ f_) (s_.length + 1) 0).bind fun f1=>match f1 with
  | .go _=>none
  | .ex _ _=>
   some (-1)
  | .ret r1=>some r1
noncomputable def k106:=mk 106 [.list (.st 2),.f1 (.st 2) .bool] [.int] (fun x=>slices_IndexFunc_Rect x.1 x.2) [] [] Tryz.f106 (.s .n (.s (.s .n (.l [] [(8,.v .int)] [(0,[8],[])] (fI 7) .n)) .n)) Tryz.func106 Tryz.call106 rfl rfl fun x=>by kernel_rfl
def slices_ContainsFunc_Rect (s_:(List Rect)) (f_:(Rect → Option (Bool))):Option (Bool):=
 (slices_IndexFunc_Rect s_ f_).bind fun x1=>
 some (decide (0 ≤ x1))
noncomputable def k79:=mk 79 [.list (.st 2),.f1 (.st 2) .bool] [.bool] (fun x=>slices_ContainsFunc_Rect x.1 x.2) [k106] [] Tryz.f79 (.n) Tryz.func79 Tryz.call79 rfl rfl fun x=>by kernel_rfl
def slices_IndexFunc_Entry_L0 (s_:(List Entry)) (f_:(Entry → Option (Bool))) (s1:Int):Option (Flow (Int) (Int)):=
 if (decide (s1 < (s_.length:Int))) then
  (getI s_ s1).bind fun x1=>
  (f_ x1).bind fun x2=>
  if x2 then
   some (.ret s1)
  else
   (addI s1 1).bind fun x3=>
   some (.go x3)
 else
  some (.ex 0 s1)
def slices_IndexFunc_Entry (s_:(List Entry)) (f_:(Entry → Option (Bool))):Option (Int):=
 (iterL (slices_IndexFunc_Entry_L0 s_ f_) (s_.length + 1) 0).bind fun f1=>match f1 with
  | .go _=>none
  | .ex _ _=>
   some (-1)
  | .ret r1=>some r1
noncomputable def k133:=mk 133 [.list (.st 6),.f1 (.st 6) .bool] [.int] (fun x=>slices_IndexFunc_Entry x.1 x.2) [] [] Tryz.f133 (.s .n (.s (.s .n (.l [] [(8,.v .int)] [(0,[8],[])] (fI 7) .n)) .n)) Tryz.func133 Tryz.call133 rfl rfl fun x=>by kernel_rfl
theorem slices_IndexFunc_Entry_ok {k0:K} {v0 v1:Value} {x0:(List Entry)} {x1:(Entry → Option (Bool))} {r:Int} (i0:(IsV x0) v0 k0) (i1:(IsFn1 Tryz.prog x1) v1 k0) (hr:slices_IndexFunc_Entry x0 x1 = some r):Calls Tryz.prog 133 #[v0,v1] k0.w (Ret k0 (IsV r)):=(k133.ok.ok k0 [v0,v1] (x0,x1) r (GOk.none (fun _=>rfl) fun _ e=>by cases e) ⟨i0,(isV_f1T.2 i1)⟩ hr)
def measure_row_1 (e_:Entry) (p1_:(ByteArray × ByteArray × ByteArray × ByteArray × ByteArray × ByteArray)) (p2_:Int):Option (Bool):=
 (getI ([p1_.1,p1_.2.1,p1_.2.2.1,p1_.2.2.2.1,p1_.2.2.2.2.1,p1_.2.2.2.2.2]:List ByteArray) p2_).bind fun x1=>
 some ((e_.Name.toList == x1.toList))
theorem measure_row_1_ok {k0:K} {v0 v1 v2:Value} {e_:Entry} {p1_:(ByteArray × ByteArray × ByteArray × ByteArray × ByteArray × ByteArray)} {p2_:Int} {r:Bool} (i0:(IsV e_) v0 k0) (i1:(IsRef p1_) v1 k0) (i2:(IsRef p2_) v2 k0) (hr:measure_row_1 e_ p1_ p2_ = some r) :
  Calls Tryz.prog 134 #[v0,v1,v2] k0.w (Ret k0 (IsV r)):=by
 unfold measure_row_1 at hr
 refine Ret.ofC ?_
 refine enterK Tryz.func134 rfl Tryz.ntmps134 (show 3 ≤ 11 by decide) fun a k hk0 hs hd ha=>?_
 obtain ⟨e0,e1,e2,_⟩:=ha
 replace i0:(IsV e_) (a.get 0) k:=by rw [e0,hk0]; exact i0
 replace i1:(IsRef p1_) (a.get 1) k:=by rw [e1,hk0]; exact i1
 replace i2:(IsRef p2_) (a.get 2) k:=by rw [e2,hk0]; exact i2
 have hQ:Gb.LetsOut (bodyPost Tryz.prog Tryz.f134 (RetC noF k0 (IsV r))):=letsOutC
 have hg:Chg noF k0 k:=by rw [hk0]; exact Chg.refl _ k0
 refine stepL 2 (⟨some (IsRef e_),[(0,none)]⟩::⟨some (IsV false),[]⟩::[]) rfl ⟨hg,hs,hd⟩ (by kernel_rfl) ⟨ob1 rfl fun _ _ h n=>ok_boxR rfl (up i0 h n.1),ob1 rfl fun _ _ h n=>ok_assign rfl (isV_bool.2 rfl),trivial⟩ [⟨_,_⟩,⟨_,_⟩,⟨_,_⟩] (fun b q p=>⟨p.ke 1 rfl i1,p.ke 2 rfl i2,p.ou 0 3 rfl,trivial⟩) ?_
 rintro a k ⟨⟨hg,hs,hd⟩,i1,i2,i3,_⟩
 refine wp_seq ?_
 obtain ⟨x1,hx1,hr⟩:=bind_some hr
 refine cut (fun a' k'=>Bs noF k0 11 a' k'∧(IsV ((e_.Name.toList == x1.toList))) (a'.get 4) k'∧True) ?_ hQ ?_
 ·intro Q1 W1 w1
  refine region (m:=7) (_::_::_::⟨some (IsPtr x1),[(1,none),(7,some 2)]⟩::_::⟨some (IsV ((e_.Name.toList == x1.toList))),[(6,some 1),(9,some 4)]⟩::_::[]) hmix hs (by kernel_rfl) ⟨o1 [(3,none)] rfl fun _ _ h n=>ok_fieldAddr rfl fo99_0 (at_Entry_0 _) ((up i3 h n.1)).ptr,o1 [(5,some 0)] rfl fun _ _ h n=>ok_load rfl ty9 n.1,o1 [(2,none)] rfl fun _ _ h n=>ok_load rfl ty3 ((up i2 h n.1)).ptr,ob1 rfl fun _ _ h n=>ok_arrAddrI rfl ao180 rfl (fun j hj=>match j,hj with | 0,_=>aat180_0 _ | 1,_=>aat180_1 _ | 2,_=>aat180_2 _ | 3,_=>aat180_3 _ | 4,_=>aat180_4 _ | 5,_=>aat180_5 _ | _ + 6,h=>absurd (show _ < 6 from h) (by omega)) ((up i1 h n.1)).ptr n.2.1 hx1,o1 [(8,some 3)] rfl fun _ _ h n=>ok_load rfl ty9 n.1,ob1 rfl fun _ _ h n=>ok_eqS rfl n.1 n.2.1,cp 5 rfl rfl,trivial⟩ W1 fun b q p=>?_
  exact tail_done (k:=q) (w1 _ _ ⟨Bs.post ⟨hg,hs,hd⟩ p,p.ou 6 4 rfl,trivial⟩)
 rintro a k ⟨⟨hg,hs,hd⟩,i4,_⟩
 refine wp_ret ?_
 obtain rfl:=Option.some.inj hr
 exact retC1 rfl hd hg i4
def measure_row_L0 (p_:Plan) (use_:Int) (s1:Int):Option (Flow (Int) (Int)):=
 if (decide (s1 < (p_.Tables.length:Int))) then
  (getI p_.Tables s1).bind fun x1=>
  if (!(x1.Name.toList == (⟨#[116,114,97,102,102,105,99]⟩:ByteArray).toList)) then
   (addI s1 1).bind fun x2=>
   some (.go x2)
  else
   (slices_IndexFunc_Entry x1.Rows (fun y0=>measure_row_1 y0 (((⟨#[104,111,109,101]⟩:ByteArray),(⟨#[115,104,111,112]⟩:ByteArray),(⟨#[119,111,114,107]⟩:ByteArray),(⟨#[112,97,114,107]⟩:ByteArray),(⟨#[112,108,97,110,116]⟩:ByteArray),(⟨#[104,97,108,108]⟩:ByteArray)):(ByteArray × ByteArray × ByteArray × ByteArray × ByteArray × ByteArray)) use_)).bind fun x3=>
   (if (decide (0 ≤ x3)) then
    (getI x1.Rows x3).bind fun x4=>
    some x4.N
   else
    some x1.Else).bind fun s2=>
   some (.ret (max 0 (min s2 1048576)))
 else
  some (.ex 0 s1)
def measure_row (p_:Plan) (use_:Int):Option (Int):=
 (iterL (measure_row_L0 p_ use_) (p_.Tables.length + 1) 0).bind fun f1=>match f1 with
  | .go _=>none
  | .ex _ _=>
   some 0
  | .ret r1=>some r1
theorem measure_row_ok {k0:K} {v0 v1:Value} {p_:Plan} {use_:Int} {r:Int} (i0:(IsV p_) v0 k0) (i1:(IsV use_) v1 k0) (hr:measure_row p_ use_ = some r) :
  Calls Tryz.prog 107 #[v0,v1] k0.w (Ret k0 (IsV r)):=by
 unfold measure_row at hr
 refine Ret.ofC ?_
 refine enterK Tryz.func107 rfl Tryz.ntmps107 (show 2 ≤ 39 by decide) fun a k hk0 hs hd ha=>?_
 obtain ⟨e0,e1,_⟩:=ha
 replace i0:(IsV p_) (a.get 0) k:=by rw [e0,hk0]; exact i0
 replace i1:(IsV use_) (a.get 1) k:=by rw [e1,hk0]; exact i1
 have hQ:Gb.LetsOut (bodyPost Tryz.prog Tryz.f107 (RetC noF k0 (IsV r))):=letsOutC
 have hg:Chg noF k0 k:=by rw [hk0]; exact Chg.refl _ k0
 refine stepL 3 (⟨some (IsRef p_),[(0,none)]⟩::⟨some (IsRef use_),[(1,none)]⟩::⟨some (IsI 0),[]⟩::[]) rfl ⟨hg,hs,hd⟩ (by kernel_rfl) ⟨ob1 rfl fun _ _ h n=>ok_boxR rfl (up i0 h n.1),ob1 rfl fun _ _ h n=>ok_boxR rfl (up i1 h n.1),aI rfl rfl,trivial⟩ [⟨_,_⟩,⟨_,_⟩] (fun b q p=>⟨p.ou 0 2 rfl,p.ou 1 3 rfl,trivial⟩) ?_
 rintro a k ⟨⟨hg,hs,hd⟩,i2,i3,_⟩
 refine cutL noF k0 39 [⟨2,IsRef p_⟩,⟨3,IsRef use_⟩,⟨5,IsRef (((⟨#[104,111,109,101]⟩:ByteArray),(⟨#[115,104,111,112]⟩:ByteArray),(⟨#[119,111,114,107]⟩:ByteArray),(⟨#[112,97,114,107]⟩:ByteArray),(⟨#[112,108,97,110,116]⟩:ByteArray),(⟨#[104,97,108,108]⟩:ByteArray)):(ByteArray × ByteArray × ByteArray × ByteArray × ByteArray × ByteArray))⟩] ?_ ?_
 ·intro Q1 W1 w1
  refine gS 2 (⟨some (IsV (((⟨#[104,111,109,101]⟩:ByteArray),(⟨#[115,104,111,112]⟩:ByteArray),(⟨#[119,111,114,107]⟩:ByteArray),(⟨#[112,97,114,107]⟩:ByteArray),(⟨#[112,108,97,110,116]⟩:ByteArray),(⟨#[104,97,108,108]⟩:ByteArray)):(ByteArray × ByteArray × ByteArray × ByteArray × ByteArray × ByteArray))),[]⟩::⟨some (IsBox k.w.heap.size (((⟨#[]⟩:ByteArray),(⟨#[]⟩:ByteArray),(⟨#[]⟩:ByteArray),(⟨#[]⟩:ByteArray),(⟨#[]⟩:ByteArray),(⟨#[]⟩:ByteArray)):(ByteArray × ByteArray × ByteArray × ByteArray × ByteArray × ByteArray))),[]⟩::[]) hs (by kernel_rfl) ⟨ob1 rfl fun _ _ h n=>ok_build rfl (bld180_0_1_2_3_4_5 (isV_str.2 rfl) (isV_str.2 rfl) (isV_str.2 rfl) (isV_str.2 rfl) (isV_str.2 rfl) (isV_str.2 rfl)),ob1 rfl fun _ _ h n=>ok_alloc _ h.size rfl z180,trivial⟩ W1 fun b q p=>?_
  have hgq:=hg.then p.grow
  have hsb:=p.size.trans hs
  have hdb:=p.defers.trans hd
  have j2:=p.ke 2 rfl i2
  have j3:=p.ke 3 rfl i3
  obtain ⟨b5,j5,x5,z5⟩:(IsBox k.w.heap.size (((⟨#[]⟩:ByteArray),(⟨#[]⟩:ByteArray),(⟨#[]⟩:ByteArray),(⟨#[]⟩:ByteArray),(⟨#[]⟩:ByteArray),(⟨#[]⟩:ByteArray)):(ByteArray × ByteArray × ByteArray × ByteArray × ByteArray × ByteArray))) (b.get 5) q:=p.ou 1 5 rfl
  replace x5:Lo k (Eq b5):=Lo.eq x5
  have y5:Lo k0 (Eq b5):=x5.chg hg
  have j10:(IsV (((⟨#[104,111,109,101]⟩:ByteArray),(⟨#[115,104,111,112]⟩:ByteArray),(⟨#[119,111,114,107]⟩:ByteArray),(⟨#[112,97,114,107]⟩:ByteArray),(⟨#[112,108,97,110,116]⟩:ByteArray),(⟨#[104,97,108,108]⟩:ByteArray)):(ByteArray × ByteArray × ByteArray × ByteArray × ByteArray × ByteArray))) (b.get 10) q:=p.ou 0 10 rfl
  have hns:=z5.nshF
  refine tail_storeB (i:=2) rfl rfl rfl rfl szf180 (Upd.self (α:=(ByteArray × ByteArray × ByteArray × ByteArray × ByteArray × ByteArray))) j5 z5 j10 fun q2 hch hz=>?_
  replace hgq:=hgq.step hch y5.wr
  have hle:=hch.le hns
  replace j2:=Pers.pers hle j2
  replace j3:=Pers.pers hle j3
  replace j10:=Pers.pers hle j10
  replace z5:=hz
  clear hns hle hch
  obtain ⟨q,hqq⟩ : ∃ q,q = q2:=⟨q2,rfl⟩
  subst hqq
  obtain ⟨q2,hsh,jn⟩:=z5.give
  replace j2:=Pers.pers hsh.le j2
  replace j3:=Pers.pers hsh.le j3
  rw [← j5] at jn
  replace j5:=jn
  replace hgq:=hgq.hand hsh y5.wr
  rw [← hsh.w]
  clear hsh
  obtain ⟨q,hqq⟩ : ∃ q,q = q2:=⟨q2,rfl⟩
  subst hqq
  exact tail_done (k:=q) (w1 _ _ ⟨⟨hgq,hsb,hdb⟩,j2,j3,j5,trivial⟩)
 rintro a k ⟨⟨hg,hs,hd⟩,i2,i3,i5,_⟩
 refine wp_seq ?_
 refine stepL 4 (_::_::_::⟨some (IsI 0),[]⟩::[]) rfl ⟨hg,hs,hd⟩ (by kernel_rfl) ⟨o1 [(2,none)] rfl fun _ _ h n=>ok_fieldAddr rfl fo30_1 (at_Plan_1 _) ((up i2 h n.1)).ptr,o1 [(11,some 0)] rfl fun _ _ h n=>ok_load rfl ty23 n.1,o1 [(12,some 1)] rfl fun _ _ h n=>ok_len rfl rfl Tryz.underlying23 (IsV.rd n.1),ob1 rfl fun _ _ h n=>ok_move rfl (cI rfl),trivial⟩ [⟨_,_⟩,⟨_,_⟩,⟨_,_⟩,⟨_,_⟩,⟨_,_⟩] (fun b q p=>⟨p.ke 3 rfl i3,p.ke 5 rfl i5,p.ou 1 12 rfl,p.ou 2 13 rfl,p.ou 3 14 rfl,trivial⟩) ?_
 rintro a k ⟨⟨hg,hs,hd⟩,i3,i5,i12,i13,i14,_⟩
 refine wp_block ?_
 obtain ⟨f1,hf1,hr⟩:=bind_some hr
 refine cutFe f1 (fun s' c l=>Bs noF k0 39 c l∧IsRef use_ (c.get 3) l∧(IsRef (((⟨#[104,111,109,101]⟩:ByteArray),(⟨#[115,104,111,112]⟩:ByteArray),(⟨#[119,111,114,107]⟩:ByteArray),(⟨#[112,97,114,107]⟩:ByteArray),(⟨#[112,108,97,110,116]⟩:ByteArray),(⟨#[104,97,108,108]⟩:ByteArray)):(ByteArray × ByteArray × ByteArray × ByteArray × ByteArray × ByteArray))) (c.get 5) l∧IsV p_.Tables (c.get 12) l∧IsI (p_.Tables.length:Int) (c.get 13) l∧IsV s' (c.get 14) l∧True) (fun i' s' c l=>(i' = 0∧Bs noF k0 39 c l∧True)) (fun r' c l=>bodyPost Tryz.prog Tryz.f107 (RetC noF k0 (IsV r')) .ret c l.w) ?_ hQ ?_ ?_ ?_
 ·intro Q2 W2 hgo hex hret
  refine sim_loop ?_ _ _ _ _ _ hf1 ⟨⟨hg,hs,hd⟩,i3,i5,i12,i13,i14,trivial⟩ Q2 W2 hgo hex hret
  clear hr hf1 hgo hex hret W2 hQ hg hs hd i12 i13 i14 i3 i5
  intro s1 fl_ a k hr hS Q hQ hgo590 hex591 hret592
  obtain ⟨⟨hg,hs,hd⟩,i3,i5,i12,i13,i14,_⟩:=hS
  unfold measure_row_L0 at hr
  refine stepL 1 (_::[]) rfl ⟨hg,hs,hd⟩ (by kernel_rfl) ⟨o1 [(14,none),(13,none)] rfl fun _ _ h n=>ok_lss rfl (up i14 h n.1) (up i13 h n.2.1),trivial⟩ [⟨_,_⟩,⟨_,_⟩,⟨_,_⟩,⟨_,_⟩,⟨_,_⟩,⟨_,_⟩] (fun b q p=>⟨p.ke 3 rfl i3,p.ke 5 rfl i5,p.ke 12 rfl i12,p.ke 13 rfl i13,p.ke 14 rfl i14,p.ou 0 15 rfl,trivial⟩) ?_
  rintro a k ⟨⟨hg,hs,hd⟩,i3,i5,i12,i13,i14,i15,_⟩
  refine wp_seq ?_
  refine wp_cond_split (isBool i15) (fun hc629=>?_) (fun hc629=>?_)
  ·rw [if_pos hc629] at hr
   refine wp_skip ?_
   refine wp_seq ?_
   refine wp_block ?_
   refine wp_seq ?_
   obtain ⟨x1,hx1,hr⟩:=bind_some hr
   refine cut (fun a' k'=>Bs noF k0 39 a' k'∧(IsRef use_) (a'.get 3) k'∧(IsRef (((⟨#[104,111,109,101]⟩:ByteArray),(⟨#[115,104,111,112]⟩:ByteArray),(⟨#[119,111,114,107]⟩:ByteArray),(⟨#[112,97,114,107]⟩:ByteArray),(⟨#[112,108,97,110,116]⟩:ByteArray),(⟨#[104,97,108,108]⟩:ByteArray)):(ByteArray × ByteArray × ByteArray × ByteArray × ByteArray × ByteArray))) (a'.get 5) k'∧(IsRef x1) (a'.get 7) k'∧(IsV p_.Tables) (a'.get 12) k'∧(IsI (p_.Tables.length:Int)) (a'.get 13) k'∧(IsV s1) (a'.get 14) k'∧True) ?_ hQ ?_
   ·intro Q3 W3 w2
    refine gS 3 (_::_::⟨some (IsBox k.w.heap.size (⟨(⟨#[]⟩:ByteArray),[],0⟩:Table)),[]⟩::[]) hs (by kernel_rfl) ⟨o1 [(12,none),(14,none)] rfl fun _ _ h n=>ok_indexAddr rfl Tryz.underlying23 ty95 (IsV.rd (up i12 h n.1)) (up i14 h n.2.1) hx1,o1 [(16,some 0)] rfl fun _ _ h n=>ok_load rfl ty95 n.1,ob1 rfl fun _ _ h n=>ok_alloc _ h.size rfl z95,trivial⟩ W3 fun b q p=>?_
    have hgq:=hg.then p.grow
    have hsb:=p.size.trans hs
    have hdb:=p.defers.trans hd
    have j3:=p.ke 3 rfl i3
    have j5:=p.ke 5 rfl i5
    obtain ⟨b7,j7,x7,z7⟩:(IsBox k.w.heap.size (⟨(⟨#[]⟩:ByteArray),[],0⟩:Table)) (b.get 7) q:=p.ou 2 7 rfl
    replace x7:Lo k (Eq b7):=Lo.eq x7
    have y7:Lo k0 (Eq b7):=x7.chg hg
    have j12:=p.ke 12 rfl i12
    have j13:=p.ke 13 rfl i13
    have j14:=p.ke 14 rfl i14
    have j17:(IsV x1) (b.get 17) q:=p.ou 1 17 rfl
    have hns:=z7.nshF
    refine tail_storeB (i:=3) rfl rfl rfl rfl szf95 (Upd.self (α:=Table)) j7 z7 j17 fun q2 hch hz=>?_
    replace hgq:=hgq.step hch y7.wr
    have hle:=hch.le hns
    replace j3:=Pers.pers hle j3
    replace j5:=Pers.pers hle j5
    replace j12:=Pers.pers hle j12
    replace j13:=Pers.pers hle j13
    replace j14:=Pers.pers hle j14
    replace j17:=Pers.pers hle j17
    replace z7:=hz
    clear hns hle hch
    obtain ⟨q,hqq⟩ : ∃ q,q = q2:=⟨q2,rfl⟩
    subst hqq
    obtain ⟨q2,hsh,jn⟩:=z7.give
    replace j3:=Pers.pers hsh.le j3
    replace j5:=Pers.pers hsh.le j5
    replace j12:=Pers.pers hsh.le j12
    replace j13:=Pers.pers hsh.le j13
    replace j14:=Pers.pers hsh.le j14
    rw [← j7] at jn
    replace j7:=jn
    replace hgq:=hgq.hand hsh y7.wr
    rw [← hsh.w]
    clear hsh
    obtain ⟨q,hqq⟩ : ∃ q,q = q2:=⟨q2,rfl⟩
    subst hqq
    exact tail_done (k:=q) (w2 _ _ ⟨⟨hgq,hsb,hdb⟩,j3,j5,j7,j12,j13,j14,trivial⟩)
   rintro a k ⟨⟨hg,hs,hd⟩,i3,i5,i7,i12,i13,i14,_⟩
   refine wp_seq ?_
   refine stepL 3 (_::_::⟨some (IsV (!(x1.Name.toList == (⟨#[116,114,97,102,102,105,99]⟩:ByteArray).toList))),[(19,some 1)]⟩::[]) rfl ⟨hg,hs,hd⟩ (by kernel_rfl) ⟨o1 [(7,none)] rfl fun _ _ h n=>ok_fieldAddr rfl fo95_0 (at_Table_0 _) ((up i7 h n.1)).ptr,o1 [(18,some 0)] rfl fun _ _ h n=>ok_load rfl ty9 n.1,ob1 rfl fun _ _ h n=>ok_neS rfl n.1 (isV_str.2 rfl),trivial⟩ [⟨_,_⟩,⟨_,_⟩,⟨_,_⟩,⟨_,_⟩,⟨_,_⟩,⟨_,_⟩,⟨_,_⟩] (fun b q p=>⟨p.ke 3 rfl i3,p.ke 5 rfl i5,p.ke 7 rfl i7,p.ke 12 rfl i12,p.ke 13 rfl i13,p.ke 14 rfl i14,p.ou 2 20 rfl,trivial⟩) ?_
   rintro a k ⟨⟨hg,hs,hd⟩,i3,i5,i7,i12,i13,i14,i20,_⟩
   refine wp_cond_split (isBool i20) (fun hc624=>?_) (fun hc624=>?_)
   ·rw [if_pos hc624] at hr
    refine wp_exit ?_
    obtain ⟨x2,hx2,hr⟩:=bind_some hr
    refine cut (fun a' k'=>Bs noF k0 39 a' k'∧(IsRef use_) (a'.get 3) k'∧(IsRef (((⟨#[104,111,109,101]⟩:ByteArray),(⟨#[115,104,111,112]⟩:ByteArray),(⟨#[119,111,114,107]⟩:ByteArray),(⟨#[112,97,114,107]⟩:ByteArray),(⟨#[112,108,97,110,116]⟩:ByteArray),(⟨#[104,97,108,108]⟩:ByteArray)):(ByteArray × ByteArray × ByteArray × ByteArray × ByteArray × ByteArray))) (a'.get 5) k'∧(IsV p_.Tables) (a'.get 12) k'∧(IsI (p_.Tables.length:Int)) (a'.get 13) k'∧(IsV x2) (a'.get 14) k'∧True) ?_ hQ ?_
    ·intro Q4 W4 w3
     refine gS 2 (_::_::[]) hs (by kernel_rfl) ⟨o1 [(14,none)] rfl fun _ _ h n=>ok_add rfl (up i14 h n.1) (cI rfl) hx2,cm 0 rfl rfl,trivial⟩ W4 fun b q p=>?_
     exact tail_done (k:=q) (w3 _ _ ⟨Bs.post ⟨hg,hs,hd⟩ p,p.ke 3 rfl i3,p.ke 5 rfl i5,p.ke 12 rfl i12,p.ke 13 rfl i13,p.ou 1 14 rfl,trivial⟩)
    rintro a k ⟨⟨hg,hs,hd⟩,i3,i5,i12,i13,i14,_⟩
    exact hgo590 _ _ _ (Option.some.inj hr).symm ⟨⟨hg,hs,hd⟩,i3,i5,i12,i13,i14,trivial⟩
   rw [if_neg (by rw [hc624]; decide)] at hr
   refine wp_skip ?_
   refine stepL 3 (_::_::_::[]) rfl ⟨hg,hs,hd⟩ (by kernel_rfl) ⟨o1 [(7,none)] rfl fun _ _ h n=>ok_fieldAddr rfl fo95_2 (at_Table_2 _) ((up i7 h n.1)).ptr,o1 [(21,some 0)] rfl fun _ _ h n=>ok_load rfl ty3 n.1,cp 1 rfl rfl,trivial⟩ [⟨_,_⟩,⟨_,_⟩,⟨_,_⟩,⟨_,_⟩] (fun b q p=>⟨p.ke 3 rfl i3,p.ke 5 rfl i5,p.ke 7 rfl i7,p.ou 2 8 rfl,trivial⟩) ?_
   rintro a k ⟨⟨hg,hs,hd⟩,i3,i5,i7,i8,_⟩
   refine wp_seq ?_
   refine wp_seq ?_
   obtain ⟨x3,hx3,hr⟩:=bind_some hr
   refine cut (fun a' k'=>Bs noF k0 39 a' k'∧(IsRef x1) (a'.get 7) k'∧(IsV x1.Else) (a'.get 8) k'∧(IsV x3) (a'.get 9) k'∧True) ?_ hQ ?_
   ·intro Q5 W5 w4
    refine gS 5 (_::_::⟨some (IsFn1 Tryz.prog (fun y0=>measure_row_1 y0 (((⟨#[104,111,109,101]⟩:ByteArray),(⟨#[115,104,111,112]⟩:ByteArray),(⟨#[119,111,114,107]⟩:ByteArray),(⟨#[112,97,114,107]⟩:ByteArray),(⟨#[112,108,97,110,116]⟩:ByteArray),(⟨#[104,97,108,108]⟩:ByteArray)):(ByteArray × ByteArray × ByteArray × ByteArray × ByteArray × ByteArray)) use_)),[(5,none),(3,none)]⟩::_::_::[]) hs (by kernel_rfl) ⟨o1 [(7,none)] rfl fun _ _ h n=>ok_fieldAddr rfl fo95_1 (at_Table_1 _) ((up i7 h n.1)).ptr,o1 [(23,some 0)] rfl fun _ _ h n=>ok_load rfl ty35 n.1,ob1 rfl fun _ _ h n=>ok_makeFunc (first:=[]) (captured:=[.tmp 5,.tmp 3]) rfl ⟨134,_,_,rfl,Tryz.call134,fun k9 hk9 _ _ _ hx0 hy9=>by simpa [evalT] using measure_row_1_ok hx0 (Pers.pers hk9 (up i5 h n.1)) (Pers.pers hk9 (up i3 h n.2.1)) hy9⟩,o1 [(24,some 1),(25,some 2)] rfl fun _ _ h n=>ok_call rfl Tryz.call133 (slices_IndexFunc_Entry_ok n.1 n.2.1 hx3),cp 3 rfl rfl,trivial⟩ W5 fun b q p=>?_
    exact tail_done (k:=q) (w4 _ _ ⟨Bs.post ⟨hg,hs,hd⟩ p,p.ke 7 rfl i7,p.ke 8 rfl i8,p.ou 4 9 rfl,trivial⟩)
   rintro a k ⟨⟨hg,hs,hd⟩,i7,i8,i9,_⟩
   refine stepL 2 (_::_::[]) rfl ⟨hg,hs,hd⟩ (by kernel_rfl) ⟨mu rfl i9,o1 [(27,some 0)] rfl fun _ _ h n=>ok_geq rfl n.1 (cI rfl),trivial⟩ [⟨_,_⟩,⟨_,_⟩,⟨_,_⟩,⟨_,_⟩] (fun b q p=>⟨p.ke 7 rfl i7,p.ke 8 rfl i8,p.ke 9 rfl i9,p.ou 1 28 rfl,trivial⟩) ?_
   rintro a k ⟨⟨hg,hs,hd⟩,i7,i8,i9,i28,_⟩
   obtain ⟨s2,hs2,hr⟩:=bind_some hr
   refine cut (fun a' k'=>Bs noF k0 39 a' k'∧(IsV s2) (a'.get 8) k'∧True) ?_ hQ ?_
   ·intro Q6 W6 w5
    replace hr:=hs2
    clear hQ
    have hQ:=W6
    refine wp_cond_split (isBool i28) (fun hc613=>?_) (fun hc613=>?_)
    ·rw [if_pos hc613] at hr
     obtain ⟨x4,hx4,hr⟩:=bind_some hr
     refine cut (fun a' k'=>Bs noF k0 39 a' k'∧(IsV x4.N) (a'.get 8) k'∧True) ?_ hQ ?_
     ·intro Q7 W7 w6
      refine gS 7 (_::_::_::_::_::_::_::[]) hs (by kernel_rfl) ⟨o1 [(7,none)] rfl fun _ _ h n=>ok_fieldAddr rfl fo95_1 (at_Table_1 _) ((up i7 h n.1)).ptr,o1 [(29,some 0)] rfl fun _ _ h n=>ok_load rfl ty35 n.1,mu rfl i9,o1 [(30,some 1),(31,some 2)] rfl fun _ _ h n=>ok_indexAddr rfl Tryz.underlying35 ty99 (IsV.rd n.1) n.2.1 hx4,o1 [(32,some 3)] rfl fun _ _ h n=>ok_fieldAddr rfl fo99_1 (at_Entry_1 _) n.1,o1 [(33,some 4)] rfl fun _ _ h n=>ok_load rfl ty3 n.1,cp 5 rfl rfl,trivial⟩ W7 fun b q p=>?_
      exact tail_done (k:=q) (w6 _ _ ⟨Bs.post ⟨hg,hs,hd⟩ p,p.ou 6 8 rfl,trivial⟩)
     rintro a k ⟨⟨hg,hs,hd⟩,i8,_⟩
     obtain rfl:=Option.some.inj hr
     exact w5 _ _ ⟨⟨hg,hs,hd⟩,i8,trivial⟩
    rw [if_neg (by rw [hc613]; decide)] at hr
    refine wp_skip ?_
    obtain rfl:=Option.some.inj hr
    exact w5 _ _ ⟨⟨hg,hs,hd⟩,i8,trivial⟩
   clear hs2
   rintro a k ⟨⟨hg,hs,hd⟩,i8,_⟩
   refine stepL 4 (_::_::_::_::[]) rfl ⟨hg,hs,hd⟩ (by kernel_rfl) ⟨mu rfl i8,o1 [(35,some 0)] rfl fun _ _ h n=>ok_min2 rfl n.1 (cI rfl),o1 [(36,some 1)] rfl fun _ _ h n=>ok_max2 rfl (cI rfl) n.1,cp 2 rfl rfl,trivial⟩ [⟨_,_⟩] (fun b q p=>⟨p.ou 3 4 rfl,trivial⟩) ?_
   rintro a k ⟨⟨hg,hs,hd⟩,i4,_⟩
   refine wp_ret ?_
   exact hret592 _ _ _ (Option.some.inj hr).symm (retC1 rfl hd hg i4)
  rw [if_neg (by rw [hc629]; decide)] at hr
  refine wp_exit ?_
  exact hex591 _ _ _ _ (Option.some.inj hr).symm ⟨rfl,⟨hg,hs,hd⟩,trivial⟩
 ·rintro r1 a k rfl hR
  dsimp only at hr
  obtain rfl:=Option.some.inj hr
  exact hR
 ·rintro _ _ _ rfl _
  simp at hr
 clear hf1
 rintro _ s3 a k rfl ⟨rfl,⟨hg,hs,hd⟩,_⟩
 dsimp only at hr
 refine stepL 1 (⟨some (IsI 0),[]⟩::[]) rfl ⟨hg,hs,hd⟩ (by kernel_rfl) ⟨aI rfl rfl,trivial⟩ [⟨_,_⟩] (fun b q p=>⟨p.ou 0 4 rfl,trivial⟩) ?_
 rintro a k ⟨⟨hg,hs,hd⟩,i4,_⟩
 refine wp_ret ?_
 obtain rfl:=Option.some.inj hr
 exact retC1 rfl hd hg i4
noncomputable def k107:=mkO 107 [.st 8,.int] [.int] (fun x=>measure_row x.1 x.2) Tryz.call107 fun k0 vs x r hG h hr=>by obtain ⟨v0,vs,rfl,i0,h⟩:=h.cons; obtain ⟨v1,rfl,i1⟩:=h.one; exact measure_row_ok i0 i1 hr
def rect_Area (r_:Rect):Option (Int):=
 (rect_checked r_).bind fun x1=>
 (subI x1.1.X1 x1.1.X0).bind fun x2=>
 (subI x1.1.Y1 x1.1.Y0).bind fun x3=>
 (mulI x2 x3).bind fun x4=>
 some x4
noncomputable def k81:=mk 81 [.st 2] [.int] (fun x=>rect_Area x) [k105] [1] Tryz.f81 (.n) Tryz.func81 Tryz.call81 rfl rfl fun x=>by kernel_rfl
def measure_Storeys (v_:Volume):Option (Int):=
 (if v_.Extra then
  some true
 else
  (drawing_RightVolume v_).bind fun x1=>
  some (!x1)).bind fun x2=>
 if x2 then
  some 0
 else
  (subI v_.Box.Z1 v_.Box.Z0).bind fun x3=>
  (addI x3 3).bind fun x4=>
  (subI x4 1).bind fun x5=>
  (quoI x5 3).bind fun x6=>
  some x6
noncomputable def k135:=mk 135 [.st 4] [.int] (fun x=>measure_Storeys x) [k75] [] Tryz.f135 (.n) Tryz.func135 Tryz.call135 rfl rfl fun x=>by kernel_rfl
def measure_Floor (v_:Volume):Option (Int):=
 (drawing_RightVolume v_).bind fun x1=>
 if (!x1) then
  some 0
 else
  (rect_Area v_.Box.Base).bind fun x2=>
  (measure_Storeys v_).bind fun x3=>
  (mulI x2 x3).bind fun x4=>
  some x4
noncomputable def k108:=mk 108 [.st 4] [.int] (fun x=>measure_Floor x) [k75,k81,k135] [] Tryz.f108 (.n) Tryz.func108 Tryz.call108 rfl rfl fun x=>by kernel_rfl
def measure_traffic (p_:Plan) (v_:Volume):Option (Int):=
 (measure_row p_ v_.Use).bind fun x1=>
 (measure_Floor v_).bind fun x2=>
 (if (decide (0 < x1)) then
  (quoI 109951162777600 x1).bind fun x3=>
  some (decide (x3 < x2))
 else
  some false).bind fun x4=>
 if x4 then
  some 1099511627776
 else
  (mulI x1 x2).bind fun x5=>
  (addI x5 100).bind fun x6=>
  (subI x6 1).bind fun x7=>
  (quoI x7 100).bind fun x8=>
  some x8
noncomputable def k80:=mk 80 [.st 8,.st 4] [.int] (fun x=>measure_traffic x.1 x.2) [k107,k108] [] Tryz.f80 (.n) Tryz.func80 Tryz.call80 rfl rfl fun x=>by kernel_rfl
def measure_Load_1 (r_:Rect) (p1_:Volume):Option (Bool):=
 (rect_Intersect r_ p1_.Box.Base).bind fun x1=>
 some x1.2
noncomputable def k77:=mk 77 [.st 2,.rf (.st 4)] [.bool] (fun x=>measure_Load_1 x.1 x.2) [k78] [] Tryz.f77 (.n) Tryz.func77 Tryz.call77 rfl rfl fun x=>by kernel_rfl
def measure_Load (p_:Plan) (c_:Cap) (v_:Volume):Option (Int):=
 (drawing_RightVolume v_).bind fun x1=>
 if (!x1) then
  some 0
 else
  (polygon_Region c_.Corners).bind fun x2=>
  (if (x2.2 != 0) then
   some true
  else
   (slices_ContainsFunc_Rect x2.1 (fun y0=>measure_Load_1 y0 v_)).bind fun x3=>
   some (!x3)).bind fun x4=>
  if x4 then
   some 0
  else
   if (c_.Load == 0) then
    some v_.Units
   else
    if (c_.Load == 1) then
     (measure_traffic p_ v_).bind fun x5=>
     some x5
    else
     if (c_.Load == 2) then
      (rect_Area v_.Box.Base).bind fun x6=>
      some x6
     else
      some 0
noncomputable def k51:=mk 51 [.st 8,.st 15,.st 4] [.int] (fun x=>measure_Load x.1 x.2.1 x.2.2) [k75,k76,k77,k79,k80,k81] [] Tryz.f51 (.n) Tryz.func51 Tryz.call51 rfl rfl fun x=>by kernel_rfl
def cap_Load_L0 (t_:Town) (c_:Cap) (s1:Int × Int):Option (Flow (Int × Int) (Int)):=
 if (decide (s1.2 < (t_.Built.length:Int))) then
  (getI t_.Built s1.2).bind fun x1=>
  (measure_Load t_.Plan c_ x1.Volume).bind fun x2=>
  (addI s1.1 x2).bind fun x3=>
  (addI s1.2 1).bind fun x4=>
  some (.go (x3,x4))
 else
  some (.ex 0 (s1.1,s1.2))
def cap_Load (t_:Town) (c_:Cap):Option (Int):=
 (cap_named t_.Base c_).bind fun x1=>
 (iterL (cap_Load_L0 t_ c_) (t_.Built.length + 1) (x1,0)).bind fun f1=>match f1 with
  | .go _=>none
  | .ex _ s1=>
   some s1.1
  | .ret r1=>some r1
noncomputable def k30:=mk 30 [.st 7,.st 15] [.int] (fun x=>cap_Load x.1 x.2) [k50,k51] [] Tryz.f30 (.s .n (.s .n (.s (.s .n (.l [] [(5,.v .int),(15,.v .int)] [(0,[15],[])] (fI 14) .n)) .n))) Tryz.func30 Tryz.call30 rfl rfl fun x=>by kernel_rfl
theorem cap_Load_ok {k0:K} {v0 v1:Value} {x0:Town} {x1:Cap} {r:Int} (i0:(IsV x0) v0 k0) (i1:(IsV x1) v1 k0) (hr:cap_Load x0 x1 = some r):Calls Tryz.prog 30 #[v0,v1] k0.w (Ret k0 (IsV r)):=(k30.ok.ok k0 [v0,v1] (x0,x1) r (GOk.none (fun _=>rfl) fun _ e=>by cases e) ⟨i0,i1⟩ hr)
def option_Living (r_:Right):Option (Bool):=
 some (((!r_.Over) && (decide (0 ≤ r_.Used))) && (decide (r_.Used < (r_.Drawing.Phases.length:Int))))
noncomputable def k28:=mk 28 [.st 28] [.bool] (fun x=>option_Living x) [] [] Tryz.f28 (.n) Tryz.func28 Tryz.call28 rfl rfl fun x=>by kernel_rfl
theorem option_Living_ok {k0:K} {v0:Value} {x0:Right} {r:Bool} (i0:(IsV x0) v0 k0) (hr:option_Living x0 = some r):Calls Tryz.prog 28 #[v0] k0.w (Ret k0 (IsV r)):=(k28.ok.ok k0 [v0] x0 r (GOk.none (fun _=>rfl) fun _ e=>by cases e) i0 hr)
def slices_Clone_Volume (s_:(List Volume)):Option ((List Volume)):=
 (appI [] s_).bind fun x1=>
 some x1
theorem slices_Clone_Volume_ok {k0:K} {v0:Value} {s_:(List Volume)} {r:(List Volume)} (i0:(IsV s_) v0 k0) (hr:slices_Clone_Volume s_ = some r) :
  Calls Tryz.prog 71 #[v0] k0.w (Ret k0 (IsV r)):=by
 unfold slices_Clone_Volume at hr
 refine Ret.ofC ?_
 refine enterK Tryz.func71 rfl Tryz.ntmps71 (show 1 ≤ 8 by decide) fun a k hk0 hs hd ha=>?_
 obtain ⟨e0,_⟩:=ha
 replace i0:(IsV s_) (a.get 0) k:=by rw [e0,hk0]; exact i0
 have hQ:Gb.LetsOut (bodyPost Tryz.prog Tryz.f71 (RetC noF k0 (IsV r))):=letsOutC
 have hg:Chg noF k0 k:=by rw [hk0]; exact Chg.refl _ k0
 refine stepL 1 (⟨some IsE0,[]⟩::[]) rfl ⟨hg,hs,hd⟩ (by kernel_rfl) ⟨ob1 rfl fun b q h n=>ok_assign rfl isE0_nil,trivial⟩ [⟨_,_⟩] (fun b q p=>⟨p.ke 0 rfl i0,trivial⟩) ?_
 rintro a k ⟨⟨hg,hs,hd⟩,i0,_⟩
 refine wp_seq ?_
 refine stepL 2 (_::⟨some (IsNT s_),[(3,some 0)]⟩::[]) rfl ⟨hg,hs,hd⟩ (by kernel_rfl) ⟨mu rfl i0,ob1 rfl fun _ _ h n=>ok_eqNil rfl Tryz.underlying44 (IsV.rd n.1),trivial⟩ [⟨_,_⟩,⟨_,_⟩] (fun b q p=>⟨p.ke 0 rfl i0,p.ou 1 4 rfl,trivial⟩) ?_
 rintro a k ⟨⟨hg,hs,hd⟩,i0,i4,_⟩
 obtain ⟨bb,hbb,hnil⟩:=i4
 refine wp_cond_split hbb (fun hc802=>?_) (fun hc802=>?_)
 ·replace hr:some ([]:List Volume) = some r:=by rw [hnil hc802] at hr; simpa [appI] using hr
  refine cutL noF k0 8 [⟨2,IsV ([]:List Volume)⟩] ?_ ?_
  ·intro Q1 W1 w1
   refine gS 1 (⟨some IsE0,[]⟩::[]) hs (by kernel_rfl) ⟨ob1 rfl fun b q h n=>ok_assign rfl isE0_nil,trivial⟩ W1 fun b q p=>?_
   have hgq:=hg.then p.grow
   have hsb:=p.size.trans hs
   have hdb:=p.defers.trans hd
   have j2:IsE0 (b.get 2) q:=p.ou 0 2 rfl
   replace j2:IsV ([]:List Volume) (b.get 2) q:=j2.isV
   exact tail_done (k:=q) (w1 _ _ ⟨⟨hgq,hsb,hdb⟩,j2,trivial⟩)
  rintro a k ⟨⟨hg,hs,hd⟩,i2,_⟩
  refine wp_ret ?_
  obtain rfl:=Option.some.inj hr
  exact retC1 rfl hd hg i2
 ·skip
  refine wp_skip ?_
  refine wp_seq ?_
  obtain ⟨x1,hx1,hr⟩:=bind_some hr
  refine cut (fun a' k'=>Bs noF k0 8 a' k'∧(IsV x1) (a'.get 2) k'∧True) ?_ hQ ?_
  ·intro Q2 W2 w2
   refine gS 4 (⟨some IsE0,[]⟩::_::⟨some (IsV x1),[(5,some 0),(6,some 1)]⟩::_::[]) hs (by kernel_rfl) ⟨ob1 rfl fun b q h n=>ok_buildSlice0 rfl Tryz.underlying44 eo83,mu rfl i0,ob1 rfl fun _ _ h n=>ok_append0V rfl Tryz.underlying44 eo83 n.1 (IsV.rd n.2.1) hx1,cp 2 rfl rfl,trivial⟩ W2 fun b q p=>?_
   exact tail_done (k:=q) (w2 _ _ ⟨Bs.post ⟨hg,hs,hd⟩ p,p.ou 3 2 rfl,trivial⟩)
  rintro a k ⟨⟨hg,hs,hd⟩,i2,_⟩
  refine wp_ret ?_
  obtain rfl:=Option.some.inj hr
  exact retC1 rfl hd hg i2
noncomputable def k71:=mkO 71 [.list (.st 4)] [.list (.st 4)] (fun x=>slices_Clone_Volume x) Tryz.call71 fun k0 vs x r hG h hr=>by obtain ⟨v0,rfl,i0⟩:=h.one; exact slices_Clone_Volume_ok i0 hr
def slices_Clone_Entry (s_:(List Entry)):Option ((List Entry)):=
 (appI [] s_).bind fun x1=>
 some x1
theorem slices_Clone_Entry_okO {k0:K} {v0:Value} {s_:(List Entry)} {r:(List Entry)} (i0:(IsV s_) v0 k0) (hr:slices_Clone_Entry s_ = some r) :
  Calls Tryz.prog 34 #[v0] k0.w (Ret k0 (IsOwn k0.w.heap.size 99 r)):=by
 unfold slices_Clone_Entry at hr
 refine Ret.ofC ?_
 refine enterK Tryz.func34 rfl Tryz.ntmps34 (show 1 ≤ 8 by decide) fun a k hk0 hs hd ha=>?_
 obtain ⟨e0,_⟩:=ha
 replace i0:(IsV s_) (a.get 0) k:=by rw [e0,hk0]; exact i0
 have hQ:Gb.LetsOut (bodyPost Tryz.prog Tryz.f34 (RetC noF k0 (IsOwn k0.w.heap.size 99 r))):=letsOutC
 have hg:Chg noF k0 k:=by rw [hk0]; exact Chg.refl _ k0
 refine stepL 1 (⟨some IsE0,[]⟩::[]) rfl ⟨hg,hs,hd⟩ (by kernel_rfl) ⟨ob1 rfl fun b q h n=>ok_assign rfl isE0_nil,trivial⟩ [⟨_,_⟩] (fun b q p=>⟨p.ke 0 rfl i0,trivial⟩) ?_
 rintro a k ⟨⟨hg,hs,hd⟩,i0,_⟩
 refine wp_seq ?_
 refine stepL 2 (_::⟨some (IsNT s_),[(3,some 0)]⟩::[]) rfl ⟨hg,hs,hd⟩ (by kernel_rfl) ⟨mu rfl i0,ob1 rfl fun _ _ h n=>ok_eqNil rfl Tryz.underlying35 (IsV.rd n.1),trivial⟩ [⟨_,_⟩,⟨_,_⟩] (fun b q p=>⟨p.ke 0 rfl i0,p.ou 1 4 rfl,trivial⟩) ?_
 rintro a k ⟨⟨hg,hs,hd⟩,i0,i4,_⟩
 obtain ⟨bb,hbb,hnil⟩:=i4
 refine wp_cond_split hbb (fun hc815=>?_) (fun hc815=>?_)
 ·replace hr:some ([]:List Entry) = some r:=by rw [hnil hc815] at hr; simpa [appI] using hr
  refine cutS (fun c l=>Bs noF k0 8 c l∧IsOwn 0 99 ([]:List Entry) (c.get 2) l∧Lo k0 (obF (c.get 2))∧True) ?_ ?_
  ·intro Q1 W1 w1
   refine gS 1 (⟨some IsE0,[]⟩::[]) hs (by kernel_rfl) ⟨ob1 rfl fun b q h n=>ok_assign rfl isE0_nil,trivial⟩ W1 fun b q p=>?_
   have hgq:=hg.then p.grow
   have hsb:=p.size.trans hs
   have hdb:=p.defers.trans hd
   have j2:IsE0 (b.get 2) q:=p.ou 0 2 rfl
   have y2:Lo k0 (obF (b.get 2)):=j2.lo
   replace j2:IsOwn 0 99 ([]:List Entry) (b.get 2) q:=j2.own0
   exact tail_done (k:=q) (w1 _ _ ⟨⟨hgq,hsb,hdb⟩,j2,y2,trivial⟩)
  rintro a k ⟨⟨hg,hs,hd⟩,i2,n2,_⟩
  refine wp_ret ?_
  obtain rfl:=Option.some.inj hr
  exact retC1 rfl hd hg (show ResOk _ _ _ (.tmp 2) _ from IsOwn.raise (k0:=k0) i2 n2)
 ·skip
  refine wp_skip ?_
  refine wp_seq ?_
  obtain ⟨x1,hx1,hr⟩:=bind_some hr
  refine cut (fun a' k'=>Bs noF k0 8 a' k'∧IsOwn 0 99 x1 (a'.get 2) k'∧Lo k0 (obF (a'.get 2))∧True) ?_ hQ ?_
  ·intro Q2 W2 w2
   refine gS 4 (⟨some IsE0,[]⟩::_::⟨some (IsOwn k.w.heap.size 99 x1),[(5,some 0),(6,some 1)]⟩::_::[]) hs (by kernel_rfl) ⟨ob1 rfl fun b q h n=>ok_buildSlice0 rfl Tryz.underlying35 eo99,mu rfl i0,ob1 rfl fun _ _ h n=>ok_append0 rfl Tryz.underlying35 eo99 h.size n.1 (IsV.rd n.2.1) hx1,cp 2 rfl rfl,trivial⟩ W2 fun b q p=>?_
   have hgq:=hg.then p.grow
   have hsb:=p.size.trans hs
   have hdb:=p.defers.trans hd
   have j2:(IsOwn k.w.heap.size 99 x1) (b.get 2) q:=p.ou 3 2 rfl
   have x2:Lo k (obF (b.get 2)):=j2.loF
   have y2:=x2.chg hg
   replace j2:=j2.weaken (Nat.zero_le _)
   exact tail_done (k:=q) (w2 _ _ ⟨⟨hgq,hsb,hdb⟩,j2,y2,trivial⟩)
  rintro a k ⟨⟨hg,hs,hd⟩,i2,n2,_⟩
  refine wp_ret ?_
  obtain rfl:=Option.some.inj hr
  exact retC1 rfl hd hg (show ResOk _ _ _ (.tmp 2) _ from IsOwn.raise (k0:=k0) i2 n2)
theorem slices_Clone_Entry_ok {k0:K} {v0:Value} {s_:(List Entry)} {r:(List Entry)} (i0:(IsV s_) v0 k0) (hr:slices_Clone_Entry s_ = some r) :
  Calls Tryz.prog 34 #[v0] k0.w (Ret k0 (IsV r)):=
 ret_give (slices_Clone_Entry_okO i0 hr)
noncomputable def k34:=mkO 34 [.list (.st 6)] [.list (.st 6)] (fun x=>slices_Clone_Entry x) Tryz.call34 fun k0 vs x r hG h hr=>by obtain ⟨v0,rfl,i0⟩:=h.one; exact slices_Clone_Entry_ok i0 hr
def option_phases_L0 (l_:(List Phase)) (s1:(List Phase) × Int):Option (Flow ((List Phase) × Int) ((List Phase))):=
 if (decide (s1.2 < (l_.length:Int))) then
  (getI l_ s1.2).bind fun x1=>
  (slices_Clone_Volume x1.Volumes).bind fun x2=>
  (slices_Clone_Entry x1.Gives).bind fun x3=>
  (appI s1.1 ([(⟨x2,x3⟩:Phase)])).bind fun x4=>
  (addI s1.2 1).bind fun x5=>
  some (.go (x4,x5))
 else
  some (.ex 0 (s1.1,s1.2))
def option_phases (l_:(List Phase)):Option ((List Phase)):=
 (iterL (option_phases_L0 l_) (l_.length + 1) (([]:List Phase),0)).bind fun f1=>match f1 with
  | .go _=>none
  | .ex _ s1=>
   some s1.1
  | .ret r1=>some r1
noncomputable def k47:=mk 47 [.list (.st 3)] [.list (.st 3)] (fun x=>option_phases x) [k71,k34] [3,12,21] Tryz.f47 (.s .n (.s .n (.s (.s .n (.l [] [(3,.o 46 (.st 3)),(8,.v .int)] [(0,[8],[])] (fI 7) .n)) (.s (.f [3] .n) .n)))) Tryz.func47 Tryz.call47 rfl rfl fun x=>by kernel_rfl
def option_Left (r_:Right):Option ((List Phase)):=
 (option_Living r_).bind fun x1=>
 if (!x1) then
  some ([]:List Phase)
 else
  (sliceI r_.Drawing.Phases r_.Used (r_.Drawing.Phases.length:Int)).bind fun x2=>
  (option_phases x2).bind fun x3=>
  some x3
noncomputable def k27:=mk 27 [.st 28] [.list (.st 3)] (fun x=>option_Left x) [k28,k47] [] Tryz.f27 (.n) Tryz.func27 Tryz.call27 rfl rfl fun x=>by kernel_rfl
theorem option_Left_ok {k0:K} {v0:Value} {x0:Right} {r:(List Phase)} (i0:(IsV x0) v0 k0) (hr:option_Left x0 = some r):Calls Tryz.prog 27 #[v0] k0.w (Ret k0 (IsV r)):=(k27.ok.ok k0 [v0] x0 r (GOk.none (fun _=>rfl) fun _ e=>by cases e) i0 hr)
def cap_Phase_L0 (p_:Plan) (c_:Cap) (ph_:Phase) (s1:Int × Int):Option (Flow (Int × Int) (Int)):=
 if (decide (s1.2 < (ph_.Volumes.length:Int))) then
  (getI ph_.Volumes s1.2).bind fun x1=>
  (measure_Load p_ c_ x1).bind fun x2=>
  (addI s1.1 x2).bind fun x3=>
  (addI s1.2 1).bind fun x4=>
  some (.go (x3,x4))
 else
  some (.ex 0 (s1.1,s1.2))
def cap_Phase (p_:Plan) (c_:Cap) (ph_:Phase):Option (Int):=
 (cap_named ph_.Gives c_).bind fun x1=>
 (subI 0 x1).bind fun x2=>
 (iterL (cap_Phase_L0 p_ c_ ph_) (ph_.Volumes.length + 1) (x2,0)).bind fun f1=>match f1 with
  | .go _=>none
  | .ex _ s1=>
   some s1.1
  | .ret r1=>some r1
noncomputable def k74:=mk 74 [.st 8,.st 15,.st 3] [.int] (fun x=>cap_Phase x.1 x.2.1 x.2.2) [k50,k51] [] Tryz.f74 (.s .n (.s .n (.s (.s .n (.l [] [(7,.v .int),(18,.v .int)] [(0,[18],[])] (fI 17) .n)) .n))) Tryz.func74 Tryz.call74 rfl rfl fun x=>by kernel_rfl
def cap_loads_L0 (p_:Plan) (c_:Cap) (x1:(List Phase)) (s1:(List Int) × Int):Option (Flow ((List Int) × Int) ((List Int))):=
 if (decide (s1.2 < (x1.length:Int))) then
  (getI x1 s1.2).bind fun x2=>
  (cap_Phase p_ c_ x2).bind fun x3=>
  (appI s1.1 ([x3])).bind fun x4=>
  (addI s1.2 1).bind fun x5=>
  some (.go (x4,x5))
 else
  some (.ex 0 (s1.1,s1.2))
def cap_loads (p_:Plan) (c_:Cap) (r_:Right):Option ((List Int)):=
 (option_Left r_).bind fun x1=>
 (iterL (cap_loads_L0 p_ c_ x1) (x1.length + 1) (([]:List Int),0)).bind fun f1=>match f1 with
  | .go _=>none
  | .ex _ s1=>
   some s1.1
  | .ret r1=>some r1
noncomputable def k49:=mk 49 [.st 8,.st 15,.st 28] [.list .int] (fun x=>cap_loads x.1 x.2.1 x.2.2) [k27,k74] [7,17,23] Tryz.f49 (.s .n (.s .n (.s (.s .n (.l [] [(7,.o 3 .int),(13,.v .int)] [(0,[13],[])] (fI 12) .n)) (.s (.f [7] .n) .n)))) Tryz.func49 Tryz.call49 rfl rfl fun x=>by kernel_rfl
theorem cap_loads_ok {k0:K} {v0 v1 v2:Value} {x0:Plan} {x1:Cap} {x2:Right} {r:(List Int)} (i0:(IsV x0) v0 k0) (i1:(IsV x1) v1 k0) (i2:(IsV x2) v2 k0) (hr:cap_loads x0 x1 x2 = some r):Calls Tryz.prog 49 #[v0,v1,v2] k0.w (Ret k0 (IsV r)):=(k49.ok.ok k0 [v0,v1,v2] (x0,x1,x2) r (GOk.none (fun _=>rfl) fun _ e=>by cases e) ⟨i0,i1,i2⟩ hr)
def option_Prefixes_L0 (l_:(List Int)) (s1:(List Int) × Int):Option (Flow ((List Int) × Int) ((List Int))):=
 if (decide (s1.2 < (l_.length:Int))) then
  (getI l_ s1.2).bind fun x1=>
  (getI s1.1 s1.2).bind fun x2=>
  (addI x2 x1).bind fun x3=>
  (appI s1.1 ([x3])).bind fun x4=>
  (addI s1.2 1).bind fun x5=>
  some (.go (x4,x5))
 else
  some (.ex 0 (s1.1,s1.2))
def option_Prefixes (l_:(List Int)):Option ((List Int)):=
 (iterL (option_Prefixes_L0 l_) (l_.length + 1) ([0],0)).bind fun f1=>match f1 with
  | .go _=>none
  | .ex _ s1=>
   some s1.1
  | .ret r1=>some r1
noncomputable def k73:=mk 73 [.list .int] [.list .int] (fun x=>option_Prefixes x) [] [3,6,14,22] Tryz.f73 (.s .n (.s .n (.s (.s .n (.l [] [(3,.o 3 .int),(9,.v .int)] [(0,[9],[])] (fI 8) .n)) (.s (.f [3] .n) .n)))) Tryz.func73 Tryz.call73 rfl rfl fun x=>by kernel_rfl
def slices_Max_int_L0 (x_:(List Int)) (s1:Int × Int):Option (Flow (Int × Int) (Int)):=
 if (decide (s1.2 < (x_.length:Int))) then
  (getI x_ s1.2).bind fun x1=>
  (addI s1.2 1).bind fun x2=>
  some (.go ((max s1.1 x1),x2))
 else
  some (.ex 0 (s1.1,s1.2))
def slices_Max_int (x_:(List Int)):Option (Int):=
 if (decide ((x_.length:Int) < 1)) then
  none
 else
  (getI x_ 0).bind fun x1=>
  (iterL (slices_Max_int_L0 x_) (x_.length + 1) (x1,1)).bind fun f1=>match f1 with
   | .go _=>none
   | .ex _ s1=>
    some s1.1
   | .ret r1=>some r1
noncomputable def k72:=mk 72 [.list .int] [.int] (fun x=>slices_Max_int x) [] [] Tryz.f72 (.s .n (.s .n (.s .n (.s (.s .n (.l [] [(3,.v .int),(4,.v .int)] [(0,[4],[])] (fL [0]) .n)) .n)))) Tryz.func72 Tryz.call72 rfl rfl fun x=>by kernel_rfl
def option_Peak (l_:(List Int)):Option (Int):=
 (option_Prefixes l_).bind fun x1=>
 (slices_Max_int x1).bind fun x2=>
 some x2
noncomputable def k48:=mk 48 [.list .int] [.int] (fun x=>option_Peak x) [k73,k72] [] Tryz.f48 (.n) Tryz.func48 Tryz.call48 rfl rfl fun x=>by kernel_rfl
theorem option_Peak_ok {k0:K} {v0:Value} {x0:(List Int)} {r:Int} (i0:(IsV x0) v0 k0) (hr:option_Peak x0 = some r):Calls Tryz.prog 48 #[v0] k0.w (Ret k0 (IsV r)):=(k48.ok.ok k0 [v0] x0 r (GOk.none (fun _=>rfl) fun _ e=>by cases e) i0 hr)
def cap_Peak_L0 (t_:Town) (rights_:(List Right)) (c_:Cap) (s1:Peak × Int):Option (Flow (Peak × Int) (Peak)):=
 if (decide (s1.2 < (rights_.length:Int))) then
  (getI rights_ s1.2).bind fun x1=>
  (cap_loads t_.Plan c_ x1).bind fun x2=>
  (option_Peak x2).bind fun x3=>
  (appI s1.1.Tops ([x3])).bind fun x4=>
  (addI s1.2 1).bind fun x5=>
  some (.go ({ s1.1 with Tops:=x4 },x5))
 else
  some (.ex 0 (s1.1,s1.2))
def cap_Peak (t_:Town) (rights_:(List Right)) (c_:Cap):Option (Peak):=
 (cap_Load t_ c_).bind fun x1=>
 (iterL (cap_Peak_L0 t_ rights_ c_) (rights_.length + 1) ((⟨c_.Name,x1,[]⟩:Peak),0)).bind fun f1=>match f1 with
  | .go _=>none
  | .ex _ s1=>
   some s1.1
  | .ret r1=>some r1
theorem cap_Peak_ok {k0:K} {v0 v1 v2:Value} {t_:Town} {rights_:(List Right)} {c_:Cap} {r:Peak} (i0:(IsV t_) v0 k0) (i1:(IsV rights_) v1 k0) (i2:(IsV c_) v2 k0) (hr:cap_Peak t_ rights_ c_ = some r) :
  Calls Tryz.prog 29 #[v0,v1,v2] k0.w (Ret k0 (IsV r)):=by
 unfold cap_Peak at hr
 refine Ret.ofC ?_
 refine enterK Tryz.func29 rfl Tryz.ntmps29 (show 3 ≤ 35 by decide) fun a k hk0 hs hd ha=>?_
 obtain ⟨e0,e1,e2,_⟩:=ha
 replace i0:(IsV t_) (a.get 0) k:=by rw [e0,hk0]; exact i0
 replace i1:(IsV rights_) (a.get 1) k:=by rw [e1,hk0]; exact i1
 replace i2:(IsV c_) (a.get 2) k:=by rw [e2,hk0]; exact i2
 have hQ:Gb.LetsOut (bodyPost Tryz.prog Tryz.f29 (RetC noF k0 (IsV r))):=letsOutC
 have hg:Chg noF k0 k:=by rw [hk0]; exact Chg.refl _ k0
 refine cutS (fun c l=>Bs noF k0 35 c l∧IsV rights_ (c.get 1) l∧IsRef t_ (c.get 3) l∧IsRef c_ (c.get 5) l∧(∃ b6,c.get 6 = .pointer (some ⟨b6,0,none⟩)∧Lo k0 (Eq b6)∧Gb.Box b6 (⟨(⟨#[]⟩:ByteArray),0,[]⟩:Peak) l∧True)) ?_ ?_
 ·intro Q1 W1 w1
  refine gS 3 (⟨some (IsRef t_),[(0,none)]⟩::⟨some (IsRef c_),[(2,none)]⟩::⟨some (IsBox k.w.heap.size (⟨(⟨#[]⟩:ByteArray),0,[]⟩:Peak)),[]⟩::[]) hs (by kernel_rfl) ⟨ob1 rfl fun _ _ h n=>ok_boxR rfl (up i0 h n.1),ob1 rfl fun _ _ h n=>ok_boxR rfl (up i2 h n.1),ob1 rfl fun _ _ h n=>ok_alloc _ h.size rfl z75,trivial⟩ W1 fun b q p=>?_
  have hgq:=hg.then p.grow
  have hsb:=p.size.trans hs
  have hdb:=p.defers.trans hd
  have j1:=p.ke 1 rfl i1
  have j3:(IsRef t_) (b.get 3) q:=p.ou 0 3 rfl
  have j5:(IsRef c_) (b.get 5) q:=p.ou 1 5 rfl
  obtain ⟨b6,j6,x6,z6⟩:(IsBox k.w.heap.size (⟨(⟨#[]⟩:ByteArray),0,[]⟩:Peak)) (b.get 6) q:=p.ou 2 6 rfl
  replace x6:Lo k (Eq b6):=Lo.eq x6
  have y6:Lo k0 (Eq b6):=x6.chg hg
  exact tail_done (k:=q) (w1 _ _ ⟨⟨hgq,hsb,hdb⟩,j1,j3,j5,b6,j6,y6,z6,trivial⟩)
 rintro a k ⟨⟨hg,hs,hd⟩,i1,i3,i5,b6,i6,n6,c6,_⟩
 refine wp_seq ?_
 obtain ⟨x1,hx1,hr⟩:=bind_some hr
 refine cut (fun a' k'=>Bs noF k0 35 a' k'∧(IsV rights_) (a'.get 1) k'∧(IsRef t_) (a'.get 3) k'∧(IsRef c_) (a'.get 5) k'∧a'.get 6 = .pointer (some ⟨b6,0,none⟩)∧Lo k0 (Eq b6)∧Gb.Box b6 (⟨(⟨#[]⟩:ByteArray),0,[]⟩:Peak) k'∧(∃ b7 F7,(BoxH b7 [ho_75_2] [ho_75_2] (⟨c_.Name,x1,[]⟩:Peak)) F7 (a'.get 7) k'∧Lo k0 F7∧Apart (Eq b6) F7∧True)) ?_ hQ ?_
 ·intro Q2 W2 w2
  refine region (m:=7) (_::_::_::_::_::⟨some (IsVN [ho_75_2.off] (⟨c_.Name,x1,[]⟩:Peak)),[(11,some 1),(14,some 4)]⟩::⟨some (IsBox k.w.heap.size (⟨(⟨#[]⟩:ByteArray),0,[]⟩:Peak)),[]⟩::[]) hmix hs (by kernel_rfl) ⟨o1 [(5,none)] rfl fun _ _ h n=>ok_fieldAddr rfl fo71_0 (at_Cap_0 _) ((up i5 h n.1)).ptr,o1 [(10,some 0)] rfl fun _ _ h n=>ok_load rfl ty9 n.1,o1 [(3,none)] rfl fun _ _ h n=>ok_load rfl ty37 ((up i3 h n.1)).ptr,o1 [(5,none)] rfl fun _ _ h n=>ok_load rfl ty71 ((up i5 h n.1)).ptr,o1 [(12,some 2),(13,some 3)] rfl fun _ _ h n=>ok_call rfl Tryz.call30 (cap_Load_ok n.1 n.2.1 hx1),ob1 rfl fun _ _ h n=>ok_buildN rfl (bld75_0_1N n.1 n.2.1),ob1 rfl fun _ _ h n=>ok_alloc _ h.size rfl z75,trivial⟩ W2 fun b q p=>?_
  have hgq:=hg.then p.grow
  have hsb:=p.size.trans hs
  have hdb:=p.defers.trans hd
  have j1:=p.ke 1 rfl i1
  have j3:=p.ke 3 rfl i3
  have j5:=p.ke 5 rfl i5
  have j6:=upE i6 (p.old 6 rfl)
  have z6:=Gb.Box.grow c6 p.grow
  have y6:=n6
  obtain ⟨b7,j7,x7,z7⟩:(IsBox k.w.heap.size (⟨(⟨#[]⟩:ByteArray),0,[]⟩:Peak)) (b.get 7) q:=p.ou 6 7 rfl
  replace x7:Lo k (Eq b7):=Lo.eq x7
  have y7:Lo k0 (Eq b7):=x7.chg hg
  have j15:(IsVN [ho_75_2.off] (⟨c_.Name,x1,[]⟩:Peak)) (b.get 15) q:=p.ou 5 15 rfl
  have w6_7:Apart (Eq b6) (Eq b7):=Apart.new c6.ltF x7
  have hns:=z7.nshF
  refine tail_storeN (i:=7) rfl rfl rfl rfl szf75 j7 z7 j15 fun q2 hch hz hnn=>?_
  replace hgq:=hgq.step hch y7.wr
  have hle:=hch.le hns
  replace j1:=Pers.pers hle j1
  replace j3:=Pers.pers hle j3
  replace j5:=Pers.pers hle j5
  replace z6:=z6.keep hch (w6_7 _ rfl) hns
  replace j15:=Pers.pers hle j15
  replace z7:=hz
  clear hns hle hch
  obtain ⟨q,hqq⟩ : ∃ q,q = q2:=⟨q2,rfl⟩
  subst hqq
  obtain ⟨F7,jn,hFe⟩ : ∃ F,BoxH b7 [ho_75_2] [] (⟨c_.Name,x1,[]⟩:Peak) F (b.get 7) q∧F = Eq b7:=⟨_,Box.open z7 hu_75_2 j7,rfl⟩
  replace j7:=jn
  replace y7:Lo k0 F7:=by rw [hFe]; exact y7
  replace w6_7:Apart (Eq b6) F7:=by rw [hFe]; exact w6_7
  clear jn hFe z7
  replace j7:=BoxH.wake (g:=ho_75_2) j7 (hnn _ (.head _)) rfl
  exact tail_done (k:=q) (w2 _ _ ⟨⟨hgq,hsb,hdb⟩,j1,j3,j5,j6,y6,z6,b7,F7,j7,y7,w6_7,trivial⟩)
 rintro a k ⟨⟨hg,hs,hd⟩,i1,i3,i5,i6,n6,c6,b7,F7,i7,n7,d6_7,_⟩
 refine wp_seq ?_
 refine cutS (fun c l=>∃ F7,Bs noF k0 35 c l∧IsRef t_ (c.get 3) l∧IsRef c_ (c.get 5) l∧c.get 6 = .pointer (some ⟨b6,0,none⟩)∧Lo k0 (Eq b6)∧Gb.Box b6 (⟨(⟨#[]⟩:ByteArray),0,[]⟩:Peak) l∧(BoxH b7 [ho_75_2] [ho_75_2] (⟨c_.Name,x1,[]⟩:Peak)) F7 (c.get 7) l∧Lo k0 F7∧IsV rights_ (c.get 16) l∧IsL rights_ (c.get 17) l∧IsI 0 (c.get 18) l∧Apart (Eq b6) F7∧True) ?_ ?_
 ·intro Q3 W3 w3
  refine gS 3 (_::_::⟨some (IsI 0),[]⟩::[]) hs (by kernel_rfl) ⟨mu rfl i1,o1 [(16,some 0)] rfl fun _ _ h n=>ok_len rfl rfl Tryz.underlying38 (IsV.rd n.1),ob1 rfl fun _ _ h n=>ok_move rfl (cI rfl),trivial⟩ W3 fun b q p=>?_
  exact tail_done (k:=q) (w3 _ _ ⟨F7,Bs.post ⟨hg,hs,hd⟩ p,p.ke 3 rfl i3,p.ke 5 rfl i5,upE i6 (p.old 6 rfl),n6,Gb.Box.grow c6 p.grow,p.ke 7 rfl i7,n7,p.ou 0 16 rfl,p.ou 1 17 rfl,p.ou 2 18 rfl,d6_7,trivial⟩)
 rintro a k ⟨F7,⟨hg,hs,hd⟩,i3,i5,i6,n6,c6,i7,n7,i16,i17,i18,d6_7,_⟩
 refine wp_block ?_
 obtain ⟨f1,hf1,hr⟩:=bind_some hr
 refine cutFe f1 (fun s' c l=>∃ F7,Bs noF k0 35 c l∧IsRef t_ (c.get 3) l∧IsRef c_ (c.get 5) l∧c.get 6 = .pointer (some ⟨b6,0,none⟩)∧Lo k0 (Eq b6)∧Gb.Box b6 (⟨(⟨#[]⟩:ByteArray),0,[]⟩:Peak) l∧(BoxH b7 [ho_75_2] [ho_75_2] s'.1) F7 (c.get 7) l∧Lo k0 F7∧IsV rights_ (c.get 16) l∧IsL rights_ (c.get 17) l∧IsV s'.2 (c.get 18) l∧Apart (Eq b6) F7∧True) (fun i' s' c l=>(i' = 0∧Bs noF k0 35 c l∧c.get 6 = .pointer (some ⟨b6,0,none⟩)∧Lo k0 (Eq b6)∧Gb.Box b6 (⟨(⟨#[]⟩:ByteArray),0,[]⟩:Peak) l∧c.get 7 = .pointer (some ⟨b7,0,none⟩)∧Lo k0 (Eq b7)∧Gb.Box b7 s'.1 l∧Apart (Eq b6) (Eq b7)∧True)) (fun r' c l=>bodyPost Tryz.prog Tryz.f29 (RetC noF k0 (IsV r')) .ret c l.w) ?_ hQ ?_ ?_ ?_
 ·intro Q4 W4 hgo hex hret
  refine sim_loop ?_ _ _ _ _ _ hf1 ⟨F7,⟨hg,hs,hd⟩,i3,i5,i6,n6,c6,i7,n7,i16,i17,i18,d6_7,trivial⟩ Q4 W4 hgo hex hret
  clear hr hf1 hgo hex hret W4 hQ hg hs hd F7 c6 d6_7 i16 i17 i18 i3 i5 i6 i7 n6 n7
  intro s1 fl_ a k hr hS Q hQ hgo1012 hex1013 hret1014
  obtain ⟨F7,⟨hg,hs,hd⟩,i3,i5,i6,n6,c6,i7,n7,i16,i17,i18,d6_7,_⟩:=hS
  unfold cap_Peak_L0 at hr
  refine cutS (fun c l=>∃ F7,Bs noF k0 35 c l∧IsRef t_ (c.get 3) l∧IsRef c_ (c.get 5) l∧c.get 6 = .pointer (some ⟨b6,0,none⟩)∧Lo k0 (Eq b6)∧Gb.Box b6 (⟨(⟨#[]⟩:ByteArray),0,[]⟩:Peak) l∧(BoxH b7 [ho_75_2] [ho_75_2] s1.1) F7 (c.get 7) l∧Lo k0 F7∧IsV rights_ (c.get 16) l∧IsL rights_ (c.get 17) l∧IsV s1.2 (c.get 18) l∧(IsV (decide (s1.2 < (rights_.length:Int)))) (c.get 19) l∧Apart (Eq b6) F7∧True) ?_ ?_
  ·intro Q5 W5 w4
   refine gS 1 (_::[]) hs (by kernel_rfl) ⟨o1 [(18,none),(17,none)] rfl fun _ _ h n=>ok_lss rfl (up i18 h n.1) (up i17 h n.2.1),trivial⟩ W5 fun b q p=>?_
   exact tail_done (k:=q) (w4 _ _ ⟨F7,Bs.post ⟨hg,hs,hd⟩ p,p.ke 3 rfl i3,p.ke 5 rfl i5,upE i6 (p.old 6 rfl),n6,Gb.Box.grow c6 p.grow,p.ke 7 rfl i7,n7,p.ke 16 rfl i16,p.ke 17 rfl i17,p.ke 18 rfl i18,p.ou 0 19 rfl,d6_7,trivial⟩)
  rintro a k ⟨F7,⟨hg,hs,hd⟩,i3,i5,i6,n6,c6,i7,n7,i16,i17,i18,i19,d6_7,_⟩
  refine wp_seq ?_
  refine wp_cond_split (isBool i19) (fun hc1026=>?_) (fun hc1026=>?_)
  ·rw [if_pos hc1026] at hr
   refine wp_skip ?_
   refine wp_seq ?_
   refine wp_block ?_
   refine wp_seq ?_
   obtain ⟨x2,hx2,hr⟩:=bind_some hr
   refine cut (fun a' k'=>∃ F7,Bs noF k0 35 a' k'∧(IsRef t_) (a'.get 3) k'∧(IsRef c_) (a'.get 5) k'∧a'.get 6 = .pointer (some ⟨b6,0,none⟩)∧Lo k0 (Eq b6)∧Gb.Box b6 (⟨(⟨#[]⟩:ByteArray),0,[]⟩:Peak) k'∧(BoxH b7 [ho_75_2] [ho_75_2] s1.1) F7 (a'.get 7) k'∧Lo k0 F7∧(IsRef x2) (a'.get 9) k'∧(IsV rights_) (a'.get 16) k'∧(IsL rights_) (a'.get 17) k'∧(IsV s1.2) (a'.get 18) k'∧Apart (Eq b6) F7∧True) ?_ hQ ?_
   ·intro Q6 W6 w5
    refine gS 3 (_::_::⟨some (IsBox k.w.heap.size (⟨0,0,(⟨0,[]⟩:Drawing),0,0,false⟩:Right)),[]⟩::[]) hs (by kernel_rfl) ⟨o1 [(16,none),(18,none)] rfl fun _ _ h n=>ok_indexAddr rfl Tryz.underlying38 ty43 (IsV.rd (up i16 h n.1)) (up i18 h n.2.1) hx2,o1 [(20,some 0)] rfl fun _ _ h n=>ok_load rfl ty43 n.1,ob1 rfl fun _ _ h n=>ok_alloc _ h.size rfl z43,trivial⟩ W6 fun b q p=>?_
    have hgq:=hg.then p.grow
    have hsb:=p.size.trans hs
    have hdb:=p.defers.trans hd
    have j3:=p.ke 3 rfl i3
    have j5:=p.ke 5 rfl i5
    have j6:=upE i6 (p.old 6 rfl)
    have z6:=Gb.Box.grow c6 p.grow
    have y6:=n6
    have j7:(BoxH b7 [ho_75_2] [ho_75_2] s1.1) F7 (b.get 7) q:=p.ke 7 rfl i7
    have y7:=n7
    obtain ⟨b9,j9,x9,z9⟩:(IsBox k.w.heap.size (⟨0,0,(⟨0,[]⟩:Drawing),0,0,false⟩:Right)) (b.get 9) q:=p.ou 2 9 rfl
    replace x9:Lo k (Eq b9):=Lo.eq x9
    have y9:Lo k0 (Eq b9):=x9.chg hg
    have j16:=p.ke 16 rfl i16
    have j17:=p.ke 17 rfl i17
    have j18:=p.ke 18 rfl i18
    have j21:(IsV x2) (b.get 21) q:=p.ou 1 21 rfl
    have w6_7:Apart (Eq b6) F7:=by exact d6_7
    have w6_9:Apart (Eq b6) (Eq b9):=Apart.new c6.ltF x9
    have w7_9:Apart F7 (Eq b9):=Apart.new (Rsc.lt i7) x9
    have hns:=z9.nshF
    refine tail_storeB (i:=3) rfl rfl rfl rfl szf43 (Upd.self (α:=Right)) j9 z9 j21 fun q2 hch hz=>?_
    replace hgq:=hgq.step hch y9.wr
    have hle:=hch.le hns
    replace j3:=Pers.pers hle j3
    replace j5:=Pers.pers hle j5
    replace z6:=z6.keep hch (w6_9 _ rfl) hns
    replace j7:=Rsc.keep j7 hch w7_9 hns
    replace j16:=Pers.pers hle j16
    replace j17:=Pers.pers hle j17
    replace j18:=Pers.pers hle j18
    replace j21:=Pers.pers hle j21
    replace z9:=hz
    clear hns hle hch
    obtain ⟨q,hqq⟩ : ∃ q,q = q2:=⟨q2,rfl⟩
    subst hqq
    obtain ⟨q2,hsh,jn⟩:=z9.give
    replace j3:=Pers.pers hsh.le j3
    replace j5:=Pers.pers hsh.le j5
    replace z6:=z6.handed hsh (w6_9 _ rfl)
    replace j7:=Rsc.handed j7 hsh w7_9
    replace j16:=Pers.pers hsh.le j16
    replace j17:=Pers.pers hsh.le j17
    replace j18:=Pers.pers hsh.le j18
    rw [← j9] at jn
    replace j9:=jn
    replace hgq:=hgq.hand hsh y9.wr
    rw [← hsh.w]
    clear hsh
    obtain ⟨q,hqq⟩ : ∃ q,q = q2:=⟨q2,rfl⟩
    subst hqq
    exact tail_done (k:=q) (w5 _ _ ⟨F7,⟨hgq,hsb,hdb⟩,j3,j5,j6,y6,z6,j7,y7,j9,j16,j17,j18,w6_7,trivial⟩)
   rintro a k ⟨F7,⟨hg,hs,hd⟩,i3,i5,i6,n6,c6,i7,n7,i9,i16,i17,i18,d6_7,_⟩
   obtain ⟨x3,hx3,hr⟩:=bind_some hr
   obtain ⟨x4,hx4,hr⟩:=bind_some hr
   obtain ⟨x5,hx5,hr⟩:=bind_some hr
   refine cut (fun a' k'=>∃ F7,Bs noF k0 35 a' k'∧(IsRef t_) (a'.get 3) k'∧(IsRef c_) (a'.get 5) k'∧a'.get 6 = .pointer (some ⟨b6,0,none⟩)∧Lo k0 (Eq b6)∧Gb.Box b6 (⟨(⟨#[]⟩:ByteArray),0,[]⟩:Peak) k'∧(BoxH b7 [ho_75_2] [ho_75_2] ({ s1.1 with Tops:=x5 })) F7 (a'.get 7) k'∧Lo k0 F7∧(IsV rights_) (a'.get 16) k'∧(IsL rights_) (a'.get 17) k'∧(IsV s1.2) (a'.get 18) k'∧Apart (Eq b6) F7∧True) ?_ hQ ?_
   ·intro Q7 W7 w6
    refine region (m:=9) (_::⟨some (HdAt b7 ho_75_2.off),[(22,some 0)]⟩::_::_::_::_::_::_::⟨some (IsV (α:=(List Int)) ([x4])),[(29,some 7)]⟩::[]) hmix hs (by kernel_rfl) ⟨o1 [(7,none)] rfl fun _ _ h n=>ok_fieldAdr rfl fo75_2 (upE (BoxH.ptr i7) n.1),ob1 rfl fun _ _ h n=>ok_loadH (g:=ho_75_2) rfl Tryz.underlying67 szf67 n.1 (Rsc.grow i7 h) (.head _),o1 [(3,none)] rfl fun _ _ h n=>ok_fieldAddr rfl fo37_0 (at_Town_0 _) ((up i3 h n.1)).ptr,o1 [(24,some 2)] rfl fun _ _ h n=>ok_load rfl ty30 n.1,o1 [(5,none)] rfl fun _ _ h n=>ok_load rfl ty71 ((up i5 h n.1)).ptr,o1 [(9,none)] rfl fun _ _ h n=>ok_load rfl ty43 ((up i9 h n.1)).ptr,o1 [(25,some 3),(26,some 4),(27,some 5)] rfl fun _ _ h n=>ok_call rfl Tryz.call49 (cap_loads_ok n.1 n.2.1 n.2.2.1 hx3),o1 [(28,some 6)] rfl fun _ _ h n=>ok_call rfl Tryz.call48 (option_Peak_ok n.1 hx4),ob1 rfl fun _ _ h n=>ok_buildSlice rfl Tryz.underlying67 eo3 rfl (by decide) (by decide) ⟨rfl,n.1,trivial⟩,trivial⟩ W7 fun b q p=>?_
    have hgq:=hg.then p.grow
    have hsb:=p.size.trans hs
    have hdb:=p.defers.trans hd
    have j3:=p.ke 3 rfl i3
    have j5:=p.ke 5 rfl i5
    have j6:=upE i6 (p.old 6 rfl)
    have z6:=Gb.Box.grow c6 p.grow
    have y6:=n6
    have j7:(BoxH b7 [ho_75_2] [ho_75_2] s1.1) F7 (b.get 7) q:=p.ke 7 rfl i7
    have y7:=n7
    have j16:=p.ke 16 rfl i16
    have j17:=p.ke 17 rfl i17
    have j18:=p.ke 18 rfl i18
    have j23:(HdAt b7 ho_75_2.off) (b.get 23) q:=p.ou 1 23 rfl
    have j30:(IsV (α:=(List Int)) ([x4])) (b.get 30) q:=p.ou 8 30 rfl
    have w6_7:Apart (Eq b6) F7:=by exact d6_7
    obtain ⟨F7,jt,jo,jw,jf,je⟩:=BoxH.take j7 j23
    have wo6:Apart (obF (b.get 23)) (Eq b6):=fun c h=>(w6_7.symm) c (je c h)
    have wn6:Apart F7 (Eq b6):=fun c h=>(w6_7.symm) c (jf c h)
    have y23:Lo k0 (obF (b.get 23)):=fun c h=>y7 c (je c h)
    replace y7:Lo k0 F7:=fun c h=>y7 c (jf c h)
    replace j7:=jt
    replace j23:IsOwn 0 3 s1.1.Tops (b.get 23) q:=jo
    have w6_23:Apart (Eq b6) (obF (b.get 23)):=(wo6).symm
    have w6_7:Apart (Eq b6) F7:=(wn6).symm
    have w7_23:Apart F7 (obF (b.get 23)):=(jw).symm
    clear jt jo jw jf je wo6 wn6
    have hns:=j23.nshF
    refine tail_appendS (i:=9) (d:=31) rfl rfl rfl rfl (by rw [hsb]; decide) (e:=3) Tryz.underlying67 eo3 j23 (IsV.rd j30) hx5 fun b2 q2 hsz hdf hoth hch hown hob=>?_
    have hle:=hch.le hns
    have yn:Lo k0 (obF (b2.get 31)):=y23.app hgq hob
    have v6:Apart (Eq b6) (obF (b2.get 31)):=Apart.app w6_23 z6.ltF hob
    have v7:Apart F7 (obF (b2.get 31)):=Apart.app w7_23 (Rsc.lt j7) hob
    replace j3:=Pers.pers hle j3
    replace j5:=Pers.pers hle j5
    replace z6:=z6.keep hch (w6_23 _ rfl) hns
    replace j7:=Rsc.keep j7 hch w7_23 hns
    replace j16:=Pers.pers hle j16
    replace j17:=Pers.pers hle j17
    replace j18:=Pers.pers hle j18
    replace j30:=Pers.pers hle j30
    replace hgq:=hgq.step hch y23.wr
    rw [← hoth 3 (by decide)] at j3
    rw [← hoth 5 (by decide)] at j5
    rw [← hoth 6 (by decide)] at j6
    rw [← hoth 7 (by decide)] at j7
    rw [← hoth 16 (by decide)] at j16
    rw [← hoth 17 (by decide)] at j17
    rw [← hoth 18 (by decide)] at j18
    rw [← hoth 30 (by decide)] at j30
    have w6_31:=v6
    have w7_31:=v7
    have j31:=hown
    have y31:=yn
    replace hsb:=hsz.trans hsb
    replace hdb:=hdf.trans hdb
    clear hle hch hown hob hns yn hsz hdf hoth
    obtain ⟨b,hbb⟩ : ∃ b,b = b2:=⟨b2,rfl⟩
    subst hbb
    obtain ⟨q,hqq⟩ : ∃ q,q = q2:=⟨q2,rfl⟩
    subst hqq
    refine tail_does (R:=IsAdr b7 (2)) (i:=10) (d:=32) rfl rfl rfl (by rw [hsb]; decide) W7 (ok_fieldAdr rfl fo75_2 (BoxH.ptr j7)) fun b2 q2 hsz hdf hoth hgr hnew=>?_
    replace j3:=Pers.pers hgr.le j3
    replace j5:=Pers.pers hgr.le j5
    replace z6:=z6.grow hgr
    replace j7:=Rsc.grow j7 hgr
    replace j16:=Pers.pers hgr.le j16
    replace j17:=Pers.pers hgr.le j17
    replace j18:=Pers.pers hgr.le j18
    replace j30:=Pers.pers hgr.le j30
    replace j31:=Mono.mono hgr j31
    replace hgq:=hgq.then hgr
    rw [← hoth 3 (by decide)] at j3
    rw [← hoth 5 (by decide)] at j5
    rw [← hoth 6 (by decide)] at j6
    rw [← hoth 7 (by decide)] at j7
    rw [← hoth 16 (by decide)] at j16
    rw [← hoth 17 (by decide)] at j17
    rw [← hoth 18 (by decide)] at j18
    rw [← hoth 30 (by decide)] at j30
    rw [← hoth 31 (by decide)] at j31
    rw [← hoth 31 (by decide)] at y31
    rw [← hoth 31 (by decide)] at w6_31
    rw [← hoth 31 (by decide)] at w7_31
    have j32:=hnew
    replace hsb:=hsz.trans hsb
    replace hdb:=hdf.trans hdb
    clear hgr hsz hdf hoth hnew
    obtain ⟨b,hbb⟩ : ∃ b,b = b2:=⟨b2,rfl⟩
    subst hbb
    obtain ⟨q,hqq⟩ : ∃ q,q = q2:=⟨q2,rfl⟩
    subst hqq
    refine tail_storeH (i:=11) (g:=ho_75_2) (x':=({ s1.1 with Tops:=x5 }:Peak)) rfl rfl rfl rfl szf67 j32 j7 (by decide) ⟨_,(.head _),rfl⟩ rfl (fun _ _ _ h=>h) (fun _ h=>nomatch h) j31 (w7_31.symm) fun q2 FF hch hz hF=>?_
    have hns:=Rsc.nsh j7
    have hle:=hch.le hns
    replace hgq:=hgq.step hch y7.wr
    replace j3:=Pers.pers hle j3
    replace j5:=Pers.pers hle j5
    replace z6:=z6.keep hch (w6_7 _ rfl) hns
    replace j16:=Pers.pers hle j16
    replace j17:=Pers.pers hle j17
    replace j18:=Pers.pers hle j18
    replace j30:=Pers.pers hle j30
    replace j32:=Pers.pers hle j32
    have wn6:Apart FF (Eq b6):=fun c h=>(hF c h).elim (fun h=>(w6_7.symm) c h) (fun h=>(w6_31.symm) c h)
    have yn:Lo k0 FF:=fun c h=>(hF c h).elim (fun h=>y7 c h) (fun h=>y31 c h)
    clear hns hle hch hF
    obtain ⟨F7,hFe⟩ : ∃ F,F = FF:=⟨FF,rfl⟩
    subst hFe
    replace j7:=hz
    replace y7:=yn
    clear hz yn
    have w6_7:Apart (Eq b6) F7:=(wn6).symm
    clear wn6
    obtain ⟨q,hqq⟩ : ∃ q,q = q2:=⟨q2,rfl⟩
    subst hqq
    exact tail_done (k:=q) (w6 _ _ ⟨F7,⟨hgq,hsb,hdb⟩,j3,j5,j6,y6,z6,j7,y7,j16,j17,j18,w6_7,trivial⟩)
   rintro a k ⟨F7,⟨hg,hs,hd⟩,i3,i5,i6,n6,c6,i7,n7,i16,i17,i18,d6_7,_⟩
   obtain ⟨x8,hx8,hr⟩:=bind_some hr
   refine cut (fun a' k'=>∃ F7,Bs noF k0 35 a' k'∧(IsRef t_) (a'.get 3) k'∧(IsRef c_) (a'.get 5) k'∧a'.get 6 = .pointer (some ⟨b6,0,none⟩)∧Lo k0 (Eq b6)∧Gb.Box b6 (⟨(⟨#[]⟩:ByteArray),0,[]⟩:Peak) k'∧(BoxH b7 [ho_75_2] [ho_75_2] ({ s1.1 with Tops:=x5 })) F7 (a'.get 7) k'∧Lo k0 F7∧(IsV rights_) (a'.get 16) k'∧(IsL rights_) (a'.get 17) k'∧(IsV x8) (a'.get 18) k'∧Apart (Eq b6) F7∧True) ?_ hQ ?_
   ·intro Q8 W8 w7
    refine gS 2 (_::_::[]) hs (by kernel_rfl) ⟨o1 [(18,none)] rfl fun _ _ h n=>ok_add rfl (up i18 h n.1) (cI rfl) hx8,cm 0 rfl rfl,trivial⟩ W8 fun b q p=>?_
    exact tail_done (k:=q) (w7 _ _ ⟨F7,Bs.post ⟨hg,hs,hd⟩ p,p.ke 3 rfl i3,p.ke 5 rfl i5,upE i6 (p.old 6 rfl),n6,Gb.Box.grow c6 p.grow,p.ke 7 rfl i7,n7,p.ke 16 rfl i16,p.ke 17 rfl i17,p.ou 1 18 rfl,d6_7,trivial⟩)
   rintro a k ⟨F7,⟨hg,hs,hd⟩,i3,i5,i6,n6,c6,i7,n7,i16,i17,i18,d6_7,_⟩
   exact hgo1012 _ _ _ (Option.some.inj hr).symm ⟨F7,⟨hg,hs,hd⟩,i3,i5,i6,n6,c6,i7,n7,i16,i17,i18,d6_7,trivial⟩
  rw [if_neg (by rw [hc1026]; decide)] at hr
  refine wp_exit ?_
  obtain ⟨kk,sh1025,cc7⟩:=BoxH.close i7 (hc_75_2 _) (fun _ h=>h)
  replace c6:=c6.handed sh1025 (d6_7 _ rfl)
  replace hg:=hg.hand sh1025 n7.wr
  rw [← sh1025.w]
  replace d6_7:Apart (Eq b6) (Eq b7):=fun c h e=>d6_7 c h (BoxH.sub i7 c e)
  replace n7:Lo k0 (Eq b7):=fun c e=>n7 c (BoxH.sub i7 c e)
  replace i7:=BoxH.ptr i7
  have c7:=cc7
  clear sh1025 cc7
  obtain ⟨k,hkk⟩ : ∃ k,k = kk:=⟨kk,rfl⟩
  subst hkk
  exact hex1013 _ _ _ _ (Option.some.inj hr).symm ⟨rfl,⟨hg,hs,hd⟩,i6,n6,c6,i7,n7,c7,d6_7,trivial⟩
 ·rintro r1 a k rfl hR
  dsimp only at hr
  obtain rfl:=Option.some.inj hr
  exact hR
 ·rintro _ _ _ rfl _
  simp at hr
 clear hf1
 rintro _ s2 a k rfl ⟨rfl,⟨hg,hs,hd⟩,i6,n6,c6,i7,n7,c7,d6_7,_⟩
 dsimp only at hr
 refine cutS (fun c l=>Bs noF k0 35 c l∧c.get 6 = .pointer (some ⟨b6,0,none⟩)∧Lo k0 (Eq b6)∧Gb.Box b6 s2.1 l∧True) ?_ ?_
 ·intro Q9 W9 w8
  refine gS 1 (_::[]) hs (by kernel_rfl) ⟨o1 [(7,none)] rfl fun _ _ h n=>ok_load rfl ty75 ⟨_,(upE i7 n.1),(c7.grow h).at⟩,trivial⟩ W9 fun b q p=>?_
  have hgq:=hg.then p.grow
  have hsb:=p.size.trans hs
  have hdb:=p.defers.trans hd
  have j6:=upE i6 (p.old 6 rfl)
  have z6:=Gb.Box.grow c6 p.grow
  have y6:=n6
  have j34:(IsV s2.1) (b.get 34) q:=p.ou 0 34 rfl
  have hns:=z6.nshF
  refine tail_storeB (i:=1) rfl rfl rfl rfl szf75 (Upd.self (α:=Peak)) j6 z6 j34 fun q2 hch hz=>?_
  replace hgq:=hgq.step hch y6.wr
  have hle:=hch.le hns
  replace j34:=Pers.pers hle j34
  replace z6:=hz
  clear hns hle hch
  obtain ⟨q,hqq⟩ : ∃ q,q = q2:=⟨q2,rfl⟩
  subst hqq
  exact tail_done (k:=q) (w8 _ _ ⟨⟨hgq,hsb,hdb⟩,j6,y6,z6,trivial⟩)
 rintro a k ⟨⟨hg,hs,hd⟩,i6,n6,c6,_⟩
 refine wp_ret ?_
 obtain rfl:=Option.some.inj hr
 exact retC1 rfl hd hg (resCell ty75 i6 c6)
noncomputable def k29:=mkO 29 [.st 7,.list (.st 28),.st 15] [.st 31] (fun x=>cap_Peak x.1 x.2.1 x.2.2) Tryz.call29 fun k0 vs x r hG h hr=>by obtain ⟨v0,vs,rfl,i0,h⟩:=h.cons; obtain ⟨v1,vs,rfl,i1,h⟩:=h.cons; obtain ⟨v2,rfl,i2⟩:=h.one; exact cap_Peak_ok i0 i1 i2 hr
def slices_Clone_Placed (s_:(List Placed)):Option ((List Placed)):=
 (appI [] s_).bind fun x1=>
 some x1
theorem slices_Clone_Placed_okO {k0:K} {v0:Value} {s_:(List Placed)} {r:(List Placed)} (i0:(IsV s_) v0 k0) (hr:slices_Clone_Placed s_ = some r) :
  Calls Tryz.prog 33 #[v0] k0.w (Ret k0 (IsOwn k0.w.heap.size 97 r)):=by
 unfold slices_Clone_Placed at hr
 refine Ret.ofC ?_
 refine enterK Tryz.func33 rfl Tryz.ntmps33 (show 1 ≤ 8 by decide) fun a k hk0 hs hd ha=>?_
 obtain ⟨e0,_⟩:=ha
 replace i0:(IsV s_) (a.get 0) k:=by rw [e0,hk0]; exact i0
 have hQ:Gb.LetsOut (bodyPost Tryz.prog Tryz.f33 (RetC noF k0 (IsOwn k0.w.heap.size 97 r))):=letsOutC
 have hg:Chg noF k0 k:=by rw [hk0]; exact Chg.refl _ k0
 refine stepL 1 (⟨some IsE0,[]⟩::[]) rfl ⟨hg,hs,hd⟩ (by kernel_rfl) ⟨ob1 rfl fun b q h n=>ok_assign rfl isE0_nil,trivial⟩ [⟨_,_⟩] (fun b q p=>⟨p.ke 0 rfl i0,trivial⟩) ?_
 rintro a k ⟨⟨hg,hs,hd⟩,i0,_⟩
 refine wp_seq ?_
 refine stepL 2 (_::⟨some (IsNT s_),[(3,some 0)]⟩::[]) rfl ⟨hg,hs,hd⟩ (by kernel_rfl) ⟨mu rfl i0,ob1 rfl fun _ _ h n=>ok_eqNil rfl Tryz.underlying34 (IsV.rd n.1),trivial⟩ [⟨_,_⟩,⟨_,_⟩] (fun b q p=>⟨p.ke 0 rfl i0,p.ou 1 4 rfl,trivial⟩) ?_
 rintro a k ⟨⟨hg,hs,hd⟩,i0,i4,_⟩
 obtain ⟨bb,hbb,hnil⟩:=i4
 refine wp_cond_split hbb (fun hc1050=>?_) (fun hc1050=>?_)
 ·replace hr:some ([]:List Placed) = some r:=by rw [hnil hc1050] at hr; simpa [appI] using hr
  refine cutS (fun c l=>Bs noF k0 8 c l∧IsOwn 0 97 ([]:List Placed) (c.get 2) l∧Lo k0 (obF (c.get 2))∧True) ?_ ?_
  ·intro Q1 W1 w1
   refine gS 1 (⟨some IsE0,[]⟩::[]) hs (by kernel_rfl) ⟨ob1 rfl fun b q h n=>ok_assign rfl isE0_nil,trivial⟩ W1 fun b q p=>?_
   have hgq:=hg.then p.grow
   have hsb:=p.size.trans hs
   have hdb:=p.defers.trans hd
   have j2:IsE0 (b.get 2) q:=p.ou 0 2 rfl
   have y2:Lo k0 (obF (b.get 2)):=j2.lo
   replace j2:IsOwn 0 97 ([]:List Placed) (b.get 2) q:=j2.own0
   exact tail_done (k:=q) (w1 _ _ ⟨⟨hgq,hsb,hdb⟩,j2,y2,trivial⟩)
  rintro a k ⟨⟨hg,hs,hd⟩,i2,n2,_⟩
  refine wp_ret ?_
  obtain rfl:=Option.some.inj hr
  exact retC1 rfl hd hg (show ResOk _ _ _ (.tmp 2) _ from IsOwn.raise (k0:=k0) i2 n2)
 ·skip
  refine wp_skip ?_
  refine wp_seq ?_
  obtain ⟨x1,hx1,hr⟩:=bind_some hr
  refine cut (fun a' k'=>Bs noF k0 8 a' k'∧IsOwn 0 97 x1 (a'.get 2) k'∧Lo k0 (obF (a'.get 2))∧True) ?_ hQ ?_
  ·intro Q2 W2 w2
   refine gS 4 (⟨some IsE0,[]⟩::_::⟨some (IsOwn k.w.heap.size 97 x1),[(5,some 0),(6,some 1)]⟩::_::[]) hs (by kernel_rfl) ⟨ob1 rfl fun b q h n=>ok_buildSlice0 rfl Tryz.underlying34 eo97,mu rfl i0,ob1 rfl fun _ _ h n=>ok_append0 rfl Tryz.underlying34 eo97 h.size n.1 (IsV.rd n.2.1) hx1,cp 2 rfl rfl,trivial⟩ W2 fun b q p=>?_
   have hgq:=hg.then p.grow
   have hsb:=p.size.trans hs
   have hdb:=p.defers.trans hd
   have j2:(IsOwn k.w.heap.size 97 x1) (b.get 2) q:=p.ou 3 2 rfl
   have x2:Lo k (obF (b.get 2)):=j2.loF
   have y2:=x2.chg hg
   replace j2:=j2.weaken (Nat.zero_le _)
   exact tail_done (k:=q) (w2 _ _ ⟨⟨hgq,hsb,hdb⟩,j2,y2,trivial⟩)
  rintro a k ⟨⟨hg,hs,hd⟩,i2,n2,_⟩
  refine wp_ret ?_
  obtain rfl:=Option.some.inj hr
  exact retC1 rfl hd hg (show ResOk _ _ _ (.tmp 2) _ from IsOwn.raise (k0:=k0) i2 n2)
theorem slices_Clone_Placed_ok {k0:K} {v0:Value} {s_:(List Placed)} {r:(List Placed)} (i0:(IsV s_) v0 k0) (hr:slices_Clone_Placed s_ = some r) :
  Calls Tryz.prog 33 #[v0] k0.w (Ret k0 (IsV r)):=
 ret_give (slices_Clone_Placed_okO i0 hr)
noncomputable def k33:=mkO 33 [.list (.st 21)] [.list (.st 21)] (fun x=>slices_Clone_Placed x) Tryz.call33 fun k0 vs x r hG h hr=>by obtain ⟨v0,rfl,i0⟩:=h.one; exact slices_Clone_Placed_ok i0 hr
def vested_After_L0 (lot_:Int) (ph_:Phase) (s1:Town × Int):Option (Flow (Town × Int) (Town)):=
 if (decide (s1.2 < (ph_.Volumes.length:Int))) then
  (getI ph_.Volumes s1.2).bind fun x1=>
  (appI s1.1.Built ([(⟨lot_,x1⟩:Placed)])).bind fun x2=>
  (addI s1.2 1).bind fun x3=>
  some (.go ({ s1.1 with Built:=x2 },x3))
 else
  some (.ex 0 (s1.1,s1.2))
def vested_After_L1 (ph_:Phase) (s1:Town × Int):Option (Flow (Town × Int) (Town)):=
 if (decide (s1.2 < (ph_.Gives.length:Int))) then
  (getI ph_.Gives s1.2).bind fun x1=>
  (cap_Limited x1.N).bind fun x2=>
  (subI 0 x2).bind fun x3=>
  (appI s1.1.Base ([(⟨x1.Name,x3⟩:Entry)])).bind fun x4=>
  (addI s1.2 1).bind fun x5=>
  some (.go ({ s1.1 with Base:=x4 },x5))
 else
  some (.ex 2 (s1.1,s1.2))
def vested_After (t_:Town) (lot_:Int) (ph_:Phase):Option (Town):=
 (slices_Clone_Placed t_.Built).bind fun x1=>
 (slices_Clone_Entry t_.Base).bind fun x2=>
 (iterL (vested_After_L0 lot_ ph_) (ph_.Volumes.length + 1) ({ ({ t_ with Built:=x1 }:Town) with Base:=x2 },0)).bind fun f1=>match f1 with
  | .go _=>none
  | .ex _ s1 =>
   (iterL (vested_After_L1 ph_) (ph_.Gives.length + 1) (s1.1,0)).bind fun f2=>match f2 with
    | .go _=>none
    | .ex _ s2=>
     some s2.1
    | .ret r1=>some r1
  | .ret r2=>some r2
theorem vested_After_ok {k0:K} {v0 v1 v2:Value} {t_:Town} {lot_:Int} {ph_:Phase} {r:Town} (i0:(IsV t_) v0 k0) (i1:(IsV lot_) v1 k0) (i2:(IsV ph_) v2 k0) (hr:vested_After t_ lot_ ph_ = some r) :
  Calls Tryz.prog 15 #[v0,v1,v2] k0.w (Ret k0 (IsV r)):=by
 unfold vested_After at hr
 refine Ret.ofC ?_
 refine enterK Tryz.func15 rfl Tryz.ntmps15 (show 3 ≤ 56 by decide) fun a k hk0 hs hd ha=>?_
 obtain ⟨e0,e1,e2,_⟩:=ha
 replace i0:(IsV t_) (a.get 0) k:=by rw [e0,hk0]; exact i0
 replace i1:(IsV lot_) (a.get 1) k:=by rw [e1,hk0]; exact i1
 replace i2:(IsV ph_) (a.get 2) k:=by rw [e2,hk0]; exact i2
 have hQ:Gb.LetsOut (bodyPost Tryz.prog Tryz.f15 (RetC noF k0 (IsV r))):=letsOutC
 have hg:Chg noF k0 k:=by rw [hk0]; exact Chg.refl _ k0
 refine cutS (fun c l=>Bs noF k0 56 c l∧IsV lot_ (c.get 1) l∧IsRef ph_ (c.get 5) l∧(∃ b3,c.get 3 = .pointer (some ⟨b3,0,none⟩)∧Lo k0 (Eq b3)∧Gb.Box b3 t_ l∧(∃ b6,c.get 6 = .pointer (some ⟨b6,0,none⟩)∧Lo k0 (Eq b6)∧Gb.Box b6 (⟨(⟨[],[],[],[],[],[],[],0⟩:Plan),[],[],[],[],[]⟩:Town) l∧Apart (Eq b3) (Eq b6)∧True))) ?_ ?_
 ·intro Q1 W1 w1
  refine gS 2 (⟨some (IsBox k.w.heap.size t_),[(0,none)]⟩::⟨some (IsRef ph_),[(2,none)]⟩::[]) hs (by kernel_rfl) ⟨ob1 rfl fun _ _ h n=>ok_box _ h.size rfl (up i0 h n.1),ob1 rfl fun _ _ h n=>ok_boxR rfl (up i2 h n.1),trivial⟩ W1 fun b q p=>?_
  have hgq:=hg.then p.grow
  have hsb:=p.size.trans hs
  have hdb:=p.defers.trans hd
  have j1:=p.ke 1 rfl i1
  obtain ⟨b3,j3,x3,z3⟩:(IsBox k.w.heap.size t_) (b.get 3) q:=p.ou 0 3 rfl
  replace x3:Lo k (Eq b3):=Lo.eq x3
  have y3:Lo k0 (Eq b3):=x3.chg hg
  have j5:(IsRef ph_) (b.get 5) q:=p.ou 1 5 rfl
  refine tail_does (i:=2) (d:=6) rfl rfl rfl (by rw [hsb]; decide) W1 (ok_alloc _ (Nat.le_refl _) rfl z37) fun b2 q2 hsz hdf hoth hgr hnew=>?_
  obtain ⟨b6,jn,xn,zn⟩:=hnew
  have v3:Apart (Eq b3) (Eq b6):=Apart.new z3.ltF (Lo.eq xn)
  have yn:Lo k0 (Eq b6):=(Lo.eq xn).chg hgq
  replace j1:=Pers.pers hgr.le j1
  replace z3:=z3.grow hgr
  replace j5:=Pers.pers hgr.le j5
  replace hgq:=hgq.then hgr
  rw [← hoth 1 (by decide)] at j1
  rw [← hoth 3 (by decide)] at j3
  rw [← hoth 5 (by decide)] at j5
  have w3_6:=v3
  have j6:=jn
  have z6:=zn
  have y6:=yn
  replace hsb:=hsz.trans hsb
  replace hdb:=hdf.trans hdb
  clear hgr hsz hdf hoth jn zn yn xn
  obtain ⟨b,hbb⟩ : ∃ b,b = b2:=⟨b2,rfl⟩
  subst hbb
  obtain ⟨q,hqq⟩ : ∃ q,q = q2:=⟨q2,rfl⟩
  subst hqq
  exact tail_done (k:=q) (w1 _ _ ⟨⟨hgq,hsb,hdb⟩,j1,j5,b3,j3,y3,z3,b6,j6,y6,z6,w3_6,trivial⟩)
 rintro a k ⟨⟨hg,hs,hd⟩,i1,i5,b3,i3,n3,c3,b6,i6,n6,c6,d3_6,_⟩
 refine wp_seq ?_
 obtain ⟨x1,hx1,hr⟩:=bind_some hr
 obtain ⟨x2,hx2,hr⟩:=bind_some hr
 refine cut (fun a' k'=>∃ F3,Bs noF k0 56 a' k'∧(IsV lot_) (a'.get 1) k'∧(BoxH b3 [ho_37_4,ho_37_5] [ho_37_4,ho_37_5] ({ ({ t_ with Built:=x1 }:Town) with Base:=x2 })) F3 (a'.get 3) k'∧Lo k0 F3∧(IsRef ph_) (a'.get 5) k'∧a'.get 6 = .pointer (some ⟨b6,0,none⟩)∧Lo k0 (Eq b6)∧Gb.Box b6 (⟨(⟨[],[],[],[],[],[],[],0⟩:Plan),[],[],[],[],[]⟩:Town) k'∧Apart F3 (Eq b6)∧True) ?_ hQ ?_
 ·intro Q2 W2 w2
  refine region (m:=7) (_::_::_::_::_::_::_::[]) hmix hs (by kernel_rfl) ⟨o1 [(3,none)] rfl fun _ _ h n=>ok_fieldAddr rfl fo37_4 (at_Town_4 _) ⟨_,(upE i3 n.1),(c3.grow h).at⟩,o1 [(11,some 0)] rfl fun _ _ h n=>ok_load rfl ty34 n.1,o1 [(12,some 1)] rfl fun _ _ h n=>ok_call rfl Tryz.call33 (ret_weaken h.size (slices_Clone_Placed_okO n.1 hx1)),o1 [(3,none)] rfl fun _ _ h n=>ok_fieldAddr rfl fo37_5 (at_Town_5 _) ⟨_,(upE i3 n.1),(c3.grow h).at⟩,o1 [(14,some 3)] rfl fun _ _ h n=>ok_load rfl ty35 n.1,o1 [(15,some 4)] rfl fun _ _ h n=>ok_call rfl Tryz.call34 (ret_weaken h.size (slices_Clone_Entry_okO n.1 hx2)),o1 [(3,none)] rfl fun _ _ h n=>ok_fieldAdr rfl fo37_4 (upE i3 n.1),trivial⟩ W2 fun b q p=>?_
  have hgq:=hg.then p.grow
  have hsb:=p.size.trans hs
  have hdb:=p.defers.trans hd
  have j1:=p.ke 1 rfl i1
  have j3:=upE i3 (p.old 3 rfl)
  have z3:=Gb.Box.grow c3 p.grow
  have y3:=n3
  have j5:=p.ke 5 rfl i5
  have j6:=upE i6 (p.old 6 rfl)
  have z6:=Gb.Box.grow c6 p.grow
  have y6:=n6
  have j13:(IsOwn k.w.heap.size 97 x1) (b.get 13) q:=p.ou 2 13 rfl
  have x13:Lo k (obF (b.get 13)):=j13.loF
  have y13:=x13.chg hg
  replace j13:=j13.weaken (Nat.zero_le _)
  have j16:(IsOwn k.w.heap.size 99 x2) (b.get 16) q:=p.ou 5 16 rfl
  have x16:Lo k (obF (b.get 16)):=j16.loF
  have y16:=x16.chg hg
  replace j16:=j16.weaken (Nat.zero_le _)
  have j17:IsAdr b3 (11) (b.get 17) q:=p.ou 6 17 rfl
  have w3_6:Apart (Eq b3) (Eq b6):=by exact d3_6
  have w3_13:Apart (Eq b3) (obF (b.get 13)):=Apart.new c3.ltF x13
  have w3_16:Apart (Eq b3) (obF (b.get 16)):=Apart.new c3.ltF x16
  have w6_13:Apart (Eq b6) (obF (b.get 13)):=Apart.new c6.ltF x13
  have w6_16:Apart (Eq b6) (obF (b.get 16)):=Apart.new c6.ltF x16
  have w13_16:Apart (obF (b.get 13)) (obF (b.get 16)):=own_tag j13 j16 (by decide)
  obtain ⟨F3,jn,hFe⟩ : ∃ F,BoxH b3 [ho_37_4,ho_37_5] [] t_ F (b.get 3) q∧F = Eq b3:=⟨_,Box.open z3 hu_37_4_37_5 j3,rfl⟩
  replace j3:=jn
  replace y3:Lo k0 F3:=by rw [hFe]; exact y3
  replace w3_6:Apart F3 (Eq b6):=by rw [hFe]; exact w3_6
  replace w3_13:Apart F3 (obF (b.get 13)):=by rw [hFe]; exact w3_13
  replace w3_16:Apart F3 (obF (b.get 16)):=by rw [hFe]; exact w3_16
  clear jn hFe z3
  refine tail_storeH (i:=7) (g:=ho_37_4) (x':=({ t_ with Built:=x1 }:Town)) rfl rfl rfl rfl szf34 j17 j3 (by decide) ⟨_,(.head _),rfl⟩ rfl (fun _ _ _ h=>h) (fun _ h=>nomatch h) j13 (w3_13.symm) fun q2 FF hch hz hF=>?_
  have hns:=Rsc.nsh j3
  have hle:=hch.le hns
  replace hgq:=hgq.step hch y3.wr
  replace j1:=Pers.pers hle j1
  replace j5:=Pers.pers hle j5
  replace z6:=z6.keep hch ((w3_6.symm) _ rfl) hns
  replace j16:=j16.keep hch (w3_16.symm) hns
  replace j17:=Pers.pers hle j17
  have wn6:Apart FF (Eq b6):=fun c h=>(hF c h).elim (fun h=>w3_6 c h) (fun h=>(w6_13.symm) c h)
  have wn16:Apart FF (obF (b.get 16)):=fun c h=>(hF c h).elim (fun h=>w3_16 c h) (fun h=>w13_16 c h)
  have yn:Lo k0 FF:=fun c h=>(hF c h).elim (fun h=>y3 c h) (fun h=>y13 c h)
  clear hns hle hch hF
  obtain ⟨F3,hFe⟩ : ∃ F,F = FF:=⟨FF,rfl⟩
  subst hFe
  replace j3:=hz
  replace y3:=yn
  clear hz yn
  have w3_6:Apart F3 (Eq b6):=wn6
  clear wn6
  have w3_16:Apart F3 (obF (b.get 16)):=wn16
  clear wn16
  obtain ⟨q,hqq⟩ : ∃ q,q = q2:=⟨q2,rfl⟩
  subst hqq
  refine tail_does (R:=IsAdr b3 (12)) (i:=8) (d:=18) rfl rfl rfl (by rw [hsb]; decide) W2 (ok_fieldAdr rfl fo37_5 (BoxH.ptr j3)) fun b2 q2 hsz hdf hoth hgr hnew=>?_
  replace j1:=Pers.pers hgr.le j1
  replace j3:=Rsc.grow j3 hgr
  replace j5:=Pers.pers hgr.le j5
  replace z6:=z6.grow hgr
  replace j16:=Mono.mono hgr j16
  replace j17:=Pers.pers hgr.le j17
  replace hgq:=hgq.then hgr
  rw [← hoth 1 (by decide)] at j1
  rw [← hoth 3 (by decide)] at j3
  rw [← hoth 5 (by decide)] at j5
  rw [← hoth 6 (by decide)] at j6
  rw [← hoth 16 (by decide)] at j16
  rw [← hoth 16 (by decide)] at y16
  rw [← hoth 17 (by decide)] at j17
  rw [← hoth 16 (by decide)] at w3_16
  rw [← hoth 16 (by decide)] at w6_16
  have j18:=hnew
  replace hsb:=hsz.trans hsb
  replace hdb:=hdf.trans hdb
  clear hgr hsz hdf hoth hnew
  obtain ⟨b,hbb⟩ : ∃ b,b = b2:=⟨b2,rfl⟩
  subst hbb
  obtain ⟨q,hqq⟩ : ∃ q,q = q2:=⟨q2,rfl⟩
  subst hqq
  refine tail_storeH (i:=9) (g:=ho_37_5) (x':=({ ({ t_ with Built:=x1 }:Town) with Base:=x2 }:Town)) rfl rfl rfl rfl szf35 j18 j3 (by decide) ⟨_,(.tail _ (.head _)),rfl⟩ rfl (fun _ _ _ h=>h) (fun _ h=>by cases h with | head=>decide | tail _ h=>exact nomatch h) j16 (w3_16.symm) fun q2 FF hch hz hF=>?_
  have hns:=Rsc.nsh j3
  have hle:=hch.le hns
  replace hgq:=hgq.step hch y3.wr
  replace j1:=Pers.pers hle j1
  replace j5:=Pers.pers hle j5
  replace z6:=z6.keep hch ((w3_6.symm) _ rfl) hns
  replace j17:=Pers.pers hle j17
  replace j18:=Pers.pers hle j18
  have wn6:Apart FF (Eq b6):=fun c h=>(hF c h).elim (fun h=>w3_6 c h) (fun h=>(w6_16.symm) c h)
  have yn:Lo k0 FF:=fun c h=>(hF c h).elim (fun h=>y3 c h) (fun h=>y16 c h)
  clear hns hle hch hF
  obtain ⟨F3,hFe⟩ : ∃ F,F = FF:=⟨FF,rfl⟩
  subst hFe
  replace j3:=hz
  replace y3:=yn
  clear hz yn
  have w3_6:Apart F3 (Eq b6):=wn6
  clear wn6
  obtain ⟨q,hqq⟩ : ∃ q,q = q2:=⟨q2,rfl⟩
  subst hqq
  replace j3:=BoxH.swap j3
  exact tail_done (k:=q) (w2 _ _ ⟨F3,⟨hgq,hsb,hdb⟩,j1,j3,y3,j5,j6,y6,z6,w3_6,trivial⟩)
 rintro a k ⟨F3,⟨hg,hs,hd⟩,i1,i3,n3,i5,i6,n6,c6,d3_6,_⟩
 refine wp_seq ?_
 refine cutS (fun c l=>∃ F3,Bs noF k0 56 c l∧IsV lot_ (c.get 1) l∧(BoxH b3 [ho_37_4,ho_37_5] [ho_37_4,ho_37_5] ({ ({ t_ with Built:=x1 }:Town) with Base:=x2 })) F3 (c.get 3) l∧Lo k0 F3∧IsRef ph_ (c.get 5) l∧c.get 6 = .pointer (some ⟨b6,0,none⟩)∧Lo k0 (Eq b6)∧Gb.Box b6 (⟨(⟨[],[],[],[],[],[],[],0⟩:Plan),[],[],[],[],[]⟩:Town) l∧IsV ph_.Volumes (c.get 20) l∧IsI (ph_.Volumes.length:Int) (c.get 21) l∧IsI 0 (c.get 22) l∧Apart F3 (Eq b6)∧True) ?_ ?_
 ·intro Q3 W3 w3
  refine gS 4 (_::_::_::⟨some (IsI 0),[]⟩::[]) hs (by kernel_rfl) ⟨o1 [(5,none)] rfl fun _ _ h n=>ok_fieldAddr rfl fo46_0 (at_Phase_0 _) ((up i5 h n.1)).ptr,o1 [(19,some 0)] rfl fun _ _ h n=>ok_load rfl ty44 n.1,o1 [(20,some 1)] rfl fun _ _ h n=>ok_len rfl rfl Tryz.underlying44 (IsV.rd n.1),ob1 rfl fun _ _ h n=>ok_move rfl (cI rfl),trivial⟩ W3 fun b q p=>?_
  exact tail_done (k:=q) (w3 _ _ ⟨F3,Bs.post ⟨hg,hs,hd⟩ p,p.ke 1 rfl i1,p.ke 3 rfl i3,n3,p.ke 5 rfl i5,upE i6 (p.old 6 rfl),n6,Gb.Box.grow c6 p.grow,p.ou 1 20 rfl,p.ou 2 21 rfl,p.ou 3 22 rfl,d3_6,trivial⟩)
 rintro a k ⟨F3,⟨hg,hs,hd⟩,i1,i3,n3,i5,i6,n6,c6,i20,i21,i22,d3_6,_⟩
 refine wp_block ?_
 obtain ⟨f1,hf1,hr⟩:=bind_some hr
 refine cutFe f1 (fun s' c l=>∃ F3,Bs noF k0 56 c l∧IsV lot_ (c.get 1) l∧(BoxH b3 [ho_37_4,ho_37_5] [ho_37_4,ho_37_5] s'.1) F3 (c.get 3) l∧Lo k0 F3∧IsRef ph_ (c.get 5) l∧c.get 6 = .pointer (some ⟨b6,0,none⟩)∧Lo k0 (Eq b6)∧Gb.Box b6 (⟨(⟨[],[],[],[],[],[],[],0⟩:Plan),[],[],[],[],[]⟩:Town) l∧IsV ph_.Volumes (c.get 20) l∧IsI (ph_.Volumes.length:Int) (c.get 21) l∧IsV s'.2 (c.get 22) l∧Apart F3 (Eq b6)∧True) (fun i' s' c l=>(i' = 0∧∃ F3,Bs noF k0 56 c l∧(BoxH b3 [ho_37_4,ho_37_5] [ho_37_4,ho_37_5] s'.1) F3 (c.get 3) l∧Lo k0 F3∧IsRef ph_ (c.get 5) l∧c.get 6 = .pointer (some ⟨b6,0,none⟩)∧Lo k0 (Eq b6)∧Gb.Box b6 (⟨(⟨[],[],[],[],[],[],[],0⟩:Plan),[],[],[],[],[]⟩:Town) l∧Apart F3 (Eq b6)∧True)) (fun r' c l=>bodyPost Tryz.prog Tryz.f15 (RetC noF k0 (IsV r')) .ret c l.w) ?_ hQ ?_ ?_ ?_
 ·intro Q4 W4 hgo hex hret
  refine sim_loop ?_ _ _ _ _ _ hf1 ⟨F3,⟨hg,hs,hd⟩,i1,i3,n3,i5,i6,n6,c6,i20,i21,i22,d3_6,trivial⟩ Q4 W4 hgo hex hret
  clear hr hf1 hgo hex hret W4 hQ hg hs hd F3 c6 d3_6 i1 i20 i21 i22 i3 i5 i6 n3 n6
  intro s1 fl_ a k hr hS Q hQ hgo1059 hex1060 hret1061
  obtain ⟨F3,⟨hg,hs,hd⟩,i1,i3,n3,i5,i6,n6,c6,i20,i21,i22,d3_6,_⟩:=hS
  unfold vested_After_L0 at hr
  refine cutS (fun c l=>∃ F3,Bs noF k0 56 c l∧IsV lot_ (c.get 1) l∧(BoxH b3 [ho_37_4,ho_37_5] [ho_37_4,ho_37_5] s1.1) F3 (c.get 3) l∧Lo k0 F3∧IsRef ph_ (c.get 5) l∧c.get 6 = .pointer (some ⟨b6,0,none⟩)∧Lo k0 (Eq b6)∧Gb.Box b6 (⟨(⟨[],[],[],[],[],[],[],0⟩:Plan),[],[],[],[],[]⟩:Town) l∧IsV ph_.Volumes (c.get 20) l∧IsI (ph_.Volumes.length:Int) (c.get 21) l∧IsV s1.2 (c.get 22) l∧(IsV (decide (s1.2 < (ph_.Volumes.length:Int)))) (c.get 23) l∧Apart F3 (Eq b6)∧True) ?_ ?_
  ·intro Q5 W5 w4
   refine gS 1 (_::[]) hs (by kernel_rfl) ⟨o1 [(22,none),(21,none)] rfl fun _ _ h n=>ok_lss rfl (up i22 h n.1) (up i21 h n.2.1),trivial⟩ W5 fun b q p=>?_
   exact tail_done (k:=q) (w4 _ _ ⟨F3,Bs.post ⟨hg,hs,hd⟩ p,p.ke 1 rfl i1,p.ke 3 rfl i3,n3,p.ke 5 rfl i5,upE i6 (p.old 6 rfl),n6,Gb.Box.grow c6 p.grow,p.ke 20 rfl i20,p.ke 21 rfl i21,p.ke 22 rfl i22,p.ou 0 23 rfl,d3_6,trivial⟩)
  rintro a k ⟨F3,⟨hg,hs,hd⟩,i1,i3,n3,i5,i6,n6,c6,i20,i21,i22,i23,d3_6,_⟩
  refine wp_seq ?_
  refine wp_cond_split (isBool i23) (fun hc1072=>?_) (fun hc1072=>?_)
  ·rw [if_pos hc1072] at hr
   refine wp_skip ?_
   refine wp_seq ?_
   refine wp_block ?_
   refine wp_seq ?_
   obtain ⟨x4,hx4,hr⟩:=bind_some hr
   refine cut (fun a' k'=>∃ F3,Bs noF k0 56 a' k'∧(IsV lot_) (a'.get 1) k'∧(BoxH b3 [ho_37_4,ho_37_5] [ho_37_4,ho_37_5] s1.1) F3 (a'.get 3) k'∧Lo k0 F3∧(IsRef ph_) (a'.get 5) k'∧a'.get 6 = .pointer (some ⟨b6,0,none⟩)∧Lo k0 (Eq b6)∧Gb.Box b6 (⟨(⟨[],[],[],[],[],[],[],0⟩:Plan),[],[],[],[],[]⟩:Town) k'∧(IsRef x4) (a'.get 8) k'∧(IsV ph_.Volumes) (a'.get 20) k'∧(IsI (ph_.Volumes.length:Int)) (a'.get 21) k'∧(IsV s1.2) (a'.get 22) k'∧Apart F3 (Eq b6)∧True) ?_ hQ ?_
   ·intro Q6 W6 w5
    refine gS 3 (_::_::⟨some (IsBox k.w.heap.size (⟨(⟨(⟨0,0,0,0⟩:Rect),0,0⟩:Box),0,0,false⟩:Volume)),[]⟩::[]) hs (by kernel_rfl) ⟨o1 [(20,none),(22,none)] rfl fun _ _ h n=>ok_indexAddr rfl Tryz.underlying44 ty83 (IsV.rd (up i20 h n.1)) (up i22 h n.2.1) hx4,o1 [(24,some 0)] rfl fun _ _ h n=>ok_load rfl ty83 n.1,ob1 rfl fun _ _ h n=>ok_alloc _ h.size rfl z83,trivial⟩ W6 fun b q p=>?_
    have hgq:=hg.then p.grow
    have hsb:=p.size.trans hs
    have hdb:=p.defers.trans hd
    have j1:=p.ke 1 rfl i1
    have j3:(BoxH b3 [ho_37_4,ho_37_5] [ho_37_4,ho_37_5] s1.1) F3 (b.get 3) q:=p.ke 3 rfl i3
    have y3:=n3
    have j5:=p.ke 5 rfl i5
    have j6:=upE i6 (p.old 6 rfl)
    have z6:=Gb.Box.grow c6 p.grow
    have y6:=n6
    obtain ⟨b8,j8,x8,z8⟩:(IsBox k.w.heap.size (⟨(⟨(⟨0,0,0,0⟩:Rect),0,0⟩:Box),0,0,false⟩:Volume)) (b.get 8) q:=p.ou 2 8 rfl
    replace x8:Lo k (Eq b8):=Lo.eq x8
    have y8:Lo k0 (Eq b8):=x8.chg hg
    have j20:=p.ke 20 rfl i20
    have j21:=p.ke 21 rfl i21
    have j22:=p.ke 22 rfl i22
    have j25:(IsV x4) (b.get 25) q:=p.ou 1 25 rfl
    have w3_6:Apart F3 (Eq b6):=by exact d3_6
    have w3_8:Apart F3 (Eq b8):=Apart.new (Rsc.lt i3) x8
    have w6_8:Apart (Eq b6) (Eq b8):=Apart.new c6.ltF x8
    have hns:=z8.nshF
    refine tail_storeB (i:=3) rfl rfl rfl rfl szf83 (Upd.self (α:=Volume)) j8 z8 j25 fun q2 hch hz=>?_
    replace hgq:=hgq.step hch y8.wr
    have hle:=hch.le hns
    replace j1:=Pers.pers hle j1
    replace j3:=Rsc.keep j3 hch w3_8 hns
    replace j5:=Pers.pers hle j5
    replace z6:=z6.keep hch (w6_8 _ rfl) hns
    replace j20:=Pers.pers hle j20
    replace j21:=Pers.pers hle j21
    replace j22:=Pers.pers hle j22
    replace j25:=Pers.pers hle j25
    replace z8:=hz
    clear hns hle hch
    obtain ⟨q,hqq⟩ : ∃ q,q = q2:=⟨q2,rfl⟩
    subst hqq
    obtain ⟨q2,hsh,jn⟩:=z8.give
    replace j1:=Pers.pers hsh.le j1
    replace j3:=Rsc.handed j3 hsh w3_8
    replace j5:=Pers.pers hsh.le j5
    replace z6:=z6.handed hsh (w6_8 _ rfl)
    replace j20:=Pers.pers hsh.le j20
    replace j21:=Pers.pers hsh.le j21
    replace j22:=Pers.pers hsh.le j22
    rw [← j8] at jn
    replace j8:=jn
    replace hgq:=hgq.hand hsh y8.wr
    rw [← hsh.w]
    clear hsh
    obtain ⟨q,hqq⟩ : ∃ q,q = q2:=⟨q2,rfl⟩
    subst hqq
    exact tail_done (k:=q) (w5 _ _ ⟨F3,⟨hgq,hsb,hdb⟩,j1,j3,y3,j5,j6,y6,z6,j8,j20,j21,j22,w3_6,trivial⟩)
   rintro a k ⟨F3,⟨hg,hs,hd⟩,i1,i3,n3,i5,i6,n6,c6,i8,i20,i21,i22,d3_6,_⟩
   obtain ⟨x5,hx5,hr⟩:=bind_some hr
   refine cut (fun a' k'=>∃ F3,Bs noF k0 56 a' k'∧(IsV lot_) (a'.get 1) k'∧(BoxH b3 [ho_37_4,ho_37_5] [ho_37_4,ho_37_5] ({ s1.1 with Built:=x5 })) F3 (a'.get 3) k'∧Lo k0 F3∧(IsRef ph_) (a'.get 5) k'∧a'.get 6 = .pointer (some ⟨b6,0,none⟩)∧Lo k0 (Eq b6)∧Gb.Box b6 (⟨(⟨[],[],[],[],[],[],[],0⟩:Plan),[],[],[],[],[]⟩:Town) k'∧(IsV ph_.Volumes) (a'.get 20) k'∧(IsI (ph_.Volumes.length:Int)) (a'.get 21) k'∧(IsV s1.2) (a'.get 22) k'∧Apart F3 (Eq b6)∧True) ?_ hQ ?_
   ·intro Q7 W7 w6
    refine gS 6 (_::⟨some (HdAt b3 ho_37_4.off),[(26,some 0)]⟩::_::_::⟨some (IsV (⟨lot_,x4⟩:Placed)),[(28,some 2),(29,some 3)]⟩::⟨some (IsV (α:=(List Placed)) ([(⟨lot_,x4⟩:Placed)])),[(30,some 4)]⟩::[]) hs (by kernel_rfl) ⟨o1 [(3,none)] rfl fun _ _ h n=>ok_fieldAdr rfl fo37_4 (upE (BoxH.ptr i3) n.1),ob1 rfl fun _ _ h n=>ok_loadH (g:=ho_37_4) rfl Tryz.underlying34 szf34 n.1 (Rsc.grow i3 h) (.head _),mu rfl i1,o1 [(8,none)] rfl fun _ _ h n=>ok_load rfl ty83 ((up i8 h n.1)).ptr,ob1 rfl fun _ _ h n=>ok_build rfl (bld97_0_1 n.1 n.2.1),ob1 rfl fun _ _ h n=>ok_buildSlice rfl Tryz.underlying34 eo97 rfl (by decide) (by decide) ⟨rfl,n.1,trivial⟩,trivial⟩ W7 fun b q p=>?_
    have hgq:=hg.then p.grow
    have hsb:=p.size.trans hs
    have hdb:=p.defers.trans hd
    have j1:=p.ke 1 rfl i1
    have j3:(BoxH b3 [ho_37_4,ho_37_5] [ho_37_4,ho_37_5] s1.1) F3 (b.get 3) q:=p.ke 3 rfl i3
    have y3:=n3
    have j5:=p.ke 5 rfl i5
    have j6:=upE i6 (p.old 6 rfl)
    have z6:=Gb.Box.grow c6 p.grow
    have y6:=n6
    have j20:=p.ke 20 rfl i20
    have j21:=p.ke 21 rfl i21
    have j22:=p.ke 22 rfl i22
    have j27:(HdAt b3 ho_37_4.off) (b.get 27) q:=p.ou 1 27 rfl
    have j31:(IsV (α:=(List Placed)) ([(⟨lot_,x4⟩:Placed)])) (b.get 31) q:=p.ou 5 31 rfl
    have w3_6:Apart F3 (Eq b6):=by exact d3_6
    obtain ⟨F3,jt,jo,jw,jf,je⟩:=BoxH.take j3 j27
    have wo6:Apart (obF (b.get 27)) (Eq b6):=fun c h=>w3_6 c (je c h)
    have wn6:Apart F3 (Eq b6):=fun c h=>w3_6 c (jf c h)
    have y27:Lo k0 (obF (b.get 27)):=fun c h=>y3 c (je c h)
    replace y3:Lo k0 F3:=fun c h=>y3 c (jf c h)
    replace j3:=jt
    replace j27:IsOwn 0 97 s1.1.Built (b.get 27) q:=jo
    have w6_27:Apart (Eq b6) (obF (b.get 27)):=(wo6).symm
    have w3_6:Apart F3 (Eq b6):=wn6
    have w3_27:Apart F3 (obF (b.get 27)):=(jw).symm
    clear jt jo jw jf je wo6 wn6
    have hns:=j27.nshF
    refine tail_appendS (i:=6) (d:=32) rfl rfl rfl rfl (by rw [hsb]; decide) (e:=97) Tryz.underlying34 eo97 j27 (IsV.rd j31) hx5 fun b2 q2 hsz hdf hoth hch hown hob=>?_
    have hle:=hch.le hns
    have yn:Lo k0 (obF (b2.get 32)):=y27.app hgq hob
    have v3:Apart F3 (obF (b2.get 32)):=Apart.app w3_27 (Rsc.lt j3) hob
    have v6:Apart (Eq b6) (obF (b2.get 32)):=Apart.app w6_27 z6.ltF hob
    replace j1:=Pers.pers hle j1
    replace j3:=Rsc.keep j3 hch w3_27 hns
    replace j5:=Pers.pers hle j5
    replace z6:=z6.keep hch (w6_27 _ rfl) hns
    replace j20:=Pers.pers hle j20
    replace j21:=Pers.pers hle j21
    replace j22:=Pers.pers hle j22
    replace j31:=Pers.pers hle j31
    replace hgq:=hgq.step hch y27.wr
    rw [← hoth 1 (by decide)] at j1
    rw [← hoth 3 (by decide)] at j3
    rw [← hoth 5 (by decide)] at j5
    rw [← hoth 6 (by decide)] at j6
    rw [← hoth 20 (by decide)] at j20
    rw [← hoth 21 (by decide)] at j21
    rw [← hoth 22 (by decide)] at j22
    rw [← hoth 31 (by decide)] at j31
    have w3_32:=v3
    have w6_32:=v6
    have j32:=hown
    have y32:=yn
    replace hsb:=hsz.trans hsb
    replace hdb:=hdf.trans hdb
    clear hle hch hown hob hns yn hsz hdf hoth
    obtain ⟨b,hbb⟩ : ∃ b,b = b2:=⟨b2,rfl⟩
    subst hbb
    obtain ⟨q,hqq⟩ : ∃ q,q = q2:=⟨q2,rfl⟩
    subst hqq
    refine tail_does (R:=IsAdr b3 (11)) (i:=7) (d:=33) rfl rfl rfl (by rw [hsb]; decide) W7 (ok_fieldAdr rfl fo37_4 (BoxH.ptr j3)) fun b2 q2 hsz hdf hoth hgr hnew=>?_
    replace j1:=Pers.pers hgr.le j1
    replace j3:=Rsc.grow j3 hgr
    replace j5:=Pers.pers hgr.le j5
    replace z6:=z6.grow hgr
    replace j20:=Pers.pers hgr.le j20
    replace j21:=Pers.pers hgr.le j21
    replace j22:=Pers.pers hgr.le j22
    replace j31:=Pers.pers hgr.le j31
    replace j32:=Mono.mono hgr j32
    replace hgq:=hgq.then hgr
    rw [← hoth 1 (by decide)] at j1
    rw [← hoth 3 (by decide)] at j3
    rw [← hoth 5 (by decide)] at j5
    rw [← hoth 6 (by decide)] at j6
    rw [← hoth 20 (by decide)] at j20
    rw [← hoth 21 (by decide)] at j21
    rw [← hoth 22 (by decide)] at j22
    rw [← hoth 31 (by decide)] at j31
    rw [← hoth 32 (by decide)] at j32
    rw [← hoth 32 (by decide)] at y32
    rw [← hoth 32 (by decide)] at w3_32
    rw [← hoth 32 (by decide)] at w6_32
    have j33:=hnew
    replace hsb:=hsz.trans hsb
    replace hdb:=hdf.trans hdb
    clear hgr hsz hdf hoth hnew
    obtain ⟨b,hbb⟩ : ∃ b,b = b2:=⟨b2,rfl⟩
    subst hbb
    obtain ⟨q,hqq⟩ : ∃ q,q = q2:=⟨q2,rfl⟩
    subst hqq
    refine tail_storeH (i:=8) (g:=ho_37_4) (x':=({ s1.1 with Built:=x5 }:Town)) rfl rfl rfl rfl szf34 j33 j3 (by decide) ⟨_,(.head _),rfl⟩ rfl (fun _ _ _ h=>h) (fun _ h=>by cases h with | head=>decide | tail _ h=>exact nomatch h) j32 (w3_32.symm) fun q2 FF hch hz hF=>?_
    have hns:=Rsc.nsh j3
    have hle:=hch.le hns
    replace hgq:=hgq.step hch y3.wr
    replace j1:=Pers.pers hle j1
    replace j5:=Pers.pers hle j5
    replace z6:=z6.keep hch ((w3_6.symm) _ rfl) hns
    replace j20:=Pers.pers hle j20
    replace j21:=Pers.pers hle j21
    replace j22:=Pers.pers hle j22
    replace j31:=Pers.pers hle j31
    replace j33:=Pers.pers hle j33
    have wn6:Apart FF (Eq b6):=fun c h=>(hF c h).elim (fun h=>w3_6 c h) (fun h=>(w6_32.symm) c h)
    have yn:Lo k0 FF:=fun c h=>(hF c h).elim (fun h=>y3 c h) (fun h=>y32 c h)
    clear hns hle hch hF
    obtain ⟨F3,hFe⟩ : ∃ F,F = FF:=⟨FF,rfl⟩
    subst hFe
    replace j3:=hz
    replace y3:=yn
    clear hz yn
    have w3_6:Apart F3 (Eq b6):=wn6
    clear wn6
    obtain ⟨q,hqq⟩ : ∃ q,q = q2:=⟨q2,rfl⟩
    subst hqq
    exact tail_done (k:=q) (w6 _ _ ⟨F3,⟨hgq,hsb,hdb⟩,j1,j3,y3,j5,j6,y6,z6,j20,j21,j22,w3_6,trivial⟩)
   rintro a k ⟨F3,⟨hg,hs,hd⟩,i1,i3,n3,i5,i6,n6,c6,i20,i21,i22,d3_6,_⟩
   obtain ⟨x6,hx6,hr⟩:=bind_some hr
   refine cut (fun a' k'=>∃ F3,Bs noF k0 56 a' k'∧(IsV lot_) (a'.get 1) k'∧(BoxH b3 [ho_37_4,ho_37_5] [ho_37_4,ho_37_5] ({ s1.1 with Built:=x5 })) F3 (a'.get 3) k'∧Lo k0 F3∧(IsRef ph_) (a'.get 5) k'∧a'.get 6 = .pointer (some ⟨b6,0,none⟩)∧Lo k0 (Eq b6)∧Gb.Box b6 (⟨(⟨[],[],[],[],[],[],[],0⟩:Plan),[],[],[],[],[]⟩:Town) k'∧(IsV ph_.Volumes) (a'.get 20) k'∧(IsI (ph_.Volumes.length:Int)) (a'.get 21) k'∧(IsV x6) (a'.get 22) k'∧Apart F3 (Eq b6)∧True) ?_ hQ ?_
   ·intro Q8 W8 w7
    refine gS 2 (_::_::[]) hs (by kernel_rfl) ⟨o1 [(22,none)] rfl fun _ _ h n=>ok_add rfl (up i22 h n.1) (cI rfl) hx6,cm 0 rfl rfl,trivial⟩ W8 fun b q p=>?_
    exact tail_done (k:=q) (w7 _ _ ⟨F3,Bs.post ⟨hg,hs,hd⟩ p,p.ke 1 rfl i1,p.ke 3 rfl i3,n3,p.ke 5 rfl i5,upE i6 (p.old 6 rfl),n6,Gb.Box.grow c6 p.grow,p.ke 20 rfl i20,p.ke 21 rfl i21,p.ou 1 22 rfl,d3_6,trivial⟩)
   rintro a k ⟨F3,⟨hg,hs,hd⟩,i1,i3,n3,i5,i6,n6,c6,i20,i21,i22,d3_6,_⟩
   exact hgo1059 _ _ _ (Option.some.inj hr).symm ⟨F3,⟨hg,hs,hd⟩,i1,i3,n3,i5,i6,n6,c6,i20,i21,i22,d3_6,trivial⟩
  rw [if_neg (by rw [hc1072]; decide)] at hr
  refine wp_exit ?_
  exact hex1060 _ _ _ _ (Option.some.inj hr).symm ⟨rfl,F3,⟨hg,hs,hd⟩,i3,n3,i5,i6,n6,c6,d3_6,trivial⟩
 ·rintro r1 a k rfl hR
  dsimp only at hr
  obtain rfl:=Option.some.inj hr
  exact hR
 ·rintro _ _ _ rfl _
  simp at hr
 clear hf1
 rintro _ s2 a k rfl ⟨rfl,F3,⟨hg,hs,hd⟩,i3,n3,i5,i6,n6,c6,d3_6,_⟩
 dsimp only at hr
 refine wp_seq ?_
 refine cutS (fun c l=>∃ F3,Bs noF k0 56 c l∧(BoxH b3 [ho_37_4,ho_37_5] [ho_37_4,ho_37_5] s2.1) F3 (c.get 3) l∧Lo k0 F3∧c.get 6 = .pointer (some ⟨b6,0,none⟩)∧Lo k0 (Eq b6)∧Gb.Box b6 (⟨(⟨[],[],[],[],[],[],[],0⟩:Plan),[],[],[],[],[]⟩:Town) l∧IsV ph_.Gives (c.get 36) l∧IsI (ph_.Gives.length:Int) (c.get 37) l∧IsI 0 (c.get 38) l∧Apart F3 (Eq b6)∧True) ?_ ?_
 ·intro Q9 W9 w8
  refine gS 4 (_::_::_::⟨some (IsI 0),[]⟩::[]) hs (by kernel_rfl) ⟨o1 [(5,none)] rfl fun _ _ h n=>ok_fieldAddr rfl fo46_1 (at_Phase_1 _) ((up i5 h n.1)).ptr,o1 [(35,some 0)] rfl fun _ _ h n=>ok_load rfl ty35 n.1,o1 [(36,some 1)] rfl fun _ _ h n=>ok_len rfl rfl Tryz.underlying35 (IsV.rd n.1),ob1 rfl fun _ _ h n=>ok_move rfl (cI rfl),trivial⟩ W9 fun b q p=>?_
  exact tail_done (k:=q) (w8 _ _ ⟨F3,Bs.post ⟨hg,hs,hd⟩ p,p.ke 3 rfl i3,n3,upE i6 (p.old 6 rfl),n6,Gb.Box.grow c6 p.grow,p.ou 1 36 rfl,p.ou 2 37 rfl,p.ou 3 38 rfl,d3_6,trivial⟩)
 rintro a k ⟨F3,⟨hg,hs,hd⟩,i3,n3,i6,n6,c6,i36,i37,i38,d3_6,_⟩
 refine wp_block ?_
 obtain ⟨f2,hf2,hr⟩:=bind_some hr
 refine cutFe f2 (fun s' c l=>∃ F3,Bs noF k0 56 c l∧(BoxH b3 [ho_37_4,ho_37_5] [ho_37_4,ho_37_5] s'.1) F3 (c.get 3) l∧Lo k0 F3∧c.get 6 = .pointer (some ⟨b6,0,none⟩)∧Lo k0 (Eq b6)∧Gb.Box b6 (⟨(⟨[],[],[],[],[],[],[],0⟩:Plan),[],[],[],[],[]⟩:Town) l∧IsV ph_.Gives (c.get 36) l∧IsI (ph_.Gives.length:Int) (c.get 37) l∧IsV s'.2 (c.get 38) l∧Apart F3 (Eq b6)∧True) (fun i' s' c l=>(i' = 2∧Bs noF k0 56 c l∧c.get 3 = .pointer (some ⟨b3,0,none⟩)∧Lo k0 (Eq b3)∧Gb.Box b3 s'.1 l∧c.get 6 = .pointer (some ⟨b6,0,none⟩)∧Lo k0 (Eq b6)∧Gb.Box b6 (⟨(⟨[],[],[],[],[],[],[],0⟩:Plan),[],[],[],[],[]⟩:Town) l∧Apart (Eq b3) (Eq b6)∧True)) (fun r' c l=>bodyPost Tryz.prog Tryz.f15 (RetC noF k0 (IsV r')) .ret c l.w) ?_ hQ ?_ ?_ ?_
 ·intro Q10 W10 hgo hex hret
  refine sim_loop ?_ _ _ _ _ _ hf2 ⟨F3,⟨hg,hs,hd⟩,i3,n3,i6,n6,c6,i36,i37,i38,d3_6,trivial⟩ Q10 W10 hgo hex hret
  clear hr hf2 hgo hex hret W10 hQ hg hs hd F3 c6 d3_6 i3 i36 i37 i38 i6 n3 n6
  intro s3 fl_ a k hr hS Q hQ hgo1079 hex1080 hret1081
  obtain ⟨F3,⟨hg,hs,hd⟩,i3,n3,i6,n6,c6,i36,i37,i38,d3_6,_⟩:=hS
  unfold vested_After_L1 at hr
  refine cutS (fun c l=>∃ F3,Bs noF k0 56 c l∧(BoxH b3 [ho_37_4,ho_37_5] [ho_37_4,ho_37_5] s3.1) F3 (c.get 3) l∧Lo k0 F3∧c.get 6 = .pointer (some ⟨b6,0,none⟩)∧Lo k0 (Eq b6)∧Gb.Box b6 (⟨(⟨[],[],[],[],[],[],[],0⟩:Plan),[],[],[],[],[]⟩:Town) l∧IsV ph_.Gives (c.get 36) l∧IsI (ph_.Gives.length:Int) (c.get 37) l∧IsV s3.2 (c.get 38) l∧(IsV (decide (s3.2 < (ph_.Gives.length:Int)))) (c.get 39) l∧Apart F3 (Eq b6)∧True) ?_ ?_
  ·intro Q11 W11 w9
   refine gS 1 (_::[]) hs (by kernel_rfl) ⟨o1 [(38,none),(37,none)] rfl fun _ _ h n=>ok_lss rfl (up i38 h n.1) (up i37 h n.2.1),trivial⟩ W11 fun b q p=>?_
   exact tail_done (k:=q) (w9 _ _ ⟨F3,Bs.post ⟨hg,hs,hd⟩ p,p.ke 3 rfl i3,n3,upE i6 (p.old 6 rfl),n6,Gb.Box.grow c6 p.grow,p.ke 36 rfl i36,p.ke 37 rfl i37,p.ke 38 rfl i38,p.ou 0 39 rfl,d3_6,trivial⟩)
  rintro a k ⟨F3,⟨hg,hs,hd⟩,i3,n3,i6,n6,c6,i36,i37,i38,i39,d3_6,_⟩
  refine wp_seq ?_
  refine wp_cond_split (isBool i39) (fun hc1093=>?_) (fun hc1093=>?_)
  ·rw [if_pos hc1093] at hr
   refine wp_skip ?_
   refine wp_seq ?_
   refine wp_block ?_
   refine wp_seq ?_
   obtain ⟨x7,hx7,hr⟩:=bind_some hr
   refine cut (fun a' k'=>∃ F3,Bs noF k0 56 a' k'∧(BoxH b3 [ho_37_4,ho_37_5] [ho_37_4,ho_37_5] s3.1) F3 (a'.get 3) k'∧Lo k0 F3∧a'.get 6 = .pointer (some ⟨b6,0,none⟩)∧Lo k0 (Eq b6)∧Gb.Box b6 (⟨(⟨[],[],[],[],[],[],[],0⟩:Plan),[],[],[],[],[]⟩:Town) k'∧(IsRef x7) (a'.get 10) k'∧(IsV ph_.Gives) (a'.get 36) k'∧(IsI (ph_.Gives.length:Int)) (a'.get 37) k'∧(IsV s3.2) (a'.get 38) k'∧Apart F3 (Eq b6)∧True) ?_ hQ ?_
   ·intro Q12 W12 w10
    refine gS 3 (_::_::⟨some (IsBox k.w.heap.size (⟨(⟨#[]⟩:ByteArray),0⟩:Entry)),[]⟩::[]) hs (by kernel_rfl) ⟨o1 [(36,none),(38,none)] rfl fun _ _ h n=>ok_indexAddr rfl Tryz.underlying35 ty99 (IsV.rd (up i36 h n.1)) (up i38 h n.2.1) hx7,o1 [(40,some 0)] rfl fun _ _ h n=>ok_load rfl ty99 n.1,ob1 rfl fun _ _ h n=>ok_alloc _ h.size rfl z99,trivial⟩ W12 fun b q p=>?_
    have hgq:=hg.then p.grow
    have hsb:=p.size.trans hs
    have hdb:=p.defers.trans hd
    have j3:(BoxH b3 [ho_37_4,ho_37_5] [ho_37_4,ho_37_5] s3.1) F3 (b.get 3) q:=p.ke 3 rfl i3
    have y3:=n3
    have j6:=upE i6 (p.old 6 rfl)
    have z6:=Gb.Box.grow c6 p.grow
    have y6:=n6
    obtain ⟨b10,j10,x10,z10⟩:(IsBox k.w.heap.size (⟨(⟨#[]⟩:ByteArray),0⟩:Entry)) (b.get 10) q:=p.ou 2 10 rfl
    replace x10:Lo k (Eq b10):=Lo.eq x10
    have y10:Lo k0 (Eq b10):=x10.chg hg
    have j36:=p.ke 36 rfl i36
    have j37:=p.ke 37 rfl i37
    have j38:=p.ke 38 rfl i38
    have j41:(IsV x7) (b.get 41) q:=p.ou 1 41 rfl
    have w3_6:Apart F3 (Eq b6):=by exact d3_6
    have w3_10:Apart F3 (Eq b10):=Apart.new (Rsc.lt i3) x10
    have w6_10:Apart (Eq b6) (Eq b10):=Apart.new c6.ltF x10
    have hns:=z10.nshF
    refine tail_storeB (i:=3) rfl rfl rfl rfl szf99 (Upd.self (α:=Entry)) j10 z10 j41 fun q2 hch hz=>?_
    replace hgq:=hgq.step hch y10.wr
    have hle:=hch.le hns
    replace j3:=Rsc.keep j3 hch w3_10 hns
    replace z6:=z6.keep hch (w6_10 _ rfl) hns
    replace j36:=Pers.pers hle j36
    replace j37:=Pers.pers hle j37
    replace j38:=Pers.pers hle j38
    replace j41:=Pers.pers hle j41
    replace z10:=hz
    clear hns hle hch
    obtain ⟨q,hqq⟩ : ∃ q,q = q2:=⟨q2,rfl⟩
    subst hqq
    obtain ⟨q2,hsh,jn⟩:=z10.give
    replace j3:=Rsc.handed j3 hsh w3_10
    replace z6:=z6.handed hsh (w6_10 _ rfl)
    replace j36:=Pers.pers hsh.le j36
    replace j37:=Pers.pers hsh.le j37
    replace j38:=Pers.pers hsh.le j38
    rw [← j10] at jn
    replace j10:=jn
    replace hgq:=hgq.hand hsh y10.wr
    rw [← hsh.w]
    clear hsh
    obtain ⟨q,hqq⟩ : ∃ q,q = q2:=⟨q2,rfl⟩
    subst hqq
    exact tail_done (k:=q) (w10 _ _ ⟨F3,⟨hgq,hsb,hdb⟩,j3,y3,j6,y6,z6,j10,j36,j37,j38,w3_6,trivial⟩)
   rintro a k ⟨F3,⟨hg,hs,hd⟩,i3,n3,i6,n6,c6,i10,i36,i37,i38,d3_6,_⟩
   obtain ⟨x9,hx9,hr⟩:=bind_some hr
   obtain ⟨x11,hx11,hr⟩:=bind_some hr
   obtain ⟨x12,hx12,hr⟩:=bind_some hr
   refine cut (fun a' k'=>∃ F3,Bs noF k0 56 a' k'∧(BoxH b3 [ho_37_4,ho_37_5] [ho_37_4,ho_37_5] ({ s3.1 with Base:=x12 })) F3 (a'.get 3) k'∧Lo k0 F3∧a'.get 6 = .pointer (some ⟨b6,0,none⟩)∧Lo k0 (Eq b6)∧Gb.Box b6 (⟨(⟨[],[],[],[],[],[],[],0⟩:Plan),[],[],[],[],[]⟩:Town) k'∧(IsV ph_.Gives) (a'.get 36) k'∧(IsI (ph_.Gives.length:Int)) (a'.get 37) k'∧(IsV s3.2) (a'.get 38) k'∧Apart F3 (Eq b6)∧True) ?_ hQ ?_
   ·intro Q13 W13 w11
    refine region (m:=10) (_::⟨some (HdAt b3 ho_37_5.off),[(42,some 0)]⟩::_::_::_::_::_::⟨some (IsV x11),[(48,some 6)]⟩::⟨some (IsV (⟨x7.Name,x11⟩:Entry)),[(45,some 3),(49,some 7)]⟩::⟨some (IsV (α:=(List Entry)) ([(⟨x7.Name,x11⟩:Entry)])),[(50,some 8)]⟩::[]) hmix hs (by kernel_rfl) ⟨o1 [(3,none)] rfl fun _ _ h n=>ok_fieldAdr rfl fo37_5 (upE (BoxH.ptr i3) n.1),ob1 rfl fun _ _ h n=>ok_loadH (g:=ho_37_5) rfl Tryz.underlying35 szf35 n.1 (Rsc.grow i3 h) (.tail _ (.head _)),o1 [(10,none)] rfl fun _ _ h n=>ok_fieldAddr rfl fo99_0 (at_Entry_0 _) ((up i10 h n.1)).ptr,o1 [(44,some 2)] rfl fun _ _ h n=>ok_load rfl ty9 n.1,o1 [(10,none)] rfl fun _ _ h n=>ok_fieldAddr rfl fo99_1 (at_Entry_1 _) ((up i10 h n.1)).ptr,o1 [(46,some 4)] rfl fun _ _ h n=>ok_load rfl ty3 n.1,o1 [(47,some 5)] rfl fun _ _ h n=>ok_call rfl Tryz.call35 (cap_Limited_ok n.1 hx9),ob1 rfl fun _ _ h n=>ok_neg rfl n.1 hx11,ob1 rfl fun _ _ h n=>ok_build rfl (bld99_0_1 n.1 n.2.1),ob1 rfl fun _ _ h n=>ok_buildSlice rfl Tryz.underlying35 eo99 rfl (by decide) (by decide) ⟨rfl,n.1,trivial⟩,trivial⟩ W13 fun b q p=>?_
    have hgq:=hg.then p.grow
    have hsb:=p.size.trans hs
    have hdb:=p.defers.trans hd
    have j3:(BoxH b3 [ho_37_4,ho_37_5] [ho_37_4,ho_37_5] s3.1) F3 (b.get 3) q:=p.ke 3 rfl i3
    have y3:=n3
    have j6:=upE i6 (p.old 6 rfl)
    have z6:=Gb.Box.grow c6 p.grow
    have y6:=n6
    have j36:=p.ke 36 rfl i36
    have j37:=p.ke 37 rfl i37
    have j38:=p.ke 38 rfl i38
    have j43:(HdAt b3 ho_37_5.off) (b.get 43) q:=p.ou 1 43 rfl
    have j51:(IsV (α:=(List Entry)) ([(⟨x7.Name,x11⟩:Entry)])) (b.get 51) q:=p.ou 9 51 rfl
    have w3_6:Apart F3 (Eq b6):=by exact d3_6
    replace j3:=BoxH.swap j3
    obtain ⟨F3,jt,jo,jw,jf,je⟩:=BoxH.take j3 j43
    have wo6:Apart (obF (b.get 43)) (Eq b6):=fun c h=>w3_6 c (je c h)
    have wn6:Apart F3 (Eq b6):=fun c h=>w3_6 c (jf c h)
    have y43:Lo k0 (obF (b.get 43)):=fun c h=>y3 c (je c h)
    replace y3:Lo k0 F3:=fun c h=>y3 c (jf c h)
    replace j3:=jt
    replace j43:IsOwn 0 99 s3.1.Base (b.get 43) q:=jo
    have w6_43:Apart (Eq b6) (obF (b.get 43)):=(wo6).symm
    have w3_6:Apart F3 (Eq b6):=wn6
    have w3_43:Apart F3 (obF (b.get 43)):=(jw).symm
    clear jt jo jw jf je wo6 wn6
    have hns:=j43.nshF
    refine tail_appendS (i:=10) (d:=52) rfl rfl rfl rfl (by rw [hsb]; decide) (e:=99) Tryz.underlying35 eo99 j43 (IsV.rd j51) hx12 fun b2 q2 hsz hdf hoth hch hown hob=>?_
    have hle:=hch.le hns
    have yn:Lo k0 (obF (b2.get 52)):=y43.app hgq hob
    have v3:Apart F3 (obF (b2.get 52)):=Apart.app w3_43 (Rsc.lt j3) hob
    have v6:Apart (Eq b6) (obF (b2.get 52)):=Apart.app w6_43 z6.ltF hob
    replace j3:=Rsc.keep j3 hch w3_43 hns
    replace z6:=z6.keep hch (w6_43 _ rfl) hns
    replace j36:=Pers.pers hle j36
    replace j37:=Pers.pers hle j37
    replace j38:=Pers.pers hle j38
    replace j51:=Pers.pers hle j51
    replace hgq:=hgq.step hch y43.wr
    rw [← hoth 3 (by decide)] at j3
    rw [← hoth 6 (by decide)] at j6
    rw [← hoth 36 (by decide)] at j36
    rw [← hoth 37 (by decide)] at j37
    rw [← hoth 38 (by decide)] at j38
    rw [← hoth 51 (by decide)] at j51
    have w3_52:=v3
    have w6_52:=v6
    have j52:=hown
    have y52:=yn
    replace hsb:=hsz.trans hsb
    replace hdb:=hdf.trans hdb
    clear hle hch hown hob hns yn hsz hdf hoth
    obtain ⟨b,hbb⟩ : ∃ b,b = b2:=⟨b2,rfl⟩
    subst hbb
    obtain ⟨q,hqq⟩ : ∃ q,q = q2:=⟨q2,rfl⟩
    subst hqq
    refine tail_does (R:=IsAdr b3 (12)) (i:=11) (d:=53) rfl rfl rfl (by rw [hsb]; decide) W13 (ok_fieldAdr rfl fo37_5 (BoxH.ptr j3)) fun b2 q2 hsz hdf hoth hgr hnew=>?_
    replace j3:=Rsc.grow j3 hgr
    replace z6:=z6.grow hgr
    replace j36:=Pers.pers hgr.le j36
    replace j37:=Pers.pers hgr.le j37
    replace j38:=Pers.pers hgr.le j38
    replace j51:=Pers.pers hgr.le j51
    replace j52:=Mono.mono hgr j52
    replace hgq:=hgq.then hgr
    rw [← hoth 3 (by decide)] at j3
    rw [← hoth 6 (by decide)] at j6
    rw [← hoth 36 (by decide)] at j36
    rw [← hoth 37 (by decide)] at j37
    rw [← hoth 38 (by decide)] at j38
    rw [← hoth 51 (by decide)] at j51
    rw [← hoth 52 (by decide)] at j52
    rw [← hoth 52 (by decide)] at y52
    rw [← hoth 52 (by decide)] at w3_52
    rw [← hoth 52 (by decide)] at w6_52
    have j53:=hnew
    replace hsb:=hsz.trans hsb
    replace hdb:=hdf.trans hdb
    clear hgr hsz hdf hoth hnew
    obtain ⟨b,hbb⟩ : ∃ b,b = b2:=⟨b2,rfl⟩
    subst hbb
    obtain ⟨q,hqq⟩ : ∃ q,q = q2:=⟨q2,rfl⟩
    subst hqq
    refine tail_storeH (i:=12) (g:=ho_37_5) (x':=({ s3.1 with Base:=x12 }:Town)) rfl rfl rfl rfl szf35 j53 j3 (by decide) ⟨_,(.tail _ (.head _)),rfl⟩ rfl (fun _ _ _ h=>h) (fun _ h=>by cases h with | head=>decide | tail _ h=>exact nomatch h) j52 (w3_52.symm) fun q2 FF hch hz hF=>?_
    have hns:=Rsc.nsh j3
    have hle:=hch.le hns
    replace hgq:=hgq.step hch y3.wr
    replace z6:=z6.keep hch ((w3_6.symm) _ rfl) hns
    replace j36:=Pers.pers hle j36
    replace j37:=Pers.pers hle j37
    replace j38:=Pers.pers hle j38
    replace j51:=Pers.pers hle j51
    replace j53:=Pers.pers hle j53
    have wn6:Apart FF (Eq b6):=fun c h=>(hF c h).elim (fun h=>w3_6 c h) (fun h=>(w6_52.symm) c h)
    have yn:Lo k0 FF:=fun c h=>(hF c h).elim (fun h=>y3 c h) (fun h=>y52 c h)
    clear hns hle hch hF
    obtain ⟨F3,hFe⟩ : ∃ F,F = FF:=⟨FF,rfl⟩
    subst hFe
    replace j3:=hz
    replace y3:=yn
    clear hz yn
    have w3_6:Apart F3 (Eq b6):=wn6
    clear wn6
    obtain ⟨q,hqq⟩ : ∃ q,q = q2:=⟨q2,rfl⟩
    subst hqq
    replace j3:=BoxH.swap j3
    exact tail_done (k:=q) (w11 _ _ ⟨F3,⟨hgq,hsb,hdb⟩,j3,y3,j6,y6,z6,j36,j37,j38,w3_6,trivial⟩)
   rintro a k ⟨F3,⟨hg,hs,hd⟩,i3,n3,i6,n6,c6,i36,i37,i38,d3_6,_⟩
   obtain ⟨x14,hx14,hr⟩:=bind_some hr
   refine cut (fun a' k'=>∃ F3,Bs noF k0 56 a' k'∧(BoxH b3 [ho_37_4,ho_37_5] [ho_37_4,ho_37_5] ({ s3.1 with Base:=x12 })) F3 (a'.get 3) k'∧Lo k0 F3∧a'.get 6 = .pointer (some ⟨b6,0,none⟩)∧Lo k0 (Eq b6)∧Gb.Box b6 (⟨(⟨[],[],[],[],[],[],[],0⟩:Plan),[],[],[],[],[]⟩:Town) k'∧(IsV ph_.Gives) (a'.get 36) k'∧(IsI (ph_.Gives.length:Int)) (a'.get 37) k'∧(IsV x14) (a'.get 38) k'∧Apart F3 (Eq b6)∧True) ?_ hQ ?_
   ·intro Q14 W14 w12
    refine gS 2 (_::_::[]) hs (by kernel_rfl) ⟨o1 [(38,none)] rfl fun _ _ h n=>ok_add rfl (up i38 h n.1) (cI rfl) hx14,cm 0 rfl rfl,trivial⟩ W14 fun b q p=>?_
    exact tail_done (k:=q) (w12 _ _ ⟨F3,Bs.post ⟨hg,hs,hd⟩ p,p.ke 3 rfl i3,n3,upE i6 (p.old 6 rfl),n6,Gb.Box.grow c6 p.grow,p.ke 36 rfl i36,p.ke 37 rfl i37,p.ou 1 38 rfl,d3_6,trivial⟩)
   rintro a k ⟨F3,⟨hg,hs,hd⟩,i3,n3,i6,n6,c6,i36,i37,i38,d3_6,_⟩
   exact hgo1079 _ _ _ (Option.some.inj hr).symm ⟨F3,⟨hg,hs,hd⟩,i3,n3,i6,n6,c6,i36,i37,i38,d3_6,trivial⟩
  rw [if_neg (by rw [hc1093]; decide)] at hr
  refine wp_exit ?_
  obtain ⟨kk,sh1092,cc3⟩:=BoxH.close i3 (hc_37_4_37_5 _) (fun _ h=>h)
  replace c6:=c6.handed sh1092 ((d3_6.symm) _ rfl)
  replace hg:=hg.hand sh1092 n3.wr
  rw [← sh1092.w]
  replace d3_6:Apart (Eq b3) (Eq b6):=fun c e=>d3_6 c (BoxH.sub i3 c e)
  replace n3:Lo k0 (Eq b3):=fun c e=>n3 c (BoxH.sub i3 c e)
  replace i3:=BoxH.ptr i3
  have c3:=cc3
  clear sh1092 cc3
  obtain ⟨k,hkk⟩ : ∃ k,k = kk:=⟨kk,rfl⟩
  subst hkk
  exact hex1080 _ _ _ _ (Option.some.inj hr).symm ⟨rfl,⟨hg,hs,hd⟩,i3,n3,c3,i6,n6,c6,d3_6,trivial⟩
 ·rintro r2 a k rfl hR
  dsimp only at hr
  obtain rfl:=Option.some.inj hr
  exact hR
 ·rintro _ _ _ rfl _
  simp at hr
 clear hf2
 rintro _ s4 a k rfl ⟨rfl,⟨hg,hs,hd⟩,i3,n3,c3,i6,n6,c6,d3_6,_⟩
 dsimp only at hr
 refine cutS (fun c l=>Bs noF k0 56 c l∧c.get 6 = .pointer (some ⟨b6,0,none⟩)∧Lo k0 (Eq b6)∧Gb.Box b6 s4.1 l∧True) ?_ ?_
 ·intro Q15 W15 w13
  refine gS 1 (_::[]) hs (by kernel_rfl) ⟨o1 [(3,none)] rfl fun _ _ h n=>ok_load rfl ty37 ⟨_,(upE i3 n.1),(c3.grow h).at⟩,trivial⟩ W15 fun b q p=>?_
  have hgq:=hg.then p.grow
  have hsb:=p.size.trans hs
  have hdb:=p.defers.trans hd
  have j6:=upE i6 (p.old 6 rfl)
  have z6:=Gb.Box.grow c6 p.grow
  have y6:=n6
  have j55:(IsV s4.1) (b.get 55) q:=p.ou 0 55 rfl
  have hns:=z6.nshF
  refine tail_storeB (i:=1) rfl rfl rfl rfl szf37 (Upd.self (α:=Town)) j6 z6 j55 fun q2 hch hz=>?_
  replace hgq:=hgq.step hch y6.wr
  have hle:=hch.le hns
  replace j55:=Pers.pers hle j55
  replace z6:=hz
  clear hns hle hch
  obtain ⟨q,hqq⟩ : ∃ q,q = q2:=⟨q2,rfl⟩
  subst hqq
  exact tail_done (k:=q) (w13 _ _ ⟨⟨hgq,hsb,hdb⟩,j6,y6,z6,trivial⟩)
 rintro a k ⟨⟨hg,hs,hd⟩,i6,n6,c6,_⟩
 refine wp_ret ?_
 obtain rfl:=Option.some.inj hr
 exact retC1 rfl hd hg (resCell ty37 i6 c6)
noncomputable def k15:=mkO 15 [.st 7,.int,.st 3] [.st 7] (fun x=>vested_After x.1 x.2.1 x.2.2) Tryz.call15 fun k0 vs x r hG h hr=>by obtain ⟨v0,vs,rfl,i0,h⟩:=h.cons; obtain ⟨v1,vs,rfl,i1,h⟩:=h.cons; obtain ⟨v2,rfl,i2⟩:=h.one; exact vested_After_ok i0 i1 i2 hr
def vested_Last_L1 (x1:Right) (x2:(List Phase)) (s1:Int × Town):Option (Flow (Int × Town) (Town)):=
 if (decide (s1.1 < (x2.length:Int))) then
  (getI x2 s1.1).bind fun x3=>
  (vested_After s1.2 x1.Drawing.Lot x3).bind fun x4=>
  (addI s1.1 1).bind fun x5=>
  some (.go (x5,x4))
 else
  some (.ex 2 (s1.1,s1.2))
def vested_Last_L0 (rights_:(List Right)) (s1:Int × Town):Option (Flow (Int × Town) (Town)):=
 if (decide (s1.1 < (rights_.length:Int))) then
  (getI rights_ s1.1).bind fun x1=>
  (option_Left x1).bind fun x2=>
  (iterL (vested_Last_L1 x1 x2) (x2.length + 1) (0,s1.2)).bind fun f1=>match f1 with
   | .go _=>none
   | .ex _ s2=>
    (addI s1.1 1).bind fun x3=>
    some (.go (x3,s2.2))
   | .ret r1=>some (.ret r1)
 else
  some (.ex 0 (s1.1,s1.2))
def vested_Last (t_:Town) (rights_:(List Right)):Option (Town):=
 (slices_Clone_Placed t_.Built).bind fun x1=>
 (slices_Clone_Entry t_.Base).bind fun x2=>
 (iterL (vested_Last_L0 rights_) (rights_.length + 1) (0,{ { t_ with Built:=x1 } with Base:=x2 })).bind fun f1=>match f1 with
  | .go _=>none
  | .ex _ s1=>
   some s1.2
  | .ret r1=>some r1
noncomputable def k17:=mk 17 [.st 7,.list (.st 28)] [.st 7] (fun x=>vested_Last x.1 x.2) [k33,k34,k27,k15] [2,4] Tryz.f17 (.s .n (.s .n (.s (.s .n (.l [] [(19,.v .int),(2,.b (.st 7))] [(0,[19],[])] (fI 18) (.s .n (.s .n (.s (.s .n (.s .n (.l [] [(26,.v .int),(2,.b (.st 7))] [(2,[26],[])] (fI 25) .n))) .n))))) .n))) Tryz.func17 Tryz.call17 rfl rfl fun x=>by kernel_rfl
def vested_right (v_:Volume):Option (Bool):=
 (rect_Right v_.Box.Base).bind fun x1=>
 some (((((x1 && (decide (0 ≤ v_.Box.Z0))) && (decide (v_.Box.Z0 < v_.Box.Z1))) && (decide (v_.Box.Z1 ≤ 4096))) && (decide (0 ≤ v_.Use))) && (decide (v_.Use < 6)))
noncomputable def k82:=mk 82 [.st 4] [.bool] (fun x=>vested_right x) [k99] [] Tryz.f82 (.n) Tryz.func82 Tryz.call82 rfl rfl fun x=>by kernel_rfl
def vested_solid (v_:Volume):Option ((List Slab)):=
 some ([(⟨v_.Box.Z0,v_.Box.Z1,[v_.Box.Base]⟩:Slab)])
noncomputable def k83:=mk 83 [.st 4] [.list (.st 22)] (fun x=>vested_solid x) [] [] Tryz.f83 (.n) Tryz.func83 Tryz.call83 rfl rfl fun x=>by kernel_rfl
def vested_solids_L0 (t_:Town) (but_:(Int → Option (Bool))) (s1:(List (List Slab)) × Int):Option (Flow ((List (List Slab)) × Int) ((List (List Slab)))):=
 if (decide (s1.2 < (t_.Built.length:Int))) then
  (getI t_.Built s1.2).bind fun x1=>
  (vested_right x1.Volume).bind fun x2=>
  (if x2 then
   (but_ x1.Lot).bind fun x3=>
   some (!x3)
  else
   some false).bind fun x4=>
  (if x4 then
   (vested_solid x1.Volume).bind fun x5=>
   (appI s1.1 ([x5])).bind fun x6=>
   some x6
  else
   some s1.1).bind fun s2=>
  (addI s1.2 1).bind fun x7=>
  some (.go (s2,x7))
 else
  some (.ex 0 (s1.1,s1.2))
def vested_solids (t_:Town) (but_:(Int → Option (Bool))):Option ((List (List Slab))):=
 (iterL (vested_solids_L0 t_ but_) (t_.Built.length + 1) (([]:List (List Slab)),0)).bind fun f1=>match f1 with
  | .go _=>none
  | .ex _ s1=>
   some s1.1
  | .ret r1=>some r1
noncomputable def k53:=mk 53 [.st 7,.f1 .int .bool] [.list (.list (.st 22))] (fun x=>vested_solids x.1 x.2) [k82,k83] [5,25,30] Tryz.f53 (.s .n (.s .n (.s (.s .n (.l [] [(5,.o 117 (.list (.st 22))),(11,.v .int)] [(0,[11],[])] (fI 10) (.s .n (.s .n (.s (.s .n (.s .n (.j [] [(5,.o 117 (.list (.st 22)))] ([],[]) (.s .n .n)))) .n))))) (.s (.f [5] .n) .n)))) Tryz.func53 Tryz.call53 rfl rfl fun x=>by kernel_rfl
def sight_on (p_:Point3):Option (Bool):=
 some (((decide (0 ≤ (min (min p_.X p_.Y) p_.Z))) && (decide ((max p_.X p_.Y) ≤ 1048576))) && (decide (p_.Z ≤ 4096)))
noncomputable def k86:=mk 86 [.st 17] [.bool] (fun x=>sight_on x) [] [] Tryz.f86 (.n) Tryz.func86 Tryz.call86 rfl rfl fun x=>by kernel_rfl
section
open Go.Proofs Go.RowKit Go.Lib Go.Sort Go.Shelf
def Tryz.growL185_ren:Go.Shelf.Ren:=⟨fun | 4=>185 | n=>n,fun | 22=>130 | 25=>79 | 3=>3 | 4=>4 | 9=>9 | 20=>20 | 0=>0 | n=>n,fun | n=>n⟩
theorem Tryz.growL185:Go.Proofs.Lays8.n4 Tryz.prog Tryz.growL185_ren:={
 mixed:=by kernel_rfl,
 f4:=⟨Tryz.f185.name,by decide,Tryz.func185.trans (congrArg some (by kernel_rfl))⟩,
 t0:=Tryz.underlying0,
 a0:=Tryz.isAgg0,
 z0:=Tryz.sizeOf0,
 v0:=Tryz.zeroValue0,
 t3:=Tryz.underlying3,
 a3:=Tryz.isAgg3,
 z3:=Tryz.sizeOf3,
 v3:=Tryz.zeroValue3,
 t4:=Tryz.underlying4,
 a4:=Tryz.isAgg4,
 z4:=Tryz.sizeOf4,
 v4:=Tryz.zeroValue4,
 t9:=Tryz.underlying9,
 a9:=Tryz.isAgg9,
 z9:=Tryz.sizeOf9,
 v9:=Tryz.zeroValue9,
 t20:=Tryz.underlying20,
 a20:=Tryz.isAgg20,
 z20:=Tryz.sizeOf20,
 v20:=Tryz.zeroValue20,
 t22:=Tryz.underlying130,
 a22:=Tryz.isAgg130,
 z22:=Tryz.sizeOf130,
 v22:=Tryz.zeroValue130 }
theorem slices_Grow_Rect_okO {k0:K} {v0 v1:Value} {n:Int} {r:List Rect} (i0:v0 = .slice none 0 0) (i1:IsV n v1 k0) (hr:growI Rect n = some r):Calls Tryz.prog 185 #[v0,v1] k0.w (Ret k0 (IsOwn k0.w.heap.size 79 r)):=by
 refine grow_own eo79 i0 i1 hr ?_ fun m i z h0 hm hi hz hs hb=>?_
 ·have hcon:=Any8.slices_Grow_room Tryz.growL185 none 0 0 0 k0.w (by omega) (by omega) (by omega) (by omega)
  change Calls Tryz.prog 185 _ _ _ at hcon
  exact hcon
 ·have hcon:=Any8.slices_Grow_grow Tryz.growL185 i z hi hz hs none 0 0 m [] k0.w (by omega) (by omega) (by
   have:(0 + m) * i.bytes ≤ 1073741824 * 65536:=Nat.mul_le_mul (by omega) hb
   omega) (by omega) (by simp) (fun _=>rfl) (fun a h=>by simp at h)
  change Calls Tryz.prog 185 _ _ _ at hcon
  exact hcon
end
end Go.Proofs.YtegglcdhfnjhcaaGreat
