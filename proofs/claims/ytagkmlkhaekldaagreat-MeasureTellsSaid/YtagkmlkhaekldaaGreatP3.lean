/- The plain part of the proof (no program in sight), part 3 -/
import Derived.Test.YtagkmlkhaekldaaGreatP2
namespace Go.Proofs.YtagkmlkhaekldaaGreat
open Go.Gb
set_option linter.unusedVariables false
set_option linter.unusedSimpArgs false
set_option linter.unusedSectionVars false
set_option linter.unusedVariables false
set_option linter.unusedSimpArgs false
set_option maxRecDepth 100000

theorem esame_eq {a b:List Entry} (hb:a.length ≤ 1000000):ref20_Same a b = some (decide (a = b)):=by
  unfold ref20_Same
  by_cases hl:a.length = b.length
  · rw [if_neg (by simp [hl])]
    rcases iter_find (l:=a.zip b) (body:=ref20_Same_L0 a b) (k:=0) (fun p=>p.1 ≠ p.2) (fun _=>false) (by
      intro i hi
      simp only [List.length_zip] at hi
      have h1:i < a.length:=by omega
      have h2:i < b.length:=by omega
      unfold ref20_Same_L0
      rw [if_pos (by simpa using h1),getI_nat h1,Option.bind_some,getI_nat h2,Option.bind_some]
      simp only [List.getElem_zip]
      by_cases he:a[i] = b[i]
      · right
        rw [if_neg (by simpa using he),addI_one (show i < 4611686018427387904 by omega),Option.bind_some]
        exact ⟨by simpa using he,rfl⟩
      · left
        rw [if_pos (by simpa using he)]
        exact ⟨he,rfl⟩) (by
      have e:((a.zip b).length:Int) = (a.length:Int):=by simp; omega
      rw [e]
      unfold ref20_Same_L0
      rw [if_neg (by simp)]) (fuel:=a.length + b.length + 1) (by simp; omega) with ⟨i,hi,hp,_,h⟩ | ⟨hp,h⟩
    · rw [h, Option.bind_some]
      dsimp only
      congr 1
      symm
      rw [decide_eq_false_iff_not]
      intro e; subst e; simp at hp
    · rw [h, Option.bind_some]
      dsimp only
      congr 1
      symm
      rw [decide_eq_true_iff]
      refine List.ext_getElem hl fun i h1 h2=>?_
      have:=hp (a[i],b[i]) (by
        rw [List.mem_iff_getElem]
        exact ⟨i,by simp; omega,by simp⟩)
      simpa using this
  · rw [if_pos (by simp; omega)]
    congr 1
    symm
    rw [decide_eq_false_iff_not]
    intro e; exact hl (by rw [e])
theorem addW1 {i:Nat} (h:i < 4611686018427387904):addW (i:Int) 1 = some ((i + 1:Nat):Int):=by
  rw [addW_in (by unfold inI; omega)]; simp
theorem few20_L0 (d:Drawing) (hd:d.Phases.length ≤ reachLen) (hv : ∀ x ∈ d.Phases,x.Volumes.length ≤ reachLen) : ∃ t,iterL (ref20_Few_L0 d) (d.Phases.length + 1) (0,0) = some (.ex 0 t)∧(d.Phases.length ≤ 8 → t.1 = ((allV d).length:Int)):=by
  unfold reachLen at *
  obtain ⟨f,k1,k2,k3⟩:=loop_up (body:=ref20_Few_L0 d) (fun i t=>t.2 = ((i:Nat):Int)∧(d.Phases.length ≤ 8 → t.1 = ((((d.Phases.take i).flatMap (·.Volumes)).length:Nat):Int)∧t.1 ≤ 140737488351232 * i)) d.Phases.length
    (fun f=>match f with | .ex j t=>j = 0∧(d.Phases.length ≤ 8 → t.1 = ((allV d).length:Int)) | _=>False) (fun i t hi ⟨e,h⟩=>by
      have h9:=hv _ (List.getElem_mem hi)
      unfold ref20_Few_L0
      rw [e,if_pos (by simpa using hi),getI_nat hi,Option.bind_some]
      show (∃ s', (addW t.1 (d.Phases[i].Volumes.length : Int)).bind _ = _ ∧ _) ∨ _
      rw [show addW t.1 (d.Phases[i].Volumes.length:Int) = some (IntKind.i64.wrap (t.1 + (d.Phases[i].Volumes.length:Int))) from rfl,Option.bind_some,addW1 (by omega)]
      refine .inl ⟨_,rfl,rfl,fun h8=>?_⟩
      obtain ⟨h1,h2⟩:=h h8
      dsimp only
      have e1:IntKind.i64.wrap (t.1 + (d.Phases[i].Volumes.length:Int)) = t.1 + (d.Phases[i].Volumes.length:Int):=IntWalk.i64_in _ (show inI _ by unfold inI; omega)
      rw [e1]
      refine ⟨?_,by omega⟩
      rw [List.take_succ_eq_append_getElem hi,List.flatMap_append,List.length_append,h1]
      simp) (fun t ⟨e,h⟩=>by
      unfold ref20_Few_L0
      rw [e,if_neg (by simp)]
      rw [List.take_length] at h
      exact ⟨_,rfl,trivial,rfl,fun h8=>(h h8).1⟩) (0,0) ⟨rfl,fun _=>by simp⟩ (d.Phases.length + 1) (by omega)
  rw [k1]
  cases f with
  | go _=>exact k2.elim
  | ret r=>exact k3.elim
  | ex j t=>obtain ⟨rfl,h⟩:=k3; exact ⟨t,rfl,h⟩
theorem few20 (p:Plan) (lot:Lot) (d:Drawing) (hd:d.Phases.length ≤ reachLen) (hv : ∀ x ∈ d.Phases,x.Volumes.length ≤ reachLen) (hT:p.Tables.length ≤ reachLen) : ∃ b,ref20_Few p lot d = some b∧(b = true → PlanS p∧lot.Area.length ≤ 12∧d.Phases.length ≤ 8∧(allV d).length ≤ 50):=by
  obtain ⟨t,h1,h2⟩:=few20_L0 d hd hv
  unfold reachLen at *
  unfold ref20_Few
  rw [h1,Option.bind_some]
  dsimp only
  obtain ⟨f,k1,k2,k3⟩:=loop_up (body:=ref20_Few_L1 p) (fun i s=>s = ((i:Nat):Int)∧∀ m (h:m < p.Tables.length),m < i → p.Tables[m].Rows.length ≤ 10) p.Tables.length
    (fun f=>match f with | .ex j s=>∀ m (h:m < p.Tables.length),p.Tables[m].Rows.length ≤ 10 | .ret r=>r = false | _=>False) (fun i s hi ⟨e,h⟩=>by
      unfold ref20_Few_L1
      rw [e,if_pos (by simpa using hi),getI_nat hi,Option.bind_some]
      by_cases c:p.Tables[i].Rows.length ≤ 10
      · rw [if_neg (by simp; omega), addW1 (by omega)]
        refine .inl ⟨_,rfl,rfl,fun m hm hmi=>?_⟩
        by_cases e:m = i
        · subst e; exact c
        · exact h m hm (by omega)
      · rw [if_pos (by simp; omega)]
        exact .inr ⟨_,rfl,trivial,rfl⟩) (fun s ⟨e,h⟩=>by
      unfold ref20_Few_L1
      rw [e,if_neg (by simp)]
      exact ⟨_,rfl,trivial,fun m hm=>h m hm hm⟩) 0 ⟨rfl,fun m _ h=>by omega⟩ (p.Tables.length + 1) (by omega)
  rw [k1,Option.bind_some]
  cases f with
  | go _=>exact k2.elim
  | ret r=>subst k3; exact ⟨false,rfl,by simp⟩
  | ex j s =>
    dsimp only at k3 ⊢
    refine ⟨_,rfl,fun g=>?_⟩
    simp only [Bool.and_eq_true,decide_eq_true_eq] at g
    have h3:=h2 (by omega)
    refine ⟨⟨by omega,fun t ht=>?_⟩,by omega,by omega,by omega⟩
    obtain ⟨i,hi,rfl⟩:=List.mem_iff_getElem.1 ht
    exact k3 i hi
theorem cells_one (r:Rect) (x y:Int):cells [r] x y ↔ rin r x y:=by simp [cells]
theorem SQ_one {R b:Rect} (hb:VR b) (n:Int):SQ [R] b n ↔ n ≤ 0 ∨ (R.X0 ≤ b.X0 - n∧b.X1 + n ≤ R.X1∧R.Y0 ≤ b.Y0 - n∧b.Y1 + n ≤ R.Y1):=by
  unfold SQ
  unfold VR at hb
  constructor
  · rintro (h | h)
    · exact .inl h
    · by_cases c : n ≤ 0
      · exact .inl c
      · have h1 := (cells_one _ _ _).1 (h (b.X0 - n) (b.Y0 - n) (by unfold rin grw; dsimp only; omega))
        have h2:=(cells_one _ _ _).1 (h (b.X1 + n - 1) (b.Y1 + n - 1) (by unfold rin grw; dsimp only; omega))
        unfold rin at h1 h2
        omega
  · rintro (h | h)
    · exact .inl h
    · refine .inr fun x y hxy => (cells_one _ _ _).2 ?_
      unfold rin grw at hxy
      unfold rin
      dsimp only at hxy
      omega
def exP:Plan:=⟨[],[(⟨(⟨#[116,114,97,102,102,105,99]⟩:ByteArray),[(⟨(⟨#[104,111,109,101]⟩:ByteArray),50⟩:Entry)],20⟩:Table)],[],[],[],[],[],0⟩
def exA:Volume:=⟨⟨⟨2,2,5,4⟩,0,7⟩,0,4,false⟩
def exB:Volume:=⟨⟨⟨4,2,7,3⟩,7,9⟩,1,0,false⟩
theorem exP_S:PlanS exP:=⟨by decide,by decide⟩
theorem exA_R:RV exA:=by decide
theorem exB_R:RV exB:=by decide
theorem small_of:measure_Of exP ⟨1,0,[⟨0,0,10,8⟩],[]⟩ ⟨1,[⟨[exA,exB],[]⟩]⟩ = some (ent 80 8 21 3 9 4 2 10):=by
  obtain ⟨B,hB,h⟩:=of_eq (p:=exP) (lot:=⟨1,0,[⟨0,0,10,8⟩],[]⟩) (d:=⟨1,[⟨[exA,exB],[]⟩]⟩) exP_S (by decide) (by decide) (by decide)
  have hV:vols ⟨1,[⟨[exA,exB],[]⟩]⟩ = [exA,exB]:=by decide
  have hA:ar [⟨0,0,10,8⟩] = [⟨0,0,10,8⟩]:=if_pos (rrB_spec (by decide))
  rw [hV,hA] at h hB
  have hB2:SB [⟨0,0,10,8⟩] (bs [exA,exB]) 2:=⟨by decide,by decide,fun n h0 h1=>by
    have e1:=SQ_one (R:=⟨0,0,10,8⟩) exA_R.1 n
    have e2:=SQ_one (R:=⟨0,0,10,8⟩) exB_R.1 n
    constructor
    · intro hn b hb
      simp [bs] at hb
      rcases hb with rfl | rfl
      · exact e1.2 (by show n ≤ 0 ∨ ((0:Int) ≤ 2 - n∧5 + n ≤ 10∧0 ≤ 2 - n∧4 + n ≤ 8); omega)
      · exact e2.2 (by show n ≤ 0 ∨ ((0:Int) ≤ 4 - n∧7 + n ≤ 10∧0 ≤ 2 - n∧3 + n ≤ 8); omega)
    · intro hq
      have h3:n ≤ 0 ∨ ((0:Int) ≤ 2 - n∧5 + n ≤ 10∧0 ≤ 2 - n∧4 + n ≤ 8):=e1.1 (hq _ (by simp [bs]))
      omega⟩
  have hBe:=hB.unique hB2 fun _=>Iff.rfl
  subst hBe
  have hc:covM (bs [exA,exB]) 1048576 = 8:=by
    have hf:RR [⟨2,2,5,4⟩,⟨5,2,7,3⟩]:=rrB_spec (by decide)
    rw [covM_eq (out:=[⟨2,2,5,4⟩,⟨5,2,7,3⟩]) hf.1 (hf.2.2.congr fun x y=>by
      simp [cells,bs,rin,exA,exB]; omega) rfl]
    rfl
  have ht1:tra exP exA = 9:=by unfold tra; rw [show measure_traffic exP exA = some 9 by kernel_rfl]; rfl
  have ht2:tra exP exB = 1:=by unfold tra; rw [show measure_traffic exP exB = some 1 by kernel_rfl]; rfl
  have ht:sumL (tra exP) [exA,exB] = 10:=by simp only [sumL,ht1,ht2]; rfl
  rw [h,hc,ht]
  rfl
theorem small_true:law20_small = some true:=by
  unfold law20_small
  have e1:law20_box 2 2 5 4 0 7 0 = some (⟨⟨⟨2,2,5,4⟩,0,7⟩,0,0,false⟩:Volume):=rfl
  have e2:law20_box 4 2 7 3 7 9 1 = some exB:=rfl
  have o:=small_of
  unfold exP at o
  rw [e1,Option.bind_some,e2,Option.bind_some]
  change (measure_Of exP ⟨1,0,[⟨0,0,10,8⟩],[]⟩ ⟨1,[⟨[exA,exB],[]⟩]⟩).bind _ = _
  rw [small_of,Option.bind_some,square_eq,Option.bind_some]
  have l1:measure_Load exP ⟨⟨#[]⟩,2,0,sqr ⟨0,0,5,5⟩⟩ exB = some 3:=(load_sqr exP_S (by kernel_rfl) exB_R _ 2 0).trans (by rfl)
  have l2:measure_Load exP ⟨⟨#[]⟩,2,0,sqr ⟨7,0,9,9⟩⟩ exB = some 0:=(load_sqr exP_S (by kernel_rfl) exB_R _ 2 0).trans (by rfl)
  change (measure_Load exP ⟨⟨#[]⟩,2,0,sqr ⟨0,0,5,5⟩⟩ exB).bind _ = _
  rw [l1,Option.bind_some,square_eq,Option.bind_some]
  change (measure_Load exP ⟨⟨#[]⟩,2,0,sqr ⟨7,0,9,9⟩⟩ exB).bind _ = _
  rw [l2,Option.bind_some]
  change (ref20_Same (ent 80 8 21 3 9 4 2 10) (ent 80 8 21 3 9 4 2 10)).bind _ = _
  rw [esame_eq (by decide),decide_eq_true rfl,Option.bind_some,if_pos (by decide)]
  have s1:measure_Storeys exA = some 3:=sto_eq exA
  have s2:measure_Storeys exB = some 1:=sto_eq exB
  have s3:measure_Floor exA = some 18:=flo_eq exA
  have s4:measure_Floor exB = some 3:=flo_eq exB
  change ((measure_Storeys exA).bind _).bind _ = _
  rw [s1,Option.bind_some,Option.bind_some,if_pos (by decide)]
  change ((measure_Floor exA).bind _).bind _ = _
  rw [s3,Option.bind_some,Option.bind_some,if_pos (by decide),s2,Option.bind_some,Option.bind_some,if_pos (by decide),s4]
  rfl
end Go.Proofs.YtagkmlkhaekldaaGreat

namespace Go.Proofs.YtagkmlkhaekldaaGreat
open Go.Gb
set_option linter.unusedVariables false
set_option linter.unusedSimpArgs false
set_option linter.unusedSectionVars false
set_option linter.unusedVariables false
set_option linter.unusedSimpArgs false
set_option maxRecDepth 100000

theorem load_total {p:Plan} {c:Cap} {v:Volume} (hp:PlanS p) : ∃ n,measure_Load p c v = some n∧0 ≤ n∧n ≤ 1099511627776:=by
  unfold measure_Load
  obtain ⟨b,hb,hbs⟩:=rvol (v:=v)
  rw [hb,Option.bind_some]
  cases b with
  | false=>rw [if_pos (by simp)]; exact ⟨_,rfl,by omega,by omega⟩
  | true =>
    obtain ⟨hV,h1,h2,h3,h4,h5,h6,h7⟩:=hbs rfl
    rw [if_neg (by simp)]
    obtain ⟨r,hr,hrl⟩:=region_total c.Corners
    rw [hr,Option.bind_some]
    obtain ⟨e,he⟩:Tot (if (r.2 != 0) = true then some true else (slices_ContainsFunc_Rect r.1 (fun y0=>measure_Load_1 y0 v)).bind fun x=>some (!x)):=by
      refine Tot.ite (fun _=>Tot.pure _) fun _=>Tot.bind (containsR_tot (by omega) fun x=>?_) fun _ _=>Tot.pure _
      unfold measure_Load_1
      exact Tot.bind (inter_tot _ _) fun _ _=>Tot.pure _
    rw [he,Option.bind_some]
    split
    · exact ⟨_,rfl,by omega,by omega⟩
    · split
      · exact ⟨_,rfl,by omega,by omega⟩
      · split
        · obtain ⟨n, hn, hn0, hn1⟩ := traffic_tot (v := v) hp h4 h5
          rw [hn,Option.bind_some]
          exact ⟨_,rfl,hn0,hn1⟩
        · split
          · obtain ⟨n, hn, hn0, hn1⟩ := area_tot hV
            rw [hn,Option.bind_some]
            exact ⟨_,rfl,hn0,hn1⟩
          · exact ⟨_,rfl,by omega,by omega⟩
theorem rArea6_fine {a:List Rect} (h:RR a):ref06_Area a = some (areaL a):=by
  unfold ref06_Area
  rw [rRight_true h,Option.bind_some,if_neg (by simp)]
  have hl:=h.2.1
  have hb:=area_bound h.2.2 h.1
  have hpos : ∀ r ∈ a,0 ≤ (r.X1 - r.X0) * (r.Y1 - r.Y0):=fun r hr=>(rect_area_bound (h.1 r hr)).1
  obtain ⟨h1,h2⟩:=iter_range (k:=0) (l:=a) (body:=ref06_Area_L0 a) (fun (s:Int) i=>(s,i)) (fun s r=>s + (r.X1 - r.X0) * (r.Y1 - r.Y0)) (fun i s=>s = areaL (a.take i)) (by
    rintro i hi s rfl
    have hg:=getI_nat hi
    have hv:=h.1 _ (List.getElem_mem hi)
    have hr:=rect_area_bound hv
    have hp:=sumL_prefix hpos (i + 1)
    rw [sumL_snoc hi] at hp
    have hp0:=sumL_prefix hpos i
    unfold VR at hv
    unfold areaL at hb ⊢
    constructor
    · unfold ref06_Area_L0
      dsimp only
      rw [if_pos (by simpa using hi)]
      simp only [hg,Option.bind_some]
      rw [subI_some (by unfold inI; omega),Option.bind_some,subI_some (by unfold inI; omega),Option.bind_some,mulI_some (by unfold inI; omega),Option.bind_some,addI_some (by unfold inI; omega),Option.bind_some,addI_one (by omega),Option.bind_some]
    · rw [sumL_snoc hi]) (by
    rintro s rfl
    unfold ref06_Area_L0
    dsimp only
    rw [if_neg (by simp)]) (s0:=0) rfl (fuel:=a.length + 1) (by omega)
  rw [h1,Option.bind_some]
  dsimp only
  rw [h2,List.take_length]
theorem rArea6_ar {a:List Rect} (hl:a.length ≤ 100000):ref06_Area a = some (areaL (ar a)):=by
  unfold ar
  by_cases h:RR a
  · rw [if_pos h]; exact rArea6_fine h
  · rw [if_neg h]
    unfold ref06_Area
    rw [rRight_false hl h]; rfl
theorem rvolumesM {d:Drawing} (hp:d.Phases.length ≤ 100000) (hl:(allV d).length ≤ 1000000) {n:Int} (hn:(d.Phases.length:Int) ≤ n):ref19_Volumes d 0 n = some (allV d):=by
  obtain ⟨f,h1,h2,h3⟩:=loop_up (body:=ref19_Volumes_L0 d 0 n) (fun i s=>s.2 = ((i:Nat):Int)∧s.1 = (d.Phases.take i).flatMap (·.Volumes)) d.Phases.length
    (fun f=>match f with | .ex _ s=>s.1 = allV d | _=>False) (fun i s hi ⟨hs,hI⟩=>by
      have hb:=flat_take_le (l:=d.Phases) (i + 1)
      have e:(d.Phases.take (i + 1)).flatMap (·.Volumes) = s.1 ++ d.Phases[i].Volumes:=by
        rw [List.take_succ_eq_append_getElem hi,List.flatMap_append,hI]; simp
      rw [e,List.length_append] at hb
      unfold allV at hl
      unfold ref19_Volumes_L0
      rw [hs,if_pos (by simpa using hi),if_pos (by simp; omega),getI_nat hi,Option.bind_some,appI_some (by omega),Option.bind_some,Option.bind_some,addI_one (by omega),Option.bind_some]
      exact .inl ⟨_,rfl,rfl,e.symm⟩) (fun s ⟨hs,hI⟩=>by
      unfold ref19_Volumes_L0
      rw [hs,if_neg (by simp)]
      rw [List.take_length] at hI
      exact ⟨_,rfl,trivial,hI⟩) ([],0) ⟨rfl,by simp⟩ (d.Phases.length + 1) (by omega)
  unfold ref19_Volumes
  rw [h1,Option.bind_some]
  cases f with
  | go _=>exact h2.elim
  | ret r=>exact h3.elim
  | ex _ s=>dsimp only at h3 ⊢; rw [h3]
theorem rvols {d:Drawing} (hp:d.Phases.length ≤ 100000) (hl:(allV d).length ≤ 1000000):ref20_volumes d = some (vols d):=by
  unfold ref20_volumes
  rw [rvolumesM hp hl (Int.le_refl _),Option.bind_some]
  unfold vols
  generalize allV d = vs at *
  have e0:(vs.take 40).length = min vs.length 40:=by rw [List.length_take]; omega
  obtain ⟨f,k1,k2,k3⟩:=loop_up (body:=ref20_volumes_L0 vs) (fun i t=>t.2 = ((i:Nat):Int)∧t.1 = ((vs.take 40).take i).filter (fun v=>decide (RV v))) (vs.take 40).length
    (fun f=>match f with | .ex j t=>t.1 = (vs.take 40).filter (fun v=>decide (RV v)) | _=>False) (fun i t hi ⟨e,h⟩=>by
      have hi1:i < vs.length:=by omega
      have hlen:t.1.length ≤ 40:=by
        rw [h]
        have h1:=List.length_filter_le (fun v=>decide (RV v)) ((vs.take 40).take i)
        rw [List.length_take,e0] at h1
        omega
      have e2:(vs.take 40).take (i + 1) = (vs.take 40).take i ++ [vs[i]]:=by
        rw [List.take_succ_eq_append_getElem hi,List.getElem_take]
      unfold ref20_volumes_L0
      rw [e,if_pos (by simp; omega),getI_nat hi1,Option.bind_some,rrv_eq,rv_eq,Option.bind_some]
      by_cases r:RV vs[i]
      · rw [decide_eq_true r, if_pos rfl, Option.bind_some, appI_some (by simp; omega), Option.bind_some, Option.bind_some, addI_one (by omega)]
        exact .inl ⟨_,rfl,rfl,by dsimp only; rw [e2,List.filter_append,h]; simp [r]⟩
      · rw [decide_eq_false r, if_neg (by simp), Option.bind_some, addI_one (by omega)]
        exact .inl ⟨_,rfl,rfl,by dsimp only; rw [e2,List.filter_append,h]; simp [r]⟩) (fun t ⟨e,h⟩=>by
      unfold ref20_volumes_L0
      rw [e,if_neg (by simp; omega)]
      rw [List.take_length] at h
      exact ⟨_,rfl,trivial,h⟩) ([],0) ⟨rfl,by simp⟩ (vs.length + ([]:List Volume).length + 1) (by simp; omega)
  rw [k1,Option.bind_some]
  cases f with
  | go _=>exact k2.elim
  | ret r=>exact k3.elim
  | ex j t=>dsimp only at k3 ⊢; rw [k3]
theorem gap_iff {r o:Rect} (hr:VR r) (ho:VR o) {n:Int} (hn:0 < n) :
    n ≤ max (max (max (max 0 (o.X0 - r.X1)) (r.X0 - o.X1)) (o.Y0 - r.Y1)) (r.Y0 - o.Y1) ↔ ∀ x y,rin (grw r n) x y → ¬ rin o x y:=by
  unfold VR at hr ho
  constructor
  · intro h x y h1 h2
    unfold rin grw at h1
    unfold rin at h2
    dsimp only at h1
    omega
  · intro h
    have:=h (max (r.X0 - n) o.X0) (max (r.Y0 - n) o.Y0)
    unfold rin grw at this
    dsimp only at this
    omega
theorem len_area : ∀ {l:List Rect},(∀ r ∈ l,VR r) → (l.length:Int) ≤ areaL l
  | [],_=>by simp [areaL,sumL]
  | r :: l, hv => by
    have h:=len_area (l:=l) fun s hs=>hv s (by simp [hs])
    have hr:=hv r (by simp)
    unfold VR at hr
    have h1:1 * 1 ≤ (r.X1 - r.X0) * (r.Y1 - r.Y0):=Int.mul_le_mul (by omega) (by omega) (by omega) (by omega)
    have e:areaL (r::l) = (r.X1 - r.X0) * (r.Y1 - r.Y0) + areaL l:=rfl
    rw [e,List.length_cons]
    omega
theorem VR_grid {S:Int → Int → Prop} {out:List Rect} (h:IsForm S out) (hg : ∀ x y,S x y → (0 ≤ x∧x < 1048576)∧0 ≤ y∧y < 1048576) : ∀ r ∈ out,VR r:=by
  intro r hr
  have h0:=form_rect h r hr
  have h1:=hg _ _ ((h.cells r.X0 r.Y0).1 ⟨r,hr,by unfold rin; omega⟩)
  have h2:=hg _ _ ((h.cells (r.X1 - 1) (r.Y1 - 1)).1 ⟨r,hr,by unfold rin; omega⟩)
  unfold VR
  omega
theorem form_len_bd {S:Int → Int → Prop} {out:List Rect} (h:IsForm S out) (hv : ∀ r ∈ out,VR r):(out.length:Int) ≤ 1099511627776:=by
  have h1:=len_area hv
  have h2:=(area_bound h hv).2
  omega
theorem rsetback {a:List Rect} (hl:a.length ≤ 100000) {r:Rect} (hr:VR r) : ∃ S,ref20_Setback a r = some S∧0 ≤ S∧S ≤ 1048576∧∀ n,0 ≤ n → n ≤ 1048576 → (n ≤ S ↔ SQ (ar a) r n):=by
  have hv:=hr
  unfold VR at hv
  by_cases h:RR a
  · have har : ar a = a := if_pos h
    rw [har]
    unfold ref20_Setback
    rw [rRight_true h,Option.bind_some,if_neg (by simp),subI_some (by unfold inI; omega),Option.bind_some,subI_some (by unfold inI; omega),Option.bind_some]
    have hgv:VR ⟨0,0,1048576,1048576⟩:=by decide
    obtain ⟨out,ho,hf⟩:=Form_spec (a:=[⟨0,0,1048576,1048576⟩]) (b:=a) (op:=2) (by simpa using hgv) h.1 (by have:=h.2.1; simp; omega)
    have hS : ∀ x y,opS 2 [⟨0,0,1048576,1048576⟩] a x y ↔ ((0 ≤ x∧x < 1048576)∧0 ≤ y∧y < 1048576)∧¬ cells a x y:=by
      intro x y
      unfold opS opB
      simp [cells_one,rin]
    have hov:=VR_grid hf fun x y hs=>((hS x y).1 hs).1
    have hol:=form_len_bd hf hov
    rw [ho,Option.bind_some]
    generalize hg0:min (min (min r.X0 r.Y0) (1048576 - r.X1)) (1048576 - r.Y1) = g0
    obtain ⟨f,k1,k2,k3⟩:=loop_up (body:=ref20_Setback_L0 r out) (fun i t=>t.2 = ((i:Nat):Int)∧0 ≤ t.1∧t.1 ≤ g0∧∀ n,0 < n → (n ≤ t.1 ↔ n ≤ g0∧∀ o ∈ out.take i,∀ x y,rin (grw r n) x y → ¬ rin o x y)) out.length
      (fun f=>match f with | .ex j t=>0 ≤ t.1∧t.1 ≤ g0∧∀ n,0 < n → (n ≤ t.1 ↔ n ≤ g0∧∀ o ∈ out,∀ x y,rin (grw r n) x y → ¬ rin o x y) | _=>False) (fun i t hi ⟨e,t0,t1,ht⟩=>by
        have hoi:=hov _ (List.getElem_mem hi)
        have hov':=hoi
        unfold VR at hov'
        unfold ref20_Setback_L0
        rw [e,if_pos (by simpa using hi)]
        simp only [getI_nat hi,Option.bind_some]
        rw [subI_some (by unfold inI; omega),Option.bind_some,subI_some (by unfold inI; omega),Option.bind_some,subI_some (by unfold inI; omega),Option.bind_some,subI_some (by unfold inI; omega),Option.bind_some,addI_one (by omega)]
        refine .inl ⟨_,rfl,rfl,by dsimp only; omega,by dsimp only; omega,fun n hn=>?_⟩
        have hgi:=gap_iff hr hoi hn
        dsimp only
        rw [List.take_succ_eq_append_getElem hi]
        constructor
        · intro hle
          obtain ⟨q1,q2⟩:=(ht n hn).1 (by omega)
          refine ⟨q1,fun o ho=>?_⟩
          rcases List.mem_append.1 ho with ho | ho
          · exact q2 o ho
          · rw [List.mem_singleton.1 ho]; exact hgi.1 (by omega)
        · rintro ⟨q1, q2⟩
          have h1:=(ht n hn).2 ⟨q1,fun o ho=>q2 o (List.mem_append_left _ ho)⟩
          have h2:=hgi.2 (q2 _ (List.mem_append_right _ (List.mem_singleton.2 rfl)))
          omega) (fun t ⟨e,t0,t1,ht⟩=>by
        unfold ref20_Setback_L0
        rw [e,if_neg (by simp)]
        rw [List.take_length] at ht
        exact ⟨_,rfl,trivial,t0,t1,ht⟩) (g0,0) ⟨rfl,by dsimp only; omega,by dsimp only; omega,fun n hn=>by simp⟩ (out.length + 1) (by omega)
    rw [k1,Option.bind_some]
    cases f with
    | go _=>exact k2.elim
    | ret r=>exact k3.elim
    | ex j t =>
      obtain ⟨t0,t1,ht⟩:=k3
      dsimp only
      refine ⟨t.1,rfl,t0,by omega,fun n n0 n1=>?_⟩
      rcases Int.lt_or_le 0 n with hn | hn
      · rw [ht n hn]
        constructor
        · rintro ⟨q1, q2⟩
          refine .inr fun x y hxy=>?_
          have hxy':=hxy
          unfold rin grw at hxy'
          dsimp only at hxy'
          apply Decidable.byContradiction
          intro hc
          obtain ⟨o,ho,hin⟩:=(hf.cells x y).2 ((hS x y).2 ⟨by omega,hc⟩)
          exact q2 o ho x y hxy hin
        · intro hq
          have hg:=SQ_VR h.1 hr hn hq
          unfold VR grw at hg
          dsimp only at hg
          refine ⟨by omega,fun o ho x y hxy hin=>?_⟩
          rcases hq with hq | hq
          · omega
          · exact ((hS x y).1 ((hf.cells x y).1 ⟨o,ho,hin⟩)).2 (hq x y hxy)
      · exact ⟨fun _=>.inl hn,fun _=>by omega⟩
  · have har : ar a = [] := if_neg h
    rw [har]
    unfold ref20_Setback
    rw [rRight_false hl h,Option.bind_some,if_pos (by simp)]
    refine ⟨0,rfl,by omega,by omega,fun n n0 n1=>?_⟩
    constructor
    · intro hn; exact .inl hn
    · rintro (hn | hq)
      · exact hn
      · apply Decidable.byContradiction
        intro hc
        obtain ⟨s,hs,_⟩:=hq r.X0 r.Y0 (by unfold rin grw; dsimp only; omega)
        simp at hs
theorem esame_ent (a c f s h u b t:Int):ref20_Same (ent a c f s h u b t) (ent a c f s h u b t) = some true:=by
  rw [esame_eq (show (ent a c f s h u b t).length ≤ 1000000 by show 9 ≤ 1000000; omega),decide_eq_true rfl]
theorem rcells_arR {r:Rect} (h:VR r):ref20_cells r = some (arR r):=by rw [rcells_eq h,rect_Area_eq h]; rfl
theorem rOf_L0 {p:Plan} (hp:PlanS p) {lot:Lot} (hla:lot.Area.length ≤ 100000) {V:List Volume} (hV : ∀ v ∈ V,RV v) (hVl:V.length ≤ 40) :
    ∃ B i,SB (ar lot.Area) (bs V) B∧iterL (ref20_Of_L0 p lot V) (V.length + 1) (([]:List Rect),0,0,0,0,0,1048576,0) = some (.ex 0 (bs V,sumL flo V,maxL sto V,maxL (fun v=>v.Box.Z1) V,sumL (fun v=>v.Units) V,sumL (tra p) V,B,i)):=by
  obtain ⟨f,k1,k2,k3⟩:=loop_up (body:=ref20_Of_L0 p lot V) (fun i t=>∃ B,SB (ar lot.Area) (bs (V.take i)) B∧t = (bs (V.take i),sumL flo (V.take i),maxL sto (V.take i),maxL (fun v=>v.Box.Z1) (V.take i),sumL (fun v=>v.Units) (V.take i),sumL (tra p) (V.take i),B,((i:Nat):Int))∧(0 ≤ sumL flo (V.take i)∧sumL flo (V.take i) ≤ 4503599627370496 * i)∧(0 ≤ sumL (fun v=>v.Units) (V.take i)∧sumL (fun v=>v.Units) (V.take i) ≤ 4503599627370496 * i)∧(0 ≤ sumL (tra p) (V.take i)∧sumL (tra p) (V.take i) ≤ 4503599627370496 * i)) V.length
    (fun f=>match f with | .ex j t=>j = 0∧∃ B i,SB (ar lot.Area) (bs V) B∧t = (bs V,sumL flo V,maxL sto V,maxL (fun v=>v.Box.Z1) V,sumL (fun v=>v.Units) V,sumL (tra p) V,B,i) | _=>False) (fun i t hi ⟨B,hB,e,⟨a0,a1⟩,⟨b0,b1⟩,c0,c1⟩=>by
      subst e
      have hv:=hV _ (List.getElem_mem hi)
      obtain ⟨S,s1,s2,s3,s4⟩:=rsetback hla hv.1
      obtain ⟨t1,t2,t3⟩:=tra_eq hp hv
      have f1:=flo_bd V[i]
      have hu:=hv
      unfold RV at hu
      have hlen:(bs (V.take i)).length ≤ 40:=by unfold bs; rw [List.length_map,List.length_take]; omega
      have m1:=maxL_nonneg sto (V.take i)
      have m2:=maxL_nonneg (fun v:Volume=>v.Box.Z1) (V.take i)
      unfold ref20_Of_L0
      dsimp only
      rw [if_pos (by simpa using hi)]
      simp only [getI_nat hi,Option.bind_some]
      rw [appI_some (by simp only [List.length_singleton]; omega),Option.bind_some,rfloor_eq,flo_eq,Option.bind_some,addI_some (by unfold inI; omega),Option.bind_some,rstoreys_eq,sto_eq,Option.bind_some,addI_some (by unfold inI; omega),Option.bind_some,rtraffic_eq hp hu.2.2.2.2.1 hu.2.2.2.2.2.1,t1,Option.bind_some,addI_some (by unfold inI; omega),Option.bind_some,s1,Option.bind_some,addI_one (by omega)]
      refine .inl ⟨_,rfl,min B S,?_,?_,?_,?_,?_⟩
      · have hS : SB (ar lot.Area) [V[i].Box.Base] S := ⟨s2, s3, fun n n0 n1 => by rw [s4 n n0 n1]; simp⟩
        have:=hB.min hS
        rw [List.take_succ_eq_append_getElem hi]
        unfold bs at this ⊢
        rw [List.map_append]
        exact this
      · have e1 : bs (V.take (i + 1)) = bs (V.take i) ++ [V[i].Box.Base] := by
          unfold bs
          rw [List.take_succ_eq_append_getElem hi,List.map_append]; rfl
        rw [e1,sumL_snoc hi,sumL_snoc hi,sumL_snoc hi,List.take_succ_eq_append_getElem hi,maxL_append,maxL_append]
        have q1:=(sto_bd V[i]).1
        have z1:max (maxL sto (V.take i)) (maxL sto [V[i]]) = max (maxL sto (V.take i)) (sto V[i]):=by simp only [maxL]; omega
        have z2:max (maxL (fun v:Volume=>v.Box.Z1) (V.take i)) (maxL (fun v:Volume=>v.Box.Z1) [V[i]]) = max (maxL (fun v:Volume=>v.Box.Z1) (V.take i)) V[i].Box.Z1:=by simp only [maxL]; omega
        rw [z1,z2]
      · rw [sumL_snoc hi]; omega
      · rw [sumL_snoc hi]; omega
      · rw [sumL_snoc hi]; omega) (fun t ⟨B,hB,e,_⟩=>by
      subst e
      unfold ref20_Of_L0
      dsimp only
      rw [if_neg (by simp)]
      rw [List.take_length] at hB ⊢
      exact ⟨_,rfl,trivial,rfl,B,_,hB,rfl⟩) (([]:List Rect),0,0,0,0,0,1048576,0) ⟨1048576,SB_nil _,rfl,⟨by simp [sumL],by simp [sumL]⟩,⟨by simp [sumL],by simp [sumL]⟩,by simp [sumL],by simp [sumL]⟩ (V.length + 1) (by omega)
  cases f with
  | go _=>exact k2.elim
  | ret r=>exact k3.elim
  | ex j t=>obtain ⟨rfl,B,i,hB,rfl⟩:=k3; exact ⟨B,i,hB,k1⟩
theorem rOf_L1 {l:List Rect} (hv : ∀ r ∈ l,VR r) (hb:0 ≤ areaL l∧areaL l ≤ 1099511627776) : ∃ i,iterL (ref20_Of_L1 l) (l.length + 1) (0,0) = some (.ex 2 (areaL l,i)):=by
  have hlen:=len_area hv
  have hpos : ∀ r ∈ l,0 ≤ arR r:=fun r hr=>(arR_bd (hv r hr)).1
  have hal:areaL l = sumL arR l:=rfl
  obtain ⟨f,k1,k2,k3⟩:=loop_up (body:=ref20_Of_L1 l) (fun i t=>t = (sumL arR (l.take i),((i:Nat):Int))) l.length
    (fun f=>match f with | .ex j t=>j = 2∧∃ i,t = (areaL l,i) | _=>False) (fun i t hi e=>by
      subst e
      have hp:=sumL_prefix hpos (i + 1)
      rw [sumL_snoc hi] at hp
      have hp0:=sumL_prefix hpos i
      unfold ref20_Of_L1
      dsimp only
      rw [if_pos (by simpa using hi),getI_nat hi,Option.bind_some,rcells_arR (hv _ (List.getElem_mem hi)),Option.bind_some,addI_some (by unfold inI; omega),Option.bind_some,addI_one (by omega)]
      exact .inl ⟨_,rfl,by rw [sumL_snoc hi]⟩) (fun t e=>by
      subst e
      unfold ref20_Of_L1
      dsimp only
      rw [if_neg (by simp),List.take_length]
      exact ⟨_,rfl,trivial,rfl,_,rfl⟩) (0,0) rfl (l.length + 1) (by omega)
  cases f with
  | go _=>exact k2.elim
  | ret r=>exact k3.elim
  | ex j t=>obtain ⟨rfl,i,rfl⟩:=k3; exact ⟨i,k1⟩
theorem rof_eq {p:Plan} {lot:Lot} {d:Drawing} (hp:PlanS p) (hph:d.Phases.length ≤ 100000) (hl:(allV d).length ≤ 1000000) (hla:lot.Area.length ≤ 100000):ref20_Of p lot d = measure_Of p lot d:=by
  obtain ⟨B,hB,h⟩:=of_eq hp hph hl hla
  rw [h]
  have hV:=vols_RV (d:=d)
  have hVl:=vols_len d
  unfold ref20_Of
  rw [rvols hph hl,Option.bind_some]
  generalize vols d = V at *
  obtain ⟨C,i,hC,k1⟩:=rOf_L0 hp hla hV hVl
  obtain rfl:=hB.unique hC fun _=>Iff.rfl
  rw [show V.length + ([]:List Rect).length + 1 = V.length + 1 from rfl,k1,Option.bind_some]
  dsimp only
  obtain ⟨out,ho,hf⟩:=Form_or (l:=bs V) (bs_VR hV) (by unfold bs; rw [List.length_map]; omega)
  have hov:=VR_form (bs_VR hV) hf
  obtain ⟨j,k2⟩:=rOf_L1 hov (area_bound hf hov)
  rw [ho,Option.bind_some,k2,Option.bind_some]
  dsimp only
  rw [rArea6_ar hla,Option.bind_some]
  have hc:=covM_eq (M:=1048576) hov hf rfl
  simp only [ent,hc]
theorem tells_L0 {p:Plan} {c:Cap} (hp:PlanS p) {l:List Volume} (hl:l.length ≤ 1000000) : ∃ i,iterL (law20_MeasureTells_L0 p c l) (l.length + 1) 0 = some (.ex 0 i):=by
  obtain ⟨f,k1,k2,k3⟩:=loop_up (body:=law20_MeasureTells_L0 p c l) (fun i t=>t = ((i:Nat):Int)) l.length
    (fun f=>match f with | .ex j t=>j = 0 | _=>False) (fun i t hi e=>by
      subst e
      obtain ⟨n,hn,_⟩:=load_total (c:=c) (v:=l[i]) hp
      unfold law20_MeasureTells_L0
      rw [if_pos (by simpa using hi)]
      have hg:=getI_nat hi
      have q1:measure_Storeys l[i] = some (sto l[i]):=sto_eq _
      have q2:ref20_Storeys l[i] = some (sto l[i]):=(rstoreys_eq _).trans (sto_eq _)
      have q3:measure_Floor l[i] = some (flo l[i]):=flo_eq _
      have q4:ref20_Floor l[i] = some (flo l[i]):=(rfloor_eq _).trans (flo_eq _)
      have q5:ref20_Load p c l[i] = some n:=(rload_all hp).trans hn
      rw [hg,Option.bind_some,q1,Option.bind_some,Option.bind_some,q2,Option.bind_some,if_neg (show ¬ ((sto l[i] != sto l[i]) = true) by simp),Option.bind_some,q3,Option.bind_some,Option.bind_some,q4,Option.bind_some,Option.bind_some,if_neg (show ¬ ((flo l[i] != flo l[i]) = true) by simp),Option.bind_some,hn,Option.bind_some,Option.bind_some,q5,Option.bind_some,Option.bind_some,if_neg (show ¬ ((n != n) = true) by simp),addI_one (by omega)]
      exact .inl ⟨_,rfl,rfl⟩) (fun t e=>by
      subst e
      unfold law20_MeasureTells_L0
      rw [if_neg (by simp)]
      exact ⟨_,rfl,trivial,rfl⟩) 0 rfl (l.length + 1) (by omega)
  cases f with
  | go _=>exact k2.elim
  | ret r=>exact k3.elim
  | ex j t=>subst k3; exact ⟨t,k1⟩
theorem law_MeasureTells (p:Plan) (lot:Lot) (d:Drawing) (c:Cap) (hd:d.Phases.length ≤ reachLen) (hv : ∀ x ∈ d.Phases,x.Volumes.length ≤ reachLen) (hT:p.Tables.length ≤ reachLen):law20_MeasureTells p lot d c = some true:=by
  obtain ⟨b,hb,hbs⟩:=few20 p lot d hd hv hT
  unfold law20_MeasureTells
  rw [small_true,Option.bind_some,hb,Option.bind_some]
  split
  · rfl
  · rename_i hn
    simp at hn
    obtain ⟨hp,h1,h2,h3⟩:=hbs hn.1
    rw [volumesM (by omega) (by omega) (Int.le_refl _),Option.bind_some]
    obtain ⟨i,hi⟩:=tells_L0 (c:=c) hp (l:=allV d) (by omega)
    rw [hi,Option.bind_some]
    dsimp only
    obtain ⟨B,hB,h⟩:=of_eq (lot:=lot) (d:=d) hp (by omega) (by omega) (by omega)
    rw [if_pos rfl,rof_eq hp (by omega) (by omega) (by omega),h,Option.bind_some,Option.bind_some,esame_ent]
    rfl
end Go.Proofs.YtagkmlkhaekldaaGreat

