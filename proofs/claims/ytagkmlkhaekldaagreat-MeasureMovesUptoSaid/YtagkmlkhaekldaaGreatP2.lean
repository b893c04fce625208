/- The plain part of the proof (no program in sight), part 2 -/
import Derived.Test.YtagkmlkhaekldaaGreatP1
namespace Go.Proofs.YtagkmlkhaekldaaGreat
open Go.Gb
set_option linter.unusedVariables false
set_option linter.unusedSimpArgs false
set_option linter.unusedSectionVars false
set_option linter.unusedVariables false
set_option linter.unusedSimpArgs false
set_option maxRecDepth 100000

def swpS (x w:Int) (b:Rect) (s:Int × Int):Int × Int:=if (b.X0 ≤ x∧x < b.X1)∧s.2 < b.Y1 then (s.1 + w * (b.Y1 - max s.2 b.Y0),b.Y1) else s
theorem swp_snoc (x w:Int) (b:Rect) : ∀ (l:List Rect) (s:Int × Int),swp x w (l ++ [b]) s = swpS x w b (swp x w l s)
  | [],s=>rfl
  | c :: l, s => by
    rw [List.cons_append]
    unfold swp
    exact swp_snoc x w b l _
theorem swp_y (x w:Int) : ∀ (l:List Rect) (s:Int × Int),(∀ r ∈ l,VR r) → 0 ≤ s.2 → s.2 ≤ 1048576 → 0 ≤ (swp x w l s).2∧(swp x w l s).2 ≤ 1048576
  | [],s,_,h0,h1=>⟨h0,h1⟩
  | b :: l, s, hv, h0, h1 => by
    unfold swp
    have hb:=hv b (by simp)
    unfold VR at hb
    split
    · exact swp_y x w l _ (fun r hr=>hv r (by simp [hr])) (by dsimp only; omega) (by dsimp only; omega)
    · exact swp_y x w l _ (fun r hr=>hv r (by simp [hr])) h0 h1
theorem mul_bd {a b:Int} (h0:0 ≤ a) (h1:a ≤ 1048576) (g0:0 ≤ b) (g1:b ≤ 1048576):0 ≤ a * b∧a * b ≤ 1099511627776:=
  ⟨Int.mul_nonneg h0 g0,Int.mul_le_mul (c:=1048576) (d:=1048576) h1 g1 g0 (by decide)⟩
theorem cover_L2 {bs:List Rect} {xs:List Int} {n:Int} {m:Nat} (hbv : ∀ r ∈ bs,VR r) (hs:bs.Pairwise fun a b=>a.Y0 ≤ b.Y0) (hb:bs.length ≤ 1000) (hm:m + 1 < xs.length) (hx : ∀ x ∈ xs,0 ≤ x∧x ≤ 1048576)
    (hle:(xs[m]'(by omega)) ≤ xs[m + 1]) (hml:m ≤ 100000) (hn:0 ≤ n∧n ≤ 109951162777600000) :
    ∃ t,iterL (measure_site_cover_L2 bs xs (n,(m:Int))) (bs.length + 1) (n,0,0) = some (.ex 4 t)∧t.1 = n + (xs[m + 1] - (xs[m]'(by omega))) * colM bs 1048576 (xs[m]'(by omega)) 0:=by
  generalize hM:(1048576:Nat) = M
  have hx0:=hx _ (List.getElem_mem (show m < xs.length by omega))
  have hx1:=hx _ (List.getElem_mem hm)
  have gm:=getI_nat (l:=xs) (show m < xs.length by omega)
  have gm1:=getI_nat (l:=xs) hm
  generalize (xs[m]'(by omega)) = x at *
  generalize xs[m + 1] = z at *
  obtain ⟨f,k1,k2,k3⟩:=loop_up (body:=measure_site_cover_L2 bs xs (n,(m:Int))) (fun j t=>t.2.2 = ((j:Nat):Int)∧(t.1,t.2.1) = swp x (z - x) (bs.take j) (n,0)) bs.length
    (fun f=>match f with | .ex i t=>i = 4∧t.1 = n + (z - x) * colM bs M x 0 | _=>False) (fun j t hj ⟨e,h⟩=>by
      obtain ⟨t1,t2,t3⟩:=t
      dsimp only at e h
      subst e
      have hvj:=hbv _ (List.getElem_mem hj)
      have hvt : ∀ r ∈ bs.take j,VR r:=fun r hr=>hbv r (List.mem_of_mem_take hr)
      have hsp:=swp_spec (x:=x) (w:=z - x) hM.symm hvt (hs.sublist (List.take_sublist j bs)) (s:=(n,0)) (Int.le_refl _)
      have hy:=swp_y x (z - x) (bs.take j) (n,0) hvt (by dsimp only; omega) (by dsimp only; omega)
      rw [← h] at hsp hy
      dsimp only at hsp hy
      have hcb:=colM_bounds (bs.take j) M x 0
      have hpb:=mul_bd (a:=z - x) (b:=colM (bs.take j) M x 0) (by omega) (by omega) hcb.1 (by omega)
      have hv:=hvj
      unfold VR at hv
      have e2:swp x (z - x) (bs.take (j + 1)) (n,0) = swpS x (z - x) bs[j] (t1,t2):=by rw [List.take_succ_eq_append_getElem hj,swp_snoc,← h]
      unfold measure_site_cover_L2
      dsimp only
      rw [if_pos (by simpa using hj),getI_nat hj,Option.bind_some,gm,Option.bind_some]
      have q1:(if (decide (bs[j].X0 ≤ x)) = true then (some x).bind fun y=>some (decide (y < bs[j].X1)) else some false) = some (decide (bs[j].X0 ≤ x∧x < bs[j].X1)):=by
        by_cases c:bs[j].X0 ≤ x <;> simp [c]
      rw [q1,Option.bind_some]
      by_cases c:(bs[j].X0 ≤ x∧x < bs[j].X1)∧t2 < bs[j].Y1
      · have hpw := mul_bd (a := z - x) (b := bs[j].Y1 - max t2 bs[j].Y0) (by omega) (by omega) (by omega) (by omega)
        rw [if_pos (by simp only [Bool.and_eq_true,decide_eq_true_eq]; exact c),addI_one (by omega),Option.bind_some,gm1,Option.bind_some,Option.bind_some,subI_some (by unfold inI; omega),Option.bind_some,subI_some (by unfold inI; omega),Option.bind_some,mulI_some (by unfold inI; omega),Option.bind_some,addI_some (by unfold inI; omega),Option.bind_some,Option.bind_some,addI_one (by omega)]
        refine .inl ⟨_,rfl,rfl,?_⟩
        rw [e2]
        unfold swpS
        rw [if_pos c]
      · rw [if_neg (by simp only [Bool.and_eq_true, decide_eq_true_eq]; exact c), Option.bind_some, addI_one (by omega)]
        refine .inl ⟨_,rfl,rfl,?_⟩
        rw [e2]
        unfold swpS
        rw [if_neg c]) (fun t ⟨e,h⟩=>by
      obtain ⟨t1,t2,t3⟩:=t
      dsimp only at e h
      subst e
      unfold measure_site_cover_L2
      dsimp only
      rw [if_neg (by simp)]
      rw [List.take_length] at h
      have hsp:=swp_spec (x:=x) (w:=z - x) hM.symm hbv hs (s:=(n,0)) (Int.le_refl _)
      rw [← h] at hsp
      exact ⟨_,rfl,trivial,rfl,hsp⟩) (n,0,0) ⟨rfl,rfl⟩ (bs.length + 1) (by omega)
  cases f with
  | go _=>exact k2.elim
  | ret r=>exact k3.elim
  | ex i t=>obtain ⟨rfl,k3⟩:=k3; exact ⟨t,k1,k3⟩
theorem strips_snoc2 (l:List Rect) (M:Nat) (a b:Int) : ∀ t:List Int,strips l M (t ++ [a,b]) = strips l M (t ++ [a]) + (b - a) * colM l M a 0
  | []=>by show (b - a) * colM l M a 0 + 0 = 0 + _; omega
  | [c]=>by show (a - c) * colM l M c 0 + ((b - a) * colM l M a 0 + 0) = (a - c) * colM l M c 0 + 0 + (b - a) * colM l M a 0; omega
  | c :: d :: t => by
    have ih:=strips_snoc2 l M a b (d::t)
    show (d - c) * colM l M c 0 + strips l M (d::t ++ [a,b]) = (d - c) * colM l M c 0 + strips l M (d::t ++ [a]) + _
    rw [ih]; omega
theorem strips_take {l:List Rect} {M:Nat} {xs:List Int} {m:Nat} (h:m + 1 < xs.length):strips l M (xs.take (m + 2)) = strips l M (xs.take (m + 1)) + (xs[m + 1] - (xs[m]'(by omega))) * colM l M (xs[m]'(by omega)) 0:=by
  rw [List.take_succ_eq_append_getElem (i:=m + 1) h,List.take_succ_eq_append_getElem (i:=m) (by omega),List.append_assoc]
  exact strips_snoc2 l M _ _ _
def ends2 (l:List Rect):List Int:=l.flatMap fun r=>[r.X0,r.X1]
theorem ends2_len (l:List Rect):(ends2 l).length = 2 * l.length:=by
  unfold ends2
  induction l with
  | nil=>rfl
  | cons r l ih=>rw [List.flatMap_cons,List.length_append,ih,List.length_cons]; simp; omega
theorem cover_L0 {s:MeasureSite} (hl:s.volumes.length ≤ 1000) : ∃ i,iterL (measure_site_cover_L0 s) (s.volumes.length + 1) (([]:List Int),List.replicate s.volumes.length (⟨0,0,0,0⟩:Rect),0) = some (.ex 0 (ends2 (s.volumes.map fun v=>v.Box.Base),s.volumes.map (fun v=>v.Box.Base),i)):=by
  obtain ⟨f,k1,k2,k3⟩:=loop_up (body:=measure_site_cover_L0 s) (fun i t=>t.2.2 = ((i:Nat):Int)∧t.2.1.length = s.volumes.length∧t.2.1.take i = (s.volumes.take i).map (fun v=>v.Box.Base)∧t.1 = ends2 ((s.volumes.take i).map fun v=>v.Box.Base)) s.volumes.length
    (fun f=>match f with | .ex j t=>j = 0∧t.1 = ends2 (s.volumes.map fun v=>v.Box.Base)∧t.2.1 = s.volumes.map (fun v=>v.Box.Base) | _=>False) (fun i t hi ⟨e,h1,h2,h3⟩=>by
      obtain ⟨t1,t2,t3⟩:=t
      dsimp only at e h1 h2 h3
      subst e
      have hi2:i < t2.length:=by omega
      have hset:i < (t2.set i s.volumes[i].Box.Base).length:=by rw [List.length_set]; exact hi2
      have hg:getI (t2.set i s.volumes[i].Box.Base) (i:Int) = some s.volumes[i].Box.Base:=by
        rw [getI_nat hset,List.getElem_set_self]
      have hlen:t1.length ≤ 2000:=by rw [h3,ends2_len,List.length_map,List.length_take]; omega
      unfold measure_site_cover_L0
      dsimp only
      rw [if_pos (by simpa using hi),getI_nat hi,Option.bind_some,getI_nat hi2,Option.bind_some,Option.bind_some,Int.toNat_natCast,hg,Option.bind_some,Option.bind_some,appI_some (by simp; omega),Option.bind_some,addI_one (by omega)]
      refine .inl ⟨_,rfl,rfl,by dsimp only; rw [List.length_set]; exact h1,?_,?_⟩
      · dsimp only
        rw [List.take_succ_eq_append_getElem hset,List.getElem_set_self,List.take_set_of_le (Nat.le_refl _),h2,List.take_succ_eq_append_getElem hi,List.map_append]
        rfl
      · dsimp only
        rw [List.take_succ_eq_append_getElem hi,List.map_append]
        unfold ends2
        rw [List.flatMap_append,h3]
        rfl) (fun t ⟨e,h1,h2,h3⟩=>by
      unfold measure_site_cover_L0
      rw [e,if_neg (by simp)]
      rw [List.take_length] at h2 h3
      rw [← h1,List.take_length] at h2
      exact ⟨_,rfl,trivial,rfl,h3,h2⟩) ([],List.replicate s.volumes.length ⟨0,0,0,0⟩,0) ⟨rfl,by simp,by simp,rfl⟩ (s.volumes.length + 1) (by omega)
  rw [k1]
  cases f with
  | go _=>exact k2.elim
  | ret r=>exact k3.elim
  | ex j t =>
    obtain ⟨rfl,h1,h2⟩:=k3
    obtain ⟨t1,t2,t3⟩:=t
    dsimp only at h1 h2
    subst h1 h2
    exact ⟨_,rfl⟩
theorem cover_eq {s:MeasureSite} (hv : ∀ v ∈ s.volumes,VR v.Box.Base) (hl:s.volumes.length ≤ 1000):measure_site_cover s = some (covM (s.volumes.map fun v=>v.Box.Base) 1048576):=by
  unfold measure_site_cover
  obtain ⟨i0,h0⟩:=cover_L0 hl
  rw [makeI_some (by omega),Option.bind_some,h0,Option.bind_some]
  dsimp only
  have hbl:(s.volumes.map fun v=>v.Box.Base).length ≤ 1000:=by rw [List.length_map]; exact hl
  have hbv : ∀ r ∈ s.volumes.map (fun v => v.Box.Base), VR r := fun r hr => by obtain ⟨v, hv', rfl⟩ := List.mem_map.1 hr; exact hv v hv'
  generalize s.volumes.map (fun v=>v.Box.Base) = B at hbl hbv
  obtain ⟨bs,b1,b2,b3⟩:=sortRects_spec (l:=B) (by omega)
  obtain ⟨xs,x1,x2,x3⟩:=sortInts_spec (l:=ends2 B) (by rw [ends2_len]; omega)
  rw [b1,Option.bind_some,x1,Option.bind_some]
  have hxl:xs.length ≤ 2000:=by rw [x2.length_eq,ends2_len]; omega
  have hmem : ∀ x,x ∈ xs ↔ ∃ r ∈ B,x = r.X0 ∨ x = r.X1:=fun x=>by rw [x2.mem_iff]; unfold ends2; simp
  have hx : ∀ x ∈ xs,0 ≤ x∧x ≤ 1048576:=fun x h=>by
    obtain ⟨r,hr,h⟩:=(hmem x).1 h
    have:=hbv r hr
    unfold VR at this
    omega
  have hbv' : ∀ r ∈ bs,VR r:=fun r hr=>hbv r (b2.mem_iff.1 hr)
  have hbsl:bs.length ≤ 1000:=by rw [b2.length_eq]; exact hbl
  rw [subI_some (by unfold inI; omega),Option.bind_some]
  generalize hM:(1048576:Nat) = M at *
  have hcov:strips bs M xs = covM B M:=by
    rw [strips_cov hM.symm hbv' x3 hx (fun r hr=>⟨(hmem _).2 ⟨r,b2.mem_iff.1 hr,.inl rfl⟩,(hmem _).2 ⟨r,b2.mem_iff.1 hr,.inr rfl⟩⟩),covM_perm b2]
  have hN:max 0 ((xs.length:Int) - 1) = ((xs.length - 1:Nat):Int):=by omega
  obtain ⟨f,k1,k2,k3⟩:=loop_up (body:=measure_site_cover_L1 bs xs ((xs.length:Int) - 1)) (fun m t=>t.2 = ((m:Nat):Int)∧t.1 = strips bs M (xs.take (m + 1))∧0 ≤ t.1∧t.1 ≤ 1099511627776 * m) (xs.length - 1)
    (fun f=>match f with | .ex i t=>t.1 = strips bs M (xs.take (xs.length - 1 + 1)) | _=>False) (fun m t hm ⟨e,h,g0,g1⟩=>by
      obtain ⟨t1,t2⟩:=t
      dsimp only at e h g0 g1
      subst e
      have hm1:m + 1 < xs.length:=by omega
      obtain ⟨u,hu,hu1⟩:=cover_L2 (n:=t1) hbv' b3 hbsl hm1 hx (List.pairwise_iff_getElem.1 x3 m (m + 1) (by omega) hm1 (by omega)) (by omega) (by omega)
      have hx0:=hx _ (List.getElem_mem (show m < xs.length by omega))
      have hx1:=hx _ (List.getElem_mem hm1)
      have hxx:=List.pairwise_iff_getElem.1 x3 m (m + 1) (by omega) hm1 (by omega)
      rw [hM] at hu1
      have hcb:=colM_bounds bs M (xs[m]'(by omega)) 0
      have hpb:=mul_bd (a:=xs[m + 1] - (xs[m]'(by omega))) (b:=colM bs M (xs[m]'(by omega)) 0) (by omega) (by omega) hcb.1 (by omega)
      unfold measure_site_cover_L1
      dsimp only
      rw [hN,if_pos (by simpa using hm),hu,Option.bind_some]
      dsimp only
      rw [addI_one (by omega)]
      exact .inl ⟨_,rfl,rfl,by dsimp only; rw [strips_take hm1,hu1,h],by dsimp only; omega,by dsimp only; omega⟩) (fun t ⟨e,h,_⟩=>by
      unfold measure_site_cover_L1
      rw [e,hN,if_neg (by simp)]
      exact ⟨_,rfl,trivial,h⟩) (0,0) ⟨rfl,by
        cases xs with
        | nil=>rfl
        | cons a t=>rfl,by simp,by simp⟩ ((max 0 ((xs.length:Int) - 1)).toNat + 1) (by omega)
  rw [k1,Option.bind_some]
  cases f with
  | go _=>exact k2.elim
  | ret r=>exact k3.elim
  | ex i t =>
    dsimp only at k3 ⊢
    rw [k3,List.take_of_length_le (by omega),hcov]
end Go.Proofs.YtagkmlkhaekldaaGreat

namespace Go.Proofs.YtagkmlkhaekldaaGreat
open Go.Gb
set_option linter.unusedVariables false
set_option linter.unusedSimpArgs false
set_option linter.unusedSectionVars false
set_option linter.unusedVariables false
set_option linter.unusedSimpArgs false
set_option maxRecDepth 100000

def sto (v:Volume):Int:=if v.Extra = false∧RV v then (v.Box.Z1 - v.Box.Z0 + 2) / 3 else 0
def arR (r:Rect):Int:=(r.X1 - r.X0) * (r.Y1 - r.Y0)
def flo (v:Volume):Int:=if RV v then arR v.Box.Base * sto v else 0
theorem sto_eq (v:Volume):measure_Storeys v = some (sto v):=by
  unfold measure_Storeys sto
  rw [rv_eq]
  by_cases he:v.Extra = true
  · rw [if_pos he,Option.bind_some,if_pos rfl,if_neg (by simp [he])]
  · have he' : v.Extra = false := by simpa using he
    rw [if_neg he,Option.bind_some,Option.bind_some]
    by_cases h:RV v
    · have hr := h
      unfold RV at hr
      rw [decide_eq_true h, if_neg (by simp), if_pos ⟨he', h⟩, subI_some (by unfold inI; omega), Option.bind_some, addI_some (by unfold inI; omega), Option.bind_some, subI_some (by unfold inI; omega), Option.bind_some, quoI_pos (by omega) (by omega) (by omega), Option.bind_some, show v.Box.Z1 - v.Box.Z0 + 3 - 1 = v.Box.Z1 - v.Box.Z0 + 2 by omega]
    · rw [decide_eq_false h,if_pos (by simp),if_neg (fun g=>h g.2)]
theorem sto_bd (v:Volume):0 ≤ sto v∧sto v ≤ 1366:=by
  unfold sto
  split
  · rename_i h
    have hr:=h.2
    unfold RV at hr
    omega
  · decide
theorem arR_bd {r:Rect} (h:VR r):0 ≤ arR r∧arR r ≤ 1099511627776:=rect_area_bound h
theorem flo_bd (v:Volume):0 ≤ flo v∧flo v ≤ 4503599627370496:=by
  unfold flo
  split
  · rename_i h
    have h1:=arR_bd h.1
    have h2:=sto_bd v
    refine ⟨Int.mul_nonneg h1.1 h2.1,?_⟩
    have:=Int.mul_le_mul (c:=arR v.Box.Base) (d:=(1366:Int)) (a:=arR v.Box.Base) (b:=sto v) (Int.le_refl _) h2.2 h2.1 h1.1
    omega
  · decide
theorem flo_eq (v:Volume):measure_Floor v = some (flo v):=by
  have hb:=flo_bd v
  unfold measure_Floor
  rw [rv_eq,Option.bind_some,sto_eq]
  by_cases h:RV v
  · unfold flo at hb ⊢
    rw [if_pos h] at hb ⊢
    rw [decide_eq_true h,if_neg (by simp),rect_Area_eq h.1,Option.bind_some,Option.bind_some]
    unfold arR at hb ⊢
    rw [mulI_some (by unfold inI; omega),Option.bind_some]
  · unfold flo
    rw [decide_eq_false h,if_pos (by simp),if_neg h]
noncomputable def tra (p:Plan) (v:Volume):Int:=(measure_traffic p v).getD 0
theorem tra_eq {p:Plan} (hp:PlanS p) {v:Volume} (h:RV v):measure_traffic p v = some (tra p v)∧0 ≤ tra p v∧tra p v ≤ 1099511627776:=by
  unfold RV at h
  obtain ⟨n,h1,h2,h3⟩:=traffic_tot (v:=v) hp (by omega) (by omega)
  unfold tra
  rw [h1]
  exact ⟨rfl,h2,h3⟩
open Classical in
noncomputable def ar (l:List Rect):List Rect:=if RR l then l else []
theorem ar_RR (l:List Rect):RR (ar l):=by
  unfold ar
  split
  · rename_i h; exact h
  · exact RR_nil
def vols (d:Drawing):List Volume:=((allV d).take 40).filter fun v=>decide (RV v)
theorem vols_RV {d:Drawing} : ∀ v ∈ vols d,RV v:=fun v hv=>by
  have:=(List.mem_filter.1 hv).2
  exact of_decide_eq_true this
theorem vols_len (d:Drawing):(vols d).length ≤ 40:=by
  unfold vols
  have:=List.length_filter_le (fun v=>decide (RV v)) ((allV d).take 40)
  rw [List.length_take] at this
  omega
abbrev bs (l:List Volume):List Rect:=l.map fun v=>v.Box.Base
theorem bs_VR {l:List Volume} (h : ∀ v ∈ l,RV v) : ∀ r ∈ bs l,VR r:=fun r hr=>by
  obtain ⟨v,hv,rfl⟩:=List.mem_map.1 hr
  exact (h v hv).1
def ent (a c f s h u b t:Int):List Entry:=[⟨⟨#[97,114,101,97]⟩,a⟩,⟨⟨#[99,111,118,101,114]⟩,c⟩,⟨⟨#[102,108,111,111,114]⟩,f⟩,⟨⟨#[102,108,111,111,114,115]⟩,s⟩,⟨⟨#[104,101,105,103,104,116]⟩,h⟩,⟨⟨#[104,111,109,101,115]⟩,u⟩,⟨⟨#[114,117,110,111,102,102]⟩,c⟩,⟨⟨#[115,101,116,98,97,99,107]⟩,b⟩,⟨⟨#[116,114,97,102,102,105,99]⟩,t⟩]
theorem mOf_L0 {p:Plan} {A:List Rect} {vs:List Volume} (hl:vs.length ≤ 1000000) : ∃ i,iterL (measure_Of_L0 vs) (vs.length + 1) (⟨p,A,[]⟩,0) = some (.ex 0 (⟨p,A,(vs.take 40).filter (fun v=>decide (RV v))⟩,i)):=by
  obtain ⟨f,k1,k2,k3⟩:=loop_up (body:=measure_Of_L0 vs) (fun i t=>t.2 = ((i:Nat):Int)∧t.1 = ⟨p,A,((vs.take 40).take i).filter (fun v=>decide (RV v))⟩) vs.length
    (fun f=>match f with | .ex j t=>j = 0∧t.1 = ⟨p,A,(vs.take 40).filter (fun v=>decide (RV v))⟩ | _=>False) (fun i t hi ⟨e,h⟩=>by
      obtain ⟨t1,t2⟩:=t
      dsimp only at e h
      subst e h
      have hlen:(((vs.take 40).take i).filter (fun v=>decide (RV v))).length ≤ 40:=by
        have h1:=List.length_filter_le (fun v=>decide (RV v)) ((vs.take 40).take i)
        rw [List.length_take,List.length_take] at h1
        omega
      unfold measure_Of_L0
      dsimp only
      rw [if_pos (by simpa using hi),getI_nat hi,Option.bind_some]
      by_cases c:i < 40
      · have hi4 : i < (vs.take 40).length := by rw [List.length_take]; omega
        have e2:(vs.take 40).take (i + 1) = (vs.take 40).take i ++ [vs[i]]:=by
          rw [List.take_succ_eq_append_getElem hi4,List.getElem_take]
        rw [if_pos (by simp; omega),rv_eq,Option.bind_some,Option.bind_some]
        by_cases r:RV vs[i]
        · rw [decide_eq_true r, if_pos rfl, appI_some (by simp; omega), Option.bind_some, Option.bind_some, addI_one (by omega)]
          exact .inl ⟨_,rfl,rfl,by dsimp only; rw [e2,List.filter_append]; simp [r]⟩
        · rw [decide_eq_false r, if_neg (by simp), Option.bind_some, addI_one (by omega)]
          exact .inl ⟨_,rfl,rfl,by dsimp only; rw [e2,List.filter_append]; simp [r]⟩
      · rw [if_neg (by simp; omega), Option.bind_some, if_neg (by simp), Option.bind_some, addI_one (by omega)]
        refine .inl ⟨_,rfl,rfl,?_⟩
        dsimp only
        have e4 : ∀ m,40 ≤ m → (vs.take 40).take m = vs.take 40:=fun m hm=>List.take_of_length_le (by rw [List.length_take]; omega)
        rw [e4 i (by omega),e4 (i + 1) (by omega)]) (fun t ⟨e,h⟩=>by
      unfold measure_Of_L0
      rw [e,if_neg (by simp)]
      rw [List.take_of_length_le (by rw [List.length_take]; omega)] at h
      exact ⟨_,rfl,trivial,rfl,h⟩) (⟨p,A,[]⟩,0) ⟨rfl,by simp⟩ (vs.length + 1) (by omega)
  rw [k1]
  cases f with
  | go _=>exact k2.elim
  | ret r=>exact k3.elim
  | ex j t =>
    obtain ⟨rfl,h1⟩:=k3
    obtain ⟨t1,t2⟩:=t
    dsimp only at h1
    subst h1
    exact ⟨_,rfl⟩
theorem mOf_L1 {t:MeasureSite} {a c f s h u b r:Int} (h0:measure_site_lot t = some a) (h1:measure_site_cover t = some c) (h2:measure_site_floor t = some f) (h3:measure_site_floors t = some s) (h4:measure_site_height t = some h) (h5:measure_site_homes t = some u) (h6:measure_site_setback t = some b) (h7:measure_site_traffic t = some r) :
    ∃ i,iterL (measure_Of_L1 t) 10 ([],0) = some (.ex 2 (ent a c f s h u b r,i)):=by
  have hE : ∀ (i:Nat) (hi:i < (ent a c f s h u b r).length),∃ w,getI measure_rows (i:Int) = some w∧w.of t = some ((ent a c f s h u b r)[i]'hi).N∧w.name = ((ent a c f s h u b r)[i]'hi).Name:=fun i hi=>match i,hi with
    | 0,_=>⟨_,rfl,h0,rfl⟩ | 1,_=>⟨_,rfl,h1,rfl⟩ | 2,_=>⟨_,rfl,h2,rfl⟩ | 3,_=>⟨_,rfl,h3,rfl⟩ | 4,_=>⟨_,rfl,h4,rfl⟩
    | 5,_=>⟨_,rfl,h5,rfl⟩ | 6,_=>⟨_,rfl,h1,rfl⟩ | 7,_=>⟨_,rfl,h6,rfl⟩ | 8,_=>⟨_,rfl,h7,rfl⟩ | n + 9,h=>absurd h (by show ¬ n + 9 < 9; omega)
  have hlen:(ent a c f s h u b r).length = 9:=rfl
  generalize ent a c f s h u b r = E at hE hlen
  obtain ⟨g,k1,k2,k3⟩:=loop_up (body:=measure_Of_L1 t) (fun i x=>x.2 = ((i:Nat):Int)∧x.1 = E.take i) 9
    (fun g=>match g with | .ex j x=>j = 2∧x.1 = E | _=>False) (fun i x hi ⟨e,hx⟩=>by
      obtain ⟨x1,x2⟩:=x
      dsimp only at e hx
      subst e
      obtain ⟨w,w1,w2,w3⟩:=hE i (by omega)
      have hle:x1.length ≤ 9:=by rw [hx,List.length_take]; omega
      unfold measure_Of_L1
      dsimp only
      rw [if_pos (by simp; omega),w1,Option.bind_some,w2,Option.bind_some,w3,appI_some (by simp; omega),Option.bind_some,addI_one (by omega)]
      refine .inl ⟨_,rfl,rfl,?_⟩
      dsimp only
      rw [List.take_succ_eq_append_getElem (by omega),hx]) (fun x ⟨e,hx⟩=>by
      unfold measure_Of_L1
      rw [e,if_neg (by simp)]
      rw [List.take_of_length_le (by omega)] at hx
      exact ⟨_,rfl,trivial,rfl,hx⟩) ([],0) ⟨rfl,by simp⟩ 10 (by omega)
  rw [k1]
  cases g with
  | go _=>exact k2.elim
  | ret r=>exact k3.elim
  | ex j x =>
    obtain ⟨rfl,e⟩:=k3
    obtain ⟨x1,x2⟩:=x
    dsimp only at e
    subst e
    exact ⟨_,rfl⟩
/-- All measures of a drawing. -/
theorem of_eq {p:Plan} {lot:Lot} {d:Drawing} (hp:PlanS p) (hph:d.Phases.length ≤ 100000) (hl:(allV d).length ≤ 1000000) (hla:lot.Area.length ≤ 100000) :
    ∃ B,SB (ar lot.Area) (bs (vols d)) B∧measure_Of p lot d = some (ent (areaL (ar lot.Area)) (covM (bs (vols d)) 1048576) (sumL flo (vols d)) (maxL sto (vols d)) (maxL (fun v=>v.Box.Z1) (vols d)) (sumL (fun v=>v.Units) (vols d)) B (sumL (tra p) (vols d))):=by
  have hV:=vols_RV (d:=d)
  have hVl:=vols_len d
  obtain ⟨i,hi⟩:=mOf_L0 (p:=p) (A:=ar lot.Area) hl
  unfold measure_Of
  have e0 : ∃ b,region_Right lot.Area = some b∧(if b = true then some (⟨p,lot.Area,[]⟩:MeasureSite) else some ⟨p,[],[]⟩) = some ⟨p,ar lot.Area,[]⟩:=by
    unfold ar
    by_cases h:RR lot.Area
    · exact ⟨true,region_Right_true h,by rw [if_pos rfl,if_pos h]⟩
    · exact ⟨false,region_Right_false hla h,by rw [if_neg (by simp),if_neg h]⟩
  obtain ⟨b,hb,he⟩:=e0
  rw [hb,Option.bind_some,he,Option.bind_some,volumesM hph hl (Int.le_refl _),Option.bind_some,hi,Option.bind_some]
  dsimp only
  rw [show List.filter (fun v=>decide (RV v)) (List.take 40 (allV d)) = vols d from rfl]
  have hR:=ar_RR lot.Area
  generalize ar lot.Area = A at hR
  generalize vols d = V at hV hVl
  obtain ⟨B,hB,hSB⟩:=setback_eq (s:=⟨p,A,V⟩) hR (fun v hv=>(hV v hv).1) (by dsimp only; omega)
  obtain ⟨j,hj⟩:=mOf_L1 (t:=⟨p,A,V⟩) (a:=areaL A) (c:=covM (bs V) 1048576) (f:=sumL flo V) (s:=maxL sto V) (h:=maxL (fun v=>v.Box.Z1) V) (u:=sumL (fun v=>v.Units) V) (b:=B) (r:=sumL (tra p) V)
    (by unfold measure_site_lot; dsimp only; rw [region_Area_fine hR]; rfl)
    (cover_eq (fun v hv=>(hV v hv).1) (by dsimp only; omega))
    (by unfold measure_site_floor; rw [site_sum (g:=flo) (by dsimp only; omega) fun v _=>⟨flo_eq v,flo_bd v⟩]; rfl)
    (by unfold measure_site_floors; rw [site_greatest (g:=sto) (by dsimp only; omega) fun v _=>sto_eq v]; rfl)
    (by unfold measure_site_height; rw [site_greatest (f:=measure_site__height_1) (g:=fun v=>v.Box.Z1) (by dsimp only; omega) fun v _=>rfl]; rfl)
    (by unfold measure_site_homes; rw [site_sum (f:=measure_site__homes_1) (g:=fun v=>v.Units) (by dsimp only; omega) fun v hv=>⟨rfl,by have:=hV v hv; unfold RV at this; omega⟩]; rfl)
    hB
    (by
      unfold measure_site_traffic
      rw [site_sum (g:=tra p) (by dsimp only; omega) fun v hv=>by
        obtain ⟨h1,h2,h3⟩:=tra_eq hp (hV v hv)
        refine ⟨?_,h2,by omega⟩
        unfold measure_site__traffic_1
        dsimp only
        rw [h1]; rfl]
      rfl)
  rw [hj,Option.bind_some]
  exact ⟨B,hSB,rfl⟩
end Go.Proofs.YtagkmlkhaekldaaGreat

namespace Go.Proofs.YtagkmlkhaekldaaGreat
open Go.Gb
set_option linter.unusedVariables false
set_option linter.unusedSimpArgs false
set_option linter.unusedSectionVars false
set_option linter.unusedVariables false
set_option linter.unusedSimpArgs false
set_option maxRecDepth 100000

def sqr (r:Rect):List Point:=[⟨r.X0,r.Y0⟩,⟨r.X1,r.Y0⟩,⟨r.X1,r.Y1⟩,⟨r.X0,r.Y1⟩]
def sqrS (r:Rect):List PolygonSide:=[⟨⟨r.X0,r.Y0⟩,⟨r.X1,r.Y0⟩⟩,⟨⟨r.X1,r.Y0⟩,⟨r.X1,r.Y1⟩⟩,⟨⟨r.X1,r.Y1⟩,⟨r.X0,r.Y1⟩⟩,⟨⟨r.X0,r.Y1⟩,⟨r.X0,r.Y0⟩⟩]
theorem square_eq (r:Rect):law20_square r = some (sqr r):=rfl
theorem sqr_VR {r:Rect} (h:polygon_Right (sqr r) = some true):VR r:=by
  obtain ⟨b,hb,hP⟩:=pright_eq (sqr r)
  rw [hb] at h
  obtain rfl:=Option.some.inj h
  obtain ⟨_,_,h1,h2,_⟩:=hP.1 rfl
  have a0:=h1 0 (show 0 < 4 by decide)
  have a2:=h1 2 (show 2 < 4 by decide)
  have b1:=h2 1 (show 1 < 4 by decide) (by decide)
  have b3:=h2 3 (show 3 < 4 by decide) (by decide)
  have e0:nx (sqr r) 0 = 1:=rfl
  have e1:nx (sqr r) 1 = 2:=rfl
  have e2:nx (sqr r) 2 = 3:=rfl
  have e3:nx (sqr r) 3 = 0:=by show (3 + 1) % 4 = 0; rfl
  have p0:pt (sqr r) 0 = ⟨r.X0,r.Y0⟩:=rfl
  have p1:pt (sqr r) 1 = ⟨r.X1,r.Y0⟩:=rfl
  have p2:pt (sqr r) 2 = ⟨r.X1,r.Y1⟩:=rfl
  have p3:pt (sqr r) 3 = ⟨r.X0,r.Y1⟩:=rfl
  unfold q1 at a0 a2
  unfold lss at b1 b3
  rw [e0,e1,p0,p1,p2] at a0
  rw [e2,e3,p2,p3,p0] at a2
  rw [p0,p1] at b1
  rw [p0,p3] at b3
  simp at a0 a2 b1 b3
  unfold VR
  omega
theorem sqr_region {r:Rect} (h:polygon_Right (sqr r) = some true):polygon_Region (sqr r) = some ([r],0):=by
  have hv:=sqr_VR h
  unfold VR at hv
  obtain ⟨a,c,b,d⟩:=r
  dsimp only at hv
  have h1:iterL (polygon_Region_L0 (sqr ⟨a,c,b,d⟩)) ((sqr ⟨a,c,b,d⟩).length + 1) (([]:List Int),0) = some (.ex 0 ([a,b,b,a],4)):=by rfl
  have h2:sortInts [a,b,b,a] = some [a,a,b,b]:=sort_is (by simp) (by
    refine List.Perm.cons a ?_
    exact (List.perm_append_comm (l₁:=[b,b]) (l₂:=[a]))) (by simp; omega)
  have h3:compactInts [a,a,b,b] = some [a,b]:=compact_is (by simp) (by simp; omega) (by simp; omega) (fun x=>by simp)
  have h4:polygon_around (sqr ⟨a,c,b,d⟩) = some (sqrS ⟨a,c,b,d⟩):=by kernel_rfl
  have h5:sortInts [c,d] = some [c,d]:=sort_is (by simp) (List.Perm.refl _) (by simp; omega)
  have h6:iterL (polygon_Region_L2 [a,b] (sqrS ⟨a,c,b,d⟩) (([]:List Rect),0)) ((sqrS ⟨a,c,b,d⟩).length + 1) (([]:List Int),0) = some (.ex 4 ([c,d],4)):=by
    have u0:polygon_side_upright (⟨⟨a,c⟩,⟨b,c⟩⟩:PolygonSide) = some false:=by
      have:(a == b) = false:=by rw [beq_eq_false_iff_ne]; omega
      exact congrArg some this
    have u1:polygon_side_upright (⟨⟨b,c⟩,⟨b,d⟩⟩:PolygonSide) = some true:=congrArg some (show (b == b) = true by simp)
    have u2:polygon_side_upright (⟨⟨b,d⟩,⟨a,d⟩⟩:PolygonSide) = some false:=by
      have:(b == a) = false:=by rw [beq_eq_false_iff_ne]; omega
      exact congrArg some this
    have u3:polygon_side_upright (⟨⟨a,d⟩,⟨a,c⟩⟩:PolygonSide) = some true:=congrArg some (show (a == a) = true by simp)
    have m0:decide (min a b ≤ a) = true:=by simp; omega
    have m1:decide (a < max a b) = true:=by simp; omega
    have m2:decide (min b a ≤ a) = true:=by simp; omega
    have m3:decide (a < max b a) = true:=by simp; omega
    have g : ∀ j:Int,getI [a,b] (0:Int) = some a:=fun _=>rfl
    have s0:polygon_Region_L2 [a,b] (sqrS ⟨a,c,b,d⟩) (([]:List Rect),0) (([]:List Int),0) = some (.go ([c],1)):=by
      unfold polygon_Region_L2
      rw [if_pos (show decide ((0:Int) < ((sqrS ⟨a,c,b,d⟩).length:Int)) = true from rfl),show getI (sqrS ⟨a,c,b,d⟩) (0:Int) = some (⟨⟨a,c⟩,⟨b,c⟩⟩:PolygonSide) from rfl,Option.bind_some,u0,Option.bind_some]
      dsimp only
      rw [if_pos (show (!false) = true from rfl),show getI [a,b] (0:Int) = some a from rfl,Option.bind_some,Option.bind_some,Option.bind_some,m0,if_pos rfl,Option.bind_some,m1]
      rfl
    have s1:polygon_Region_L2 [a,b] (sqrS ⟨a,c,b,d⟩) (([]:List Rect),0) ([c],1) = some (.go ([c],2)):=by
      unfold polygon_Region_L2
      rw [if_pos (show decide ((1:Int) < ((sqrS ⟨a,c,b,d⟩).length:Int)) = true from rfl),show getI (sqrS ⟨a,c,b,d⟩) (1:Int) = some (⟨⟨b,c⟩,⟨b,d⟩⟩:PolygonSide) from rfl,Option.bind_some,u1,Option.bind_some]
      rfl
    have s2:polygon_Region_L2 [a,b] (sqrS ⟨a,c,b,d⟩) (([]:List Rect),0) ([c],2) = some (.go ([c,d],3)):=by
      unfold polygon_Region_L2
      rw [if_pos (show decide ((2:Int) < ((sqrS ⟨a,c,b,d⟩).length:Int)) = true from rfl),show getI (sqrS ⟨a,c,b,d⟩) (2:Int) = some (⟨⟨b,d⟩,⟨a,d⟩⟩:PolygonSide) from rfl,Option.bind_some,u2,Option.bind_some]
      dsimp only
      rw [if_pos (show (!false) = true from rfl),show getI [a,b] (0:Int) = some a from rfl,Option.bind_some,Option.bind_some,Option.bind_some,m2,if_pos rfl,Option.bind_some,m3]
      rfl
    have s3:polygon_Region_L2 [a,b] (sqrS ⟨a,c,b,d⟩) (([]:List Rect),0) ([c,d],3) = some (.go ([c,d],4)):=by
      unfold polygon_Region_L2
      rw [if_pos (show decide ((3:Int) < ((sqrS ⟨a,c,b,d⟩).length:Int)) = true from rfl),show getI (sqrS ⟨a,c,b,d⟩) (3:Int) = some (⟨⟨a,d⟩,⟨a,c⟩⟩:PolygonSide) from rfl,Option.bind_some,u3,Option.bind_some]
      rfl
    have s4:polygon_Region_L2 [a,b] (sqrS ⟨a,c,b,d⟩) (([]:List Rect),0) ([c,d],4) = some (.ex 4 ([c,d],4)):=rfl
    show iterL _ 5 _ = _
    simp only [iterL,s0,s1,s2,s3,s4]
  have h7:iterL (polygon_Region_L3 [a,b] (([]:List Rect),0) [c,d]) 9 (([]:List Rect),0) = some (.ex 6 ([⟨a,c,b,d⟩],2)):=by rfl
  have h8:polygon_Region_L1 [a,b] (sqrS ⟨a,c,b,d⟩) 1 (([]:List Rect),0) = some (.go ([⟨a,c,b,d⟩],1)):=by
    unfold polygon_Region_L1
    rw [if_pos (by decide),h6,Option.bind_some]
    dsimp only
    rw [h5,Option.bind_some]
    have h7' : iterL (polygon_Region_L3 [a,b] (([]:List Rect),0) [c,d]) (([a,b]:List Int).length + (sqrS ⟨a,c,b,d⟩).length + ([]:List Rect).length + ([c,d]:List Int).length + 1) (([]:List Rect),0) = some (.ex 6 ([⟨a,c,b,d⟩],2)):=h7
    rw [h7', Option.bind_some]
    rfl
  have h9:polygon_Region_L1 [a,b] (sqrS ⟨a,c,b,d⟩) 1 ([⟨a,c,b,d⟩],1) = some (.ex 2 ([⟨a,c,b,d⟩],1)):=by rfl
  unfold polygon_Region
  rw [h,Option.bind_some,if_neg (by simp),h1,Option.bind_some]
  dsimp only
  rw [h2,Option.bind_some,h3,Option.bind_some,h4,Option.bind_some,show subI (([a,b]:List Int).length:Int) 1 = some 1 from rfl,Option.bind_some]
  have h10:iterL (polygon_Region_L1 [a,b] (sqrS ⟨a,c,b,d⟩) 1) ((1:Int).toNat + 1) (([]:List Rect),0) = some (.ex 2 ([⟨a,c,b,d⟩],1)):=by
    show iterL _ 2 _ = _
    simp only [iterL,h8,h9,Option.bind_some]
  rw [h10,Option.bind_some]
  rfl
/-- what a volume loads a cap on a rectangle -/
theorem load_sqr {p:Plan} (hp:PlanS p) {r:Rect} (h:polygon_Right (sqr r) = some true) {v:Volume} (hv:RV v) (nm:ByteArray) (k l:Int) :
    measure_Load p ⟨nm,k,l,sqr r⟩ v = some (if comm r v.Box.Base = true then (if k = 0 then v.Units else if k = 1 then tra p v else if k = 2 then arR v.Box.Base else 0) else 0):=by
  have hr:=sqr_VR h
  have ht:=tra_eq hp hv
  unfold measure_Load
  rw [rv_eq,Option.bind_some,decide_eq_true hv,if_neg (by simp),sqr_region h,Option.bind_some]
  dsimp only
  obtain ⟨c,hc,_⟩:=inter_eq hr hv.1
  rw [containsRc_any (s:=[r]) (g:=fun x=>comm r v.Box.Base) (by simp) (fun x hx=>by
    obtain rfl:=List.mem_singleton.1 hx
    unfold measure_Load_1
    rw [hc]; rfl)]
  cases hm:comm r v.Box.Base
  · simp [hm]
  · simp only [List.any_cons, hm, Bool.true_or]
    rw [rect_Area_eq hv.1,ht.1]
    by_cases c0:k = 0
    · subst c0; simp
    · by_cases c1 : k = 1
      · subst c1; simp
      · by_cases c2 : k = 2
        · subst c2; simp [arR]
        · simp [c0,c1,c2]
end Go.Proofs.YtagkmlkhaekldaaGreat

namespace Go.Proofs.YtagkmlkhaekldaaGreat
open Go.Gb
set_option linter.unusedVariables false
set_option linter.unusedSimpArgs false
set_option linter.unusedSectionVars false
set_option linter.unusedVariables false
set_option linter.unusedSimpArgs false
set_option maxRecDepth 100000

theorem esame_eq {a b:List Entry} (hb:a.length ≤ 1000000):ref20_Same a b = some (decide (a = b)):=by
  unfold ref20_Same
  by_cases hl:a.length = b.length
  · rw [if_neg (by simp [hl])]
    rcases iter_find (l:=a.zip b) (body:=ref20_Same_L0 a b) (k:=0) (fun p=>p.1 ≠ p.2) (fun _=>false) (by
      intro i hi
      simp only [List.length_zip] at hi
      have h1:i < a.length:=by omega
      have h2:i < b.length:=by omega
      unfold ref20_Same_L0
      rw [if_pos (by simpa using h1),getI_nat h1,Option.bind_some,getI_nat h2,Option.bind_some]
      simp only [List.getElem_zip]
      by_cases he:a[i] = b[i]
      · right
        rw [if_neg (by simpa using he),addI_one (show i < 4611686018427387904 by omega),Option.bind_some]
        exact ⟨by simpa using he,rfl⟩
      · left
        rw [if_pos (by simpa using he)]
        exact ⟨he,rfl⟩) (by
      have e:((a.zip b).length:Int) = (a.length:Int):=by simp; omega
      rw [e]
      unfold ref20_Same_L0
      rw [if_neg (by simp)]) (fuel:=a.length + b.length + 1) (by simp; omega) with ⟨i,hi,hp,_,h⟩ | ⟨hp,h⟩
    · rw [h, Option.bind_some]
      dsimp only
      congr 1
      symm
      rw [decide_eq_false_iff_not]
      intro e; subst e; simp at hp
    · rw [h, Option.bind_some]
      dsimp only
      congr 1
      symm
      rw [decide_eq_true_iff]
      refine List.ext_getElem hl fun i h1 h2=>?_
      have:=hp (a[i],b[i]) (by
        rw [List.mem_iff_getElem]
        exact ⟨i,by simp; omega,by simp⟩)
      simpa using this
  · rw [if_pos (by simp; omega)]
    congr 1
    symm
    rw [decide_eq_false_iff_not]
    intro e; exact hl (by rw [e])
theorem addW1 {i:Nat} (h:i < 4611686018427387904):addW (i:Int) 1 = some ((i + 1:Nat):Int):=by
  rw [addW_in (by unfold inI; omega)]; simp
theorem few20_L0 (d:Drawing) (hd:d.Phases.length ≤ reachLen) (hv : ∀ x ∈ d.Phases,x.Volumes.length ≤ reachLen) : ∃ t,iterL (ref20_Few_L0 d) (d.Phases.length + 1) (0,0) = some (.ex 0 t)∧(d.Phases.length ≤ 8 → t.1 = ((allV d).length:Int)):=by
  unfold reachLen at *
  obtain ⟨f,k1,k2,k3⟩:=loop_up (body:=ref20_Few_L0 d) (fun i t=>t.2 = ((i:Nat):Int)∧(d.Phases.length ≤ 8 → t.1 = ((((d.Phases.take i).flatMap (·.Volumes)).length:Nat):Int)∧t.1 ≤ 140737488351232 * i)) d.Phases.length
    (fun f=>match f with | .ex j t=>j = 0∧(d.Phases.length ≤ 8 → t.1 = ((allV d).length:Int)) | _=>False) (fun i t hi ⟨e,h⟩=>by
      have h9:=hv _ (List.getElem_mem hi)
      unfold ref20_Few_L0
      rw [e,if_pos (by simpa using hi),getI_nat hi,Option.bind_some]
      show (∃ s', (addW t.1 (d.Phases[i].Volumes.length : Int)).bind _ = _ ∧ _) ∨ _
      rw [show addW t.1 (d.Phases[i].Volumes.length:Int) = some (IntKind.i64.wrap (t.1 + (d.Phases[i].Volumes.length:Int))) from rfl,Option.bind_some,addW1 (by omega)]
      refine .inl ⟨_,rfl,rfl,fun h8=>?_⟩
      obtain ⟨h1,h2⟩:=h h8
      dsimp only
      have e1:IntKind.i64.wrap (t.1 + (d.Phases[i].Volumes.length:Int)) = t.1 + (d.Phases[i].Volumes.length:Int):=IntWalk.i64_in _ (show inI _ by unfold inI; omega)
      rw [e1]
      refine ⟨?_,by omega⟩
      rw [List.take_succ_eq_append_getElem hi,List.flatMap_append,List.length_append,h1]
      simp) (fun t ⟨e,h⟩=>by
      unfold ref20_Few_L0
      rw [e,if_neg (by simp)]
      rw [List.take_length] at h
      exact ⟨_,rfl,trivial,rfl,fun h8=>(h h8).1⟩) (0,0) ⟨rfl,fun _=>by simp⟩ (d.Phases.length + 1) (by omega)
  rw [k1]
  cases f with
  | go _=>exact k2.elim
  | ret r=>exact k3.elim
  | ex j t=>obtain ⟨rfl,h⟩:=k3; exact ⟨t,rfl,h⟩
theorem few20 (p:Plan) (lot:Lot) (d:Drawing) (hd:d.Phases.length ≤ reachLen) (hv : ∀ x ∈ d.Phases,x.Volumes.length ≤ reachLen) (hT:p.Tables.length ≤ reachLen) : ∃ b,ref20_Few p lot d = some b∧(b = true → PlanS p∧lot.Area.length ≤ 12∧d.Phases.length ≤ 8∧(allV d).length ≤ 50):=by
  obtain ⟨t,h1,h2⟩:=few20_L0 d hd hv
  unfold reachLen at *
  unfold ref20_Few
  rw [h1,Option.bind_some]
  dsimp only
  obtain ⟨f,k1,k2,k3⟩:=loop_up (body:=ref20_Few_L1 p) (fun i s=>s = ((i:Nat):Int)∧∀ m (h:m < p.Tables.length),m < i → p.Tables[m].Rows.length ≤ 10) p.Tables.length
    (fun f=>match f with | .ex j s=>∀ m (h:m < p.Tables.length),p.Tables[m].Rows.length ≤ 10 | .ret r=>r = false | _=>False) (fun i s hi ⟨e,h⟩=>by
      unfold ref20_Few_L1
      rw [e,if_pos (by simpa using hi),getI_nat hi,Option.bind_some]
      by_cases c:p.Tables[i].Rows.length ≤ 10
      · rw [if_neg (by simp; omega), addW1 (by omega)]
        refine .inl ⟨_,rfl,rfl,fun m hm hmi=>?_⟩
        by_cases e:m = i
        · subst e; exact c
        · exact h m hm (by omega)
      · rw [if_pos (by simp; omega)]
        exact .inr ⟨_,rfl,trivial,rfl⟩) (fun s ⟨e,h⟩=>by
      unfold ref20_Few_L1
      rw [e,if_neg (by simp)]
      exact ⟨_,rfl,trivial,fun m hm=>h m hm hm⟩) 0 ⟨rfl,fun m _ h=>by omega⟩ (p.Tables.length + 1) (by omega)
  rw [k1,Option.bind_some]
  cases f with
  | go _=>exact k2.elim
  | ret r=>subst k3; exact ⟨false,rfl,by simp⟩
  | ex j s =>
    dsimp only at k3 ⊢
    refine ⟨_,rfl,fun g=>?_⟩
    simp only [Bool.and_eq_true,decide_eq_true_eq] at g
    have h3:=h2 (by omega)
    refine ⟨⟨by omega,fun t ht=>?_⟩,by omega,by omega,by omega⟩
    obtain ⟨i,hi,rfl⟩:=List.mem_iff_getElem.1 ht
    exact k3 i hi
theorem cells_one (r:Rect) (x y:Int):cells [r] x y ↔ rin r x y:=by simp [cells]
theorem SQ_one {R b:Rect} (hb:VR b) (n:Int):SQ [R] b n ↔ n ≤ 0 ∨ (R.X0 ≤ b.X0 - n∧b.X1 + n ≤ R.X1∧R.Y0 ≤ b.Y0 - n∧b.Y1 + n ≤ R.Y1):=by
  unfold SQ
  unfold VR at hb
  constructor
  · rintro (h | h)
    · exact .inl h
    · by_cases c : n ≤ 0
      · exact .inl c
      · have h1 := (cells_one _ _ _).1 (h (b.X0 - n) (b.Y0 - n) (by unfold rin grw; dsimp only; omega))
        have h2:=(cells_one _ _ _).1 (h (b.X1 + n - 1) (b.Y1 + n - 1) (by unfold rin grw; dsimp only; omega))
        unfold rin at h1 h2
        omega
  · rintro (h | h)
    · exact .inl h
    · refine .inr fun x y hxy => (cells_one _ _ _).2 ?_
      unfold rin grw at hxy
      unfold rin
      dsimp only at hxy
      omega
def exP:Plan:=⟨[],[(⟨(⟨#[116,114,97,102,102,105,99]⟩:ByteArray),[(⟨(⟨#[104,111,109,101]⟩:ByteArray),50⟩:Entry)],20⟩:Table)],[],[],[],[],[],0⟩
def exA:Volume:=⟨⟨⟨2,2,5,4⟩,0,7⟩,0,4,false⟩
def exB:Volume:=⟨⟨⟨4,2,7,3⟩,7,9⟩,1,0,false⟩
theorem exP_S:PlanS exP:=⟨by decide,by decide⟩
theorem exA_R:RV exA:=by decide
theorem exB_R:RV exB:=by decide
theorem small_of:measure_Of exP ⟨1,0,[⟨0,0,10,8⟩],[]⟩ ⟨1,[⟨[exA,exB],[]⟩]⟩ = some (ent 80 8 21 3 9 4 2 10):=by
  obtain ⟨B,hB,h⟩:=of_eq (p:=exP) (lot:=⟨1,0,[⟨0,0,10,8⟩],[]⟩) (d:=⟨1,[⟨[exA,exB],[]⟩]⟩) exP_S (by decide) (by decide) (by decide)
  have hV:vols ⟨1,[⟨[exA,exB],[]⟩]⟩ = [exA,exB]:=by decide
  have hA:ar [⟨0,0,10,8⟩] = [⟨0,0,10,8⟩]:=if_pos (rrB_spec (by decide))
  rw [hV,hA] at h hB
  have hB2:SB [⟨0,0,10,8⟩] (bs [exA,exB]) 2:=⟨by decide,by decide,fun n h0 h1=>by
    have e1:=SQ_one (R:=⟨0,0,10,8⟩) exA_R.1 n
    have e2:=SQ_one (R:=⟨0,0,10,8⟩) exB_R.1 n
    constructor
    · intro hn b hb
      simp [bs] at hb
      rcases hb with rfl | rfl
      · exact e1.2 (by show n ≤ 0 ∨ ((0:Int) ≤ 2 - n∧5 + n ≤ 10∧0 ≤ 2 - n∧4 + n ≤ 8); omega)
      · exact e2.2 (by show n ≤ 0 ∨ ((0:Int) ≤ 4 - n∧7 + n ≤ 10∧0 ≤ 2 - n∧3 + n ≤ 8); omega)
    · intro hq
      have h3:n ≤ 0 ∨ ((0:Int) ≤ 2 - n∧5 + n ≤ 10∧0 ≤ 2 - n∧4 + n ≤ 8):=e1.1 (hq _ (by simp [bs]))
      omega⟩
  have hBe:=hB.unique hB2 fun _=>Iff.rfl
  subst hBe
  have hc:covM (bs [exA,exB]) 1048576 = 8:=by
    have hf:RR [⟨2,2,5,4⟩,⟨5,2,7,3⟩]:=rrB_spec (by decide)
    rw [covM_eq (out:=[⟨2,2,5,4⟩,⟨5,2,7,3⟩]) hf.1 (hf.2.2.congr fun x y=>by
      simp [cells,bs,rin,exA,exB]; omega) rfl]
    rfl
  have ht1:tra exP exA = 9:=by unfold tra; rw [show measure_traffic exP exA = some 9 by kernel_rfl]; rfl
  have ht2:tra exP exB = 1:=by unfold tra; rw [show measure_traffic exP exB = some 1 by kernel_rfl]; rfl
  have ht:sumL (tra exP) [exA,exB] = 10:=by simp only [sumL,ht1,ht2]; rfl
  rw [h,hc,ht]
  rfl
theorem small_true:law20_small = some true:=by
  unfold law20_small
  have e1:law20_box 2 2 5 4 0 7 0 = some (⟨⟨⟨2,2,5,4⟩,0,7⟩,0,0,false⟩:Volume):=rfl
  have e2:law20_box 4 2 7 3 7 9 1 = some exB:=rfl
  have o:=small_of
  unfold exP at o
  rw [e1,Option.bind_some,e2,Option.bind_some]
  change (measure_Of exP ⟨1,0,[⟨0,0,10,8⟩],[]⟩ ⟨1,[⟨[exA,exB],[]⟩]⟩).bind _ = _
  rw [small_of,Option.bind_some,square_eq,Option.bind_some]
  have l1:measure_Load exP ⟨⟨#[]⟩,2,0,sqr ⟨0,0,5,5⟩⟩ exB = some 3:=(load_sqr exP_S (by kernel_rfl) exB_R _ 2 0).trans (by rfl)
  have l2:measure_Load exP ⟨⟨#[]⟩,2,0,sqr ⟨7,0,9,9⟩⟩ exB = some 0:=(load_sqr exP_S (by kernel_rfl) exB_R _ 2 0).trans (by rfl)
  change (measure_Load exP ⟨⟨#[]⟩,2,0,sqr ⟨0,0,5,5⟩⟩ exB).bind _ = _
  rw [l1,Option.bind_some,square_eq,Option.bind_some]
  change (measure_Load exP ⟨⟨#[]⟩,2,0,sqr ⟨7,0,9,9⟩⟩ exB).bind _ = _
  rw [l2,Option.bind_some]
  change (ref20_Same (ent 80 8 21 3 9 4 2 10) (ent 80 8 21 3 9 4 2 10)).bind _ = _
  rw [esame_eq (by decide),decide_eq_true rfl,Option.bind_some,if_pos (by decide)]
  have s1:measure_Storeys exA = some 3:=sto_eq exA
  have s2:measure_Storeys exB = some 1:=sto_eq exB
  have s3:measure_Floor exA = some 18:=flo_eq exA
  have s4:measure_Floor exB = some 3:=flo_eq exB
  change ((measure_Storeys exA).bind _).bind _ = _
  rw [s1,Option.bind_some,Option.bind_some,if_pos (by decide)]
  change ((measure_Floor exA).bind _).bind _ = _
  rw [s3,Option.bind_some,Option.bind_some,if_pos (by decide),s2,Option.bind_some,Option.bind_some,if_pos (by decide),s4]
  rfl
end Go.Proofs.YtagkmlkhaekldaaGreat

namespace Go.Proofs.YtagkmlkhaekldaaGreat
open Go.Gb
set_option linter.unusedVariables false
set_option linter.unusedSimpArgs false
set_option linter.unusedSectionVars false
set_option linter.unusedVariables false
set_option linter.unusedSimpArgs false
set_option maxRecDepth 100000

theorem esame_ent (a c f s h u b t:Int):ref20_Same (ent a c f s h u b t) (ent a c f s h u b t) = some true:=by
  rw [esame_eq (show (ent a c f s h u b t).length ≤ 1000000 by show 9 ≤ 1000000; omega),decide_eq_true rfl]
end Go.Proofs.YtagkmlkhaekldaaGreat

namespace Go.Proofs.YtagkmlkhaekldaaGreat
open Go.Gb
set_option linter.unusedVariables false
set_option linter.unusedSimpArgs false
set_option linter.unusedSectionVars false
set_option linter.unusedVariables false
set_option linter.unusedSimpArgs false
set_option maxRecDepth 100000

/-- all volumes are counted -/
theorem vols_all {d:Drawing} (hl:(allV d).length ≤ 40) (h : ∀ v ∈ allV d,RV v):vols d = allV d:=by
  unfold vols
  rw [List.take_of_length_le hl,List.filter_eq_self]
  exact fun v hv=>decide_eq_true (h v hv)
end Go.Proofs.YtagkmlkhaekldaaGreat

namespace Go.Proofs.YtagkmlkhaekldaaGreat
open Go.Gb
set_option linter.unusedVariables false
set_option linter.unusedSimpArgs false
set_option linter.unusedSectionVars false
set_option linter.unusedVariables false
set_option linter.unusedSimpArgs false
set_option maxRecDepth 100000

theorem Of_checkL {l:List Rect} (hl:l.length ≤ 2000000) :
    (¬ (∀ r ∈ l,VR r)∧iterL (region_Of_L0 l) (l.length + 1) 0 = some (.ret ([],1))) ∨ ((∀ r ∈ l,VR r)∧iterL (region_Of_L0 l) (l.length + 1) 0 = some (.ex 0 (l.length:Int))):=by
  rcases iter_find (l:=l) (body:=region_Of_L0 l) (k:=0) (fun r=>¬ VR r) (fun _=>(([]:List Rect),(1:Int))) (by
    intro i hi
    unfold region_Of_L0
    rw [if_pos (by simpa using hi)]
    simp only [getI_nat hi,Option.bind_some,rect_Right_eq]
    by_cases he:VR l[i]
    · right
      rw [if_neg (by simpa using he)]
      simp only [addI_one (show i < 4611686018427387904 by omega),Option.bind_some]
      exact ⟨fun h=>h he,trivial⟩
    · left
      rw [if_pos (by simpa using he)]
      exact ⟨he,rfl⟩) (by
    unfold region_Of_L0
    rw [if_neg (by simp)]) (fuel:=l.length + 1) (by omega) with ⟨i,hi,hp,_,h⟩ | ⟨hp,h⟩
  · exact .inl ⟨fun h'=>hp (h' _ (List.getElem_mem hi)),h⟩
  · exact .inr ⟨fun r hr=>Classical.not_not.1 (hp r hr),h⟩
theorem region_Of_badL {l:List Rect} (hl:l.length ≤ 2000000) (h : ¬ ∀ r ∈ l,VR r):region_Of l = some ([],1):=by
  unfold region_Of
  rcases Of_checkL hl with ⟨_,h1⟩ | ⟨h1,_⟩
  · rw [h1,Option.bind_some]
  · exact absurd h1 h
theorem region_Of_manyL {l:List Rect} (hl:l.length ≤ 2000000) (h : ∀ r ∈ l,VR r) (hm:400 < l.length):region_Of l = some ([],6):=by
  unfold region_Of
  rcases Of_checkL hl with ⟨h1,_⟩ | ⟨_,h1⟩
  · exact absurd h h1
  · rw [h1, Option.bind_some]
    dsimp only
    rw [if_pos (by simp; omega)]
theorem region_Right_specL {a:List Rect} (hl:a.length ≤ 2000000) : ∃ b,region_Right a = some b∧(b = true ↔ RR a):=by
  unfold region_Right
  by_cases h : ∀ r ∈ a,VR r
  · rcases Nat.lt_or_ge 400 a.length with hm | hm
    · rw [region_Of_manyL hl h hm, Option.bind_some, if_neg (by simp), Option.bind_some]
      exact ⟨_,rfl,by simp,fun h=>absurd h.2.1 (by omega)⟩
    · obtain ⟨out, h1, h2⟩ := region_Of_fine h hm
      rw [h2,Option.bind_some]
      unfold lim
      by_cases h3:200 < out.length
      · rw [if_pos h3, if_neg (by simp), Option.bind_some]
        refine ⟨_,rfl,by simp,fun h=>?_⟩
        have:=h.2.2.unique h1 (fun _ _=>Iff.rfl)
        rw [this] at h
        exact absurd h.2.1 (by omega)
      · rw [if_neg h3]
        dsimp only
        rw [if_pos (by simp),equal_Rect (by omega),Option.bind_some,Option.bind_some]
        refine ⟨_,rfl,?_⟩
        simp only [decide_eq_true_eq]
        constructor
        · intro e
          rw [e] at h1 h3
          exact ⟨h,by omega,h1⟩
        · intro h4
          exact h1.unique h4.2.2 (fun _ _=>Iff.rfl)
  · rw [region_Of_badL hl h, Option.bind_some, if_neg (by simp), Option.bind_some]
    exact ⟨_,rfl,by simp,fun h'=>absurd h'.1 h⟩
theorem region_Right_falseL {a:List Rect} (hl:a.length ≤ 2000000) (h : ¬ RR a):region_Right a = some false:=by
  obtain ⟨b,h1,h2⟩:=region_Right_specL hl
  rw [h1]; cases b
  · rfl
  · exact absurd (h2.1 rfl) h
theorem volumesML {d:Drawing} (hp:d.Phases.length ≤ 2000000) (hl:(allV d).length ≤ 2000000) {n:Int} (hn:(d.Phases.length:Int) ≤ n):drawing_Volumes d 0 n = some (allV d):=by
  obtain ⟨f,h1,h2,h3⟩:=loop_up (body:=drawing_Volumes_L0 d 0 n) (fun i s=>s.2 = ((i:Nat):Int)∧s.1 = (d.Phases.take i).flatMap (·.Volumes)) d.Phases.length
    (fun f=>match f with | .ex _ s=>s.1 = allV d | _=>False) (fun i s hi ⟨hs,hI⟩=>by
      have hb:=flat_take_le (l:=d.Phases) (i + 1)
      have e:(d.Phases.take (i + 1)).flatMap (·.Volumes) = s.1 ++ d.Phases[i].Volumes:=by
        rw [List.take_succ_eq_append_getElem hi,List.flatMap_append,hI]; simp
      rw [e,List.length_append] at hb
      unfold allV at hl
      unfold drawing_Volumes_L0
      rw [hs,if_pos (by simpa using hi),getI_nat hi,Option.bind_some,if_pos (by simp; omega),appI_some (by omega),Option.bind_some,Option.bind_some,addI_one (by omega),Option.bind_some]
      exact .inl ⟨_,rfl,rfl,e.symm⟩) (fun s ⟨hs,hI⟩=>by
      unfold drawing_Volumes_L0
      rw [hs,if_neg (by simp)]
      rw [List.take_length] at hI
      exact ⟨_,rfl,trivial,hI⟩) ([],0) ⟨rfl,by simp⟩ (d.Phases.length + 1) (by omega)
  unfold drawing_Volumes
  rw [h1,Option.bind_some]
  cases f with
  | go _=>exact h2.elim
  | ret r=>exact h3.elim
  | ex _ s=>dsimp only at h3 ⊢; rw [h3]
theorem shift_RR {a:List Rect} (h:RR a) (dx dy:Int) (hv : ∀ r ∈ a,VR (shR dx dy r)):RR (a.map (shR dx dy)):=
  ⟨fun r hr=>by obtain ⟨q,hq,rfl⟩:=List.mem_map.1 hr; exact hv q hq,by rw [List.length_map]; exact h.2.1,(form_shift dx dy h.2.2).congr fun x y=>(cells_shift dx dy a x y).symm⟩
theorem shift_L0 {a:List Rect} (ha:RR a) {dx dy:Int} (h:0 < a.length → (-1048576 ≤ dx∧dx ≤ 1048576)∧-1048576 ≤ dy∧dy ≤ 1048576) :
    ∃ f,iterL (region_Shift_L0 a dx dy) (a.length + 1) (([]:List Rect),0) = some f∧(f = .ret ([],3) ∨ ∃ n,f = .ex 0 (a.map (shR dx dy),n)∧∀ r ∈ a,VR (shR dx dy r)):=by
  have hl:=ha.2.1
  obtain ⟨f,h1,h2,h3⟩:=loop_up (body:=region_Shift_L0 a dx dy) (fun i s=>s = ((a.take i).map (shR dx dy),((i:Nat):Int))∧∀ r ∈ a.take i,VR (shR dx dy r)) a.length
    (fun f=>f = .ret ([],3) ∨ ∃ n,f = .ex 0 (a.map (shR dx dy),n)∧∀ r ∈ a,VR (shR dx dy r)) (fun i s hi ⟨hs,hI⟩=>by
      subst hs
      have hV:=ha.1 _ (List.getElem_mem hi)
      have hd:=h (by omega)
      have hx:=hV
      unfold VR at hx
      unfold region_Shift_L0
      dsimp only
      rw [if_pos (by simpa using hi),getI_nat hi,Option.bind_some,addI_some (by unfold inI; omega),Option.bind_some,addI_some (by unfold inI; omega),Option.bind_some,addI_some (by unfold inI; omega),Option.bind_some,addI_some (by unfold inI; omega),Option.bind_some,rect_Right_eq,Option.bind_some]
      have e:(⟨a[i].X0 + dx,a[i].Y0 + dy,a[i].X1 + dx,a[i].Y1 + dy⟩:Rect) = shR dx dy a[i]:=rfl
      rw [e]
      by_cases c:VR (shR dx dy a[i])
      · rw [decide_eq_true c, if_neg (by simp), appI_some (by simp; omega), Option.bind_some, addI_one (by omega)]
        refine .inl ⟨_,rfl,?_,fun r hr=>?_⟩
        · rw [List.take_succ_eq_append_getElem hi,List.map_append]; rfl
        · rw [List.take_succ_eq_append_getElem hi] at hr
          rcases List.mem_append.1 hr with hr | hr
          · exact hI r hr
          · obtain rfl:=List.mem_singleton.1 hr; exact c
      · rw [decide_eq_false c, if_pos (by rfl)]
        exact .inr ⟨_,rfl,trivial,.inl rfl⟩) (fun s ⟨hs,hI⟩=>by
      subst hs
      unfold region_Shift_L0
      rw [if_neg (by simp),List.take_length]
      rw [List.take_length] at hI
      exact ⟨_,rfl,trivial,.inr ⟨_,rfl,hI⟩⟩) (([]:List Rect),0) ⟨by simp,by simp⟩ (a.length + 1) (by omega)
  exact ⟨f,h1,h3⟩
theorem shift_eq {a:List Rect} (hl:a.length ≤ 2000000) (dx dy:Int) : ∃ r,region_Shift a dx dy = some r∧(r.2 = 0 → r.1 = a.map (shR dx dy)∧RR a∧RR (a.map (shR dx dy)))∧r.1.length ≤ 200:=by
  unfold region_Shift
  by_cases h:RR a
  · rw [region_Right_true h, Option.bind_some, if_neg (by simp)]
    by_cases c:((decide (0 < (a.length:Int))) && ((decide (1048576 < (max dx dy))) || (decide ((min dx dy) < (-1048576))))) = true
    · rw [if_pos c]; exact ⟨_,rfl,fun h=>by simp at h,by simp⟩
    · rw [if_neg c]
      simp only [Bool.and_eq_true,Bool.or_eq_true,decide_eq_true_eq] at c
      obtain ⟨f,h1,h2⟩:=shift_L0 h (dx:=dx) (dy:=dy) fun h0=>by
        have : ¬ (1048576 < max dx dy ∨ min dx dy < -1048576):=fun h=>c ⟨by omega,h⟩
        omega
      rw [h1,Option.bind_some]
      rcases h2 with rfl | ⟨n,rfl,hv⟩
      · exact ⟨_,rfl,fun h=>by simp at h,by simp⟩
      · exact ⟨_,rfl,fun _=>⟨rfl,h,shift_RR h dx dy hv⟩,by simpa using h.2.1⟩
  · rw [region_Right_falseL hl h, Option.bind_some, if_pos (by rfl)]
    exact ⟨_,rfl,fun h=>by simp at h,by simp⟩
def shV (dx dy:Int) (v:Volume):Volume:={ v with Box:={ v.Box with Base:=shR dx dy v.Box.Base } }
theorem moves_L0 {dx dy:Int} (hd:(-1048576 ≤ dx∧dx ≤ 1048576)∧-1048576 ≤ dy∧dy ≤ 1048576) {l:List Volume} (hl:l.length ≤ 1000) {fuel:Nat} (hf:l.length < fuel) :
    ∃ f,iterL (law20_MeasureMoves_L0 dx dy true l) fuel (([]:List Volume),0) = some f∧(f = .ret true ∨ ∃ n,f = .ex 0 (l.map (shV dx dy),n)∧∀ v ∈ l,RV v∧RV (shV dx dy v)):=by
  obtain ⟨f,h1,h2,h3⟩:=loop_up (body:=law20_MeasureMoves_L0 dx dy true l) (fun i s=>s = ((l.take i).map (shV dx dy),((i:Nat):Int))∧∀ v ∈ l.take i,RV v∧RV (shV dx dy v)) l.length
    (fun f=>f = .ret true ∨ ∃ n,f = .ex 0 (l.map (shV dx dy),n)∧∀ v ∈ l,RV v∧RV (shV dx dy v)) (fun i s hi ⟨hs,hI⟩=>by
      subst hs
      unfold law20_MeasureMoves_L0
      dsimp only
      rw [if_pos (by simpa using hi),getI_nat hi,Option.bind_some,rv_eq,Option.bind_some]
      by_cases hV:RV l[i]
      · have hx := hV.1
        unfold VR at hx
        rw [decide_eq_true hV,if_neg (by simp),addI_some (by unfold inI; omega),Option.bind_some,addI_some (by unfold inI; omega),Option.bind_some,addI_some (by unfold inI; omega),Option.bind_some,addI_some (by unfold inI; omega),Option.bind_some]
        have e:({ l[i] with Box:={ l[i].Box with Base:=(⟨l[i].Box.Base.X0 + dx,l[i].Box.Base.Y0 + dy,l[i].Box.Base.X1 + dx,l[i].Box.Base.Y1 + dy⟩:Rect) } }:Volume) = shV dx dy l[i]:=rfl
        rw [e,rv_eq,Option.bind_some]
        by_cases c:RV (shV dx dy l[i])
        · rw [decide_eq_true c, if_neg (by simp), appI_some (by simp; omega), Option.bind_some, addI_one (by omega)]
          refine .inl ⟨_,rfl,?_,fun r hr=>?_⟩
          · rw [List.take_succ_eq_append_getElem hi,List.map_append]; rfl
          · rw [List.take_succ_eq_append_getElem hi] at hr
            rcases List.mem_append.1 hr with hr | hr
            · exact hI r hr
            · obtain rfl:=List.mem_singleton.1 hr; exact ⟨hV,c⟩
        · rw [decide_eq_false c, if_pos (by rfl)]
          exact .inr ⟨_,rfl,trivial,.inl rfl⟩
      · rw [decide_eq_false hV, if_pos (by rfl)]
        exact .inr ⟨_,rfl,trivial,.inl rfl⟩) (fun s ⟨hs,hI⟩=>by
      subst hs
      unfold law20_MeasureMoves_L0
      rw [if_neg (by simp),List.take_length]
      rw [List.take_length] at hI
      exact ⟨_,rfl,trivial,.inr ⟨_,rfl,hI⟩⟩) (([]:List Volume),0) ⟨by simp,by simp⟩ fuel hf
  exact ⟨f,h1,h3⟩
end Go.Proofs.YtagkmlkhaekldaaGreat

namespace Go.Proofs.YtagkmlkhaekldaaGreat
open Go.Gb
set_option linter.unusedVariables false
set_option linter.unusedSimpArgs false
set_option linter.unusedSectionVars false
set_option linter.unusedVariables false
set_option linter.unusedSimpArgs false
set_option maxRecDepth 100000

theorem arR_shift (dx dy:Int) (r:Rect):arR (shR dx dy r) = arR r:=by
  unfold arR shR
  dsimp only
  rw [show r.X1 + dx - (r.X0 + dx) = r.X1 - r.X0 by omega,show r.Y1 + dy - (r.Y0 + dy) = r.Y1 - r.Y0 by omega]
theorem sto_shift {dx dy:Int} {v:Volume} (h:RV v) (h' : RV (shV dx dy v)):sto (shV dx dy v) = sto v:=by
  unfold sto
  by_cases c:v.Extra = false
  · rw [if_pos ⟨c,h'⟩,if_pos ⟨c,h⟩]; rfl
  · rw [if_neg fun x=>c x.1,if_neg fun x=>c x.1]
theorem flo_shift {dx dy:Int} {v:Volume} (h:RV v) (h' : RV (shV dx dy v)):flo (shV dx dy v) = flo v:=by
  unfold flo
  rw [if_pos h', if_pos h, sto_shift h h']
  show arR (shR dx dy v.Box.Base) * _ = _
  rw [arR_shift]
theorem tra_shift {p:Plan} {dx dy:Int} {v:Volume} (h:RV v) (h' : RV (shV dx dy v)):tra p (shV dx dy v) = tra p v:=by
  unfold tra measure_traffic
  rw [flo_eq,flo_eq,flo_shift h h']
  rfl
theorem sumL_map_eq {α:Type} {f:α → Int} {g:α → α} : ∀ {l:List α},(∀ x ∈ l,f (g x) = f x) → sumL f (l.map g) = sumL f l
  | [],_=>rfl
  | x::l,h=>by simp only [List.map_cons,sumL]; rw [h x List.mem_cons_self,sumL_map_eq fun y hy=>h y (List.mem_cons_of_mem _ hy)]
theorem maxL_map_eq {α:Type} {f:α → Int} {g:α → α} : ∀ {l:List α},(∀ x ∈ l,f (g x) = f x) → maxL f (l.map g) = maxL f l
  | [],_=>rfl
  | x::l,h=>by simp only [List.map_cons,maxL]; rw [h x List.mem_cons_self,maxL_map_eq fun y hy=>h y (List.mem_cons_of_mem _ hy)]
theorem bs_shift (dx dy:Int) (l:List Volume):bs (l.map (shV dx dy)) = (bs l).map (shR dx dy):=by
  simp only [bs,List.map_map]
  rfl
theorem law_MeasureMoves (p:Plan) (lot:Lot) (d:Drawing) (dx dy:Int) (hd:d.Phases.length ≤ reachLen) (hv : ∀ x ∈ d.Phases,x.Volumes.length ≤ reachLen) (hT:p.Tables.length ≤ reachLen) (hph:d.Phases.length ≤ 2000000) (hall:(allV d).length ≤ 2000000) (hla:lot.Area.length ≤ 2000000) :
    law20_MeasureMoves p lot d dx dy = some true:=by
  obtain ⟨A', hA, hAs, hAl⟩ := shift_eq hla dx dy
  obtain ⟨b,hb,hbs⟩:=few20 p lot d hd hv hT
  unfold law20_MeasureMoves
  rw [small_true,Option.bind_some,volumesML hph hall (Int.le_refl _),Option.bind_some,hA,Option.bind_some,hb,Option.bind_some]
  by_cases hc:(((((((!b) || (decide (12 < ((allV d).length:Int)))) || (A'.2 != 0)) || (decide (dx < (-1048576)))) || (decide (1048576 < dx))) || (decide (dy < (-1048576)))) || (decide (1048576 < dy))) = true
  · rw [if_pos hc]
  rw [if_neg hc]
  simp only [Bool.or_eq_true, not_or, decide_eq_true_eq, Bool.not_eq_true', Bool.not_eq_false, bne_iff_ne, ne_eq, Classical.not_not] at hc
  obtain ⟨⟨⟨⟨⟨⟨c1,c2⟩,c3⟩,c4⟩,c5⟩,c6⟩,c7⟩:=hc
  obtain ⟨hp,hla12,hph8,hl50⟩:=hbs c1
  obtain ⟨hA1,hR,hR'⟩:=hAs c3
  obtain ⟨f,h1,h2⟩:=moves_L0 (dx:=dx) (dy:=dy) (by omega) (l:=allV d) (by omega) (fuel:=(allV d).length + A'.1.length + ([]:List Volume).length + 1) (by omega)
  rw [h1,Option.bind_some]
  rcases h2 with rfl | ⟨n,rfl,hVV⟩
  · rfl
  dsimp only
  rw [if_pos rfl]
  have hV : ∀ v ∈ allV d,RV v:=fun v hv=>(hVV v hv).1
  have hV' : ∀ v ∈ (allV d).map (shV dx dy),RV v:=fun v hv=>by obtain ⟨w,hw,rfl⟩:=List.mem_map.1 hv; exact (hVV w hw).2
  have hA' : allV (⟨0,[⟨(allV d).map (shV dx dy),[]⟩]⟩:Drawing) = (allV d).map (shV dx dy):=by simp [allV]
  have e1:vols d = allV d:=vols_all (by omega) hV
  have e2:vols (⟨0,[⟨(allV d).map (shV dx dy),[]⟩]⟩:Drawing) = (allV d).map (shV dx dy):=by
    rw [vols_all (by rw [hA', List.length_map]; omega) (by rw [hA']; exact hV'), hA']
  obtain ⟨B,hB,hO⟩:=of_eq (p:=p) (lot:=lot) (d:=d) hp (by omega) (by omega) (by omega)
  obtain ⟨B', hB', hO'⟩ := of_eq (p := p) (lot := ⟨lot.Id, 0, A'.1, []⟩) (d := ⟨0, [⟨(allV d).map (shV dx dy), []⟩]⟩) hp (by simp) (by rw [hA', List.length_map]; omega) (by dsimp only; omega)
  rw [e1] at hB hO
  rw [e2] at hB' hO'
  have a1:ar lot.Area = lot.Area:=by unfold ar; rw [if_pos hR]
  have a2:ar A'.1 = lot.Area.map (shR dx dy):=by rw [hA1]; unfold ar; rw [if_pos hR']
  rw [a1] at hB hO
  dsimp only at hB' hO'
  rw [a2] at hB' hO'
  rw [bs_shift] at hB' hO'
  have hBB:=SB_shift dx dy hB hB'
  subst hBB
  have hvb : ∀ r ∈ (bs (allV d)).map (shR dx dy),VR r:=by rw [← bs_shift]; exact bs_VR hV'
  rw [areaL_shift,covM_shift rfl dx dy (by simp [bs]; omega) (bs_VR hV) hvb,sumL_map_eq (f:=flo) fun v hv=>flo_shift (hVV v hv).1 (hVV v hv).2,maxL_map_eq (f:=sto) fun v hv=>sto_shift (hVV v hv).1 (hVV v hv).2,
    maxL_map_eq (f:=fun v:Volume=>v.Box.Z1) (g:=shV dx dy) fun v hv=>rfl,sumL_map_eq (f:=fun v:Volume=>v.Units) (g:=shV dx dy) fun v hv=>rfl,sumL_map_eq (f:=tra p) fun v hv=>tra_shift (hVV v hv).1 (hVV v hv).2] at hO'
  rw [hO, Option.bind_some, hO', Option.bind_some, esame_ent]
  rfl
end Go.Proofs.YtagkmlkhaekldaaGreat

namespace Go.Proofs.YtagkmlkhaekldaaGreat
open Go.Gb
set_option linter.unusedVariables false
set_option linter.unusedSimpArgs false
set_option linter.unusedSectionVars false
set_option linter.unusedVariables false
set_option linter.unusedSimpArgs false

theorem bkL_len {α:Type} (f:α → Nat) : ∀ l:List α,l.length ≤ bkL f l
  | []=>Nat.zero_le _
  | x::l=>by have:=bkL_len f l; simp only [bkL,List.length_cons]; omega
theorem allV_bk {f:Phase → Nat} (hf : ∀ x:Phase,x.Volumes.length ≤ f x) : ∀ l:List Phase,(l.flatMap (·.Volumes)).length ≤ bkL f l
  | []=>Nat.zero_le _
  | x :: l => by
    have h1:=allV_bk hf l
    have h2:=hf x
    simp only [List.flatMap_cons,List.length_append,bkL]
    omega
theorem law_MeasureMovesB (p:Plan) (lot:Lot) (d:Drawing) (dx dy:Int) (hd:d.Phases.length ≤ reachLen) (hv : ∀ x ∈ d.Phases,x.Volumes.length ≤ reachLen) (hT:p.Tables.length ≤ reachLen) {f:Phase → Nat} (hf : ∀ x:Phase,x.Volumes.length ≤ f x) (hb:bkL f d.Phases ≤ 1048576) (hl:lot.Area.length ≤ 1048576) :
    law20_MeasureMoves p lot d dx dy = some true:=by
  have h1:=bkL_len f d.Phases
  have h2:=allV_bk hf d.Phases
  exact law_MeasureMoves p lot d dx dy hd hv hT (by omega) (by unfold allV; omega) (by omega)
end Go.Proofs.YtagkmlkhaekldaaGreat

