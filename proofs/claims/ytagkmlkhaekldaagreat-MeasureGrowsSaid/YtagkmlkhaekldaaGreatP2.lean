/- The plain part of the proof (no program in sight), part 2 -/
import Derived.Test.YtagkmlkhaekldaaGreatP1
namespace Go.Proofs.YtagkmlkhaekldaaGreat
open Go.Gb
set_option linter.unusedVariables false
set_option linter.unusedSimpArgs false
set_option linter.unusedSectionVars false
set_option linter.unusedVariables false
set_option linter.unusedSimpArgs false
set_option maxRecDepth 100000

def RV (v:Volume):Prop:=VR v.Box.Base∧0 ≤ v.Box.Z0∧v.Box.Z0 < v.Box.Z1∧v.Box.Z1 ≤ 4096∧0 ≤ v.Use∧v.Use ≤ 5∧0 ≤ v.Units∧v.Units ≤ 1048576∧(v.Units = 0 ∨ v.Use = 0)
instance (v:Volume):Decidable (RV v):=inferInstanceAs (Decidable (_∧_))
theorem RV.VB {v:Volume} (h:RV v):VB v.Box:=⟨h.1,h.2.1,h.2.2.1,h.2.2.2.1⟩
theorem rv_eq (v:Volume):drawing_RightVolume v = some (decide (RV v)):=by
  unfold drawing_RightVolume
  rw [rect_Right_eq,Option.bind_some]
  split
  · rename_i h
    congr 1; symm; rw [decide_eq_false_iff_not]; intro hr; unfold RV at hr
    simp [hr.1] at h; omega
  · rename_i h
    simp at h
    split
    · rename_i g
      congr 1; symm; rw [decide_eq_false_iff_not]; intro hr; unfold RV at hr
      simp at g; omega
    · rename_i g
      congr 1
      rw [Bool.eq_iff_iff]
      simp at g
      simp only [Bool.and_eq_true,decide_eq_true_eq]
      unfold RV
      constructor
      · intro hh
        exact ⟨h.1.1.1,by omega,by omega,by omega,by omega,by omega,by omega,by omega,by omega⟩
      · intro hh; omega
def allV (d:Drawing):List Volume:=d.Phases.flatMap (·.Volumes)
theorem flat_take_le {l:List Phase} (i:Nat):((l.take i).flatMap (·.Volumes)).length ≤ (l.flatMap (·.Volumes)).length:=by
  conv=>rhs; rw [← List.take_append_drop i l]
  rw [List.flatMap_append,List.length_append]; omega
theorem volumesM {d:Drawing} (hp:d.Phases.length ≤ 100000) (hl:(allV d).length ≤ 1000000) {n:Int} (hn:(d.Phases.length:Int) ≤ n):drawing_Volumes d 0 n = some (allV d):=by
  obtain ⟨f,h1,h2,h3⟩:=loop_up (body:=drawing_Volumes_L0 d 0 n) (fun i s=>s.2 = ((i:Nat):Int)∧s.1 = (d.Phases.take i).flatMap (·.Volumes)) d.Phases.length
    (fun f=>match f with | .ex _ s=>s.1 = allV d | _=>False) (fun i s hi ⟨hs,hI⟩=>by
      have hb:=flat_take_le (l:=d.Phases) (i + 1)
      have e:(d.Phases.take (i + 1)).flatMap (·.Volumes) = s.1 ++ d.Phases[i].Volumes:=by
        rw [List.take_succ_eq_append_getElem hi,List.flatMap_append,hI]; simp
      rw [e,List.length_append] at hb
      unfold allV at hl
      unfold drawing_Volumes_L0
      rw [hs,if_pos (by simpa using hi),getI_nat hi,Option.bind_some,if_pos (by simp; omega),appI_some (by omega),Option.bind_some,Option.bind_some,addI_one (by omega),Option.bind_some]
      exact .inl ⟨_,rfl,rfl,e.symm⟩) (fun s ⟨hs,hI⟩=>by
      unfold drawing_Volumes_L0
      rw [hs,if_neg (by simp)]
      rw [List.take_length] at hI
      exact ⟨_,rfl,trivial,hI⟩) ([],0) ⟨rfl,by simp⟩ (d.Phases.length + 1) (by omega)
  unfold drawing_Volumes
  rw [h1,Option.bind_some]
  cases f with
  | go _=>exact h2.elim
  | ret r=>exact h3.elim
  | ex _ s=>dsimp only at h3 ⊢; rw [h3]
theorem inter_eq {a b:Rect} (ha:VR a) (hb:VR b) : ∃ c,rect_Intersect a b = some (c,comm a b)∧(comm a b = true → VR c∧(c.X1 - c.X0) * (c.Y1 - c.Y0) = capA a b):=by
  unfold rect_Intersect
  rw [rect_Right_eq,Option.bind_some,decide_eq_true ha,if_neg (by simp),rect_Right_eq,Option.bind_some,decide_eq_true hb,Option.bind_some,if_neg (by simp),rect_checked_eq]
  by_cases h:VR ⟨max a.X0 b.X0,max a.Y0 b.Y0,min a.X1 b.X1,min a.Y1 b.Y1⟩
  · have hc : comm a b = true := by
      unfold VR at h
      unfold comm
      rw [Bool.and_eq_true,decide_eq_true_iff,decide_eq_true_iff]
      dsimp only at h
      omega
    rw [if_pos h,Option.bind_some]
    dsimp only
    refine ⟨_,by rw [hc],fun _=>⟨h,?_⟩⟩
    unfold capA
    rw [if_pos hc]
  · have hc : comm a b = false := by
      cases hc:comm a b
      · rfl
      · exfalso
        apply h
        unfold comm at hc
        rw [Bool.and_eq_true,decide_eq_true_iff,decide_eq_true_iff] at hc
        unfold VR at ha hb ⊢
        dsimp only
        omega
    rw [if_neg h,Option.bind_some]
    exact ⟨_,by rw [hc],fun h=>by rw [hc] at h; simp at h⟩
theorem grown_eq {b:Rect} (hb:VR b) {n:Int} (h0:0 ≤ n) (h1:n ≤ 1048576):measure_grown b n = some (grw b n,decide (VR (grw b n))):=by
  unfold measure_grown
  unfold VR at hb
  rw [subI_some (by unfold inI; omega),Option.bind_some,subI_some (by unfold inI; omega),Option.bind_some,addI_some (by unfold inI; omega),Option.bind_some,addI_some (by unfold inI; omega),Option.bind_some,rect_Right_eq]
  rfl
theorem inside_eq {s:MeasureSite} (ha:RR s.area) {b:Rect} (hb:VR b) {n:Int} (h0:0 < n) (h1:n ≤ 1048576) : ∃ c,measure_site_inside s b n = some c∧(c = true ↔ SQ s.area b n):=by
  unfold measure_site_inside
  rw [grown_eq hb (by omega) h1,Option.bind_some]
  dsimp only
  by_cases hg:VR (grw b n)
  · rw [decide_eq_true hg, if_neg (by simp)]
    have hl:=ha.2.1
    obtain ⟨f,k1,k2,k3⟩:=loop_up (body:=measure_site_inside_L0 s (grw b n,true)) (fun i t=>t.2 = ((i:Nat):Int)∧t.1 = sumL (capA (grw b n)) (s.area.take i)) s.area.length
      (fun f=>match f with | .ex _ t=>t.1 = sumL (capA (grw b n)) s.area | _=>False) (fun i t hi ⟨e,h⟩=>by
        have hv:=ha.1 _ (List.getElem_mem hi)
        obtain ⟨c,hc,hcc⟩:=inter_eq hg hv
        have hcb:=capA_bound (r:=s.area[i]) hg
        have hs1:=sumL_prefix (f:=capA (grw b n)) (l:=s.area) (fun x _=>(capA_bound hg).1) i
        have hs2:sumL (capA (grw b n)) (s.area.take i) ≤ 1099511627776 * i:=by
          have : ∀ (l:List Rect),sumL (capA (grw b n)) l ≤ 1099511627776 * l.length:=by
            intro l
            induction l with
            | nil=>simp [sumL]
            | cons r l ih=>rw [sumL,List.length_cons]; have:=(capA_bound (r:=r) hg).2; omega
          have h2:=this (s.area.take i)
          rw [List.length_take] at h2
          omega
        unfold measure_site_inside_L0
        rw [e,if_pos (by simpa using hi),getI_nat hi,Option.bind_some]
        dsimp only
        rw [hc,Option.bind_some]
        dsimp only
        have key:(if comm (grw b n) s.area[i] = true then (rect_Area c).bind fun x=>(addI t.1 x).bind fun y=>some y else some t.1) = some (sumL (capA (grw b n)) (s.area.take (i + 1))):=by
          rw [sumL_snoc hi]
          by_cases hm:comm (grw b n) s.area[i] = true
          · obtain ⟨q1, q2⟩ := hcc hm
            rw [if_pos hm,rect_Area_eq q1,Option.bind_some,q2,addI_some (by unfold inI; omega),Option.bind_some,h]
          · have : capA (grw b n) s.area[i] = 0 := by unfold capA; rw [if_neg hm]
            rw [if_neg hm,this,Int.add_zero,h]
        rw [key,Option.bind_some,addI_one (by omega)]
        exact .inl ⟨_,rfl,rfl,rfl⟩) (fun t ⟨e,h⟩=>by
        unfold measure_site_inside_L0
        rw [e,if_neg (by simp)]
        rw [List.take_length] at h
        exact ⟨_,rfl,trivial,h⟩) (0,0) ⟨rfl,rfl⟩ (s.area.length + 1) (by omega)
    rw [k1,Option.bind_some]
    cases f with
    | go _=>exact k2.elim
    | ret r=>exact k3.elim
    | ex _ t =>
      dsimp only at k3 ⊢
      rw [rect_Area_eq hg,Option.bind_some,k3]
      refine ⟨_,rfl,?_⟩
      rw [inA_sum hg rfl ha.1 (form_disj ha.2.2),beq_iff_eq,inA_full rfl hg]
      unfold SQ
      constructor
      · intro h; exact .inr h
      · rintro (h | h)
        · omega
        · exact h
  · rw [decide_eq_false hg, if_pos (by simp)]
    exact ⟨_,rfl,by simp; exact fun h=>hg (SQ_VR ha.1 hb h0 h)⟩
theorem quoI_pos {n m:Int} (h0:0 ≤ n) (hm:0 < m) (h:n ≤ 9223372036854775807):quoI n m = some (n / m):=by
  unfold quoI
  have e:n.tdiv m = n / m:=Int.tdiv_eq_ediv_of_nonneg h0
  have h1:0 ≤ n / m:=Int.ediv_nonneg h0 (by omega)
  have h2:n / m ≤ n:=Int.ediv_le_self m h0
  rw [e,if_pos ⟨by omega,by unfold inI; omega⟩]
theorem bs_loop {s:MeasureSite} (ha:RR s.area) {v:Volume} (hv:VR v.Box.Base) : ∀ (k:Nat) (lo hi:Int),0 ≤ lo → lo ≤ hi → hi ≤ 1048576 → hi - lo < ((2 ^ k:Nat):Int) → SQ s.area v.Box.Base lo →
    ∃ r,iterL (measure_site_setback_L1 s v) (k + 1) (lo,hi) = some (.ex 2 (r,r))∧lo ≤ r∧r ≤ hi∧SQ s.area v.Box.Base r∧∀ n,SQ s.area v.Box.Base n → n ≤ hi → n ≤ r
  | k, lo, hi, h0, h1, h2, h3, hq => by
    unfold iterL
    unfold measure_site_setback_L1
    by_cases c:lo < hi
    · rw [if_pos (by simpa using c)]
      dsimp only
      rw [addI_some (by unfold inI; omega),Option.bind_some,addI_some (by unfold inI; omega),Option.bind_some,quoI_pos (by omega) (by omega) (by omega),Option.bind_some]
      obtain ⟨b,hb,hbq⟩:=inside_eq ha hv (n:=(lo + hi + 1) / 2) (by omega) (by omega)
      rw [hb,Option.bind_some]
      have hk:0 < k:=by
        rcases Nat.eq_zero_or_pos k with rfl | h
        · simp at h3; omega
        · exact h
      obtain ⟨j,rfl⟩ : ∃ j,k = j + 1:=⟨k - 1,by omega⟩
      have hp:((2 ^ (j + 1):Nat):Int) = 2 * ((2 ^ j:Nat):Int):=by rw [Nat.pow_succ]; omega
      cases b with
      | true =>
        rw [if_pos rfl,Option.bind_some]
        dsimp only
        obtain ⟨r,g1,g2,g3,g4,g5⟩:=bs_loop ha hv j ((lo + hi + 1) / 2) hi (by omega) (by omega) h2 (by omega) (hbq.1 rfl)
        exact ⟨r,g1,by omega,g3,g4,g5⟩
      | false =>
        rw [if_neg (by simp),subI_some (by unfold inI; omega),Option.bind_some,Option.bind_some]
        dsimp only
        obtain ⟨r,g1,g2,g3,g4,g5⟩:=bs_loop ha hv j lo ((lo + hi + 1) / 2 - 1) h0 (by omega) (by omega) (by omega) hq
        refine ⟨r,g1,g2,by omega,g4,fun n hn hh=>?_⟩
        by_cases hc:(lo + hi + 1) / 2 ≤ n
        · exact absurd (hbq.2 (hn.anti hc)) (by simp)
        · exact g5 n hn (by omega)
    · rw [if_neg (by simpa using c)]
      have:lo = hi:=by omega
      subst this
      exact ⟨lo,rfl,Int.le_refl _,Int.le_refl _,hq,fun n _ h=>h⟩
theorem setback_eq {s:MeasureSite} (ha:RR s.area) (hv : ∀ v ∈ s.volumes,VR v.Box.Base) (hl:s.volumes.length ≤ 1000) : ∃ B,measure_site_setback s = some B∧SB s.area (s.volumes.map fun v=>v.Box.Base) B:=by
  obtain ⟨f,k1,k2,k3⟩:=loop_up (body:=measure_site_setback_L0 s) (fun i t=>t.2 = ((i:Nat):Int)∧SB s.area ((s.volumes.take i).map fun v=>v.Box.Base) t.1) s.volumes.length
    (fun f=>match f with | .ex _ t=>SB s.area (s.volumes.map fun v=>v.Box.Base) t.1 | _=>False) (fun i t hi ⟨e,h⟩=>by
      have hvi:=hv _ (List.getElem_mem hi)
      obtain ⟨r,g1,g2,g3,g4,g5⟩:=bs_loop ha hvi 24 0 t.1 (by omega) h.lo h.hi (by have:=h.hi; simp; omega) (.inl (by omega))
      unfold measure_site_setback_L0
      rw [e,if_pos (by simpa using hi),getI_nat hi,Option.bind_some,g1,Option.bind_some]
      dsimp only
      rw [addI_one (by omega)]
      refine .inl ⟨_,rfl,rfl,g2,by have:=h.hi; dsimp only; omega,fun n n0 n1=>?_⟩
      dsimp only
      rw [List.take_succ_eq_append_getElem hi,List.map_append]
      constructor
      · intro hn b hb
        rcases List.mem_append.1 hb with hb | hb
        · exact (h.iff n n0 n1).1 (by omega) b hb
        · simp at hb; subst hb; exact g4.anti hn
      · intro hq
        have h1:=(h.iff n n0 n1).2 fun b hb=>hq b (List.mem_append_left _ hb)
        exact g5 n (hq _ (by simp)) h1) (fun t ⟨e,h⟩=>by
      unfold measure_site_setback_L0
      rw [e,if_neg (by simp)]
      rw [List.take_length] at h
      exact ⟨_,rfl,trivial,h⟩) (1048576,0) ⟨rfl,SB_nil _⟩ (s.volumes.length + 1) (by omega)
  unfold measure_site_setback
  rw [k1,Option.bind_some]
  cases f with
  | go _=>exact k2.elim
  | ret r=>exact k3.elim
  | ex _ t=>exact ⟨_,rfl,k3⟩
theorem site_sum {s:MeasureSite} {f:Volume → Option Int} {g:Volume → Int} (hl:s.volumes.length ≤ 1000) (hf : ∀ v ∈ s.volumes,f v = some (g v)∧0 ≤ g v∧g v ≤ 4503599627370496):measure_site_sum s f = some (sumL g s.volumes):=by
  obtain ⟨f', k1, k2, k3⟩ := loop_up (body := measure_site_sum_L0 s f) (fun i t => t.2 = ((i : Nat) : Int) ∧ t.1 = sumL g (s.volumes.take i) ∧ 0 ≤ t.1 ∧ t.1 ≤ 4503599627370496 * i) s.volumes.length
    (fun f=>match f with | .ex _ t=>t.1 = sumL g s.volumes | _=>False) (fun i t hi ⟨e,h,hb0,hb⟩=>by
      obtain ⟨e1,e2,e3⟩:=hf _ (List.getElem_mem hi)
      unfold measure_site_sum_L0
      rw [e,if_pos (by simpa using hi),getI_nat hi,Option.bind_some,e1,Option.bind_some,addI_some (by unfold inI; omega),Option.bind_some,addI_one (by omega)]
      refine .inl ⟨_,rfl,rfl,?_,by dsimp only; omega,by dsimp only; omega⟩
      dsimp only
      rw [sumL_snoc hi,h]) (fun t ⟨e,h,_⟩=>by
      unfold measure_site_sum_L0
      rw [e,if_neg (by simp)]
      rw [List.take_length] at h
      exact ⟨_,rfl,trivial,h⟩) (0,0) ⟨rfl,rfl,by simp,by simp⟩ (s.volumes.length + 1) (by omega)
  unfold measure_site_sum
  rw [k1,Option.bind_some]
  cases f' with
  | go _=>exact k2.elim
  | ret r=>exact k3.elim
  | ex _ t=>dsimp only at k3 ⊢; rw [k3]
def maxL {α:Type} (g:α → Int):List α → Int
  | []=>0
  | x::l=>max (g x) (maxL g l)
theorem maxL_append {α:Type} (g:α → Int) : ∀ (l m:List α),maxL g (l ++ m) = max (maxL g l) (maxL g m)
  | [], m => by
    have:0 ≤ maxL g m:=by
      cases m with
      | nil=>exact Int.le_refl _
      | cons x m =>
        have : ∀ l:List α,0 ≤ maxL g l:=by
          intro l; induction l with
          | nil=>exact Int.le_refl _
          | cons y l ih=>rw [maxL]; omega
        exact this _
    rw [List.nil_append]; simp only [maxL]; omega
  | x::l,m=>by rw [List.cons_append,maxL,maxL_append g l m,maxL]; omega
theorem maxL_nonneg {α:Type} (g:α → Int) (l:List α):0 ≤ maxL g l:=by
  induction l with
  | nil=>exact Int.le_refl _
  | cons y l ih=>rw [maxL]; omega
theorem site_greatest {s:MeasureSite} {f:Volume → Option Int} {g:Volume → Int} (hl:s.volumes.length ≤ 1000) (hf : ∀ v ∈ s.volumes,f v = some (g v)):measure_site_greatest s f = some (maxL g s.volumes):=by
  obtain ⟨f', k1, k2, k3⟩ := loop_up (body := measure_site_greatest_L0 s f) (fun i t => t.2 = ((i : Nat) : Int) ∧ t.1 = maxL g (s.volumes.take i)) s.volumes.length
    (fun f=>match f with | .ex _ t=>t.1 = maxL g s.volumes | _=>False) (fun i t hi ⟨e,h⟩=>by
      have e1:=hf _ (List.getElem_mem hi)
      unfold measure_site_greatest_L0
      rw [e,if_pos (by simpa using hi),getI_nat hi,Option.bind_some,e1,Option.bind_some,addI_one (by omega)]
      refine .inl ⟨_,rfl,rfl,?_⟩
      dsimp only
      have:=maxL_nonneg g (s.volumes.take i)
      rw [List.take_succ_eq_append_getElem hi,maxL_append,h]
      simp only [maxL]
      omega) (fun t ⟨e,h⟩=>by
      unfold measure_site_greatest_L0
      rw [e,if_neg (by simp)]
      rw [List.take_length] at h
      exact ⟨_,rfl,trivial,h⟩) (0,0) ⟨rfl,rfl⟩ (s.volumes.length + 1) (by omega)
  unfold measure_site_greatest
  rw [k1,Option.bind_some]
  cases f' with
  | go _=>exact k2.elim
  | ret r=>exact k3.elim
  | ex _ t=>dsimp only at k3 ⊢; rw [k3]
end Go.Proofs.YtagkmlkhaekldaaGreat

namespace Go.Proofs.YtagkmlkhaekldaaGreat
open Go.Gb
set_option linter.unusedVariables false
set_option linter.unusedSimpArgs false
set_option linter.unusedSectionVars false
set_option linter.unusedVariables false
set_option linter.unusedSimpArgs false
set_option maxRecDepth 100000

def swpS (x w:Int) (b:Rect) (s:Int × Int):Int × Int:=if (b.X0 ≤ x∧x < b.X1)∧s.2 < b.Y1 then (s.1 + w * (b.Y1 - max s.2 b.Y0),b.Y1) else s
theorem swp_snoc (x w:Int) (b:Rect) : ∀ (l:List Rect) (s:Int × Int),swp x w (l ++ [b]) s = swpS x w b (swp x w l s)
  | [],s=>rfl
  | c :: l, s => by
    rw [List.cons_append]
    unfold swp
    exact swp_snoc x w b l _
theorem swp_y (x w:Int) : ∀ (l:List Rect) (s:Int × Int),(∀ r ∈ l,VR r) → 0 ≤ s.2 → s.2 ≤ 1048576 → 0 ≤ (swp x w l s).2∧(swp x w l s).2 ≤ 1048576
  | [],s,_,h0,h1=>⟨h0,h1⟩
  | b :: l, s, hv, h0, h1 => by
    unfold swp
    have hb:=hv b (by simp)
    unfold VR at hb
    split
    · exact swp_y x w l _ (fun r hr=>hv r (by simp [hr])) (by dsimp only; omega) (by dsimp only; omega)
    · exact swp_y x w l _ (fun r hr=>hv r (by simp [hr])) h0 h1
theorem mul_bd {a b:Int} (h0:0 ≤ a) (h1:a ≤ 1048576) (g0:0 ≤ b) (g1:b ≤ 1048576):0 ≤ a * b∧a * b ≤ 1099511627776:=
  ⟨Int.mul_nonneg h0 g0,Int.mul_le_mul (c:=1048576) (d:=1048576) h1 g1 g0 (by decide)⟩
theorem cover_L2 {bs:List Rect} {xs:List Int} {n:Int} {m:Nat} (hbv : ∀ r ∈ bs,VR r) (hs:bs.Pairwise fun a b=>a.Y0 ≤ b.Y0) (hb:bs.length ≤ 1000) (hm:m + 1 < xs.length) (hx : ∀ x ∈ xs,0 ≤ x∧x ≤ 1048576)
    (hle:(xs[m]'(by omega)) ≤ xs[m + 1]) (hml:m ≤ 100000) (hn:0 ≤ n∧n ≤ 109951162777600000) :
    ∃ t,iterL (measure_site_cover_L2 bs xs (n,(m:Int))) (bs.length + 1) (n,0,0) = some (.ex 4 t)∧t.1 = n + (xs[m + 1] - (xs[m]'(by omega))) * colM bs 1048576 (xs[m]'(by omega)) 0:=by
  generalize hM:(1048576:Nat) = M
  have hx0:=hx _ (List.getElem_mem (show m < xs.length by omega))
  have hx1:=hx _ (List.getElem_mem hm)
  have gm:=getI_nat (l:=xs) (show m < xs.length by omega)
  have gm1:=getI_nat (l:=xs) hm
  generalize (xs[m]'(by omega)) = x at *
  generalize xs[m + 1] = z at *
  obtain ⟨f,k1,k2,k3⟩:=loop_up (body:=measure_site_cover_L2 bs xs (n,(m:Int))) (fun j t=>t.2.2 = ((j:Nat):Int)∧(t.1,t.2.1) = swp x (z - x) (bs.take j) (n,0)) bs.length
    (fun f=>match f with | .ex i t=>i = 4∧t.1 = n + (z - x) * colM bs M x 0 | _=>False) (fun j t hj ⟨e,h⟩=>by
      obtain ⟨t1,t2,t3⟩:=t
      dsimp only at e h
      subst e
      have hvj:=hbv _ (List.getElem_mem hj)
      have hvt : ∀ r ∈ bs.take j,VR r:=fun r hr=>hbv r (List.mem_of_mem_take hr)
      have hsp:=swp_spec (x:=x) (w:=z - x) hM.symm hvt (hs.sublist (List.take_sublist j bs)) (s:=(n,0)) (Int.le_refl _)
      have hy:=swp_y x (z - x) (bs.take j) (n,0) hvt (by dsimp only; omega) (by dsimp only; omega)
      rw [← h] at hsp hy
      dsimp only at hsp hy
      have hcb:=colM_bounds (bs.take j) M x 0
      have hpb:=mul_bd (a:=z - x) (b:=colM (bs.take j) M x 0) (by omega) (by omega) hcb.1 (by omega)
      have hv:=hvj
      unfold VR at hv
      have e2:swp x (z - x) (bs.take (j + 1)) (n,0) = swpS x (z - x) bs[j] (t1,t2):=by rw [List.take_succ_eq_append_getElem hj,swp_snoc,← h]
      unfold measure_site_cover_L2
      dsimp only
      rw [if_pos (by simpa using hj),getI_nat hj,Option.bind_some,gm,Option.bind_some]
      have q1:(if (decide (bs[j].X0 ≤ x)) = true then (some x).bind fun y=>some (decide (y < bs[j].X1)) else some false) = some (decide (bs[j].X0 ≤ x∧x < bs[j].X1)):=by
        by_cases c:bs[j].X0 ≤ x <;> simp [c]
      rw [q1,Option.bind_some]
      by_cases c:(bs[j].X0 ≤ x∧x < bs[j].X1)∧t2 < bs[j].Y1
      · have hpw := mul_bd (a := z - x) (b := bs[j].Y1 - max t2 bs[j].Y0) (by omega) (by omega) (by omega) (by omega)
        rw [if_pos (by simp only [Bool.and_eq_true,decide_eq_true_eq]; exact c),addI_one (by omega),Option.bind_some,gm1,Option.bind_some,Option.bind_some,subI_some (by unfold inI; omega),Option.bind_some,subI_some (by unfold inI; omega),Option.bind_some,mulI_some (by unfold inI; omega),Option.bind_some,addI_some (by unfold inI; omega),Option.bind_some,Option.bind_some,addI_one (by omega)]
        refine .inl ⟨_,rfl,rfl,?_⟩
        rw [e2]
        unfold swpS
        rw [if_pos c]
      · rw [if_neg (by simp only [Bool.and_eq_true, decide_eq_true_eq]; exact c), Option.bind_some, addI_one (by omega)]
        refine .inl ⟨_,rfl,rfl,?_⟩
        rw [e2]
        unfold swpS
        rw [if_neg c]) (fun t ⟨e,h⟩=>by
      obtain ⟨t1,t2,t3⟩:=t
      dsimp only at e h
      subst e
      unfold measure_site_cover_L2
      dsimp only
      rw [if_neg (by simp)]
      rw [List.take_length] at h
      have hsp:=swp_spec (x:=x) (w:=z - x) hM.symm hbv hs (s:=(n,0)) (Int.le_refl _)
      rw [← h] at hsp
      exact ⟨_,rfl,trivial,rfl,hsp⟩) (n,0,0) ⟨rfl,rfl⟩ (bs.length + 1) (by omega)
  cases f with
  | go _=>exact k2.elim
  | ret r=>exact k3.elim
  | ex i t=>obtain ⟨rfl,k3⟩:=k3; exact ⟨t,k1,k3⟩
theorem strips_snoc2 (l:List Rect) (M:Nat) (a b:Int) : ∀ t:List Int,strips l M (t ++ [a,b]) = strips l M (t ++ [a]) + (b - a) * colM l M a 0
  | []=>by show (b - a) * colM l M a 0 + 0 = 0 + _; omega
  | [c]=>by show (a - c) * colM l M c 0 + ((b - a) * colM l M a 0 + 0) = (a - c) * colM l M c 0 + 0 + (b - a) * colM l M a 0; omega
  | c :: d :: t => by
    have ih:=strips_snoc2 l M a b (d::t)
    show (d - c) * colM l M c 0 + strips l M (d::t ++ [a,b]) = (d - c) * colM l M c 0 + strips l M (d::t ++ [a]) + _
    rw [ih]; omega
theorem strips_take {l:List Rect} {M:Nat} {xs:List Int} {m:Nat} (h:m + 1 < xs.length):strips l M (xs.take (m + 2)) = strips l M (xs.take (m + 1)) + (xs[m + 1] - (xs[m]'(by omega))) * colM l M (xs[m]'(by omega)) 0:=by
  rw [List.take_succ_eq_append_getElem (i:=m + 1) h,List.take_succ_eq_append_getElem (i:=m) (by omega),List.append_assoc]
  exact strips_snoc2 l M _ _ _
def ends2 (l:List Rect):List Int:=l.flatMap fun r=>[r.X0,r.X1]
theorem ends2_len (l:List Rect):(ends2 l).length = 2 * l.length:=by
  unfold ends2
  induction l with
  | nil=>rfl
  | cons r l ih=>rw [List.flatMap_cons,List.length_append,ih,List.length_cons]; simp; omega
theorem cover_L0 {s:MeasureSite} (hl:s.volumes.length ≤ 1000) : ∃ i,iterL (measure_site_cover_L0 s) (s.volumes.length + 1) (([]:List Int),List.replicate s.volumes.length (⟨0,0,0,0⟩:Rect),0) = some (.ex 0 (ends2 (s.volumes.map fun v=>v.Box.Base),s.volumes.map (fun v=>v.Box.Base),i)):=by
  obtain ⟨f,k1,k2,k3⟩:=loop_up (body:=measure_site_cover_L0 s) (fun i t=>t.2.2 = ((i:Nat):Int)∧t.2.1.length = s.volumes.length∧t.2.1.take i = (s.volumes.take i).map (fun v=>v.Box.Base)∧t.1 = ends2 ((s.volumes.take i).map fun v=>v.Box.Base)) s.volumes.length
    (fun f=>match f with | .ex j t=>j = 0∧t.1 = ends2 (s.volumes.map fun v=>v.Box.Base)∧t.2.1 = s.volumes.map (fun v=>v.Box.Base) | _=>False) (fun i t hi ⟨e,h1,h2,h3⟩=>by
      obtain ⟨t1,t2,t3⟩:=t
      dsimp only at e h1 h2 h3
      subst e
      have hi2:i < t2.length:=by omega
      have hset:i < (t2.set i s.volumes[i].Box.Base).length:=by rw [List.length_set]; exact hi2
      have hg:getI (t2.set i s.volumes[i].Box.Base) (i:Int) = some s.volumes[i].Box.Base:=by
        rw [getI_nat hset,List.getElem_set_self]
      have hlen:t1.length ≤ 2000:=by rw [h3,ends2_len,List.length_map,List.length_take]; omega
      unfold measure_site_cover_L0
      dsimp only
      rw [if_pos (by simpa using hi),getI_nat hi,Option.bind_some,getI_nat hi2,Option.bind_some,Option.bind_some,Int.toNat_natCast,hg,Option.bind_some,Option.bind_some,appI_some (by simp; omega),Option.bind_some,addI_one (by omega)]
      refine .inl ⟨_,rfl,rfl,by dsimp only; rw [List.length_set]; exact h1,?_,?_⟩
      · dsimp only
        rw [List.take_succ_eq_append_getElem hset,List.getElem_set_self,List.take_set_of_le (Nat.le_refl _),h2,List.take_succ_eq_append_getElem hi,List.map_append]
        rfl
      · dsimp only
        rw [List.take_succ_eq_append_getElem hi,List.map_append]
        unfold ends2
        rw [List.flatMap_append,h3]
        rfl) (fun t ⟨e,h1,h2,h3⟩=>by
      unfold measure_site_cover_L0
      rw [e,if_neg (by simp)]
      rw [List.take_length] at h2 h3
      rw [← h1,List.take_length] at h2
      exact ⟨_,rfl,trivial,rfl,h3,h2⟩) ([],List.replicate s.volumes.length ⟨0,0,0,0⟩,0) ⟨rfl,by simp,by simp,rfl⟩ (s.volumes.length + 1) (by omega)
  rw [k1]
  cases f with
  | go _=>exact k2.elim
  | ret r=>exact k3.elim
  | ex j t =>
    obtain ⟨rfl,h1,h2⟩:=k3
    obtain ⟨t1,t2,t3⟩:=t
    dsimp only at h1 h2
    subst h1 h2
    exact ⟨_,rfl⟩
theorem cover_eq {s:MeasureSite} (hv : ∀ v ∈ s.volumes,VR v.Box.Base) (hl:s.volumes.length ≤ 1000):measure_site_cover s = some (covM (s.volumes.map fun v=>v.Box.Base) 1048576):=by
  unfold measure_site_cover
  obtain ⟨i0,h0⟩:=cover_L0 hl
  rw [makeI_some (by omega),Option.bind_some,h0,Option.bind_some]
  dsimp only
  have hbl:(s.volumes.map fun v=>v.Box.Base).length ≤ 1000:=by rw [List.length_map]; exact hl
  have hbv : ∀ r ∈ s.volumes.map (fun v => v.Box.Base), VR r := fun r hr => by obtain ⟨v, hv', rfl⟩ := List.mem_map.1 hr; exact hv v hv'
  generalize s.volumes.map (fun v=>v.Box.Base) = B at hbl hbv
  obtain ⟨bs,b1,b2,b3⟩:=sortRects_spec (l:=B) (by omega)
  obtain ⟨xs,x1,x2,x3⟩:=sortInts_spec (l:=ends2 B) (by rw [ends2_len]; omega)
  rw [b1,Option.bind_some,x1,Option.bind_some]
  have hxl:xs.length ≤ 2000:=by rw [x2.length_eq,ends2_len]; omega
  have hmem : ∀ x,x ∈ xs ↔ ∃ r ∈ B,x = r.X0 ∨ x = r.X1:=fun x=>by rw [x2.mem_iff]; unfold ends2; simp
  have hx : ∀ x ∈ xs,0 ≤ x∧x ≤ 1048576:=fun x h=>by
    obtain ⟨r,hr,h⟩:=(hmem x).1 h
    have:=hbv r hr
    unfold VR at this
    omega
  have hbv' : ∀ r ∈ bs,VR r:=fun r hr=>hbv r (b2.mem_iff.1 hr)
  have hbsl:bs.length ≤ 1000:=by rw [b2.length_eq]; exact hbl
  rw [subI_some (by unfold inI; omega),Option.bind_some]
  generalize hM:(1048576:Nat) = M at *
  have hcov:strips bs M xs = covM B M:=by
    rw [strips_cov hM.symm hbv' x3 hx (fun r hr=>⟨(hmem _).2 ⟨r,b2.mem_iff.1 hr,.inl rfl⟩,(hmem _).2 ⟨r,b2.mem_iff.1 hr,.inr rfl⟩⟩),covM_perm b2]
  have hN:max 0 ((xs.length:Int) - 1) = ((xs.length - 1:Nat):Int):=by omega
  obtain ⟨f,k1,k2,k3⟩:=loop_up (body:=measure_site_cover_L1 bs xs ((xs.length:Int) - 1)) (fun m t=>t.2 = ((m:Nat):Int)∧t.1 = strips bs M (xs.take (m + 1))∧0 ≤ t.1∧t.1 ≤ 1099511627776 * m) (xs.length - 1)
    (fun f=>match f with | .ex i t=>t.1 = strips bs M (xs.take (xs.length - 1 + 1)) | _=>False) (fun m t hm ⟨e,h,g0,g1⟩=>by
      obtain ⟨t1,t2⟩:=t
      dsimp only at e h g0 g1
      subst e
      have hm1:m + 1 < xs.length:=by omega
      obtain ⟨u,hu,hu1⟩:=cover_L2 (n:=t1) hbv' b3 hbsl hm1 hx (List.pairwise_iff_getElem.1 x3 m (m + 1) (by omega) hm1 (by omega)) (by omega) (by omega)
      have hx0:=hx _ (List.getElem_mem (show m < xs.length by omega))
      have hx1:=hx _ (List.getElem_mem hm1)
      have hxx:=List.pairwise_iff_getElem.1 x3 m (m + 1) (by omega) hm1 (by omega)
      rw [hM] at hu1
      have hcb:=colM_bounds bs M (xs[m]'(by omega)) 0
      have hpb:=mul_bd (a:=xs[m + 1] - (xs[m]'(by omega))) (b:=colM bs M (xs[m]'(by omega)) 0) (by omega) (by omega) hcb.1 (by omega)
      unfold measure_site_cover_L1
      dsimp only
      rw [hN,if_pos (by simpa using hm),hu,Option.bind_some]
      dsimp only
      rw [addI_one (by omega)]
      exact .inl ⟨_,rfl,rfl,by dsimp only; rw [strips_take hm1,hu1,h],by dsimp only; omega,by dsimp only; omega⟩) (fun t ⟨e,h,_⟩=>by
      unfold measure_site_cover_L1
      rw [e,hN,if_neg (by simp)]
      exact ⟨_,rfl,trivial,h⟩) (0,0) ⟨rfl,by
        cases xs with
        | nil=>rfl
        | cons a t=>rfl,by simp,by simp⟩ ((max 0 ((xs.length:Int) - 1)).toNat + 1) (by omega)
  rw [k1,Option.bind_some]
  cases f with
  | go _=>exact k2.elim
  | ret r=>exact k3.elim
  | ex i t =>
    dsimp only at k3 ⊢
    rw [k3,List.take_of_length_le (by omega),hcov]
end Go.Proofs.YtagkmlkhaekldaaGreat

namespace Go.Proofs.YtagkmlkhaekldaaGreat
open Go.Gb
set_option linter.unusedVariables false
set_option linter.unusedSimpArgs false
set_option linter.unusedSectionVars false
set_option linter.unusedVariables false
set_option linter.unusedSimpArgs false
set_option maxRecDepth 100000

def sto (v:Volume):Int:=if v.Extra = false∧RV v then (v.Box.Z1 - v.Box.Z0 + 2) / 3 else 0
def arR (r:Rect):Int:=(r.X1 - r.X0) * (r.Y1 - r.Y0)
def flo (v:Volume):Int:=if RV v then arR v.Box.Base * sto v else 0
theorem sto_eq (v:Volume):measure_Storeys v = some (sto v):=by
  unfold measure_Storeys sto
  rw [rv_eq]
  by_cases he:v.Extra = true
  · rw [if_pos he,Option.bind_some,if_pos rfl,if_neg (by simp [he])]
  · have he' : v.Extra = false := by simpa using he
    rw [if_neg he,Option.bind_some,Option.bind_some]
    by_cases h:RV v
    · have hr := h
      unfold RV at hr
      rw [decide_eq_true h, if_neg (by simp), if_pos ⟨he', h⟩, subI_some (by unfold inI; omega), Option.bind_some, addI_some (by unfold inI; omega), Option.bind_some, subI_some (by unfold inI; omega), Option.bind_some, quoI_pos (by omega) (by omega) (by omega), Option.bind_some, show v.Box.Z1 - v.Box.Z0 + 3 - 1 = v.Box.Z1 - v.Box.Z0 + 2 by omega]
    · rw [decide_eq_false h,if_pos (by simp),if_neg (fun g=>h g.2)]
theorem sto_bd (v:Volume):0 ≤ sto v∧sto v ≤ 1366:=by
  unfold sto
  split
  · rename_i h
    have hr:=h.2
    unfold RV at hr
    omega
  · decide
theorem arR_bd {r:Rect} (h:VR r):0 ≤ arR r∧arR r ≤ 1099511627776:=rect_area_bound h
theorem flo_bd (v:Volume):0 ≤ flo v∧flo v ≤ 4503599627370496:=by
  unfold flo
  split
  · rename_i h
    have h1:=arR_bd h.1
    have h2:=sto_bd v
    refine ⟨Int.mul_nonneg h1.1 h2.1,?_⟩
    have:=Int.mul_le_mul (c:=arR v.Box.Base) (d:=(1366:Int)) (a:=arR v.Box.Base) (b:=sto v) (Int.le_refl _) h2.2 h2.1 h1.1
    omega
  · decide
theorem flo_eq (v:Volume):measure_Floor v = some (flo v):=by
  have hb:=flo_bd v
  unfold measure_Floor
  rw [rv_eq,Option.bind_some,sto_eq]
  by_cases h:RV v
  · unfold flo at hb ⊢
    rw [if_pos h] at hb ⊢
    rw [decide_eq_true h,if_neg (by simp),rect_Area_eq h.1,Option.bind_some,Option.bind_some]
    unfold arR at hb ⊢
    rw [mulI_some (by unfold inI; omega),Option.bind_some]
  · unfold flo
    rw [decide_eq_false h,if_pos (by simp),if_neg h]
noncomputable def tra (p:Plan) (v:Volume):Int:=(measure_traffic p v).getD 0
theorem tra_eq {p:Plan} (hp:PlanS p) {v:Volume} (h:RV v):measure_traffic p v = some (tra p v)∧0 ≤ tra p v∧tra p v ≤ 1099511627776:=by
  unfold RV at h
  obtain ⟨n,h1,h2,h3⟩:=traffic_tot (v:=v) hp (by omega) (by omega)
  unfold tra
  rw [h1]
  exact ⟨rfl,h2,h3⟩
open Classical in
noncomputable def ar (l:List Rect):List Rect:=if RR l then l else []
theorem ar_RR (l:List Rect):RR (ar l):=by
  unfold ar
  split
  · rename_i h; exact h
  · exact RR_nil
def vols (d:Drawing):List Volume:=((allV d).take 40).filter fun v=>decide (RV v)
theorem vols_RV {d:Drawing} : ∀ v ∈ vols d,RV v:=fun v hv=>by
  have:=(List.mem_filter.1 hv).2
  exact of_decide_eq_true this
theorem vols_len (d:Drawing):(vols d).length ≤ 40:=by
  unfold vols
  have:=List.length_filter_le (fun v=>decide (RV v)) ((allV d).take 40)
  rw [List.length_take] at this
  omega
abbrev bs (l:List Volume):List Rect:=l.map fun v=>v.Box.Base
theorem bs_VR {l:List Volume} (h : ∀ v ∈ l,RV v) : ∀ r ∈ bs l,VR r:=fun r hr=>by
  obtain ⟨v,hv,rfl⟩:=List.mem_map.1 hr
  exact (h v hv).1
def ent (a c f s h u b t:Int):List Entry:=[⟨⟨#[97,114,101,97]⟩,a⟩,⟨⟨#[99,111,118,101,114]⟩,c⟩,⟨⟨#[102,108,111,111,114]⟩,f⟩,⟨⟨#[102,108,111,111,114,115]⟩,s⟩,⟨⟨#[104,101,105,103,104,116]⟩,h⟩,⟨⟨#[104,111,109,101,115]⟩,u⟩,⟨⟨#[114,117,110,111,102,102]⟩,c⟩,⟨⟨#[115,101,116,98,97,99,107]⟩,b⟩,⟨⟨#[116,114,97,102,102,105,99]⟩,t⟩]
theorem mOf_L0 {p:Plan} {A:List Rect} {vs:List Volume} (hl:vs.length ≤ 1000000) : ∃ i,iterL (measure_Of_L0 vs) (vs.length + 1) (⟨p,A,[]⟩,0) = some (.ex 0 (⟨p,A,(vs.take 40).filter (fun v=>decide (RV v))⟩,i)):=by
  obtain ⟨f,k1,k2,k3⟩:=loop_up (body:=measure_Of_L0 vs) (fun i t=>t.2 = ((i:Nat):Int)∧t.1 = ⟨p,A,((vs.take 40).take i).filter (fun v=>decide (RV v))⟩) vs.length
    (fun f=>match f with | .ex j t=>j = 0∧t.1 = ⟨p,A,(vs.take 40).filter (fun v=>decide (RV v))⟩ | _=>False) (fun i t hi ⟨e,h⟩=>by
      obtain ⟨t1,t2⟩:=t
      dsimp only at e h
      subst e h
      have hlen:(((vs.take 40).take i).filter (fun v=>decide (RV v))).length ≤ 40:=by
        have h1:=List.length_filter_le (fun v=>decide (RV v)) ((vs.take 40).take i)
        rw [List.length_take,List.length_take] at h1
        omega
      unfold measure_Of_L0
      dsimp only
      rw [if_pos (by simpa using hi),getI_nat hi,Option.bind_some]
      by_cases c:i < 40
      · have hi4 : i < (vs.take 40).length := by rw [List.length_take]; omega
        have e2:(vs.take 40).take (i + 1) = (vs.take 40).take i ++ [vs[i]]:=by
          rw [List.take_succ_eq_append_getElem hi4,List.getElem_take]
        rw [if_pos (by simp; omega),rv_eq,Option.bind_some,Option.bind_some]
        by_cases r:RV vs[i]
        · rw [decide_eq_true r, if_pos rfl, appI_some (by simp; omega), Option.bind_some, Option.bind_some, addI_one (by omega)]
          exact .inl ⟨_,rfl,rfl,by dsimp only; rw [e2,List.filter_append]; simp [r]⟩
        · rw [decide_eq_false r, if_neg (by simp), Option.bind_some, addI_one (by omega)]
          exact .inl ⟨_,rfl,rfl,by dsimp only; rw [e2,List.filter_append]; simp [r]⟩
      · rw [if_neg (by simp; omega), Option.bind_some, if_neg (by simp), Option.bind_some, addI_one (by omega)]
        refine .inl ⟨_,rfl,rfl,?_⟩
        dsimp only
        have e4 : ∀ m,40 ≤ m → (vs.take 40).take m = vs.take 40:=fun m hm=>List.take_of_length_le (by rw [List.length_take]; omega)
        rw [e4 i (by omega),e4 (i + 1) (by omega)]) (fun t ⟨e,h⟩=>by
      unfold measure_Of_L0
      rw [e,if_neg (by simp)]
      rw [List.take_of_length_le (by rw [List.length_take]; omega)] at h
      exact ⟨_,rfl,trivial,rfl,h⟩) (⟨p,A,[]⟩,0) ⟨rfl,by simp⟩ (vs.length + 1) (by omega)
  rw [k1]
  cases f with
  | go _=>exact k2.elim
  | ret r=>exact k3.elim
  | ex j t =>
    obtain ⟨rfl,h1⟩:=k3
    obtain ⟨t1,t2⟩:=t
    dsimp only at h1
    subst h1
    exact ⟨_,rfl⟩
theorem mOf_L1 {t:MeasureSite} {a c f s h u b r:Int} (h0:measure_site_lot t = some a) (h1:measure_site_cover t = some c) (h2:measure_site_floor t = some f) (h3:measure_site_floors t = some s) (h4:measure_site_height t = some h) (h5:measure_site_homes t = some u) (h6:measure_site_setback t = some b) (h7:measure_site_traffic t = some r) :
    ∃ i,iterL (measure_Of_L1 t) 10 ([],0) = some (.ex 2 (ent a c f s h u b r,i)):=by
  have hE : ∀ (i:Nat) (hi:i < (ent a c f s h u b r).length),∃ w,getI measure_rows (i:Int) = some w∧w.of t = some ((ent a c f s h u b r)[i]'hi).N∧w.name = ((ent a c f s h u b r)[i]'hi).Name:=fun i hi=>match i,hi with
    | 0,_=>⟨_,rfl,h0,rfl⟩ | 1,_=>⟨_,rfl,h1,rfl⟩ | 2,_=>⟨_,rfl,h2,rfl⟩ | 3,_=>⟨_,rfl,h3,rfl⟩ | 4,_=>⟨_,rfl,h4,rfl⟩
    | 5,_=>⟨_,rfl,h5,rfl⟩ | 6,_=>⟨_,rfl,h1,rfl⟩ | 7,_=>⟨_,rfl,h6,rfl⟩ | 8,_=>⟨_,rfl,h7,rfl⟩ | n + 9,h=>absurd h (by show ¬ n + 9 < 9; omega)
  have hlen:(ent a c f s h u b r).length = 9:=rfl
  generalize ent a c f s h u b r = E at hE hlen
  obtain ⟨g,k1,k2,k3⟩:=loop_up (body:=measure_Of_L1 t) (fun i x=>x.2 = ((i:Nat):Int)∧x.1 = E.take i) 9
    (fun g=>match g with | .ex j x=>j = 2∧x.1 = E | _=>False) (fun i x hi ⟨e,hx⟩=>by
      obtain ⟨x1,x2⟩:=x
      dsimp only at e hx
      subst e
      obtain ⟨w,w1,w2,w3⟩:=hE i (by omega)
      have hle:x1.length ≤ 9:=by rw [hx,List.length_take]; omega
      unfold measure_Of_L1
      dsimp only
      rw [if_pos (by simp; omega),w1,Option.bind_some,w2,Option.bind_some,w3,appI_some (by simp; omega),Option.bind_some,addI_one (by omega)]
      refine .inl ⟨_,rfl,rfl,?_⟩
      dsimp only
      rw [List.take_succ_eq_append_getElem (by omega),hx]) (fun x ⟨e,hx⟩=>by
      unfold measure_Of_L1
      rw [e,if_neg (by simp)]
      rw [List.take_of_length_le (by omega)] at hx
      exact ⟨_,rfl,trivial,rfl,hx⟩) ([],0) ⟨rfl,by simp⟩ 10 (by omega)
  rw [k1]
  cases g with
  | go _=>exact k2.elim
  | ret r=>exact k3.elim
  | ex j x =>
    obtain ⟨rfl,e⟩:=k3
    obtain ⟨x1,x2⟩:=x
    dsimp only at e
    subst e
    exact ⟨_,rfl⟩
/-- All measures of a drawing. -/
theorem of_eq {p:Plan} {lot:Lot} {d:Drawing} (hp:PlanS p) (hph:d.Phases.length ≤ 100000) (hl:(allV d).length ≤ 1000000) (hla:lot.Area.length ≤ 100000) :
    ∃ B,SB (ar lot.Area) (bs (vols d)) B∧measure_Of p lot d = some (ent (areaL (ar lot.Area)) (covM (bs (vols d)) 1048576) (sumL flo (vols d)) (maxL sto (vols d)) (maxL (fun v=>v.Box.Z1) (vols d)) (sumL (fun v=>v.Units) (vols d)) B (sumL (tra p) (vols d))):=by
  have hV:=vols_RV (d:=d)
  have hVl:=vols_len d
  obtain ⟨i,hi⟩:=mOf_L0 (p:=p) (A:=ar lot.Area) hl
  unfold measure_Of
  have e0 : ∃ b,region_Right lot.Area = some b∧(if b = true then some (⟨p,lot.Area,[]⟩:MeasureSite) else some ⟨p,[],[]⟩) = some ⟨p,ar lot.Area,[]⟩:=by
    unfold ar
    by_cases h:RR lot.Area
    · exact ⟨true,region_Right_true h,by rw [if_pos rfl,if_pos h]⟩
    · exact ⟨false,region_Right_false hla h,by rw [if_neg (by simp),if_neg h]⟩
  obtain ⟨b,hb,he⟩:=e0
  rw [hb,Option.bind_some,he,Option.bind_some,volumesM hph hl (Int.le_refl _),Option.bind_some,hi,Option.bind_some]
  dsimp only
  rw [show List.filter (fun v=>decide (RV v)) (List.take 40 (allV d)) = vols d from rfl]
  have hR:=ar_RR lot.Area
  generalize ar lot.Area = A at hR
  generalize vols d = V at hV hVl
  obtain ⟨B,hB,hSB⟩:=setback_eq (s:=⟨p,A,V⟩) hR (fun v hv=>(hV v hv).1) (by dsimp only; omega)
  obtain ⟨j,hj⟩:=mOf_L1 (t:=⟨p,A,V⟩) (a:=areaL A) (c:=covM (bs V) 1048576) (f:=sumL flo V) (s:=maxL sto V) (h:=maxL (fun v=>v.Box.Z1) V) (u:=sumL (fun v=>v.Units) V) (b:=B) (r:=sumL (tra p) V)
    (by unfold measure_site_lot; dsimp only; rw [region_Area_fine hR]; rfl)
    (cover_eq (fun v hv=>(hV v hv).1) (by dsimp only; omega))
    (by unfold measure_site_floor; rw [site_sum (g:=flo) (by dsimp only; omega) fun v _=>⟨flo_eq v,flo_bd v⟩]; rfl)
    (by unfold measure_site_floors; rw [site_greatest (g:=sto) (by dsimp only; omega) fun v _=>sto_eq v]; rfl)
    (by unfold measure_site_height; rw [site_greatest (f:=measure_site__height_1) (g:=fun v=>v.Box.Z1) (by dsimp only; omega) fun v _=>rfl]; rfl)
    (by unfold measure_site_homes; rw [site_sum (f:=measure_site__homes_1) (g:=fun v=>v.Units) (by dsimp only; omega) fun v hv=>⟨rfl,by have:=hV v hv; unfold RV at this; omega⟩]; rfl)
    hB
    (by
      unfold measure_site_traffic
      rw [site_sum (g:=tra p) (by dsimp only; omega) fun v hv=>by
        obtain ⟨h1,h2,h3⟩:=tra_eq hp (hV v hv)
        refine ⟨?_,h2,by omega⟩
        unfold measure_site__traffic_1
        dsimp only
        rw [h1]; rfl]
      rfl)
  rw [hj,Option.bind_some]
  exact ⟨B,hSB,rfl⟩
end Go.Proofs.YtagkmlkhaekldaaGreat

namespace Go.Proofs.YtagkmlkhaekldaaGreat
open Go.Gb
set_option linter.unusedVariables false
set_option linter.unusedSimpArgs false
set_option linter.unusedSectionVars false
set_option linter.unusedVariables false
set_option linter.unusedSimpArgs false
set_option maxRecDepth 100000

def sqr (r:Rect):List Point:=[⟨r.X0,r.Y0⟩,⟨r.X1,r.Y0⟩,⟨r.X1,r.Y1⟩,⟨r.X0,r.Y1⟩]
def sqrS (r:Rect):List PolygonSide:=[⟨⟨r.X0,r.Y0⟩,⟨r.X1,r.Y0⟩⟩,⟨⟨r.X1,r.Y0⟩,⟨r.X1,r.Y1⟩⟩,⟨⟨r.X1,r.Y1⟩,⟨r.X0,r.Y1⟩⟩,⟨⟨r.X0,r.Y1⟩,⟨r.X0,r.Y0⟩⟩]
theorem square_eq (r:Rect):law20_square r = some (sqr r):=rfl
theorem sqr_VR {r:Rect} (h:polygon_Right (sqr r) = some true):VR r:=by
  obtain ⟨b,hb,hP⟩:=pright_eq (sqr r)
  rw [hb] at h
  obtain rfl:=Option.some.inj h
  obtain ⟨_,_,h1,h2,_⟩:=hP.1 rfl
  have a0:=h1 0 (show 0 < 4 by decide)
  have a2:=h1 2 (show 2 < 4 by decide)
  have b1:=h2 1 (show 1 < 4 by decide) (by decide)
  have b3:=h2 3 (show 3 < 4 by decide) (by decide)
  have e0:nx (sqr r) 0 = 1:=rfl
  have e1:nx (sqr r) 1 = 2:=rfl
  have e2:nx (sqr r) 2 = 3:=rfl
  have e3:nx (sqr r) 3 = 0:=by show (3 + 1) % 4 = 0; rfl
  have p0:pt (sqr r) 0 = ⟨r.X0,r.Y0⟩:=rfl
  have p1:pt (sqr r) 1 = ⟨r.X1,r.Y0⟩:=rfl
  have p2:pt (sqr r) 2 = ⟨r.X1,r.Y1⟩:=rfl
  have p3:pt (sqr r) 3 = ⟨r.X0,r.Y1⟩:=rfl
  unfold q1 at a0 a2
  unfold lss at b1 b3
  rw [e0,e1,p0,p1,p2] at a0
  rw [e2,e3,p2,p3,p0] at a2
  rw [p0,p1] at b1
  rw [p0,p3] at b3
  simp at a0 a2 b1 b3
  unfold VR
  omega
theorem sqr_region {r:Rect} (h:polygon_Right (sqr r) = some true):polygon_Region (sqr r) = some ([r],0):=by
  have hv:=sqr_VR h
  unfold VR at hv
  obtain ⟨a,c,b,d⟩:=r
  dsimp only at hv
  have h1:iterL (polygon_Region_L0 (sqr ⟨a,c,b,d⟩)) ((sqr ⟨a,c,b,d⟩).length + 1) (([]:List Int),0) = some (.ex 0 ([a,b,b,a],4)):=by rfl
  have h2:sortInts [a,b,b,a] = some [a,a,b,b]:=sort_is (by simp) (by
    refine List.Perm.cons a ?_
    exact (List.perm_append_comm (l₁:=[b,b]) (l₂:=[a]))) (by simp; omega)
  have h3:compactInts [a,a,b,b] = some [a,b]:=compact_is (by simp) (by simp; omega) (by simp; omega) (fun x=>by simp)
  have h4:polygon_around (sqr ⟨a,c,b,d⟩) = some (sqrS ⟨a,c,b,d⟩):=by kernel_rfl
  have h5:sortInts [c,d] = some [c,d]:=sort_is (by simp) (List.Perm.refl _) (by simp; omega)
  have h6:iterL (polygon_Region_L2 [a,b] (sqrS ⟨a,c,b,d⟩) (([]:List Rect),0)) ((sqrS ⟨a,c,b,d⟩).length + 1) (([]:List Int),0) = some (.ex 4 ([c,d],4)):=by
    have u0:polygon_side_upright (⟨⟨a,c⟩,⟨b,c⟩⟩:PolygonSide) = some false:=by
      have:(a == b) = false:=by rw [beq_eq_false_iff_ne]; omega
      exact congrArg some this
    have u1:polygon_side_upright (⟨⟨b,c⟩,⟨b,d⟩⟩:PolygonSide) = some true:=congrArg some (show (b == b) = true by simp)
    have u2:polygon_side_upright (⟨⟨b,d⟩,⟨a,d⟩⟩:PolygonSide) = some false:=by
      have:(b == a) = false:=by rw [beq_eq_false_iff_ne]; omega
      exact congrArg some this
    have u3:polygon_side_upright (⟨⟨a,d⟩,⟨a,c⟩⟩:PolygonSide) = some true:=congrArg some (show (a == a) = true by simp)
    have m0:decide (min a b ≤ a) = true:=by simp; omega
    have m1:decide (a < max a b) = true:=by simp; omega
    have m2:decide (min b a ≤ a) = true:=by simp; omega
    have m3:decide (a < max b a) = true:=by simp; omega
    have g : ∀ j:Int,getI [a,b] (0:Int) = some a:=fun _=>rfl
    have s0:polygon_Region_L2 [a,b] (sqrS ⟨a,c,b,d⟩) (([]:List Rect),0) (([]:List Int),0) = some (.go ([c],1)):=by
      unfold polygon_Region_L2
      rw [if_pos (show decide ((0:Int) < ((sqrS ⟨a,c,b,d⟩).length:Int)) = true from rfl),show getI (sqrS ⟨a,c,b,d⟩) (0:Int) = some (⟨⟨a,c⟩,⟨b,c⟩⟩:PolygonSide) from rfl,Option.bind_some,u0,Option.bind_some]
      dsimp only
      rw [if_pos (show (!false) = true from rfl),show getI [a,b] (0:Int) = some a from rfl,Option.bind_some,Option.bind_some,Option.bind_some,m0,if_pos rfl,Option.bind_some,m1]
      rfl
    have s1:polygon_Region_L2 [a,b] (sqrS ⟨a,c,b,d⟩) (([]:List Rect),0) ([c],1) = some (.go ([c],2)):=by
      unfold polygon_Region_L2
      rw [if_pos (show decide ((1:Int) < ((sqrS ⟨a,c,b,d⟩).length:Int)) = true from rfl),show getI (sqrS ⟨a,c,b,d⟩) (1:Int) = some (⟨⟨b,c⟩,⟨b,d⟩⟩:PolygonSide) from rfl,Option.bind_some,u1,Option.bind_some]
      rfl
    have s2:polygon_Region_L2 [a,b] (sqrS ⟨a,c,b,d⟩) (([]:List Rect),0) ([c],2) = some (.go ([c,d],3)):=by
      unfold polygon_Region_L2
      rw [if_pos (show decide ((2:Int) < ((sqrS ⟨a,c,b,d⟩).length:Int)) = true from rfl),show getI (sqrS ⟨a,c,b,d⟩) (2:Int) = some (⟨⟨b,d⟩,⟨a,d⟩⟩:PolygonSide) from rfl,Option.bind_some,u2,Option.bind_some]
      dsimp only
      rw [if_pos (show (!false) = true from rfl),show getI [a,b] (0:Int) = some a from rfl,Option.bind_some,Option.bind_some,Option.bind_some,m2,if_pos rfl,Option.bind_some,m3]
      rfl
    have s3:polygon_Region_L2 [a,b] (sqrS ⟨a,c,b,d⟩) (([]:List Rect),0) ([c,d],3) = some (.go ([c,d],4)):=by
      unfold polygon_Region_L2
      rw [if_pos (show decide ((3:Int) < ((sqrS ⟨a,c,b,d⟩).length:Int)) = true from rfl),show getI (sqrS ⟨a,c,b,d⟩) (3:Int) = some (⟨⟨a,d⟩,⟨a,c⟩⟩:PolygonSide) from rfl,Option.bind_some,u3,Option.bind_some]
      rfl
    have s4:polygon_Region_L2 [a,b] (sqrS ⟨a,c,b,d⟩) (([]:List Rect),0) ([c,d],4) = some (.ex 4 ([c,d],4)):=rfl
    show iterL _ 5 _ = _
    simp only [iterL,s0,s1,s2,s3,s4]
  have h7:iterL (polygon_Region_L3 [a,b] (([]:List Rect),0) [c,d]) 9 (([]:List Rect),0) = some (.ex 6 ([⟨a,c,b,d⟩],2)):=by rfl
  have h8:polygon_Region_L1 [a,b] (sqrS ⟨a,c,b,d⟩) 1 (([]:List Rect),0) = some (.go ([⟨a,c,b,d⟩],1)):=by
    unfold polygon_Region_L1
    rw [if_pos (by decide),h6,Option.bind_some]
    dsimp only
    rw [h5,Option.bind_some]
    have h7' : iterL (polygon_Region_L3 [a,b] (([]:List Rect),0) [c,d]) (([a,b]:List Int).length + (sqrS ⟨a,c,b,d⟩).length + ([]:List Rect).length + ([c,d]:List Int).length + 1) (([]:List Rect),0) = some (.ex 6 ([⟨a,c,b,d⟩],2)):=h7
    rw [h7', Option.bind_some]
    rfl
  have h9:polygon_Region_L1 [a,b] (sqrS ⟨a,c,b,d⟩) 1 ([⟨a,c,b,d⟩],1) = some (.ex 2 ([⟨a,c,b,d⟩],1)):=by rfl
  unfold polygon_Region
  rw [h,Option.bind_some,if_neg (by simp),h1,Option.bind_some]
  dsimp only
  rw [h2,Option.bind_some,h3,Option.bind_some,h4,Option.bind_some,show subI (([a,b]:List Int).length:Int) 1 = some 1 from rfl,Option.bind_some]
  have h10:iterL (polygon_Region_L1 [a,b] (sqrS ⟨a,c,b,d⟩) 1) ((1:Int).toNat + 1) (([]:List Rect),0) = some (.ex 2 ([⟨a,c,b,d⟩],1)):=by
    show iterL _ 2 _ = _
    simp only [iterL,h8,h9,Option.bind_some]
  rw [h10,Option.bind_some]
  rfl
/-- what a volume loads a cap on a rectangle -/
theorem load_sqr {p:Plan} (hp:PlanS p) {r:Rect} (h:polygon_Right (sqr r) = some true) {v:Volume} (hv:RV v) (nm:ByteArray) (k l:Int) :
    measure_Load p ⟨nm,k,l,sqr r⟩ v = some (if comm r v.Box.Base = true then (if k = 0 then v.Units else if k = 1 then tra p v else if k = 2 then arR v.Box.Base else 0) else 0):=by
  have hr:=sqr_VR h
  have ht:=tra_eq hp hv
  unfold measure_Load
  rw [rv_eq,Option.bind_some,decide_eq_true hv,if_neg (by simp),sqr_region h,Option.bind_some]
  dsimp only
  obtain ⟨c,hc,_⟩:=inter_eq hr hv.1
  rw [containsRc_any (s:=[r]) (g:=fun x=>comm r v.Box.Base) (by simp) (fun x hx=>by
    obtain rfl:=List.mem_singleton.1 hx
    unfold measure_Load_1
    rw [hc]; rfl)]
  cases hm:comm r v.Box.Base
  · simp [hm]
  · simp only [List.any_cons, hm, Bool.true_or]
    rw [rect_Area_eq hv.1,ht.1]
    by_cases c0:k = 0
    · subst c0; simp
    · by_cases c1 : k = 1
      · subst c1; simp
      · by_cases c2 : k = 2
        · subst c2; simp [arR]
        · simp [c0,c1,c2]
end Go.Proofs.YtagkmlkhaekldaaGreat

namespace Go.Proofs.YtagkmlkhaekldaaGreat
open Go.Gb
set_option linter.unusedVariables false
set_option linter.unusedSimpArgs false
set_option linter.unusedSectionVars false
set_option linter.unusedVariables false
set_option linter.unusedSimpArgs false
set_option maxRecDepth 100000

theorem esame_eq {a b:List Entry} (hb:a.length ≤ 1000000):ref20_Same a b = some (decide (a = b)):=by
  unfold ref20_Same
  by_cases hl:a.length = b.length
  · rw [if_neg (by simp [hl])]
    rcases iter_find (l:=a.zip b) (body:=ref20_Same_L0 a b) (k:=0) (fun p=>p.1 ≠ p.2) (fun _=>false) (by
      intro i hi
      simp only [List.length_zip] at hi
      have h1:i < a.length:=by omega
      have h2:i < b.length:=by omega
      unfold ref20_Same_L0
      rw [if_pos (by simpa using h1),getI_nat h1,Option.bind_some,getI_nat h2,Option.bind_some]
      simp only [List.getElem_zip]
      by_cases he:a[i] = b[i]
      · right
        rw [if_neg (by simpa using he),addI_one (show i < 4611686018427387904 by omega),Option.bind_some]
        exact ⟨by simpa using he,rfl⟩
      · left
        rw [if_pos (by simpa using he)]
        exact ⟨he,rfl⟩) (by
      have e:((a.zip b).length:Int) = (a.length:Int):=by simp; omega
      rw [e]
      unfold ref20_Same_L0
      rw [if_neg (by simp)]) (fuel:=a.length + b.length + 1) (by simp; omega) with ⟨i,hi,hp,_,h⟩ | ⟨hp,h⟩
    · rw [h, Option.bind_some]
      dsimp only
      congr 1
      symm
      rw [decide_eq_false_iff_not]
      intro e; subst e; simp at hp
    · rw [h, Option.bind_some]
      dsimp only
      congr 1
      symm
      rw [decide_eq_true_iff]
      refine List.ext_getElem hl fun i h1 h2=>?_
      have:=hp (a[i],b[i]) (by
        rw [List.mem_iff_getElem]
        exact ⟨i,by simp; omega,by simp⟩)
      simpa using this
  · rw [if_pos (by simp; omega)]
    congr 1
    symm
    rw [decide_eq_false_iff_not]
    intro e; exact hl (by rw [e])
theorem addW1 {i:Nat} (h:i < 4611686018427387904):addW (i:Int) 1 = some ((i + 1:Nat):Int):=by
  rw [addW_in (by unfold inI; omega)]; simp
theorem few20_L0 (d:Drawing) (hd:d.Phases.length ≤ reachLen) (hv : ∀ x ∈ d.Phases,x.Volumes.length ≤ reachLen) : ∃ t,iterL (ref20_Few_L0 d) (d.Phases.length + 1) (0,0) = some (.ex 0 t)∧(d.Phases.length ≤ 8 → t.1 = ((allV d).length:Int)):=by
  unfold reachLen at *
  obtain ⟨f,k1,k2,k3⟩:=loop_up (body:=ref20_Few_L0 d) (fun i t=>t.2 = ((i:Nat):Int)∧(d.Phases.length ≤ 8 → t.1 = ((((d.Phases.take i).flatMap (·.Volumes)).length:Nat):Int)∧t.1 ≤ 140737488351232 * i)) d.Phases.length
    (fun f=>match f with | .ex j t=>j = 0∧(d.Phases.length ≤ 8 → t.1 = ((allV d).length:Int)) | _=>False) (fun i t hi ⟨e,h⟩=>by
      have h9:=hv _ (List.getElem_mem hi)
      unfold ref20_Few_L0
      rw [e,if_pos (by simpa using hi),getI_nat hi,Option.bind_some]
      show (∃ s', (addW t.1 (d.Phases[i].Volumes.length : Int)).bind _ = _ ∧ _) ∨ _
      rw [show addW t.1 (d.Phases[i].Volumes.length:Int) = some (IntKind.i64.wrap (t.1 + (d.Phases[i].Volumes.length:Int))) from rfl,Option.bind_some,addW1 (by omega)]
      refine .inl ⟨_,rfl,rfl,fun h8=>?_⟩
      obtain ⟨h1,h2⟩:=h h8
      dsimp only
      have e1:IntKind.i64.wrap (t.1 + (d.Phases[i].Volumes.length:Int)) = t.1 + (d.Phases[i].Volumes.length:Int):=IntWalk.i64_in _ (show inI _ by unfold inI; omega)
      rw [e1]
      refine ⟨?_,by omega⟩
      rw [List.take_succ_eq_append_getElem hi,List.flatMap_append,List.length_append,h1]
      simp) (fun t ⟨e,h⟩=>by
      unfold ref20_Few_L0
      rw [e,if_neg (by simp)]
      rw [List.take_length] at h
      exact ⟨_,rfl,trivial,rfl,fun h8=>(h h8).1⟩) (0,0) ⟨rfl,fun _=>by simp⟩ (d.Phases.length + 1) (by omega)
  rw [k1]
  cases f with
  | go _=>exact k2.elim
  | ret r=>exact k3.elim
  | ex j t=>obtain ⟨rfl,h⟩:=k3; exact ⟨t,rfl,h⟩
theorem few20 (p:Plan) (lot:Lot) (d:Drawing) (hd:d.Phases.length ≤ reachLen) (hv : ∀ x ∈ d.Phases,x.Volumes.length ≤ reachLen) (hT:p.Tables.length ≤ reachLen) : ∃ b,ref20_Few p lot d = some b∧(b = true → PlanS p∧lot.Area.length ≤ 12∧d.Phases.length ≤ 8∧(allV d).length ≤ 50):=by
  obtain ⟨t,h1,h2⟩:=few20_L0 d hd hv
  unfold reachLen at *
  unfold ref20_Few
  rw [h1,Option.bind_some]
  dsimp only
  obtain ⟨f,k1,k2,k3⟩:=loop_up (body:=ref20_Few_L1 p) (fun i s=>s = ((i:Nat):Int)∧∀ m (h:m < p.Tables.length),m < i → p.Tables[m].Rows.length ≤ 10) p.Tables.length
    (fun f=>match f with | .ex j s=>∀ m (h:m < p.Tables.length),p.Tables[m].Rows.length ≤ 10 | .ret r=>r = false | _=>False) (fun i s hi ⟨e,h⟩=>by
      unfold ref20_Few_L1
      rw [e,if_pos (by simpa using hi),getI_nat hi,Option.bind_some]
      by_cases c:p.Tables[i].Rows.length ≤ 10
      · rw [if_neg (by simp; omega), addW1 (by omega)]
        refine .inl ⟨_,rfl,rfl,fun m hm hmi=>?_⟩
        by_cases e:m = i
        · subst e; exact c
        · exact h m hm (by omega)
      · rw [if_pos (by simp; omega)]
        exact .inr ⟨_,rfl,trivial,rfl⟩) (fun s ⟨e,h⟩=>by
      unfold ref20_Few_L1
      rw [e,if_neg (by simp)]
      exact ⟨_,rfl,trivial,fun m hm=>h m hm hm⟩) 0 ⟨rfl,fun m _ h=>by omega⟩ (p.Tables.length + 1) (by omega)
  rw [k1,Option.bind_some]
  cases f with
  | go _=>exact k2.elim
  | ret r=>subst k3; exact ⟨false,rfl,by simp⟩
  | ex j s =>
    dsimp only at k3 ⊢
    refine ⟨_,rfl,fun g=>?_⟩
    simp only [Bool.and_eq_true,decide_eq_true_eq] at g
    have h3:=h2 (by omega)
    refine ⟨⟨by omega,fun t ht=>?_⟩,by omega,by omega,by omega⟩
    obtain ⟨i,hi,rfl⟩:=List.mem_iff_getElem.1 ht
    exact k3 i hi
theorem cells_one (r:Rect) (x y:Int):cells [r] x y ↔ rin r x y:=by simp [cells]
theorem SQ_one {R b:Rect} (hb:VR b) (n:Int):SQ [R] b n ↔ n ≤ 0 ∨ (R.X0 ≤ b.X0 - n∧b.X1 + n ≤ R.X1∧R.Y0 ≤ b.Y0 - n∧b.Y1 + n ≤ R.Y1):=by
  unfold SQ
  unfold VR at hb
  constructor
  · rintro (h | h)
    · exact .inl h
    · by_cases c : n ≤ 0
      · exact .inl c
      · have h1 := (cells_one _ _ _).1 (h (b.X0 - n) (b.Y0 - n) (by unfold rin grw; dsimp only; omega))
        have h2:=(cells_one _ _ _).1 (h (b.X1 + n - 1) (b.Y1 + n - 1) (by unfold rin grw; dsimp only; omega))
        unfold rin at h1 h2
        omega
  · rintro (h | h)
    · exact .inl h
    · refine .inr fun x y hxy => (cells_one _ _ _).2 ?_
      unfold rin grw at hxy
      unfold rin
      dsimp only at hxy
      omega
def exP:Plan:=⟨[],[(⟨(⟨#[116,114,97,102,102,105,99]⟩:ByteArray),[(⟨(⟨#[104,111,109,101]⟩:ByteArray),50⟩:Entry)],20⟩:Table)],[],[],[],[],[],0⟩
def exA:Volume:=⟨⟨⟨2,2,5,4⟩,0,7⟩,0,4,false⟩
def exB:Volume:=⟨⟨⟨4,2,7,3⟩,7,9⟩,1,0,false⟩
theorem exP_S:PlanS exP:=⟨by decide,by decide⟩
theorem exA_R:RV exA:=by decide
theorem exB_R:RV exB:=by decide
theorem small_of:measure_Of exP ⟨1,0,[⟨0,0,10,8⟩],[]⟩ ⟨1,[⟨[exA,exB],[]⟩]⟩ = some (ent 80 8 21 3 9 4 2 10):=by
  obtain ⟨B,hB,h⟩:=of_eq (p:=exP) (lot:=⟨1,0,[⟨0,0,10,8⟩],[]⟩) (d:=⟨1,[⟨[exA,exB],[]⟩]⟩) exP_S (by decide) (by decide) (by decide)
  have hV:vols ⟨1,[⟨[exA,exB],[]⟩]⟩ = [exA,exB]:=by decide
  have hA:ar [⟨0,0,10,8⟩] = [⟨0,0,10,8⟩]:=if_pos (rrB_spec (by decide))
  rw [hV,hA] at h hB
  have hB2:SB [⟨0,0,10,8⟩] (bs [exA,exB]) 2:=⟨by decide,by decide,fun n h0 h1=>by
    have e1:=SQ_one (R:=⟨0,0,10,8⟩) exA_R.1 n
    have e2:=SQ_one (R:=⟨0,0,10,8⟩) exB_R.1 n
    constructor
    · intro hn b hb
      simp [bs] at hb
      rcases hb with rfl | rfl
      · exact e1.2 (by show n ≤ 0 ∨ ((0:Int) ≤ 2 - n∧5 + n ≤ 10∧0 ≤ 2 - n∧4 + n ≤ 8); omega)
      · exact e2.2 (by show n ≤ 0 ∨ ((0:Int) ≤ 4 - n∧7 + n ≤ 10∧0 ≤ 2 - n∧3 + n ≤ 8); omega)
    · intro hq
      have h3:n ≤ 0 ∨ ((0:Int) ≤ 2 - n∧5 + n ≤ 10∧0 ≤ 2 - n∧4 + n ≤ 8):=e1.1 (hq _ (by simp [bs]))
      omega⟩
  have hBe:=hB.unique hB2 fun _=>Iff.rfl
  subst hBe
  have hc:covM (bs [exA,exB]) 1048576 = 8:=by
    have hf:RR [⟨2,2,5,4⟩,⟨5,2,7,3⟩]:=rrB_spec (by decide)
    rw [covM_eq (out:=[⟨2,2,5,4⟩,⟨5,2,7,3⟩]) hf.1 (hf.2.2.congr fun x y=>by
      simp [cells,bs,rin,exA,exB]; omega) rfl]
    rfl
  have ht1:tra exP exA = 9:=by unfold tra; rw [show measure_traffic exP exA = some 9 by kernel_rfl]; rfl
  have ht2:tra exP exB = 1:=by unfold tra; rw [show measure_traffic exP exB = some 1 by kernel_rfl]; rfl
  have ht:sumL (tra exP) [exA,exB] = 10:=by simp only [sumL,ht1,ht2]; rfl
  rw [h,hc,ht]
  rfl
theorem small_true:law20_small = some true:=by
  unfold law20_small
  have e1:law20_box 2 2 5 4 0 7 0 = some (⟨⟨⟨2,2,5,4⟩,0,7⟩,0,0,false⟩:Volume):=rfl
  have e2:law20_box 4 2 7 3 7 9 1 = some exB:=rfl
  have o:=small_of
  unfold exP at o
  rw [e1,Option.bind_some,e2,Option.bind_some]
  change (measure_Of exP ⟨1,0,[⟨0,0,10,8⟩],[]⟩ ⟨1,[⟨[exA,exB],[]⟩]⟩).bind _ = _
  rw [small_of,Option.bind_some,square_eq,Option.bind_some]
  have l1:measure_Load exP ⟨⟨#[]⟩,2,0,sqr ⟨0,0,5,5⟩⟩ exB = some 3:=(load_sqr exP_S (by kernel_rfl) exB_R _ 2 0).trans (by rfl)
  have l2:measure_Load exP ⟨⟨#[]⟩,2,0,sqr ⟨7,0,9,9⟩⟩ exB = some 0:=(load_sqr exP_S (by kernel_rfl) exB_R _ 2 0).trans (by rfl)
  change (measure_Load exP ⟨⟨#[]⟩,2,0,sqr ⟨0,0,5,5⟩⟩ exB).bind _ = _
  rw [l1,Option.bind_some,square_eq,Option.bind_some]
  change (measure_Load exP ⟨⟨#[]⟩,2,0,sqr ⟨7,0,9,9⟩⟩ exB).bind _ = _
  rw [l2,Option.bind_some]
  change (ref20_Same (ent 80 8 21 3 9 4 2 10) (ent 80 8 21 3 9 4 2 10)).bind _ = _
  rw [esame_eq (by decide),decide_eq_true rfl,Option.bind_some,if_pos (by decide)]
  have s1:measure_Storeys exA = some 3:=sto_eq exA
  have s2:measure_Storeys exB = some 1:=sto_eq exB
  have s3:measure_Floor exA = some 18:=flo_eq exA
  have s4:measure_Floor exB = some 3:=flo_eq exB
  change ((measure_Storeys exA).bind _).bind _ = _
  rw [s1,Option.bind_some,Option.bind_some,if_pos (by decide)]
  change ((measure_Floor exA).bind _).bind _ = _
  rw [s3,Option.bind_some,Option.bind_some,if_pos (by decide),s2,Option.bind_some,Option.bind_some,if_pos (by decide),s4]
  rfl
end Go.Proofs.YtagkmlkhaekldaaGreat

namespace Go.Proofs.YtagkmlkhaekldaaGreat
open Go.Gb
set_option linter.unusedVariables false
set_option linter.unusedSimpArgs false
set_option linter.unusedSectionVars false
set_option linter.unusedVariables false
set_option linter.unusedSimpArgs false
set_option maxRecDepth 100000

theorem sumL_app1 {α:Type} {f:α → Int} : ∀ (l:List α) (x:α),sumL f (l ++ [x]) = sumL f l + f x
  | [],x=>by simp [sumL]
  | y::l,x=>by simp only [List.cons_append,sumL,sumL_app1 l x]; omega
theorem sumL_bd {α:Type} {f:α → Int} {M:Int} : ∀ {l:List α},(∀ x ∈ l,0 ≤ f x∧f x ≤ M) → 0 ≤ sumL f l∧sumL f l ≤ l.length * M
  | [],_=>by simp [sumL]
  | y :: l, h => by
    have h1:=h y List.mem_cons_self
    have h2:=sumL_bd fun x hx=>h x (List.mem_cons_of_mem _ hx)
    simp only [sumL,List.length_cons,Int.natCast_add,Int.add_mul]
    omega
theorem areaL_bs : ∀ l:List Volume,areaL (bs l) = sumL (fun v=>arR v.Box.Base) l
  | []=>rfl
  | v :: l => by
    have:=areaL_bs l
    unfold areaL at this ⊢
    simp only [List.map_cons,sumL,this]
    rfl
end Go.Proofs.YtagkmlkhaekldaaGreat

namespace Go.Proofs.YtagkmlkhaekldaaGreat
open Go.Gb
set_option linter.unusedVariables false
set_option linter.unusedSimpArgs false
set_option linter.unusedSectionVars false
set_option linter.unusedVariables false
set_option linter.unusedSimpArgs false
set_option maxRecDepth 100000

def nmSet:ByteArray:=⟨#[115,101,116,98,97,99,107]⟩
def isSet (n:ByteArray):Bool:=n.toList == nmSet.toList
def isSum (n:ByteArray):Bool:=((n.toList == (⟨#[102,108,111,111,114]⟩:ByteArray).toList) || (n.toList == (⟨#[104,111,109,101,115]⟩:ByteArray).toList)) || (n.toList == (⟨#[116,114,97,102,102,105,99]⟩:ByteArray).toList)
def isMax (n:ByteArray):Bool:=(n.toList == (⟨#[104,101,105,103,104,116]⟩:ByteArray).toList) || (n.toList == (⟨#[102,108,111,111,114,115]⟩:ByteArray).toList)
theorem grows_step {A B C:List Entry} {i:Nat} (hi:i < A.length) (hB:i < B.length) (hC:i < C.length) (h40:i < 40) (hn:A[i].Name = B[i].Name) (hlt:0 < i → Op.bytesLess (A[i - 1]'(by omega)).Name.toList A[i].Name.toList = true)
    (h1:isSet A[i].Name = true → B[i].N = min A[i].N C[i].N) (h2:isSet A[i].Name = false → A[i].N ≤ B[i].N) (h3:isSum A[i].Name = true → B[i].N = A[i].N + C[i].N) (hI:inI (A[i].N + C[i].N))
    (h4:isMax A[i].Name = true → B[i].N = max A[i].N C[i].N):law20_MeasureGrows_L0 A B C (i:Int) = some (.go ((i + 1:Nat):Int)):=by
  unfold law20_MeasureGrows_L0
  rw [if_pos (by simpa using hi),getI_nat hi,Option.bind_some,getI_nat hB,Option.bind_some,if_neg (by simp [hn])]
  have hc1:(if decide (0 < (i:Int)) = true then (subI (i:Int) 1).bind fun x=>(getI A x).bind fun y=>some (!(Op.bytesLess y.Name.toList A[i].Name.toList)) else some false) = some false:=by
    by_cases h0:0 < i
    · rw [if_pos (by simp; omega),subI_some (by unfold inI; omega),Option.bind_some,show (i:Int) - 1 = ((i - 1:Nat):Int) by omega,getI_nat (show i - 1 < A.length by omega),Option.bind_some,hlt h0]; rfl
    · rw [if_neg (by simp; omega)]
  rw [hc1,Option.bind_some,Option.bind_some,if_neg (by simp)]
  have hs:(A[i].Name.toList == (⟨#[115,101,116,98,97,99,107]⟩:ByteArray).toList) = isSet A[i].Name:=rfl
  have e3:(((A[i].Name.toList == (⟨#[102,108,111,111,114]⟩:ByteArray).toList) || (A[i].Name.toList == (⟨#[104,111,109,101,115]⟩:ByteArray).toList)) || (A[i].Name.toList == (⟨#[116,114,97,102,102,105,99]⟩:ByteArray).toList)) = isSum A[i].Name:=rfl
  have e4:((A[i].Name.toList == (⟨#[104,101,105,103,104,116]⟩:ByteArray).toList) || (A[i].Name.toList == (⟨#[102,108,111,111,114,115]⟩:ByteArray).toList)) = isMax A[i].Name:=rfl
  rw [hs,e3,e4,getI_nat hC]
  have k1:(if isSet A[i].Name = true then (some B[i]).bind fun x=>(some A[i]).bind fun y=>(some C[i]).bind fun z=>some (x.N != (min y.N z.N)) else some false) = some false:=by
    cases hb:isSet A[i].Name with
    | false=>rfl
    | true=>rw [if_pos rfl,Option.bind_some,Option.bind_some,Option.bind_some,h1 hb]; simp
  have k2:(if (!isSet A[i].Name) = true then (some B[i]).bind fun x=>(some A[i]).bind fun y=>some (decide (x.N < y.N)) else some false) = some false:=by
    cases hb:isSet A[i].Name with
    | true=>rfl
    | false=>have:=h2 hb; rw [if_pos (by rfl),Option.bind_some,Option.bind_some,decide_eq_false (by omega)]
  have k3:(if isSum A[i].Name = true then (some B[i]).bind fun x=>(some A[i]).bind fun y=>(some C[i]).bind fun z=>(addI y.N z.N).bind fun w=>some (x.N != w) else some false) = some false:=by
    cases hb:isSum A[i].Name with
    | false=>rfl
    | true=>rw [if_pos rfl,Option.bind_some,Option.bind_some,Option.bind_some,addI_some hI,Option.bind_some,h3 hb]; simp
  have k4:(if isMax A[i].Name = true then (some B[i]).bind fun x=>(some A[i]).bind fun y=>(some C[i]).bind fun z=>some (x.N != (max y.N z.N)) else some false) = some false:=by
    cases hb:isMax A[i].Name with
    | false=>rfl
    | true=>rw [if_pos rfl,Option.bind_some,Option.bind_some,Option.bind_some,h4 hb]; simp
  rw [k1,Option.bind_some,if_neg (by simp),k2,Option.bind_some,Option.bind_some,if_neg (by simp),k3,Option.bind_some,if_neg (by simp),k4,Option.bind_some,if_neg (by simp),addI_one (by omega)]
  rfl
theorem noT {b:Bool} {P:Prop} (h0:b = false) (h:b = true):P:=by rw [h0] at h; simp at h
theorem noF' {b:Bool} {P:Prop} (h0:b = true) (h:b = false):P:=by rw [h0] at h; simp at h
section
variable {a c f s h u b t c' f' s' h' u' b' t' c1 f1 s1 h1 u1 b1 t1:Int}
theorem grows_all (hc:c ≤ c') (hf:f' = f + f1) (hs:s' = max s s1) (hh:h' = max h h1) (hu:u' = u + u1) (hb:b' = min b b1) (ht:t' = t + t1) (hf1:0 ≤ f1) (hu1:0 ≤ u1) (ht1:0 ≤ t1)
    (I0:inI (a + a)) (I1:inI (c + c1)) (I2:inI (f + f1)) (I3:inI (s + s1)) (I4:inI (h + h1)) (I5:inI (u + u1)) (I7:inI (b + b1)) (I8:inI (t + t1)) :
    ∀ i:Nat,i < 9 → law20_MeasureGrows_L0 (ent a c f s h u b t) (ent a c' f' s' h' u' b' t') (ent a c1 f1 s1 h1 u1 b1 t1) (i:Int) = some (.go ((i + 1:Nat):Int)):=by
  intro i hi
  have L : ∀ {a c f s h u b t:Int},(ent a c f s h u b t).length = 9:=rfl
  match i,hi with
  | 0,_=>exact grows_step (i:=0) (by rw [L]; omega) (by rw [L]; omega) (by rw [L]; omega) (by omega) rfl (fun h=>by omega) (noT (by kernel_rfl)) (fun _=>Int.le_refl _) (noT (by kernel_rfl)) I0 (noT (by kernel_rfl))
  | 1,_=>exact grows_step (i:=1) (by rw [L]; omega) (by rw [L]; omega) (by rw [L]; omega) (by omega) rfl (fun _=>by kernel_rfl) (noT (by kernel_rfl)) (fun _=>hc) (noT (by kernel_rfl)) I1 (noT (by kernel_rfl))
  | 2,_=>exact grows_step (i:=2) (by rw [L]; omega) (by rw [L]; omega) (by rw [L]; omega) (by omega) rfl (fun _=>by kernel_rfl) (noT (by kernel_rfl)) (fun _=>show f ≤ f' by omega) (fun _=>hf) I2 (noT (by kernel_rfl))
  | 3,_=>exact grows_step (i:=3) (by rw [L]; omega) (by rw [L]; omega) (by rw [L]; omega) (by omega) rfl (fun _=>by kernel_rfl) (noT (by kernel_rfl)) (fun _=>show s ≤ s' by omega) (noT (by kernel_rfl)) I3 (fun _=>hs)
  | 4,_=>exact grows_step (i:=4) (by rw [L]; omega) (by rw [L]; omega) (by rw [L]; omega) (by omega) rfl (fun _=>by kernel_rfl) (noT (by kernel_rfl)) (fun _=>show h ≤ h' by omega) (noT (by kernel_rfl)) I4 (fun _=>hh)
  | 5,_=>exact grows_step (i:=5) (by rw [L]; omega) (by rw [L]; omega) (by rw [L]; omega) (by omega) rfl (fun _=>by kernel_rfl) (noT (by kernel_rfl)) (fun _=>show u ≤ u' by omega) (fun _=>hu) I5 (noT (by kernel_rfl))
  | 6,_=>exact grows_step (i:=6) (by rw [L]; omega) (by rw [L]; omega) (by rw [L]; omega) (by omega) rfl (fun _=>by kernel_rfl) (noT (by kernel_rfl)) (fun _=>hc) (noT (by kernel_rfl)) I1 (noT (by kernel_rfl))
  | 7,_=>exact grows_step (i:=7) (by rw [L]; omega) (by rw [L]; omega) (by rw [L]; omega) (by omega) rfl (fun _=>by kernel_rfl) (fun _=>hb) (noF' (by kernel_rfl)) (noT (by kernel_rfl)) I7 (noT (by kernel_rfl))
  | 8,_=>exact grows_step (i:=8) (by rw [L]; omega) (by rw [L]; omega) (by rw [L]; omega) (by omega) rfl (fun _=>by kernel_rfl) (noT (by kernel_rfl)) (fun _=>show t ≤ t' by omega) (fun _=>ht) I8 (noT (by kernel_rfl))
  | n + 9,h=>omega
end
theorem inI_add2 {x y:Int} (hx:0 ≤ x∧x ≤ 4611686018427387903) (hy:0 ≤ y∧y ≤ 4611686018427387903):inI (x + y):=by unfold inI; omega
theorem maxL_bd {α:Type} {g:α → Int} {M:Int} (h0:0 ≤ M) : ∀ {l:List α},(∀ x ∈ l,g x ≤ M) → maxL g l ≤ M
  | [],_=>h0
  | y::l,h=>by have:=maxL_bd h0 fun x hx=>h x (List.mem_cons_of_mem _ hx); have:=h y List.mem_cons_self; rw [maxL]; omega
/-- what the measures of few volumes are at most -/
theorem meas_bd {p:Plan} (hp:PlanS p) {V:List Volume} (hV : ∀ v ∈ V,RV v) (hl:V.length ≤ 40):(0 ≤ covM (bs V) 1048576∧covM (bs V) 1048576 ≤ 43980465111040)∧(0 ≤ sumL flo V∧sumL flo V ≤ 180143985094819840)∧(0 ≤ maxL sto V∧maxL sto V ≤ 1366) ∧
    (0 ≤ maxL (fun v=>v.Box.Z1) V∧maxL (fun v=>v.Box.Z1) V ≤ 4096)∧(0 ≤ sumL (fun v=>v.Units) V∧sumL (fun v=>v.Units) V ≤ 43980465111040)∧(0 ≤ sumL (tra p) V∧sumL (tra p) V ≤ 43980465111040):=by
  have h1:=sumL_bd (f:=flo) (M:=4503599627370496) (l:=V) fun v _=>flo_bd v
  have h2:=sumL_bd (f:=fun v:Volume=>v.Units) (M:=1048576) (l:=V) fun v hv=>by have:=hV v hv; unfold RV at this; omega
  have h3:=sumL_bd (f:=tra p) (M:=1099511627776) (l:=V) fun v hv=>(tra_eq hp (hV v hv)).2
  have h4:=sumL_bd (f:=fun v:Volume=>arR v.Box.Base) (M:=1099511627776) (l:=V) fun v hv=>arR_bd (hV v hv).1
  have h5:=(covM_le_sum (M:=1048576) rfl (l:=bs V) (bs_VR hV)).1
  rw [areaL_bs] at h5
  have h6:0 ≤ covM (bs V) 1048576:=by
    have:=covM_mono (l:=[]) (m:=bs V) (M:=1048576) (by simp)
    have h0:covM [] 1048576 = 0:=by
      have:=(covM_le_sum (M:=1048576) rfl (l:=[]) (by simp)).2 List.Pairwise.nil
      rw [this]; rfl
    omega
  have h7:=maxL_bd (g:=sto) (M:=1366) (by omega) (l:=V) fun v _=>(sto_bd v).2
  have h8:=maxL_bd (g:=fun v:Volume=>v.Box.Z1) (M:=4096) (by omega) (l:=V) fun v hv=>by have:=hV v hv; unfold RV at this; omega
  exact ⟨⟨h6,by omega⟩,⟨by omega,by omega⟩,⟨maxL_nonneg _ _,h7⟩,⟨maxL_nonneg _ _,h8⟩,⟨by omega,by omega⟩,by omega,by omega⟩
theorem law_MeasureGrows (p:Plan) (lot:Lot) (d:Drawing) (v:Volume) (hd:d.Phases.length ≤ reachLen) (hv : ∀ x ∈ d.Phases,x.Volumes.length ≤ reachLen) (hT:p.Tables.length ≤ reachLen):law20_MeasureGrows p lot d v = some true:=by
  obtain ⟨b,hb,hbs⟩:=few20 p lot d hd hv hT
  unfold law20_MeasureGrows
  rw [small_true,Option.bind_some,hb,Option.bind_some]
  cases b with
  | false=>rfl
  | true=>
  obtain ⟨hp,hla,hph,hl⟩:=hbs rfl
  rw [if_neg (by simp),volumesM (by omega) (by omega) (Int.le_refl _),Option.bind_some,Option.bind_some]
  by_cases h12:12 < (allV d).length
  · rw [decide_eq_true (by omega),if_pos rfl,Option.bind_some,if_pos rfl]
  rw [decide_eq_false (by omega),if_neg (by simp),rv_eq,Option.bind_some,Option.bind_some]
  by_cases hr0 : ¬ RV v
  · rw [decide_eq_false hr0,if_pos (by rfl)]
  have hr:=Classical.not_not.1 hr0
  rw [decide_eq_true hr,if_neg (by simp)]
  have hM:allV { d with Phases:=d.Phases ++ [⟨[v],[]⟩] } = allV d ++ [v]:=by simp [allV]
  have h1:allV (⟨0,[⟨[v],[]⟩]⟩:Drawing) = [v]:=by simp [allV]
  have hVM:vols { d with Phases:=d.Phases ++ [⟨[v],[]⟩] } = vols d ++ [v]:=by
    unfold vols
    rw [hM,List.take_of_length_le (by simp; omega),List.take_of_length_le (show (allV d).length ≤ 40 by omega),List.filter_append]
    simp [hr]
  have hV1:vols (⟨0,[⟨[v],[]⟩]⟩:Drawing) = [v]:=by
    unfold vols
    rw [h1]
    simp [hr]
  obtain ⟨B,hB,hO⟩:=of_eq (p:=p) (lot:=lot) (d:=d) hp (by omega) (by omega) (by omega)
  obtain ⟨B', hB', hO'⟩ := of_eq (p := p) (lot := lot) (d := { d with Phases := d.Phases ++ [⟨[v], []⟩] }) hp (by simp; omega) (by rw [hM]; simp; omega) (by omega)
  obtain ⟨B1,hB1,hO1⟩:=of_eq (p:=p) (lot:=lot) (d:=⟨0,[⟨[v],[]⟩]⟩) hp (by simp) (by rw [h1]; simp) (by omega)
  have hVl:=vols_len d
  have hVR:=vols_RV (d:=d)
  have hVl2:(vols d).length ≤ 12:=by
    have:=List.length_filter_le (fun v=>decide (RV v)) ((allV d).take 40)
    rw [List.length_take] at this
    unfold vols
    omega
  rw [hVM] at hB' hO'
  rw [hV1] at hB1 hO1
  rw [hO, Option.bind_some, appI_some (by simp; omega), Option.bind_some, List.nil_append, appI_some (by simp; omega), Option.bind_some, hO', Option.bind_some]
  have hsl:sliceI (d.Phases ++ [(⟨[v],[]⟩:Phase)]) (d.Phases.length:Int) (((d.Phases ++ [(⟨[v],[]⟩:Phase)]).length:Nat):Int) = some [⟨[v],[]⟩]:=by
    rw [sliceI_some (by omega) (by simp; omega) (by omega),Int.toNat_natCast,Int.toNat_natCast,List.take_of_length_le (Nat.le_refl _),List.drop_left]
  dsimp only
  rw [hsl,Option.bind_some,hO1,Option.bind_some]
  generalize vols d = V at *
  have hBm:B' = min B B1:=by
    have h:=hB.min hB1
    refine SB.unique hB' h fun r=>?_
    simp [bs]
  have hbA:=area_bound (ar_RR lot.Area).2.2 (ar_RR lot.Area).1
  have m0:=meas_bd hp hVR (by omega)
  have m1:=meas_bd hp (V:=[v]) (by simpa using hr) (by simp)
  have hbB:0 ≤ B∧B ≤ 1048576:=⟨hB.lo,hB.hi⟩
  have hbB1:0 ≤ B1∧B1 ≤ 1048576:=⟨hB1.lo,hB1.hi⟩
  have key:=grows_all (a:=areaL (ar lot.Area)) (c:=covM (bs V) 1048576) (f:=sumL flo V) (s:=maxL sto V) (h:=maxL (fun v=>v.Box.Z1) V) (u:=sumL (fun v=>v.Units) V) (b:=B) (t:=sumL (tra p) V)
    (c':=covM (bs (V ++ [v])) 1048576) (f':=sumL flo (V ++ [v])) (s':=maxL sto (V ++ [v])) (h':=maxL (fun v=>v.Box.Z1) (V ++ [v])) (u':=sumL (fun v=>v.Units) (V ++ [v])) (b':=B') (t':=sumL (tra p) (V ++ [v]))
    (c1:=covM (bs [v]) 1048576) (f1:=sumL flo [v]) (s1:=maxL sto [v]) (h1:=maxL (fun v=>v.Box.Z1) [v]) (u1:=sumL (fun v=>v.Units) [v]) (b1:=B1) (t1:=sumL (tra p) [v])
    (covM_mono fun r hr=>by simp only [bs,List.map_append,List.mem_append]; exact .inl hr) (by rw [sumL_app1]; simp [sumL]) (maxL_append _ _ _) (maxL_append _ _ _) (by rw [sumL_app1]; simp [sumL]) hBm (by rw [sumL_app1]; simp [sumL])
    (m1.2.1.1) (m1.2.2.2.2.1.1) (m1.2.2.2.2.2.1) (inI_add2 ⟨hbA.1,Int.le_trans hbA.2 (by decide)⟩ ⟨hbA.1,Int.le_trans hbA.2 (by decide)⟩) (inI_add2 ⟨m0.1.1,Int.le_trans m0.1.2 (by decide)⟩ ⟨m1.1.1,Int.le_trans m1.1.2 (by decide)⟩) (inI_add2 ⟨m0.2.1.1,Int.le_trans m0.2.1.2 (by decide)⟩ ⟨m1.2.1.1,Int.le_trans m1.2.1.2 (by decide)⟩) (inI_add2 ⟨m0.2.2.1.1,Int.le_trans m0.2.2.1.2 (by decide)⟩ ⟨m1.2.2.1.1,Int.le_trans m1.2.2.1.2 (by decide)⟩) (inI_add2 ⟨m0.2.2.2.1.1,Int.le_trans m0.2.2.2.1.2 (by decide)⟩ ⟨m1.2.2.2.1.1,Int.le_trans m1.2.2.2.1.2 (by decide)⟩) (inI_add2 ⟨m0.2.2.2.2.1.1,Int.le_trans m0.2.2.2.2.1.2 (by decide)⟩ ⟨m1.2.2.2.2.1.1,Int.le_trans m1.2.2.2.2.1.2 (by decide)⟩) (inI_add2 ⟨hbB.1,Int.le_trans hbB.2 (by decide)⟩ ⟨hbB1.1,Int.le_trans hbB1.2 (by decide)⟩) (inI_add2 ⟨m0.2.2.2.2.2.1,Int.le_trans m0.2.2.2.2.2.2 (by decide)⟩ ⟨m1.2.2.2.2.2.1,Int.le_trans m1.2.2.2.2.2.2 (by decide)⟩)
  have L : ∀ {a c f s h u b t:Int},(ent a c f s h u b t).length = 9:=rfl
  rw [L,L,L,if_neg (by decide)]
  obtain ⟨g,k1,k2,k3⟩:=loop_up (body:=law20_MeasureGrows_L0 (ent (areaL (ar lot.Area)) (covM (bs V) 1048576) (sumL flo V) (maxL sto V) (maxL (fun v=>v.Box.Z1) V) (sumL (fun v=>v.Units) V) B (sumL (tra p) V)) (ent (areaL (ar lot.Area)) (covM (bs (V ++ [v])) 1048576) (sumL flo (V ++ [v])) (maxL sto (V ++ [v])) (maxL (fun v=>v.Box.Z1) (V ++ [v])) (sumL (fun v=>v.Units) (V ++ [v])) B' (sumL (tra p) (V ++ [v]))) (ent (areaL (ar lot.Area)) (covM (bs [v]) 1048576) (sumL flo [v]) (maxL sto [v]) (maxL (fun v=>v.Box.Z1) [v]) (sumL (fun v=>v.Units) [v]) B1 (sumL (tra p) [v])))
    (fun i s=>s = ((i:Nat):Int)) 9 (fun g=>match g with | .ex _ _=>True | _=>False) (fun i s hi hs=>by subst hs; exact .inl ⟨_,key i hi,rfl⟩) (fun s hs=>by
      subst hs
      unfold law20_MeasureGrows_L0
      rw [L,if_neg (by simp)]
      exact ⟨_,rfl,trivial,trivial⟩) 0 rfl (9 + 9 + 9 + 1) (by omega)
  rw [k1,Option.bind_some]
  cases g with
  | go _=>exact k2.elim
  | ret r=>exact k3.elim
  | ex _ _=>rfl
end Go.Proofs.YtagkmlkhaekldaaGreat

