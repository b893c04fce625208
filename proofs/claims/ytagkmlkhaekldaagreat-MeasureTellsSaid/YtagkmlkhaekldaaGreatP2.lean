/- The plain part of the proof (no program in sight), part 2 -/
import Derived.Test.YtagkmlkhaekldaaGreatP1
namespace Go.Proofs.YtagkmlkhaekldaaGreat
open Go.Gb
set_option linter.unusedVariables false
set_option linter.unusedSimpArgs false
set_option linter.unusedSectionVars false
set_option linter.unusedVariables false
set_option linter.unusedSimpArgs false

theorem nodup_le {α:Type} [DecidableEq α] : ∀ {l m:List α},l.Nodup → (∀ x ∈ l,x ∈ m) → l.length ≤ m.length
  | [],m,_,_=>Nat.zero_le _
  | a :: l, m, hn, hs => by
    have hn':=List.nodup_cons.1 hn
    have ha:=hs a (by simp)
    have ih:=nodup_le (l:=l) (m:=m.erase a) hn'.2 fun x hx=>by
      have hxa:x ≠ a:=fun e=>hn'.1 (e ▸ hx)
      exact (List.mem_erase_of_ne hxa).2 (hs x (by simp [hx]))
    rw [List.length_erase_of_mem ha] at ih
    have:=List.length_pos_of_mem ha
    simp only [List.length_cons]; omega

/-- How many of the numbers lie in [a, b). -/
def inC (D:List Int) (a b:Int):Nat:=D.countP fun c=>decide (a ≤ c) && decide (c < b)
def ends (l:List (Int × Int)):List Int:=l.flatMap fun r=>[r.1,r.2]
theorem ends_cons (r:Int × Int) (l:List (Int × Int)):ends (r::l) = r.1::r.2::ends l:=rfl
def sumNat {α:Type} (f:α → Nat):List α → Nat
  | []=>0
  | x::xs=>f x + sumNat f xs
theorem sumNat_le {α:Type} {f g:α → Nat} : ∀ {l:List α},(∀ x ∈ l,f x ≤ g x) → sumNat f l ≤ sumNat g l
  | [],_=>Nat.le_refl _
  | x :: l, h => by
    have:=h x (by simp)
    have:=sumNat_le (l:=l) fun y hy=>h y (by simp [hy])
    simp only [sumNat]; omega
theorem sumNat_add {α:Type} {f g:α → Nat} : ∀ {l:List α},sumNat (fun x=>f x + g x) l = sumNat f l + sumNat g l
  | []=>rfl
  | x::l=>by simp only [sumNat,sumNat_add (l:=l)]; omega
theorem sumNat_const {α:Type} {c:Nat} : ∀ {l:List α},sumNat (fun _=>c) l = c * l.length
  | []=>rfl
  | x::l=>by simp only [sumNat,sumNat_const (l:=l),List.length_cons,Nat.mul_add]; omega
/-- Numbers that are ends of intervals, each once: those in a set are no more than the ends in it. -/
theorem count_ends {l:List (Int × Int)} {q:Int → Bool} : ∀ {D:List Int},D.Nodup → (∀ c ∈ D,c ∈ ends l) → D.countP q ≤ sumNat (fun r=>(if q r.1 then 1 else 0) + (if q r.2 then 1 else 0)) l:=by
  intro D hn hs
  have h1:D.countP q = (D.filter q).length:=List.countP_eq_length_filter
  have h2:(D.filter q).length ≤ ((ends l).filter q).length:=nodup_le (hn.sublist List.filter_sublist) fun x hx=>by
    rw [List.mem_filter] at hx ⊢
    exact ⟨hs x hx.1,hx.2⟩
  have h3 : ∀ l:List (Int × Int),((ends l).filter q).length = sumNat (fun r=>(if q r.1 then 1 else 0) + (if q r.2 then 1 else 0)) l:=by
    intro l
    induction l with
    | nil=>rfl
    | cons r l ih =>
      rw [ends_cons]
      simp only [List.filter_cons,sumNat,← ih]
      cases q r.1 <;> cases q r.2 <;> simp <;> omega
  rw [← h3]; omega
theorem pairs_sq : ∀ {l:List (Int × Int)} {D:List Int},(∀ r ∈ l,r.1 < r.2) → D.Nodup → (∀ c ∈ D,c ∈ ends l) → sumNat (fun r=>inC D r.1 r.2) l ≤ l.length * l.length
  | [],D,_,_,_=>Nat.le_refl _
  | r0 :: l, D, hlt, hn, hs => by
    have h0:=hlt r0 (by simp)
    -- the numbers that are ends of the other intervals, and those that are not
    let o:Int → Bool:=fun c=>decide (c ∈ ends l)
    have hD : ∀ p:Int → Bool,D.countP p = (D.filter o).countP p + (D.filter fun c=>!o c).countP p:=by
      intro p
      clear hn hs hlt
      induction D with
      | nil=>rfl
      | cons c D ih =>
        simp only [List.countP_cons,List.filter_cons,ih]
        cases o c <;> simp [List.countP_cons] <;> omega
    have hD1:(D.filter o).Nodup:=hn.sublist List.filter_sublist
    have hs1 : ∀ c ∈ D.filter o,c ∈ ends l:=fun c hc=>by have:=(List.mem_filter.1 hc).2; simpa [o] using this
    have hD2:(D.filter fun c=>!o c).Nodup:=hn.sublist List.filter_sublist
    have hs2 : ∀ c ∈ D.filter (fun c=>!o c),c ∉ ends l∧(c = r0.1 ∨ c = r0.2):=fun c hc=>by
      have h1:=(List.mem_filter.1 hc).2
      have h2:=hs c (List.mem_filter.1 hc).1
      rw [ends_cons] at h2
      have h3:c ∉ ends l:=by simpa [o] using h1
      refine ⟨h3,?_⟩
      rcases List.mem_cons.1 h2 with h | h
      · exact .inl h
      · rcases List.mem_cons.1 h with h | h
        · exact .inr h
        · exact absurd h h3
    have ih:=pairs_sq (l:=l) (D:=D.filter o) (fun r hr=>hlt r (by simp [hr])) hD1 hs1
    -- the new numbers within another interval
    have hnew : ∀ r ∈ l,(D.filter fun c=>!o c).countP (fun c=>decide (r.1 ≤ c) && decide (c < r.2)) ≤ (if r.1 < r0.1∧r0.1 < r.2 then 1 else 0) + (if r.1 < r0.2∧r0.2 < r.2 then 1 else 0):=by
      intro r hr
      have hrl:=hlt r (by simp [hr])
      have:=count_ends (l:=[r0]) (q:=fun c=>decide (r.1 < c) && decide (c < r.2)) (D:=D.filter fun c=>!o c) hD2 (fun c hc=>by
        have:=(hs2 c hc).2
        simp [ends]; exact this)
      have e:(D.filter fun c=>!o c).countP (fun c=>decide (r.1 ≤ c) && decide (c < r.2)) = (D.filter fun c=>!o c).countP (fun c=>decide (r.1 < c) && decide (c < r.2)):=by
        refine List.countP_congr fun c hc=>?_
        have hc1:c ≠ r.1:=fun e=>(hs2 c hc).1 (by rw [e]; exact List.mem_flatMap.2 ⟨r,hr,by simp⟩)
        simp only [Bool.and_eq_true,decide_eq_true_eq]
        omega
      rw [e]
      simpa [sumNat] using this
    -- the numbers within the new interval
    have hold:inC D r0.1 r0.2 ≤ 1 + sumNat (fun r=>(if r0.1 < r.1∧r.1 < r0.2 then 1 else 0) + (if r0.1 < r.2∧r.2 < r0.2 then 1 else 0)) l:=by
      have h1:inC D r0.1 r0.2 ≤ 1 + D.countP (fun c=>decide (r0.1 < c) && decide (c < r0.2)):=by
        have h2:D.countP (fun c=>decide (c = r0.1)) ≤ 1:=by
          have:=nodup_le (l:=D.filter fun c=>decide (c = r0.1)) (m:=[r0.1]) (hn.sublist List.filter_sublist) fun x hx=>by
            have:=(List.mem_filter.1 hx).2
            simpa using this
          rw [List.countP_eq_length_filter]; simpa using this
        have h3:inC D r0.1 r0.2 ≤ D.countP (fun c=>decide (c = r0.1)) + D.countP (fun c=>decide (r0.1 < c) && decide (c < r0.2)):=by
          unfold inC
          clear hn hs hD hD1 hs1 hD2 hs2 ih hnew h2
          induction D with
          | nil=>simp
          | cons c D ih =>
            simp only [List.countP_cons]
            by_cases c1:c = r0.1
            · subst c1; simp [h0]; omega
            · by_cases c2 : r0.1 < c ∧ c < r0.2
              · simp [c1,c2,Int.le_of_lt c2.1]; omega
              · have : ¬ (r0.1 ≤ c ∧ c < r0.2) := by omega
                simp only [Bool.and_eq_true,decide_eq_true_eq,c1,c2,this,if_false]; omega
        omega
      have h4:D.countP (fun c=>decide (r0.1 < c) && decide (c < r0.2)) ≤ sumNat (fun r=>(if r0.1 < r.1∧r.1 < r0.2 then 1 else 0) + (if r0.1 < r.2∧r.2 < r0.2 then 1 else 0)) (r0::l):=by
        have:=count_ends (l:=r0::l) (q:=fun c=>decide (r0.1 < c) && decide (c < r0.2)) hn hs
        simpa using this
      have h5:sumNat (fun r:Int × Int=>(if r0.1 < r.1∧r.1 < r0.2 then 1 else 0) + (if r0.1 < r.2∧r.2 < r0.2 then 1 else 0)) (r0::l) = sumNat (fun r=>(if r0.1 < r.1∧r.1 < r0.2 then 1 else 0) + (if r0.1 < r.2∧r.2 < r0.2 then 1 else 0)) l:=by
        simp only [sumNat]
        rw [if_neg (by omega),if_neg (by omega)]; omega
      omega
    have hsum:sumNat (fun r=>inC D r.1 r.2) l ≤ sumNat (fun r=>inC (D.filter o) r.1 r.2) l + sumNat (fun r=>(if r.1 < r0.1∧r0.1 < r.2 then 1 else 0) + (if r.1 < r0.2∧r0.2 < r.2 then 1 else 0)) l:=by
      rw [← sumNat_add]
      refine sumNat_le fun r hr=>?_
      unfold inC
      rw [hD]
      have:=hnew r hr
      omega
    have hpair:sumNat (fun r=>(if r.1 < r0.1∧r0.1 < r.2 then 1 else 0) + (if r.1 < r0.2∧r0.2 < r.2 then 1 else 0)) l + sumNat (fun r=>(if r0.1 < r.1∧r.1 < r0.2 then 1 else 0) + (if r0.1 < r.2∧r.2 < r0.2 then 1 else 0)) l ≤ 2 * l.length:=by
      rw [← sumNat_add,← sumNat_const]
      refine sumNat_le fun r hr=>?_
      have:=hlt r (by simp [hr])
      repeat' split
      all_goals omega
    have e:(r0::l).length * (r0::l).length = l.length * l.length + 2 * l.length + 1:=by
      simp only [List.length_cons,Nat.add_mul,Nat.mul_add]; omega
    rw [e]
    simp only [sumNat]
    omega

/-- What holds at a cell hangs on the rectangles alone that the cell is in. -/
structure Hangs (S:Int → Int → Prop) (l:List Rect):Prop where
  same : ∀ x y x' y', (∀ r ∈ l, rin r x y ↔ rin r x' y') → (S x y ↔ S x' y')
  none : ∀ x y,(∀ r ∈ l,¬ rin r x y) → ¬ S x y
theorem rval_before {V:Type} {e:V} : ∀ {l:Runs V},Canon e l → ∀ {a b:Int} {v:V},(a,b,v) ∈ l → rval e l (a - 1) ≠ v
  | (c, d, w) :: t, hc, a, b, v, hm => by
    obtain ⟨k1,k2,k3,k4⟩:=hc
    rcases List.mem_cons.1 hm with h | h
    · simp only [Prod.mk.injEq] at h
      obtain ⟨rfl,rfl,rfl⟩:=h
      rw [canon_lt ⟨k1,k2,k3,k4⟩ (by omega)]
      exact fun h=>k2 h.symm
    · have ih := rval_before k4 h
      have hst:=canon_starts k4 k3 _ h
      simp only at hst
      simp only [rval]
      split
      · rename_i h2
        -- the last place of the first run: the run begins right behind it
        have had:a = d:=by omega
        cases t with
        | nil=>simp at h
        | cons q t =>
          obtain ⟨c', d', w'⟩ := q
          rcases List.mem_cons.1 h with h' | h'
          · simp only [Prod.mk.injEq] at h'
            obtain ⟨rfl,rfl,rfl⟩:=h'
            rcases k3 with h3 | h3
            · omega
            · exact h3.2
          · have := canon_starts k4.2.2.2 k4.2.2.1 _ h'
            simp only at this
            have h5:=k4.1
            have h6:d ≤ c':=by rcases k3 with h3 | h3 <;> omega
            omega
      · exact ih
theorem rval_behind {V:Type} {e:V} : ∀ {l:Runs V},Canon e l → ∀ {a b:Int} {v:V},(a,b,v) ∈ l → rval e l b ≠ v
  | (c, d, w) :: t, hc, a, b, v, hm => by
    obtain ⟨k1,k2,k3,k4⟩:=hc
    simp only [rval]
    rcases List.mem_cons.1 hm with h | h
    · simp only [Prod.mk.injEq] at h
      obtain ⟨rfl,rfl,rfl⟩:=h
      rw [if_neg (by omega)]
      exact rval_nxt k4 k3 k2
    · have ih := rval_behind k4 h
      have h1:=(canon_mem k4 h).1
      have hst:=canon_starts k4 k3 _ h
      simp only at hst
      rw [if_neg (by omega)]
      exact ih
theorem length_flatMap {α β:Type} {g:α → List β} : ∀ {l:List α},(l.flatMap g).length = sumNat (fun x=>(g x).length) l
  | []=>rfl
  | x::l=>by simp only [List.flatMap_cons,List.length_append,sumNat,length_flatMap (l:=l)]
theorem starts_nodup {V:Type} {e:V} : ∀ {l:Runs V},Canon e l → (l.map (·.1)).Nodup
  | [],_=>.nil
  | (a, b, v) :: t, h => by
    obtain ⟨k1,k2,k3,k4⟩:=h
    rw [List.map_cons,List.nodup_cons]
    refine ⟨fun hm=>?_,starts_nodup k4⟩
    obtain ⟨r,hr,he⟩:=List.mem_map.1 hm
    have:=canon_starts k4 k3 r hr
    simp only at he; omega
theorem flat_nodup {c:Col} (h:Canon false c):(c.flatMap fun s=>[s.1,s.2.1]).Nodup∧(c.flatMap fun s=>[s.1,s.2.1]).length = 2 * c.length:=by
  have key : ∀ c:Col,Canon false c → (c.flatMap fun s=>[s.1,s.2.1]).Pairwise (fun a b=>a < b)∧(c.flatMap fun s=>[s.1,s.2.1]).length = 2 * c.length:=by
    intro c
    induction c with
    | nil=>intro _; exact ⟨.nil,rfl⟩
    | cons r t ih =>
      obtain ⟨a,b,v⟩:=r
      rintro ⟨k1,k2,k3,k4⟩
      obtain ⟨i1,i2⟩:=ih k4
      have hbt : ∀ x ∈ t.flatMap (fun s=>[s.1,s.2.1]),b < x:=by
        intro x hx
        obtain ⟨s,hs,hx⟩:=List.mem_flatMap.1 hx
        have h1:=canon_starts k4 k3 s hs
        have h2:=(canon_mem k4 (show (s.1,s.2.1,s.2.2) ∈ t from hs)).1
        have h3:b < s.1:=by
          cases t with
          | nil=>simp at hs
          | cons q t =>
            obtain ⟨c', d', w'⟩ := q
            have hw:b < c':=by
              rcases k3 with h | ⟨_,h⟩
              · exact h
              · exfalso
                have:=k4.2.1
                revert h this k2
                cases v <;> cases w' <;> simp
            rcases List.mem_cons.1 hs with rfl | hs
            · exact hw
            · have := canon_starts k4.2.2.2 k4.2.2.1 s hs
              have:=k4.1
              omega
        simp at hx
        omega
      refine ⟨?_,by simp only [List.flatMap_cons,List.length_append,List.length_cons,List.length_nil,i2]; omega⟩
      simp only [List.flatMap_cons,List.cons_append,List.nil_append]
      refine List.pairwise_cons.2 ⟨fun x hx=>?_,List.pairwise_cons.2 ⟨hbt,i1⟩⟩
      rcases List.mem_cons.1 hx with rfl | hx
      · exact k1
      · have:=hbt x hx; omega
  obtain ⟨h1,h2⟩:=key c h
  exact ⟨h1.imp fun h=>Int.ne_of_lt h,h2⟩

theorem col_len {S:Int → Int → Prop} {l:List Rect} (hS:Hangs S l) (hl : ∀ r ∈ l,VR r) {x:Int} {c:Col} (hc:Canon false c) (hv : ∀ y,rval false c y = true ↔ S x y):c.length ≤ (l.filter fun r=>decide (r.X0 ≤ x) && decide (x < r.X1)).length:=by
  obtain ⟨h1,h2⟩:=flat_nodup hc
  have hsub : ∀ z ∈ c.flatMap (fun s=>[s.1,s.2.1]),z ∈ (l.filter fun r=>decide (r.X0 ≤ x) && decide (x < r.X1)).flatMap (fun r=>[r.Y0,r.Y1]):=by
    intro z hz
    obtain ⟨s,hs,hz⟩:=List.mem_flatMap.1 hz
    have hst:s.2.2 = true:=by
      have:=(canon_mem hc (show (s.1,s.2.1,s.2.2) ∈ c from hs)).2
      cases h:s.2.2
      · rw [h] at this; exact absurd rfl this
      · rfl
    have hs' : (s.1,s.2.1,true) ∈ c:=by rw [← hst]; exact hs
    have hpos:=(canon_mem hc hs').1
    -- something changes at z
    have hch : ¬ (S x z ↔ S x (z - 1)):=by
      rw [← hv,← hv]
      simp at hz
      rcases hz with rfl | rfl
      · have h3 := rval_before hc hs'
        have h4:=rval_of_mem hc hs' (Int.le_refl _) hpos
        rw [h4]
        cases h5:rval false c (s.1 - 1)
        · simp
        · exact absurd h5 h3
      · have h3 := rval_behind hc hs'
        have h4:=rval_of_mem hc hs' (show s.1 ≤ s.2.1 - 1 by omega) (by omega)
        rw [h4]
        cases h5:rval false c s.2.1
        · simp
        · exact absurd h5 h3
    rw [List.mem_flatMap]
    refine Classical.byContradiction fun hno=>hch (hS.same _ _ _ _ fun r hr=>?_)
    have hr2:(r.X0 ≤ x∧x < r.X1) → z ≠ r.Y0∧z ≠ r.Y1:=fun hx=>by
      have hm:r ∈ l.filter fun r=>decide (r.X0 ≤ x) && decide (x < r.X1):=List.mem_filter.2 ⟨hr,by simpa using hx⟩
      exact ⟨fun e=>hno ⟨r,hm,by simp [e]⟩,fun e=>hno ⟨r,hm,by simp [e]⟩⟩
    unfold rin
    constructor
    · rintro ⟨hx, hy⟩
      have:=hr2 hx
      exact ⟨hx,by omega⟩
    · rintro ⟨hx, hy⟩
      have:=hr2 hx
      exact ⟨hx,by omega⟩
  have h3:=nodup_le h1 hsub
  have h4 : ∀ m:List Rect,(m.flatMap fun r=>[r.Y0,r.Y1]).length = 2 * m.length:=by
    intro m
    induction m with
    | nil=>rfl
    | cons a m ih=>simp only [List.flatMap_cons,List.length_append,List.length_cons,List.length_nil,ih]; omega
  rw [h2,h4] at h3
  omega
theorem form_len {S:Int → Int → Prop} {l out:List Rect} (hS:Hangs S l) (hl : ∀ r ∈ l,VR r) (h:IsForm S out):out.length ≤ l.length * l.length:=by
  obtain ⟨G,h1,h2,h3,rfl⟩:=h
  let P:List (Int × Int):=l.map fun r=>(r.X0,r.X1)
  have hPl:P.length = l.length:=by simp [P]
  have hcol : ∀ g ∈ G,g.2.2.length ≤ (l.filter fun r=>decide (r.X0 ≤ g.1) && decide (g.1 < r.X1)).length:=by
    intro g hg
    obtain ⟨a,b,c⟩:=g
    have hab:=(canon_mem h1 hg).1
    have hr:=rval_of_mem h1 hg (Int.le_refl a) hab
    exact col_len hS hl (h2 a b c hg) fun y=>by rw [← hr]; exact h3 a y
  have hstart : ∀ a ∈ G.map (·.1),a ∈ ends P:=by
    intro a ha
    obtain ⟨g,hg,rfl⟩:=List.mem_map.1 ha
    obtain ⟨a,b,c⟩:=g
    have hab:=(canon_mem h1 hg).1
    have hr:=rval_of_mem h1 hg (Int.le_refl a) hab
    have hb:=rval_before h1 hg
    dsimp only
    refine Classical.byContradiction fun hno=>hb ?_
    rw [← hr]
    refine canon_unique (canon_at h2 _) (canon_at h2 _) fun y=>?_
    rw [Bool.eq_iff_iff,h3,h3]
    refine hS.same _ _ _ _ fun r hr=>?_
    have hm:(r.X0,r.X1) ∈ P:=List.mem_map.2 ⟨r,hr,rfl⟩
    have e1:a ≠ r.X0:=fun e=>hno (List.mem_flatMap.2 ⟨_,hm,by simp [e]⟩)
    have e2:a ≠ r.X1:=fun e=>hno (List.mem_flatMap.2 ⟨_,hm,by simp [e]⟩)
    unfold rin
    constructor
    · rintro ⟨hx,hy⟩; exact ⟨by omega,hy⟩
    · rintro ⟨hx,hy⟩; exact ⟨by omega,hy⟩
  have hsq:=pairs_sq (l:=P) (D:=G.map (·.1)) (fun r hr=>by
    obtain ⟨q,hq,rfl⟩:=List.mem_map.1 hr
    exact (hl q hq).2.1) (starts_nodup h1) hstart
  rw [hPl] at hsq
  refine Nat.le_trans ?_ hsq
  unfold flatG
  rw [length_flatMap]
  refine Nat.le_trans (sumNat_le (g:=fun g=>(l.filter fun r=>decide (r.X0 ≤ g.1) && decide (g.1 < r.X1)).length) fun g hg=>by rw [List.length_map]; exact hcol g hg) ?_
  -- exchange the sums
  have hex : ∀ (m:List Rect) (H:Runs Col),sumNat (fun g=>(m.filter fun r=>decide (r.X0 ≤ g.1) && decide (g.1 < r.X1)).length) H = sumNat (fun r=>inC (H.map (·.1)) r.1 r.2) (m.map fun r=>(r.X0,r.X1)):=by
    intro m
    induction m with
    | nil =>
      intro H
      simp only [List.filter_nil,List.length_nil,List.map_nil,sumNat]
      rw [sumNat_const]; simp
    | cons r m ih =>
      intro H
      simp only [List.map_cons,sumNat]
      rw [← ih H]
      have e1:sumNat (fun g:Int × Int × Col=>((r::m).filter fun r=>decide (r.X0 ≤ g.1) && decide (g.1 < r.X1)).length) H = sumNat (fun g=>if (decide (r.X0 ≤ g.1) && decide (g.1 < r.X1)) = true then 1 else 0) H + sumNat (fun g=>(m.filter fun r=>decide (r.X0 ≤ g.1) && decide (g.1 < r.X1)).length) H:=by
        rw [← sumNat_add]
        congr 1
        funext g
        by_cases hp:(decide (r.X0 ≤ g.1) && decide (g.1 < r.X1)) = true
        · rw [List.filter_cons,if_pos hp,if_pos hp,List.length_cons]; omega
        · rw [List.filter_cons,if_neg hp,if_neg hp]; omega
      have e2 : ∀ H:Runs Col,sumNat (fun g:Int × Int × Col=>if (decide (r.X0 ≤ g.1) && decide (g.1 < r.X1)) = true then 1 else 0) H = inC (H.map (·.1)) r.X0 r.X1:=by
        intro H
        unfold inC
        induction H with
        | nil=>rfl
        | cons g H ihH =>
          simp only [sumNat,List.map_cons,List.countP_cons,ihH]; omega
      rw [e1,e2]
  rw [hex]
  exact Nat.le_refl _

/-- What holds at a cube hangs on the boxes alone that it is in. -/
structure Hangs3 (S:Int → Int → Int → Prop) (l:List Box):Prop where
  same : ∀ x y z x' y' z', (∀ b ∈ l, (rin b.Base x y ∧ b.Z0 ≤ z ∧ z < b.Z1) ↔ (rin b.Base x' y' ∧ b.Z0 ≤ z' ∧ z' < b.Z1)) → (S x y z ↔ S x' y' z')
  none : ∀ x y z,(∀ b ∈ l,¬ (rin b.Base x y∧b.Z0 ≤ z∧z < b.Z1)) → ¬ S x y z
theorem Hangs3.at {S:Int → Int → Int → Prop} {l:List Box} (h:Hangs3 S l) (z:Int):Hangs (fun x y=>S x y z) (bases l z):=by
  have hb : ∀ b ∈ l,(b.Z0 ≤ z∧z < b.Z1) → b.Base ∈ bases l z:=fun b hb hz=>List.mem_map.2 ⟨b,List.mem_filter.2 ⟨hb,by simpa using hz⟩,rfl⟩
  refine ⟨fun x y x' y' he=>h.same _ _ _ _ _ _ fun b hbl=>?_,fun x y hno=>h.none _ _ _ fun b hbl hh=>hno _ (hb b hbl hh.2) hh.1⟩
  constructor
  · rintro ⟨h1,h2⟩; exact ⟨(he _ (hb b hbl h2)).1 h1,h2⟩
  · rintro ⟨h1,h2⟩; exact ⟨(he _ (hb b hbl h2)).2 h1,h2⟩
theorem solid_len {S:Int → Int → Int → Prop} {l:List Box} {out:List Slab} (hS:Hangs3 S l) (hl : ∀ b ∈ l,VB b) (h:IsSolid S out):out.length ≤ 2 * l.length∧∀ s ∈ out,s.Area.length ≤ l.length * l.length:=by
  constructor
  · have h1 := starts_nodup h.canon
    have hsub : ∀ a ∈ (slabRuns out).map (·.1),a ∈ l.flatMap fun b=>[b.Z0,b.Z1]:=by
      intro a ha
      obtain ⟨g,hg,rfl⟩:=List.mem_map.1 ha
      obtain ⟨a,b,c⟩:=g
      have hab:=(canon_mem h.canon hg).1
      have hr:=rval_of_mem h.canon hg (Int.le_refl a) hab
      have hb:=rval_before h.canon hg
      dsimp only
      refine Classical.byContradiction fun hno=>hb ?_
      rw [← hr]
      refine (h.form (a - 1)).unique (h.form a) fun x y=>hS.same _ _ _ _ _ _ fun b hb=>?_
      have e1:a ≠ b.Z0:=fun e=>hno (List.mem_flatMap.2 ⟨b,hb,by simp [e]⟩)
      have e2:a ≠ b.Z1:=fun e=>hno (List.mem_flatMap.2 ⟨b,hb,by simp [e]⟩)
      constructor
      · rintro ⟨h1,h2⟩; exact ⟨h1,by omega⟩
      · rintro ⟨h1,h2⟩; exact ⟨h1,by omega⟩
    have h2:=nodup_le h1 hsub
    have h4 : ∀ m:List Box,(m.flatMap fun r=>[r.Z0,r.Z1]).length = 2 * m.length:=by
      intro m
      induction m with
      | nil=>rfl
      | cons a m ih=>simp only [List.flatMap_cons,List.length_append,List.length_cons,List.length_nil,ih]; omega
    rw [h4,List.length_map,slabRuns_length] at h2
    exact h2
  · intro s hs
    have hp:=(slab_pos h.canon hs).1
    have he:=sect_mem h.canon hs (Int.le_refl _) hp
    have:=form_len (hS.at s.Z0) (bases_right hl s.Z0) (h.form s.Z0)
    rw [he] at this
    exact Nat.le_trans this (Nat.mul_le_mul (bases_length l s.Z0) (bases_length l s.Z0))
/-- With few boxes no limit is met. -/
theorem slim_few {S:Int → Int → Int → Prop} {l:List Box} {out:List Slab} (hS:Hangs3 S l) (hl : ∀ b ∈ l,VB b) (h:IsSolid S out) (hn:l.length ≤ 14):SS out∧slim out = (out,0):=by
  obtain ⟨h1,h2⟩:=solid_len hS hl h
  have hsq:l.length * l.length ≤ 14 * 14:=Nat.mul_le_mul (by omega) (by omega)
  have hex : ∀ {x y z:Int},S x y z → ∃ b ∈ l,rin b.Base x y∧b.Z0 ≤ z∧z < b.Z1:=fun {x y z} hs=>Classical.byContradiction fun hno=>hS.none x y z (fun b hb hh=>hno ⟨b,hb,hh⟩) hs
  have hSS:SS out:=by
    refine ⟨by omega,h.canon,fun s hs=>?_⟩
    obtain ⟨hp,hne⟩:=slab_pos h.canon hs
    have hf:=h.form s.Z0
    rw [sect_mem h.canon hs (Int.le_refl _) hp] at hf
    have hf1:=h.form (s.Z1 - 1)
    rw [sect_mem h.canon hs (by omega) (by omega)] at hf1
    have hpos:=form_rect hf
    obtain ⟨r,hr⟩:=List.exists_mem_of_ne_nil _ hne
    have hrp:=hpos r hr
    obtain ⟨b,hb,hb1,hb2⟩:=hex ((hf.cells r.X0 r.Y0).1 ⟨r,hr,⟨Int.le_refl _,hrp.1⟩,Int.le_refl _,hrp.2⟩)
    obtain ⟨b', hb', hb1', hb2'⟩ := hex ((hf1.cells r.X0 r.Y0).1 ⟨r, hr, ⟨Int.le_refl _, hrp.1⟩, Int.le_refl _, hrp.2⟩)
    have v1:=hl b hb; have v2:=hl b' hb'
    unfold VB at v1 v2
    refine ⟨by omega,by omega,RR.of_form hf (fun q hq=>?_) (by have:=h2 s hs; omega)⟩
    have hqp:=hpos q hq
    obtain ⟨c,hc,hc1,_⟩:=hex ((hf.cells q.X0 q.Y0).1 ⟨q,hq,⟨Int.le_refl _,hqp.1⟩,Int.le_refl _,hqp.2⟩)
    obtain ⟨d,hd,hd1,_⟩:=hex ((hf.cells (q.X1 - 1) (q.Y1 - 1)).1 ⟨q,hq,⟨by omega,by omega⟩,by omega,by omega⟩)
    have w1:=(hl c hc).1; have w2:=(hl d hd).1
    unfold VR at w1 w2 ⊢
    unfold rin at hc1 hd1
    omega
  exact ⟨hSS,slim_fine hSS⟩
theorem bcells_hangs (l:List Box):Hangs3 (bcells l) l:=
  ⟨fun x y z x' y' z' h=>exists_congr fun b=>and_congr_right fun hb=>h b hb,fun x y z h ⟨b,hb,hh⟩=>h b hb hh⟩
theorem Hangs3.mono {S:Int → Int → Int → Prop} {l m:List Box} (h:Hangs3 S l) (hs : ∀ b ∈ l,b ∈ m):Hangs3 S m:=
  ⟨fun x y z x' y' z' he=>h.same _ _ _ _ _ _ fun b hb=>he b (hs b hb),fun x y z hn=>h.none x y z fun b hb=>hn b (hs b hb)⟩
theorem Hangs3.op {S T:Int → Int → Int → Prop} [∀ x y z,Decidable (S x y z)] [∀ x y z,Decidable (T x y z)] {l:List Box} (h:Hangs3 S l) (g:Hangs3 T l) (op:Int):Hangs3 (fun x y z=>opB op (decide (S x y z)) (decide (T x y z)) = true) l:=by
  refine ⟨fun x y z x' y' z' he=>?_,fun x y z hn=>?_⟩
  · have e1 : decide (S x y z) = decide (S x' y' z') := by rw [decide_eq_decide]; exact h.same _ _ _ _ _ _ he
    have e2:decide (T x y z) = decide (T x' y' z'):=by rw [decide_eq_decide]; exact g.same _ _ _ _ _ _ he
    rw [e1,e2]
  · have e1 : decide (S x y z) = false := by rw [decide_eq_false_iff_not]; exact h.none _ _ _ hn
    have e2:decide (T x y z) = false:=by rw [decide_eq_false_iff_not]; exact g.none _ _ _ hn
    rw [e1,e2,opB_false]; simp
theorem Hangs3.congr {S T:Int → Int → Int → Prop} {l:List Box} (h:Hangs3 S l) (he : ∀ x y z,S x y z ↔ T x y z):Hangs3 T l:=
  ⟨fun x y z x' y' z' hh=>by rw [← he,← he]; exact h.same _ _ _ _ _ _ hh,fun x y z hn=>by rw [← he]; exact h.none _ _ _ hn⟩
end Go.Proofs.YtagkmlkhaekldaaGreat

namespace Go.Proofs.YtagkmlkhaekldaaGreat
open Go.Gb
set_option linter.unusedVariables false
set_option linter.unusedSimpArgs false
set_option linter.unusedSectionVars false
set_option maxRecDepth 100000
/-- This solid has these cubes, and its borders are those of these boxes. -/
structure Mk (l:List Box) (S:Int → Int → Int → Bool) (s:List Slab):Prop where
  vb : ∀ b ∈ l,VB b
  ss:SS s
  is:IsSolid (fun x y z=>S x y z = true) s
  hang:Hangs3 (fun x y z=>S x y z = true) l
def bcB (l:List Box) (x y z:Int):Bool:=decide (bcells l x y z)
theorem bcB_iff {l:List Box} {x y z:Int}:bcB l x y z = true ↔ bcells l x y z:=by unfold bcB; rw [decide_eq_true_iff]
theorem Mk.of {l m:List Box} (h : ∀ b ∈ m,VB b) (hn:m.length ≤ 14) (hs : ∀ b ∈ l,b ∈ m) (hl:l.length ≤ 200) : ∃ s,Mk m (bcB l) s∧solid_Of l = some (s,0):=by
  have hv : ∀ b ∈ l,VB b:=fun b hb=>h b (hs b hb)
  obtain ⟨out,h1,h2⟩:=solid_Of_fine hv hl
  obtain ⟨h3,h4⟩:=slim_few ((bcells_hangs l).mono hs) h h1 hn
  exact ⟨out,⟨h,h3,h1.congr fun x y z=>bcB_iff.symm,((bcells_hangs l).mono hs).congr fun x y z=>bcB_iff.symm⟩,by rw [h2,h4]⟩
section
variable {l m:List Box} {S T:Int → Int → Int → Bool} {a b:List Slab}
theorem Mk.mono (h:Mk l S a) (hs : ∀ b ∈ l,b ∈ m) (hv : ∀ b ∈ m,VB b):Mk m S a:=⟨hv,h.ss,h.is,h.hang.mono hs⟩
theorem Mk.right (h:Mk l S a):solid_Right a = some true:=solid_Right_true h.ss
theorem Mk.nil (hv : ∀ b ∈ l,VB b):Mk l (fun _ _ _=>false) []:=by
  refine ⟨hv,ssB_spec (by decide),(ssB_spec (s:=[]) (by decide)).solid.congr fun x y z=>?_,⟨by simp,by simp⟩⟩
  rw [scells_iff,sect_nil]
  simp [cells]
end
end Go.Proofs.YtagkmlkhaekldaaGreat

namespace Go.Proofs.YtagkmlkhaekldaaGreat
open Go.Gb
set_option linter.unusedVariables false
set_option linter.unusedSimpArgs false
set_option linter.unusedSectionVars false
set_option maxRecDepth 100000
/-! counting -/
theorem sumN_zero_inv {f:Nat → Int} : ∀ {n:Nat},(∀ i,0 ≤ f i) → sumN f n = 0 → ∀ i,i < n → f i = 0
  | 0,_,_,i,hi=>absurd hi (Nat.not_lt_zero i)
  | n + 1, hf, h, i, hi => by
    have h1:=sumN_nonneg (n:=n) fun i _=>hf i
    have h2:=hf n
    simp only [sumN] at h
    by_cases e:i = n
    · subst e; omega
    · exact sumN_zero_inv (n:=n) hf (by omega) i (by omega)
/-! the loops -/
end Go.Proofs.YtagkmlkhaekldaaGreat

namespace Go.Proofs.YtagkmlkhaekldaaGreat
open Go.Gb
set_option linter.unusedVariables false
set_option linter.unusedSimpArgs false
set_option linter.unusedSectionVars false
set_option maxRecDepth 100000
def sg (x y:Int):Int:=if x < y then -1 else if y < x then 1 else 0
theorem cmp_eq (x y:Int):cmp_Compare_int x y = some (sg x y):=by
  unfold cmp_Compare_int cmp_isNaN_int sg
  simp only [bne_self_eq_false,Option.bind_some,decide_eq_true_eq]
  rw [if_neg (by simp),if_neg (by simp)]
  split
  · rfl
  · split <;> rfl
/-! bounds -/
end Go.Proofs.YtagkmlkhaekldaaGreat

namespace Go.Proofs.YtagkmlkhaekldaaGreat
open Go.Gb
set_option linter.unusedVariables false
set_option linter.unusedSimpArgs false
set_option linter.unusedSectionVars false
set_option maxRecDepth 100000
/-- coordinates, and steps, that can be reckoned with -/
def cK (x:Int):Prop:=-2097152 ≤ x∧x ≤ 2097152
/-! boxes -/
end Go.Proofs.YtagkmlkhaekldaaGreat

namespace Go.Proofs.YtagkmlkhaekldaaGreat
open Go.Gb
set_option linter.unusedVariables false
set_option linter.unusedSimpArgs false
set_option linter.unusedSectionVars false
set_option linter.unusedVariables false
set_option linter.unusedSimpArgs false

def Tot {α:Type} (o:Option α):Prop:=∃ r,o = some r
theorem Tot.pure {α:Type} (x:α):Tot (some x):=⟨x,rfl⟩
theorem Tot.bind {α β:Type} {o:Option α} {f:α → Option β} (h:Tot o) (g : ∀ x,o = some x → Tot (f x)):Tot (o.bind f):=by
  obtain ⟨x,hx⟩:=h
  rw [hx]; exact g x hx
theorem Tot.ite {α:Type} {c:Prop} [Decidable c] {x y:Option α} (h:c → Tot x) (g : ¬c → Tot y):Tot (if c then x else y):=by
  split
  · exact h ‹_›
  · exact g ‹_›
/-- a loop that counts -/
theorem tot_loop {σ ρ:Type} {body:σ → Option (Flow σ ρ)} (idx:σ → Int) (I:σ → Prop) (N:Nat)
    (step : ∀ s i, idx s = ((i : Nat) : Int) → i < N → I s → (∃ s', body s = some (.go s') ∧ idx s' = ((i + 1 : Nat) : Int) ∧ I s') ∨ ∃ f, body s = some f ∧ f.ends)
    (done : ∀ s,idx s = ((N:Nat):Int) → I s → ∃ f,body s = some f∧f.ends) (s0:σ) (h0:idx s0 = 0) (hI:I s0) {fuel:Nat} (hf:N < fuel) : ∃ f,iterL body fuel s0 = some f∧f.ends:=by
  obtain ⟨f,h1,h2,_⟩:=loop_up (body:=body) (fun i s=>idx s = ((i:Nat):Int)∧I s) N (fun _=>True)
    (fun i s hi hs => (step s i hs.1 hi hs.2).imp (fun ⟨s', a, b, c⟩ => ⟨s', a, b, c⟩) fun ⟨f, a, b⟩ => ⟨f, a, b, trivial⟩)
    (fun s hs=>let ⟨f,a,b⟩:=done s hs.1 hs.2; ⟨f,a,b,trivial⟩) s0 ⟨h0,hI⟩ fuel hf
  exact ⟨f,h1,h2⟩
theorem Tot.loop {σ ρ τ:Type} {o:Option (Flow σ ρ)} {f:Flow σ ρ → Option τ} (h : ∃ x,o = some x∧x.ends) (g : ∀ x,x.ends → Tot (f x)):Tot (o.bind f):=by
  obtain ⟨x,hx,he⟩:=h
  rw [hx]; exact g x he

theorem loop_allQ {body:Int → Option (Flow Int Bool)} {id:Nat} (N:Nat) (Q:Nat → Prop) (hN:N ≤ 1000000000)
    (step : ∀ i:Nat,i < N → (∀ m,m < i → Q m) → (Q i∧body (i:Int) = (addI (i:Int) 1).bind fun x=>some (.go x)) ∨ (¬ Q i∧body (i:Int) = some (.ret false)))
    (done:body (N:Int) = some (.ex id (N:Int))) {fuel:Nat} (hf:N < fuel) :
    ((∀ m,m < N → Q m)∧iterL body fuel 0 = some (.ex id (N:Int))) ∨ ((∃ m,m < N∧¬ Q m)∧iterL body fuel 0 = some (.ret false)):=by
  obtain ⟨f,h1,h2,h3⟩:=loop_up (body:=body) (fun i s=>s = ((i:Nat):Int)∧∀ m,m < i → Q m) N
    (fun f=>((∀ m,m < N → Q m)∧f = .ex id (N:Int)) ∨ ((∃ m,m < N∧¬ Q m)∧f = .ret false)) (fun i s hi ⟨hs,hI⟩=>by
      subst hs
      rcases step i hi hI with ⟨hq,hb⟩ | ⟨hq,hb⟩
      · rw [addI_one (by omega)] at hb
        refine .inl ⟨_,hb,rfl,fun m hm=>?_⟩
        by_cases e:m = i
        · subst e; exact hq
        · exact hI m (by omega)
      · exact .inr ⟨_,hb,trivial,.inr ⟨⟨i,hi,hq⟩,rfl⟩⟩) (fun s ⟨hs,hI⟩=>by
      subst hs
      exact ⟨_,done,trivial,.inl ⟨hI,rfl⟩⟩) 0 ⟨rfl,fun m h=>by omega⟩ fuel hf
  rcases h3 with ⟨h3,rfl⟩ | ⟨h3,rfl⟩
  · exact .inl ⟨h3,h1⟩
  · exact .inr ⟨h3,h1⟩
end Go.Proofs.YtagkmlkhaekldaaGreat

namespace Go.Proofs.YtagkmlkhaekldaaGreat
open Go.Gb
set_option linter.unusedVariables false
set_option linter.unusedSimpArgs false
set_option linter.unusedSectionVars false
set_option linter.unusedVariables false
set_option linter.unusedSimpArgs false

theorem makeI_some {α:Type} {n:Nat} {z:α} (h:n ≤ 1000000):makeI (n:Int) z = some (List.replicate n z):=by
  unfold makeI
  rw [if_pos (by constructor <;> omega)]
  simp
theorem remI_nat {i n:Nat} (h0:0 < n):remI (i:Int) (n:Int) = some ((i % n:Nat):Int):=by
  unfold remI
  rw [if_pos (by omega)]
  congr 1
end Go.Proofs.YtagkmlkhaekldaaGreat

namespace Go.Proofs.YtagkmlkhaekldaaGreat
open Go.Gb
set_option linter.unusedVariables false
set_option linter.unusedSimpArgs false
set_option linter.unusedSectionVars false
set_option linter.unusedVariables false
set_option linter.unusedSimpArgs false

theorem rvol {v:Volume} : ∃ b,drawing_RightVolume v = some b∧(b = true → VR v.Box.Base∧0 ≤ v.Box.Z0∧v.Box.Z0 < v.Box.Z1∧v.Box.Z1 ≤ 4096∧0 ≤ v.Use∧v.Use ≤ 5∧0 ≤ v.Units∧v.Units ≤ 1048576):=by
  unfold drawing_RightVolume
  rw [rect_Right_eq,Option.bind_some]
  split
  · exact ⟨_,rfl,fun h=>by simp at h⟩
  · rename_i h
    simp at h
    split
    · exact ⟨_,rfl,fun h=>by simp at h⟩
    · refine ⟨_, rfl, fun g => ?_⟩
      simp at g
      exact ⟨h.1.1.1,by omega,by omega,by omega,by omega,by omega,by omega,by omega⟩
/-- a plan with few tables -/
def PlanS (p:Plan):Prop:=p.Tables.length ≤ 5∧∀ t ∈ p.Tables,t.Rows.length ≤ 10
theorem indexE_tot {s:List Entry} {f:Entry → Option Bool} (hl:s.length ≤ 1000000) (hf : ∀ x,Tot (f x)) : ∃ r,slices_IndexFunc_Entry s f = some r∧(0 ≤ r → r < (s.length:Int)):=by
  obtain ⟨g,k1,k2,k3⟩:=loop_up (body:=slices_IndexFunc_Entry_L0 s f) (fun j t=>t = ((j:Nat):Int)) s.length (fun g=>match g with | .ex _ _=>True | .ret r=>0 ≤ r∧r < (s.length:Int) | .go _=>False) (fun j t hj ht=>by
    subst ht
    unfold slices_IndexFunc_Entry_L0
    obtain ⟨b,hb⟩:=hf s[j]
    rw [if_pos (by simpa using hj),getI_nat hj,Option.bind_some,hb,Option.bind_some]
    cases b with
    | true=>exact .inr ⟨_,rfl,trivial,by show (0:Int) ≤ j; omega,by show (j:Int) < _; omega⟩
    | false=>rw [if_neg (by simp),addI_one (by omega)]; exact .inl ⟨_,rfl,rfl⟩) (fun t ht=>by
    subst ht
    unfold slices_IndexFunc_Entry_L0
    rw [if_neg (by simp)]
    exact ⟨_,rfl,trivial,trivial⟩) 0 rfl (s.length + 1) (by omega)
  unfold slices_IndexFunc_Entry
  rw [k1,Option.bind_some]
  cases g with
  | go _=>exact k2.elim
  | ex _ _=>exact ⟨_,rfl,fun h=>by omega⟩
  | ret r=>exact ⟨_,rfl,fun _=>k3.2⟩
theorem row1_tot {e:Entry} {q:ByteArray × ByteArray × ByteArray × ByteArray × ByteArray × ByteArray} {u:Int} (h0:0 ≤ u) (h5:u ≤ 5):Tot (measure_row_1 e q u):=by
  unfold measure_row_1
  rw [getI_some h0 (by simp; omega)]
  exact Tot.pure _
theorem row_tot {p:Plan} {u:Int} (hp:PlanS p) (h0:0 ≤ u) (h5:u ≤ 5) : ∃ n,measure_row p u = some n∧0 ≤ n∧n ≤ 1048576:=by
  have hl4:=hp.1
  obtain ⟨f,h1,h2,h3⟩:=loop_up (body:=measure_row_L0 p u) (fun i s=>s = ((i:Nat):Int)) p.Tables.length
    (fun f=>match f with | .ex _ _=>True | .ret n=>0 ≤ n∧n ≤ 1048576 | .go _=>False) (fun i s hi hs=>by
      subst hs
      unfold measure_row_L0
      rw [if_pos (by simpa using hi),getI_nat hi,Option.bind_some]
      split
      · rw [addI_one (by omega)]; exact .inl ⟨_,rfl,rfl⟩
      · have hr8 := hp.2 _ (List.getElem_mem hi)
        obtain ⟨r,hr,hrl⟩:=indexE_tot (s:=p.Tables[i].Rows) (f:=fun y0=>measure_row_1 y0 (((⟨#[104,111,109,101]⟩:ByteArray),(⟨#[115,104,111,112]⟩:ByteArray),(⟨#[119,111,114,107]⟩:ByteArray),(⟨#[112,97,114,107]⟩:ByteArray),(⟨#[112,108,97,110,116]⟩:ByteArray),(⟨#[104,97,108,108]⟩:ByteArray)):(ByteArray × ByteArray × ByteArray × ByteArray × ByteArray × ByteArray)) u) (by omega) fun x=>row1_tot h0 h5
        rw [hr,Option.bind_some]
        obtain ⟨m,hm⟩:Tot (if (decide (0 ≤ r)) = true then (getI p.Tables[i].Rows r).bind fun x=>some x.N else some p.Tables[i].Else):=by
          refine Tot.ite (fun h=>?_) fun _=>Tot.pure _
          have h:=of_decide_eq_true h
          rw [getI_some h (hrl h)]
          exact Tot.pure _
        rw [hm,Option.bind_some]
        exact .inr ⟨_,rfl,trivial,by show (0:Int) ≤ max 0 (min m 1048576); omega,by show max 0 (min m 1048576) ≤ 1048576; omega⟩) (fun s hs=>by
      subst hs
      unfold measure_row_L0
      rw [if_neg (by simp)]
      exact ⟨_,rfl,trivial,trivial⟩) 0 rfl (p.Tables.length + 1) (by omega)
  unfold measure_row
  rw [h1,Option.bind_some]
  cases f with
  | go _=>exact h2.elim
  | ex _ _=>exact ⟨_,rfl,by omega,by omega⟩
  | ret n=>exact ⟨_,rfl,h3.1,h3.2⟩
theorem area_tot {r:Rect} (h:VR r) : ∃ n,rect_Area r = some n∧0 ≤ n∧n ≤ 1099511627776:=by
  unfold rect_Area rect_checked
  have hv:=h
  unfold VR at hv
  rw [rect_Right_eq,Option.bind_some,decide_eq_true h,if_pos rfl,Option.bind_some]
  dsimp only
  rw [subI_some (by constructor <;> omega),Option.bind_some,subI_some (by constructor <;> omega),Option.bind_some]
  have h1:0 ≤ (r.X1 - r.X0) * (r.Y1 - r.Y0):=Int.mul_nonneg (by omega) (by omega)
  have h2:(r.X1 - r.X0) * (r.Y1 - r.Y0) ≤ 1048576 * 1048576:=Int.mul_le_mul (by omega) (by omega) (by omega) (by omega)
  rw [mulI_some (by constructor <;> omega),Option.bind_some]
  exact ⟨_,rfl,h1,by omega⟩
theorem floor_tot (v:Volume) : ∃ n,measure_Floor v = some n∧0 ≤ n∧n ≤ 2251799813685248:=by
  unfold measure_Floor
  obtain ⟨b,hb,hbs⟩:=rvol (v:=v)
  rw [hb,Option.bind_some]
  cases b with
  | false=>rw [if_pos (by simp)]; exact ⟨_,rfl,by omega,by omega⟩
  | true =>
    obtain ⟨hV,h1,h2,h3,_⟩:=hbs rfl
    rw [if_neg (by simp)]
    obtain ⟨a,ha,ha0,ha1⟩:=area_tot hV
    rw [ha,Option.bind_some]
    obtain ⟨s,hs,hs0,hs1⟩ : ∃ s,measure_Storeys v = some s∧0 ≤ s∧s ≤ 2048:=by
      unfold measure_Storeys
      rw [hb]
      cases v.Extra with
      | true=>rw [if_pos rfl,Option.bind_some,if_pos rfl]; exact ⟨_,rfl,by omega,by omega⟩
      | false =>
        rw [if_neg (by simp),Option.bind_some,Option.bind_some,if_neg (by simp),subI_some (by constructor <;> omega),Option.bind_some,addI_some (by constructor <;> omega),Option.bind_some,subI_some (by constructor <;> omega),Option.bind_some]
        have hq:(v.Box.Z1 - v.Box.Z0 + 3 - 1).tdiv 3 = (v.Box.Z1 - v.Box.Z0 + 3 - 1) / 3:=Int.tdiv_eq_ediv_of_nonneg (by omega)
        unfold quoI
        rw [if_pos ⟨by omega,by rw [hq]; constructor <;> omega⟩,Option.bind_some]
        exact ⟨_,rfl,by rw [hq]; omega,by rw [hq]; omega⟩
    rw [hs,Option.bind_some]
    have g1:0 ≤ a * s:=Int.mul_nonneg ha0 hs0
    have g2:a * s ≤ 1099511627776 * 2048:=Int.mul_le_mul ha1 hs1 hs0 (by omega)
    rw [mulI_some (by constructor <;> omega),Option.bind_some]
    exact ⟨_,rfl,g1,by omega⟩
theorem traffic_tot {p:Plan} {v:Volume} (hp:PlanS p) (h0:0 ≤ v.Use) (h5:v.Use ≤ 5) : ∃ n,measure_traffic p v = some n∧0 ≤ n∧n ≤ 1099511627776:=by
  unfold measure_traffic
  obtain ⟨r,hr,hr0,hr1⟩:=row_tot hp h0 h5
  obtain ⟨f,hf,hf0,hf1⟩:=floor_tot v
  rw [hr,Option.bind_some,hf,Option.bind_some]
  by_cases hz:0 < r
  · have hq : (109951162777600 : Int).tdiv r = 109951162777600 / r := Int.tdiv_eq_ediv_of_nonneg (by omega)
    have hq0:0 ≤ 109951162777600 / r:=Int.ediv_nonneg (by omega) (by omega)
    have hq1:109951162777600 / r ≤ 109951162777600:=Int.ediv_le_self _ (by omega)
    rw [if_pos (by simpa using hz)]
    unfold quoI
    rw [if_pos ⟨by omega,by rw [hq]; constructor <;> omega⟩,Option.bind_some,Option.bind_some,hq]
    by_cases hc:109951162777600 / r < f
    · rw [if_pos (by simpa using hc)]
      exact ⟨_,rfl,by omega,by omega⟩
    · rw [if_neg (by simpa using hc)]
      have g0:0 ≤ r * f:=Int.mul_nonneg (by omega) hf0
      have g1:r * f ≤ r * (109951162777600 / r):=Int.mul_le_mul_of_nonneg_left (by omega) (by omega)
      have g2:r * (109951162777600 / r) ≤ 109951162777600:=Int.mul_ediv_self_le (by omega)
      rw [mulI_some (by constructor <;> omega),Option.bind_some,addI_some (by constructor <;> omega),Option.bind_some,subI_some (by constructor <;> omega),Option.bind_some]
      have hq2:(r * f + 100 - 1).tdiv 100 = (r * f + 100 - 1) / 100:=Int.tdiv_eq_ediv_of_nonneg (by omega)
      rw [if_pos ⟨by omega,by rw [hq2]; constructor <;> omega⟩,Option.bind_some]
      exact ⟨_,rfl,by rw [hq2]; omega,by rw [hq2]; omega⟩
  · obtain rfl : r = 0 := by omega
    rw [if_neg (by simp),Option.bind_some,if_neg (by simp),mulI_some (by rw [Int.zero_mul]; constructor <;> omega),Option.bind_some,Int.zero_mul,addI_some (by constructor <;> omega),Option.bind_some,subI_some (by constructor <;> omega),Option.bind_some]
    exact ⟨_,rfl,by decide,by decide⟩
theorem containsR_tot {s:List Rect} {f:Rect → Option Bool} (hl:s.length ≤ 1000000) (hf : ∀ x,Tot (f x)):Tot (slices_ContainsFunc_Rect s f):=by
  unfold slices_ContainsFunc_Rect
  refine Tot.bind ?_ fun _ _=>Tot.pure _
  unfold slices_IndexFunc_Rect
  refine Tot.loop (tot_loop (fun s=>s) (fun _=>True) s.length ?_ ?_ 0 rfl trivial (by omega)) ?_
  · intro i n hi hn _
    subst hi
    unfold slices_IndexFunc_Rect_L0
    obtain ⟨b,hb⟩:=hf s[n]
    rw [if_pos (by simpa using hn),getI_nat hn]
    simp only [Option.bind_some,hb]
    cases b with
    | true=>exact .inr ⟨_,rfl,trivial⟩
    | false =>
      rw [if_neg (by simp),addI_one (by omega)]
      exact .inl ⟨_,rfl,rfl,trivial⟩
  · intro i hi _
    subst hi
    unfold slices_IndexFunc_Rect_L0
    rw [if_neg (by simp)]
    exact ⟨_,rfl,trivial⟩
  · intro x hx
    cases x with
    | go _=>exact hx.elim
    | ex _ _=>exact Tot.pure _
    | ret _=>exact Tot.pure _
theorem inter_tot (a b:Rect):Tot (rect_Intersect a b):=by
  unfold rect_Intersect rect_checked
  simp only [rect_Right_eq,Option.bind_some]
  refine Tot.bind (Tot.ite (fun _=>Tot.pure _) fun _=>Tot.pure _) fun _ _=>Tot.ite (fun _=>Tot.pure _) fun _=>Tot.bind (Tot.ite (fun _=>Tot.pure _) fun _=>Tot.pure _) fun _ _=>Tot.pure _
end Go.Proofs.YtagkmlkhaekldaaGreat

namespace Go.Proofs.YtagkmlkhaekldaaGreat
open Go.Gb
set_option linter.unusedVariables false
set_option linter.unusedSimpArgs false
set_option linter.unusedSectionVars false
set_option linter.unusedVariables false
set_option linter.unusedSimpArgs false

theorem sorted_ext : ∀ {l m:List Int},l.Perm m → l.Pairwise (fun a b=>a ≤ b) → m.Pairwise (fun a b=>a ≤ b) → l = m
  | [],m,h,_,_=>h.nil_eq
  | a::l,[],h,_,_=>by simp at h
  | a :: l, b :: m, h, hl, hm => by
    have hab:a = b:=by
      have h1:a ∈ b::m:=h.subset List.mem_cons_self
      have h2:b ∈ a::l:=h.symm.subset List.mem_cons_self
      rcases List.mem_cons.1 h1 with e | h1
      · exact e
      · rcases List.mem_cons.1 h2 with e | h2
        · exact e.symm
        · have := (List.pairwise_cons.1 hm).1 a h1
          have:=(List.pairwise_cons.1 hl).1 b h2
          omega
    subst hab
    rw [sorted_ext ((List.perm_cons a).1 h) (List.pairwise_cons.1 hl).2 (List.pairwise_cons.1 hm).2]
theorem strict_ext : ∀ {l m:List Int},l.Pairwise (fun a b=>a < b) → m.Pairwise (fun a b=>a < b) → (∀ x,x ∈ l ↔ x ∈ m) → l = m
  | [],[],_,_,_=>rfl
  | [],b::m,_,_,h=>by have:=(h b).2 List.mem_cons_self; simp at this
  | a::l,[],_,_,h=>by have:=(h a).1 List.mem_cons_self; simp at this
  | a :: l, b :: m, hl, hm, h => by
    have ha:=(List.pairwise_cons.1 hl).1
    have hb:=(List.pairwise_cons.1 hm).1
    have hab:a = b:=by
      rcases List.mem_cons.1 ((h a).1 List.mem_cons_self) with e | h1
      · exact e
      · rcases List.mem_cons.1 ((h b).2 List.mem_cons_self) with e | h2
        · exact e.symm
        · have:=hb a h1; have:=ha b h2; omega
    subst hab
    rw [strict_ext (List.pairwise_cons.1 hl).2 (List.pairwise_cons.1 hm).2 fun x=>?_]
    constructor
    · intro hx
      rcases List.mem_cons.1 ((h x).1 (List.mem_cons_of_mem _ hx)) with e | h1
      · have:=ha x hx; omega
      · exact h1
    · intro hx
      rcases List.mem_cons.1 ((h x).2 (List.mem_cons_of_mem _ hx)) with e | h1
      · have:=hb x hx; omega
      · exact h1
theorem sort_is {l m:List Int} (h:l.length ≤ 1000) (hp:l.Perm m) (hs:m.Pairwise fun a b=>a ≤ b):sortInts l = some m:=by
  obtain ⟨r, hr, hp', hs'⟩ := sortInts_spec (l := l) (by omega)
  rw [hr,sorted_ext (hp'.trans hp) hs' hs]
theorem compact_is {l m:List Int} (h:l.length ≤ 1000) (hs:l.Pairwise fun a b=>a ≤ b) (hm:m.Pairwise fun a b=>a < b) (he : ∀ x,x ∈ l ↔ x ∈ m):compactInts l = some m:=by
  obtain ⟨r,hr,h1,h2,_⟩:=compactInts_spec (l:=l) (by omega) hs
  rw [hr,strict_ext h1 hm fun x=>(h2 x).trans (he x)]
end Go.Proofs.YtagkmlkhaekldaaGreat

namespace Go.Proofs.YtagkmlkhaekldaaGreat
open Go.Gb
set_option linter.unusedVariables false
set_option linter.unusedSimpArgs false
set_option linter.unusedSectionVars false
set_option linter.unusedVariables false
set_option linter.unusedSimpArgs false

def pt (p:List Point) (i:Nat):Point:=p.getD i ⟨0,0⟩
theorem getI_pt {p:List Point} {i:Nat} (h:i < p.length):getI p (i:Int) = some (pt p i):=by
  rw [getI_nat h]; simp [pt,h]
def nx (p:List Point) (i:Nat):Nat:=(i + 1) % p.length
theorem nx_lt {p:List Point} (i:Nat) (h:0 < p.length):nx p i < p.length:=Nat.mod_lt _ h
/-- the side from a corner on -/
def sd (p:List Point) (i:Nat):PolygonSide:=⟨pt p i,pt p (nx p i)⟩
def sds (p:List Point):List PolygonSide:=(List.range p.length).map (sd p)
theorem sds_len (p:List Point):(sds p).length = p.length:=by simp [sds]
theorem getI_sds {p:List Point} {i:Nat} (h:i < p.length):getI (sds p) (i:Int) = some (sd p i):=by
  rw [getI_nat (by rw [sds_len]; exact h)]; simp [sds]
theorem around_eq {p:List Point} (h:p.length ≤ 60):polygon_around p = some (sds p):=by
  unfold polygon_around
  rw [makeI_some (by omega),Option.bind_some]
  obtain ⟨f,h1,h2,h3⟩:=loop_up (body:=polygon_around_L0 p) (fun i s=>s.2 = ((i:Nat):Int)∧s.1 = (List.range i).map (sd p) ++ List.replicate (p.length - i) ⟨⟨0,0⟩,⟨0,0⟩⟩) p.length
    (fun f=>match f with | .ex _ s=>s.1 = sds p | _=>False) (fun i s hi ⟨hs,hl⟩=>by
      obtain ⟨l,j⟩:=s
      dsimp only at hs hl
      subst hs
      unfold polygon_around_L0
      dsimp only
      have hm:(i + 1) % p.length < p.length:=Nat.mod_lt _ (by omega)
      have hll:i < l.length:=by rw [hl]; simp; omega
      rw [if_pos (by simpa using hi),getI_pt hi,Option.bind_some,addI_one (by omega),Option.bind_some,remI_nat (by omega),Option.bind_some,getI_pt hm,Option.bind_some,getI_nat hll,Option.bind_some,Option.bind_some,Option.bind_some]
      refine .inl ⟨_,rfl,rfl,?_⟩
      dsimp only
      rw [hl,Int.toNat_natCast,List.set_append,if_neg (by simp),List.range_succ,List.map_append,List.append_assoc]
      congr 1
      have e1:p.length - i = (p.length - (i + 1)) + 1:=by omega
      rw [e1,List.replicate_succ]
      simp [sd,nx]) (fun s ⟨hs,hl⟩=>by
      unfold polygon_around_L0
      rw [hs,if_neg (by simp)]
      refine ⟨_,rfl,trivial,?_⟩
      show s.1 = _
      rw [hl]; simp [sds]) (List.replicate p.length ⟨⟨0,0⟩,⟨0,0⟩⟩,0) ⟨rfl,by simp⟩ (p.length + 1) (by omega)
  rw [h1,Option.bind_some]
  cases f with
  | go _=>exact h2.elim
  | ret _=>exact h3.elim
  | ex _ s=>exact congrArg some h3
/-- a corner is on the grid, and its two sides are horizontal and vertical -/
def q1 (p:List Point) (i:Nat):Bool:=
  !((((((decide ((pt p i).X < 0)) || (decide (1048576 < (pt p i).X))) || (decide ((pt p i).Y < 0))) || (decide (1048576 < (pt p i).Y))) || (((pt p i).X == (pt p (nx p i)).X) == ((pt p i).Y == (pt p (nx p i)).Y))) || (((pt p i).X == (pt p (nx p i)).X) == ((pt p (nx p i)).X == (pt p (nx p (nx p i))).X)))
def lss (a b:Point):Bool:=(decide (a.X < b.X)) || ((a.X == b.X) && (decide (a.Y < b.Y)))
def mts (a b c d:Point):Bool:=(decide ((max (min a.X b.X) (min c.X d.X)) ≤ (min (max a.X b.X) (max c.X d.X)))) && (decide ((max (min a.Y b.Y) (min c.Y d.Y)) ≤ (min (max a.Y b.Y) (max c.Y d.Y))))
def q2 (p:List Point) (i:Nat):Prop:=0 < i → lss (pt p 0) (pt p i) = true
def q3 (p:List Point) (i k:Nat):Prop:=nx p k ≠ i → mts (pt p i) (pt p (nx p i)) (pt p k) (pt p (nx p k)) = false
/-- a polygon -/
def Poly (p:List Point):Prop:=4 ≤ p.length∧p.length ≤ 60∧(∀ i,i < p.length → q1 p i = true)∧(∀ i,i < p.length → q2 p i)∧(∀ i,i < p.length → ∀ k,i + 2 ≤ k → k < p.length → q3 p i k)∧(pt p 0).Y = (pt p 1).Y
theorem loop_allO {body:Int → Option (Flow Int Bool)} {id:Nat} (c N:Nat) (Q:Nat → Prop) (hN:c + N ≤ 1000000000)
    (step : ∀ i:Nat,i < N → (Q (c + i)∧body ((c + i:Nat):Int) = (addI ((c + i:Nat):Int) 1).bind fun x=>some (.go x)) ∨ (¬ Q (c + i)∧body ((c + i:Nat):Int) = some (.ret false)))
    (done:body ((c + N:Nat):Int) = some (.ex id ((c + N:Nat):Int))) {fuel:Nat} (hf:N < fuel) :
    ((∀ m,m < N → Q (c + m))∧iterL body fuel (c:Int) = some (.ex id ((c + N:Nat):Int))) ∨ ((∃ m,m < N∧¬ Q (c + m))∧iterL body fuel (c:Int) = some (.ret false)):=by
  obtain ⟨f,h1,h2,h3⟩:=loop_up (body:=body) (fun i s=>s = ((c + i:Nat):Int)∧∀ m,m < i → Q (c + m)) N
    (fun f=>((∀ m,m < N → Q (c + m))∧f = .ex id ((c + N:Nat):Int)) ∨ ((∃ m,m < N∧¬ Q (c + m))∧f = .ret false)) (fun i s hi ⟨hs,hI⟩=>by
      subst hs
      rcases step i hi with ⟨hq,hb⟩ | ⟨hq,hb⟩
      · rw [addI_one (by omega)] at hb
        refine .inl ⟨_,hb,rfl,fun m hm=>?_⟩
        by_cases e:m = i
        · subst e; exact hq
        · exact hI m (by omega)
      · exact .inr ⟨_,hb,trivial,.inr ⟨⟨i,hi,hq⟩,rfl⟩⟩) (fun s ⟨hs,hI⟩=>by
      subst hs
      exact ⟨_,done,trivial,.inl ⟨hI,rfl⟩⟩) (c:Int) ⟨rfl,fun m h=>by omega⟩ fuel hf
  rcases h3 with ⟨h3,rfl⟩ | ⟨h3,rfl⟩
  · exact .inl ⟨h3,h1⟩
  · exact .inr ⟨h3,h1⟩
theorem nx2 {p:List Point} (i:Nat) (h:0 < p.length):(i + 2) % p.length = nx p (nx p i):=by
  unfold nx
  rw [Nat.mod_add_mod]
theorem rcorners_eq {p:List Point} (h4:4 ≤ p.length) (h:p.length ≤ 60):(∀ i,i < p.length → q1 p i = true)∧ref07_corners p = some true ∨ (∃ i,i < p.length∧¬ q1 p i = true)∧ref07_corners p = some false:=by
  unfold ref07_corners
  have hb : ∀ i:Nat,i < p.length → ref07_corners_L0 p (i:Int) = if (!(q1 p i)) = true then some (.ret false) else (addI (i:Int) 1).bind fun x=>some (.go x):=fun i hi=>by
    have e1:addI (i:Int) 1 = some ((i + 1:Nat):Int):=addI_one (by omega)
    have e2:remI ((i + 1:Nat):Int) (p.length:Int) = some ((nx p i:Nat):Int):=remI_nat (by omega)
    have e3:addI (i:Int) 2 = some ((i + 2:Nat):Int):=by rw [addI_some (by constructor <;> omega)]; rfl
    have e4:remI ((i + 2:Nat):Int) (p.length:Int) = some ((nx p (nx p i):Nat):Int):=by rw [← nx2 i (by omega)]; exact remI_nat (by omega)
    unfold ref07_corners_L0
    rw [if_pos (by simpa using hi),getI_pt hi,Option.bind_some,e1,Option.bind_some,e2,Option.bind_some,getI_pt (nx_lt i (by omega)),Option.bind_some,e3,Option.bind_some,e4,Option.bind_some,getI_pt (nx_lt _ (by omega)),Option.bind_some]
    unfold q1
    rw [Bool.not_not]
  rcases loop_allQ (body:=ref07_corners_L0 p) (id:=0) p.length (fun i=>q1 p i = true) (by omega) (fun i hi _=>by
    rw [hb i hi]
    cases hq:q1 p i with
    | true=>exact .inl ⟨rfl,rfl⟩
    | false=>exact .inr ⟨by simp,rfl⟩) (by
    unfold ref07_corners_L0
    rw [if_neg (by simp)]) (fuel:=p.length + 1) (by omega) with ⟨h1,h2⟩ | ⟨h1,h2⟩
  · exact .inl ⟨h1,by rw [h2]; rfl⟩
  · exact .inr ⟨h1,by rw [h2]; rfl⟩

theorem or2 (x y:Int):cmp_Or_int [x,y] = some (if x ≠ 0 then x else y):=by
  unfold cmp_Or_int
  by_cases hx:x = 0
  · by_cases hy : y = 0
    · subst hx hy; rfl
    · subst hx
      have e0:cmp_Or_int_L0 [0,y] 0 = some (.go 1):=rfl
      have e1:cmp_Or_int_L0 [0,y] 1 = some (.ret y):=by
        show (if (y != 0) = true then _ else _) = _
        rw [if_pos (by simpa using hy)]
      simp [iterL,e0,e1]
  · have e0 : cmp_Or_int_L0 [x, y] 0 = some (.ret x) := by
      show (if (x != 0) = true then _ else _) = _
      rw [if_pos (by simpa using hx)]
    simp [iterL,e0,hx]
theorem pcompare_eq (a b:Point) : ∃ c,polygon_compare a b = some c∧(decide (0 ≤ c) = !(lss a b)):=by
  unfold polygon_compare
  rw [cmp_eq,Option.bind_some,cmp_eq,Option.bind_some,or2,Option.bind_some]
  refine ⟨_,rfl,?_⟩
  rw [Bool.eq_iff_iff]
  unfold lss sg
  simp only [decide_eq_true_eq, Bool.not_eq_true', Bool.or_eq_false_iff, decide_eq_false_iff_not, Bool.and_eq_false_imp, beq_iff_eq]
  by_cases h1:a.X < b.X
  · simp [h1]
  · by_cases h2 : b.X < a.X
    · simp [h1,h2]; omega
    · have : a.X = b.X := by omega
      by_cases h3:a.Y < b.Y
      · simp [h1,h2,h3,this]
      · by_cases h4:b.Y < a.Y <;> simp [h1,h2,h3,h4,this]
theorem rright1 {p:List Point} (h4:4 ≤ p.length) (h:p.length ≤ 60) {i:Nat} (hi:i < p.length) (hid:Nat:=2) :
    ((∀ k,i + 2 ≤ k → k < p.length → q3 p i k)∧∃ s,iterL (ref07_Right_L1 p (i:Int)) (p.length + 1) ((i + 2:Nat):Int) = some (.ex 2 s)) ∨ ((∃ k,i + 2 ≤ k∧k < p.length∧¬ q3 p i k)∧iterL (ref07_Right_L1 p (i:Int)) (p.length + 1) ((i + 2:Nat):Int) = some (.ret false)):=by
  by_cases hn:p.length ≤ i + 2
  · refine .inl ⟨fun k h1 h2 => by omega, ((i + 2 : Nat) : Int), ?_⟩
    have e:ref07_Right_L1 p (i:Int) ((i + 2:Nat):Int) = some (.ex 2 ((i + 2:Nat):Int)):=by
      unfold ref07_Right_L1
      rw [if_neg (by simp; omega)]
    simp only [iterL,e,Option.bind_some]
  · have hb : ∀ k : Nat, i + 2 ≤ k → k < p.length → (q3 p i k ∧ ref07_Right_L1 p (i : Int) (k : Int) = (addI (k : Int) 1).bind fun x => some (.go x)) ∨ (¬ q3 p i k ∧ ref07_Right_L1 p (i : Int) (k : Int) = some (.ret false)) := fun k h1 h2 => by
      have e1:addI (k:Int) 1 = some ((k + 1:Nat):Int):=addI_one (by omega)
      have e2:remI ((k + 1:Nat):Int) (p.length:Int) = some ((nx p k:Nat):Int):=remI_nat (by omega)
      have e3:addI (i:Int) 1 = some ((i + 1:Nat):Int):=addI_one (by omega)
      have e4:i + 1 = nx p i:=by unfold nx; rw [Nat.mod_eq_of_lt (by omega)]
      unfold ref07_Right_L1
      rw [if_pos (by simpa using h2),e1,Option.bind_some,e2,Option.bind_some]
      by_cases hne:nx p k = i
      · refine .inl ⟨fun h => absurd hne h, ?_⟩
        rw [if_neg (by simp [hne]),Option.bind_some,if_neg (by simp)]
      · rw [if_pos (by simp; exact_mod_cast hne), getI_pt hi, Option.bind_some, e3, Option.bind_some, getI_pt (show i + 1 < p.length by omega), Option.bind_some, getI_pt h2, Option.bind_some, Option.bind_some, e2, Option.bind_some, getI_pt (nx_lt k (by omega)), Option.bind_some, e4]
        show (_∧(if (mts (pt p i) (pt p (nx p i)) (pt p k) (pt p (nx p k))) = true then _ else _) = _) ∨ (_∧(if (mts (pt p i) (pt p (nx p i)) (pt p k) (pt p (nx p k))) = true then _ else _) = _)
        cases hm:mts (pt p i) (pt p (nx p i)) (pt p k) (pt p (nx p k)) with
        | true=>exact .inr ⟨fun h=>by have:=h hne; rw [hm] at this; simp at this,rfl⟩
        | false=>exact .inl ⟨fun _=>hm,rfl⟩
    rcases loop_allO (body:=ref07_Right_L1 p (i:Int)) (id:=2) (i + 2) (p.length - (i + 2)) (fun k=>q3 p i k) (by omega) (fun m hm=>hb (i + 2 + m) (by omega) (by omega)) (by
      unfold ref07_Right_L1
      rw [if_neg (by simp; omega)]) (fuel:=p.length + 1) (by omega) with ⟨h1,h2⟩ | ⟨⟨m,hm,h1⟩,h2⟩
    · refine .inl ⟨fun k g1 g2 => ?_, _, h2⟩
      have:=h1 (k - (i + 2)) (by omega)
      rwa [show i + 2 + (k - (i + 2)) = k by omega] at this
    · exact .inr ⟨⟨i + 2 + m,by omega,by omega,h1⟩,h2⟩
theorem rright_eq (p:List Point) : ∃ b,ref07_Right p = some b∧(b = true ↔ Poly p):=by
  unfold ref07_Right
  by_cases hl:p.length < 4 ∨ 60 < p.length
  · rw [if_pos (by simpa using hl.imp (by intro h; omega) (by intro h; omega))]
    exact ⟨_,rfl,by simp; intro ⟨h1,h2,_⟩; omega⟩
  · rw [if_neg (by simp; omega)]
    have h4:4 ≤ p.length:=by omega
    have h6:p.length ≤ 60:=by omega
    rcases rcorners_eq h4 h6 with ⟨h1,h2⟩ | ⟨⟨i,hi,h1⟩,h2⟩
    · have z0 : getI p 0 = some (pt p 0) := getI_pt (i := 0) (by omega)
      have z1:getI p 1 = some (pt p 1):=getI_pt (i:=1) (by omega)
      rw [h2,Option.bind_some,if_neg (by simp),z0,Option.bind_some,z1,Option.bind_some,Option.bind_some]
      by_cases hy:(pt p 0).Y = (pt p 1).Y
      · rw [if_neg (by simp [hy])]
        rcases loop_allQ (body:=ref07_Right_L0 p) (id:=0) p.length (fun i=>q2 p i∧∀ k,i + 2 ≤ k → k < p.length → q3 p i k) (by omega) (fun i hi _=>by
          unfold ref07_Right_L0
          rw [if_pos (by simpa using hi)]
          have e1:(if (decide ((0:Int) < (i:Int))) = true then (getI p 0).bind fun x=>(getI p (i:Int)).bind fun y=>(ref07_less x y).bind fun z=>some (!z) else some false) = some (decide (0 < i) && !(lss (pt p 0) (pt p i))):=by
            by_cases h0:0 < i
            · rw [if_pos (by simpa using h0), z0, Option.bind_some, getI_pt hi, Option.bind_some]
              simp [h0,ref07_less,lss]
            · rw [if_neg (by simpa using h0)]; simp [h0]
          rw [e1,Option.bind_some]
          by_cases h2:q2 p i
          · rw [if_neg (by
              simp only [Bool.and_eq_true,decide_eq_true_eq,Bool.not_eq_true']
              rintro ⟨h0,h5⟩
              rw [h2 h0] at h5; simp at h5),addI_some (by constructor <;> omega),Option.bind_some,show ((i:Int) + 2) = ((i + 2:Nat):Int) by push_cast; rfl]
            rcases rright1 h4 h6 hi with ⟨g1,s,g2⟩ | ⟨⟨k,g1,g3,g4⟩,g2⟩
            · refine .inl ⟨⟨h2, g1⟩, ?_⟩
              rw [g2,Option.bind_some]
            · refine .inr ⟨fun h => g4 (h.2 k g1 g3), ?_⟩
              rw [g2,Option.bind_some]
          · refine .inr ⟨fun h => h2 h.1, ?_⟩
            rw [if_pos]
            simp only [Bool.and_eq_true,decide_eq_true_eq,Bool.not_eq_true']
            unfold q2 at h2
            by_cases h0:0 < i
            · refine ⟨h0, ?_⟩
              cases hx:lss (pt p 0) (pt p i) with
              | false=>rfl
              | true=>exact absurd (fun _=>hx) h2
            · exact absurd (fun h=>absurd h h0) h2) (by
          unfold ref07_Right_L0
          rw [if_neg (by simp)]) (fuel:=p.length + 1) (by omega) with ⟨g1,g2⟩ | ⟨⟨m,g1,g3⟩,g2⟩
        · rw [g2, Option.bind_some]
          exact ⟨true,rfl,by simp; exact ⟨h4,h6,h1,fun i hi=>(g1 i hi).1,fun i hi=>(g1 i hi).2,hy⟩⟩
        · rw [g2, Option.bind_some]
          exact ⟨false,rfl,by simp; exact fun hp=>g3 ⟨hp.2.2.2.1 m g1,hp.2.2.2.2.1 m g1⟩⟩
      · rw [if_pos (by simpa using hy)]
        exact ⟨false,rfl,by simp; exact fun hp=>hy hp.2.2.2.2.2⟩
    · rw [h2, Option.bind_some, if_pos (by simp), Option.bind_some, if_pos rfl]
      exact ⟨false,rfl,by simp; exact fun hp=>h1 (hp.2.2.1 i hi)⟩
end Go.Proofs.YtagkmlkhaekldaaGreat

namespace Go.Proofs.YtagkmlkhaekldaaGreat
open Go.Gb
set_option linter.unusedVariables false
set_option linter.unusedSimpArgs false
set_option linter.unusedSectionVars false
set_option linter.unusedVariables false
set_option linter.unusedSimpArgs false

theorem q1_eq (p:List Point) (i:Nat):((!((((decide (0 ≤ (pt p i).X)) && (decide ((pt p i).X ≤ 1048576))) && (decide (0 ≤ (pt p i).Y))) && (decide ((pt p i).Y ≤ 1048576)))) || (((pt p i).X == (pt p (nx p i)).X) == ((pt p i).Y == (pt p (nx p i)).Y)) || (((pt p i).X == (pt p (nx p i)).X) == ((pt p (nx p i)).X == (pt p (nx p (nx p i))).X))) = !(q1 p i):=by
  unfold q1
  rw [Bool.not_not]
  congr 2
  rw [Bool.eq_iff_iff]
  simp only [Bool.not_eq_true', Bool.and_eq_false_imp, Bool.or_eq_true, decide_eq_true_eq, decide_eq_false_iff_not, Bool.and_eq_true]
  omega
theorem pright0 {p:List Point} (h4:4 ≤ p.length) (h:p.length ≤ 60):((∀ i,i < p.length → q1 p i = true∧q2 p i)∧∃ s,iterL (polygon_Right_L0 p (sds p)) ((sds p).length + 1) 0 = some (.ex 0 s)) ∨ ((∃ i,i < p.length∧¬ (q1 p i = true∧q2 p i))∧iterL (polygon_Right_L0 p (sds p)) ((sds p).length + 1) 0 = some (.ret false)):=by
  have hb : ∀ i:Nat,i < p.length → ((q1 p i = true∧q2 p i)∧polygon_Right_L0 p (sds p) (i:Int) = (addI (i:Int) 1).bind fun x=>some (.go x)) ∨ (¬ (q1 p i = true∧q2 p i)∧polygon_Right_L0 p (sds p) (i:Int) = some (.ret false)):=fun i hi=>by
    have e1:addI (i:Int) 1 = some ((i + 1:Nat):Int):=addI_one (by omega)
    have e2:remI ((i + 1:Nat):Int) ((sds p).length:Int) = some ((nx p i:Nat):Int):=by rw [sds_len]; exact remI_nat (by omega)
    have z0:getI p 0 = some (pt p 0):=getI_pt (i:=0) (by omega)
    obtain ⟨c,hc,hlc⟩:=pcompare_eq (pt p 0) (pt p i)
    unfold polygon_Right_L0
    rw [if_pos (by rw [sds_len]; simpa using hi),getI_sds hi,Option.bind_some,e1,Option.bind_some,e2,Option.bind_some,getI_sds (nx_lt i (by omega)),Option.bind_some]
    unfold polygon_onGrid polygon_side_upright
    rw [Option.bind_some,Option.bind_some,Option.bind_some]
    have e3:(if ((!((((decide (0 ≤ (sd p i).a.X)) && (decide ((sd p i).a.X ≤ 1048576))) && (decide (0 ≤ (sd p i).a.Y))) && (decide ((sd p i).a.Y ≤ 1048576)))) || (((sd p i).a.X == (sd p i).b.X) == ((sd p i).a.Y == (sd p i).b.Y))) = true then some true else some (((sd p i).a.X == (sd p i).b.X) == ((sd p (nx p i)).a.X == (sd p (nx p i)).b.X))) = some (!(q1 p i)):=by
      rw [← q1_eq]
      show (if (_ || _) = true then some true else _) = _
      unfold sd
      dsimp only
      split
      · rename_i hx; rw [hx]; rfl
      · rename_i hx; rw [Bool.not_eq_true] at hx; rw [hx]; rfl
    rw [e3,Option.bind_some]
    cases h1:q1 p i with
    | false=>exact .inr ⟨by simp,rfl⟩
    | true =>
      rw [if_neg (by simp)]
      have e4:(if (decide ((0:Int) < (i:Int))) = true then (getI p 0).bind fun x=>(getI p (i:Int)).bind fun y=>(polygon_compare x y).bind fun z=>some (decide (0 ≤ z)) else some false) = some (decide (0 < i) && !(lss (pt p 0) (pt p i))):=by
        by_cases h0:0 < i
        · rw [if_pos (by simpa using h0), z0, Option.bind_some, getI_pt hi, Option.bind_some, hc, Option.bind_some, hlc]
          simp [h0]
        · rw [if_neg (by simpa using h0)]; simp [h0]
      rw [e4,Option.bind_some]
      by_cases h2:q2 p i
      · rw [if_neg (by
          simp only [Bool.and_eq_true,decide_eq_true_eq,Bool.not_eq_true']
          rintro ⟨h0,h5⟩
          rw [h2 h0] at h5; simp at h5)]
        exact .inl ⟨⟨rfl,h2⟩,rfl⟩
      · refine .inr ⟨fun h => h2 h.2, ?_⟩
        rw [if_pos]
        simp only [Bool.and_eq_true,decide_eq_true_eq,Bool.not_eq_true']
        unfold q2 at h2
        by_cases h0:0 < i
        · refine ⟨h0, ?_⟩
          cases hx:lss (pt p 0) (pt p i) with
          | false=>rfl
          | true=>exact absurd (fun _=>hx) h2
        · exact absurd (fun h=>absurd h h0) h2
  rcases loop_allQ (body:=polygon_Right_L0 p (sds p)) (id:=0) p.length (fun i=>q1 p i = true∧q2 p i) (by omega) (fun i hi _=>hb i hi) (by
    unfold polygon_Right_L0
    rw [if_neg (by rw [sds_len]; simp)]) (fuel:=(sds p).length + 1) (by rw [sds_len]; omega) with ⟨h1,h2⟩ | ⟨⟨m,g1,g3⟩,h2⟩
  · exact .inl ⟨h1,_,h2⟩
  · exact .inr ⟨⟨m,g1,g3⟩,h2⟩
theorem pright1 {p:List Point} (h4:4 ≤ p.length) (h:p.length ≤ 60) {i:Nat} (hi:i < p.length) :
    ((∀ k,i + 2 ≤ k → k < p.length → q3 p i k)∧∃ s,iterL (polygon_Right_L2 (sds p) (i:Int)) ((sds p).length + 1) ((i + 2:Nat):Int) = some (.ex 4 s)) ∨ ((∃ k,i + 2 ≤ k∧k < p.length∧¬ q3 p i k)∧iterL (polygon_Right_L2 (sds p) (i:Int)) ((sds p).length + 1) ((i + 2:Nat):Int) = some (.ret false)):=by
  by_cases hn:p.length ≤ i + 2
  · refine .inl ⟨fun k h1 h2 => by omega, ((i + 2 : Nat) : Int), ?_⟩
    have e:polygon_Right_L2 (sds p) (i:Int) ((i + 2:Nat):Int) = some (.ex 4 ((i + 2:Nat):Int)):=by
      unfold polygon_Right_L2
      rw [if_neg (by rw [sds_len]; simp; omega)]
    simp only [iterL,e,Option.bind_some]
  · have hb : ∀ k : Nat, i + 2 ≤ k → k < p.length → (q3 p i k ∧ polygon_Right_L2 (sds p) (i : Int) (k : Int) = (addI (k : Int) 1).bind fun x => some (.go x)) ∨ (¬ q3 p i k ∧ polygon_Right_L2 (sds p) (i : Int) (k : Int) = some (.ret false)) := fun k h1 h2 => by
      have e1:addI (i:Int) ((sds p).length:Int) = some ((i:Int) + (p.length:Int)):=by rw [sds_len]; exact addI_some (by constructor <;> omega)
      have e2:subI ((i:Int) + (p.length:Int)) (k:Int) = some ((i:Int) + (p.length:Int) - (k:Int)):=subI_some (by constructor <;> omega)
      have hnx:nx p k = i ↔ ¬ (1 < (i:Int) + (p.length:Int) - (k:Int)):=by
        unfold nx
        by_cases hk:k + 1 = p.length
        · rw [hk,Nat.mod_self]; omega
        · rw [Nat.mod_eq_of_lt (by omega)]; omega
      unfold polygon_Right_L2
      rw [if_pos (by rw [sds_len]; simpa using h2),e1,Option.bind_some,e2,Option.bind_some]
      by_cases hne:nx p k = i
      · refine .inl ⟨fun h => absurd hne h, ?_⟩
        rw [if_neg (by simpa using hnx.1 hne),Option.bind_some,if_neg (by simp)]
      · rw [if_pos (by have := fun h => hne (hnx.2 h); simpa using Classical.not_not.1 this), getI_sds hi, Option.bind_some, getI_sds h2, Option.bind_some]
        show (_∧(if (mts (pt p i) (pt p (nx p i)) (pt p k) (pt p (nx p k))) = true then _ else _) = _) ∨ (_∧(if (mts (pt p i) (pt p (nx p i)) (pt p k) (pt p (nx p k))) = true then _ else _) = _)
        cases hm:mts (pt p i) (pt p (nx p i)) (pt p k) (pt p (nx p k)) with
        | true=>exact .inr ⟨fun h=>by have:=h hne; rw [hm] at this; simp at this,rfl⟩
        | false=>exact .inl ⟨fun _=>hm,rfl⟩
    rcases loop_allO (body:=polygon_Right_L2 (sds p) (i:Int)) (id:=4) (i + 2) (p.length - (i + 2)) (fun k=>q3 p i k) (by omega) (fun m hm=>hb (i + 2 + m) (by omega) (by omega)) (by
      unfold polygon_Right_L2
      rw [if_neg (by rw [sds_len]; simp; omega)]) (fuel:=(sds p).length + 1) (by rw [sds_len]; omega) with ⟨h1,h2⟩ | ⟨⟨m,hm,h1⟩,h2⟩
    · refine .inl ⟨fun k g1 g2 => ?_, _, h2⟩
      have:=h1 (k - (i + 2)) (by omega)
      rwa [show i + 2 + (k - (i + 2)) = k by omega] at this
    · exact .inr ⟨⟨i + 2 + m,by omega,by omega,h1⟩,h2⟩
theorem q1_alt {p:List Point} {i:Nat} (h:q1 p i = true):((pt p i).X = (pt p (nx p i)).X ↔ ¬ (pt p i).Y = (pt p (nx p i)).Y)∧((pt p i).X = (pt p (nx p i)).X ↔ ¬ (pt p (nx p i)).X = (pt p (nx p (nx p i))).X):=by
  unfold q1 at h
  simp only [Bool.not_eq_true', Bool.or_eq_false_iff, beq_eq_false_iff_ne, ne_eq] at h
  obtain ⟨⟨_,h1⟩,h2⟩:=h
  have key : ∀ a b c d:Int,¬ ((a == b) = (c == d)) → (a = b ↔ ¬ c = d):=fun a b c d h=>by
    by_cases e:a = b <;> by_cases f:c = d
    · exact absurd (by rw [beq_iff_eq.2 e,beq_iff_eq.2 f]) h
    · exact ⟨fun _=>f,fun _=>e⟩
    · exact ⟨fun g=>absurd g e,fun g=>absurd f g⟩
    · exact absurd (by rw [beq_eq_false_iff_ne.2 e,beq_eq_false_iff_ne.2 f]) h
  exact ⟨key _ _ _ _ h1,key _ _ _ _ h2⟩
theorem pright_eq (p:List Point) : ∃ b,polygon_Right p = some b∧(b = true ↔ Poly p):=by
  unfold polygon_Right
  by_cases hl:p.length < 4 ∨ 60 < p.length
  · rw [if_pos (by simpa using hl.imp (by intro h; omega) (by intro h; omega))]
    exact ⟨_,rfl,by simp; intro ⟨h1,h2,_⟩; omega⟩
  · rw [if_neg (by simp; omega)]
    have h4:4 ≤ p.length:=by omega
    have h6:p.length ≤ 60:=by omega
    have n0:nx p 0 = 1:=by unfold nx; rw [Nat.mod_eq_of_lt (by omega)]
    rw [around_eq h6,Option.bind_some]
    rcases pright0 h4 h6 with ⟨h1,s,h2⟩ | ⟨⟨i,hi,h1⟩,h2⟩
    · rw [h2, Option.bind_some]
      dsimp only
      rcases loop_allQ (body:=polygon_Right_L1 (sds p)) (id:=2) p.length (fun i=>∀ k,i + 2 ≤ k → k < p.length → q3 p i k) (by omega) (fun i hi _=>by
        unfold polygon_Right_L1
        rw [if_pos (by rw [sds_len]; simpa using hi),addI_some (by constructor <;> omega),Option.bind_some,show ((i:Int) + 2) = ((i + 2:Nat):Int) by push_cast; rfl]
        rcases pright1 h4 h6 hi with ⟨g1,s,g2⟩ | ⟨⟨k,g1,g3,g4⟩,g2⟩
        · refine .inl ⟨g1, ?_⟩
          rw [g2,Option.bind_some]
        · refine .inr ⟨fun h => g4 (h k g1 g3), ?_⟩
          rw [g2,Option.bind_some]) (by
        unfold polygon_Right_L1
        rw [if_neg (by rw [sds_len]; simp)]) (fuel:=(sds p).length + 1) (by rw [sds_len]; omega) with ⟨g1,g2⟩ | ⟨⟨m,g1,g3⟩,g2⟩
      · have z0 : getI (sds p) 0 = some (sd p 0) := getI_sds (i := 0) (by omega)
        rw [g2,Option.bind_some]
        dsimp only
        rw [z0,Option.bind_some]
        unfold polygon_side_upright
        rw [Option.bind_some]
        refine ⟨_,rfl,?_⟩
        have ha:=(q1_alt (h1 0 (by omega)).1).1
        rw [n0] at ha
        have:((sd p 0).a.X = (sd p 0).b.X) = ((pt p 0).X = (pt p 1).X):=by unfold sd; rw [n0]
        simp only [Bool.not_eq_true', beq_eq_false_iff_ne, ne_eq, this]
        constructor
        · intro hx
          exact ⟨h4,h6,fun i hi=>(h1 i hi).1,fun i hi=>(h1 i hi).2,g1,Classical.byContradiction fun hy=>hx (ha.2 hy)⟩
        · intro hp hx
          exact ha.1 hx hp.2.2.2.2.2
      · rw [g2, Option.bind_some]
        exact ⟨false,rfl,by simp; exact fun hp=>g3 (hp.2.2.2.2.1 m g1)⟩
    · rw [h2, Option.bind_some]
      exact ⟨false,rfl,by simp; exact fun hp=>h1 ⟨hp.2.2.1 i hi,hp.2.2.2.1 i hi⟩⟩
end Go.Proofs.YtagkmlkhaekldaaGreat

namespace Go.Proofs.YtagkmlkhaekldaaGreat
open Go.Gb
set_option linter.unusedVariables false
set_option linter.unusedSimpArgs false
set_option linter.unusedSectionVars false
set_option linter.unusedVariables false
set_option linter.unusedSimpArgs false

theorem ins_strict {out:List Int} {x:Int} {k:Nat} (hs:out.Pairwise (· < ·)) (hk:k ≤ out.length) (h1 : ∀ m (h:m < out.length),m < k → out[m] < x) (h2 : ∀ h:k < out.length,x < out[k]) :
    (out.take k ++ [x] ++ out.drop k).Pairwise (· < ·):=by
  have ht : ∀ a ∈ out.take k,a < x:=fun a ha=>by
    obtain ⟨m,hm,rfl⟩:=List.mem_iff_getElem.1 ha
    simp at hm
    rw [List.getElem_take]
    exact h1 m (by omega) (by omega)
  have hd : ∀ a ∈ out.drop k,x < a:=fun a ha=>by
    obtain ⟨m,hm,rfl⟩:=List.mem_iff_getElem.1 ha
    simp at hm
    rw [List.getElem_drop]
    have hx:=h2 (by omega)
    by_cases e:m = 0
    · subst e; exact hx
    · have := List.pairwise_iff_getElem.1 hs k (k + m) (by omega) (by omega) (by omega)
      omega
  rw [List.pairwise_append,List.pairwise_append]
  refine ⟨⟨hs.sublist (List.take_sublist k out),List.pairwise_singleton _ _,fun a ha b hb=>?_⟩,hs.sublist (List.drop_sublist k out),fun a ha b hb=>?_⟩
  · rw [List.mem_singleton.1 hb]; exact ht a ha
  · rcases List.mem_append.1 ha with ha | ha
    · exact Int.lt_trans (ht a ha) (hd b hb)
    · rw [List.mem_singleton.1 ha]; exact hd b hb
theorem rsorted_step {l out:List Int} {i:Nat} (hi:i < l.length) (hl:l.length ≤ 1000) (ho:out.length ≤ 1000) (hs:out.Pairwise (· < ·)) :
    ∃ k,k ≤ out.length∧iterL (ref07_sorted_L1 l (out,(i:Int))) (l.length + out.length + 1) 0 = some (.ex 2 (k:Int))∧(∀ m (h:m < out.length),m < k → out[m] < l[i])∧(∀ h:k < out.length,l[i] ≤ out[k]):=by
  obtain ⟨f,h1,h2,h3⟩:=loop_up (body:=ref07_sorted_L1 l (out,(i:Int))) (fun k s=>s = ((k:Nat):Int)∧∀ m (h:m < out.length),m < k → out[m] < l[i]) out.length
    (fun f => ∃ k : Nat, f = .ex 2 (k : Int) ∧ k ≤ out.length ∧ (∀ m (h : m < out.length), m < k → out[m] < l[i]) ∧ (∀ h : k < out.length, l[i] ≤ out[k])) (fun k s hk ⟨hs', hI⟩ => by
      subst hs'
      unfold ref07_sorted_L1
      dsimp only
      rw [if_pos (by simpa using hk),getI_nat hk,Option.bind_some,getI_nat hi,Option.bind_some,Option.bind_some]
      by_cases hlt:out[k] < l[i]
      · rw [if_pos (by simpa using hlt), addI_one (by omega)]
        refine .inl ⟨_,rfl,rfl,fun m h hm=>?_⟩
        by_cases e:m = k
        · subst e; exact hlt
        · exact hI m h (by omega)
      · rw [if_neg (by simpa using hlt)]
        exact .inr ⟨_, rfl, trivial, k, rfl, by omega, hI, fun _ => by omega⟩) (fun s ⟨hs', hI⟩ => by
      subst hs'
      unfold ref07_sorted_L1
      dsimp only
      rw [if_neg (by simp),Option.bind_some,if_neg (by simp)]
      exact ⟨_,rfl,trivial,out.length,rfl,Nat.le_refl _,hI,fun h=>absurd h (Nat.lt_irrefl _)⟩) 0 ⟨rfl,fun m h hm=>by omega⟩ (l.length + out.length + 1) (by omega)
  obtain ⟨k,rfl,g1,g2,g3⟩:=h3
  exact ⟨k,g1,h1,g2,g3⟩
theorem rsorted_eq {l:List Int} (hl:l.length ≤ 1000) : ∃ r,ref07_sorted l = some r∧r.Pairwise (· < ·)∧(∀ x,x ∈ r ↔ x ∈ l)∧r.length ≤ l.length:=by
  unfold ref07_sorted
  obtain ⟨f,h1,h2,h3⟩:=loop_up (body:=ref07_sorted_L0 l) (fun i s=>s.2 = ((i:Nat):Int)∧s.1.Pairwise (· < ·)∧(∀ x,x ∈ s.1 ↔ x ∈ l.take i)∧s.1.length ≤ i) l.length
    (fun f => match f with | .ex _ s => s.1.Pairwise (· < ·) ∧ (∀ x, x ∈ s.1 ↔ x ∈ l) ∧ s.1.length ≤ l.length | _ => False) (fun i s hi ⟨hs', hp, hm, hn⟩ => by
      obtain ⟨out,j⟩:=s
      dsimp only at hs' hp hm hn
      subst hs'
      obtain ⟨k,hk,g1,g2,g3⟩:=rsorted_step hi hl (show out.length ≤ 1000 by omega) hp
      unfold ref07_sorted_L0
      dsimp only
      rw [if_pos (by simpa using hi),g1,Option.bind_some]
      dsimp only
      have hmem : ∀ r:List Int,(∀ x,x ∈ r ↔ x ∈ out ∨ x = l[i]) → ∀ x,x ∈ r ↔ x ∈ l.take (i + 1):=fun r hr x=>by
        rw [hr,hm,List.take_succ_eq_append_getElem hi,List.mem_append,List.mem_singleton]
      by_cases hkl:k < out.length
      · rw [if_pos (by simpa using hkl), getI_nat hkl, Option.bind_some, getI_nat hi, Option.bind_some, Option.bind_some]
        by_cases he:out[k] = l[i]
        · rw [if_pos (by simpa using he), Option.bind_some, addI_one (by omega)]
          refine .inl ⟨_,rfl,rfl,hp,hmem _ fun x=>⟨.inl,fun h=>h.elim id fun e=>by rw [e,← he]; exact List.getElem_mem _⟩,by show out.length ≤ i + 1; omega⟩
        · rw [if_neg (by simpa using he), sliceI_some (Int.le_refl 0) (by omega) (by omega), Option.bind_some, appI_some (by simp; omega), Option.bind_some, Option.bind_some, appI_some (by simp; omega), Option.bind_some, sliceI_some (by omega) (by omega) (by omega), Option.bind_some, appI_some (by simp; omega), Option.bind_some, Option.bind_some, addI_one (by omega)]
          simp only [Int.toNat_natCast,Int.toNat_zero,List.drop_zero,List.nil_append,List.take_length]
          refine .inl ⟨_,rfl,rfl,ins_strict hp hk g2 (fun h=>by have:=g3 h; omega),hmem _ fun x=>?_,?_⟩
          · conv => rhs; rw [← List.take_append_drop k out]
            simp only [List.mem_append,List.mem_singleton]
            constructor
            · rintro ((h | h) | h)
              · exact .inl (.inl h)
              · exact .inr h
              · exact .inl (.inr h)
            · rintro ((h | h) | h)
              · exact .inl (.inl h)
              · exact .inr h
              · exact .inl (.inr h)
          · simp; omega
      · rw [if_neg (by simpa using hkl), Option.bind_some, if_neg (by simp), sliceI_some (Int.le_refl 0) (by omega) (by omega), Option.bind_some, appI_some (by simp; omega), Option.bind_some, getI_nat hi, Option.bind_some, appI_some (by simp; omega), Option.bind_some, sliceI_some (by omega) (by omega) (by omega), Option.bind_some, appI_some (by simp; omega), Option.bind_some, Option.bind_some, addI_one (by omega)]
        simp only [Int.toNat_natCast,Int.toNat_zero,List.drop_zero,List.nil_append,List.take_length]
        refine .inl ⟨_,rfl,rfl,ins_strict hp hk g2 (fun h=>absurd h hkl),hmem _ fun x=>?_,?_⟩
        · conv => rhs; rw [← List.take_append_drop k out]
          simp only [List.mem_append,List.mem_singleton]
          constructor
          · rintro ((h | h) | h)
            · exact .inl (.inl h)
            · exact .inr h
            · exact .inl (.inr h)
          · rintro ((h | h) | h)
            · exact .inl (.inl h)
            · exact .inr h
            · exact .inl (.inr h)
        · simp; omega) (fun s ⟨hs', hp, hm, hn⟩ => by
      unfold ref07_sorted_L0
      rw [hs', if_neg (by simp)]
      rw [List.take_length] at hm
      exact ⟨_,rfl,trivial,hp,hm,hn⟩) ([],0) ⟨rfl,List.Pairwise.nil,by simp,by simp⟩ (l.length + ([]:List Int).length + 1) (by simp)
  rw [h1,Option.bind_some]
  cases f with
  | go _=>exact h2.elim
  | ret _=>exact h3.elim
  | ex _ s=>exact ⟨s.1,rfl,h3⟩
/-- the sides that cover a column -/
def cov (p:List Point) (x:Int) (i:Nat):Bool:=(((pt p i).Y == (pt p (nx p i)).Y) && (decide ((min (pt p i).X (pt p (nx p i)).X) ≤ x))) && (decide (x < (max (pt p i).X (pt p (nx p i)).X)))
def ysL (p:List Point) (x:Int) (n:Nat):List Int:=((List.range n).filter (cov p x)).map fun i=>(pt p i).Y
theorem ysL_succ (p:List Point) (x:Int) (n:Nat):ysL p x (n + 1) = ysL p x n ++ if cov p x n = true then [(pt p n).Y] else []:=by
  unfold ysL
  rw [List.range_succ,List.filter_append,List.map_append]
  congr 1
  by_cases h:cov p x n = true <;> simp [h]
theorem ysL_len (p:List Point) (x:Int) (n:Nat):(ysL p x n).length ≤ n:=by
  unfold ysL
  rw [List.length_map]
  exact Nat.le_trans (List.length_filter_le _ _) (by simp)
theorem rows_eq {p:List Point} (h:p.length ≤ 60) (x:Int):ref07_rows p x = (ref07_sorted (ysL p x p.length)).bind some:=by
  unfold ref07_rows
  obtain ⟨f,h1,h2,h3⟩:=loop_up (body:=ref07_rows_L0 p x) (fun i s=>s.2 = ((i:Nat):Int)∧s.1 = ysL p x i) p.length
    (fun f => match f with | .ex _ s => s.1 = ysL p x p.length | _ => False) (fun i s hi ⟨hs', hI⟩ => by
      have e1:addI (i:Int) 1 = some ((i + 1:Nat):Int):=addI_one (by omega)
      have e2:remI ((i + 1:Nat):Int) (p.length:Int) = some ((nx p i:Nat):Int):=remI_nat (by omega)
      have hn:=ysL_len p x i
      unfold ref07_rows_L0
      rw [hs', if_pos (by simpa using hi), getI_pt hi, Option.bind_some, e1, Option.bind_some, e2, Option.bind_some, getI_pt (nx_lt i (by omega)), Option.bind_some]
      rw [show (((((pt p i).Y == (pt p (nx p i)).Y) && (decide ((min (pt p i).X (pt p (nx p i)).X) ≤ x))) && (decide (x < (max (pt p i).X (pt p (nx p i)).X))))) = cov p x i from rfl]
      by_cases hc:cov p x i = true
      · rw [if_pos hc, hI, appI_some (by simp; omega), Option.bind_some, Option.bind_some]
        exact .inl ⟨_,rfl,rfl,by rw [ysL_succ,if_pos hc]⟩
      · rw [if_neg hc, Option.bind_some]
        exact .inl ⟨_, rfl, rfl, by rw [ysL_succ, if_neg hc, List.append_nil]; exact hI⟩) (fun s ⟨hs', hI⟩ => by
      unfold ref07_rows_L0
      rw [hs', if_neg (by simp)]
      exact ⟨_,rfl,trivial,hI⟩) ([],0) ⟨rfl,rfl⟩ (p.length + ([]:List Int).length + 1) (by simp)
  rw [h1,Option.bind_some]
  cases f with
  | go _=>exact h2.elim
  | ret _=>exact h3.elim
  | ex _ s=>dsimp only at h3 ⊢; rw [h3]
end Go.Proofs.YtagkmlkhaekldaaGreat

namespace Go.Proofs.YtagkmlkhaekldaaGreat
open Go.Gb
set_option linter.unusedVariables false
set_option linter.unusedSimpArgs false
set_option linter.unusedSectionVars false
set_option linter.unusedVariables false
set_option linter.unusedSimpArgs false

theorem cov_spec {p:List Point} {x:Int} {i:Nat} (h:cov p x i = true):(pt p i).Y = (pt p (nx p i)).Y∧min (pt p i).X (pt p (nx p i)).X ≤ x∧x < max (pt p i).X (pt p (nx p i)).X:=by
  unfold cov at h
  simpa [and_assoc] using h
theorem cov_ne {p:List Point} (hP:Poly p) {x:Int} {i k:Nat} (hik:i < k) (hk:k < p.length) (hi:cov p x i = true) (hc:cov p x k = true):(pt p i).Y ≠ (pt p k).Y:=by
  intro he
  obtain ⟨h4,h6,h1,h2,h3,_⟩:=hP
  obtain ⟨a1,a2,a3⟩:=cov_spec hi
  obtain ⟨b1,b2,b3⟩:=cov_spec hc
  have alt : ∀ j,j < p.length → (pt p j).Y = (pt p (nx p j)).Y → ¬ (pt p (nx p j)).Y = (pt p (nx p (nx p j))).Y:=fun j hj e e'=>by
    have c1:=q1_alt (h1 j hj)
    have c2:=q1_alt (h1 (nx p j) (nx_lt j (by omega)))
    have n1 : ¬ (pt p j).X = (pt p (nx p j)).X:=fun h=>c1.1.1 h e
    have n2 : ¬ (pt p (nx p j)).X = (pt p (nx p (nx p j))).X:=fun h=>c2.1.1 h e'
    exact n1 (c1.2.2 n2)
  by_cases hn:nx p i = k
  · have := alt i (by omega) a1
    rw [hn] at this
    exact this b1
  · by_cases hm : nx p k = i
    · have := alt k hk b1
      rw [hm] at this
      exact this a1
    · have hk2 : i + 2 ≤ k := by
        have:nx p i = i + 1:=by unfold nx; rw [Nat.mod_eq_of_lt (by omega)]
        omega
      have hq:=h3 i (by omega) k hk2 hk hm
      unfold mts at hq
      have:max (min (pt p i).X (pt p (nx p i)).X) (min (pt p k).X (pt p (nx p k)).X) ≤ min (max (pt p i).X (pt p (nx p i)).X) (max (pt p k).X (pt p (nx p k)).X):=by omega
      have hy:max (min (pt p i).Y (pt p (nx p i)).Y) (min (pt p k).Y (pt p (nx p k)).Y) ≤ min (max (pt p i).Y (pt p (nx p i)).Y) (max (pt p k).Y (pt p (nx p k)).Y):=by omega
      simp [this,hy] at hq
theorem ysL_nodup {p:List Point} (hP:Poly p) (x:Int):(ysL p x p.length).Nodup:=by
  unfold ysL List.Nodup
  rw [List.pairwise_map]
  refine List.Pairwise.imp_of_mem (R:=(· < ·)) (fun {a b} ha hb hab=>?_) ((List.pairwise_lt_range (n:=p.length)).sublist List.filter_sublist)
  simp at ha hb
  exact cov_ne hP hab hb.1 ha.2 hb.2
theorem strict_nodup {l:List Int} (h:l.Pairwise (· < ·)):l.Nodup:=h.imp fun h e=>by omega
/-- the rows of a column, in order -/
theorem rows_spec {p:List Point} (hP:Poly p) (x:Int) : ∃ r,ref07_rows p x = some r∧sortInts (ysL p x p.length) = some r∧r.length ≤ 60:=by
  have hl:=ysL_len p x p.length
  have h6:=hP.2.1
  obtain ⟨r,g1,g2,g3,g4⟩:=rsorted_eq (l:=ysL p x p.length) (by omega)
  refine ⟨r,by rw [rows_eq h6,g1]; rfl,sort_is (by omega) ((List.perm_ext_iff_of_nodup (ysL_nodup hP x) (strict_nodup g2)).2 fun a=>(g3 a).symm) (g2.imp fun h=>by omega),by omega⟩
/-- the rectangles of a column -/
def rct (xs ys:List Int) (i j:Nat):Rect:=⟨xs.getD i 0,ys.getD (2 * j) 0,xs.getD (i + 1) 0,ys.getD (2 * j + 1) 0⟩
def colR (p:List Point) (xs:List Int) (i:Nat):List Rect:=(List.range (((ref07_rows p (xs.getD i 0)).getD []).length / 2)).map (rct xs ((ref07_rows p (xs.getD i 0)).getD []) i)
def regR (p:List Point) (xs:List Int) (m:Nat):List Rect:=(List.range m).flatMap (colR p xs)
theorem regR_succ (p:List Point) (xs:List Int) (m:Nat):regR p xs (m + 1) = regR p xs m ++ colR p xs m:=by
  unfold regR; rw [List.range_succ,List.flatMap_append]; simp
theorem getI_D {l:List Int} {i:Nat} (h:i < l.length):getI l (i:Int) = some (l.getD i 0):=by
  rw [getI_nat h]; simp [h]
theorem inner_p {xs ys:List Int} {s:List Rect × Int} {m fuel:Nat} (hm:s.2 = (m:Int)) (hx:m + 1 < xs.length) (hx2:xs.length ≤ 1000) (hl:ys.length ≤ 60) (hs:s.1.length ≤ 100000) (hf:ys.length < fuel) :
    ∃ n,iterL (polygon_Region_L3 xs s ys) fuel (s.1,0) = some (.ex 6 (s.1 ++ (List.range (ys.length / 2)).map (rct xs ys m),n)):=by
  obtain ⟨f,h1,h2,h3⟩:=loop_up (body:=polygon_Region_L3 xs s ys) (fun i t=>t.2 = ((2 * i:Nat):Int)∧t.1 = s.1 ++ (List.range i).map (rct xs ys m)) (ys.length / 2)
    (fun f=>∃ n,f = .ex 6 (s.1 ++ (List.range (ys.length / 2)).map (rct xs ys m),n)) (fun i t hi ⟨ht,hI⟩=>by
    have e1:addI ((2 * i:Nat):Int) 1 = some ((2 * i + 1:Nat):Int):=addI_one (by omega)
    have e2:addI (m:Int) 1 = some ((m + 1:Nat):Int):=addI_one (by omega)
    unfold polygon_Region_L3
    rw [ht,e1,Option.bind_some,if_pos (by simp; omega),hm,getI_D (by omega),Option.bind_some,getI_D (by omega),Option.bind_some,e2,Option.bind_some,getI_D hx,Option.bind_some,Option.bind_some,getI_D (by omega),Option.bind_some,hI,appI_some (by simp; omega),Option.bind_some,addI_some (by constructor <;> omega),Option.bind_some]
    refine .inl ⟨_,rfl,by push_cast; omega,?_⟩
    dsimp only
    rw [List.range_succ,List.map_append,List.append_assoc]
    rfl) (fun t ⟨ht,hI⟩=>by
    unfold polygon_Region_L3
    rw [ht,addI_some (by constructor <;> omega),Option.bind_some,if_neg (by simp; omega),hI]
    exact ⟨_,rfl,trivial,_,rfl⟩) (s.1,0) ⟨rfl,by simp⟩ fuel (by omega)
  obtain ⟨n,rfl⟩:=h3
  exact ⟨n,h1⟩
theorem inner_r {xs ys:List Int} {s:List Rect × Int} {m fuel:Nat} (hm:s.2 = (m:Int)) (hx:m + 1 < xs.length) (hx2:xs.length ≤ 1000) (hl:ys.length ≤ 60) (hs:s.1.length ≤ 100000) (hf:ys.length < fuel) :
    ∃ n,iterL (ref07_Region_L2 xs s ys) fuel (s.1,0) = some (.ex 4 (s.1 ++ (List.range (ys.length / 2)).map (rct xs ys m),n)):=by
  obtain ⟨f,h1,h2,h3⟩:=loop_up (body:=ref07_Region_L2 xs s ys) (fun i t=>t.2 = ((2 * i:Nat):Int)∧t.1 = s.1 ++ (List.range i).map (rct xs ys m)) (ys.length / 2)
    (fun f=>∃ n,f = .ex 4 (s.1 ++ (List.range (ys.length / 2)).map (rct xs ys m),n)) (fun i t hi ⟨ht,hI⟩=>by
    have e1:addI ((2 * i:Nat):Int) 1 = some ((2 * i + 1:Nat):Int):=addI_one (by omega)
    have e2:addI (m:Int) 1 = some ((m + 1:Nat):Int):=addI_one (by omega)
    unfold ref07_Region_L2
    rw [ht,e1,Option.bind_some,if_pos (by simp; omega),hm,getI_D (by omega),Option.bind_some,getI_D (by omega),Option.bind_some,e2,Option.bind_some,getI_D hx,Option.bind_some,Option.bind_some,getI_D (by omega),Option.bind_some,hI,appI_some (by simp; omega),Option.bind_some,addI_some (by constructor <;> omega),Option.bind_some]
    refine .inl ⟨_,rfl,by push_cast; omega,?_⟩
    dsimp only
    rw [List.range_succ,List.map_append,List.append_assoc]
    rfl) (fun t ⟨ht,hI⟩=>by
    unfold ref07_Region_L2
    rw [ht,addI_some (by constructor <;> omega),Option.bind_some,if_neg (by simp; omega),hI]
    exact ⟨_,rfl,trivial,_,rfl⟩) (s.1,0) ⟨rfl,by simp⟩ fuel (by omega)
  obtain ⟨n,rfl⟩:=h3
  exact ⟨n,h1⟩
theorem colR_len {p:List Point} (hP:Poly p) (xs:List Int) (i:Nat):(colR p xs i).length ≤ 30:=by
  obtain ⟨r,g1,_,g2⟩:=rows_spec hP (xs.getD i 0)
  unfold colR
  rw [g1]; simp; omega
theorem regR_len {p:List Point} (hP:Poly p) (xs:List Int) : ∀ m,(regR p xs m).length ≤ 30 * m
  | 0=>by simp [regR]
  | m + 1 => by
    rw [regR_succ,List.length_append]
    have:=regR_len hP xs m
    have:=colR_len hP xs m
    omega
theorem ys_p {p:List Point} (hP:Poly p) {xs:List Int} {s:List Rect × Int} {m:Nat} (hm:s.2 = (m:Int)) (hx:m < xs.length) : ∃ n,iterL (polygon_Region_L2 xs (sds p) s) ((sds p).length + 1) (([]:List Int),0) = some (.ex 4 (ysL p (xs.getD m 0) p.length,n)):=by
  have h6:=hP.2.1
  obtain ⟨f,h1,h2,h3⟩:=loop_up (body:=polygon_Region_L2 xs (sds p) s) (fun i t=>t.2 = ((i:Nat):Int)∧t.1 = ysL p (xs.getD m 0) i) p.length
    (fun f=>∃ n,f = .ex 4 (ysL p (xs.getD m 0) p.length,n)) (fun i t hi ⟨ht,hI⟩=>by
    have hn:=ysL_len p (xs.getD m 0) i
    have ha:=(q1_alt (hP.2.2.1 i hi)).1
    unfold polygon_Region_L2
    rw [ht,if_pos (by rw [sds_len]; simpa using hi),getI_sds hi,Option.bind_some]
    unfold polygon_side_upright
    rw [Option.bind_some,hm,getI_D hx]
    have e1:(!((sd p i).a.X == (sd p i).b.X)) = ((pt p i).Y == (pt p (nx p i)).Y):=by
      show (!((pt p i).X == (pt p (nx p i)).X)) = _
      rw [Bool.eq_iff_iff]
      simp only [Bool.not_eq_true', beq_eq_false_iff_ne, ne_eq, beq_iff_eq]
      exact ⟨fun h=>Classical.byContradiction fun h'=>h (ha.2 h'),fun h h'=>ha.1 h' h⟩
    have e2:(if (!((sd p i).a.X == (sd p i).b.X)) = true then (some (xs.getD m 0)).bind fun y=>some (decide ((min (sd p i).a.X (sd p i).b.X) ≤ y)) else some false) = some (((pt p i).Y == (pt p (nx p i)).Y) && (decide ((min (pt p i).X (pt p (nx p i)).X) ≤ xs.getD m 0))):=by
      rw [e1]
      cases ((pt p i).Y == (pt p (nx p i)).Y) <;> rfl
    rw [e2,Option.bind_some]
    have e3:(if (((pt p i).Y == (pt p (nx p i)).Y) && (decide ((min (pt p i).X (pt p (nx p i)).X) ≤ xs.getD m 0))) = true then (some (xs.getD m 0)).bind fun y=>some (decide (y < (max (sd p i).a.X (sd p i).b.X))) else some false) = some (cov p (xs.getD m 0) i):=by
      unfold cov
      cases (((pt p i).Y == (pt p (nx p i)).Y) && (decide ((min (pt p i).X (pt p (nx p i)).X) ≤ xs.getD m 0))) <;> rfl
    rw [e3,Option.bind_some]
    by_cases hc:cov p (xs.getD m 0) i = true
    · rw [if_pos hc, hI, appI_some (by show (ysL p (xs.getD m 0) i).length + 1 ≤ _; omega), Option.bind_some, Option.bind_some, addI_one (by omega)]
      exact .inl ⟨_,rfl,rfl,by rw [ysL_succ,if_pos hc]; rfl⟩
    · rw [if_neg hc, Option.bind_some, addI_one (by omega)]
      exact .inl ⟨_,rfl,rfl,by rw [ysL_succ,if_neg hc,List.append_nil]; exact hI⟩) (fun t ⟨ht,hI⟩=>by
    unfold polygon_Region_L2
    rw [ht,if_neg (by rw [sds_len]; simp),hI]
    exact ⟨_,rfl,trivial,_,rfl⟩) ([],0) ⟨rfl,rfl⟩ ((sds p).length + 1) (by rw [sds_len]; omega)
  obtain ⟨n,rfl⟩:=h3
  exact ⟨n,h1⟩
theorem region_is {p:List Point} (hP:Poly p) : ∃ xs:List Int,xs.Pairwise (· < ·)∧(∀ x ∈ xs,∃ j,j < p.length∧(pt p j).X = x)∧xs.length ≤ 60 ∧
    ref07_Region p = (if (decide (200 < ((regR p xs (xs.length - 1)).length:Int))) = true then some ([],6) else some (regR p xs (xs.length - 1),0)) ∧
    polygon_Region p = (if (decide (200 < ((regR p xs (xs.length - 1)).length:Int))) = true then some ([],6) else some (regR p xs (xs.length - 1),0)):=by
  obtain ⟨b,hb,hbP⟩:=rright_eq p
  obtain ⟨c,hc,hcP⟩:=pright_eq p
  obtain rfl:=hbP.2 hP
  obtain rfl:=hcP.2 hP
  have h6:=hP.2.1
  unfold ref07_Region polygon_Region
  rw [hb,hc,Option.bind_some,Option.bind_some]
  rw [if_neg (by simp),if_neg (by simp)]
  obtain ⟨f,h1,h2,h3⟩:=loop_up (body:=ref07_Region_L0 p) (fun i s=>s.2 = ((i:Nat):Int)∧s.1 = (List.range i).map fun j=>(pt p j).X) p.length
    (fun f => ∃ n, f = .ex 0 ((List.range p.length).map (fun j => (pt p j).X), n)) (fun i s hi ⟨hs', hI⟩ => by
      unfold ref07_Region_L0
      rw [hs', if_pos (by simpa using hi), getI_pt hi, Option.bind_some, hI, appI_some (by simp; omega), Option.bind_some, addI_one (by omega)]
      refine .inl ⟨_,rfl,rfl,?_⟩
      rw [List.range_succ,List.map_append]
      rfl) (fun s ⟨hs', hI⟩ => by
      unfold ref07_Region_L0
      rw [hs', if_neg (by simp), hI]
      exact ⟨_,rfl,trivial,_,rfl⟩) ([],0) ⟨rfl,rfl⟩ (p.length + ([]:List Int).length + 1) (by simp)
  obtain ⟨n,rfl⟩:=h3
  obtain ⟨f,g1,g2,g3⟩:=loop_up (body:=polygon_Region_L0 p) (fun i s=>s.2 = ((i:Nat):Int)∧s.1 = (List.range i).map fun j=>(pt p j).X) p.length
    (fun f => ∃ n, f = .ex 0 ((List.range p.length).map (fun j => (pt p j).X), n)) (fun i s hi ⟨hs', hI⟩ => by
      unfold polygon_Region_L0
      rw [hs', if_pos (by simpa using hi), getI_pt hi, Option.bind_some, hI, appI_some (by simp; omega), Option.bind_some, addI_one (by omega)]
      refine .inl ⟨_,rfl,rfl,?_⟩
      rw [List.range_succ,List.map_append]
      rfl) (fun s ⟨hs', hI⟩ => by
      unfold polygon_Region_L0
      rw [hs', if_neg (by simp), hI]
      exact ⟨_,rfl,trivial,_,rfl⟩) ([],0) ⟨rfl,rfl⟩ (p.length + 1) (by simp)
  obtain ⟨n', rfl⟩ := g3
  rw [h1,g1,Option.bind_some,Option.bind_some]
  dsimp only
  obtain ⟨xs,x1,x2,x3,x4⟩:=rsorted_eq (l:=(List.range p.length).map fun j=>(pt p j).X) (by simp; omega)
  obtain ⟨ss,s1,s2,s3⟩:=sortInts_spec (l:=(List.range p.length).map fun j=>(pt p j).X) (by simp; omega)
  have hsl:ss.length = p.length:=by rw [s2.length_eq]; simp
  have hcp:compactInts ss = some xs:=compact_is (by omega) s3 x2 fun x=>by rw [x3,s2.mem_iff]
  have hxl:xs.length ≤ 60:=by simp at x4; omega
  rw [x1,s1,Option.bind_some,Option.bind_some,hcp,Option.bind_some,around_eq h6,Option.bind_some,subI_some (by constructor <;> omega),Option.bind_some]
  have hx0:0 < xs.length:=by
    have:(pt p 0).X ∈ xs:=(x3 _).2 (List.mem_map.2 ⟨0,by simp; have:=hP.1; omega,rfl⟩)
    exact List.length_pos_of_mem this
  have step_r : ∃ n,iterL (ref07_Region_L1 p xs) (p.length + xs.length + ([]:List Rect).length + 1) (([]:List Rect),0) = some (.ex 2 (regR p xs (xs.length - 1),n)):=by
    obtain ⟨f,k1,k2,k3⟩:=loop_up (body:=ref07_Region_L1 p xs) (fun i s=>s.2 = ((i:Nat):Int)∧s.1 = regR p xs i) (xs.length - 1)
      (fun f => ∃ n, f = .ex 2 (regR p xs (xs.length - 1), n)) (fun i s hi ⟨hs', hI⟩ => by
        have hr:=regR_len hP xs i
        obtain ⟨ys,y1,y2,y3⟩:=rows_spec hP (xs.getD i 0)
        obtain ⟨n,hn⟩:=inner_r (xs:=xs) (ys:=ys) (s:=s) (m:=i) (fuel:=p.length + xs.length + s.1.length + ys.length + 1) hs' (by omega) (by omega) y3 (by rw [hI]; omega) (by omega)
        have e1:addI (i:Int) 1 = some ((i + 1:Nat):Int):=addI_one (by omega)
        have e2:s = (s.1,(i:Int)):=by rw [← hs']
        unfold ref07_Region_L1
        rw [hs', e1, Option.bind_some, if_pos (by simp; omega), getI_D (by omega), Option.bind_some, y1, Option.bind_some, hn, Option.bind_some]
        dsimp only
        rw [Option.bind_some]
        refine .inl ⟨_,rfl,rfl,?_⟩
        dsimp only
        rw [regR_succ,hI]
        unfold colR
        rw [y1]
        rfl) (fun s ⟨hs', hI⟩ => by
        unfold ref07_Region_L1
        rw [hs', addI_one (by omega), Option.bind_some, if_neg (by simp; omega), hI]
        exact ⟨_,rfl,trivial,_,rfl⟩) ([],0) ⟨rfl,rfl⟩ (p.length + xs.length + ([]:List Rect).length + 1) (by omega)
    obtain ⟨n,rfl⟩:=k3
    exact ⟨n,k1⟩
  have step_p : ∃ n,iterL (polygon_Region_L1 xs (sds p) ((xs.length:Int) - 1)) (((xs.length:Int) - 1).toNat + 1) (([]:List Rect),0) = some (.ex 2 (regR p xs (xs.length - 1),n)):=by
    obtain ⟨f,k1,k2,k3⟩:=loop_up (body:=polygon_Region_L1 xs (sds p) ((xs.length:Int) - 1)) (fun i s=>s.2 = ((i:Nat):Int)∧s.1 = regR p xs i) (xs.length - 1)
      (fun f => ∃ n, f = .ex 2 (regR p xs (xs.length - 1), n)) (fun i s hi ⟨hs', hI⟩ => by
        have hr:=regR_len hP xs i
        obtain ⟨ys,y1,y2,y3⟩:=rows_spec hP (xs.getD i 0)
        obtain ⟨n', hn'⟩ := ys_p hP (xs := xs) (s := s) (m := i) hs' (by omega)
        obtain ⟨n,hn⟩:=inner_p (xs:=xs) (ys:=ys) (s:=s) (m:=i) (fuel:=xs.length + (sds p).length + s.1.length + ys.length + 1) hs' (by omega) (by omega) y3 (by rw [hI]; omega) (by omega)
        unfold polygon_Region_L1
        rw [if_pos (by rw [hs']; simp; omega), hn', Option.bind_some]
        dsimp only
        rw [y2,Option.bind_some,hn,Option.bind_some]
        dsimp only
        rw [hs', addI_one (by omega)]
        refine .inl ⟨_,rfl,rfl,?_⟩
        dsimp only
        rw [regR_succ,hI]
        unfold colR
        rw [y1]
        rfl) (fun s ⟨hs', hI⟩ => by
        unfold polygon_Region_L1
        rw [if_neg (by rw [hs']; simp; omega), hs', hI]
        exact ⟨_,rfl,trivial,_,rfl⟩) ([],0) ⟨rfl,rfl⟩ (((xs.length:Int) - 1).toNat + 1) (by omega)
    obtain ⟨n,rfl⟩:=k3
    exact ⟨n,k1⟩
  obtain ⟨n1,k1⟩:=step_r
  obtain ⟨n2,k2⟩:=step_p
  rw [k1,k2]
  exact ⟨xs,x2,fun x hx=>by have:=(x3 x).1 hx; simpa using this,hxl,rfl,rfl⟩
theorem rregion_eq (p:List Point):ref07_Region p = polygon_Region p:=by
  obtain ⟨b,hb,hbP⟩:=rright_eq p
  obtain ⟨c,hc,hcP⟩:=pright_eq p
  have hbc:b = c:=by rw [Bool.eq_iff_iff,hbP,hcP]
  subst hbc
  cases b with
  | false=>unfold ref07_Region polygon_Region; rw [hb,hc]; rfl
  | true=>obtain ⟨xs,_,_,_,h1,h2⟩:=region_is (hbP.1 rfl); rw [h1,h2]
/-- their rectangles are valid -/
theorem colR_VR {p:List Point} (hP:Poly p) {xs:List Int} (hs:xs.Pairwise (· < ·)) (hx : ∀ x ∈ xs,∃ j,j < p.length∧(pt p j).X = x) {i:Nat} (hi:i + 1 < xs.length) : ∀ r ∈ colR p xs i,VR r:=by
  have on : ∀ j,j < p.length → (0 ≤ (pt p j).X∧(pt p j).X ≤ 1048576)∧0 ≤ (pt p j).Y∧(pt p j).Y ≤ 1048576:=fun j hj=>by
    have h:=hP.2.2.1 j hj
    unfold q1 at h
    simp only [Bool.not_eq_true', Bool.or_eq_false_iff, decide_eq_false_iff_not] at h
    omega
  obtain ⟨ys,y1,y2,y3⟩:=rows_spec hP (xs.getD i 0)
  have hl:=ysL_len p (xs.getD i 0) p.length
  have h6:=hP.2.1
  obtain ⟨r0,g1,g2,g3,g4⟩:=rsorted_eq (l:=ysL p (xs.getD i 0) p.length) (by omega)
  have:r0 = ys:=by
    have:=y1
    rw [rows_eq h6,g1] at this
    exact Option.some.inj this
  subst this
  have hy : ∀ y ∈ r0,0 ≤ y∧y ≤ 1048576:=fun y hy=>by
    have:=(g3 y).1 hy
    unfold ysL at this
    obtain ⟨j,hj,rfl⟩:=List.mem_map.1 this
    simp at hj
    exact (on j hj.1).2
  have hxx : ∀ j,j < xs.length → 0 ≤ xs.getD j 0∧xs.getD j 0 ≤ 1048576:=fun j hj=>by
    obtain ⟨m,hm,e⟩:=hx (xs.getD j 0) (by simp [hj])
    rw [← e]; exact (on m hm).1
  intro r hr
  unfold colR at hr
  rw [y1] at hr
  obtain ⟨j,hj,rfl⟩:=List.mem_map.1 hr
  simp at hj
  have a1:=hxx i (by omega)
  have a2:=hxx (i + 1) hi
  have a3:=List.pairwise_iff_getElem.1 hs i (i + 1) (by omega) hi (by omega)
  have a4:=List.pairwise_iff_getElem.1 g2 (2 * j) (2 * j + 1) (by omega) (by omega) (by omega)
  have a5:=hy r0[2 * j] (List.getElem_mem _)
  have a6:=hy r0[2 * j + 1] (List.getElem_mem _)
  have e1:xs.getD i 0 = xs[i]:=by simp [show i < xs.length by omega]
  have e2:xs.getD (i + 1) 0 = xs[i + 1]:=by simp [hi]
  have e3:r0.getD (2 * j) 0 = r0[2 * j]:=by simp [show 2 * j < r0.length by omega]
  have e4:r0.getD (2 * j + 1) 0 = r0[2 * j + 1]:=by simp [show 2 * j + 1 < r0.length by omega]
  unfold rct VR
  show 0 ≤ xs.getD i 0∧xs.getD i 0 < xs.getD (i + 1) 0∧xs.getD (i + 1) 0 ≤ 1048576∧0 ≤ r0.getD (2 * j) 0∧r0.getD (2 * j) 0 < r0.getD (2 * j + 1) 0∧r0.getD (2 * j + 1) 0 ≤ 1048576
  rw [e3,e4]
  rw [e1] at a1 ⊢
  rw [e2] at a2 ⊢
  omega
theorem region_VR {p:List Point} {a:List Rect} (h:polygon_Region p = some (a,0)):(∀ r ∈ a,VR r)∧a.length ≤ 200:=by
  obtain ⟨c,hc,hcP⟩:=pright_eq p
  cases c with
  | false =>
    unfold polygon_Region at h
    rw [hc,Option.bind_some,if_pos (by simp)] at h
    simp at h
  | true =>
    have hP:=hcP.1 rfl
    obtain ⟨xs,h1,h2,h3,_,h4⟩:=region_is hP
    rw [h4] at h
    split at h
    · simp at h
    · rename_i hl
      simp at h hl
      subst h
      refine ⟨fun r hr=>?_,by omega⟩
      unfold regR at hr
      obtain ⟨i,hi,hr⟩:=List.mem_flatMap.1 hr
      simp at hi
      exact colR_VR hP h1 h2 (by omega) r hr
end Go.Proofs.YtagkmlkhaekldaaGreat

namespace Go.Proofs.YtagkmlkhaekldaaGreat
open Go.Gb
set_option linter.unusedVariables false
set_option linter.unusedSimpArgs false
set_option linter.unusedSectionVars false
set_option linter.unusedVariables false
set_option linter.unusedSimpArgs false

theorem rrv_eq (v:Volume):ref19_RightVolume v = drawing_RightVolume v:=by
  have h0:ref06_RightRect v.Box.Base = some (decide (VR v.Box.Base)):=rect_Right_eq _
  unfold ref19_RightVolume ref09_RightBox ref19_within drawing_RightVolume
  rw [h0,rect_Right_eq]
  simp only [Option.bind_some]
  have ia : ∀ (a b:Bool),(if a = true then some b else some false) = some (a && b):=fun a b=>by cases a <;> rfl
  rw [ia]
  simp only [Option.bind_some]
  rw [ia]
  simp only [Option.bind_some]
  have e1:(if ((((!(decide (VR v.Box.Base))) || (decide (v.Box.Z0 < 0))) || (decide (v.Box.Z1 ≤ v.Box.Z0))) || (decide (4096 < v.Box.Z1))) = true then some false else if ((v.Use != 0) && (v.Units != 0)) = true then some false else some ((((decide (0 ≤ v.Use)) && (decide (v.Use < 6))) && (decide (0 ≤ v.Units))) && (decide (v.Units ≤ 1048576)))) =
      some (!((((!(decide (VR v.Box.Base))) || (decide (v.Box.Z0 < 0))) || (decide (v.Box.Z1 ≤ v.Box.Z0))) || (decide (4096 < v.Box.Z1))) && (!((v.Use != 0) && (v.Units != 0)) && ((((decide (0 ≤ v.Use)) && (decide (v.Use < 6))) && (decide (0 ≤ v.Units))) && (decide (v.Units ≤ 1048576))))):=by
    split
    · rename_i h; rw [h]; rfl
    · rename_i h
      rw [Bool.not_eq_true] at h
      rw [h]
      split
      · rename_i h2; rw [h2]; rfl
      · rename_i h2
        rw [Bool.not_eq_true] at h2
        rw [h2]; rfl
  rw [e1]
  congr 1
  rw [Bool.eq_iff_iff]
  by_cases hv:VR v.Box.Base
  · simp only [hv, decide_true, Bool.true_and, Bool.not_true, Bool.false_or, Bool.and_eq_true, Bool.or_eq_true, decide_eq_true_eq, beq_iff_eq, Bool.not_eq_true', Bool.or_eq_false_iff, decide_eq_false_iff_not, Bool.and_eq_false_imp, bne_iff_ne, ne_eq, bne_eq_false_iff_eq]
    omega
  · simp [hv]
theorem rcells_eq {r:Rect} (h:VR r):ref20_cells r = rect_Area r:=by
  unfold ref20_cells rect_Area rect_checked
  rw [rect_Right_eq,Option.bind_some,decide_eq_true h,if_pos rfl,Option.bind_some]
theorem rstoreys_eq (v:Volume):ref20_Storeys v = measure_Storeys v:=by
  unfold ref20_Storeys measure_Storeys
  rw [rrv_eq]
  obtain ⟨b,hb,hbs⟩:=rvol (v:=v)
  rw [hb]
  cases v.Extra with
  | true=>rfl
  | false =>
    cases b with
    | false=>rfl
    | true =>
      obtain ⟨hV,h1,h2,h3,_⟩:=hbs rfl
      show ((subI v.Box.Z1 v.Box.Z0).bind fun x=>(addI x 2).bind fun y=>(quoI y 3).bind fun z=>some z) = ((subI v.Box.Z1 v.Box.Z0).bind fun x=>(addI x 3).bind fun y=>(subI y 1).bind fun z=>(quoI z 3).bind fun w=>some w)
      rw [subI_some (by constructor <;> omega),Option.bind_some,Option.bind_some,addI_some (by constructor <;> omega),Option.bind_some,addI_some (by constructor <;> omega),Option.bind_some,subI_some (by constructor <;> omega),Option.bind_some]
      rw [show v.Box.Z1 - v.Box.Z0 + 3 - 1 = v.Box.Z1 - v.Box.Z0 + 2 by omega]
theorem rfloor_eq (v:Volume):ref20_Floor v = measure_Floor v:=by
  unfold ref20_Floor measure_Floor
  rw [rrv_eq,rstoreys_eq]
  obtain ⟨b,hb,hbs⟩:=rvol (v:=v)
  rw [hb,Option.bind_some,Option.bind_some]
  cases b with
  | false=>rfl
  | true=>rw [if_neg (by simp),if_neg (by simp),rcells_eq (hbs rfl).1]
/-- the name of a use -/
def NM:List ByteArray:=[(⟨#[104,111,109,101]⟩:ByteArray),(⟨#[115,104,111,112]⟩:ByteArray),(⟨#[119,111,114,107]⟩:ByteArray),(⟨#[112,97,114,107]⟩:ByteArray),(⟨#[112,108,97,110,116]⟩:ByteArray),(⟨#[104,97,108,108]⟩:ByteArray)]
def NT:ByteArray × ByteArray × ByteArray × ByteArray × ByteArray × ByteArray:=((⟨#[104,111,109,101]⟩:ByteArray),(⟨#[115,104,111,112]⟩:ByteArray),(⟨#[119,111,114,107]⟩:ByteArray),(⟨#[112,97,114,107]⟩:ByteArray),(⟨#[112,108,97,110,116]⟩:ByteArray),(⟨#[104,97,108,108]⟩:ByteArray))
theorem nm_get {u:Int} (h0:0 ≤ u) (h5:u ≤ 5) : ∃ x,getI NM u = some x:=⟨_,getI_some h0 (by simp [NM]; omega)⟩
theorem find_drop {α:Type} {s:List α} {g:α → Bool} {i:Nat} (hi:i < s.length):(s.drop i).find? g = if g s[i] = true then some s[i] else (s.drop (i + 1)).find? g:=by
  rw [List.drop_eq_getElem_cons hi,List.find?_cons]
  cases g s[i] <;> rfl
theorem indexE_find {s:List Entry} {f:Entry → Option Bool} {g:Entry → Bool} (hl:s.length ≤ 1000000) (hf : ∀ x,f x = some (g x)) : ∃ r,slices_IndexFunc_Entry s f = some r∧((¬ 0 ≤ r∧s.find? g = none) ∨ ∃ k:Nat,r = (k:Int)∧∃ h:k < s.length,s.find? g = some s[k]):=by
  obtain ⟨fl,k1,k2,k3⟩:=loop_up (body:=slices_IndexFunc_Entry_L0 s f) (fun j t=>t = ((j:Nat):Int)∧s.find? g = (s.drop j).find? g) s.length (fun fl=>match fl with | .ex _ _=>s.find? g = none | .ret r=>∃ k:Nat,r = (k:Int)∧∃ h:k < s.length,s.find? g = some s[k] | .go _=>False) (fun j t hj ⟨ht,hI⟩=>by
    subst ht
    unfold slices_IndexFunc_Entry_L0
    rw [if_pos (by simpa using hj),getI_nat hj,Option.bind_some,hf,Option.bind_some]
    rw [find_drop hj] at hI
    cases hb:g s[j] with
    | true=>rw [hb,if_pos rfl] at hI; exact .inr ⟨_,rfl,trivial,j,rfl,hj,hI⟩
    | false=>rw [hb,if_neg (by simp)] at hI; rw [if_neg (by simp),addI_one (by omega)]; exact .inl ⟨_,rfl,rfl,hI⟩) (fun t ⟨ht,hI⟩=>by
    subst ht
    unfold slices_IndexFunc_Entry_L0
    rw [if_neg (by simp)]
    refine ⟨_,rfl,trivial,?_⟩
    show s.find? g = none
    rw [hI,List.drop_length]; rfl) 0 ⟨rfl,rfl⟩ (s.length + 1) (by omega)
  unfold slices_IndexFunc_Entry
  rw [k1,Option.bind_some]
  cases fl with
  | go _=>exact k2.elim
  | ex _ _=>exact ⟨_,rfl,.inl ⟨by omega,k3⟩⟩
  | ret r=>exact ⟨_,rfl,.inr k3⟩
theorem rrow1_find {u:Int} {x:ByteArray} (hx:getI NM u = some x) {t:Table} {fuel:Nat} (hl:t.Rows.length ≤ 1000) (hf:t.Rows.length < fuel) : ∃ fl,iterL (ref20_row_L1 u t) fuel 0 = some fl ∧
    (match fl with | .ex _ _=>t.Rows.find? (fun e=>e.Name.toList == x.toList) = none | .ret n=>∃ e,t.Rows.find? (fun e=>e.Name.toList == x.toList) = some e∧n = max 0 (min e.N 1048576) | .go _=>False):=by
  obtain ⟨fl,k1,k2,k3⟩:=loop_up (body:=ref20_row_L1 u t) (fun j s=>s = ((j:Nat):Int)∧t.Rows.find? (fun e=>e.Name.toList == x.toList) = (t.Rows.drop j).find? (fun e=>e.Name.toList == x.toList)) t.Rows.length
    (fun fl=>match fl with | .ex _ _=>t.Rows.find? (fun e=>e.Name.toList == x.toList) = none | .ret n=>∃ e,t.Rows.find? (fun e=>e.Name.toList == x.toList) = some e∧n = max 0 (min e.N 1048576) | .go _=>False) (fun j s hj ⟨hs,hI⟩=>by
    subst hs
    have hu:ref20_use u = some x:=by
      show (getI NM u).bind _ = _
      rw [hx]; rfl
    unfold ref20_row_L1
    rw [if_pos (by simpa using hj),getI_nat hj,Option.bind_some,hu,Option.bind_some]
    rw [find_drop hj] at hI
    cases hb:(t.Rows[j].Name.toList == x.toList) with
    | true=>rw [hb,if_pos rfl] at hI; rw [if_pos rfl]; exact .inr ⟨_,rfl,trivial,_,hI,rfl⟩
    | false=>rw [hb,if_neg (by simp)] at hI; rw [if_neg (by simp),addI_one (by omega)]; exact .inl ⟨_,rfl,rfl,hI⟩) (fun s ⟨hs,hI⟩=>by
    subst hs
    unfold ref20_row_L1
    rw [if_neg (by simp)]
    refine ⟨_,rfl,trivial,?_⟩
    show t.Rows.find? _ = none
    rw [hI,List.drop_length]; rfl) 0 ⟨rfl,rfl⟩ fuel hf
  exact ⟨fl,k1,k3⟩
theorem rowStep {p:Plan} {u:Int} (hp:PlanS p) (h0:0 ≤ u) (h5:u ≤ 5) {i:Nat} (hi:i < p.Tables.length) :
    (measure_row_L0 p u (i:Int) = some (.go ((i + 1:Nat):Int))∧ref20_row_L0 p u (i:Int) = some (.go ((i + 1:Nat):Int))) ∨ ∃ n,measure_row_L0 p u (i:Int) = some (.ret n)∧ref20_row_L0 p u (i:Int) = some (.ret n):=by
  obtain ⟨x,hx⟩:=nm_get h0 h5
  have hl4:=hp.1
  have hr8:=hp.2 _ (List.getElem_mem hi)
  unfold measure_row_L0 ref20_row_L0
  rw [if_pos (by simpa using hi),if_pos (by simpa using hi),getI_nat hi,Option.bind_some,Option.bind_some]
  split
  · rw [addI_one (by omega)]; exact .inl ⟨rfl,rfl⟩
  · obtain ⟨r, hr, hrl⟩ := indexE_find (s := p.Tables[i].Rows) (f := fun y0 => measure_row_1 y0 NT u) (g := fun e => e.Name.toList == x.toList) (by omega) fun e => by
      show (getI NM u).bind _ = _
      rw [hx]; rfl
    have hfl:p.Tables[i].Rows.length ≤ (p.Tables.flatMap fun t=>t.Rows).length:=by
      have key : ∀ (l:List Table) (t:Table),t ∈ l → t.Rows.length ≤ (l.flatMap fun t=>t.Rows).length:=by
        intro l
        induction l with
        | nil=>intro t h; simp at h
        | cons a l ih =>
          intro t h
          rw [List.flatMap_cons,List.length_append]
          rcases List.mem_cons.1 h with rfl | h
          · omega
          · have:=ih t h; omega
      exact key _ _ (List.getElem_mem hi)
    obtain ⟨fl,k1,k2⟩:=rrow1_find hx (t:=p.Tables[i]) (fuel:=(p.Tables.flatMap fun t=>t.Rows).length + 1) (by omega) (by omega)
    refine .inr ?_
    rw [Option.bind_some,k1,Option.bind_some]
    unfold NT at hr
    rw [hr,Option.bind_some]
    rcases hrl with ⟨hn,hnone⟩ | ⟨k,rfl,hk,hsome⟩
    · rw [if_neg (by simpa using hn), Option.bind_some]
      cases fl with
      | go _=>exact k2.elim
      | ex _ _=>exact ⟨_,rfl,rfl⟩
      | ret n=>obtain ⟨e,he,_⟩:=k2; rw [hnone] at he; simp at he
    · rw [if_pos (by simp), getI_nat hk, Option.bind_some, Option.bind_some]
      cases fl with
      | go _=>exact k2.elim
      | ex _ _=>have k2:_ = none:=k2; rw [hsome] at k2; simp at k2
      | ret n =>
        obtain ⟨e,he,hn⟩:=k2
        rw [hsome] at he
        obtain rfl:=Option.some.inj he
        exact ⟨_,rfl,by rw [hn]⟩
theorem rrow_eq {p:Plan} {u:Int} (hp:PlanS p) (h0:0 ≤ u) (h5:u ≤ 5):ref20_row p u = measure_row p u:=by
  have hl4:=hp.1
  obtain ⟨f,h1,h2,h3⟩:=loop_up (body:=measure_row_L0 p u) (fun i s=>s = ((i:Nat):Int)) p.Tables.length (fun _=>True) (fun i s hi hs=>by
    subst hs
    rcases rowStep hp h0 h5 hi with ⟨g1,_⟩ | ⟨n,g1,_⟩
    · exact .inl ⟨_,g1,rfl⟩
    · exact .inr ⟨_,g1,trivial,trivial⟩) (fun s hs=>by
    subst hs
    unfold measure_row_L0
    rw [if_neg (by simp)]
    exact ⟨_,rfl,trivial,trivial⟩) 0 rfl (p.Tables.length + 1) (by omega)
  have key : ∀ fuel i,i ≤ p.Tables.length → iterL (ref20_row_L0 p u) fuel (i:Int) = iterL (measure_row_L0 p u) fuel (i:Int):=by
    intro fuel
    induction fuel with
    | zero=>intro i _; rfl
    | succ n ih =>
      intro i hi
      simp only [iterL]
      rcases Nat.lt_or_ge i p.Tables.length with hlt | hge
      · rcases rowStep hp h0 h5 hlt with ⟨g1, g2⟩ | ⟨m, g1, g2⟩
        · rw [g1, g2]
          exact ih (i + 1) (by omega)
        · rw [g1,g2]
      · have e1 : measure_row_L0 p u (i : Int) = some (.ex 0 (i : Int)) := by unfold measure_row_L0; rw [if_neg (by simp; omega)]
        have e2:ref20_row_L0 p u (i:Int) = some (.ex 0 (i:Int)):=by unfold ref20_row_L0; rw [if_neg (by simp; omega)]
        rw [e1,e2]
  unfold ref20_row measure_row
  (rw [show (0:Int) = ((0:Nat):Int) from rfl,key _ 0 (by omega)]) <;> rfl
theorem rtraffic_eq {p:Plan} {v:Volume} (hp:PlanS p) (h0:0 ≤ v.Use) (h5:v.Use ≤ 5):ref20_Traffic p v = measure_traffic p v:=by
  unfold ref20_Traffic measure_traffic
  rw [rrow_eq hp h0 h5,rfloor_eq]
  obtain ⟨r,hr,hr0,hr1⟩:=row_tot hp h0 h5
  obtain ⟨f,hf,hf0,hf1⟩:=floor_tot v
  rw [hr,Option.bind_some,Option.bind_some,hf,Option.bind_some,Option.bind_some]
  by_cases hz:0 < r
  · have hq : (109951162777600 : Int).tdiv r = 109951162777600 / r := Int.tdiv_eq_ediv_of_nonneg (by omega)
    have hq0:0 ≤ 109951162777600 / r:=Int.ediv_nonneg (by omega) (by omega)
    have hq1:109951162777600 / r ≤ 109951162777600:=Int.ediv_le_self _ (by omega)
    have hqI:quoI 109951162777600 r = some (109951162777600 / r):=by unfold quoI; rw [if_pos ⟨by omega,by rw [hq]; constructor <;> omega⟩,hq]
    have eR:(if (decide (0 < r)) = true then (quoI 109951162777600 r).bind fun x=>some (decide (x < f)) else some false) = some (decide (109951162777600 / r < f)):=by
      rw [if_pos (by simpa using hz),hqI]; rfl
    rw [eR,Option.bind_some,hqI,Option.bind_some]
    by_cases hfz:f = 0
    · subst hfz
      rw [if_pos (by simp),if_neg (by simp; omega),mulI_some (by rw [Int.mul_zero]; constructor <;> omega),Option.bind_some,Int.mul_zero]
      rfl
    · rw [if_neg (by simp; omega)]
      by_cases hc:109951162777600 / r < f
      · rw [if_pos (by simpa using hc),if_pos (by simpa using hc)]
      · rw [if_neg (by simpa using hc), if_neg (by simpa using hc)]
        have g0:0 ≤ r * f:=Int.mul_nonneg (by omega) hf0
        have g1:r * f ≤ r * (109951162777600 / r):=Int.mul_le_mul_of_nonneg_left (by omega) (by omega)
        have g2:r * (109951162777600 / r) ≤ 109951162777600:=Int.mul_ediv_self_le (by omega)
        rw [mulI_some (by constructor <;> omega),Option.bind_some,Option.bind_some,addI_some (by constructor <;> omega),Option.bind_some,addI_some (by constructor <;> omega),Option.bind_some,subI_some (by constructor <;> omega),Option.bind_some,show r * f + 100 - 1 = r * f + 99 by omega]
  · obtain rfl : r = 0 := by omega
    rw [if_pos (by simp),if_neg (by simp),Option.bind_some,if_neg (by simp),mulI_some (by rw [Int.zero_mul]; constructor <;> omega),Option.bind_some,Int.zero_mul]
    rfl
end Go.Proofs.YtagkmlkhaekldaaGreat

namespace Go.Proofs.YtagkmlkhaekldaaGreat
open Go.Gb
set_option linter.unusedVariables false
set_option linter.unusedSimpArgs false
set_option linter.unusedSectionVars false
set_option linter.unusedVariables false
set_option linter.unusedSimpArgs false

theorem containsRc_any {s:List Rect} {f:Rect → Option Bool} {g:Rect → Bool} (hl:s.length ≤ 1000000) (hf : ∀ x ∈ s,f x = some (g x)):slices_ContainsFunc_Rect s f = some (s.any g):=by
  obtain ⟨fl,h1,h2,h3⟩:=loop_up (body:=slices_IndexFunc_Rect_L0 s f) (fun i t=>t = ((i:Nat):Int)∧∀ m (h:m < s.length),m < i → g s[m] = false) s.length
    (fun fl=>match fl with | .ex _ _=>s.any g = false | .ret r=>0 ≤ r∧s.any g = true | .go _=>False) (fun i t hi ⟨ht,hI⟩=>by
      subst ht
      unfold slices_IndexFunc_Rect_L0
      rw [if_pos (by simpa using hi),getI_nat hi,Option.bind_some,hf s[i] (List.getElem_mem hi),Option.bind_some]
      cases hb:g s[i] with
      | true=>exact .inr ⟨_,rfl,trivial,by show (0:Int) ≤ i; omega,List.any_eq_true.2 ⟨_,List.getElem_mem hi,hb⟩⟩
      | false =>
        rw [if_neg (by simp),addI_one (by omega)]
        refine .inl ⟨_,rfl,rfl,fun m hm hmi=>?_⟩
        by_cases e:m = i
        · subst e; exact hb
        · exact hI m hm (by omega)) (fun t ⟨ht,hI⟩=>by
      subst ht
      unfold slices_IndexFunc_Rect_L0
      rw [if_neg (by simp)]
      refine ⟨_,rfl,trivial,?_⟩
      rw [List.any_eq_false]
      intro x hx
      obtain ⟨m,hm,rfl⟩:=List.getElem_of_mem hx
      rw [hI m hm hm]; simp) 0 ⟨rfl,fun m _ h=>by omega⟩ (s.length + 1) (by omega)
  unfold slices_ContainsFunc_Rect slices_IndexFunc_Rect
  rw [h1,Option.bind_some]
  cases fl with
  | go _=>exact h3.elim
  | ex _ _=>dsimp only at h3; rw [h3]; rfl
  | ret r =>
    obtain ⟨h3,h4⟩:=h3
    rw [h4,Option.bind_some,decide_eq_true h3]
/-- have two rectangles a cell in common? -/
def comm (a b:Rect):Bool:=decide (max a.X0 b.X0 < min a.X1 b.X1) && decide (max a.Y0 b.Y0 < min a.Y1 b.Y1)
theorem inter_comm {a b:Rect} (ha:VR a) (hb:VR b) : ∃ c,rect_Intersect a b = some (c,comm a b):=by
  unfold rect_Intersect
  rw [rect_Right_eq,Option.bind_some,decide_eq_true ha,rect_Right_eq,Option.bind_some,decide_eq_true hb]
  show ∃ c,(rect_checked ⟨max a.X0 b.X0,max a.Y0 b.Y0,min a.X1 b.X1,min a.Y1 b.Y1⟩).bind (fun x=>some (x.1,x.2)) = some (c,comm a b)
  unfold rect_checked
  rw [rect_Right_eq,Option.bind_some]
  unfold VR at ha hb
  have:comm a b = decide (VR ⟨max a.X0 b.X0,max a.Y0 b.Y0,min a.X1 b.X1,min a.Y1 b.Y1⟩):=by
    unfold comm
    rw [Bool.eq_iff_iff,Bool.and_eq_true,decide_eq_true_iff,decide_eq_true_iff,decide_eq_true_iff]
    show _ ↔ 0 ≤ max a.X0 b.X0∧max a.X0 b.X0 < min a.X1 b.X1∧min a.X1 b.X1 ≤ 1048576∧0 ≤ max a.Y0 b.Y0∧max a.Y0 b.Y0 < min a.Y1 b.Y1∧min a.Y1 b.Y1 ≤ 1048576
    omega
  rw [← this]
  cases comm a b with
  | true=>exact ⟨_,rfl⟩
  | false=>exact ⟨_,rfl⟩
theorem form_empty {S:Int → Int → Prop} {out:List Rect} (h:IsForm S out):out = [] ↔ ∀ x y,¬ S x y:=by
  constructor
  · intro he x y hs
    subst he
    obtain ⟨r,hr,_⟩:=(h.cells x y).2 hs
    simp at hr
  · intro hn
    exact IsForm.unique h form_nil fun x y=>⟨fun hs=>hn x y hs,False.elim⟩
theorem region_total (p:List Point) : ∃ r,polygon_Region p = some r∧r.1.length ≤ 1000:=by
  obtain ⟨b,hb,hP⟩:=pright_eq p
  cases b with
  | false=>exact ⟨([],10),by unfold polygon_Region; rw [hb]; rfl,by simp⟩
  | true =>
    obtain ⟨xs,_,_,_,_,h⟩:=region_is (hP.1 rfl)
    by_cases c:200 < ((regR p xs (xs.length - 1)).length:Int)
    · rw [if_pos (by simpa using c)] at h; exact ⟨_,h,by simp⟩
    · rw [if_neg (by simpa using c)] at h; exact ⟨_,h,by dsimp only; omega⟩
theorem rload_all {p:Plan} {c:Cap} {v:Volume} (hp:PlanS p):ref20_Load p c v = measure_Load p c v:=by
  unfold ref20_Load measure_Load
  rw [rrv_eq,rregion_eq]
  obtain ⟨b,hb,hbs⟩:=rvol (v:=v)
  rw [hb,Option.bind_some,Option.bind_some]
  cases b with
  | false=>rfl
  | true =>
    obtain ⟨hV,_,_,_,h0,h5,_⟩:=hbs rfl
    obtain ⟨r,hr,hr2⟩:=region_total c.Corners
    rw [hr]
    by_cases hk:c.Load < 0 ∨ 3 ≤ c.Load
    · rw [if_pos (by simpa using hk), if_neg (show ¬ ((!true) = true) by simp), Option.bind_some]
      obtain ⟨x,hx⟩:Tot (if (r.2 != 0) = true then some true else (slices_ContainsFunc_Rect r.1 (fun y0=>measure_Load_1 y0 v)).bind fun x=>some (!x)):=Tot.ite (fun _=>Tot.pure _) fun _=>Tot.bind (containsR_tot (by omega) fun x=>by
        unfold measure_Load_1
        exact Tot.bind (inter_tot _ _) fun _ _=>Tot.pure _) fun _ _=>Tot.pure _
      rw [hx,Option.bind_some]
      split
      · rfl
      · rw [if_neg (by simp; omega),if_neg (by simp; omega),if_neg (by simp; omega)]
    · rw [if_neg (show ¬ ((((!true) || decide (c.Load < 0)) || decide (3 ≤ c.Load)) = true) by simp; omega), if_neg (show ¬ ((!true) = true) by simp), Option.bind_some, Option.bind_some]
      have key:(if (r.2 != 0) = true then some true else (ref06_Form r.1 [v.Box.Base] 1).bind fun x=>some ((x.length:Int) == 0)) = (if (r.2 != 0) = true then some true else (slices_ContainsFunc_Rect r.1 (fun y0=>measure_Load_1 y0 v)).bind fun x=>some (!x)):=by
        split
        · rfl
        · rename_i h2
          have h2:r.2 = 0:=by simpa using h2
          obtain ⟨a,e⟩:=r
          dsimp only at h2
          subst h2
          obtain ⟨ha,hl⟩:=region_VR hr
          obtain ⟨out,ho,hf⟩:=Form_spec (op:=1) ha (b:=[v.Box.Base]) (by simpa using hV) (by simp; omega)
          dsimp only
          rw [ho,containsRc_any (g:=fun r=>comm r v.Box.Base) (by omega) (fun x hx=>by
            unfold measure_Load_1
            obtain ⟨c,hc⟩:=inter_comm (ha x hx) hV
            rw [hc]; rfl),Option.bind_some,Option.bind_some]
          congr 1
          rw [Bool.eq_iff_iff]
          have e1:((out.length:Int) == 0) = true ↔ out = []:=by
            rw [beq_iff_eq]
            constructor
            · intro h; exact List.length_eq_zero_iff.1 (by omega)
            · intro h; rw [h]; rfl
          rw [e1, form_empty hf, Bool.not_eq_true', List.any_eq_false]
          constructor
          · intro h x hx hcm
            unfold comm at hcm
            simp at hcm
            refine h (max x.X0 v.Box.Base.X0) (max x.Y0 v.Box.Base.Y0) ?_
            unfold opS opB
            have c1:cells a (max x.X0 v.Box.Base.X0) (max x.Y0 v.Box.Base.Y0):=⟨x,hx,by unfold rin; omega⟩
            have c2:cells [v.Box.Base] (max x.X0 v.Box.Base.X0) (max x.Y0 v.Box.Base.Y0):=⟨_,List.mem_singleton.2 rfl,by unfold rin; omega⟩
            simp [c1,c2]
          · intro h x y hs
            unfold opS opB at hs
            simp at hs
            obtain ⟨⟨q,hq,q1⟩,⟨w,hw,q2⟩⟩:=hs
            rw [List.mem_singleton.1 hw] at q2
            refine h q hq ?_
            unfold comm
            unfold rin at q1 q2
            simp
            omega
      rw [key]
      obtain ⟨x,hx⟩:Tot (if (r.2 != 0) = true then some true else (slices_ContainsFunc_Rect r.1 (fun y0=>measure_Load_1 y0 v)).bind fun x=>some (!x)):=Tot.ite (fun _=>Tot.pure _) fun _=>Tot.bind (containsR_tot (by omega) fun x=>by
        unfold measure_Load_1
        exact Tot.bind (inter_tot _ _) fun _ _=>Tot.pure _) fun _ _=>Tot.pure _
      rw [hx,Option.bind_some,Option.bind_some,rtraffic_eq hp h0 h5,rcells_eq hV]
      split
      · rfl
      · split
        · rfl
        · split
          · rfl
          · rename_i n0 n1
            rw [if_pos (by simp at n0 n1 ⊢; omega)]
end Go.Proofs.YtagkmlkhaekldaaGreat

namespace Go.Proofs.YtagkmlkhaekldaaGreat
open Go.Gb
set_option linter.unusedVariables false
set_option linter.unusedSimpArgs false
set_option linter.unusedSectionVars false
set_option linter.unusedVariables false
set_option linter.unusedSimpArgs false
set_option maxRecDepth 100000

open Classical in
noncomputable def indP (p:Prop):Int:=if p then 1 else 0
theorem indP_t {p:Prop} (h:p):indP p = 1:=by unfold indP; rw [if_pos h]
theorem indP_f {p:Prop} (h : ¬ p):indP p = 0:=by unfold indP; rw [if_neg h]
theorem indP_c {p q:Prop} (h:p ↔ q):indP p = indP q:=by rw [propext h]
theorem indP_bounds (p:Prop):0 ≤ indP p∧indP p ≤ 1:=by
  by_cases h:p
  · rw [indP_t h]; decide
  · rw [indP_f h]; decide
theorem sumN_z {f:Nat → Int} {n:Nat} (h : ∀ i,i < n → f i = 0):sumN f n = 0:=(sumN_congr h).trans sumN_zero
theorem sumN_iv (a b:Int) : ∀ n:Nat,sumN (fun j=>indP (a ≤ (j:Int)∧(j:Int) < b)) n = max 0 (min b n - max a 0)
  | 0=>by rw [sumN]; omega
  | n + 1 => by
    rw [sumN,sumN_iv a b n]
    by_cases h:a ≤ (n:Int)∧(n:Int) < b
    · rw [indP_t h]; omega
    · rw [indP_f h]; omega
theorem sumN_mul (c:Int) (f:Nat → Int) (n:Nat):sumN (fun x=>c * f x) n = c * sumN f n:=by
  induction n with
  | zero=>simp [sumN]
  | succ n ih=>rw [sumN,ih,sumN,Int.mul_add]
/-- one strip: the bases over x in the order of their beginnings -/
def swp (x w:Int):List Rect → Int × Int → Int × Int
  | [],s=>s
  | b::l,s=>swp x w l (if (b.X0 ≤ x∧x < b.X1)∧s.2 < b.Y1 then (s.1 + w * (b.Y1 - max s.2 b.Y0),b.Y1) else s)
noncomputable def colM (l:List Rect) (M:Nat) (x y:Int):Int:=sumN (fun j=>indP (y ≤ (j:Int)∧cells l x j)) M
theorem colM_nil (M:Nat) (x y:Int):colM [] M x y = 0:=sumN_z fun j _=>indP_f (by simp [cells])
theorem colM_bounds (l:List Rect) (M:Nat) (x y:Int):0 ≤ colM l M x y∧colM l M x y ≤ M:=by
  constructor
  · exact sumN_nonneg fun i _=>(indP_bounds _).1
  · have := sumN_le (f := fun j : Nat => indP (y ≤ (j : Int) ∧ cells l x j)) (m := 1) (n := M) fun i _ => (indP_bounds _).2
    rw [Int.mul_one] at this; exact this
theorem swp_spec {x w:Int} {M:Nat} (hM:M = 1048576) : ∀ {l:List Rect} {s:Int × Int},(∀ r ∈ l,VR r) → l.Pairwise (fun a b=>a.Y0 ≤ b.Y0) → 0 ≤ s.2 → (swp x w l s).1 = s.1 + w * colM l M x s.2
  | [],s,_,_,_=>by rw [colM_nil,Int.mul_zero,Int.add_zero]; rfl
  | b :: l, s, hv, hp, hs => by
    have hb:=hv b (by simp)
    have hv' : ∀ r ∈ l,VR r:=fun r hr=>hv r (by simp [hr])
    rw [List.pairwise_cons] at hp
    have hb':=hb
    unfold VR at hb'
    unfold swp
    by_cases c:(b.X0 ≤ x∧x < b.X1)∧s.2 < b.Y1
    · rw [if_pos c, swp_spec hM hv' hp.2 (by show 0 ≤ b.Y1; omega)]
      have e:colM (b::l) M x s.2 = (b.Y1 - max s.2 b.Y0) + colM l M x b.Y1:=by
        have e1:b.Y1 - max s.2 b.Y0 = sumN (fun j=>indP (max s.2 b.Y0 ≤ (j:Int)∧(j:Int) < b.Y1)) M:=by
          rw [sumN_iv]; omega
        rw [e1]
        unfold colM
        rw [← sumN_add]
        refine sumN_congr fun j _=>?_
        by_cases hj:(j:Int) < b.Y1
        · have h2 : indP (b.Y1 ≤ (j : Int) ∧ cells l x j) = 0 := indP_f (by omega)
          rw [h2,Int.add_zero]
          by_cases hm:max s.2 b.Y0 ≤ (j:Int)
          · rw [indP_t, indP_t ⟨hm, hj⟩]
            exact ⟨by omega,b,by simp,c.1,by omega,hj⟩
          · rw [indP_f, indP_f (fun h => hm h.1)]
            rintro ⟨h3,r,hr,h4⟩
            rcases List.mem_cons.1 hr with rfl | hr
            · unfold rin at h4; omega
            · have := hp.1 r hr
              unfold rin at h4; omega
        · have h2 : indP (max s.2 b.Y0 ≤ (j : Int) ∧ (j : Int) < b.Y1) = 0 := indP_f (by omega)
          rw [h2,Int.zero_add]
          refine indP_c ?_
          constructor
          · rintro ⟨h3, r, hr, h4⟩
            rcases List.mem_cons.1 hr with rfl | hr
            · unfold rin at h4; omega
            · exact ⟨by omega,r,hr,h4⟩
          · rintro ⟨h3, r, hr, h4⟩
            exact ⟨by omega,r,by simp [hr],h4⟩
      rw [e,Int.mul_add]
      show s.1 + w * (b.Y1 - max s.2 b.Y0) + w * colM l M x b.Y1 = _
      omega
    · rw [if_neg c, swp_spec hM hv' hp.2 hs]
      have e:colM (b::l) M x s.2 = colM l M x s.2:=by
        refine sumN_congr fun j _=>indP_c ?_
        constructor
        · rintro ⟨h3, r, hr, h4⟩
          rcases List.mem_cons.1 hr with rfl | hr
          · unfold rin at h4; omega
          · exact ⟨by omega,r,hr,h4⟩
        · rintro ⟨h3, r, hr, h4⟩
          exact ⟨by omega,r,by simp [hr],h4⟩
      rw [e]
/-- all strips -/
noncomputable def strips (l:List Rect) (M:Nat):List Int → Int
  | a::b::t=>(b - a) * colM l M a 0 + strips l M (b::t)
  | _=>0
theorem strips_cov' {l:List Rect} {M:Nat} (hM:M = 1048576) (hv : ∀ r ∈ l,VR r) : ∀ {t:List Int} {a:Int},(a::t).Pairwise (· ≤ ·) → 0 ≤ a → (∀ x ∈ t,x ≤ 1048576) → (∀ r ∈ l,(r.X0 ≤ a ∨ r.X0 ∈ t)∧(r.X1 ≤ a ∨ r.X1 ∈ t)) →
    strips l M (a::t) = sumN (fun x=>if a ≤ (x:Int) then colM l M x 0 else 0) M
  | [], a, _, _, _, hc => by
    unfold strips
    symm
    refine sumN_z fun x _=>?_
    split
    · rename_i hx
      refine sumN_z fun j _=>indP_f ?_
      rintro ⟨_,r,hr,h4⟩
      have:=hc r hr
      simp at this
      unfold rin at h4; omega
    · rfl
  | b :: t, a, hp, ha, hb, hc => by
    rw [List.pairwise_cons] at hp
    have hab:a ≤ b:=hp.1 b (by simp)
    have hbt : ∀ z ∈ b::t,b ≤ z:=by
      intro z hz
      rcases List.mem_cons.1 hz with rfl | hz
      · exact Int.le_refl _
      · exact (List.pairwise_cons.1 hp.2).1 z hz
    have hb1:=hb b (by simp)
    unfold strips
    rw [strips_cov' hM hv hp.2 (by omega) (fun x hx=>hb x (by simp [hx])) (fun r hr=>?_)]
    · have e1 : (b - a) * colM l M a 0 = sumN (fun x => if a ≤ (x : Int) ∧ (x : Int) < b then colM l M a 0 else 0) M := by
        have h1:sumN (fun x=>if a ≤ (x:Int)∧(x:Int) < b then colM l M a 0 else 0) M = sumN (fun x=>colM l M a 0 * indP (a ≤ (x:Int)∧(x:Int) < b)) M:=by
          refine sumN_congr fun x _=>?_
          by_cases h:a ≤ (x:Int)∧(x:Int) < b
          · rw [if_pos h,indP_t h,Int.mul_one]
          · rw [if_neg h,indP_f h,Int.mul_zero]
        rw [h1,sumN_mul,sumN_iv,Int.mul_comm]
        congr 1; omega
      rw [e1,← sumN_add]
      refine sumN_congr fun x _=>?_
      by_cases h1:a ≤ (x:Int)
      · rw [if_pos h1]
        by_cases h2:(x:Int) < b
        · rw [if_pos ⟨h1, h2⟩, if_neg (by omega), Int.add_zero]
          refine sumN_congr fun j _=>indP_c ?_
          have key : ∀ r ∈ l,(rin r a j ↔ rin r x j):=by
            intro r hr
            obtain ⟨c1,c2⟩:=hc r hr
            have d1:r.X0 ≤ a ∨ b ≤ r.X0:=c1.imp id (hbt _)
            have d2:r.X1 ≤ a ∨ b ≤ r.X1:=c2.imp id (hbt _)
            unfold rin
            omega
          constructor
          · rintro ⟨h3,r,hr,h4⟩; exact ⟨h3,r,hr,(key r hr).1 h4⟩
          · rintro ⟨h3,r,hr,h4⟩; exact ⟨h3,r,hr,(key r hr).2 h4⟩
        · rw [if_neg (by omega),if_pos (by omega),Int.zero_add]
      · rw [if_neg (by omega),if_neg (by omega),if_neg h1]; rfl
    · obtain ⟨c1, c2⟩ := hc r hr
      constructor
      · rcases c1 with c1 | c1
        · exact .inl (by omega)
        · rcases List.mem_cons.1 c1 with c1 | c1
          · exact .inl (by omega)
          · exact .inr c1
      · rcases c2 with c2 | c2
        · exact .inl (by omega)
        · rcases List.mem_cons.1 c2 with c2 | c2
          · exact .inl (by omega)
          · exact .inr c2
noncomputable def covM (l:List Rect) (M:Nat):Int:=sumN (fun x=>colM l M x 0) M
theorem strips_cov {l:List Rect} {M:Nat} (hM:M = 1048576) {xs:List Int} (hv : ∀ r ∈ l,VR r) (hp:xs.Pairwise (· ≤ ·)) (hx : ∀ x ∈ xs,0 ≤ x∧x ≤ 1048576) (hc : ∀ r ∈ l,r.X0 ∈ xs∧r.X1 ∈ xs):strips l M xs = covM l M:=by
  cases xs with
  | nil =>
    have:l = []:=by
      cases l with
      | nil=>rfl
      | cons r l=>have:=(hc r (by simp)).1; simp at this
    subst this
    unfold strips
    symm
    exact sumN_z fun x _=>colM_nil _ _ _
  | cons a t =>
    rw [strips_cov' hM hv hp (hx a (by simp)).1 (fun x h=>(hx x (by simp [h])).2) (fun r hr=>?_)]
    · refine sumN_congr fun x _ => ?_
      split
      · rfl
      · rename_i h
        symm
        refine sumN_z fun j _=>indP_f ?_
        rintro ⟨_,r,hr,h4⟩
        have h5:a ≤ r.X0:=by
          rcases List.mem_cons.1 (hc r hr).1 with h5 | h5
          · omega
          · exact (List.pairwise_cons.1 hp).1 _ h5
        unfold rin at h4; omega
    · obtain ⟨c1, c2⟩ := hc r hr
      exact ⟨(List.mem_cons.1 c1).imp (fun h=>by omega) id,(List.mem_cons.1 c2).imp (fun h=>by omega) id⟩
theorem covM_congr {l m:List Rect} {M:Nat} (h : ∀ x y,cells l x y ↔ cells m x y):covM l M = covM m M:=
  sumN_congr fun x _=>sumN_congr fun j _=>indP_c (and_congr_right fun _=>h _ _)
theorem covM_perm {l m:List Rect} {M:Nat} (h:l.Perm m):covM l M = covM m M:=covM_congr fun x y=>⟨fun ⟨r,hr,h'⟩=>⟨r,h.mem_iff.1 hr,h'⟩,fun ⟨r,hr,h'⟩=>⟨r,h.mem_iff.2 hr,h'⟩⟩
end Go.Proofs.YtagkmlkhaekldaaGreat

namespace Go.Proofs.YtagkmlkhaekldaaGreat
open Go.Gb
set_option linter.unusedVariables false
set_option linter.unusedSimpArgs false
set_option linter.unusedSectionVars false
set_option linter.unusedVariables false
set_option linter.unusedSimpArgs false
set_option maxRecDepth 100000

theorem form_disj {S:Int → Int → Prop} {out:List Rect} (h:IsForm S out):out.Pairwise fun r s=>∀ x y,rin r x y → ¬ rin s x y:=by
  obtain ⟨G,h1,h2,h3,rfl⟩:=h
  unfold flatG
  rw [List.pairwise_flatMap]
  refine ⟨fun g hg=>?_,?_⟩
  · obtain ⟨a, b, c⟩ := g
    rw [List.pairwise_map]
    refine (canon_pairwise (h2 a b c hg)).imp fun hab x y hr hs=>?_
    unfold rin at hr hs
    dsimp only at hr hs
    omega
  · refine (canon_pairwise h1).imp fun hab r hr s hs x y h4 h5 => ?_
    obtain ⟨u,_,rfl⟩:=List.mem_map.1 hr
    obtain ⟨w,_,rfl⟩:=List.mem_map.1 hs
    unfold rin at h4 h5
    dsimp only at h4 h5
    omega
theorem box_ind (a b c d:Int) (M:Nat):sumN (fun x=>sumN (fun y=>indP ((a ≤ (x:Int)∧(x:Int) < b)∧c ≤ (y:Int)∧(y:Int) < d)) M) M = max 0 (min b M - max a 0) * max 0 (min d M - max c 0):=by
  have e : ∀ x:Nat,sumN (fun y=>indP ((a ≤ (x:Int)∧(x:Int) < b)∧c ≤ (y:Int)∧(y:Int) < d)) M = (max 0 (min d M - max c 0)) * indP (a ≤ (x:Int)∧(x:Int) < b):=by
    intro x
    by_cases h:a ≤ (x:Int)∧(x:Int) < b
    · rw [indP_t h, Int.mul_one, ← sumN_iv]
      exact sumN_congr fun y _=>indP_c (and_iff_right h)
    · rw [indP_f h, Int.mul_zero]
      exact sumN_z fun y _=>indP_f fun h'=>h h'.1
  rw [sumN_congr fun x _=>e x,sumN_mul,sumN_iv,Int.mul_comm]
/-- the cells that two rectangles have in common -/
def capA (g r:Rect):Int:=if comm g r then (min g.X1 r.X1 - max g.X0 r.X0) * (min g.Y1 r.Y1 - max g.Y0 r.Y0) else 0
theorem area_ind {r:Rect} (h:VR r) {M:Nat} (hM:M = 1048576):(r.X1 - r.X0) * (r.Y1 - r.Y0) = sumN (fun x=>sumN (fun y=>indP (rin r x y)) M) M:=by
  unfold rin
  rw [box_ind]
  unfold VR at h
  congr 1 <;> omega
theorem capA_ind {g r:Rect} (hg:VR g) (h:VR r) {M:Nat} (hM:M = 1048576):capA g r = sumN (fun x=>sumN (fun y=>indP (rin g x y∧rin r x y)) M) M:=by
  have e:sumN (fun x=>sumN (fun y=>indP (rin g x y∧rin r x y)) M) M = sumN (fun x=>sumN (fun y=>indP ((max g.X0 r.X0 ≤ (x:Int)∧(x:Int) < min g.X1 r.X1)∧max g.Y0 r.Y0 ≤ (y:Int)∧(y:Int) < min g.Y1 r.Y1)) M) M:=by
    refine sumN_congr fun x _=>sumN_congr fun y _=>indP_c ?_
    unfold rin; omega
  rw [e,box_ind]
  unfold capA comm
  unfold VR at hg h
  by_cases c1:max g.X0 r.X0 < min g.X1 r.X1
  · by_cases c2 : max g.Y0 r.Y0 < min g.Y1 r.Y1
    · rw [decide_eq_true c1, decide_eq_true c2, if_pos (show (true && true) = true from rfl)]
      congr 1 <;> omega
    · rw [decide_eq_false c2,Bool.and_false,if_neg (by simp),show max 0 (min (min g.Y1 r.Y1) (M:Int) - max (max g.Y0 r.Y0) 0) = 0 by omega,Int.mul_zero]
  · rw [decide_eq_false c1,Bool.false_and,if_neg (by simp),show max 0 (min (min g.X1 r.X1) (M:Int) - max (max g.X0 r.X0) 0) = 0 by omega,Int.zero_mul]
theorem capA_bound {g r:Rect} (hg:VR g):0 ≤ capA g r∧capA g r ≤ 1099511627776:=by
  unfold capA
  split
  · rename_i h
    unfold comm at h
    rw [Bool.and_eq_true,decide_eq_true_iff,decide_eq_true_iff] at h
    unfold VR at hg
    exact ⟨Int.mul_nonneg (by omega) (by omega),Int.mul_le_mul (c:=1048576) (d:=1048576) (by omega) (by omega) (by omega) (by omega)⟩
  · decide
noncomputable def inA (g:Rect) (M:Nat) (l:List Rect):Int:=sumN (fun x=>sumN (fun y=>indP (rin g x y∧cells l x y)) M) M
theorem inA_sum {g:Rect} (hg:VR g) {M:Nat} (hM:M = 1048576) : ∀ {l:List Rect},(∀ r ∈ l,VR r) → (l.Pairwise fun r s=>∀ x y,rin r x y → ¬ rin s x y) → sumL (capA g) l = inA g M l
  | [], _, _ => by
    symm
    exact sumN_z fun x _=>sumN_z fun y _=>indP_f (by simp [cells])
  | r :: l, hv, hp => by
    rw [List.pairwise_cons] at hp
    rw [sumL,inA_sum hg hM (fun s hs=>hv s (by simp [hs])) hp.2,capA_ind hg (hv r (by simp)) hM]
    unfold inA
    rw [← sumN_add]
    refine sumN_congr fun x _=>?_
    rw [← sumN_add]
    refine sumN_congr fun y _=>?_
    by_cases h1:rin g x y
    · by_cases h2 : rin r x y
      · have h3 : ¬ cells l x y := fun ⟨s, hs, h⟩ => hp.1 s hs x y h2 h
        rw [indP_t ⟨h1,h2⟩,indP_f (fun h=>h3 h.2),indP_t ⟨h1,r,by simp,h2⟩]; rfl
      · rw [indP_f (fun h => h2 h.2), Int.zero_add]
        refine indP_c (and_congr_right fun _=>⟨fun ⟨s,hs,h⟩=>⟨s,by simp [hs],h⟩,fun ⟨s,hs,h⟩=>?_⟩)
        rcases List.mem_cons.1 hs with rfl | hs
        · exact absurd h h2
        · exact ⟨s,hs,h⟩
    · rw [indP_f (fun h=>h1 h.1),indP_f (fun h=>h1 h.1),indP_f (fun h=>h1 h.1)]; rfl
theorem inA_full {g:Rect} {l:List Rect} {M:Nat} (hM:M = 1048576) (hg:VR g):inA g M l = (g.X1 - g.X0) * (g.Y1 - g.Y0) ↔ ∀ x y,rin g x y → cells l x y:=by
  have e:inA g M l + sumN (fun x=>sumN (fun y=>indP (rin g x y∧¬ cells l x y)) M) M = (g.X1 - g.X0) * (g.Y1 - g.Y0):=by
    rw [area_ind hg hM]
    unfold inA
    rw [← sumN_add]
    refine sumN_congr fun x _=>?_
    rw [← sumN_add]
    refine sumN_congr fun y _=>?_
    by_cases h1:rin g x y
    · by_cases h2 : cells l x y
      · rw [indP_t ⟨h1,h2⟩,indP_f (fun h=>h.2 h2),indP_t h1]; rfl
      · rw [indP_f (fun h=>h2 h.2),indP_t ⟨h1,h2⟩,indP_t h1]; rfl
    · rw [indP_f (fun h=>h1 h.1),indP_f (fun h=>h1 h.1),indP_f h1]; rfl
  rw [← e]
  constructor
  · intro h x y hxy
    have h0:sumN (fun x=>sumN (fun y=>indP (rin g x y∧¬ cells l x y)) M) M = 0:=by omega
    have hb:=hxy
    unfold rin at hb
    unfold VR at hg
    have h1:=sumN_zero_inv (fun x=>sumN_nonneg fun y _=>(indP_bounds _).1) h0 x.toNat (by omega)
    have h2:=sumN_zero_inv (fun y=>(indP_bounds _).1) h1 y.toNat (by omega)
    rw [Int.toNat_of_nonneg (by omega),Int.toNat_of_nonneg (by omega)] at h2
    by_cases h3:cells l x y
    · exact h3
    · rw [indP_t ⟨hxy,h3⟩] at h2; exact absurd h2 (by decide)
  · intro h
    rw [sumN_z fun x _=>sumN_z fun y _=>indP_f fun h'=>h'.2 (h _ _ h'.1),Int.add_zero]
/-- a rectangle with all cells within a distance -/
def grw (b:Rect) (n:Int):Rect:=⟨b.X0 - n,b.Y0 - n,b.X1 + n,b.Y1 + n⟩
/-- do all cells within a distance of a base lie in a region? -/
def SQ (a:List Rect) (b:Rect) (n:Int):Prop:=n ≤ 0 ∨ ∀ x y,rin (grw b n) x y → cells a x y
theorem SQ.anti {a:List Rect} {b:Rect} {m n:Int} (h:SQ a b n) (hm:m ≤ n):SQ a b m:=by
  rcases h with h | h
  · exact .inl (by omega)
  · refine .inr fun x y hxy => h x y ?_
    unfold rin grw at hxy ⊢
    dsimp only at hxy ⊢
    omega
theorem cells_grid {a:List Rect} (ha : ∀ r ∈ a,VR r) {x y:Int} (h:cells a x y):(0 ≤ x∧x < 1048576)∧0 ≤ y∧y < 1048576:=by
  obtain ⟨r,hr,h⟩:=h
  have:=ha r hr
  unfold VR at this
  unfold rin at h
  omega
theorem SQ_VR {a:List Rect} (ha : ∀ r ∈ a,VR r) {b:Rect} (hb:VR b) {n:Int} (hn:0 < n) (h:SQ a b n):VR (grw b n):=by
  rcases h with h | h
  · omega
  · unfold VR at hb
    have h1:=cells_grid ha (h (b.X0 - n) (b.Y0 - n) (by unfold rin grw; dsimp only; omega))
    have h2:=cells_grid ha (h (b.X1 + n - 1) (b.Y1 + n - 1) (by unfold rin grw; dsimp only; omega))
    unfold VR grw
    dsimp only
    omega
/-- The setback of bases in a region. -/
structure SB (a:List Rect) (l:List Rect) (B:Int):Prop where
  lo:0 ≤ B
  hi:B ≤ 1048576
  iff : ∀ n,0 ≤ n → n ≤ 1048576 → (n ≤ B ↔ ∀ b ∈ l,SQ a b n)
theorem SB.unique {a l m:List Rect} {B C:Int} (h:SB a l B) (g:SB a m C) (he : ∀ b,b ∈ l ↔ b ∈ m):B = C:=by
  have h1:=(g.iff B h.lo h.hi).2 fun b hb=>(h.iff B h.lo h.hi).1 (Int.le_refl _) b ((he b).2 hb)
  have h2:=(h.iff C g.lo g.hi).2 fun b hb=>(g.iff C g.lo g.hi).1 (Int.le_refl _) b ((he b).1 hb)
  omega
theorem SB.min {a l m:List Rect} {B C:Int} (h:SB a l B) (g:SB a m C):SB a (l ++ m) (min B C):=
  ⟨by have := h.lo; have := g.lo; omega, by have := h.hi; omega, fun n h0 h1 => by
    have e1:=h.iff n h0 h1
    have e2:=g.iff n h0 h1
    constructor
    · intro hn b hb
      rcases List.mem_append.1 hb with hb | hb
      · exact e1.1 (by omega) b hb
      · exact e2.1 (by omega) b hb
    · intro hq
      have:=e1.2 fun b hb=>hq b (by simp [hb])
      have:=e2.2 fun b hb=>hq b (by simp [hb])
      omega⟩
theorem SB_nil (a:List Rect):SB a [] 1048576:=⟨by decide,by decide,fun n _ h=>⟨fun _ _ hb=>by simp at hb,fun _=>h⟩⟩
theorem covM_eq {l out:List Rect} (hv : ∀ r ∈ out,VR r) (h:IsForm (cells l) out) {M:Nat} (hM:M = 1048576):covM l M = areaL out:=by
  classical
  rw [area_form h (M:=M) (fun r hr=>by have:=hv r hr; unfold VR at this; omega)]
  refine sumN_congr fun x _=>sumN_congr fun y _=>?_
  by_cases c:cells l x y
  · rw [indP_t ⟨by omega,c⟩,decide_eq_true c]; rfl
  · rw [indP_f (fun h=>c h.2),decide_eq_false c]; rfl
theorem VR_form {l out:List Rect} (hv : ∀ r ∈ l,VR r) (h:IsForm (cells l) out) : ∀ r ∈ out,VR r:=by
  intro r hr
  have h0:=form_rect h r hr
  have h1:=cells_grid hv ((h.cells r.X0 r.Y0).1 ⟨r,hr,by unfold rin; omega⟩)
  have h2:=cells_grid hv ((h.cells (r.X1 - 1) (r.Y1 - 1)).1 ⟨r,hr,by unfold rin; omega⟩)
  unfold VR
  omega
end Go.Proofs.YtagkmlkhaekldaaGreat

namespace Go.Proofs.YtagkmlkhaekldaaGreat
open Go.Gb
set_option linter.unusedVariables false
set_option linter.unusedSimpArgs false
set_option linter.unusedSectionVars false
set_option linter.unusedVariables false
set_option linter.unusedSimpArgs false
set_option maxRecDepth 100000

def RV (v:Volume):Prop:=VR v.Box.Base∧0 ≤ v.Box.Z0∧v.Box.Z0 < v.Box.Z1∧v.Box.Z1 ≤ 4096∧0 ≤ v.Use∧v.Use ≤ 5∧0 ≤ v.Units∧v.Units ≤ 1048576∧(v.Units = 0 ∨ v.Use = 0)
instance (v:Volume):Decidable (RV v):=inferInstanceAs (Decidable (_∧_))
theorem RV.VB {v:Volume} (h:RV v):VB v.Box:=⟨h.1,h.2.1,h.2.2.1,h.2.2.2.1⟩
theorem rv_eq (v:Volume):drawing_RightVolume v = some (decide (RV v)):=by
  unfold drawing_RightVolume
  rw [rect_Right_eq,Option.bind_some]
  split
  · rename_i h
    congr 1; symm; rw [decide_eq_false_iff_not]; intro hr; unfold RV at hr
    simp [hr.1] at h; omega
  · rename_i h
    simp at h
    split
    · rename_i g
      congr 1; symm; rw [decide_eq_false_iff_not]; intro hr; unfold RV at hr
      simp at g; omega
    · rename_i g
      congr 1
      rw [Bool.eq_iff_iff]
      simp at g
      simp only [Bool.and_eq_true,decide_eq_true_eq]
      unfold RV
      constructor
      · intro hh
        exact ⟨h.1.1.1,by omega,by omega,by omega,by omega,by omega,by omega,by omega,by omega⟩
      · intro hh; omega
def allV (d:Drawing):List Volume:=d.Phases.flatMap (·.Volumes)
theorem flat_take_le {l:List Phase} (i:Nat):((l.take i).flatMap (·.Volumes)).length ≤ (l.flatMap (·.Volumes)).length:=by
  conv=>rhs; rw [← List.take_append_drop i l]
  rw [List.flatMap_append,List.length_append]; omega
theorem volumesM {d:Drawing} (hp:d.Phases.length ≤ 100000) (hl:(allV d).length ≤ 1000000) {n:Int} (hn:(d.Phases.length:Int) ≤ n):drawing_Volumes d 0 n = some (allV d):=by
  obtain ⟨f,h1,h2,h3⟩:=loop_up (body:=drawing_Volumes_L0 d 0 n) (fun i s=>s.2 = ((i:Nat):Int)∧s.1 = (d.Phases.take i).flatMap (·.Volumes)) d.Phases.length
    (fun f=>match f with | .ex _ s=>s.1 = allV d | _=>False) (fun i s hi ⟨hs,hI⟩=>by
      have hb:=flat_take_le (l:=d.Phases) (i + 1)
      have e:(d.Phases.take (i + 1)).flatMap (·.Volumes) = s.1 ++ d.Phases[i].Volumes:=by
        rw [List.take_succ_eq_append_getElem hi,List.flatMap_append,hI]; simp
      rw [e,List.length_append] at hb
      unfold allV at hl
      unfold drawing_Volumes_L0
      rw [hs,if_pos (by simpa using hi),getI_nat hi,Option.bind_some,if_pos (by simp; omega),appI_some (by omega),Option.bind_some,Option.bind_some,addI_one (by omega),Option.bind_some]
      exact .inl ⟨_,rfl,rfl,e.symm⟩) (fun s ⟨hs,hI⟩=>by
      unfold drawing_Volumes_L0
      rw [hs,if_neg (by simp)]
      rw [List.take_length] at hI
      exact ⟨_,rfl,trivial,hI⟩) ([],0) ⟨rfl,by simp⟩ (d.Phases.length + 1) (by omega)
  unfold drawing_Volumes
  rw [h1,Option.bind_some]
  cases f with
  | go _=>exact h2.elim
  | ret r=>exact h3.elim
  | ex _ s=>dsimp only at h3 ⊢; rw [h3]
theorem inter_eq {a b:Rect} (ha:VR a) (hb:VR b) : ∃ c,rect_Intersect a b = some (c,comm a b)∧(comm a b = true → VR c∧(c.X1 - c.X0) * (c.Y1 - c.Y0) = capA a b):=by
  unfold rect_Intersect
  rw [rect_Right_eq,Option.bind_some,decide_eq_true ha,if_neg (by simp),rect_Right_eq,Option.bind_some,decide_eq_true hb,Option.bind_some,if_neg (by simp),rect_checked_eq]
  by_cases h:VR ⟨max a.X0 b.X0,max a.Y0 b.Y0,min a.X1 b.X1,min a.Y1 b.Y1⟩
  · have hc : comm a b = true := by
      unfold VR at h
      unfold comm
      rw [Bool.and_eq_true,decide_eq_true_iff,decide_eq_true_iff]
      dsimp only at h
      omega
    rw [if_pos h,Option.bind_some]
    dsimp only
    refine ⟨_,by rw [hc],fun _=>⟨h,?_⟩⟩
    unfold capA
    rw [if_pos hc]
  · have hc : comm a b = false := by
      cases hc:comm a b
      · rfl
      · exfalso
        apply h
        unfold comm at hc
        rw [Bool.and_eq_true,decide_eq_true_iff,decide_eq_true_iff] at hc
        unfold VR at ha hb ⊢
        dsimp only
        omega
    rw [if_neg h,Option.bind_some]
    exact ⟨_,by rw [hc],fun h=>by rw [hc] at h; simp at h⟩
theorem grown_eq {b:Rect} (hb:VR b) {n:Int} (h0:0 ≤ n) (h1:n ≤ 1048576):measure_grown b n = some (grw b n,decide (VR (grw b n))):=by
  unfold measure_grown
  unfold VR at hb
  rw [subI_some (by unfold inI; omega),Option.bind_some,subI_some (by unfold inI; omega),Option.bind_some,addI_some (by unfold inI; omega),Option.bind_some,addI_some (by unfold inI; omega),Option.bind_some,rect_Right_eq]
  rfl
theorem inside_eq {s:MeasureSite} (ha:RR s.area) {b:Rect} (hb:VR b) {n:Int} (h0:0 < n) (h1:n ≤ 1048576) : ∃ c,measure_site_inside s b n = some c∧(c = true ↔ SQ s.area b n):=by
  unfold measure_site_inside
  rw [grown_eq hb (by omega) h1,Option.bind_some]
  dsimp only
  by_cases hg:VR (grw b n)
  · rw [decide_eq_true hg, if_neg (by simp)]
    have hl:=ha.2.1
    obtain ⟨f,k1,k2,k3⟩:=loop_up (body:=measure_site_inside_L0 s (grw b n,true)) (fun i t=>t.2 = ((i:Nat):Int)∧t.1 = sumL (capA (grw b n)) (s.area.take i)) s.area.length
      (fun f=>match f with | .ex _ t=>t.1 = sumL (capA (grw b n)) s.area | _=>False) (fun i t hi ⟨e,h⟩=>by
        have hv:=ha.1 _ (List.getElem_mem hi)
        obtain ⟨c,hc,hcc⟩:=inter_eq hg hv
        have hcb:=capA_bound (r:=s.area[i]) hg
        have hs1:=sumL_prefix (f:=capA (grw b n)) (l:=s.area) (fun x _=>(capA_bound hg).1) i
        have hs2:sumL (capA (grw b n)) (s.area.take i) ≤ 1099511627776 * i:=by
          have : ∀ (l:List Rect),sumL (capA (grw b n)) l ≤ 1099511627776 * l.length:=by
            intro l
            induction l with
            | nil=>simp [sumL]
            | cons r l ih=>rw [sumL,List.length_cons]; have:=(capA_bound (r:=r) hg).2; omega
          have h2:=this (s.area.take i)
          rw [List.length_take] at h2
          omega
        unfold measure_site_inside_L0
        rw [e,if_pos (by simpa using hi),getI_nat hi,Option.bind_some]
        dsimp only
        rw [hc,Option.bind_some]
        dsimp only
        have key:(if comm (grw b n) s.area[i] = true then (rect_Area c).bind fun x=>(addI t.1 x).bind fun y=>some y else some t.1) = some (sumL (capA (grw b n)) (s.area.take (i + 1))):=by
          rw [sumL_snoc hi]
          by_cases hm:comm (grw b n) s.area[i] = true
          · obtain ⟨q1, q2⟩ := hcc hm
            rw [if_pos hm,rect_Area_eq q1,Option.bind_some,q2,addI_some (by unfold inI; omega),Option.bind_some,h]
          · have : capA (grw b n) s.area[i] = 0 := by unfold capA; rw [if_neg hm]
            rw [if_neg hm,this,Int.add_zero,h]
        rw [key,Option.bind_some,addI_one (by omega)]
        exact .inl ⟨_,rfl,rfl,rfl⟩) (fun t ⟨e,h⟩=>by
        unfold measure_site_inside_L0
        rw [e,if_neg (by simp)]
        rw [List.take_length] at h
        exact ⟨_,rfl,trivial,h⟩) (0,0) ⟨rfl,rfl⟩ (s.area.length + 1) (by omega)
    rw [k1,Option.bind_some]
    cases f with
    | go _=>exact k2.elim
    | ret r=>exact k3.elim
    | ex _ t =>
      dsimp only at k3 ⊢
      rw [rect_Area_eq hg,Option.bind_some,k3]
      refine ⟨_,rfl,?_⟩
      rw [inA_sum hg rfl ha.1 (form_disj ha.2.2),beq_iff_eq,inA_full rfl hg]
      unfold SQ
      constructor
      · intro h; exact .inr h
      · rintro (h | h)
        · omega
        · exact h
  · rw [decide_eq_false hg, if_pos (by simp)]
    exact ⟨_,rfl,by simp; exact fun h=>hg (SQ_VR ha.1 hb h0 h)⟩
theorem quoI_pos {n m:Int} (h0:0 ≤ n) (hm:0 < m) (h:n ≤ 9223372036854775807):quoI n m = some (n / m):=by
  unfold quoI
  have e:n.tdiv m = n / m:=Int.tdiv_eq_ediv_of_nonneg h0
  have h1:0 ≤ n / m:=Int.ediv_nonneg h0 (by omega)
  have h2:n / m ≤ n:=Int.ediv_le_self m h0
  rw [e,if_pos ⟨by omega,by unfold inI; omega⟩]
theorem bs_loop {s:MeasureSite} (ha:RR s.area) {v:Volume} (hv:VR v.Box.Base) : ∀ (k:Nat) (lo hi:Int),0 ≤ lo → lo ≤ hi → hi ≤ 1048576 → hi - lo < ((2 ^ k:Nat):Int) → SQ s.area v.Box.Base lo →
    ∃ r,iterL (measure_site_setback_L1 s v) (k + 1) (lo,hi) = some (.ex 2 (r,r))∧lo ≤ r∧r ≤ hi∧SQ s.area v.Box.Base r∧∀ n,SQ s.area v.Box.Base n → n ≤ hi → n ≤ r
  | k, lo, hi, h0, h1, h2, h3, hq => by
    unfold iterL
    unfold measure_site_setback_L1
    by_cases c:lo < hi
    · rw [if_pos (by simpa using c)]
      dsimp only
      rw [addI_some (by unfold inI; omega),Option.bind_some,addI_some (by unfold inI; omega),Option.bind_some,quoI_pos (by omega) (by omega) (by omega),Option.bind_some]
      obtain ⟨b,hb,hbq⟩:=inside_eq ha hv (n:=(lo + hi + 1) / 2) (by omega) (by omega)
      rw [hb,Option.bind_some]
      have hk:0 < k:=by
        rcases Nat.eq_zero_or_pos k with rfl | h
        · simp at h3; omega
        · exact h
      obtain ⟨j,rfl⟩ : ∃ j,k = j + 1:=⟨k - 1,by omega⟩
      have hp:((2 ^ (j + 1):Nat):Int) = 2 * ((2 ^ j:Nat):Int):=by rw [Nat.pow_succ]; omega
      cases b with
      | true =>
        rw [if_pos rfl,Option.bind_some]
        dsimp only
        obtain ⟨r,g1,g2,g3,g4,g5⟩:=bs_loop ha hv j ((lo + hi + 1) / 2) hi (by omega) (by omega) h2 (by omega) (hbq.1 rfl)
        exact ⟨r,g1,by omega,g3,g4,g5⟩
      | false =>
        rw [if_neg (by simp),subI_some (by unfold inI; omega),Option.bind_some,Option.bind_some]
        dsimp only
        obtain ⟨r,g1,g2,g3,g4,g5⟩:=bs_loop ha hv j lo ((lo + hi + 1) / 2 - 1) h0 (by omega) (by omega) (by omega) hq
        refine ⟨r,g1,g2,by omega,g4,fun n hn hh=>?_⟩
        by_cases hc:(lo + hi + 1) / 2 ≤ n
        · exact absurd (hbq.2 (hn.anti hc)) (by simp)
        · exact g5 n hn (by omega)
    · rw [if_neg (by simpa using c)]
      have:lo = hi:=by omega
      subst this
      exact ⟨lo,rfl,Int.le_refl _,Int.le_refl _,hq,fun n _ h=>h⟩
theorem setback_eq {s:MeasureSite} (ha:RR s.area) (hv : ∀ v ∈ s.volumes,VR v.Box.Base) (hl:s.volumes.length ≤ 1000) : ∃ B,measure_site_setback s = some B∧SB s.area (s.volumes.map fun v=>v.Box.Base) B:=by
  obtain ⟨f,k1,k2,k3⟩:=loop_up (body:=measure_site_setback_L0 s) (fun i t=>t.2 = ((i:Nat):Int)∧SB s.area ((s.volumes.take i).map fun v=>v.Box.Base) t.1) s.volumes.length
    (fun f=>match f with | .ex _ t=>SB s.area (s.volumes.map fun v=>v.Box.Base) t.1 | _=>False) (fun i t hi ⟨e,h⟩=>by
      have hvi:=hv _ (List.getElem_mem hi)
      obtain ⟨r,g1,g2,g3,g4,g5⟩:=bs_loop ha hvi 24 0 t.1 (by omega) h.lo h.hi (by have:=h.hi; simp; omega) (.inl (by omega))
      unfold measure_site_setback_L0
      rw [e,if_pos (by simpa using hi),getI_nat hi,Option.bind_some,g1,Option.bind_some]
      dsimp only
      rw [addI_one (by omega)]
      refine .inl ⟨_,rfl,rfl,g2,by have:=h.hi; dsimp only; omega,fun n n0 n1=>?_⟩
      dsimp only
      rw [List.take_succ_eq_append_getElem hi,List.map_append]
      constructor
      · intro hn b hb
        rcases List.mem_append.1 hb with hb | hb
        · exact (h.iff n n0 n1).1 (by omega) b hb
        · simp at hb; subst hb; exact g4.anti hn
      · intro hq
        have h1:=(h.iff n n0 n1).2 fun b hb=>hq b (List.mem_append_left _ hb)
        exact g5 n (hq _ (by simp)) h1) (fun t ⟨e,h⟩=>by
      unfold measure_site_setback_L0
      rw [e,if_neg (by simp)]
      rw [List.take_length] at h
      exact ⟨_,rfl,trivial,h⟩) (1048576,0) ⟨rfl,SB_nil _⟩ (s.volumes.length + 1) (by omega)
  unfold measure_site_setback
  rw [k1,Option.bind_some]
  cases f with
  | go _=>exact k2.elim
  | ret r=>exact k3.elim
  | ex _ t=>exact ⟨_,rfl,k3⟩
theorem site_sum {s:MeasureSite} {f:Volume → Option Int} {g:Volume → Int} (hl:s.volumes.length ≤ 1000) (hf : ∀ v ∈ s.volumes,f v = some (g v)∧0 ≤ g v∧g v ≤ 4503599627370496):measure_site_sum s f = some (sumL g s.volumes):=by
  obtain ⟨f', k1, k2, k3⟩ := loop_up (body := measure_site_sum_L0 s f) (fun i t => t.2 = ((i : Nat) : Int) ∧ t.1 = sumL g (s.volumes.take i) ∧ 0 ≤ t.1 ∧ t.1 ≤ 4503599627370496 * i) s.volumes.length
    (fun f=>match f with | .ex _ t=>t.1 = sumL g s.volumes | _=>False) (fun i t hi ⟨e,h,hb0,hb⟩=>by
      obtain ⟨e1,e2,e3⟩:=hf _ (List.getElem_mem hi)
      unfold measure_site_sum_L0
      rw [e,if_pos (by simpa using hi),getI_nat hi,Option.bind_some,e1,Option.bind_some,addI_some (by unfold inI; omega),Option.bind_some,addI_one (by omega)]
      refine .inl ⟨_,rfl,rfl,?_,by dsimp only; omega,by dsimp only; omega⟩
      dsimp only
      rw [sumL_snoc hi,h]) (fun t ⟨e,h,_⟩=>by
      unfold measure_site_sum_L0
      rw [e,if_neg (by simp)]
      rw [List.take_length] at h
      exact ⟨_,rfl,trivial,h⟩) (0,0) ⟨rfl,rfl,by simp,by simp⟩ (s.volumes.length + 1) (by omega)
  unfold measure_site_sum
  rw [k1,Option.bind_some]
  cases f' with
  | go _=>exact k2.elim
  | ret r=>exact k3.elim
  | ex _ t=>dsimp only at k3 ⊢; rw [k3]
def maxL {α:Type} (g:α → Int):List α → Int
  | []=>0
  | x::l=>max (g x) (maxL g l)
theorem maxL_append {α:Type} (g:α → Int) : ∀ (l m:List α),maxL g (l ++ m) = max (maxL g l) (maxL g m)
  | [], m => by
    have:0 ≤ maxL g m:=by
      cases m with
      | nil=>exact Int.le_refl _
      | cons x m =>
        have : ∀ l:List α,0 ≤ maxL g l:=by
          intro l; induction l with
          | nil=>exact Int.le_refl _
          | cons y l ih=>rw [maxL]; omega
        exact this _
    rw [List.nil_append]; simp only [maxL]; omega
  | x::l,m=>by rw [List.cons_append,maxL,maxL_append g l m,maxL]; omega
theorem maxL_nonneg {α:Type} (g:α → Int) (l:List α):0 ≤ maxL g l:=by
  induction l with
  | nil=>exact Int.le_refl _
  | cons y l ih=>rw [maxL]; omega
theorem site_greatest {s:MeasureSite} {f:Volume → Option Int} {g:Volume → Int} (hl:s.volumes.length ≤ 1000) (hf : ∀ v ∈ s.volumes,f v = some (g v)):measure_site_greatest s f = some (maxL g s.volumes):=by
  obtain ⟨f', k1, k2, k3⟩ := loop_up (body := measure_site_greatest_L0 s f) (fun i t => t.2 = ((i : Nat) : Int) ∧ t.1 = maxL g (s.volumes.take i)) s.volumes.length
    (fun f=>match f with | .ex _ t=>t.1 = maxL g s.volumes | _=>False) (fun i t hi ⟨e,h⟩=>by
      have e1:=hf _ (List.getElem_mem hi)
      unfold measure_site_greatest_L0
      rw [e,if_pos (by simpa using hi),getI_nat hi,Option.bind_some,e1,Option.bind_some,addI_one (by omega)]
      refine .inl ⟨_,rfl,rfl,?_⟩
      dsimp only
      have:=maxL_nonneg g (s.volumes.take i)
      rw [List.take_succ_eq_append_getElem hi,maxL_append,h]
      simp only [maxL]
      omega) (fun t ⟨e,h⟩=>by
      unfold measure_site_greatest_L0
      rw [e,if_neg (by simp)]
      rw [List.take_length] at h
      exact ⟨_,rfl,trivial,h⟩) (0,0) ⟨rfl,rfl⟩ (s.volumes.length + 1) (by omega)
  unfold measure_site_greatest
  rw [k1,Option.bind_some]
  cases f' with
  | go _=>exact k2.elim
  | ret r=>exact k3.elim
  | ex _ t=>dsimp only at k3 ⊢; rw [k3]
end Go.Proofs.YtagkmlkhaekldaaGreat

namespace Go.Proofs.YtagkmlkhaekldaaGreat
open Go.Gb
set_option linter.unusedVariables false
set_option linter.unusedSimpArgs false
set_option linter.unusedSectionVars false
set_option linter.unusedVariables false
set_option linter.unusedSimpArgs false
set_option maxRecDepth 100000

def swpS (x w:Int) (b:Rect) (s:Int × Int):Int × Int:=if (b.X0 ≤ x∧x < b.X1)∧s.2 < b.Y1 then (s.1 + w * (b.Y1 - max s.2 b.Y0),b.Y1) else s
theorem swp_snoc (x w:Int) (b:Rect) : ∀ (l:List Rect) (s:Int × Int),swp x w (l ++ [b]) s = swpS x w b (swp x w l s)
  | [],s=>rfl
  | c :: l, s => by
    rw [List.cons_append]
    unfold swp
    exact swp_snoc x w b l _
theorem swp_y (x w:Int) : ∀ (l:List Rect) (s:Int × Int),(∀ r ∈ l,VR r) → 0 ≤ s.2 → s.2 ≤ 1048576 → 0 ≤ (swp x w l s).2∧(swp x w l s).2 ≤ 1048576
  | [],s,_,h0,h1=>⟨h0,h1⟩
  | b :: l, s, hv, h0, h1 => by
    unfold swp
    have hb:=hv b (by simp)
    unfold VR at hb
    split
    · exact swp_y x w l _ (fun r hr=>hv r (by simp [hr])) (by dsimp only; omega) (by dsimp only; omega)
    · exact swp_y x w l _ (fun r hr=>hv r (by simp [hr])) h0 h1
theorem mul_bd {a b:Int} (h0:0 ≤ a) (h1:a ≤ 1048576) (g0:0 ≤ b) (g1:b ≤ 1048576):0 ≤ a * b∧a * b ≤ 1099511627776:=
  ⟨Int.mul_nonneg h0 g0,Int.mul_le_mul (c:=1048576) (d:=1048576) h1 g1 g0 (by decide)⟩
theorem cover_L2 {bs:List Rect} {xs:List Int} {n:Int} {m:Nat} (hbv : ∀ r ∈ bs,VR r) (hs:bs.Pairwise fun a b=>a.Y0 ≤ b.Y0) (hb:bs.length ≤ 1000) (hm:m + 1 < xs.length) (hx : ∀ x ∈ xs,0 ≤ x∧x ≤ 1048576)
    (hle:(xs[m]'(by omega)) ≤ xs[m + 1]) (hml:m ≤ 100000) (hn:0 ≤ n∧n ≤ 109951162777600000) :
    ∃ t,iterL (measure_site_cover_L2 bs xs (n,(m:Int))) (bs.length + 1) (n,0,0) = some (.ex 4 t)∧t.1 = n + (xs[m + 1] - (xs[m]'(by omega))) * colM bs 1048576 (xs[m]'(by omega)) 0:=by
  generalize hM:(1048576:Nat) = M
  have hx0:=hx _ (List.getElem_mem (show m < xs.length by omega))
  have hx1:=hx _ (List.getElem_mem hm)
  have gm:=getI_nat (l:=xs) (show m < xs.length by omega)
  have gm1:=getI_nat (l:=xs) hm
  generalize (xs[m]'(by omega)) = x at *
  generalize xs[m + 1] = z at *
  obtain ⟨f,k1,k2,k3⟩:=loop_up (body:=measure_site_cover_L2 bs xs (n,(m:Int))) (fun j t=>t.2.2 = ((j:Nat):Int)∧(t.1,t.2.1) = swp x (z - x) (bs.take j) (n,0)) bs.length
    (fun f=>match f with | .ex i t=>i = 4∧t.1 = n + (z - x) * colM bs M x 0 | _=>False) (fun j t hj ⟨e,h⟩=>by
      obtain ⟨t1,t2,t3⟩:=t
      dsimp only at e h
      subst e
      have hvj:=hbv _ (List.getElem_mem hj)
      have hvt : ∀ r ∈ bs.take j,VR r:=fun r hr=>hbv r (List.mem_of_mem_take hr)
      have hsp:=swp_spec (x:=x) (w:=z - x) hM.symm hvt (hs.sublist (List.take_sublist j bs)) (s:=(n,0)) (Int.le_refl _)
      have hy:=swp_y x (z - x) (bs.take j) (n,0) hvt (by dsimp only; omega) (by dsimp only; omega)
      rw [← h] at hsp hy
      dsimp only at hsp hy
      have hcb:=colM_bounds (bs.take j) M x 0
      have hpb:=mul_bd (a:=z - x) (b:=colM (bs.take j) M x 0) (by omega) (by omega) hcb.1 (by omega)
      have hv:=hvj
      unfold VR at hv
      have e2:swp x (z - x) (bs.take (j + 1)) (n,0) = swpS x (z - x) bs[j] (t1,t2):=by rw [List.take_succ_eq_append_getElem hj,swp_snoc,← h]
      unfold measure_site_cover_L2
      dsimp only
      rw [if_pos (by simpa using hj),getI_nat hj,Option.bind_some,gm,Option.bind_some]
      have q1:(if (decide (bs[j].X0 ≤ x)) = true then (some x).bind fun y=>some (decide (y < bs[j].X1)) else some false) = some (decide (bs[j].X0 ≤ x∧x < bs[j].X1)):=by
        by_cases c:bs[j].X0 ≤ x <;> simp [c]
      rw [q1,Option.bind_some]
      by_cases c:(bs[j].X0 ≤ x∧x < bs[j].X1)∧t2 < bs[j].Y1
      · have hpw := mul_bd (a := z - x) (b := bs[j].Y1 - max t2 bs[j].Y0) (by omega) (by omega) (by omega) (by omega)
        rw [if_pos (by simp only [Bool.and_eq_true,decide_eq_true_eq]; exact c),addI_one (by omega),Option.bind_some,gm1,Option.bind_some,Option.bind_some,subI_some (by unfold inI; omega),Option.bind_some,subI_some (by unfold inI; omega),Option.bind_some,mulI_some (by unfold inI; omega),Option.bind_some,addI_some (by unfold inI; omega),Option.bind_some,Option.bind_some,addI_one (by omega)]
        refine .inl ⟨_,rfl,rfl,?_⟩
        rw [e2]
        unfold swpS
        rw [if_pos c]
      · rw [if_neg (by simp only [Bool.and_eq_true, decide_eq_true_eq]; exact c), Option.bind_some, addI_one (by omega)]
        refine .inl ⟨_,rfl,rfl,?_⟩
        rw [e2]
        unfold swpS
        rw [if_neg c]) (fun t ⟨e,h⟩=>by
      obtain ⟨t1,t2,t3⟩:=t
      dsimp only at e h
      subst e
      unfold measure_site_cover_L2
      dsimp only
      rw [if_neg (by simp)]
      rw [List.take_length] at h
      have hsp:=swp_spec (x:=x) (w:=z - x) hM.symm hbv hs (s:=(n,0)) (Int.le_refl _)
      rw [← h] at hsp
      exact ⟨_,rfl,trivial,rfl,hsp⟩) (n,0,0) ⟨rfl,rfl⟩ (bs.length + 1) (by omega)
  cases f with
  | go _=>exact k2.elim
  | ret r=>exact k3.elim
  | ex i t=>obtain ⟨rfl,k3⟩:=k3; exact ⟨t,k1,k3⟩
theorem strips_snoc2 (l:List Rect) (M:Nat) (a b:Int) : ∀ t:List Int,strips l M (t ++ [a,b]) = strips l M (t ++ [a]) + (b - a) * colM l M a 0
  | []=>by show (b - a) * colM l M a 0 + 0 = 0 + _; omega
  | [c]=>by show (a - c) * colM l M c 0 + ((b - a) * colM l M a 0 + 0) = (a - c) * colM l M c 0 + 0 + (b - a) * colM l M a 0; omega
  | c :: d :: t => by
    have ih:=strips_snoc2 l M a b (d::t)
    show (d - c) * colM l M c 0 + strips l M (d::t ++ [a,b]) = (d - c) * colM l M c 0 + strips l M (d::t ++ [a]) + _
    rw [ih]; omega
theorem strips_take {l:List Rect} {M:Nat} {xs:List Int} {m:Nat} (h:m + 1 < xs.length):strips l M (xs.take (m + 2)) = strips l M (xs.take (m + 1)) + (xs[m + 1] - (xs[m]'(by omega))) * colM l M (xs[m]'(by omega)) 0:=by
  rw [List.take_succ_eq_append_getElem (i:=m + 1) h,List.take_succ_eq_append_getElem (i:=m) (by omega),List.append_assoc]
  exact strips_snoc2 l M _ _ _
def ends2 (l:List Rect):List Int:=l.flatMap fun r=>[r.X0,r.X1]
theorem ends2_len (l:List Rect):(ends2 l).length = 2 * l.length:=by
  unfold ends2
  induction l with
  | nil=>rfl
  | cons r l ih=>rw [List.flatMap_cons,List.length_append,ih,List.length_cons]; simp; omega
theorem cover_L0 {s:MeasureSite} (hl:s.volumes.length ≤ 1000) : ∃ i,iterL (measure_site_cover_L0 s) (s.volumes.length + 1) (([]:List Int),List.replicate s.volumes.length (⟨0,0,0,0⟩:Rect),0) = some (.ex 0 (ends2 (s.volumes.map fun v=>v.Box.Base),s.volumes.map (fun v=>v.Box.Base),i)):=by
  obtain ⟨f,k1,k2,k3⟩:=loop_up (body:=measure_site_cover_L0 s) (fun i t=>t.2.2 = ((i:Nat):Int)∧t.2.1.length = s.volumes.length∧t.2.1.take i = (s.volumes.take i).map (fun v=>v.Box.Base)∧t.1 = ends2 ((s.volumes.take i).map fun v=>v.Box.Base)) s.volumes.length
    (fun f=>match f with | .ex j t=>j = 0∧t.1 = ends2 (s.volumes.map fun v=>v.Box.Base)∧t.2.1 = s.volumes.map (fun v=>v.Box.Base) | _=>False) (fun i t hi ⟨e,h1,h2,h3⟩=>by
      obtain ⟨t1,t2,t3⟩:=t
      dsimp only at e h1 h2 h3
      subst e
      have hi2:i < t2.length:=by omega
      have hset:i < (t2.set i s.volumes[i].Box.Base).length:=by rw [List.length_set]; exact hi2
      have hg:getI (t2.set i s.volumes[i].Box.Base) (i:Int) = some s.volumes[i].Box.Base:=by
        rw [getI_nat hset,List.getElem_set_self]
      have hlen:t1.length ≤ 2000:=by rw [h3,ends2_len,List.length_map,List.length_take]; omega
      unfold measure_site_cover_L0
      dsimp only
      rw [if_pos (by simpa using hi),getI_nat hi,Option.bind_some,getI_nat hi2,Option.bind_some,Option.bind_some,Int.toNat_natCast,hg,Option.bind_some,Option.bind_some,appI_some (by simp; omega),Option.bind_some,addI_one (by omega)]
      refine .inl ⟨_,rfl,rfl,by dsimp only; rw [List.length_set]; exact h1,?_,?_⟩
      · dsimp only
        rw [List.take_succ_eq_append_getElem hset,List.getElem_set_self,List.take_set_of_le (Nat.le_refl _),h2,List.take_succ_eq_append_getElem hi,List.map_append]
        rfl
      · dsimp only
        rw [List.take_succ_eq_append_getElem hi,List.map_append]
        unfold ends2
        rw [List.flatMap_append,h3]
        rfl) (fun t ⟨e,h1,h2,h3⟩=>by
      unfold measure_site_cover_L0
      rw [e,if_neg (by simp)]
      rw [List.take_length] at h2 h3
      rw [← h1,List.take_length] at h2
      exact ⟨_,rfl,trivial,rfl,h3,h2⟩) ([],List.replicate s.volumes.length ⟨0,0,0,0⟩,0) ⟨rfl,by simp,by simp,rfl⟩ (s.volumes.length + 1) (by omega)
  rw [k1]
  cases f with
  | go _=>exact k2.elim
  | ret r=>exact k3.elim
  | ex j t =>
    obtain ⟨rfl,h1,h2⟩:=k3
    obtain ⟨t1,t2,t3⟩:=t
    dsimp only at h1 h2
    subst h1 h2
    exact ⟨_,rfl⟩
theorem cover_eq {s:MeasureSite} (hv : ∀ v ∈ s.volumes,VR v.Box.Base) (hl:s.volumes.length ≤ 1000):measure_site_cover s = some (covM (s.volumes.map fun v=>v.Box.Base) 1048576):=by
  unfold measure_site_cover
  obtain ⟨i0,h0⟩:=cover_L0 hl
  rw [makeI_some (by omega),Option.bind_some,h0,Option.bind_some]
  dsimp only
  have hbl:(s.volumes.map fun v=>v.Box.Base).length ≤ 1000:=by rw [List.length_map]; exact hl
  have hbv : ∀ r ∈ s.volumes.map (fun v => v.Box.Base), VR r := fun r hr => by obtain ⟨v, hv', rfl⟩ := List.mem_map.1 hr; exact hv v hv'
  generalize s.volumes.map (fun v=>v.Box.Base) = B at hbl hbv
  obtain ⟨bs,b1,b2,b3⟩:=sortRects_spec (l:=B) (by omega)
  obtain ⟨xs,x1,x2,x3⟩:=sortInts_spec (l:=ends2 B) (by rw [ends2_len]; omega)
  rw [b1,Option.bind_some,x1,Option.bind_some]
  have hxl:xs.length ≤ 2000:=by rw [x2.length_eq,ends2_len]; omega
  have hmem : ∀ x,x ∈ xs ↔ ∃ r ∈ B,x = r.X0 ∨ x = r.X1:=fun x=>by rw [x2.mem_iff]; unfold ends2; simp
  have hx : ∀ x ∈ xs,0 ≤ x∧x ≤ 1048576:=fun x h=>by
    obtain ⟨r,hr,h⟩:=(hmem x).1 h
    have:=hbv r hr
    unfold VR at this
    omega
  have hbv' : ∀ r ∈ bs,VR r:=fun r hr=>hbv r (b2.mem_iff.1 hr)
  have hbsl:bs.length ≤ 1000:=by rw [b2.length_eq]; exact hbl
  rw [subI_some (by unfold inI; omega),Option.bind_some]
  generalize hM:(1048576:Nat) = M at *
  have hcov:strips bs M xs = covM B M:=by
    rw [strips_cov hM.symm hbv' x3 hx (fun r hr=>⟨(hmem _).2 ⟨r,b2.mem_iff.1 hr,.inl rfl⟩,(hmem _).2 ⟨r,b2.mem_iff.1 hr,.inr rfl⟩⟩),covM_perm b2]
  have hN:max 0 ((xs.length:Int) - 1) = ((xs.length - 1:Nat):Int):=by omega
  obtain ⟨f,k1,k2,k3⟩:=loop_up (body:=measure_site_cover_L1 bs xs ((xs.length:Int) - 1)) (fun m t=>t.2 = ((m:Nat):Int)∧t.1 = strips bs M (xs.take (m + 1))∧0 ≤ t.1∧t.1 ≤ 1099511627776 * m) (xs.length - 1)
    (fun f=>match f with | .ex i t=>t.1 = strips bs M (xs.take (xs.length - 1 + 1)) | _=>False) (fun m t hm ⟨e,h,g0,g1⟩=>by
      obtain ⟨t1,t2⟩:=t
      dsimp only at e h g0 g1
      subst e
      have hm1:m + 1 < xs.length:=by omega
      obtain ⟨u,hu,hu1⟩:=cover_L2 (n:=t1) hbv' b3 hbsl hm1 hx (List.pairwise_iff_getElem.1 x3 m (m + 1) (by omega) hm1 (by omega)) (by omega) (by omega)
      have hx0:=hx _ (List.getElem_mem (show m < xs.length by omega))
      have hx1:=hx _ (List.getElem_mem hm1)
      have hxx:=List.pairwise_iff_getElem.1 x3 m (m + 1) (by omega) hm1 (by omega)
      rw [hM] at hu1
      have hcb:=colM_bounds bs M (xs[m]'(by omega)) 0
      have hpb:=mul_bd (a:=xs[m + 1] - (xs[m]'(by omega))) (b:=colM bs M (xs[m]'(by omega)) 0) (by omega) (by omega) hcb.1 (by omega)
      unfold measure_site_cover_L1
      dsimp only
      rw [hN,if_pos (by simpa using hm),hu,Option.bind_some]
      dsimp only
      rw [addI_one (by omega)]
      exact .inl ⟨_,rfl,rfl,by dsimp only; rw [strips_take hm1,hu1,h],by dsimp only; omega,by dsimp only; omega⟩) (fun t ⟨e,h,_⟩=>by
      unfold measure_site_cover_L1
      rw [e,hN,if_neg (by simp)]
      exact ⟨_,rfl,trivial,h⟩) (0,0) ⟨rfl,by
        cases xs with
        | nil=>rfl
        | cons a t=>rfl,by simp,by simp⟩ ((max 0 ((xs.length:Int) - 1)).toNat + 1) (by omega)
  rw [k1,Option.bind_some]
  cases f with
  | go _=>exact k2.elim
  | ret r=>exact k3.elim
  | ex i t =>
    dsimp only at k3 ⊢
    rw [k3,List.take_of_length_le (by omega),hcov]
end Go.Proofs.YtagkmlkhaekldaaGreat

namespace Go.Proofs.YtagkmlkhaekldaaGreat
open Go.Gb
set_option linter.unusedVariables false
set_option linter.unusedSimpArgs false
set_option linter.unusedSectionVars false
set_option linter.unusedVariables false
set_option linter.unusedSimpArgs false
set_option maxRecDepth 100000

def sto (v:Volume):Int:=if v.Extra = false∧RV v then (v.Box.Z1 - v.Box.Z0 + 2) / 3 else 0
def arR (r:Rect):Int:=(r.X1 - r.X0) * (r.Y1 - r.Y0)
def flo (v:Volume):Int:=if RV v then arR v.Box.Base * sto v else 0
theorem sto_eq (v:Volume):measure_Storeys v = some (sto v):=by
  unfold measure_Storeys sto
  rw [rv_eq]
  by_cases he:v.Extra = true
  · rw [if_pos he,Option.bind_some,if_pos rfl,if_neg (by simp [he])]
  · have he' : v.Extra = false := by simpa using he
    rw [if_neg he,Option.bind_some,Option.bind_some]
    by_cases h:RV v
    · have hr := h
      unfold RV at hr
      rw [decide_eq_true h, if_neg (by simp), if_pos ⟨he', h⟩, subI_some (by unfold inI; omega), Option.bind_some, addI_some (by unfold inI; omega), Option.bind_some, subI_some (by unfold inI; omega), Option.bind_some, quoI_pos (by omega) (by omega) (by omega), Option.bind_some, show v.Box.Z1 - v.Box.Z0 + 3 - 1 = v.Box.Z1 - v.Box.Z0 + 2 by omega]
    · rw [decide_eq_false h,if_pos (by simp),if_neg (fun g=>h g.2)]
theorem sto_bd (v:Volume):0 ≤ sto v∧sto v ≤ 1366:=by
  unfold sto
  split
  · rename_i h
    have hr:=h.2
    unfold RV at hr
    omega
  · decide
theorem arR_bd {r:Rect} (h:VR r):0 ≤ arR r∧arR r ≤ 1099511627776:=rect_area_bound h
theorem flo_bd (v:Volume):0 ≤ flo v∧flo v ≤ 4503599627370496:=by
  unfold flo
  split
  · rename_i h
    have h1:=arR_bd h.1
    have h2:=sto_bd v
    refine ⟨Int.mul_nonneg h1.1 h2.1,?_⟩
    have:=Int.mul_le_mul (c:=arR v.Box.Base) (d:=(1366:Int)) (a:=arR v.Box.Base) (b:=sto v) (Int.le_refl _) h2.2 h2.1 h1.1
    omega
  · decide
theorem flo_eq (v:Volume):measure_Floor v = some (flo v):=by
  have hb:=flo_bd v
  unfold measure_Floor
  rw [rv_eq,Option.bind_some,sto_eq]
  by_cases h:RV v
  · unfold flo at hb ⊢
    rw [if_pos h] at hb ⊢
    rw [decide_eq_true h,if_neg (by simp),rect_Area_eq h.1,Option.bind_some,Option.bind_some]
    unfold arR at hb ⊢
    rw [mulI_some (by unfold inI; omega),Option.bind_some]
  · unfold flo
    rw [decide_eq_false h,if_pos (by simp),if_neg h]
noncomputable def tra (p:Plan) (v:Volume):Int:=(measure_traffic p v).getD 0
theorem tra_eq {p:Plan} (hp:PlanS p) {v:Volume} (h:RV v):measure_traffic p v = some (tra p v)∧0 ≤ tra p v∧tra p v ≤ 1099511627776:=by
  unfold RV at h
  obtain ⟨n,h1,h2,h3⟩:=traffic_tot (v:=v) hp (by omega) (by omega)
  unfold tra
  rw [h1]
  exact ⟨rfl,h2,h3⟩
open Classical in
noncomputable def ar (l:List Rect):List Rect:=if RR l then l else []
theorem ar_RR (l:List Rect):RR (ar l):=by
  unfold ar
  split
  · rename_i h; exact h
  · exact RR_nil
def vols (d:Drawing):List Volume:=((allV d).take 40).filter fun v=>decide (RV v)
theorem vols_RV {d:Drawing} : ∀ v ∈ vols d,RV v:=fun v hv=>by
  have:=(List.mem_filter.1 hv).2
  exact of_decide_eq_true this
theorem vols_len (d:Drawing):(vols d).length ≤ 40:=by
  unfold vols
  have:=List.length_filter_le (fun v=>decide (RV v)) ((allV d).take 40)
  rw [List.length_take] at this
  omega
abbrev bs (l:List Volume):List Rect:=l.map fun v=>v.Box.Base
theorem bs_VR {l:List Volume} (h : ∀ v ∈ l,RV v) : ∀ r ∈ bs l,VR r:=fun r hr=>by
  obtain ⟨v,hv,rfl⟩:=List.mem_map.1 hr
  exact (h v hv).1
def ent (a c f s h u b t:Int):List Entry:=[⟨⟨#[97,114,101,97]⟩,a⟩,⟨⟨#[99,111,118,101,114]⟩,c⟩,⟨⟨#[102,108,111,111,114]⟩,f⟩,⟨⟨#[102,108,111,111,114,115]⟩,s⟩,⟨⟨#[104,101,105,103,104,116]⟩,h⟩,⟨⟨#[104,111,109,101,115]⟩,u⟩,⟨⟨#[114,117,110,111,102,102]⟩,c⟩,⟨⟨#[115,101,116,98,97,99,107]⟩,b⟩,⟨⟨#[116,114,97,102,102,105,99]⟩,t⟩]
theorem mOf_L0 {p:Plan} {A:List Rect} {vs:List Volume} (hl:vs.length ≤ 1000000) : ∃ i,iterL (measure_Of_L0 vs) (vs.length + 1) (⟨p,A,[]⟩,0) = some (.ex 0 (⟨p,A,(vs.take 40).filter (fun v=>decide (RV v))⟩,i)):=by
  obtain ⟨f,k1,k2,k3⟩:=loop_up (body:=measure_Of_L0 vs) (fun i t=>t.2 = ((i:Nat):Int)∧t.1 = ⟨p,A,((vs.take 40).take i).filter (fun v=>decide (RV v))⟩) vs.length
    (fun f=>match f with | .ex j t=>j = 0∧t.1 = ⟨p,A,(vs.take 40).filter (fun v=>decide (RV v))⟩ | _=>False) (fun i t hi ⟨e,h⟩=>by
      obtain ⟨t1,t2⟩:=t
      dsimp only at e h
      subst e h
      have hlen:(((vs.take 40).take i).filter (fun v=>decide (RV v))).length ≤ 40:=by
        have h1:=List.length_filter_le (fun v=>decide (RV v)) ((vs.take 40).take i)
        rw [List.length_take,List.length_take] at h1
        omega
      unfold measure_Of_L0
      dsimp only
      rw [if_pos (by simpa using hi),getI_nat hi,Option.bind_some]
      by_cases c:i < 40
      · have hi4 : i < (vs.take 40).length := by rw [List.length_take]; omega
        have e2:(vs.take 40).take (i + 1) = (vs.take 40).take i ++ [vs[i]]:=by
          rw [List.take_succ_eq_append_getElem hi4,List.getElem_take]
        rw [if_pos (by simp; omega),rv_eq,Option.bind_some,Option.bind_some]
        by_cases r:RV vs[i]
        · rw [decide_eq_true r, if_pos rfl, appI_some (by simp; omega), Option.bind_some, Option.bind_some, addI_one (by omega)]
          exact .inl ⟨_,rfl,rfl,by dsimp only; rw [e2,List.filter_append]; simp [r]⟩
        · rw [decide_eq_false r, if_neg (by simp), Option.bind_some, addI_one (by omega)]
          exact .inl ⟨_,rfl,rfl,by dsimp only; rw [e2,List.filter_append]; simp [r]⟩
      · rw [if_neg (by simp; omega), Option.bind_some, if_neg (by simp), Option.bind_some, addI_one (by omega)]
        refine .inl ⟨_,rfl,rfl,?_⟩
        dsimp only
        have e4 : ∀ m,40 ≤ m → (vs.take 40).take m = vs.take 40:=fun m hm=>List.take_of_length_le (by rw [List.length_take]; omega)
        rw [e4 i (by omega),e4 (i + 1) (by omega)]) (fun t ⟨e,h⟩=>by
      unfold measure_Of_L0
      rw [e,if_neg (by simp)]
      rw [List.take_of_length_le (by rw [List.length_take]; omega)] at h
      exact ⟨_,rfl,trivial,rfl,h⟩) (⟨p,A,[]⟩,0) ⟨rfl,by simp⟩ (vs.length + 1) (by omega)
  rw [k1]
  cases f with
  | go _=>exact k2.elim
  | ret r=>exact k3.elim
  | ex j t =>
    obtain ⟨rfl,h1⟩:=k3
    obtain ⟨t1,t2⟩:=t
    dsimp only at h1
    subst h1
    exact ⟨_,rfl⟩
theorem mOf_L1 {t:MeasureSite} {a c f s h u b r:Int} (h0:measure_site_lot t = some a) (h1:measure_site_cover t = some c) (h2:measure_site_floor t = some f) (h3:measure_site_floors t = some s) (h4:measure_site_height t = some h) (h5:measure_site_homes t = some u) (h6:measure_site_setback t = some b) (h7:measure_site_traffic t = some r) :
    ∃ i,iterL (measure_Of_L1 t) 10 ([],0) = some (.ex 2 (ent a c f s h u b r,i)):=by
  have hE : ∀ (i:Nat) (hi:i < (ent a c f s h u b r).length),∃ w,getI measure_rows (i:Int) = some w∧w.of t = some ((ent a c f s h u b r)[i]'hi).N∧w.name = ((ent a c f s h u b r)[i]'hi).Name:=fun i hi=>match i,hi with
    | 0,_=>⟨_,rfl,h0,rfl⟩ | 1,_=>⟨_,rfl,h1,rfl⟩ | 2,_=>⟨_,rfl,h2,rfl⟩ | 3,_=>⟨_,rfl,h3,rfl⟩ | 4,_=>⟨_,rfl,h4,rfl⟩
    | 5,_=>⟨_,rfl,h5,rfl⟩ | 6,_=>⟨_,rfl,h1,rfl⟩ | 7,_=>⟨_,rfl,h6,rfl⟩ | 8,_=>⟨_,rfl,h7,rfl⟩ | n + 9,h=>absurd h (by show ¬ n + 9 < 9; omega)
  have hlen:(ent a c f s h u b r).length = 9:=rfl
  generalize ent a c f s h u b r = E at hE hlen
  obtain ⟨g,k1,k2,k3⟩:=loop_up (body:=measure_Of_L1 t) (fun i x=>x.2 = ((i:Nat):Int)∧x.1 = E.take i) 9
    (fun g=>match g with | .ex j x=>j = 2∧x.1 = E | _=>False) (fun i x hi ⟨e,hx⟩=>by
      obtain ⟨x1,x2⟩:=x
      dsimp only at e hx
      subst e
      obtain ⟨w,w1,w2,w3⟩:=hE i (by omega)
      have hle:x1.length ≤ 9:=by rw [hx,List.length_take]; omega
      unfold measure_Of_L1
      dsimp only
      rw [if_pos (by simp; omega),w1,Option.bind_some,w2,Option.bind_some,w3,appI_some (by simp; omega),Option.bind_some,addI_one (by omega)]
      refine .inl ⟨_,rfl,rfl,?_⟩
      dsimp only
      rw [List.take_succ_eq_append_getElem (by omega),hx]) (fun x ⟨e,hx⟩=>by
      unfold measure_Of_L1
      rw [e,if_neg (by simp)]
      rw [List.take_of_length_le (by omega)] at hx
      exact ⟨_,rfl,trivial,rfl,hx⟩) ([],0) ⟨rfl,by simp⟩ 10 (by omega)
  rw [k1]
  cases g with
  | go _=>exact k2.elim
  | ret r=>exact k3.elim
  | ex j x =>
    obtain ⟨rfl,e⟩:=k3
    obtain ⟨x1,x2⟩:=x
    dsimp only at e
    subst e
    exact ⟨_,rfl⟩
/-- All measures of a drawing. -/
theorem of_eq {p:Plan} {lot:Lot} {d:Drawing} (hp:PlanS p) (hph:d.Phases.length ≤ 100000) (hl:(allV d).length ≤ 1000000) (hla:lot.Area.length ≤ 100000) :
    ∃ B,SB (ar lot.Area) (bs (vols d)) B∧measure_Of p lot d = some (ent (areaL (ar lot.Area)) (covM (bs (vols d)) 1048576) (sumL flo (vols d)) (maxL sto (vols d)) (maxL (fun v=>v.Box.Z1) (vols d)) (sumL (fun v=>v.Units) (vols d)) B (sumL (tra p) (vols d))):=by
  have hV:=vols_RV (d:=d)
  have hVl:=vols_len d
  obtain ⟨i,hi⟩:=mOf_L0 (p:=p) (A:=ar lot.Area) hl
  unfold measure_Of
  have e0 : ∃ b,region_Right lot.Area = some b∧(if b = true then some (⟨p,lot.Area,[]⟩:MeasureSite) else some ⟨p,[],[]⟩) = some ⟨p,ar lot.Area,[]⟩:=by
    unfold ar
    by_cases h:RR lot.Area
    · exact ⟨true,region_Right_true h,by rw [if_pos rfl,if_pos h]⟩
    · exact ⟨false,region_Right_false hla h,by rw [if_neg (by simp),if_neg h]⟩
  obtain ⟨b,hb,he⟩:=e0
  rw [hb,Option.bind_some,he,Option.bind_some,volumesM hph hl (Int.le_refl _),Option.bind_some,hi,Option.bind_some]
  dsimp only
  rw [show List.filter (fun v=>decide (RV v)) (List.take 40 (allV d)) = vols d from rfl]
  have hR:=ar_RR lot.Area
  generalize ar lot.Area = A at hR
  generalize vols d = V at hV hVl
  obtain ⟨B,hB,hSB⟩:=setback_eq (s:=⟨p,A,V⟩) hR (fun v hv=>(hV v hv).1) (by dsimp only; omega)
  obtain ⟨j,hj⟩:=mOf_L1 (t:=⟨p,A,V⟩) (a:=areaL A) (c:=covM (bs V) 1048576) (f:=sumL flo V) (s:=maxL sto V) (h:=maxL (fun v=>v.Box.Z1) V) (u:=sumL (fun v=>v.Units) V) (b:=B) (r:=sumL (tra p) V)
    (by unfold measure_site_lot; dsimp only; rw [region_Area_fine hR]; rfl)
    (cover_eq (fun v hv=>(hV v hv).1) (by dsimp only; omega))
    (by unfold measure_site_floor; rw [site_sum (g:=flo) (by dsimp only; omega) fun v _=>⟨flo_eq v,flo_bd v⟩]; rfl)
    (by unfold measure_site_floors; rw [site_greatest (g:=sto) (by dsimp only; omega) fun v _=>sto_eq v]; rfl)
    (by unfold measure_site_height; rw [site_greatest (f:=measure_site__height_1) (g:=fun v=>v.Box.Z1) (by dsimp only; omega) fun v _=>rfl]; rfl)
    (by unfold measure_site_homes; rw [site_sum (f:=measure_site__homes_1) (g:=fun v=>v.Units) (by dsimp only; omega) fun v hv=>⟨rfl,by have:=hV v hv; unfold RV at this; omega⟩]; rfl)
    hB
    (by
      unfold measure_site_traffic
      rw [site_sum (g:=tra p) (by dsimp only; omega) fun v hv=>by
        obtain ⟨h1,h2,h3⟩:=tra_eq hp (hV v hv)
        refine ⟨?_,h2,by omega⟩
        unfold measure_site__traffic_1
        dsimp only
        rw [h1]; rfl]
      rfl)
  rw [hj,Option.bind_some]
  exact ⟨B,hSB,rfl⟩
end Go.Proofs.YtagkmlkhaekldaaGreat

namespace Go.Proofs.YtagkmlkhaekldaaGreat
open Go.Gb
set_option linter.unusedVariables false
set_option linter.unusedSimpArgs false
set_option linter.unusedSectionVars false
set_option linter.unusedVariables false
set_option linter.unusedSimpArgs false
set_option maxRecDepth 100000

def sqr (r:Rect):List Point:=[⟨r.X0,r.Y0⟩,⟨r.X1,r.Y0⟩,⟨r.X1,r.Y1⟩,⟨r.X0,r.Y1⟩]
def sqrS (r:Rect):List PolygonSide:=[⟨⟨r.X0,r.Y0⟩,⟨r.X1,r.Y0⟩⟩,⟨⟨r.X1,r.Y0⟩,⟨r.X1,r.Y1⟩⟩,⟨⟨r.X1,r.Y1⟩,⟨r.X0,r.Y1⟩⟩,⟨⟨r.X0,r.Y1⟩,⟨r.X0,r.Y0⟩⟩]
theorem square_eq (r:Rect):law20_square r = some (sqr r):=rfl
theorem sqr_VR {r:Rect} (h:polygon_Right (sqr r) = some true):VR r:=by
  obtain ⟨b,hb,hP⟩:=pright_eq (sqr r)
  rw [hb] at h
  obtain rfl:=Option.some.inj h
  obtain ⟨_,_,h1,h2,_⟩:=hP.1 rfl
  have a0:=h1 0 (show 0 < 4 by decide)
  have a2:=h1 2 (show 2 < 4 by decide)
  have b1:=h2 1 (show 1 < 4 by decide) (by decide)
  have b3:=h2 3 (show 3 < 4 by decide) (by decide)
  have e0:nx (sqr r) 0 = 1:=rfl
  have e1:nx (sqr r) 1 = 2:=rfl
  have e2:nx (sqr r) 2 = 3:=rfl
  have e3:nx (sqr r) 3 = 0:=by show (3 + 1) % 4 = 0; rfl
  have p0:pt (sqr r) 0 = ⟨r.X0,r.Y0⟩:=rfl
  have p1:pt (sqr r) 1 = ⟨r.X1,r.Y0⟩:=rfl
  have p2:pt (sqr r) 2 = ⟨r.X1,r.Y1⟩:=rfl
  have p3:pt (sqr r) 3 = ⟨r.X0,r.Y1⟩:=rfl
  unfold q1 at a0 a2
  unfold lss at b1 b3
  rw [e0,e1,p0,p1,p2] at a0
  rw [e2,e3,p2,p3,p0] at a2
  rw [p0,p1] at b1
  rw [p0,p3] at b3
  simp at a0 a2 b1 b3
  unfold VR
  omega
theorem sqr_region {r:Rect} (h:polygon_Right (sqr r) = some true):polygon_Region (sqr r) = some ([r],0):=by
  have hv:=sqr_VR h
  unfold VR at hv
  obtain ⟨a,c,b,d⟩:=r
  dsimp only at hv
  have h1:iterL (polygon_Region_L0 (sqr ⟨a,c,b,d⟩)) ((sqr ⟨a,c,b,d⟩).length + 1) (([]:List Int),0) = some (.ex 0 ([a,b,b,a],4)):=by rfl
  have h2:sortInts [a,b,b,a] = some [a,a,b,b]:=sort_is (by simp) (by
    refine List.Perm.cons a ?_
    exact (List.perm_append_comm (l₁:=[b,b]) (l₂:=[a]))) (by simp; omega)
  have h3:compactInts [a,a,b,b] = some [a,b]:=compact_is (by simp) (by simp; omega) (by simp; omega) (fun x=>by simp)
  have h4:polygon_around (sqr ⟨a,c,b,d⟩) = some (sqrS ⟨a,c,b,d⟩):=by kernel_rfl
  have h5:sortInts [c,d] = some [c,d]:=sort_is (by simp) (List.Perm.refl _) (by simp; omega)
  have h6:iterL (polygon_Region_L2 [a,b] (sqrS ⟨a,c,b,d⟩) (([]:List Rect),0)) ((sqrS ⟨a,c,b,d⟩).length + 1) (([]:List Int),0) = some (.ex 4 ([c,d],4)):=by
    have u0:polygon_side_upright (⟨⟨a,c⟩,⟨b,c⟩⟩:PolygonSide) = some false:=by
      have:(a == b) = false:=by rw [beq_eq_false_iff_ne]; omega
      exact congrArg some this
    have u1:polygon_side_upright (⟨⟨b,c⟩,⟨b,d⟩⟩:PolygonSide) = some true:=congrArg some (show (b == b) = true by simp)
    have u2:polygon_side_upright (⟨⟨b,d⟩,⟨a,d⟩⟩:PolygonSide) = some false:=by
      have:(b == a) = false:=by rw [beq_eq_false_iff_ne]; omega
      exact congrArg some this
    have u3:polygon_side_upright (⟨⟨a,d⟩,⟨a,c⟩⟩:PolygonSide) = some true:=congrArg some (show (a == a) = true by simp)
    have m0:decide (min a b ≤ a) = true:=by simp; omega
    have m1:decide (a < max a b) = true:=by simp; omega
    have m2:decide (min b a ≤ a) = true:=by simp; omega
    have m3:decide (a < max b a) = true:=by simp; omega
    have g : ∀ j:Int,getI [a,b] (0:Int) = some a:=fun _=>rfl
    have s0:polygon_Region_L2 [a,b] (sqrS ⟨a,c,b,d⟩) (([]:List Rect),0) (([]:List Int),0) = some (.go ([c],1)):=by
      unfold polygon_Region_L2
      rw [if_pos (show decide ((0:Int) < ((sqrS ⟨a,c,b,d⟩).length:Int)) = true from rfl),show getI (sqrS ⟨a,c,b,d⟩) (0:Int) = some (⟨⟨a,c⟩,⟨b,c⟩⟩:PolygonSide) from rfl,Option.bind_some,u0,Option.bind_some]
      dsimp only
      rw [if_pos (show (!false) = true from rfl),show getI [a,b] (0:Int) = some a from rfl,Option.bind_some,Option.bind_some,Option.bind_some,m0,if_pos rfl,Option.bind_some,m1]
      rfl
    have s1:polygon_Region_L2 [a,b] (sqrS ⟨a,c,b,d⟩) (([]:List Rect),0) ([c],1) = some (.go ([c],2)):=by
      unfold polygon_Region_L2
      rw [if_pos (show decide ((1:Int) < ((sqrS ⟨a,c,b,d⟩).length:Int)) = true from rfl),show getI (sqrS ⟨a,c,b,d⟩) (1:Int) = some (⟨⟨b,c⟩,⟨b,d⟩⟩:PolygonSide) from rfl,Option.bind_some,u1,Option.bind_some]
      rfl
    have s2:polygon_Region_L2 [a,b] (sqrS ⟨a,c,b,d⟩) (([]:List Rect),0) ([c],2) = some (.go ([c,d],3)):=by
      unfold polygon_Region_L2
      rw [if_pos (show decide ((2:Int) < ((sqrS ⟨a,c,b,d⟩).length:Int)) = true from rfl),show getI (sqrS ⟨a,c,b,d⟩) (2:Int) = some (⟨⟨b,d⟩,⟨a,d⟩⟩:PolygonSide) from rfl,Option.bind_some,u2,Option.bind_some]
      dsimp only
      rw [if_pos (show (!false) = true from rfl),show getI [a,b] (0:Int) = some a from rfl,Option.bind_some,Option.bind_some,Option.bind_some,m2,if_pos rfl,Option.bind_some,m3]
      rfl
    have s3:polygon_Region_L2 [a,b] (sqrS ⟨a,c,b,d⟩) (([]:List Rect),0) ([c,d],3) = some (.go ([c,d],4)):=by
      unfold polygon_Region_L2
      rw [if_pos (show decide ((3:Int) < ((sqrS ⟨a,c,b,d⟩).length:Int)) = true from rfl),show getI (sqrS ⟨a,c,b,d⟩) (3:Int) = some (⟨⟨a,d⟩,⟨a,c⟩⟩:PolygonSide) from rfl,Option.bind_some,u3,Option.bind_some]
      rfl
    have s4:polygon_Region_L2 [a,b] (sqrS ⟨a,c,b,d⟩) (([]:List Rect),0) ([c,d],4) = some (.ex 4 ([c,d],4)):=rfl
    show iterL _ 5 _ = _
    simp only [iterL,s0,s1,s2,s3,s4]
  have h7:iterL (polygon_Region_L3 [a,b] (([]:List Rect),0) [c,d]) 9 (([]:List Rect),0) = some (.ex 6 ([⟨a,c,b,d⟩],2)):=by rfl
  have h8:polygon_Region_L1 [a,b] (sqrS ⟨a,c,b,d⟩) 1 (([]:List Rect),0) = some (.go ([⟨a,c,b,d⟩],1)):=by
    unfold polygon_Region_L1
    rw [if_pos (by decide),h6,Option.bind_some]
    dsimp only
    rw [h5,Option.bind_some]
    have h7' : iterL (polygon_Region_L3 [a,b] (([]:List Rect),0) [c,d]) (([a,b]:List Int).length + (sqrS ⟨a,c,b,d⟩).length + ([]:List Rect).length + ([c,d]:List Int).length + 1) (([]:List Rect),0) = some (.ex 6 ([⟨a,c,b,d⟩],2)):=h7
    rw [h7', Option.bind_some]
    rfl
  have h9:polygon_Region_L1 [a,b] (sqrS ⟨a,c,b,d⟩) 1 ([⟨a,c,b,d⟩],1) = some (.ex 2 ([⟨a,c,b,d⟩],1)):=by rfl
  unfold polygon_Region
  rw [h,Option.bind_some,if_neg (by simp),h1,Option.bind_some]
  dsimp only
  rw [h2,Option.bind_some,h3,Option.bind_some,h4,Option.bind_some,show subI (([a,b]:List Int).length:Int) 1 = some 1 from rfl,Option.bind_some]
  have h10:iterL (polygon_Region_L1 [a,b] (sqrS ⟨a,c,b,d⟩) 1) ((1:Int).toNat + 1) (([]:List Rect),0) = some (.ex 2 ([⟨a,c,b,d⟩],1)):=by
    show iterL _ 2 _ = _
    simp only [iterL,h8,h9,Option.bind_some]
  rw [h10,Option.bind_some]
  rfl
/-- what a volume loads a cap on a rectangle -/
theorem load_sqr {p:Plan} (hp:PlanS p) {r:Rect} (h:polygon_Right (sqr r) = some true) {v:Volume} (hv:RV v) (nm:ByteArray) (k l:Int) :
    measure_Load p ⟨nm,k,l,sqr r⟩ v = some (if comm r v.Box.Base = true then (if k = 0 then v.Units else if k = 1 then tra p v else if k = 2 then arR v.Box.Base else 0) else 0):=by
  have hr:=sqr_VR h
  have ht:=tra_eq hp hv
  unfold measure_Load
  rw [rv_eq,Option.bind_some,decide_eq_true hv,if_neg (by simp),sqr_region h,Option.bind_some]
  dsimp only
  obtain ⟨c,hc,_⟩:=inter_eq hr hv.1
  rw [containsRc_any (s:=[r]) (g:=fun x=>comm r v.Box.Base) (by simp) (fun x hx=>by
    obtain rfl:=List.mem_singleton.1 hx
    unfold measure_Load_1
    rw [hc]; rfl)]
  cases hm:comm r v.Box.Base
  · simp [hm]
  · simp only [List.any_cons, hm, Bool.true_or]
    rw [rect_Area_eq hv.1,ht.1]
    by_cases c0:k = 0
    · subst c0; simp
    · by_cases c1 : k = 1
      · subst c1; simp
      · by_cases c2 : k = 2
        · subst c2; simp [arR]
        · simp [c0,c1,c2]
end Go.Proofs.YtagkmlkhaekldaaGreat

