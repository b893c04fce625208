/- The plain part of the proof (no program in sight), part 2 -/
import Derived.Test.YtagkmlkhaekldaaGreatP1
namespace Go.Proofs.YtagkmlkhaekldaaGreat
open Go.Gb
set_option linter.unusedVariables false
set_option linter.unusedSimpArgs false
set_option linter.unusedSectionVars false
set_option linter.unusedVariables false
set_option linter.unusedSimpArgs false
set_option maxRecDepth 100000

open Classical in
noncomputable def indP (p:Prop):Int:=if p then 1 else 0
theorem indP_t {p:Prop} (h:p):indP p = 1:=by unfold indP; rw [if_pos h]
theorem indP_f {p:Prop} (h : ¬ p):indP p = 0:=by unfold indP; rw [if_neg h]
theorem indP_c {p q:Prop} (h:p ↔ q):indP p = indP q:=by rw [propext h]
theorem indP_bounds (p:Prop):0 ≤ indP p∧indP p ≤ 1:=by
  by_cases h:p
  · rw [indP_t h]; decide
  · rw [indP_f h]; decide
theorem sumN_z {f:Nat → Int} {n:Nat} (h : ∀ i,i < n → f i = 0):sumN f n = 0:=(sumN_congr h).trans sumN_zero
theorem sumN_iv (a b:Int) : ∀ n:Nat,sumN (fun j=>indP (a ≤ (j:Int)∧(j:Int) < b)) n = max 0 (min b n - max a 0)
  | 0=>by rw [sumN]; omega
  | n + 1 => by
    rw [sumN,sumN_iv a b n]
    by_cases h:a ≤ (n:Int)∧(n:Int) < b
    · rw [indP_t h]; omega
    · rw [indP_f h]; omega
theorem sumN_mul (c:Int) (f:Nat → Int) (n:Nat):sumN (fun x=>c * f x) n = c * sumN f n:=by
  induction n with
  | zero=>simp [sumN]
  | succ n ih=>rw [sumN,ih,sumN,Int.mul_add]
/-- one strip: the bases over x in the order of their beginnings -/
def swp (x w:Int):List Rect → Int × Int → Int × Int
  | [],s=>s
  | b::l,s=>swp x w l (if (b.X0 ≤ x∧x < b.X1)∧s.2 < b.Y1 then (s.1 + w * (b.Y1 - max s.2 b.Y0),b.Y1) else s)
noncomputable def colM (l:List Rect) (M:Nat) (x y:Int):Int:=sumN (fun j=>indP (y ≤ (j:Int)∧cells l x j)) M
theorem colM_nil (M:Nat) (x y:Int):colM [] M x y = 0:=sumN_z fun j _=>indP_f (by simp [cells])
theorem colM_bounds (l:List Rect) (M:Nat) (x y:Int):0 ≤ colM l M x y∧colM l M x y ≤ M:=by
  constructor
  · exact sumN_nonneg fun i _=>(indP_bounds _).1
  · have := sumN_le (f := fun j : Nat => indP (y ≤ (j : Int) ∧ cells l x j)) (m := 1) (n := M) fun i _ => (indP_bounds _).2
    rw [Int.mul_one] at this; exact this
theorem swp_spec {x w:Int} {M:Nat} (hM:M = 1048576) : ∀ {l:List Rect} {s:Int × Int},(∀ r ∈ l,VR r) → l.Pairwise (fun a b=>a.Y0 ≤ b.Y0) → 0 ≤ s.2 → (swp x w l s).1 = s.1 + w * colM l M x s.2
  | [],s,_,_,_=>by rw [colM_nil,Int.mul_zero,Int.add_zero]; rfl
  | b :: l, s, hv, hp, hs => by
    have hb:=hv b (by simp)
    have hv' : ∀ r ∈ l,VR r:=fun r hr=>hv r (by simp [hr])
    rw [List.pairwise_cons] at hp
    have hb':=hb
    unfold VR at hb'
    unfold swp
    by_cases c:(b.X0 ≤ x∧x < b.X1)∧s.2 < b.Y1
    · rw [if_pos c, swp_spec hM hv' hp.2 (by show 0 ≤ b.Y1; omega)]
      have e:colM (b::l) M x s.2 = (b.Y1 - max s.2 b.Y0) + colM l M x b.Y1:=by
        have e1:b.Y1 - max s.2 b.Y0 = sumN (fun j=>indP (max s.2 b.Y0 ≤ (j:Int)∧(j:Int) < b.Y1)) M:=by
          rw [sumN_iv]; omega
        rw [e1]
        unfold colM
        rw [← sumN_add]
        refine sumN_congr fun j _=>?_
        by_cases hj:(j:Int) < b.Y1
        · have h2 : indP (b.Y1 ≤ (j : Int) ∧ cells l x j) = 0 := indP_f (by omega)
          rw [h2,Int.add_zero]
          by_cases hm:max s.2 b.Y0 ≤ (j:Int)
          · rw [indP_t, indP_t ⟨hm, hj⟩]
            exact ⟨by omega,b,by simp,c.1,by omega,hj⟩
          · rw [indP_f, indP_f (fun h => hm h.1)]
            rintro ⟨h3,r,hr,h4⟩
            rcases List.mem_cons.1 hr with rfl | hr
            · unfold rin at h4; omega
            · have := hp.1 r hr
              unfold rin at h4; omega
        · have h2 : indP (max s.2 b.Y0 ≤ (j : Int) ∧ (j : Int) < b.Y1) = 0 := indP_f (by omega)
          rw [h2,Int.zero_add]
          refine indP_c ?_
          constructor
          · rintro ⟨h3, r, hr, h4⟩
            rcases List.mem_cons.1 hr with rfl | hr
            · unfold rin at h4; omega
            · exact ⟨by omega,r,hr,h4⟩
          · rintro ⟨h3, r, hr, h4⟩
            exact ⟨by omega,r,by simp [hr],h4⟩
      rw [e,Int.mul_add]
      show s.1 + w * (b.Y1 - max s.2 b.Y0) + w * colM l M x b.Y1 = _
      omega
    · rw [if_neg c, swp_spec hM hv' hp.2 hs]
      have e:colM (b::l) M x s.2 = colM l M x s.2:=by
        refine sumN_congr fun j _=>indP_c ?_
        constructor
        · rintro ⟨h3, r, hr, h4⟩
          rcases List.mem_cons.1 hr with rfl | hr
          · unfold rin at h4; omega
          · exact ⟨by omega,r,hr,h4⟩
        · rintro ⟨h3, r, hr, h4⟩
          exact ⟨by omega,r,by simp [hr],h4⟩
      rw [e]
/-- all strips -/
noncomputable def strips (l:List Rect) (M:Nat):List Int → Int
  | a::b::t=>(b - a) * colM l M a 0 + strips l M (b::t)
  | _=>0
theorem strips_cov' {l:List Rect} {M:Nat} (hM:M = 1048576) (hv : ∀ r ∈ l,VR r) : ∀ {t:List Int} {a:Int},(a::t).Pairwise (· ≤ ·) → 0 ≤ a → (∀ x ∈ t,x ≤ 1048576) → (∀ r ∈ l,(r.X0 ≤ a ∨ r.X0 ∈ t)∧(r.X1 ≤ a ∨ r.X1 ∈ t)) →
    strips l M (a::t) = sumN (fun x=>if a ≤ (x:Int) then colM l M x 0 else 0) M
  | [], a, _, _, _, hc => by
    unfold strips
    symm
    refine sumN_z fun x _=>?_
    split
    · rename_i hx
      refine sumN_z fun j _=>indP_f ?_
      rintro ⟨_,r,hr,h4⟩
      have:=hc r hr
      simp at this
      unfold rin at h4; omega
    · rfl
  | b :: t, a, hp, ha, hb, hc => by
    rw [List.pairwise_cons] at hp
    have hab:a ≤ b:=hp.1 b (by simp)
    have hbt : ∀ z ∈ b::t,b ≤ z:=by
      intro z hz
      rcases List.mem_cons.1 hz with rfl | hz
      · exact Int.le_refl _
      · exact (List.pairwise_cons.1 hp.2).1 z hz
    have hb1:=hb b (by simp)
    unfold strips
    rw [strips_cov' hM hv hp.2 (by omega) (fun x hx=>hb x (by simp [hx])) (fun r hr=>?_)]
    · have e1 : (b - a) * colM l M a 0 = sumN (fun x => if a ≤ (x : Int) ∧ (x : Int) < b then colM l M a 0 else 0) M := by
        have h1:sumN (fun x=>if a ≤ (x:Int)∧(x:Int) < b then colM l M a 0 else 0) M = sumN (fun x=>colM l M a 0 * indP (a ≤ (x:Int)∧(x:Int) < b)) M:=by
          refine sumN_congr fun x _=>?_
          by_cases h:a ≤ (x:Int)∧(x:Int) < b
          · rw [if_pos h,indP_t h,Int.mul_one]
          · rw [if_neg h,indP_f h,Int.mul_zero]
        rw [h1,sumN_mul,sumN_iv,Int.mul_comm]
        congr 1; omega
      rw [e1,← sumN_add]
      refine sumN_congr fun x _=>?_
      by_cases h1:a ≤ (x:Int)
      · rw [if_pos h1]
        by_cases h2:(x:Int) < b
        · rw [if_pos ⟨h1, h2⟩, if_neg (by omega), Int.add_zero]
          refine sumN_congr fun j _=>indP_c ?_
          have key : ∀ r ∈ l,(rin r a j ↔ rin r x j):=by
            intro r hr
            obtain ⟨c1,c2⟩:=hc r hr
            have d1:r.X0 ≤ a ∨ b ≤ r.X0:=c1.imp id (hbt _)
            have d2:r.X1 ≤ a ∨ b ≤ r.X1:=c2.imp id (hbt _)
            unfold rin
            omega
          constructor
          · rintro ⟨h3,r,hr,h4⟩; exact ⟨h3,r,hr,(key r hr).1 h4⟩
          · rintro ⟨h3,r,hr,h4⟩; exact ⟨h3,r,hr,(key r hr).2 h4⟩
        · rw [if_neg (by omega),if_pos (by omega),Int.zero_add]
      · rw [if_neg (by omega),if_neg (by omega),if_neg h1]; rfl
    · obtain ⟨c1, c2⟩ := hc r hr
      constructor
      · rcases c1 with c1 | c1
        · exact .inl (by omega)
        · rcases List.mem_cons.1 c1 with c1 | c1
          · exact .inl (by omega)
          · exact .inr c1
      · rcases c2 with c2 | c2
        · exact .inl (by omega)
        · rcases List.mem_cons.1 c2 with c2 | c2
          · exact .inl (by omega)
          · exact .inr c2
noncomputable def covM (l:List Rect) (M:Nat):Int:=sumN (fun x=>colM l M x 0) M
theorem strips_cov {l:List Rect} {M:Nat} (hM:M = 1048576) {xs:List Int} (hv : ∀ r ∈ l,VR r) (hp:xs.Pairwise (· ≤ ·)) (hx : ∀ x ∈ xs,0 ≤ x∧x ≤ 1048576) (hc : ∀ r ∈ l,r.X0 ∈ xs∧r.X1 ∈ xs):strips l M xs = covM l M:=by
  cases xs with
  | nil =>
    have:l = []:=by
      cases l with
      | nil=>rfl
      | cons r l=>have:=(hc r (by simp)).1; simp at this
    subst this
    unfold strips
    symm
    exact sumN_z fun x _=>colM_nil _ _ _
  | cons a t =>
    rw [strips_cov' hM hv hp (hx a (by simp)).1 (fun x h=>(hx x (by simp [h])).2) (fun r hr=>?_)]
    · refine sumN_congr fun x _ => ?_
      split
      · rfl
      · rename_i h
        symm
        refine sumN_z fun j _=>indP_f ?_
        rintro ⟨_,r,hr,h4⟩
        have h5:a ≤ r.X0:=by
          rcases List.mem_cons.1 (hc r hr).1 with h5 | h5
          · omega
          · exact (List.pairwise_cons.1 hp).1 _ h5
        unfold rin at h4; omega
    · obtain ⟨c1, c2⟩ := hc r hr
      exact ⟨(List.mem_cons.1 c1).imp (fun h=>by omega) id,(List.mem_cons.1 c2).imp (fun h=>by omega) id⟩
theorem covM_congr {l m:List Rect} {M:Nat} (h : ∀ x y,cells l x y ↔ cells m x y):covM l M = covM m M:=
  sumN_congr fun x _=>sumN_congr fun j _=>indP_c (and_congr_right fun _=>h _ _)
theorem covM_perm {l m:List Rect} {M:Nat} (h:l.Perm m):covM l M = covM m M:=covM_congr fun x y=>⟨fun ⟨r,hr,h'⟩=>⟨r,h.mem_iff.1 hr,h'⟩,fun ⟨r,hr,h'⟩=>⟨r,h.mem_iff.2 hr,h'⟩⟩
end Go.Proofs.YtagkmlkhaekldaaGreat

namespace Go.Proofs.YtagkmlkhaekldaaGreat
open Go.Gb
set_option linter.unusedVariables false
set_option linter.unusedSimpArgs false
set_option linter.unusedSectionVars false
set_option linter.unusedVariables false
set_option linter.unusedSimpArgs false
set_option maxRecDepth 100000

theorem form_disj {S:Int → Int → Prop} {out:List Rect} (h:IsForm S out):out.Pairwise fun r s=>∀ x y,rin r x y → ¬ rin s x y:=by
  obtain ⟨G,h1,h2,h3,rfl⟩:=h
  unfold flatG
  rw [List.pairwise_flatMap]
  refine ⟨fun g hg=>?_,?_⟩
  · obtain ⟨a, b, c⟩ := g
    rw [List.pairwise_map]
    refine (canon_pairwise (h2 a b c hg)).imp fun hab x y hr hs=>?_
    unfold rin at hr hs
    dsimp only at hr hs
    omega
  · refine (canon_pairwise h1).imp fun hab r hr s hs x y h4 h5 => ?_
    obtain ⟨u,_,rfl⟩:=List.mem_map.1 hr
    obtain ⟨w,_,rfl⟩:=List.mem_map.1 hs
    unfold rin at h4 h5
    dsimp only at h4 h5
    omega
theorem box_ind (a b c d:Int) (M:Nat):sumN (fun x=>sumN (fun y=>indP ((a ≤ (x:Int)∧(x:Int) < b)∧c ≤ (y:Int)∧(y:Int) < d)) M) M = max 0 (min b M - max a 0) * max 0 (min d M - max c 0):=by
  have e : ∀ x:Nat,sumN (fun y=>indP ((a ≤ (x:Int)∧(x:Int) < b)∧c ≤ (y:Int)∧(y:Int) < d)) M = (max 0 (min d M - max c 0)) * indP (a ≤ (x:Int)∧(x:Int) < b):=by
    intro x
    by_cases h:a ≤ (x:Int)∧(x:Int) < b
    · rw [indP_t h, Int.mul_one, ← sumN_iv]
      exact sumN_congr fun y _=>indP_c (and_iff_right h)
    · rw [indP_f h, Int.mul_zero]
      exact sumN_z fun y _=>indP_f fun h'=>h h'.1
  rw [sumN_congr fun x _=>e x,sumN_mul,sumN_iv,Int.mul_comm]
/-- the cells that two rectangles have in common -/
def capA (g r:Rect):Int:=if comm g r then (min g.X1 r.X1 - max g.X0 r.X0) * (min g.Y1 r.Y1 - max g.Y0 r.Y0) else 0
theorem area_ind {r:Rect} (h:VR r) {M:Nat} (hM:M = 1048576):(r.X1 - r.X0) * (r.Y1 - r.Y0) = sumN (fun x=>sumN (fun y=>indP (rin r x y)) M) M:=by
  unfold rin
  rw [box_ind]
  unfold VR at h
  congr 1 <;> omega
theorem capA_ind {g r:Rect} (hg:VR g) (h:VR r) {M:Nat} (hM:M = 1048576):capA g r = sumN (fun x=>sumN (fun y=>indP (rin g x y∧rin r x y)) M) M:=by
  have e:sumN (fun x=>sumN (fun y=>indP (rin g x y∧rin r x y)) M) M = sumN (fun x=>sumN (fun y=>indP ((max g.X0 r.X0 ≤ (x:Int)∧(x:Int) < min g.X1 r.X1)∧max g.Y0 r.Y0 ≤ (y:Int)∧(y:Int) < min g.Y1 r.Y1)) M) M:=by
    refine sumN_congr fun x _=>sumN_congr fun y _=>indP_c ?_
    unfold rin; omega
  rw [e,box_ind]
  unfold capA comm
  unfold VR at hg h
  by_cases c1:max g.X0 r.X0 < min g.X1 r.X1
  · by_cases c2 : max g.Y0 r.Y0 < min g.Y1 r.Y1
    · rw [decide_eq_true c1, decide_eq_true c2, if_pos (show (true && true) = true from rfl)]
      congr 1 <;> omega
    · rw [decide_eq_false c2,Bool.and_false,if_neg (by simp),show max 0 (min (min g.Y1 r.Y1) (M:Int) - max (max g.Y0 r.Y0) 0) = 0 by omega,Int.mul_zero]
  · rw [decide_eq_false c1,Bool.false_and,if_neg (by simp),show max 0 (min (min g.X1 r.X1) (M:Int) - max (max g.X0 r.X0) 0) = 0 by omega,Int.zero_mul]
theorem capA_bound {g r:Rect} (hg:VR g):0 ≤ capA g r∧capA g r ≤ 1099511627776:=by
  unfold capA
  split
  · rename_i h
    unfold comm at h
    rw [Bool.and_eq_true,decide_eq_true_iff,decide_eq_true_iff] at h
    unfold VR at hg
    exact ⟨Int.mul_nonneg (by omega) (by omega),Int.mul_le_mul (c:=1048576) (d:=1048576) (by omega) (by omega) (by omega) (by omega)⟩
  · decide
noncomputable def inA (g:Rect) (M:Nat) (l:List Rect):Int:=sumN (fun x=>sumN (fun y=>indP (rin g x y∧cells l x y)) M) M
theorem inA_sum {g:Rect} (hg:VR g) {M:Nat} (hM:M = 1048576) : ∀ {l:List Rect},(∀ r ∈ l,VR r) → (l.Pairwise fun r s=>∀ x y,rin r x y → ¬ rin s x y) → sumL (capA g) l = inA g M l
  | [], _, _ => by
    symm
    exact sumN_z fun x _=>sumN_z fun y _=>indP_f (by simp [cells])
  | r :: l, hv, hp => by
    rw [List.pairwise_cons] at hp
    rw [sumL,inA_sum hg hM (fun s hs=>hv s (by simp [hs])) hp.2,capA_ind hg (hv r (by simp)) hM]
    unfold inA
    rw [← sumN_add]
    refine sumN_congr fun x _=>?_
    rw [← sumN_add]
    refine sumN_congr fun y _=>?_
    by_cases h1:rin g x y
    · by_cases h2 : rin r x y
      · have h3 : ¬ cells l x y := fun ⟨s, hs, h⟩ => hp.1 s hs x y h2 h
        rw [indP_t ⟨h1,h2⟩,indP_f (fun h=>h3 h.2),indP_t ⟨h1,r,by simp,h2⟩]; rfl
      · rw [indP_f (fun h => h2 h.2), Int.zero_add]
        refine indP_c (and_congr_right fun _=>⟨fun ⟨s,hs,h⟩=>⟨s,by simp [hs],h⟩,fun ⟨s,hs,h⟩=>?_⟩)
        rcases List.mem_cons.1 hs with rfl | hs
        · exact absurd h h2
        · exact ⟨s,hs,h⟩
    · rw [indP_f (fun h=>h1 h.1),indP_f (fun h=>h1 h.1),indP_f (fun h=>h1 h.1)]; rfl
theorem inA_full {g:Rect} {l:List Rect} {M:Nat} (hM:M = 1048576) (hg:VR g):inA g M l = (g.X1 - g.X0) * (g.Y1 - g.Y0) ↔ ∀ x y,rin g x y → cells l x y:=by
  have e:inA g M l + sumN (fun x=>sumN (fun y=>indP (rin g x y∧¬ cells l x y)) M) M = (g.X1 - g.X0) * (g.Y1 - g.Y0):=by
    rw [area_ind hg hM]
    unfold inA
    rw [← sumN_add]
    refine sumN_congr fun x _=>?_
    rw [← sumN_add]
    refine sumN_congr fun y _=>?_
    by_cases h1:rin g x y
    · by_cases h2 : cells l x y
      · rw [indP_t ⟨h1,h2⟩,indP_f (fun h=>h.2 h2),indP_t h1]; rfl
      · rw [indP_f (fun h=>h2 h.2),indP_t ⟨h1,h2⟩,indP_t h1]; rfl
    · rw [indP_f (fun h=>h1 h.1),indP_f (fun h=>h1 h.1),indP_f h1]; rfl
  rw [← e]
  constructor
  · intro h x y hxy
    have h0:sumN (fun x=>sumN (fun y=>indP (rin g x y∧¬ cells l x y)) M) M = 0:=by omega
    have hb:=hxy
    unfold rin at hb
    unfold VR at hg
    have h1:=sumN_zero_inv (fun x=>sumN_nonneg fun y _=>(indP_bounds _).1) h0 x.toNat (by omega)
    have h2:=sumN_zero_inv (fun y=>(indP_bounds _).1) h1 y.toNat (by omega)
    rw [Int.toNat_of_nonneg (by omega),Int.toNat_of_nonneg (by omega)] at h2
    by_cases h3:cells l x y
    · exact h3
    · rw [indP_t ⟨hxy,h3⟩] at h2; exact absurd h2 (by decide)
  · intro h
    rw [sumN_z fun x _=>sumN_z fun y _=>indP_f fun h'=>h'.2 (h _ _ h'.1),Int.add_zero]
/-- a rectangle with all cells within a distance -/
def grw (b:Rect) (n:Int):Rect:=⟨b.X0 - n,b.Y0 - n,b.X1 + n,b.Y1 + n⟩
/-- do all cells within a distance of a base lie in a region? -/
def SQ (a:List Rect) (b:Rect) (n:Int):Prop:=n ≤ 0 ∨ ∀ x y,rin (grw b n) x y → cells a x y
theorem SQ.anti {a:List Rect} {b:Rect} {m n:Int} (h:SQ a b n) (hm:m ≤ n):SQ a b m:=by
  rcases h with h | h
  · exact .inl (by omega)
  · refine .inr fun x y hxy => h x y ?_
    unfold rin grw at hxy ⊢
    dsimp only at hxy ⊢
    omega
theorem cells_grid {a:List Rect} (ha : ∀ r ∈ a,VR r) {x y:Int} (h:cells a x y):(0 ≤ x∧x < 1048576)∧0 ≤ y∧y < 1048576:=by
  obtain ⟨r,hr,h⟩:=h
  have:=ha r hr
  unfold VR at this
  unfold rin at h
  omega
theorem SQ_VR {a:List Rect} (ha : ∀ r ∈ a,VR r) {b:Rect} (hb:VR b) {n:Int} (hn:0 < n) (h:SQ a b n):VR (grw b n):=by
  rcases h with h | h
  · omega
  · unfold VR at hb
    have h1:=cells_grid ha (h (b.X0 - n) (b.Y0 - n) (by unfold rin grw; dsimp only; omega))
    have h2:=cells_grid ha (h (b.X1 + n - 1) (b.Y1 + n - 1) (by unfold rin grw; dsimp only; omega))
    unfold VR grw
    dsimp only
    omega
/-- The setback of bases in a region. -/
structure SB (a:List Rect) (l:List Rect) (B:Int):Prop where
  lo:0 ≤ B
  hi:B ≤ 1048576
  iff : ∀ n,0 ≤ n → n ≤ 1048576 → (n ≤ B ↔ ∀ b ∈ l,SQ a b n)
theorem SB.unique {a l m:List Rect} {B C:Int} (h:SB a l B) (g:SB a m C) (he : ∀ b,b ∈ l ↔ b ∈ m):B = C:=by
  have h1:=(g.iff B h.lo h.hi).2 fun b hb=>(h.iff B h.lo h.hi).1 (Int.le_refl _) b ((he b).2 hb)
  have h2:=(h.iff C g.lo g.hi).2 fun b hb=>(g.iff C g.lo g.hi).1 (Int.le_refl _) b ((he b).1 hb)
  omega
theorem SB.min {a l m:List Rect} {B C:Int} (h:SB a l B) (g:SB a m C):SB a (l ++ m) (min B C):=
  ⟨by have := h.lo; have := g.lo; omega, by have := h.hi; omega, fun n h0 h1 => by
    have e1:=h.iff n h0 h1
    have e2:=g.iff n h0 h1
    constructor
    · intro hn b hb
      rcases List.mem_append.1 hb with hb | hb
      · exact e1.1 (by omega) b hb
      · exact e2.1 (by omega) b hb
    · intro hq
      have:=e1.2 fun b hb=>hq b (by simp [hb])
      have:=e2.2 fun b hb=>hq b (by simp [hb])
      omega⟩
theorem SB_nil (a:List Rect):SB a [] 1048576:=⟨by decide,by decide,fun n _ h=>⟨fun _ _ hb=>by simp at hb,fun _=>h⟩⟩
theorem covM_eq {l out:List Rect} (hv : ∀ r ∈ out,VR r) (h:IsForm (cells l) out) {M:Nat} (hM:M = 1048576):covM l M = areaL out:=by
  classical
  rw [area_form h (M:=M) (fun r hr=>by have:=hv r hr; unfold VR at this; omega)]
  refine sumN_congr fun x _=>sumN_congr fun y _=>?_
  by_cases c:cells l x y
  · rw [indP_t ⟨by omega,c⟩,decide_eq_true c]; rfl
  · rw [indP_f (fun h=>c h.2),decide_eq_false c]; rfl
theorem VR_form {l out:List Rect} (hv : ∀ r ∈ l,VR r) (h:IsForm (cells l) out) : ∀ r ∈ out,VR r:=by
  intro r hr
  have h0:=form_rect h r hr
  have h1:=cells_grid hv ((h.cells r.X0 r.Y0).1 ⟨r,hr,by unfold rin; omega⟩)
  have h2:=cells_grid hv ((h.cells (r.X1 - 1) (r.Y1 - 1)).1 ⟨r,hr,by unfold rin; omega⟩)
  unfold VR
  omega
end Go.Proofs.YtagkmlkhaekldaaGreat

namespace Go.Proofs.YtagkmlkhaekldaaGreat
open Go.Gb
set_option linter.unusedVariables false
set_option linter.unusedSimpArgs false
set_option linter.unusedSectionVars false
set_option linter.unusedVariables false
set_option linter.unusedSimpArgs false
set_option maxRecDepth 100000

def RV (v:Volume):Prop:=VR v.Box.Base∧0 ≤ v.Box.Z0∧v.Box.Z0 < v.Box.Z1∧v.Box.Z1 ≤ 4096∧0 ≤ v.Use∧v.Use ≤ 5∧0 ≤ v.Units∧v.Units ≤ 1048576∧(v.Units = 0 ∨ v.Use = 0)
instance (v:Volume):Decidable (RV v):=inferInstanceAs (Decidable (_∧_))
theorem RV.VB {v:Volume} (h:RV v):VB v.Box:=⟨h.1,h.2.1,h.2.2.1,h.2.2.2.1⟩
theorem rv_eq (v:Volume):drawing_RightVolume v = some (decide (RV v)):=by
  unfold drawing_RightVolume
  rw [rect_Right_eq,Option.bind_some]
  split
  · rename_i h
    congr 1; symm; rw [decide_eq_false_iff_not]; intro hr; unfold RV at hr
    simp [hr.1] at h; omega
  · rename_i h
    simp at h
    split
    · rename_i g
      congr 1; symm; rw [decide_eq_false_iff_not]; intro hr; unfold RV at hr
      simp at g; omega
    · rename_i g
      congr 1
      rw [Bool.eq_iff_iff]
      simp at g
      simp only [Bool.and_eq_true,decide_eq_true_eq]
      unfold RV
      constructor
      · intro hh
        exact ⟨h.1.1.1,by omega,by omega,by omega,by omega,by omega,by omega,by omega,by omega⟩
      · intro hh; omega
def allV (d:Drawing):List Volume:=d.Phases.flatMap (·.Volumes)
theorem flat_take_le {l:List Phase} (i:Nat):((l.take i).flatMap (·.Volumes)).length ≤ (l.flatMap (·.Volumes)).length:=by
  conv=>rhs; rw [← List.take_append_drop i l]
  rw [List.flatMap_append,List.length_append]; omega
theorem volumesM {d:Drawing} (hp:d.Phases.length ≤ 100000) (hl:(allV d).length ≤ 1000000) {n:Int} (hn:(d.Phases.length:Int) ≤ n):drawing_Volumes d 0 n = some (allV d):=by
  obtain ⟨f,h1,h2,h3⟩:=loop_up (body:=drawing_Volumes_L0 d 0 n) (fun i s=>s.2 = ((i:Nat):Int)∧s.1 = (d.Phases.take i).flatMap (·.Volumes)) d.Phases.length
    (fun f=>match f with | .ex _ s=>s.1 = allV d | _=>False) (fun i s hi ⟨hs,hI⟩=>by
      have hb:=flat_take_le (l:=d.Phases) (i + 1)
      have e:(d.Phases.take (i + 1)).flatMap (·.Volumes) = s.1 ++ d.Phases[i].Volumes:=by
        rw [List.take_succ_eq_append_getElem hi,List.flatMap_append,hI]; simp
      rw [e,List.length_append] at hb
      unfold allV at hl
      unfold drawing_Volumes_L0
      rw [hs,if_pos (by simpa using hi),getI_nat hi,Option.bind_some,if_pos (by simp; omega),appI_some (by omega),Option.bind_some,Option.bind_some,addI_one (by omega),Option.bind_some]
      exact .inl ⟨_,rfl,rfl,e.symm⟩) (fun s ⟨hs,hI⟩=>by
      unfold drawing_Volumes_L0
      rw [hs,if_neg (by simp)]
      rw [List.take_length] at hI
      exact ⟨_,rfl,trivial,hI⟩) ([],0) ⟨rfl,by simp⟩ (d.Phases.length + 1) (by omega)
  unfold drawing_Volumes
  rw [h1,Option.bind_some]
  cases f with
  | go _=>exact h2.elim
  | ret r=>exact h3.elim
  | ex _ s=>dsimp only at h3 ⊢; rw [h3]
theorem inter_eq {a b:Rect} (ha:VR a) (hb:VR b) : ∃ c,rect_Intersect a b = some (c,comm a b)∧(comm a b = true → VR c∧(c.X1 - c.X0) * (c.Y1 - c.Y0) = capA a b):=by
  unfold rect_Intersect
  rw [rect_Right_eq,Option.bind_some,decide_eq_true ha,if_neg (by simp),rect_Right_eq,Option.bind_some,decide_eq_true hb,Option.bind_some,if_neg (by simp),rect_checked_eq]
  by_cases h:VR ⟨max a.X0 b.X0,max a.Y0 b.Y0,min a.X1 b.X1,min a.Y1 b.Y1⟩
  · have hc : comm a b = true := by
      unfold VR at h
      unfold comm
      rw [Bool.and_eq_true,decide_eq_true_iff,decide_eq_true_iff]
      dsimp only at h
      omega
    rw [if_pos h,Option.bind_some]
    dsimp only
    refine ⟨_,by rw [hc],fun _=>⟨h,?_⟩⟩
    unfold capA
    rw [if_pos hc]
  · have hc : comm a b = false := by
      cases hc:comm a b
      · rfl
      · exfalso
        apply h
        unfold comm at hc
        rw [Bool.and_eq_true,decide_eq_true_iff,decide_eq_true_iff] at hc
        unfold VR at ha hb ⊢
        dsimp only
        omega
    rw [if_neg h,Option.bind_some]
    exact ⟨_,by rw [hc],fun h=>by rw [hc] at h; simp at h⟩
theorem grown_eq {b:Rect} (hb:VR b) {n:Int} (h0:0 ≤ n) (h1:n ≤ 1048576):measure_grown b n = some (grw b n,decide (VR (grw b n))):=by
  unfold measure_grown
  unfold VR at hb
  rw [subI_some (by unfold inI; omega),Option.bind_some,subI_some (by unfold inI; omega),Option.bind_some,addI_some (by unfold inI; omega),Option.bind_some,addI_some (by unfold inI; omega),Option.bind_some,rect_Right_eq]
  rfl
theorem inside_eq {s:MeasureSite} (ha:RR s.area) {b:Rect} (hb:VR b) {n:Int} (h0:0 < n) (h1:n ≤ 1048576) : ∃ c,measure_site_inside s b n = some c∧(c = true ↔ SQ s.area b n):=by
  unfold measure_site_inside
  rw [grown_eq hb (by omega) h1,Option.bind_some]
  dsimp only
  by_cases hg:VR (grw b n)
  · rw [decide_eq_true hg, if_neg (by simp)]
    have hl:=ha.2.1
    obtain ⟨f,k1,k2,k3⟩:=loop_up (body:=measure_site_inside_L0 s (grw b n,true)) (fun i t=>t.2 = ((i:Nat):Int)∧t.1 = sumL (capA (grw b n)) (s.area.take i)) s.area.length
      (fun f=>match f with | .ex _ t=>t.1 = sumL (capA (grw b n)) s.area | _=>False) (fun i t hi ⟨e,h⟩=>by
        have hv:=ha.1 _ (List.getElem_mem hi)
        obtain ⟨c,hc,hcc⟩:=inter_eq hg hv
        have hcb:=capA_bound (r:=s.area[i]) hg
        have hs1:=sumL_prefix (f:=capA (grw b n)) (l:=s.area) (fun x _=>(capA_bound hg).1) i
        have hs2:sumL (capA (grw b n)) (s.area.take i) ≤ 1099511627776 * i:=by
          have : ∀ (l:List Rect),sumL (capA (grw b n)) l ≤ 1099511627776 * l.length:=by
            intro l
            induction l with
            | nil=>simp [sumL]
            | cons r l ih=>rw [sumL,List.length_cons]; have:=(capA_bound (r:=r) hg).2; omega
          have h2:=this (s.area.take i)
          rw [List.length_take] at h2
          omega
        unfold measure_site_inside_L0
        rw [e,if_pos (by simpa using hi),getI_nat hi,Option.bind_some]
        dsimp only
        rw [hc,Option.bind_some]
        dsimp only
        have key:(if comm (grw b n) s.area[i] = true then (rect_Area c).bind fun x=>(addI t.1 x).bind fun y=>some y else some t.1) = some (sumL (capA (grw b n)) (s.area.take (i + 1))):=by
          rw [sumL_snoc hi]
          by_cases hm:comm (grw b n) s.area[i] = true
          · obtain ⟨q1, q2⟩ := hcc hm
            rw [if_pos hm,rect_Area_eq q1,Option.bind_some,q2,addI_some (by unfold inI; omega),Option.bind_some,h]
          · have : capA (grw b n) s.area[i] = 0 := by unfold capA; rw [if_neg hm]
            rw [if_neg hm,this,Int.add_zero,h]
        rw [key,Option.bind_some,addI_one (by omega)]
        exact .inl ⟨_,rfl,rfl,rfl⟩) (fun t ⟨e,h⟩=>by
        unfold measure_site_inside_L0
        rw [e,if_neg (by simp)]
        rw [List.take_length] at h
        exact ⟨_,rfl,trivial,h⟩) (0,0) ⟨rfl,rfl⟩ (s.area.length + 1) (by omega)
    rw [k1,Option.bind_some]
    cases f with
    | go _=>exact k2.elim
    | ret r=>exact k3.elim
    | ex _ t =>
      dsimp only at k3 ⊢
      rw [rect_Area_eq hg,Option.bind_some,k3]
      refine ⟨_,rfl,?_⟩
      rw [inA_sum hg rfl ha.1 (form_disj ha.2.2),beq_iff_eq,inA_full rfl hg]
      unfold SQ
      constructor
      · intro h; exact .inr h
      · rintro (h | h)
        · omega
        · exact h
  · rw [decide_eq_false hg, if_pos (by simp)]
    exact ⟨_,rfl,by simp; exact fun h=>hg (SQ_VR ha.1 hb h0 h)⟩
theorem quoI_pos {n m:Int} (h0:0 ≤ n) (hm:0 < m) (h:n ≤ 9223372036854775807):quoI n m = some (n / m):=by
  unfold quoI
  have e:n.tdiv m = n / m:=Int.tdiv_eq_ediv_of_nonneg h0
  have h1:0 ≤ n / m:=Int.ediv_nonneg h0 (by omega)
  have h2:n / m ≤ n:=Int.ediv_le_self m h0
  rw [e,if_pos ⟨by omega,by unfold inI; omega⟩]
theorem bs_loop {s:MeasureSite} (ha:RR s.area) {v:Volume} (hv:VR v.Box.Base) : ∀ (k:Nat) (lo hi:Int),0 ≤ lo → lo ≤ hi → hi ≤ 1048576 → hi - lo < ((2 ^ k:Nat):Int) → SQ s.area v.Box.Base lo →
    ∃ r,iterL (measure_site_setback_L1 s v) (k + 1) (lo,hi) = some (.ex 2 (r,r))∧lo ≤ r∧r ≤ hi∧SQ s.area v.Box.Base r∧∀ n,SQ s.area v.Box.Base n → n ≤ hi → n ≤ r
  | k, lo, hi, h0, h1, h2, h3, hq => by
    unfold iterL
    unfold measure_site_setback_L1
    by_cases c:lo < hi
    · rw [if_pos (by simpa using c)]
      dsimp only
      rw [addI_some (by unfold inI; omega),Option.bind_some,addI_some (by unfold inI; omega),Option.bind_some,quoI_pos (by omega) (by omega) (by omega),Option.bind_some]
      obtain ⟨b,hb,hbq⟩:=inside_eq ha hv (n:=(lo + hi + 1) / 2) (by omega) (by omega)
      rw [hb,Option.bind_some]
      have hk:0 < k:=by
        rcases Nat.eq_zero_or_pos k with rfl | h
        · simp at h3; omega
        · exact h
      obtain ⟨j,rfl⟩ : ∃ j,k = j + 1:=⟨k - 1,by omega⟩
      have hp:((2 ^ (j + 1):Nat):Int) = 2 * ((2 ^ j:Nat):Int):=by rw [Nat.pow_succ]; omega
      cases b with
      | true =>
        rw [if_pos rfl,Option.bind_some]
        dsimp only
        obtain ⟨r,g1,g2,g3,g4,g5⟩:=bs_loop ha hv j ((lo + hi + 1) / 2) hi (by omega) (by omega) h2 (by omega) (hbq.1 rfl)
        exact ⟨r,g1,by omega,g3,g4,g5⟩
      | false =>
        rw [if_neg (by simp),subI_some (by unfold inI; omega),Option.bind_some,Option.bind_some]
        dsimp only
        obtain ⟨r,g1,g2,g3,g4,g5⟩:=bs_loop ha hv j lo ((lo + hi + 1) / 2 - 1) h0 (by omega) (by omega) (by omega) hq
        refine ⟨r,g1,g2,by omega,g4,fun n hn hh=>?_⟩
        by_cases hc:(lo + hi + 1) / 2 ≤ n
        · exact absurd (hbq.2 (hn.anti hc)) (by simp)
        · exact g5 n hn (by omega)
    · rw [if_neg (by simpa using c)]
      have:lo = hi:=by omega
      subst this
      exact ⟨lo,rfl,Int.le_refl _,Int.le_refl _,hq,fun n _ h=>h⟩
theorem setback_eq {s:MeasureSite} (ha:RR s.area) (hv : ∀ v ∈ s.volumes,VR v.Box.Base) (hl:s.volumes.length ≤ 1000) : ∃ B,measure_site_setback s = some B∧SB s.area (s.volumes.map fun v=>v.Box.Base) B:=by
  obtain ⟨f,k1,k2,k3⟩:=loop_up (body:=measure_site_setback_L0 s) (fun i t=>t.2 = ((i:Nat):Int)∧SB s.area ((s.volumes.take i).map fun v=>v.Box.Base) t.1) s.volumes.length
    (fun f=>match f with | .ex _ t=>SB s.area (s.volumes.map fun v=>v.Box.Base) t.1 | _=>False) (fun i t hi ⟨e,h⟩=>by
      have hvi:=hv _ (List.getElem_mem hi)
      obtain ⟨r,g1,g2,g3,g4,g5⟩:=bs_loop ha hvi 24 0 t.1 (by omega) h.lo h.hi (by have:=h.hi; simp; omega) (.inl (by omega))
      unfold measure_site_setback_L0
      rw [e,if_pos (by simpa using hi),getI_nat hi,Option.bind_some,g1,Option.bind_some]
      dsimp only
      rw [addI_one (by omega)]
      refine .inl ⟨_,rfl,rfl,g2,by have:=h.hi; dsimp only; omega,fun n n0 n1=>?_⟩
      dsimp only
      rw [List.take_succ_eq_append_getElem hi,List.map_append]
      constructor
      · intro hn b hb
        rcases List.mem_append.1 hb with hb | hb
        · exact (h.iff n n0 n1).1 (by omega) b hb
        · simp at hb; subst hb; exact g4.anti hn
      · intro hq
        have h1:=(h.iff n n0 n1).2 fun b hb=>hq b (List.mem_append_left _ hb)
        exact g5 n (hq _ (by simp)) h1) (fun t ⟨e,h⟩=>by
      unfold measure_site_setback_L0
      rw [e,if_neg (by simp)]
      rw [List.take_length] at h
      exact ⟨_,rfl,trivial,h⟩) (1048576,0) ⟨rfl,SB_nil _⟩ (s.volumes.length + 1) (by omega)
  unfold measure_site_setback
  rw [k1,Option.bind_some]
  cases f with
  | go _=>exact k2.elim
  | ret r=>exact k3.elim
  | ex _ t=>exact ⟨_,rfl,k3⟩
theorem site_sum {s:MeasureSite} {f:Volume → Option Int} {g:Volume → Int} (hl:s.volumes.length ≤ 1000) (hf : ∀ v ∈ s.volumes,f v = some (g v)∧0 ≤ g v∧g v ≤ 4503599627370496):measure_site_sum s f = some (sumL g s.volumes):=by
  obtain ⟨f', k1, k2, k3⟩ := loop_up (body := measure_site_sum_L0 s f) (fun i t => t.2 = ((i : Nat) : Int) ∧ t.1 = sumL g (s.volumes.take i) ∧ 0 ≤ t.1 ∧ t.1 ≤ 4503599627370496 * i) s.volumes.length
    (fun f=>match f with | .ex _ t=>t.1 = sumL g s.volumes | _=>False) (fun i t hi ⟨e,h,hb0,hb⟩=>by
      obtain ⟨e1,e2,e3⟩:=hf _ (List.getElem_mem hi)
      unfold measure_site_sum_L0
      rw [e,if_pos (by simpa using hi),getI_nat hi,Option.bind_some,e1,Option.bind_some,addI_some (by unfold inI; omega),Option.bind_some,addI_one (by omega)]
      refine .inl ⟨_,rfl,rfl,?_,by dsimp only; omega,by dsimp only; omega⟩
      dsimp only
      rw [sumL_snoc hi,h]) (fun t ⟨e,h,_⟩=>by
      unfold measure_site_sum_L0
      rw [e,if_neg (by simp)]
      rw [List.take_length] at h
      exact ⟨_,rfl,trivial,h⟩) (0,0) ⟨rfl,rfl,by simp,by simp⟩ (s.volumes.length + 1) (by omega)
  unfold measure_site_sum
  rw [k1,Option.bind_some]
  cases f' with
  | go _=>exact k2.elim
  | ret r=>exact k3.elim
  | ex _ t=>dsimp only at k3 ⊢; rw [k3]
def maxL {α:Type} (g:α → Int):List α → Int
  | []=>0
  | x::l=>max (g x) (maxL g l)
theorem maxL_append {α:Type} (g:α → Int) : ∀ (l m:List α),maxL g (l ++ m) = max (maxL g l) (maxL g m)
  | [], m => by
    have:0 ≤ maxL g m:=by
      cases m with
      | nil=>exact Int.le_refl _
      | cons x m =>
        have : ∀ l:List α,0 ≤ maxL g l:=by
          intro l; induction l with
          | nil=>exact Int.le_refl _
          | cons y l ih=>rw [maxL]; omega
        exact this _
    rw [List.nil_append]; simp only [maxL]; omega
  | x::l,m=>by rw [List.cons_append,maxL,maxL_append g l m,maxL]; omega
theorem maxL_nonneg {α:Type} (g:α → Int) (l:List α):0 ≤ maxL g l:=by
  induction l with
  | nil=>exact Int.le_refl _
  | cons y l ih=>rw [maxL]; omega
theorem site_greatest {s:MeasureSite} {f:Volume → Option Int} {g:Volume → Int} (hl:s.volumes.length ≤ 1000) (hf : ∀ v ∈ s.volumes,f v = some (g v)):measure_site_greatest s f = some (maxL g s.volumes):=by
  obtain ⟨f', k1, k2, k3⟩ := loop_up (body := measure_site_greatest_L0 s f) (fun i t => t.2 = ((i : Nat) : Int) ∧ t.1 = maxL g (s.volumes.take i)) s.volumes.length
    (fun f=>match f with | .ex _ t=>t.1 = maxL g s.volumes | _=>False) (fun i t hi ⟨e,h⟩=>by
      have e1:=hf _ (List.getElem_mem hi)
      unfold measure_site_greatest_L0
      rw [e,if_pos (by simpa using hi),getI_nat hi,Option.bind_some,e1,Option.bind_some,addI_one (by omega)]
      refine .inl ⟨_,rfl,rfl,?_⟩
      dsimp only
      have:=maxL_nonneg g (s.volumes.take i)
      rw [List.take_succ_eq_append_getElem hi,maxL_append,h]
      simp only [maxL]
      omega) (fun t ⟨e,h⟩=>by
      unfold measure_site_greatest_L0
      rw [e,if_neg (by simp)]
      rw [List.take_length] at h
      exact ⟨_,rfl,trivial,h⟩) (0,0) ⟨rfl,rfl⟩ (s.volumes.length + 1) (by omega)
  unfold measure_site_greatest
  rw [k1,Option.bind_some]
  cases f' with
  | go _=>exact k2.elim
  | ret r=>exact k3.elim
  | ex _ t=>dsimp only at k3 ⊢; rw [k3]
end Go.Proofs.YtagkmlkhaekldaaGreat

namespace Go.Proofs.YtagkmlkhaekldaaGreat
open Go.Gb
set_option linter.unusedVariables false
set_option linter.unusedSimpArgs false
set_option linter.unusedSectionVars false
set_option linter.unusedVariables false
set_option linter.unusedSimpArgs false
set_option maxRecDepth 100000

def swpS (x w:Int) (b:Rect) (s:Int × Int):Int × Int:=if (b.X0 ≤ x∧x < b.X1)∧s.2 < b.Y1 then (s.1 + w * (b.Y1 - max s.2 b.Y0),b.Y1) else s
theorem swp_snoc (x w:Int) (b:Rect) : ∀ (l:List Rect) (s:Int × Int),swp x w (l ++ [b]) s = swpS x w b (swp x w l s)
  | [],s=>rfl
  | c :: l, s => by
    rw [List.cons_append]
    unfold swp
    exact swp_snoc x w b l _
theorem swp_y (x w:Int) : ∀ (l:List Rect) (s:Int × Int),(∀ r ∈ l,VR r) → 0 ≤ s.2 → s.2 ≤ 1048576 → 0 ≤ (swp x w l s).2∧(swp x w l s).2 ≤ 1048576
  | [],s,_,h0,h1=>⟨h0,h1⟩
  | b :: l, s, hv, h0, h1 => by
    unfold swp
    have hb:=hv b (by simp)
    unfold VR at hb
    split
    · exact swp_y x w l _ (fun r hr=>hv r (by simp [hr])) (by dsimp only; omega) (by dsimp only; omega)
    · exact swp_y x w l _ (fun r hr=>hv r (by simp [hr])) h0 h1
theorem mul_bd {a b:Int} (h0:0 ≤ a) (h1:a ≤ 1048576) (g0:0 ≤ b) (g1:b ≤ 1048576):0 ≤ a * b∧a * b ≤ 1099511627776:=
  ⟨Int.mul_nonneg h0 g0,Int.mul_le_mul (c:=1048576) (d:=1048576) h1 g1 g0 (by decide)⟩
theorem cover_L2 {bs:List Rect} {xs:List Int} {n:Int} {m:Nat} (hbv : ∀ r ∈ bs,VR r) (hs:bs.Pairwise fun a b=>a.Y0 ≤ b.Y0) (hb:bs.length ≤ 1000) (hm:m + 1 < xs.length) (hx : ∀ x ∈ xs,0 ≤ x∧x ≤ 1048576)
    (hle:(xs[m]'(by omega)) ≤ xs[m + 1]) (hml:m ≤ 100000) (hn:0 ≤ n∧n ≤ 109951162777600000) :
    ∃ t,iterL (measure_site_cover_L2 bs xs (n,(m:Int))) (bs.length + 1) (n,0,0) = some (.ex 4 t)∧t.1 = n + (xs[m + 1] - (xs[m]'(by omega))) * colM bs 1048576 (xs[m]'(by omega)) 0:=by
  generalize hM:(1048576:Nat) = M
  have hx0:=hx _ (List.getElem_mem (show m < xs.length by omega))
  have hx1:=hx _ (List.getElem_mem hm)
  have gm:=getI_nat (l:=xs) (show m < xs.length by omega)
  have gm1:=getI_nat (l:=xs) hm
  generalize (xs[m]'(by omega)) = x at *
  generalize xs[m + 1] = z at *
  obtain ⟨f,k1,k2,k3⟩:=loop_up (body:=measure_site_cover_L2 bs xs (n,(m:Int))) (fun j t=>t.2.2 = ((j:Nat):Int)∧(t.1,t.2.1) = swp x (z - x) (bs.take j) (n,0)) bs.length
    (fun f=>match f with | .ex i t=>i = 4∧t.1 = n + (z - x) * colM bs M x 0 | _=>False) (fun j t hj ⟨e,h⟩=>by
      obtain ⟨t1,t2,t3⟩:=t
      dsimp only at e h
      subst e
      have hvj:=hbv _ (List.getElem_mem hj)
      have hvt : ∀ r ∈ bs.take j,VR r:=fun r hr=>hbv r (List.mem_of_mem_take hr)
      have hsp:=swp_spec (x:=x) (w:=z - x) hM.symm hvt (hs.sublist (List.take_sublist j bs)) (s:=(n,0)) (Int.le_refl _)
      have hy:=swp_y x (z - x) (bs.take j) (n,0) hvt (by dsimp only; omega) (by dsimp only; omega)
      rw [← h] at hsp hy
      dsimp only at hsp hy
      have hcb:=colM_bounds (bs.take j) M x 0
      have hpb:=mul_bd (a:=z - x) (b:=colM (bs.take j) M x 0) (by omega) (by omega) hcb.1 (by omega)
      have hv:=hvj
      unfold VR at hv
      have e2:swp x (z - x) (bs.take (j + 1)) (n,0) = swpS x (z - x) bs[j] (t1,t2):=by rw [List.take_succ_eq_append_getElem hj,swp_snoc,← h]
      unfold measure_site_cover_L2
      dsimp only
      rw [if_pos (by simpa using hj),getI_nat hj,Option.bind_some,gm,Option.bind_some]
      have q1:(if (decide (bs[j].X0 ≤ x)) = true then (some x).bind fun y=>some (decide (y < bs[j].X1)) else some false) = some (decide (bs[j].X0 ≤ x∧x < bs[j].X1)):=by
        by_cases c:bs[j].X0 ≤ x <;> simp [c]
      rw [q1,Option.bind_some]
      by_cases c:(bs[j].X0 ≤ x∧x < bs[j].X1)∧t2 < bs[j].Y1
      · have hpw := mul_bd (a := z - x) (b := bs[j].Y1 - max t2 bs[j].Y0) (by omega) (by omega) (by omega) (by omega)
        rw [if_pos (by simp only [Bool.and_eq_true,decide_eq_true_eq]; exact c),addI_one (by omega),Option.bind_some,gm1,Option.bind_some,Option.bind_some,subI_some (by unfold inI; omega),Option.bind_some,subI_some (by unfold inI; omega),Option.bind_some,mulI_some (by unfold inI; omega),Option.bind_some,addI_some (by unfold inI; omega),Option.bind_some,Option.bind_some,addI_one (by omega)]
        refine .inl ⟨_,rfl,rfl,?_⟩
        rw [e2]
        unfold swpS
        rw [if_pos c]
      · rw [if_neg (by simp only [Bool.and_eq_true, decide_eq_true_eq]; exact c), Option.bind_some, addI_one (by omega)]
        refine .inl ⟨_,rfl,rfl,?_⟩
        rw [e2]
        unfold swpS
        rw [if_neg c]) (fun t ⟨e,h⟩=>by
      obtain ⟨t1,t2,t3⟩:=t
      dsimp only at e h
      subst e
      unfold measure_site_cover_L2
      dsimp only
      rw [if_neg (by simp)]
      rw [List.take_length] at h
      have hsp:=swp_spec (x:=x) (w:=z - x) hM.symm hbv hs (s:=(n,0)) (Int.le_refl _)
      rw [← h] at hsp
      exact ⟨_,rfl,trivial,rfl,hsp⟩) (n,0,0) ⟨rfl,rfl⟩ (bs.length + 1) (by omega)
  cases f with
  | go _=>exact k2.elim
  | ret r=>exact k3.elim
  | ex i t=>obtain ⟨rfl,k3⟩:=k3; exact ⟨t,k1,k3⟩
theorem strips_snoc2 (l:List Rect) (M:Nat) (a b:Int) : ∀ t:List Int,strips l M (t ++ [a,b]) = strips l M (t ++ [a]) + (b - a) * colM l M a 0
  | []=>by show (b - a) * colM l M a 0 + 0 = 0 + _; omega
  | [c]=>by show (a - c) * colM l M c 0 + ((b - a) * colM l M a 0 + 0) = (a - c) * colM l M c 0 + 0 + (b - a) * colM l M a 0; omega
  | c :: d :: t => by
    have ih:=strips_snoc2 l M a b (d::t)
    show (d - c) * colM l M c 0 + strips l M (d::t ++ [a,b]) = (d - c) * colM l M c 0 + strips l M (d::t ++ [a]) + _
    rw [ih]; omega
theorem strips_take {l:List Rect} {M:Nat} {xs:List Int} {m:Nat} (h:m + 1 < xs.length):strips l M (xs.take (m + 2)) = strips l M (xs.take (m + 1)) + (xs[m + 1] - (xs[m]'(by omega))) * colM l M (xs[m]'(by omega)) 0:=by
  rw [List.take_succ_eq_append_getElem (i:=m + 1) h,List.take_succ_eq_append_getElem (i:=m) (by omega),List.append_assoc]
  exact strips_snoc2 l M _ _ _
def ends2 (l:List Rect):List Int:=l.flatMap fun r=>[r.X0,r.X1]
theorem ends2_len (l:List Rect):(ends2 l).length = 2 * l.length:=by
  unfold ends2
  induction l with
  | nil=>rfl
  | cons r l ih=>rw [List.flatMap_cons,List.length_append,ih,List.length_cons]; simp; omega
theorem cover_L0 {s:MeasureSite} (hl:s.volumes.length ≤ 1000) : ∃ i,iterL (measure_site_cover_L0 s) (s.volumes.length + 1) (([]:List Int),List.replicate s.volumes.length (⟨0,0,0,0⟩:Rect),0) = some (.ex 0 (ends2 (s.volumes.map fun v=>v.Box.Base),s.volumes.map (fun v=>v.Box.Base),i)):=by
  obtain ⟨f,k1,k2,k3⟩:=loop_up (body:=measure_site_cover_L0 s) (fun i t=>t.2.2 = ((i:Nat):Int)∧t.2.1.length = s.volumes.length∧t.2.1.take i = (s.volumes.take i).map (fun v=>v.Box.Base)∧t.1 = ends2 ((s.volumes.take i).map fun v=>v.Box.Base)) s.volumes.length
    (fun f=>match f with | .ex j t=>j = 0∧t.1 = ends2 (s.volumes.map fun v=>v.Box.Base)∧t.2.1 = s.volumes.map (fun v=>v.Box.Base) | _=>False) (fun i t hi ⟨e,h1,h2,h3⟩=>by
      obtain ⟨t1,t2,t3⟩:=t
      dsimp only at e h1 h2 h3
      subst e
      have hi2:i < t2.length:=by omega
      have hset:i < (t2.set i s.volumes[i].Box.Base).length:=by rw [List.length_set]; exact hi2
      have hg:getI (t2.set i s.volumes[i].Box.Base) (i:Int) = some s.volumes[i].Box.Base:=by
        rw [getI_nat hset,List.getElem_set_self]
      have hlen:t1.length ≤ 2000:=by rw [h3,ends2_len,List.length_map,List.length_take]; omega
      unfold measure_site_cover_L0
      dsimp only
      rw [if_pos (by simpa using hi),getI_nat hi,Option.bind_some,getI_nat hi2,Option.bind_some,Option.bind_some,Int.toNat_natCast,hg,Option.bind_some,Option.bind_some,appI_some (by simp; omega),Option.bind_some,addI_one (by omega)]
      refine .inl ⟨_,rfl,rfl,by dsimp only; rw [List.length_set]; exact h1,?_,?_⟩
      · dsimp only
        rw [List.take_succ_eq_append_getElem hset,List.getElem_set_self,List.take_set_of_le (Nat.le_refl _),h2,List.take_succ_eq_append_getElem hi,List.map_append]
        rfl
      · dsimp only
        rw [List.take_succ_eq_append_getElem hi,List.map_append]
        unfold ends2
        rw [List.flatMap_append,h3]
        rfl) (fun t ⟨e,h1,h2,h3⟩=>by
      unfold measure_site_cover_L0
      rw [e,if_neg (by simp)]
      rw [List.take_length] at h2 h3
      rw [← h1,List.take_length] at h2
      exact ⟨_,rfl,trivial,rfl,h3,h2⟩) ([],List.replicate s.volumes.length ⟨0,0,0,0⟩,0) ⟨rfl,by simp,by simp,rfl⟩ (s.volumes.length + 1) (by omega)
  rw [k1]
  cases f with
  | go _=>exact k2.elim
  | ret r=>exact k3.elim
  | ex j t =>
    obtain ⟨rfl,h1,h2⟩:=k3
    obtain ⟨t1,t2,t3⟩:=t
    dsimp only at h1 h2
    subst h1 h2
    exact ⟨_,rfl⟩
theorem cover_eq {s:MeasureSite} (hv : ∀ v ∈ s.volumes,VR v.Box.Base) (hl:s.volumes.length ≤ 1000):measure_site_cover s = some (covM (s.volumes.map fun v=>v.Box.Base) 1048576):=by
  unfold measure_site_cover
  obtain ⟨i0,h0⟩:=cover_L0 hl
  rw [makeI_some (by omega),Option.bind_some,h0,Option.bind_some]
  dsimp only
  have hbl:(s.volumes.map fun v=>v.Box.Base).length ≤ 1000:=by rw [List.length_map]; exact hl
  have hbv : ∀ r ∈ s.volumes.map (fun v => v.Box.Base), VR r := fun r hr => by obtain ⟨v, hv', rfl⟩ := List.mem_map.1 hr; exact hv v hv'
  generalize s.volumes.map (fun v=>v.Box.Base) = B at hbl hbv
  obtain ⟨bs,b1,b2,b3⟩:=sortRects_spec (l:=B) (by omega)
  obtain ⟨xs,x1,x2,x3⟩:=sortInts_spec (l:=ends2 B) (by rw [ends2_len]; omega)
  rw [b1,Option.bind_some,x1,Option.bind_some]
  have hxl:xs.length ≤ 2000:=by rw [x2.length_eq,ends2_len]; omega
  have hmem : ∀ x,x ∈ xs ↔ ∃ r ∈ B,x = r.X0 ∨ x = r.X1:=fun x=>by rw [x2.mem_iff]; unfold ends2; simp
  have hx : ∀ x ∈ xs,0 ≤ x∧x ≤ 1048576:=fun x h=>by
    obtain ⟨r,hr,h⟩:=(hmem x).1 h
    have:=hbv r hr
    unfold VR at this
    omega
  have hbv' : ∀ r ∈ bs,VR r:=fun r hr=>hbv r (b2.mem_iff.1 hr)
  have hbsl:bs.length ≤ 1000:=by rw [b2.length_eq]; exact hbl
  rw [subI_some (by unfold inI; omega),Option.bind_some]
  generalize hM:(1048576:Nat) = M at *
  have hcov:strips bs M xs = covM B M:=by
    rw [strips_cov hM.symm hbv' x3 hx (fun r hr=>⟨(hmem _).2 ⟨r,b2.mem_iff.1 hr,.inl rfl⟩,(hmem _).2 ⟨r,b2.mem_iff.1 hr,.inr rfl⟩⟩),covM_perm b2]
  have hN:max 0 ((xs.length:Int) - 1) = ((xs.length - 1:Nat):Int):=by omega
  obtain ⟨f,k1,k2,k3⟩:=loop_up (body:=measure_site_cover_L1 bs xs ((xs.length:Int) - 1)) (fun m t=>t.2 = ((m:Nat):Int)∧t.1 = strips bs M (xs.take (m + 1))∧0 ≤ t.1∧t.1 ≤ 1099511627776 * m) (xs.length - 1)
    (fun f=>match f with | .ex i t=>t.1 = strips bs M (xs.take (xs.length - 1 + 1)) | _=>False) (fun m t hm ⟨e,h,g0,g1⟩=>by
      obtain ⟨t1,t2⟩:=t
      dsimp only at e h g0 g1
      subst e
      have hm1:m + 1 < xs.length:=by omega
      obtain ⟨u,hu,hu1⟩:=cover_L2 (n:=t1) hbv' b3 hbsl hm1 hx (List.pairwise_iff_getElem.1 x3 m (m + 1) (by omega) hm1 (by omega)) (by omega) (by omega)
      have hx0:=hx _ (List.getElem_mem (show m < xs.length by omega))
      have hx1:=hx _ (List.getElem_mem hm1)
      have hxx:=List.pairwise_iff_getElem.1 x3 m (m + 1) (by omega) hm1 (by omega)
      rw [hM] at hu1
      have hcb:=colM_bounds bs M (xs[m]'(by omega)) 0
      have hpb:=mul_bd (a:=xs[m + 1] - (xs[m]'(by omega))) (b:=colM bs M (xs[m]'(by omega)) 0) (by omega) (by omega) hcb.1 (by omega)
      unfold measure_site_cover_L1
      dsimp only
      rw [hN,if_pos (by simpa using hm),hu,Option.bind_some]
      dsimp only
      rw [addI_one (by omega)]
      exact .inl ⟨_,rfl,rfl,by dsimp only; rw [strips_take hm1,hu1,h],by dsimp only; omega,by dsimp only; omega⟩) (fun t ⟨e,h,_⟩=>by
      unfold measure_site_cover_L1
      rw [e,hN,if_neg (by simp)]
      exact ⟨_,rfl,trivial,h⟩) (0,0) ⟨rfl,by
        cases xs with
        | nil=>rfl
        | cons a t=>rfl,by simp,by simp⟩ ((max 0 ((xs.length:Int) - 1)).toNat + 1) (by omega)
  rw [k1,Option.bind_some]
  cases f with
  | go _=>exact k2.elim
  | ret r=>exact k3.elim
  | ex i t =>
    dsimp only at k3 ⊢
    rw [k3,List.take_of_length_le (by omega),hcov]
end Go.Proofs.YtagkmlkhaekldaaGreat

namespace Go.Proofs.YtagkmlkhaekldaaGreat
open Go.Gb
set_option linter.unusedVariables false
set_option linter.unusedSimpArgs false
set_option linter.unusedSectionVars false
set_option linter.unusedVariables false
set_option linter.unusedSimpArgs false
set_option maxRecDepth 100000

def sto (v:Volume):Int:=if v.Extra = false∧RV v then (v.Box.Z1 - v.Box.Z0 + 2) / 3 else 0
def arR (r:Rect):Int:=(r.X1 - r.X0) * (r.Y1 - r.Y0)
def flo (v:Volume):Int:=if RV v then arR v.Box.Base * sto v else 0
theorem sto_eq (v:Volume):measure_Storeys v = some (sto v):=by
  unfold measure_Storeys sto
  rw [rv_eq]
  by_cases he:v.Extra = true
  · rw [if_pos he,Option.bind_some,if_pos rfl,if_neg (by simp [he])]
  · have he' : v.Extra = false := by simpa using he
    rw [if_neg he,Option.bind_some,Option.bind_some]
    by_cases h:RV v
    · have hr := h
      unfold RV at hr
      rw [decide_eq_true h, if_neg (by simp), if_pos ⟨he', h⟩, subI_some (by unfold inI; omega), Option.bind_some, addI_some (by unfold inI; omega), Option.bind_some, subI_some (by unfold inI; omega), Option.bind_some, quoI_pos (by omega) (by omega) (by omega), Option.bind_some, show v.Box.Z1 - v.Box.Z0 + 3 - 1 = v.Box.Z1 - v.Box.Z0 + 2 by omega]
    · rw [decide_eq_false h,if_pos (by simp),if_neg (fun g=>h g.2)]
theorem sto_bd (v:Volume):0 ≤ sto v∧sto v ≤ 1366:=by
  unfold sto
  split
  · rename_i h
    have hr:=h.2
    unfold RV at hr
    omega
  · decide
theorem arR_bd {r:Rect} (h:VR r):0 ≤ arR r∧arR r ≤ 1099511627776:=rect_area_bound h
theorem flo_bd (v:Volume):0 ≤ flo v∧flo v ≤ 4503599627370496:=by
  unfold flo
  split
  · rename_i h
    have h1:=arR_bd h.1
    have h2:=sto_bd v
    refine ⟨Int.mul_nonneg h1.1 h2.1,?_⟩
    have:=Int.mul_le_mul (c:=arR v.Box.Base) (d:=(1366:Int)) (a:=arR v.Box.Base) (b:=sto v) (Int.le_refl _) h2.2 h2.1 h1.1
    omega
  · decide
theorem flo_eq (v:Volume):measure_Floor v = some (flo v):=by
  have hb:=flo_bd v
  unfold measure_Floor
  rw [rv_eq,Option.bind_some,sto_eq]
  by_cases h:RV v
  · unfold flo at hb ⊢
    rw [if_pos h] at hb ⊢
    rw [decide_eq_true h,if_neg (by simp),rect_Area_eq h.1,Option.bind_some,Option.bind_some]
    unfold arR at hb ⊢
    rw [mulI_some (by unfold inI; omega),Option.bind_some]
  · unfold flo
    rw [decide_eq_false h,if_pos (by simp),if_neg h]
noncomputable def tra (p:Plan) (v:Volume):Int:=(measure_traffic p v).getD 0
theorem tra_eq {p:Plan} (hp:PlanS p) {v:Volume} (h:RV v):measure_traffic p v = some (tra p v)∧0 ≤ tra p v∧tra p v ≤ 1099511627776:=by
  unfold RV at h
  obtain ⟨n,h1,h2,h3⟩:=traffic_tot (v:=v) hp (by omega) (by omega)
  unfold tra
  rw [h1]
  exact ⟨rfl,h2,h3⟩
open Classical in
noncomputable def ar (l:List Rect):List Rect:=if RR l then l else []
theorem ar_RR (l:List Rect):RR (ar l):=by
  unfold ar
  split
  · rename_i h; exact h
  · exact RR_nil
def vols (d:Drawing):List Volume:=((allV d).take 40).filter fun v=>decide (RV v)
theorem vols_RV {d:Drawing} : ∀ v ∈ vols d,RV v:=fun v hv=>by
  have:=(List.mem_filter.1 hv).2
  exact of_decide_eq_true this
theorem vols_len (d:Drawing):(vols d).length ≤ 40:=by
  unfold vols
  have:=List.length_filter_le (fun v=>decide (RV v)) ((allV d).take 40)
  rw [List.length_take] at this
  omega
abbrev bs (l:List Volume):List Rect:=l.map fun v=>v.Box.Base
theorem bs_VR {l:List Volume} (h : ∀ v ∈ l,RV v) : ∀ r ∈ bs l,VR r:=fun r hr=>by
  obtain ⟨v,hv,rfl⟩:=List.mem_map.1 hr
  exact (h v hv).1
def ent (a c f s h u b t:Int):List Entry:=[⟨⟨#[97,114,101,97]⟩,a⟩,⟨⟨#[99,111,118,101,114]⟩,c⟩,⟨⟨#[102,108,111,111,114]⟩,f⟩,⟨⟨#[102,108,111,111,114,115]⟩,s⟩,⟨⟨#[104,101,105,103,104,116]⟩,h⟩,⟨⟨#[104,111,109,101,115]⟩,u⟩,⟨⟨#[114,117,110,111,102,102]⟩,c⟩,⟨⟨#[115,101,116,98,97,99,107]⟩,b⟩,⟨⟨#[116,114,97,102,102,105,99]⟩,t⟩]
theorem mOf_L0 {p:Plan} {A:List Rect} {vs:List Volume} (hl:vs.length ≤ 1000000) : ∃ i,iterL (measure_Of_L0 vs) (vs.length + 1) (⟨p,A,[]⟩,0) = some (.ex 0 (⟨p,A,(vs.take 40).filter (fun v=>decide (RV v))⟩,i)):=by
  obtain ⟨f,k1,k2,k3⟩:=loop_up (body:=measure_Of_L0 vs) (fun i t=>t.2 = ((i:Nat):Int)∧t.1 = ⟨p,A,((vs.take 40).take i).filter (fun v=>decide (RV v))⟩) vs.length
    (fun f=>match f with | .ex j t=>j = 0∧t.1 = ⟨p,A,(vs.take 40).filter (fun v=>decide (RV v))⟩ | _=>False) (fun i t hi ⟨e,h⟩=>by
      obtain ⟨t1,t2⟩:=t
      dsimp only at e h
      subst e h
      have hlen:(((vs.take 40).take i).filter (fun v=>decide (RV v))).length ≤ 40:=by
        have h1:=List.length_filter_le (fun v=>decide (RV v)) ((vs.take 40).take i)
        rw [List.length_take,List.length_take] at h1
        omega
      unfold measure_Of_L0
      dsimp only
      rw [if_pos (by simpa using hi),getI_nat hi,Option.bind_some]
      by_cases c:i < 40
      · have hi4 : i < (vs.take 40).length := by rw [List.length_take]; omega
        have e2:(vs.take 40).take (i + 1) = (vs.take 40).take i ++ [vs[i]]:=by
          rw [List.take_succ_eq_append_getElem hi4,List.getElem_take]
        rw [if_pos (by simp; omega),rv_eq,Option.bind_some,Option.bind_some]
        by_cases r:RV vs[i]
        · rw [decide_eq_true r, if_pos rfl, appI_some (by simp; omega), Option.bind_some, Option.bind_some, addI_one (by omega)]
          exact .inl ⟨_,rfl,rfl,by dsimp only; rw [e2,List.filter_append]; simp [r]⟩
        · rw [decide_eq_false r, if_neg (by simp), Option.bind_some, addI_one (by omega)]
          exact .inl ⟨_,rfl,rfl,by dsimp only; rw [e2,List.filter_append]; simp [r]⟩
      · rw [if_neg (by simp; omega), Option.bind_some, if_neg (by simp), Option.bind_some, addI_one (by omega)]
        refine .inl ⟨_,rfl,rfl,?_⟩
        dsimp only
        have e4 : ∀ m,40 ≤ m → (vs.take 40).take m = vs.take 40:=fun m hm=>List.take_of_length_le (by rw [List.length_take]; omega)
        rw [e4 i (by omega),e4 (i + 1) (by omega)]) (fun t ⟨e,h⟩=>by
      unfold measure_Of_L0
      rw [e,if_neg (by simp)]
      rw [List.take_of_length_le (by rw [List.length_take]; omega)] at h
      exact ⟨_,rfl,trivial,rfl,h⟩) (⟨p,A,[]⟩,0) ⟨rfl,by simp⟩ (vs.length + 1) (by omega)
  rw [k1]
  cases f with
  | go _=>exact k2.elim
  | ret r=>exact k3.elim
  | ex j t =>
    obtain ⟨rfl,h1⟩:=k3
    obtain ⟨t1,t2⟩:=t
    dsimp only at h1
    subst h1
    exact ⟨_,rfl⟩
theorem mOf_L1 {t:MeasureSite} {a c f s h u b r:Int} (h0:measure_site_lot t = some a) (h1:measure_site_cover t = some c) (h2:measure_site_floor t = some f) (h3:measure_site_floors t = some s) (h4:measure_site_height t = some h) (h5:measure_site_homes t = some u) (h6:measure_site_setback t = some b) (h7:measure_site_traffic t = some r) :
    ∃ i,iterL (measure_Of_L1 t) 10 ([],0) = some (.ex 2 (ent a c f s h u b r,i)):=by
  have hE : ∀ (i:Nat) (hi:i < (ent a c f s h u b r).length),∃ w,getI measure_rows (i:Int) = some w∧w.of t = some ((ent a c f s h u b r)[i]'hi).N∧w.name = ((ent a c f s h u b r)[i]'hi).Name:=fun i hi=>match i,hi with
    | 0,_=>⟨_,rfl,h0,rfl⟩ | 1,_=>⟨_,rfl,h1,rfl⟩ | 2,_=>⟨_,rfl,h2,rfl⟩ | 3,_=>⟨_,rfl,h3,rfl⟩ | 4,_=>⟨_,rfl,h4,rfl⟩
    | 5,_=>⟨_,rfl,h5,rfl⟩ | 6,_=>⟨_,rfl,h1,rfl⟩ | 7,_=>⟨_,rfl,h6,rfl⟩ | 8,_=>⟨_,rfl,h7,rfl⟩ | n + 9,h=>absurd h (by show ¬ n + 9 < 9; omega)
  have hlen:(ent a c f s h u b r).length = 9:=rfl
  generalize ent a c f s h u b r = E at hE hlen
  obtain ⟨g,k1,k2,k3⟩:=loop_up (body:=measure_Of_L1 t) (fun i x=>x.2 = ((i:Nat):Int)∧x.1 = E.take i) 9
    (fun g=>match g with | .ex j x=>j = 2∧x.1 = E | _=>False) (fun i x hi ⟨e,hx⟩=>by
      obtain ⟨x1,x2⟩:=x
      dsimp only at e hx
      subst e
      obtain ⟨w,w1,w2,w3⟩:=hE i (by omega)
      have hle:x1.length ≤ 9:=by rw [hx,List.length_take]; omega
      unfold measure_Of_L1
      dsimp only
      rw [if_pos (by simp; omega),w1,Option.bind_some,w2,Option.bind_some,w3,appI_some (by simp; omega),Option.bind_some,addI_one (by omega)]
      refine .inl ⟨_,rfl,rfl,?_⟩
      dsimp only
      rw [List.take_succ_eq_append_getElem (by omega),hx]) (fun x ⟨e,hx⟩=>by
      unfold measure_Of_L1
      rw [e,if_neg (by simp)]
      rw [List.take_of_length_le (by omega)] at hx
      exact ⟨_,rfl,trivial,rfl,hx⟩) ([],0) ⟨rfl,by simp⟩ 10 (by omega)
  rw [k1]
  cases g with
  | go _=>exact k2.elim
  | ret r=>exact k3.elim
  | ex j x =>
    obtain ⟨rfl,e⟩:=k3
    obtain ⟨x1,x2⟩:=x
    dsimp only at e
    subst e
    exact ⟨_,rfl⟩
/-- All measures of a drawing. -/
theorem of_eq {p:Plan} {lot:Lot} {d:Drawing} (hp:PlanS p) (hph:d.Phases.length ≤ 100000) (hl:(allV d).length ≤ 1000000) (hla:lot.Area.length ≤ 100000) :
    ∃ B,SB (ar lot.Area) (bs (vols d)) B∧measure_Of p lot d = some (ent (areaL (ar lot.Area)) (covM (bs (vols d)) 1048576) (sumL flo (vols d)) (maxL sto (vols d)) (maxL (fun v=>v.Box.Z1) (vols d)) (sumL (fun v=>v.Units) (vols d)) B (sumL (tra p) (vols d))):=by
  have hV:=vols_RV (d:=d)
  have hVl:=vols_len d
  obtain ⟨i,hi⟩:=mOf_L0 (p:=p) (A:=ar lot.Area) hl
  unfold measure_Of
  have e0 : ∃ b,region_Right lot.Area = some b∧(if b = true then some (⟨p,lot.Area,[]⟩:MeasureSite) else some ⟨p,[],[]⟩) = some ⟨p,ar lot.Area,[]⟩:=by
    unfold ar
    by_cases h:RR lot.Area
    · exact ⟨true,region_Right_true h,by rw [if_pos rfl,if_pos h]⟩
    · exact ⟨false,region_Right_false hla h,by rw [if_neg (by simp),if_neg h]⟩
  obtain ⟨b,hb,he⟩:=e0
  rw [hb,Option.bind_some,he,Option.bind_some,volumesM hph hl (Int.le_refl _),Option.bind_some,hi,Option.bind_some]
  dsimp only
  rw [show List.filter (fun v=>decide (RV v)) (List.take 40 (allV d)) = vols d from rfl]
  have hR:=ar_RR lot.Area
  generalize ar lot.Area = A at hR
  generalize vols d = V at hV hVl
  obtain ⟨B,hB,hSB⟩:=setback_eq (s:=⟨p,A,V⟩) hR (fun v hv=>(hV v hv).1) (by dsimp only; omega)
  obtain ⟨j,hj⟩:=mOf_L1 (t:=⟨p,A,V⟩) (a:=areaL A) (c:=covM (bs V) 1048576) (f:=sumL flo V) (s:=maxL sto V) (h:=maxL (fun v=>v.Box.Z1) V) (u:=sumL (fun v=>v.Units) V) (b:=B) (r:=sumL (tra p) V)
    (by unfold measure_site_lot; dsimp only; rw [region_Area_fine hR]; rfl)
    (cover_eq (fun v hv=>(hV v hv).1) (by dsimp only; omega))
    (by unfold measure_site_floor; rw [site_sum (g:=flo) (by dsimp only; omega) fun v _=>⟨flo_eq v,flo_bd v⟩]; rfl)
    (by unfold measure_site_floors; rw [site_greatest (g:=sto) (by dsimp only; omega) fun v _=>sto_eq v]; rfl)
    (by unfold measure_site_height; rw [site_greatest (f:=measure_site__height_1) (g:=fun v=>v.Box.Z1) (by dsimp only; omega) fun v _=>rfl]; rfl)
    (by unfold measure_site_homes; rw [site_sum (f:=measure_site__homes_1) (g:=fun v=>v.Units) (by dsimp only; omega) fun v hv=>⟨rfl,by have:=hV v hv; unfold RV at this; omega⟩]; rfl)
    hB
    (by
      unfold measure_site_traffic
      rw [site_sum (g:=tra p) (by dsimp only; omega) fun v hv=>by
        obtain ⟨h1,h2,h3⟩:=tra_eq hp (hV v hv)
        refine ⟨?_,h2,by omega⟩
        unfold measure_site__traffic_1
        dsimp only
        rw [h1]; rfl]
      rfl)
  rw [hj,Option.bind_some]
  exact ⟨B,hSB,rfl⟩
end Go.Proofs.YtagkmlkhaekldaaGreat

namespace Go.Proofs.YtagkmlkhaekldaaGreat
open Go.Gb
set_option linter.unusedVariables false
set_option linter.unusedSimpArgs false
set_option linter.unusedSectionVars false
set_option linter.unusedVariables false
set_option linter.unusedSimpArgs false
set_option maxRecDepth 100000

def sqr (r:Rect):List Point:=[⟨r.X0,r.Y0⟩,⟨r.X1,r.Y0⟩,⟨r.X1,r.Y1⟩,⟨r.X0,r.Y1⟩]
def sqrS (r:Rect):List PolygonSide:=[⟨⟨r.X0,r.Y0⟩,⟨r.X1,r.Y0⟩⟩,⟨⟨r.X1,r.Y0⟩,⟨r.X1,r.Y1⟩⟩,⟨⟨r.X1,r.Y1⟩,⟨r.X0,r.Y1⟩⟩,⟨⟨r.X0,r.Y1⟩,⟨r.X0,r.Y0⟩⟩]
theorem square_eq (r:Rect):law20_square r = some (sqr r):=rfl
theorem sqr_VR {r:Rect} (h:polygon_Right (sqr r) = some true):VR r:=by
  obtain ⟨b,hb,hP⟩:=pright_eq (sqr r)
  rw [hb] at h
  obtain rfl:=Option.some.inj h
  obtain ⟨_,_,h1,h2,_⟩:=hP.1 rfl
  have a0:=h1 0 (show 0 < 4 by decide)
  have a2:=h1 2 (show 2 < 4 by decide)
  have b1:=h2 1 (show 1 < 4 by decide) (by decide)
  have b3:=h2 3 (show 3 < 4 by decide) (by decide)
  have e0:nx (sqr r) 0 = 1:=rfl
  have e1:nx (sqr r) 1 = 2:=rfl
  have e2:nx (sqr r) 2 = 3:=rfl
  have e3:nx (sqr r) 3 = 0:=by show (3 + 1) % 4 = 0; rfl
  have p0:pt (sqr r) 0 = ⟨r.X0,r.Y0⟩:=rfl
  have p1:pt (sqr r) 1 = ⟨r.X1,r.Y0⟩:=rfl
  have p2:pt (sqr r) 2 = ⟨r.X1,r.Y1⟩:=rfl
  have p3:pt (sqr r) 3 = ⟨r.X0,r.Y1⟩:=rfl
  unfold q1 at a0 a2
  unfold lss at b1 b3
  rw [e0,e1,p0,p1,p2] at a0
  rw [e2,e3,p2,p3,p0] at a2
  rw [p0,p1] at b1
  rw [p0,p3] at b3
  simp at a0 a2 b1 b3
  unfold VR
  omega
theorem sqr_region {r:Rect} (h:polygon_Right (sqr r) = some true):polygon_Region (sqr r) = some ([r],0):=by
  have hv:=sqr_VR h
  unfold VR at hv
  obtain ⟨a,c,b,d⟩:=r
  dsimp only at hv
  have h1:iterL (polygon_Region_L0 (sqr ⟨a,c,b,d⟩)) ((sqr ⟨a,c,b,d⟩).length + 1) (([]:List Int),0) = some (.ex 0 ([a,b,b,a],4)):=by rfl
  have h2:sortInts [a,b,b,a] = some [a,a,b,b]:=sort_is (by simp) (by
    refine List.Perm.cons a ?_
    exact (List.perm_append_comm (l₁:=[b,b]) (l₂:=[a]))) (by simp; omega)
  have h3:compactInts [a,a,b,b] = some [a,b]:=compact_is (by simp) (by simp; omega) (by simp; omega) (fun x=>by simp)
  have h4:polygon_around (sqr ⟨a,c,b,d⟩) = some (sqrS ⟨a,c,b,d⟩):=by kernel_rfl
  have h5:sortInts [c,d] = some [c,d]:=sort_is (by simp) (List.Perm.refl _) (by simp; omega)
  have h6:iterL (polygon_Region_L2 [a,b] (sqrS ⟨a,c,b,d⟩) (([]:List Rect),0)) ((sqrS ⟨a,c,b,d⟩).length + 1) (([]:List Int),0) = some (.ex 4 ([c,d],4)):=by
    have u0:polygon_side_upright (⟨⟨a,c⟩,⟨b,c⟩⟩:PolygonSide) = some false:=by
      have:(a == b) = false:=by rw [beq_eq_false_iff_ne]; omega
      exact congrArg some this
    have u1:polygon_side_upright (⟨⟨b,c⟩,⟨b,d⟩⟩:PolygonSide) = some true:=congrArg some (show (b == b) = true by simp)
    have u2:polygon_side_upright (⟨⟨b,d⟩,⟨a,d⟩⟩:PolygonSide) = some false:=by
      have:(b == a) = false:=by rw [beq_eq_false_iff_ne]; omega
      exact congrArg some this
    have u3:polygon_side_upright (⟨⟨a,d⟩,⟨a,c⟩⟩:PolygonSide) = some true:=congrArg some (show (a == a) = true by simp)
    have m0:decide (min a b ≤ a) = true:=by simp; omega
    have m1:decide (a < max a b) = true:=by simp; omega
    have m2:decide (min b a ≤ a) = true:=by simp; omega
    have m3:decide (a < max b a) = true:=by simp; omega
    have g : ∀ j:Int,getI [a,b] (0:Int) = some a:=fun _=>rfl
    have s0:polygon_Region_L2 [a,b] (sqrS ⟨a,c,b,d⟩) (([]:List Rect),0) (([]:List Int),0) = some (.go ([c],1)):=by
      unfold polygon_Region_L2
      rw [if_pos (show decide ((0:Int) < ((sqrS ⟨a,c,b,d⟩).length:Int)) = true from rfl),show getI (sqrS ⟨a,c,b,d⟩) (0:Int) = some (⟨⟨a,c⟩,⟨b,c⟩⟩:PolygonSide) from rfl,Option.bind_some,u0,Option.bind_some]
      dsimp only
      rw [if_pos (show (!false) = true from rfl),show getI [a,b] (0:Int) = some a from rfl,Option.bind_some,Option.bind_some,Option.bind_some,m0,if_pos rfl,Option.bind_some,m1]
      rfl
    have s1:polygon_Region_L2 [a,b] (sqrS ⟨a,c,b,d⟩) (([]:List Rect),0) ([c],1) = some (.go ([c],2)):=by
      unfold polygon_Region_L2
      rw [if_pos (show decide ((1:Int) < ((sqrS ⟨a,c,b,d⟩).length:Int)) = true from rfl),show getI (sqrS ⟨a,c,b,d⟩) (1:Int) = some (⟨⟨b,c⟩,⟨b,d⟩⟩:PolygonSide) from rfl,Option.bind_some,u1,Option.bind_some]
      rfl
    have s2:polygon_Region_L2 [a,b] (sqrS ⟨a,c,b,d⟩) (([]:List Rect),0) ([c],2) = some (.go ([c,d],3)):=by
      unfold polygon_Region_L2
      rw [if_pos (show decide ((2:Int) < ((sqrS ⟨a,c,b,d⟩).length:Int)) = true from rfl),show getI (sqrS ⟨a,c,b,d⟩) (2:Int) = some (⟨⟨b,d⟩,⟨a,d⟩⟩:PolygonSide) from rfl,Option.bind_some,u2,Option.bind_some]
      dsimp only
      rw [if_pos (show (!false) = true from rfl),show getI [a,b] (0:Int) = some a from rfl,Option.bind_some,Option.bind_some,Option.bind_some,m2,if_pos rfl,Option.bind_some,m3]
      rfl
    have s3:polygon_Region_L2 [a,b] (sqrS ⟨a,c,b,d⟩) (([]:List Rect),0) ([c,d],3) = some (.go ([c,d],4)):=by
      unfold polygon_Region_L2
      rw [if_pos (show decide ((3:Int) < ((sqrS ⟨a,c,b,d⟩).length:Int)) = true from rfl),show getI (sqrS ⟨a,c,b,d⟩) (3:Int) = some (⟨⟨a,d⟩,⟨a,c⟩⟩:PolygonSide) from rfl,Option.bind_some,u3,Option.bind_some]
      rfl
    have s4:polygon_Region_L2 [a,b] (sqrS ⟨a,c,b,d⟩) (([]:List Rect),0) ([c,d],4) = some (.ex 4 ([c,d],4)):=rfl
    show iterL _ 5 _ = _
    simp only [iterL,s0,s1,s2,s3,s4]
  have h7:iterL (polygon_Region_L3 [a,b] (([]:List Rect),0) [c,d]) 9 (([]:List Rect),0) = some (.ex 6 ([⟨a,c,b,d⟩],2)):=by rfl
  have h8:polygon_Region_L1 [a,b] (sqrS ⟨a,c,b,d⟩) 1 (([]:List Rect),0) = some (.go ([⟨a,c,b,d⟩],1)):=by
    unfold polygon_Region_L1
    rw [if_pos (by decide),h6,Option.bind_some]
    dsimp only
    rw [h5,Option.bind_some]
    have h7' : iterL (polygon_Region_L3 [a,b] (([]:List Rect),0) [c,d]) (([a,b]:List Int).length + (sqrS ⟨a,c,b,d⟩).length + ([]:List Rect).length + ([c,d]:List Int).length + 1) (([]:List Rect),0) = some (.ex 6 ([⟨a,c,b,d⟩],2)):=h7
    rw [h7', Option.bind_some]
    rfl
  have h9:polygon_Region_L1 [a,b] (sqrS ⟨a,c,b,d⟩) 1 ([⟨a,c,b,d⟩],1) = some (.ex 2 ([⟨a,c,b,d⟩],1)):=by rfl
  unfold polygon_Region
  rw [h,Option.bind_some,if_neg (by simp),h1,Option.bind_some]
  dsimp only
  rw [h2,Option.bind_some,h3,Option.bind_some,h4,Option.bind_some,show subI (([a,b]:List Int).length:Int) 1 = some 1 from rfl,Option.bind_some]
  have h10:iterL (polygon_Region_L1 [a,b] (sqrS ⟨a,c,b,d⟩) 1) ((1:Int).toNat + 1) (([]:List Rect),0) = some (.ex 2 ([⟨a,c,b,d⟩],1)):=by
    show iterL _ 2 _ = _
    simp only [iterL,h8,h9,Option.bind_some]
  rw [h10,Option.bind_some]
  rfl
/-- what a volume loads a cap on a rectangle -/
theorem load_sqr {p:Plan} (hp:PlanS p) {r:Rect} (h:polygon_Right (sqr r) = some true) {v:Volume} (hv:RV v) (nm:ByteArray) (k l:Int) :
    measure_Load p ⟨nm,k,l,sqr r⟩ v = some (if comm r v.Box.Base = true then (if k = 0 then v.Units else if k = 1 then tra p v else if k = 2 then arR v.Box.Base else 0) else 0):=by
  have hr:=sqr_VR h
  have ht:=tra_eq hp hv
  unfold measure_Load
  rw [rv_eq,Option.bind_some,decide_eq_true hv,if_neg (by simp),sqr_region h,Option.bind_some]
  dsimp only
  obtain ⟨c,hc,_⟩:=inter_eq hr hv.1
  rw [containsRc_any (s:=[r]) (g:=fun x=>comm r v.Box.Base) (by simp) (fun x hx=>by
    obtain rfl:=List.mem_singleton.1 hx
    unfold measure_Load_1
    rw [hc]; rfl)]
  cases hm:comm r v.Box.Base
  · simp [hm]
  · simp only [List.any_cons, hm, Bool.true_or]
    rw [rect_Area_eq hv.1,ht.1]
    by_cases c0:k = 0
    · subst c0; simp
    · by_cases c1 : k = 1
      · subst c1; simp
      · by_cases c2 : k = 2
        · subst c2; simp [arR]
        · simp [c0,c1,c2]
end Go.Proofs.YtagkmlkhaekldaaGreat

namespace Go.Proofs.YtagkmlkhaekldaaGreat
open Go.Gb
set_option linter.unusedVariables false
set_option linter.unusedSimpArgs false
set_option linter.unusedSectionVars false
set_option linter.unusedVariables false
set_option linter.unusedSimpArgs false
set_option maxRecDepth 100000

theorem esame_eq {a b:List Entry} (hb:a.length ≤ 1000000):ref20_Same a b = some (decide (a = b)):=by
  unfold ref20_Same
  by_cases hl:a.length = b.length
  · rw [if_neg (by simp [hl])]
    rcases iter_find (l:=a.zip b) (body:=ref20_Same_L0 a b) (k:=0) (fun p=>p.1 ≠ p.2) (fun _=>false) (by
      intro i hi
      simp only [List.length_zip] at hi
      have h1:i < a.length:=by omega
      have h2:i < b.length:=by omega
      unfold ref20_Same_L0
      rw [if_pos (by simpa using h1),getI_nat h1,Option.bind_some,getI_nat h2,Option.bind_some]
      simp only [List.getElem_zip]
      by_cases he:a[i] = b[i]
      · right
        rw [if_neg (by simpa using he),addI_one (show i < 4611686018427387904 by omega),Option.bind_some]
        exact ⟨by simpa using he,rfl⟩
      · left
        rw [if_pos (by simpa using he)]
        exact ⟨he,rfl⟩) (by
      have e:((a.zip b).length:Int) = (a.length:Int):=by simp; omega
      rw [e]
      unfold ref20_Same_L0
      rw [if_neg (by simp)]) (fuel:=a.length + b.length + 1) (by simp; omega) with ⟨i,hi,hp,_,h⟩ | ⟨hp,h⟩
    · rw [h, Option.bind_some]
      dsimp only
      congr 1
      symm
      rw [decide_eq_false_iff_not]
      intro e; subst e; simp at hp
    · rw [h, Option.bind_some]
      dsimp only
      congr 1
      symm
      rw [decide_eq_true_iff]
      refine List.ext_getElem hl fun i h1 h2=>?_
      have:=hp (a[i],b[i]) (by
        rw [List.mem_iff_getElem]
        exact ⟨i,by simp; omega,by simp⟩)
      simpa using this
  · rw [if_pos (by simp; omega)]
    congr 1
    symm
    rw [decide_eq_false_iff_not]
    intro e; exact hl (by rw [e])
theorem addW1 {i:Nat} (h:i < 4611686018427387904):addW (i:Int) 1 = some ((i + 1:Nat):Int):=by
  rw [addW_in (by unfold inI; omega)]; simp
theorem few20_L0 (d:Drawing) (hd:d.Phases.length ≤ reachLen) (hv : ∀ x ∈ d.Phases,x.Volumes.length ≤ reachLen) : ∃ t,iterL (ref20_Few_L0 d) (d.Phases.length + 1) (0,0) = some (.ex 0 t)∧(d.Phases.length ≤ 8 → t.1 = ((allV d).length:Int)):=by
  unfold reachLen at *
  obtain ⟨f,k1,k2,k3⟩:=loop_up (body:=ref20_Few_L0 d) (fun i t=>t.2 = ((i:Nat):Int)∧(d.Phases.length ≤ 8 → t.1 = ((((d.Phases.take i).flatMap (·.Volumes)).length:Nat):Int)∧t.1 ≤ 140737488351232 * i)) d.Phases.length
    (fun f=>match f with | .ex j t=>j = 0∧(d.Phases.length ≤ 8 → t.1 = ((allV d).length:Int)) | _=>False) (fun i t hi ⟨e,h⟩=>by
      have h9:=hv _ (List.getElem_mem hi)
      unfold ref20_Few_L0
      rw [e,if_pos (by simpa using hi),getI_nat hi,Option.bind_some]
      show (∃ s', (addW t.1 (d.Phases[i].Volumes.length : Int)).bind _ = _ ∧ _) ∨ _
      rw [show addW t.1 (d.Phases[i].Volumes.length:Int) = some (IntKind.i64.wrap (t.1 + (d.Phases[i].Volumes.length:Int))) from rfl,Option.bind_some,addW1 (by omega)]
      refine .inl ⟨_,rfl,rfl,fun h8=>?_⟩
      obtain ⟨h1,h2⟩:=h h8
      dsimp only
      have e1:IntKind.i64.wrap (t.1 + (d.Phases[i].Volumes.length:Int)) = t.1 + (d.Phases[i].Volumes.length:Int):=IntWalk.i64_in _ (show inI _ by unfold inI; omega)
      rw [e1]
      refine ⟨?_,by omega⟩
      rw [List.take_succ_eq_append_getElem hi,List.flatMap_append,List.length_append,h1]
      simp) (fun t ⟨e,h⟩=>by
      unfold ref20_Few_L0
      rw [e,if_neg (by simp)]
      rw [List.take_length] at h
      exact ⟨_,rfl,trivial,rfl,fun h8=>(h h8).1⟩) (0,0) ⟨rfl,fun _=>by simp⟩ (d.Phases.length + 1) (by omega)
  rw [k1]
  cases f with
  | go _=>exact k2.elim
  | ret r=>exact k3.elim
  | ex j t=>obtain ⟨rfl,h⟩:=k3; exact ⟨t,rfl,h⟩
theorem few20 (p:Plan) (lot:Lot) (d:Drawing) (hd:d.Phases.length ≤ reachLen) (hv : ∀ x ∈ d.Phases,x.Volumes.length ≤ reachLen) (hT:p.Tables.length ≤ reachLen) : ∃ b,ref20_Few p lot d = some b∧(b = true → PlanS p∧lot.Area.length ≤ 12∧d.Phases.length ≤ 8∧(allV d).length ≤ 50):=by
  obtain ⟨t,h1,h2⟩:=few20_L0 d hd hv
  unfold reachLen at *
  unfold ref20_Few
  rw [h1,Option.bind_some]
  dsimp only
  obtain ⟨f,k1,k2,k3⟩:=loop_up (body:=ref20_Few_L1 p) (fun i s=>s = ((i:Nat):Int)∧∀ m (h:m < p.Tables.length),m < i → p.Tables[m].Rows.length ≤ 10) p.Tables.length
    (fun f=>match f with | .ex j s=>∀ m (h:m < p.Tables.length),p.Tables[m].Rows.length ≤ 10 | .ret r=>r = false | _=>False) (fun i s hi ⟨e,h⟩=>by
      unfold ref20_Few_L1
      rw [e,if_pos (by simpa using hi),getI_nat hi,Option.bind_some]
      by_cases c:p.Tables[i].Rows.length ≤ 10
      · rw [if_neg (by simp; omega), addW1 (by omega)]
        refine .inl ⟨_,rfl,rfl,fun m hm hmi=>?_⟩
        by_cases e:m = i
        · subst e; exact c
        · exact h m hm (by omega)
      · rw [if_pos (by simp; omega)]
        exact .inr ⟨_,rfl,trivial,rfl⟩) (fun s ⟨e,h⟩=>by
      unfold ref20_Few_L1
      rw [e,if_neg (by simp)]
      exact ⟨_,rfl,trivial,fun m hm=>h m hm hm⟩) 0 ⟨rfl,fun m _ h=>by omega⟩ (p.Tables.length + 1) (by omega)
  rw [k1,Option.bind_some]
  cases f with
  | go _=>exact k2.elim
  | ret r=>subst k3; exact ⟨false,rfl,by simp⟩
  | ex j s =>
    dsimp only at k3 ⊢
    refine ⟨_,rfl,fun g=>?_⟩
    simp only [Bool.and_eq_true,decide_eq_true_eq] at g
    have h3:=h2 (by omega)
    refine ⟨⟨by omega,fun t ht=>?_⟩,by omega,by omega,by omega⟩
    obtain ⟨i,hi,rfl⟩:=List.mem_iff_getElem.1 ht
    exact k3 i hi
/-- the numbers of a list of measures -/
theorem number_of (a c f s h u b t:Int):law20_number (ent a c f s h u b t) ⟨#[97,114,101,97]⟩ = some a∧law20_number (ent a c f s h u b t) ⟨#[99,111,118,101,114]⟩ = some c∧law20_number (ent a c f s h u b t) ⟨#[102,108,111,111,114]⟩ = some f∧law20_number (ent a c f s h u b t) ⟨#[102,108,111,111,114,115]⟩ = some s∧law20_number (ent a c f s h u b t) ⟨#[104,101,105,103,104,116]⟩ = some h∧law20_number (ent a c f s h u b t) ⟨#[104,111,109,101,115]⟩ = some u∧law20_number (ent a c f s h u b t) ⟨#[114,117,110,111,102,102]⟩ = some c∧law20_number (ent a c f s h u b t) ⟨#[115,101,116,98,97,99,107]⟩ = some b∧law20_number (ent a c f s h u b t) ⟨#[116,114,97,102,102,105,99]⟩ = some t:=
  ⟨by kernel_rfl,by kernel_rfl,by kernel_rfl,by kernel_rfl,by kernel_rfl,by kernel_rfl,by kernel_rfl,by kernel_rfl,by kernel_rfl⟩
theorem cells_one (r:Rect) (x y:Int):cells [r] x y ↔ rin r x y:=by simp [cells]
theorem SQ_one {R b:Rect} (hb:VR b) (n:Int):SQ [R] b n ↔ n ≤ 0 ∨ (R.X0 ≤ b.X0 - n∧b.X1 + n ≤ R.X1∧R.Y0 ≤ b.Y0 - n∧b.Y1 + n ≤ R.Y1):=by
  unfold SQ
  unfold VR at hb
  constructor
  · rintro (h | h)
    · exact .inl h
    · by_cases c : n ≤ 0
      · exact .inl c
      · have h1 := (cells_one _ _ _).1 (h (b.X0 - n) (b.Y0 - n) (by unfold rin grw; dsimp only; omega))
        have h2:=(cells_one _ _ _).1 (h (b.X1 + n - 1) (b.Y1 + n - 1) (by unfold rin grw; dsimp only; omega))
        unfold rin at h1 h2
        omega
  · rintro (h | h)
    · exact .inl h
    · refine .inr fun x y hxy => (cells_one _ _ _).2 ?_
      unfold rin grw at hxy
      unfold rin
      dsimp only at hxy
      omega
def exP:Plan:=⟨[],[(⟨(⟨#[116,114,97,102,102,105,99]⟩:ByteArray),[(⟨(⟨#[104,111,109,101]⟩:ByteArray),50⟩:Entry)],20⟩:Table)],[],[],[],[],[],0⟩
def exA:Volume:=⟨⟨⟨2,2,5,4⟩,0,7⟩,0,4,false⟩
def exB:Volume:=⟨⟨⟨4,2,7,3⟩,7,9⟩,1,0,false⟩
theorem exP_S:PlanS exP:=⟨by decide,by decide⟩
theorem exA_R:RV exA:=by decide
theorem exB_R:RV exB:=by decide
theorem small_of:measure_Of exP ⟨1,0,[⟨0,0,10,8⟩],[]⟩ ⟨1,[⟨[exA,exB],[]⟩]⟩ = some (ent 80 8 21 3 9 4 2 10):=by
  obtain ⟨B,hB,h⟩:=of_eq (p:=exP) (lot:=⟨1,0,[⟨0,0,10,8⟩],[]⟩) (d:=⟨1,[⟨[exA,exB],[]⟩]⟩) exP_S (by decide) (by decide) (by decide)
  have hV:vols ⟨1,[⟨[exA,exB],[]⟩]⟩ = [exA,exB]:=by decide
  have hA:ar [⟨0,0,10,8⟩] = [⟨0,0,10,8⟩]:=if_pos (rrB_spec (by decide))
  rw [hV,hA] at h hB
  have hB2:SB [⟨0,0,10,8⟩] (bs [exA,exB]) 2:=⟨by decide,by decide,fun n h0 h1=>by
    have e1:=SQ_one (R:=⟨0,0,10,8⟩) exA_R.1 n
    have e2:=SQ_one (R:=⟨0,0,10,8⟩) exB_R.1 n
    constructor
    · intro hn b hb
      simp [bs] at hb
      rcases hb with rfl | rfl
      · exact e1.2 (by show n ≤ 0 ∨ ((0:Int) ≤ 2 - n∧5 + n ≤ 10∧0 ≤ 2 - n∧4 + n ≤ 8); omega)
      · exact e2.2 (by show n ≤ 0 ∨ ((0:Int) ≤ 4 - n∧7 + n ≤ 10∧0 ≤ 2 - n∧3 + n ≤ 8); omega)
    · intro hq
      have h3:n ≤ 0 ∨ ((0:Int) ≤ 2 - n∧5 + n ≤ 10∧0 ≤ 2 - n∧4 + n ≤ 8):=e1.1 (hq _ (by simp [bs]))
      omega⟩
  have hBe:=hB.unique hB2 fun _=>Iff.rfl
  subst hBe
  have hc:covM (bs [exA,exB]) 1048576 = 8:=by
    have hf:RR [⟨2,2,5,4⟩,⟨5,2,7,3⟩]:=rrB_spec (by decide)
    rw [covM_eq (out:=[⟨2,2,5,4⟩,⟨5,2,7,3⟩]) hf.1 (hf.2.2.congr fun x y=>by
      simp [cells,bs,rin,exA,exB]; omega) rfl]
    rfl
  have ht1:tra exP exA = 9:=by unfold tra; rw [show measure_traffic exP exA = some 9 by kernel_rfl]; rfl
  have ht2:tra exP exB = 1:=by unfold tra; rw [show measure_traffic exP exB = some 1 by kernel_rfl]; rfl
  have ht:sumL (tra exP) [exA,exB] = 10:=by simp only [sumL,ht1,ht2]; rfl
  rw [h,hc,ht]
  rfl
theorem small_true:law20_small = some true:=by
  unfold law20_small
  have e1:law20_box 2 2 5 4 0 7 0 = some (⟨⟨⟨2,2,5,4⟩,0,7⟩,0,0,false⟩:Volume):=rfl
  have e2:law20_box 4 2 7 3 7 9 1 = some exB:=rfl
  have o:=small_of
  unfold exP at o
  rw [e1,Option.bind_some,e2,Option.bind_some]
  change (measure_Of exP ⟨1,0,[⟨0,0,10,8⟩],[]⟩ ⟨1,[⟨[exA,exB],[]⟩]⟩).bind _ = _
  rw [small_of,Option.bind_some,square_eq,Option.bind_some]
  have l1:measure_Load exP ⟨⟨#[]⟩,2,0,sqr ⟨0,0,5,5⟩⟩ exB = some 3:=(load_sqr exP_S (by kernel_rfl) exB_R _ 2 0).trans (by rfl)
  have l2:measure_Load exP ⟨⟨#[]⟩,2,0,sqr ⟨7,0,9,9⟩⟩ exB = some 0:=(load_sqr exP_S (by kernel_rfl) exB_R _ 2 0).trans (by rfl)
  change (measure_Load exP ⟨⟨#[]⟩,2,0,sqr ⟨0,0,5,5⟩⟩ exB).bind _ = _
  rw [l1,Option.bind_some,square_eq,Option.bind_some]
  change (measure_Load exP ⟨⟨#[]⟩,2,0,sqr ⟨7,0,9,9⟩⟩ exB).bind _ = _
  rw [l2,Option.bind_some]
  change (ref20_Same (ent 80 8 21 3 9 4 2 10) (ent 80 8 21 3 9 4 2 10)).bind _ = _
  rw [esame_eq (by decide),decide_eq_true rfl,Option.bind_some,if_pos (by decide)]
  have s1:measure_Storeys exA = some 3:=sto_eq exA
  have s2:measure_Storeys exB = some 1:=sto_eq exB
  have s3:measure_Floor exA = some 18:=flo_eq exA
  have s4:measure_Floor exB = some 3:=flo_eq exB
  change ((measure_Storeys exA).bind _).bind _ = _
  rw [s1,Option.bind_some,Option.bind_some,if_pos (by decide)]
  change ((measure_Floor exA).bind _).bind _ = _
  rw [s3,Option.bind_some,Option.bind_some,if_pos (by decide),s2,Option.bind_some,Option.bind_some,if_pos (by decide),s4]
  rfl
end Go.Proofs.YtagkmlkhaekldaaGreat

namespace Go.Proofs.YtagkmlkhaekldaaGreat
open Go.Gb
set_option linter.unusedVariables false
set_option linter.unusedSimpArgs false
set_option linter.unusedSectionVars false
set_option linter.unusedVariables false
set_option linter.unusedSimpArgs false
set_option maxRecDepth 100000

theorem VR_grid {S:Int → Int → Prop} {out:List Rect} (h:IsForm S out) (hg : ∀ x y,S x y → (0 ≤ x∧x < 1048576)∧0 ≤ y∧y < 1048576) : ∀ r ∈ out,VR r:=by
  intro r hr
  have h0:=form_rect h r hr
  have h1:=hg _ _ ((h.cells r.X0 r.Y0).1 ⟨r,hr,by unfold rin; omega⟩)
  have h2:=hg _ _ ((h.cells (r.X1 - 1) (r.Y1 - 1)).1 ⟨r,hr,by unfold rin; omega⟩)
  unfold VR
  omega
end Go.Proofs.YtagkmlkhaekldaaGreat

namespace Go.Proofs.YtagkmlkhaekldaaGreat
open Go.Gb
set_option linter.unusedVariables false
set_option linter.unusedSimpArgs false
set_option linter.unusedSectionVars false
set_option linter.unusedVariables false
set_option linter.unusedSimpArgs false
set_option maxRecDepth 100000

theorem dmeet_tot (a b:Box):Tot (drawing_meet a b):=by
  unfold drawing_meet rect_Intersect rect_checked rect_Right
  refine Tot.bind (Tot.bind (Tot.pure _) fun _ _=>Tot.bind (Tot.ite (fun _=>Tot.pure _) fun _=>Tot.bind (Tot.pure _) fun _ _=>Tot.pure _) fun _ _=>Tot.ite (fun _=>Tot.pure _) fun _=>
    Tot.bind (Tot.bind (Tot.pure _) fun _ _=>Tot.ite (fun _=>Tot.pure _) fun _=>Tot.pure _) fun _ _=>Tot.pure _) fun _ _=>Tot.pure _
theorem formM0 {l:List Volume} (h:l.length ≤ 1000000) : ∃ f,iterL (drawing_Form_L0 l) (l.length + 1) 0 = some f∧f.ends∧(match f with | .ex _ _=>∀ v ∈ l,RV v | .ret r=>r = false | .go _=>False):=by
  refine loop_up (fun i s=>s = ((i:Nat):Int)∧∀ m (hm:m < l.length),m < i → RV l[m]) l.length _ ?_ ?_ 0 ⟨rfl,fun m _ h=>by omega⟩ _ (by omega)
  · intro i s hi ⟨hs, hI⟩
    subst hs
    unfold drawing_Form_L0
    rw [if_pos (by simpa using hi),getI_nat hi,Option.bind_some,rv_eq,Option.bind_some]
    obtain ⟨c,hc⟩:Tot (if (!decide (RV l[i])) = true then some true else (sliceI l 0 (i:Int)).bind fun y=>(slices_ContainsFunc_Volume y (fun y0=>drawing_Form_1 y0 l[i])).bind fun z=>some z):=by
      refine Tot.ite (fun _=>Tot.pure _) fun _=>?_
      rw [sliceI_some (by omega) (by omega) (by omega),Option.bind_some]
      refine Tot.bind (containsV_tot (by simp; omega) fun x=>?_) fun _ _=>Tot.pure _
      unfold drawing_Form_1
      exact Tot.bind (dmeet_tot _ _) fun _ _=>Tot.pure _
    rw [hc,Option.bind_some]
    cases c with
    | true=>exact .inr ⟨_,rfl,trivial,rfl⟩
    | false =>
      rw [if_neg (by simp),addI_one (by omega)]
      refine .inl ⟨_,rfl,rfl,fun m hm hmi=>?_⟩
      by_cases e:m = i
      · subst e
        by_cases hb:RV l[m]
        · exact hb
        · rw [decide_eq_false hb] at hc; simp at hc
      · exact hI m hm (by omega)
  · intro s ⟨hs, hI⟩
    subst hs
    unfold drawing_Form_L0
    rw [if_neg (by simp)]
    refine ⟨_,rfl,trivial,fun v hv=>?_⟩
    obtain ⟨m,hm,rfl⟩:=List.getElem_of_mem hv
    exact hI m hm hm
theorem formM2 {p:Phase} (h:p.Gives.length ≤ reachLen) : ∃ f,iterL (drawing_Form_L2 p) (p.Gives.length + 1) ((⟨[]⟩:(GMap ByteArray Bool)),0) = some f∧f.ends:=by
  have h6:p.Gives.length ≤ 140737488351232:=h
  refine tot_loop (fun s=>s.2) (fun _=>True) p.Gives.length ?_ ?_ _ rfl trivial (by omega)
  · intro s i hs hi _
    unfold drawing_Form_L2
    rw [hs,if_pos (by simpa using hi),getI_nat hi,Option.bind_some]
    obtain ⟨c,hc⟩:Tot (if (getK (s.1).l p.Gives[i].Name).getD false = true then some true else (syntax_Name p.Gives[i].Name).bind fun y=>some (!y)):=
      Tot.ite (fun _=>Tot.pure _) fun _=>Tot.bind (name_tot _) fun _ _=>Tot.pure _
    rw [hc,Option.bind_some]
    split
    · exact .inr ⟨_,rfl,trivial⟩
    · rw [addI_one (by omega)]
      exact .inl ⟨_,rfl,rfl,trivial⟩
  · intro s hs _
    unfold drawing_Form_L2
    rw [hs,if_neg (by simp)]
    exact ⟨_,rfl,trivial⟩
theorem formM1 {d:Drawing} (hd:d.Phases.length ≤ 100000) (hg : ∀ x ∈ d.Phases,x.Gives.length ≤ reachLen) : ∃ f,iterL (drawing_Form_L1 d) (d.Phases.length + 1) 0 = some f∧f.ends:=by
  refine tot_loop (fun s=>s) (fun _=>True) d.Phases.length ?_ ?_ 0 rfl trivial (by omega)
  · intro s i hs hi _
    subst hs
    unfold drawing_Form_L1
    rw [if_pos (by simpa using hi),getI_nat hi,Option.bind_some]
    obtain ⟨f,hf,he⟩:=formM2 (hg _ (List.getElem_mem hi))
    rw [hf,Option.bind_some]
    cases f with
    | go _=>exact he.elim
    | ret r=>exact .inr ⟨_,rfl,trivial⟩
    | ex _ _ =>
      dsimp only
      split
      · exact .inr ⟨_,rfl,trivial⟩
      · rw [addI_one (by omega)]
        exact .inl ⟨_,rfl,rfl,trivial⟩
  · intro s hs _
    subst hs
    unfold drawing_Form_L1
    rw [if_neg (by simp)]
    exact ⟨_,rfl,trivial⟩
/-- a drawing that is well-formed -/
theorem formM {d:Drawing} (hd:d.Phases.length ≤ 100000) (hl:(allV d).length ≤ 1000000) (hg : ∀ x ∈ d.Phases,x.Gives.length ≤ reachLen) :
    ∃ b,drawing_Form d = some b∧(b = true → 1 ≤ (allV d).length∧(allV d).length ≤ 40∧∀ v ∈ allV d,RV v):=by
  unfold drawing_Form drawing_all
  rw [volumesM hd hl (Int.le_refl _),Option.bind_some]
  simp only [Option.bind_some]
  by_cases hc:((((((decide (d.Lot < 0)) || (decide (1073741824 < d.Lot))) || (decide ((d.Phases.length:Int) < 1))) || (decide (8 < (d.Phases.length:Int)))) || (decide (((allV d).length:Int) < 1))) || (decide (40 < ((allV d).length:Int)))) = true
  · rw [if_pos hc]; exact ⟨false,rfl,fun h=>by simp at h⟩
  · rw [if_neg hc]
    simp at hc
    obtain ⟨f,h1,h2,h3⟩:=formM0 hl
    rw [h1,Option.bind_some]
    cases f with
    | go _=>exact h3.elim
    | ret r=>dsimp only at h3 ⊢; rw [h3]; exact ⟨false,rfl,fun h=>by simp at h⟩
    | ex _ _ =>
      dsimp only at h3 ⊢
      obtain ⟨g,g1,g2⟩:=formM1 hd hg
      rw [g1,Option.bind_some]
      cases g with
      | go _=>exact g2.elim
      | ret r=>exact ⟨r,rfl,fun _=>⟨by omega,by omega,h3⟩⟩
      | ex _ _=>exact ⟨true,rfl,fun _=>⟨by omega,by omega,h3⟩⟩
/-- all volumes are counted -/
theorem vols_all {d:Drawing} (hl:(allV d).length ≤ 40) (h : ∀ v ∈ allV d,RV v):vols d = allV d:=by
  unfold vols
  rw [List.take_of_length_le hl,List.filter_eq_self]
  exact fun v hv=>decide_eq_true (h v hv)
end Go.Proofs.YtagkmlkhaekldaaGreat

namespace Go.Proofs.YtagkmlkhaekldaaGreat
open Go.Gb
set_option linter.unusedVariables false
set_option linter.unusedSimpArgs false
set_option linter.unusedSectionVars false
set_option linter.unusedVariables false
set_option linter.unusedSimpArgs false
set_option maxRecDepth 100000

theorem sumL_bd {α:Type} {f:α → Int} {M:Int} : ∀ {l:List α},(∀ x ∈ l,0 ≤ f x∧f x ≤ M) → 0 ≤ sumL f l∧sumL f l ≤ l.length * M
  | [],_=>by simp [sumL]
  | y :: l, h => by
    have h1:=h y List.mem_cons_self
    have h2:=sumL_bd fun x hx=>h x (List.mem_cons_of_mem _ hx)
    simp only [sumL,List.length_cons,Int.natCast_add,Int.add_mul]
    omega
end Go.Proofs.YtagkmlkhaekldaaGreat

namespace Go.Proofs.YtagkmlkhaekldaaGreat
open Go.Gb
set_option linter.unusedVariables false
set_option linter.unusedSimpArgs false
set_option linter.unusedSectionVars false
set_option linter.unusedVariables false
set_option linter.unusedSimpArgs false
set_option maxRecDepth 100000

/-- the last slab of a solid is its top -/
theorem solid_top {l:List Box} (h : ∀ b ∈ l,VB b) (hne:l ≠ []) {out:List Slab} (hs:IsSolid (bcells l) out) : ∃ t b,out = t ++ [b]∧(∀ x ∈ l,x.Z1 ≤ b.Z1)∧∃ x ∈ l,x.Z1 = b.Z1:=by
  have hz : ∀ x ∈ l,∃ b ∈ out,b.Z0 ≤ x.Z1 - 1∧x.Z1 - 1 < b.Z1:=by
    intro x hx
    have hV:=h x hx
    unfold VB VR at hV
    have hc:scells out x.Base.X0 x.Base.Y0 (x.Z1 - 1):=(hs.cells _ _ _).2 ⟨x,hx,by unfold rin; omega,by omega,by omega⟩
    obtain ⟨r,hr,_⟩:=hc
    unfold sect at hr
    rcases rval_mem (e:=([]:List Rect)) (l:=slabRuns out) (x:=x.Z1 - 1) with e | ⟨a,b,hm,h1,h2⟩
    · rw [e] at hr; simp at hr
    · obtain ⟨s, hs1, hs2⟩ := List.mem_map.1 hm
      simp only [Prod.mk.injEq] at hs2
      exact ⟨s,hs1,by omega,by omega⟩
  rcases List.eq_nil_or_concat out with e | ⟨t,b,e⟩
  · obtain ⟨x, hx⟩ := List.exists_mem_of_ne_nil l hne
    obtain ⟨b,hb,_⟩:=hz x hx
    rw [e] at hb; simp at hb
  · rw [List.concat_eq_append] at e
    have hc:=hs.canon
    rw [e,slabRuns_append] at hc
    have hl:=canon_last (l:=slabRuns t) (a:=b.Z0) (b:=b.Z1) (v:=b.Area) hc
    have he:=canon_ends (l:=slabRuns t) (a:=b.Z0) (b:=b.Z1) (v:=b.Area) hc
    have hle : ∀ s ∈ out,s.Z1 ≤ b.Z1:=by
      intro s hs'
      rw [e] at hs'
      rcases List.mem_append.1 hs' with h1 | h1
      · have := he (s.Z0, s.Z1, s.Area) (List.mem_map.2 ⟨s, h1, rfl⟩)
        dsimp only at this
        omega
      · obtain rfl := List.mem_singleton.1 h1
        exact Int.le_refl _
    have hall : ∀ x ∈ l,x.Z1 ≤ b.Z1:=by
      intro x hx
      obtain ⟨s,h1,h2,h3⟩:=hz x hx
      have:=hle s h1
      omega
    refine ⟨t,b,e,hall,?_⟩
    have hsec:sect out (b.Z1 - 1) = b.Area:=sect_mem hs.canon (by rw [e]; simp) (by omega) (by omega)
    obtain ⟨r,hr⟩:=List.exists_mem_of_ne_nil b.Area hl.2.1
    have hf:=hs.form (b.Z1 - 1)
    rw [hsec] at hf
    have hrr:=form_rect hf r hr
    have hcell:bcells l r.X0 r.Y0 (b.Z1 - 1):=(hf.cells r.X0 r.Y0).1 ⟨r,hr,by unfold rin; omega⟩
    obtain ⟨x,hx,_,h1,h2⟩:=hcell
    exact ⟨x,hx,by have:=hall x hx; omega⟩
theorem maxL_is {α:Type} {g:α → Int} {M:Int} : ∀ {l:List α},0 ≤ M → (∀ x ∈ l,g x ≤ M) → (∃ x ∈ l,g x = M) → maxL g l = M:=by
  intro l h0 h1 h2
  have key : ∀ l:List α,(∀ x ∈ l,g x ≤ M) → maxL g l ≤ M:=by
    intro l
    induction l with
    | nil=>intro _; exact h0
    | cons y l ih=>intro h; have:=ih fun x hx=>h x (List.mem_cons_of_mem _ hx); have:=h y List.mem_cons_self; rw [maxL]; omega
  have key2 : ∀ (l:List α) (x:α),x ∈ l → g x ≤ maxL g l:=by
    intro l
    induction l with
    | nil=>intro x hx; simp at hx
    | cons y l ih =>
      intro x hx
      rw [maxL]
      rcases List.mem_cons.1 hx with rfl | hx
      · omega
      · have:=ih x hx; omega
  obtain ⟨x,hx,e⟩:=h2
  have:=key l h1
  have:=key2 l x hx
  omega
theorem maxL_ge {α:Type} {g:α → Int} : ∀ {l:List α} {x:α},x ∈ l → g x ≤ maxL g l:=by
  intro l
  induction l with
  | nil=>intro x hx; simp at hx
  | cons y l ih =>
    intro x hx
    rw [maxL]
    rcases List.mem_cons.1 hx with rfl | hx
    · omega
    · have:=ih hx; omega
theorem covM_sub {l m:List Rect} {M:Nat} (h : ∀ x y,cells l x y → cells m x y):covM l M ≤ covM m M:=by
  have key : ∀ x,colM l M x 0 ≤ colM m M x 0:=fun x=>by
    have e:colM m M x 0 = colM l M x 0 + sumN (fun j=>indP ((0 ≤ (j:Int)∧cells m x j)∧¬ (0 ≤ (j:Int)∧cells l x j))) M:=by
      unfold colM
      rw [← sumN_add]
      refine sumN_congr fun j _=>?_
      by_cases c:0 ≤ (j:Int)∧cells l x j
      · have c2 : 0 ≤ (j : Int) ∧ cells m x j := ⟨c.1, h _ _ c.2⟩
        rw [indP_t c,indP_t c2,indP_f (fun h=>h.2 c)]; rfl
      · rw [indP_f c, Int.zero_add]
        exact indP_c ⟨fun h=>⟨h,c⟩,fun h=>h.1⟩
    have:=sumN_nonneg (f:=fun j:Nat=>indP ((0 ≤ (j:Int)∧cells m x j)∧¬ (0 ≤ (j:Int)∧cells l x j))) (n:=M) fun i _=>(indP_bounds _).1
    omega
  unfold covM
  have e:sumN (fun x=>colM m M x 0) M = sumN (fun x=>colM l M x 0) M + sumN (fun x:Nat=>colM m M x 0 - colM l M x 0) M:=by
    rw [← sumN_add]
    exact sumN_congr fun x _=>by omega
  have:=sumN_nonneg (f:=fun x:Nat=>colM m M x 0 - colM l M x 0) (n:=M) fun i _=>by have:=key i; omega
  omega
theorem common_eq {a c:List Rect} (ha:RR a) (hc:RR c) : ∃ out,IsForm (fun x y=>cells a x y∧cells c x y) out∧region_Common a c = some (lim out):=by
  obtain ⟨out,h1,h2⟩:=combine_fine (keep:=region_Common_1) (kb:=fun p q=>p && q) (fun p q=>rfl) rfl ha hc
  exact ⟨out,h1.congr fun x y=>by simp,by unfold region_Common; rw [h2,Option.bind_some]⟩
theorem oneM_form {r:Rect} (h:VR r):IsForm (cells [r]) [r]:=by
  refine ⟨[(r.X0,r.X1,[(r.Y0,r.Y1,true)])],?_,?_,?_,?_⟩
  · unfold VR at h
    exact ⟨by omega,by simp,trivial,trivial⟩
  · intro a b c hc
    simp only [List.mem_singleton,Prod.mk.injEq] at hc
    obtain ⟨_,_,rfl⟩:=hc
    unfold VR at h
    exact ⟨by omega,by simp,trivial,trivial⟩
  · intro x y
    unfold cells rin
    simp only [rval,List.mem_singleton,exists_eq_left]
    by_cases hx:r.X0 ≤ x∧x < r.X1
    · rw [if_pos hx]
      simp only [rval]
      by_cases hy:r.Y0 ≤ y∧y < r.Y1
      · rw [if_pos hy]; simp [hx,hy]
      · rw [if_neg hy]; simp; intro _ _ h1; omega
    · rw [if_neg hx]
      simp only [rval]
      simp; intro h1 h2; exact absurd ⟨h1,h2⟩ hx
  · simp [flatG]
theorem one_RR {r:Rect} (h:VR r):RR [r]:=⟨by simpa using h,by simp,oneM_form h⟩
/-- what a base has in common with a lot -/
theorem common_one {a:List Rect} (ha:RR a) {b:Rect} (hb:VR b) : ∃ c,region_Common a [b] = some c∧(c.2 = 0 → ∃ n,region_Area c.1 = some n∧(arR b ≤ n → ∀ x y,rin b x y → cells a x y)):=by
  obtain ⟨out,h1,h2⟩:=common_eq ha (one_RR hb)
  refine ⟨_,h2,?_⟩
  unfold lim
  by_cases hl:200 < out.length
  · rw [if_pos hl]; intro h; simp at h
  rw [if_neg hl]
  intro _
  dsimp only
  have h1' : IsForm (fun x y=>rin b x y∧cells a x y) out:=h1.congr fun x y=>by rw [cells_one]; exact and_comm
  have hv : ∀ r ∈ out,VR r:=VR_grid h1' fun x y h=>cells_grid ha.1 h.2
  have hRR:RR out:=⟨hv,by omega,h1.self⟩
  refine ⟨_,region_Area_fine hRR,fun hle=>?_⟩
  have hA:areaL out = inA b 1048576 a:=by
    classical
    rw [area_form h1' (M:=1048576) (fun r hr=>by have:=hv r hr; unfold VR at this; omega)]
    unfold inA
    refine sumN_congr fun x _=>sumN_congr fun y _=>?_
    by_cases c:rin b x y∧cells a x y
    · rw [indP_t c,decide_eq_true c]; rfl
    · rw [indP_f c,decide_eq_false c]; rfl
  have hup:inA b 1048576 a ≤ arR b:=by
    have e:inA b 1048576 a + sumN (fun x=>sumN (fun y=>indP (rin b x y∧¬ cells a x y)) 1048576) 1048576 = arR b:=by
      unfold arR
      rw [area_ind hb rfl]
      unfold inA
      rw [← sumN_add]
      refine sumN_congr fun x _=>?_
      rw [← sumN_add]
      refine sumN_congr fun y _=>?_
      by_cases c:rin b x y
      · by_cases c2 : cells a x y
        · rw [indP_t ⟨c,c2⟩,indP_f fun h=>h.2 c2,indP_t c]; rfl
        · rw [indP_f fun h=>c2 h.2,indP_t ⟨c,c2⟩,indP_t c]; rfl
      · rw [indP_f fun h=>c h.1,indP_f fun h=>c h.1,indP_f c]; rfl
    have:=sumN_nonneg (f:=fun x:Nat=>sumN (fun y=>indP (rin b x y∧¬ cells a x y)) 1048576) (n:=1048576) fun i _=>sumN_nonneg fun j _=>(indP_bounds _).1
    omega
  exact (inA_full rfl hb).1 (show inA b 1048576 a = arR b by omega)
theorem dright_L0 {lot:Lot} (ha:RR lot.Area) {l:List Volume} (hl:l.length ≤ 1000000) (hv : ∀ v ∈ l,RV v) :
    ∃ f,iterL (drawing_Right_L0 lot l) (l.length + 1) 0 = some f∧f.ends∧(match f with | .ex _ _=>∀ v ∈ l,∀ x y,rin v.Box.Base x y → cells lot.Area x y | .ret r=>r = false | .go _=>False):=by
  refine loop_up (fun i s=>s = ((i:Nat):Int)∧∀ m (hm:m < l.length),m < i → ∀ x y,rin l[m].Box.Base x y → cells lot.Area x y) l.length _ ?_ ?_ 0 ⟨rfl,fun m _ h=>by omega⟩ _ (by omega)
  · intro i s hi ⟨hs, hI⟩
    subst hs
    have hV:=hv _ (List.getElem_mem hi)
    obtain ⟨c,hc,hcs⟩:=common_one ha hV.1
    unfold drawing_Right_L0
    rw [if_pos (by simpa using hi),getI_nat hi,Option.bind_some,hc,Option.bind_some]
    by_cases c0:c.2 = 0
    · obtain ⟨n, hn, hnf⟩ := hcs c0
      rw [if_neg (by simp [c0]),hn,Option.bind_some,rect_Area_eq hV.1,Option.bind_some,Option.bind_some]
      by_cases c1:n < (l[i].Box.Base.X1 - l[i].Box.Base.X0) * (l[i].Box.Base.Y1 - l[i].Box.Base.Y0)
      · rw [decide_eq_true c1,if_pos rfl]; exact .inr ⟨_,rfl,trivial,rfl⟩
      · rw [decide_eq_false c1, if_neg (by simp), addI_one (by omega)]
        refine .inl ⟨_,rfl,rfl,fun m hm hmi=>?_⟩
        by_cases e:m = i
        · subst e; exact hnf (by unfold arR; omega)
        · exact hI m hm (by omega)
    · rw [if_pos (by simpa using c0),Option.bind_some,if_pos rfl]; exact .inr ⟨_,rfl,trivial,rfl⟩
  · intro s ⟨hs, hI⟩
    subst hs
    unfold drawing_Right_L0
    rw [if_neg (by simp)]
    refine ⟨_,rfl,trivial,fun v hv=>?_⟩
    obtain ⟨m,hm,rfl⟩:=List.getElem_of_mem hv
    exact hI m hm hm
end Go.Proofs.YtagkmlkhaekldaaGreat

namespace Go.Proofs.YtagkmlkhaekldaaGreat
open Go.Gb
set_option linter.unusedVariables false
set_option linter.unusedSimpArgs false
set_option linter.unusedSectionVars false
set_option linter.unusedVariables false
set_option linter.unusedSimpArgs false
set_option maxRecDepth 100000

theorem containsCap_tot {s:List Cap} {f:Cap → Option Bool} (hl:s.length ≤ reachLen) (hf : ∀ x,Tot (f x)):Tot (slices_ContainsFunc_Cap s f):=by
  have hl:s.length ≤ 140737488351232:=hl
  unfold slices_ContainsFunc_Cap
  refine Tot.bind ?_ fun _ _=>Tot.pure _
  unfold slices_IndexFunc_Cap
  refine Tot.loop (tot_loop (fun s=>s) (fun _=>True) s.length ?_ ?_ 0 rfl trivial (by omega)) ?_
  · intro i n hi hn _
    subst hi
    unfold slices_IndexFunc_Cap_L0
    obtain ⟨b,hb⟩:=hf s[n]
    rw [if_pos (by simpa using hn),getI_nat hn,Option.bind_some,hb,Option.bind_some]
    cases b with
    | true=>exact .inr ⟨_,rfl,trivial⟩
    | false =>
      rw [if_neg (by simp),addI_one (by omega)]
      exact .inl ⟨_,rfl,rfl,trivial⟩
  · intro i hi _
    subst hi
    unfold slices_IndexFunc_Cap_L0
    rw [if_neg (by simp)]
    exact ⟨_,rfl,trivial⟩
  · intro x hx
    cases x with
    | go _=>exact hx.elim
    | ex _ _=>exact Tot.pure _
    | ret _=>exact Tot.pure _
theorem dright_L2 {p:Plan} (hC:p.Caps.length ≤ reachLen) {x:Phase} (h:x.Gives.length ≤ reachLen) : ∃ f,iterL (drawing_Right_L2 p x) (x.Gives.length + 1) 0 = some f∧f.ends:=by
  have h6:x.Gives.length ≤ 140737488351232:=h
  refine tot_loop (fun s=>s) (fun _=>True) x.Gives.length ?_ ?_ _ rfl trivial (by omega)
  · intro s i hs hi _
    subst hs
    unfold drawing_Right_L2
    obtain ⟨c,hc⟩:=containsCap_tot (s:=p.Caps) (f:=fun y0=>drawing_Right_1 y0 x.Gives[i]) hC fun y=>Tot.pure _
    rw [if_pos (by simpa using hi),getI_nat hi,Option.bind_some,hc,Option.bind_some]
    split
    · exact .inr ⟨_,rfl,trivial⟩
    · rw [addI_one (by omega)]
      exact .inl ⟨_,rfl,rfl,trivial⟩
  · intro s hs _
    subst hs
    unfold drawing_Right_L2
    rw [if_neg (by simp)]
    exact ⟨_,rfl,trivial⟩
theorem dright_L1 {p:Plan} (hC:p.Caps.length ≤ reachLen) {d:Drawing} (hd:d.Phases.length ≤ 100000) (hg : ∀ x ∈ d.Phases,x.Gives.length ≤ reachLen) : ∃ f,iterL (drawing_Right_L1 p d) (d.Phases.length + 1) 0 = some f∧f.ends:=by
  refine tot_loop (fun s=>s) (fun _=>True) d.Phases.length ?_ ?_ 0 rfl trivial (by omega)
  · intro s i hs hi _
    subst hs
    unfold drawing_Right_L1
    rw [if_pos (by simpa using hi),getI_nat hi,Option.bind_some]
    obtain ⟨f,hf,he⟩:=dright_L2 hC (hg _ (List.getElem_mem hi))
    rw [hf,Option.bind_some]
    cases f with
    | go _=>exact he.elim
    | ret r=>exact .inr ⟨_,rfl,trivial⟩
    | ex _ _ =>
      dsimp only
      rw [addI_one (by omega)]
      exact .inl ⟨_,rfl,rfl,trivial⟩
  · intro s hs _
    subst hs
    unfold drawing_Right_L1
    rw [if_neg (by simp)]
    exact ⟨_,rfl,trivial⟩
/-- a drawing that may stand on a lot -/
theorem drightM {p:Plan} {lot:Lot} {d:Drawing} (hC:p.Caps.length ≤ reachLen) (hla:lot.Area.length ≤ 100000) (hd:d.Phases.length ≤ 100000) (hl:(allV d).length ≤ 1000000) (hg : ∀ x ∈ d.Phases,x.Gives.length ≤ reachLen) :
    ∃ b,drawing_Right p lot d = some b∧(b = true → RR lot.Area∧∀ v ∈ allV d,∀ x y,rin v.Box.Base x y → cells lot.Area x y):=by
  obtain ⟨c,hc,hcs⟩:=formM hd hl hg
  unfold drawing_Right
  rw [hc,Option.bind_some]
  by_cases h0:(!c || (lot.Id != d.Lot)) = true
  · rw [if_pos h0,Option.bind_some,if_pos rfl]; exact ⟨_,rfl,fun h=>by simp at h⟩
  rw [if_neg h0]
  have hct:c = true:=by
    cases c with
    | true=>rfl
    | false=>simp at h0
  by_cases hR:RR lot.Area
  · rw [region_Right_true hR, Option.bind_some, Option.bind_some, if_neg (by simp)]
    unfold drawing_all
    rw [volumesM hd hl (Int.le_refl _),Option.bind_some,Option.bind_some]
    obtain ⟨f,h1,h2,h3⟩:=dright_L0 hR hl (hcs hct).2.2
    rw [h1,Option.bind_some]
    cases f with
    | go _=>exact h3.elim
    | ret r=>dsimp only at h3 ⊢; rw [h3]; exact ⟨_,rfl,fun h=>by simp at h⟩
    | ex _ _ =>
      dsimp only at h3 ⊢
      obtain ⟨g,g1,g2⟩:=dright_L1 hC hd hg
      rw [g1,Option.bind_some]
      cases g with
      | go _=>exact g2.elim
      | ret r=>exact ⟨r,rfl,fun _=>⟨hR,h3⟩⟩
      | ex _ _=>exact ⟨true,rfl,fun _=>⟨hR,h3⟩⟩
  · rw [region_Right_false hla hR, Option.bind_some, Option.bind_some, if_pos (by simp)]
    exact ⟨_,rfl,fun h=>by simp at h⟩
theorem area_ar {a:List Rect} (hl:a.length ≤ 100000):region_Area a = some (areaL (ar a)):=by
  unfold ar
  by_cases h:RR a
  · rw [if_pos h]; exact region_Area_fine h
  · rw [if_neg h,region_Area_bad hl h]; rfl
theorem lboxes_eq {l:List Volume} (h:l.length ≤ 1000):law20_boxes l = some (l.map (·.Box)):=by
  obtain ⟨f,h1,h2,h3⟩:=loop_up (body:=law20_boxes_L0 l) (fun i s=>s = ((l.take i).map (·.Box),((i:Nat):Int))) l.length
    (fun f=>∃ n,f = .ex 0 (l.map (·.Box),n)) (fun i s hi hs=>by
      subst hs
      unfold law20_boxes_L0
      rw [if_pos (by simpa using hi),getI_nat hi,Option.bind_some,appI_some (by simp; omega),Option.bind_some,addI_one (by omega)]
      refine .inl ⟨_,rfl,?_⟩
      rw [List.take_succ_eq_append_getElem hi,List.map_append]
      rfl) (fun s hs=>by
      subst hs
      unfold law20_boxes_L0
      rw [if_neg (by simp),List.take_length]
      exact ⟨_,rfl,trivial,_,rfl⟩) ([],0) (by simp) (l.length + ([]:List Box).length + 1) (by simp)
  unfold law20_boxes
  rw [h1,Option.bind_some]
  obtain ⟨n,rfl⟩:=h3
  rfl
theorem sto_extra {v:Volume} (h:v.Extra = true):sto v = 0:=by unfold sto; rw [if_neg (by simp [h])]
theorem sto_plain {v:Volume} (h:v.Extra = false) (hv:RV v):sto v = (v.Box.Z1 - v.Box.Z0 + 2) / 3:=by unfold sto; rw [if_pos ⟨h,hv⟩]
theorem solids_L0 {l:List Volume} (hl:l.length ≤ 40) (hv : ∀ v ∈ l,RV v) {m:List Entry} {N:Int} (hN:law20_number m ⟨#[102,108,111,111,114,115]⟩ = some N) (hge : ∀ v ∈ l,sto v ≤ N) {fuel:Nat} (hf:l.length < fuel) :
    ∃ n,iterL (law20_MeasureSolids_L0 m l) fuel (([]:List Rect),0,0) = some (.ex 0 (bs l,sumL flo l,n)):=by
  obtain ⟨f,h1,h2,h3⟩:=loop_up (body:=law20_MeasureSolids_L0 m l) (fun i s=>s = (bs (l.take i),sumL flo (l.take i),((i:Nat):Int))) l.length
    (fun f=>∃ n,f = .ex 0 (bs l,sumL flo l,n)) (fun i s hi hs=>by
      subst hs
      have hV:=hv _ (List.getElem_mem hi)
      have hG:=hge _ (List.getElem_mem hi)
      have hsb:=sto_bd l[i]
      have hfb:=flo_bd l[i]
      have hfl:flo l[i] = arR l[i].Box.Base * sto l[i]:=by unfold flo; rw [if_pos hV]
      have hX:=hV.1
      have hZ:=hV.2
      have hsum:=sumL_bd (f:=flo) (M:=4503599627370496) (l:=l.take i) fun v _=>flo_bd v
      have hlt:(l.take i).length ≤ 40:=by rw [List.length_take]; omega
      unfold law20_MeasureSolids_L0
      dsimp only
      rw [if_pos (by simpa using hi),getI_nat hi,Option.bind_some,appI_some (by simp; omega),Option.bind_some,Option.bind_some,flo_eq,Option.bind_some,Option.bind_some,sto_eq,Option.bind_some,Option.bind_some,Option.bind_some,subI_some (by unfold inI; omega),Option.bind_some,Option.bind_some]
      have hc1:(if (l[i].Extra && (sto l[i] != 0)) = true then some true else (some l[i]).bind fun w=>(if (!w.Extra) = true then (mulI 3 (sto l[i])).bind fun t=>(if decide (t < l[i].Box.Z1 - l[i].Box.Z0) = true then some true else (mulI 3 (sto l[i])).bind fun t2=>(addI (l[i].Box.Z1 - l[i].Box.Z0) 2).bind fun h2=>some (decide (h2 < t2))).bind fun x=>some x else some false).bind fun y=>some y) = some false:=by
        cases he:l[i].Extra with
        | true=>rw [sto_extra he]; simp [he]
        | false =>
          have hs:=sto_plain he hV
          simp only [Bool.false_and,Bool.false_eq_true,if_false,Option.bind_some,he,Bool.not_false,if_true]
          rw [mulI_some (by unfold inI; omega),Option.bind_some,if_neg (by simp; omega),Option.bind_some,addI_some (by unfold inI; omega),Option.bind_some,Option.bind_some,Option.bind_some,decide_eq_false (by omega)]
      rw [hc1,Option.bind_some,if_neg (by simp),addI_some (by unfold inI; omega),Option.bind_some,Option.bind_some,Option.bind_some]
      unfold VR at hX
      have hw:=mul_bd (a:=sto l[i]) (b:=l[i].Box.Base.X1 - l[i].Box.Base.X0) (by omega) (by omega) (by omega) (by omega)
      have hp:sto l[i] * (l[i].Box.Base.X1 - l[i].Box.Base.X0) * (l[i].Box.Base.Y1 - l[i].Box.Base.Y0) = flo l[i]:=by
        rw [hfl]; unfold arR; exact (Int.mul_assoc _ _ _).trans (Int.mul_comm _ _)
      rw [subI_some (by unfold inI; omega),Option.bind_some,mulI_some (by unfold inI; omega),Option.bind_some,Option.bind_some,Option.bind_some,subI_some (by unfold inI; omega),Option.bind_some,mulI_some (by rw [hp]; unfold inI; omega),Option.bind_some,hp,if_neg (by simp),hN,Option.bind_some,Option.bind_some,decide_eq_false (by omega),if_neg (by simp),addI_one (by omega)]
      refine .inl ⟨_,rfl,?_⟩
      rw [sumL_snoc hi,List.take_succ_eq_append_getElem hi]
      simp only [bs,List.map_append,List.map_cons,List.map_nil] <;> rfl) (fun s hs=>by
      subst hs
      unfold law20_MeasureSolids_L0
      rw [if_neg (by simp),List.take_length]
      exact ⟨_,rfl,trivial,_,rfl⟩) (([]:List Rect),0,0) (by simp [bs,sumL]) fuel hf
  obtain ⟨n,rfl⟩:=h3
  exact ⟨n,h1⟩
theorem law_MeasureSolids (p:Plan) (lot:Lot) (d:Drawing) (hd:d.Phases.length ≤ reachLen) (hv : ∀ x ∈ d.Phases,x.Volumes.length ≤ reachLen) (hg : ∀ x ∈ d.Phases,x.Gives.length ≤ reachLen) (hT:p.Tables.length ≤ reachLen) (hC:p.Caps.length ≤ reachLen):law20_MeasureSolids p lot d = some true:=by
  obtain ⟨b,hb,hbs⟩:=few20 p lot d hd hv hT
  unfold law20_MeasureSolids
  rw [small_true,Option.bind_some,hb,Option.bind_some]
  cases b with
  | false=>rfl
  | true=>
  obtain ⟨hp,hla,hph,hl⟩:=hbs rfl
  rw [if_neg (by simp)]
  obtain ⟨c,hc,hcs⟩:=formM (d:=d) (by omega) (by omega) hg
  rw [hc,Option.bind_some,Option.bind_some]
  cases c with
  | false=>rfl
  | true=>
  obtain ⟨hl1,hl40,hV⟩:=hcs rfl
  obtain ⟨q,hq,hqs⟩:=drightM (p:=p) (lot:=lot) (d:=d) hC (by omega) (by omega) (by omega) hg
  have hVs:=vols_all hl40 hV
  obtain ⟨B,_,hO⟩:=of_eq (p:=p) (lot:=lot) (d:=d) hp (by omega) (by omega) (by omega)
  rw [hVs] at hO
  rw [if_neg (by simp),hO,Option.bind_some,volumesM (by omega) (by omega) (Int.le_refl _),Option.bind_some]
  generalize allV d = l at *
  obtain ⟨n1,n2,n3,n4,n5,n6,n7,_,n9⟩:=number_of (areaL (ar lot.Area)) (covM (bs l) 1048576) (sumL flo l) (maxL sto l) (maxL (fun v=>v.Box.Z1) l) (sumL (fun v=>v.Units) l) B (sumL (tra p) l)
  obtain ⟨n,hn⟩:=solids_L0 (l:=l) hl40 hV n4 (fun v hv=>maxL_ge hv) (fuel:=(ent (areaL (ar lot.Area)) (covM (bs l) 1048576) (sumL flo l) (maxL sto l) (maxL (fun v=>v.Box.Z1) l) (sumL (fun v=>v.Units) l) B (sumL (tra p) l)).length + l.length + ([]:List Rect).length + 1) (by omega)
  rw [hn,Option.bind_some]
  dsimp only
  have hVR:=bs_VR hV
  have hbl:(bs l).length ≤ 40:=by simpa [bs] using hl40
  obtain ⟨o1,f1,r1⟩:=region_Of_fine (l:=bs l) hVR (by omega)
  have hVB : ∀ b ∈ l.map (·.Box),VB b:=fun b hb=>by
    obtain ⟨v,hv,rfl⟩:=List.mem_map.1 hb
    exact (hV v hv).VB
  have hne:l.map (·.Box) ≠ []:=by
    intro h
    have:=congrArg List.length h
    simp at this
    rw [this] at hl1
    simp at hl1
  obtain ⟨o2,f2,r2⟩:=solid_Of_fine (l:=l.map (·.Box)) hVB (by simp; omega)
  obtain ⟨t,tb,ht,ht1,ht2⟩:=solid_top hVB hne f2
  have hmax:maxL (fun v=>v.Box.Z1) l = tb.Z1:=by
    obtain ⟨x,hx,hxe⟩:=ht2
    obtain ⟨v,hv,rfl⟩:=List.mem_map.1 hx
    have hh:=hVB _ hx
    unfold VB at hh
    exact maxL_is (by omega) (fun v hv=>ht1 _ (List.mem_map.2 ⟨v,hv,rfl⟩)) ⟨v,hv,hxe⟩
  have hcond1:(if ((lim o1).2 == 0) = true then (law20_number (ent (areaL (ar lot.Area)) (covM (bs l) 1048576) (sumL flo l) (maxL sto l) (maxL (fun v=>v.Box.Z1) l) (sumL (fun v=>v.Units) l) B (sumL (tra p) l)) ⟨#[99,111,118,101,114]⟩).bind fun x=>(region_Area (lim o1).1).bind fun y=>some (x != y) else some false) = some false:=by
    unfold lim
    by_cases h:200 < o1.length
    · rw [if_pos h]; rfl
    · rw [if_neg h]
      have ho:=VR_form hVR f1
      dsimp only
      rw [if_pos (by decide),n2,Option.bind_some,region_Area_fine ⟨ho,by omega,f1.self⟩,Option.bind_some,covM_eq ho f1 rfl]
      simp
  have hcond2:(if (((slim o2).2 == 0) && (decide (0 < ((slim o2).1.length:Int)))) = true then (law20_number (ent (areaL (ar lot.Area)) (covM (bs l) 1048576) (sumL flo l) (maxL sto l) (maxL (fun v=>v.Box.Z1) l) (sumL (fun v=>v.Units) l) B (sumL (tra p) l)) ⟨#[104,101,105,103,104,116]⟩).bind fun x=>(subI ((slim o2).1.length:Int) 1).bind fun y=>(getI (slim o2).1 y).bind fun z=>some (x != z.Z1) else some false) = some false:=by
    unfold slim
    by_cases h:(∃ s ∈ o2,200 < s.Area.length) ∨ 80 < o2.length
    · rw [if_pos h]; rfl
    · rw [if_neg h]
      have hlen:o2.length = t.length + 1:=by rw [ht]; simp
      have h80:o2.length ≤ 80:=by
        have:=fun h'=>h (.inr h')
        omega
      have hg:getI o2 (t.length:Int) = some tb:=by
        rw [getI_nat (by omega)]
        subst ht
        simp
      dsimp only
      rw [if_pos (by simp; omega),n5,Option.bind_some,subI_some (by unfold inI; omega),Option.bind_some,show (o2.length:Int) - 1 = (t.length:Int) by omega,hg,Option.bind_some,hmax]
      simp
  have hcond3:(((slim o2).2 == 0) && ((((slim o2).1.length:Nat):Int) == 0)) = false:=by
    unfold slim
    by_cases h:(∃ s ∈ o2,200 < s.Area.length) ∨ 80 < o2.length
    · rw [if_pos h]; rfl
    · rw [if_neg h, ht]
      simp
      omega
  rw [r1,Option.bind_some,lboxes_eq (by omega),Option.bind_some,r2,Option.bind_some,hcond1,Option.bind_some,if_neg (by simp),hcond2,Option.bind_some,Option.bind_some,if_neg (by simp),hcond3,if_neg (by simp),n3,Option.bind_some,Option.bind_some,if_neg (by simp),n7,Option.bind_some,n2,Option.bind_some,Option.bind_some,if_neg (by simp),if_pos rfl,hq,Option.bind_some]
  have hcov:q = true → covM (bs l) 1048576 ≤ areaL (ar lot.Area):=by
    intro h
    obtain ⟨hR,hin⟩:=hqs h
    unfold ar
    rw [if_pos hR,← covM_eq hR.1 hR.2.2 (M:=1048576) rfl]
    refine covM_sub fun x y hxy=>?_
    obtain ⟨r,hr,hr2⟩:=hxy
    obtain ⟨v,hv,rfl⟩:=List.mem_map.1 hr
    exact hin v hv x y hr2
  have hfin:(if (!q) = true then some true else (some (covM (bs l) 1048576)).bind fun x=>(law20_number (ent (areaL (ar lot.Area)) (covM (bs l) 1048576) (sumL flo l) (maxL sto l) (maxL (fun v=>v.Box.Z1) l) (sumL (fun v=>v.Units) l) B (sumL (tra p) l)) ⟨#[97,114,101,97]⟩).bind fun y=>some (decide (x ≤ y))) = some true:=by
    cases q with
    | false=>rfl
    | true=>rw [if_neg (by simp),Option.bind_some,n1,Option.bind_some,decide_eq_true (hcov rfl)]
  rw [hfin,Option.bind_some,Option.bind_some,if_pos rfl,n1,Option.bind_some,area_ar (by omega),Option.bind_some]
  simp
end Go.Proofs.YtagkmlkhaekldaaGreat

