/- The plain part of the proof (no program in sight), part 1 -/
import Derived.Test.YtagkmlkhaekldaaGreatT2
namespace Go.Proofs.YtagkmlkhaekldaaGreat
open Go.Gb
set_option linter.unusedVariables false
structure Slab where
  Z0:Int
  Z1:Int
  Area:(List Rect)
  deriving DecidableEq,Inhabited
def solid_heights_L1 (x3745_0:(List Slab)) (s3747:(List Int) × Int):Option (Flow ((List Int) × Int) ((List Int))):=
  if (decide (s3747.2 < (x3745_0.length:Int))) then
    (getI x3745_0 s3747.2).bind fun x3752_0=>
    (appI s3747.1 ([x3752_0.Z0,x3752_0.Z1])).bind fun x3753_6=>
    (addI s3747.2 1).bind fun x3754_0=>
    some (.go (x3753_6,x3754_0))
  else
    some (.ex 2 (s3747.1,s3747.2))
def solid_heights_L0 (lists_:(List (List Slab))) (s3740:(List Int) × Int):Option (Flow ((List Int) × Int) ((List Int))):=
  if (decide (s3740.2 < (lists_.length:Int))) then
    (getI lists_ s3740.2).bind fun x3745_0=>
    (iterL (solid_heights_L1 x3745_0) (x3745_0.length + 1) (s3740.1,0)).bind fun f3764=>match f3764 with
      | .go _=>none
      | .ex _ s3765 =>
        (addI s3740.2 1).bind fun x3766_0=>
        some (.go (s3765.1,x3766_0))
      | .ret r3769=>some (.ret r3769)
  else
    some (.ex 0 (s3740.1,s3740.2))
def solid_heights (lists_:(List (List Slab))):Option ((List Int)):=
  (iterL (solid_heights_L0 lists_) (lists_.length + 1) (([]:List Int),0)).bind fun f3778=>match f3778 with
    | .go _=>none
    | .ex _ s3779 =>
      (sortInts s3779.1).bind fun x3780_1=>
      (compactInts x3780_1).bind fun x3781_1=>
      some x3781_1
    | .ret r3787=>some r3787
def region_Same (a_:(List Rect)) (b_:(List Rect)):Option (Bool):=
  (slices_Equal_Rect a_ b_).bind fun x3796_2=>
  some x3796_2
def solid_put (out_:(List Slab)) (x_:Slab):Option ((List Slab)):=
  if ((x_.Area.length:Int) == 0) then
    some out_
  else
    (subI (out_.length:Int) 1).bind fun x3806_2=>
    (if (decide (0 ≤ x3806_2)) then
      (getI out_ x3806_2).bind fun x3807_5=>
      some (x3807_5.Z1 == x_.Z0)
    else
      some false).bind fun x3807_11=>
    (if x3807_11 then
      (getI out_ x3806_2).bind fun x3807_15=>
      (region_Same x3807_15.Area x_.Area).bind fun x3807_20=>
      some x3807_20
    else
      some false).bind fun x3807_21=>
    if x3807_21 then
      (getI out_ x3806_2).bind fun x3808_4=>
      (some (out_.set (x3806_2).toNat ({ x3808_4 with Z1:=x_.Z1 }))).bind fun x3808_6=>
      some x3808_6
    else
      (appI out_ ([x_])).bind fun x3814_3=>
      some x3814_3
def solid_fits (out_:(List Slab)):Option ((List Slab) × Int):=
  if (decide (80 < (out_.length:Int))) then
    some (([]:List Slab),6)
  else
    some (out_,0)
def solid_Of_L0 (l_:(List Box)) (s3843:(List Slab) × Int):Option (Flow ((List Slab) × Int) ((List Slab) × Int)):=
  if (decide (s3843.2 < (l_.length:Int))) then
    (getI l_ s3843.2).bind fun x3848_0=>
    (rect_Right x3848_0.Base).bind fun x3849_2=>
    if ((((!x3849_2) || (decide (x3848_0.Z0 < 0))) || (decide (x3848_0.Z1 ≤ x3848_0.Z0))) || (decide (4096 < x3848_0.Z1))) then
      some (.ret (([]:List Slab),1))
    else
      (appI s3843.1 ([(⟨x3848_0.Z0,x3848_0.Z1,[]⟩:Slab)])).bind fun x3853_7=>
      (addI s3843.2 1).bind fun x3854_0=>
      some (.go (x3853_7,x3854_0))
  else
    some (.ex 0 (s3843.1,s3843.2))
def solid_Of_L2 (l_:(List Box)) (x3874_2:(List Int)) (s3877:(List Slab) × Int) (s3884:(List Rect) × Int):Option (Flow ((List Rect) × Int) ((List Slab) × Int)):=
  if (decide (s3884.2 < (l_.length:Int))) then
    (getI l_ s3884.2).bind fun x3889_0=>
    (getI x3874_2 s3877.2).bind fun x3890_4=>
    (if (decide (x3889_0.Z0 < x3890_4)) then
      (subI s3877.2 1).bind fun x3890_10=>
      (getI x3874_2 x3890_10).bind fun x3890_11=>
      some (decide (x3890_11 < x3889_0.Z1))
    else
      some false).bind fun x3890_16=>
    (if x3890_16 then
      (appI s3884.1 ([x3889_0.Base])).bind fun x3893_4=>
      some x3893_4
    else
      some s3884.1).bind fun s3891=>
    (addI s3884.2 1).bind fun x3897_0=>
    some (.go (s3891,x3897_0))
  else
    some (.ex 4 (s3884.1,s3884.2))
def solid_Of_L1 (l_:(List Box)) (x3874_2:(List Int)) (s3877:(List Slab) × Int):Option (Flow ((List Slab) × Int) ((List Slab) × Int)):=
  if (decide (s3877.2 < (x3874_2.length:Int))) then
    (iterL (solid_Of_L2 l_ x3874_2 s3877) (l_.length + 1) (([]:List Rect),0)).bind fun f3909=>match f3909 with
      | .go _=>none
      | .ex _ s3910 =>
        (region_Of s3910.1).bind fun x3911_1=>
        if (x3911_1.2 != 0) then
          some (.ret (([]:List Slab),x3911_1.2))
        else
          (subI s3877.2 1).bind fun x3916_3=>
          (getI x3874_2 x3916_3).bind fun x3916_4=>
          (getI x3874_2 s3877.2).bind fun x3916_8=>
          (solid_put s3877.1 (⟨x3916_4,x3916_8,x3911_1.1⟩:Slab)).bind fun x3916_12=>
          (addI s3877.2 1).bind fun x3917_1=>
          some (.go (x3916_12,x3917_1))
      | .ret r3927=>some (.ret r3927)
  else
    some (.ex 2 (s3877.1,s3877.2))
def solid_Of (l_:(List Box)):Option ((List Slab) × Int):=
  (iterL (solid_Of_L0 l_) (l_.length + 1) (([]:List Slab),0)).bind fun f3868=>match f3868 with
    | .go _=>none
    | .ex _ s3869 =>
      if (decide (200 < (l_.length:Int))) then
        some (([]:List Slab),6)
      else
        (solid_heights ([s3869.1])).bind fun x3874_2=>
        (iterL (solid_Of_L1 l_ x3874_2) (l_.length + x3874_2.length + ([]:List Slab).length + 1) (([]:List Slab),1)).bind fun f3937=>match f3937 with
          | .go _=>none
          | .ex _ s3938 =>
            (solid_fits s3938.1).bind fun x3939_1=>
            some (x3939_1.1,x3939_1.2)
          | .ret r3942=>some r3942
    | .ret r3953=>some r3953
end Go.Proofs.YtagkmlkhaekldaaGreat

namespace Go.Proofs.YtagkmlkhaekldaaGreat
open Go.Gb
set_option linter.unusedVariables false
set_option linter.unusedSimpArgs false
set_option linter.unusedSectionVars false
set_option linter.unusedVariables false
set_option linter.unusedSimpArgs false

/-- The cell (x, y) is in the rectangle. -/
def rin (r:Rect) (x y:Int):Prop:=(r.X0 ≤ x∧x < r.X1)∧r.Y0 ≤ y∧y < r.Y1
instance (r:Rect) (x y:Int):Decidable (rin r x y):=inferInstanceAs (Decidable (_∧_))
def cells (l:List Rect) (x y:Int):Prop:=∃ r ∈ l,rin r x y
def VR (r:Rect):Prop:=0 ≤ r.X0∧r.X0 < r.X1∧r.X1 ≤ 1048576∧0 ≤ r.Y0∧r.Y0 < r.Y1∧r.Y1 ≤ 1048576
instance (r:Rect):Decidable (VR r):=inferInstanceAs (Decidable (_∧_))
abbrev Col:=Runs Bool
def spanRuns (l:List RegionSpan):Col:=l.map fun s=>(s.from_,s.to_,true)
theorem spanRuns_append (a b:List RegionSpan):spanRuns (a ++ b) = spanRuns a ++ spanRuns b:=List.map_append
theorem spanRuns_inj : ∀ {a b:List RegionSpan},spanRuns a = spanRuns b → a = b
  | [],[],_=>rfl
  | [],_::_,h=>by simp [spanRuns] at h
  | _::_,[],h=>by simp [spanRuns] at h
  | ⟨f, t⟩ :: a, ⟨f', t'⟩ :: b, h => by
    simp only [spanRuns,List.map_cons,List.cons.injEq,Prod.mk.injEq] at h
    obtain ⟨⟨rfl,rfl,_⟩,h⟩:=h
    rw [spanRuns_inj (a:=a) (b:=b) h]
theorem rect_Right_eq (r:Rect):rect_Right r = some (decide (VR r)):=by
  unfold rect_Right
  congr 1
  rw [Bool.eq_iff_iff,decide_eq_true_iff]
  simp only [Bool.and_eq_true,decide_eq_true_eq]
  unfold VR
  constructor
  · rintro ⟨⟨⟨⟨⟨h1,h2⟩,h3⟩,h4⟩,h5⟩,h6⟩; exact ⟨h1,h2,h3,h4,h5,h6⟩
  · rintro ⟨h1,h2,h3,h4,h5,h6⟩; exact ⟨⟨⟨⟨⟨h1,h2⟩,h3⟩,h4⟩,h5⟩,h6⟩

/-! Merging intervals in the order of their beginnings. -/
def addIv (out:List RegionSpan) (s:RegionSpan):List RegionSpan:=
  match out.getLast? with
  | some t=>if s.from_ ≤ t.to_ then out.dropLast ++ [⟨t.from_,max t.to_ s.to_⟩] else out ++ [s]
  | none=>[s]
theorem addIv_spec {out:List RegionSpan} {s:RegionSpan} (hc:Canon false (spanRuns out)) (hs:s.from_ < s.to_) (hle : ∀ t ∈ out,t.from_ ≤ s.from_) :
    Canon false (spanRuns (addIv out s))∧(∀ y,rval false (spanRuns (addIv out s)) y = true ↔ rval false (spanRuns out) y = true ∨ (s.from_ ≤ y∧y < s.to_)) ∧
    (∀ t ∈ addIv out s,t.from_ ≤ s.from_)∧(addIv out s).length ≤ out.length + 1:=by
  rcases List.eq_nil_or_concat out with rfl | ⟨o,t,rfl⟩
  · refine ⟨⟨hs, by simp, trivial, trivial⟩, fun y => ?_, fun t ht => by simp [addIv] at ht; subst ht; exact Int.le_refl _, by simp [addIv]⟩
    simp [addIv,spanRuns,rval]
  · rw [List.concat_eq_append] at *
    have ht:=hle t (by simp)
    have e:spanRuns (o ++ [t]) = spanRuns o ++ [(t.from_,t.to_,true)]:=by simp [spanRuns]
    rw [e] at hc ⊢
    obtain ⟨h1,h2,h3⟩:=canon_last hc
    have h4:=canon_ends hc
    unfold addIv
    simp only [List.getLast?_append,List.getLast?_singleton,Option.some_or,List.dropLast_concat]
    split
    · rename_i hm
      rw [spanRuns_append]
      refine ⟨canon_snoc (canon_prefix hc) h3 (show t.from_ < max t.to_ s.to_ by omega) (by simp),fun y=>?_,fun u hu=>?_,by simp⟩
      · show rval false (spanRuns o ++ [(t.from_, max t.to_ s.to_, true)]) y = true ↔ _
        rw [rval_snoc h4,rval_snoc h4]
        by_cases a1:t.from_ ≤ y∧y < t.to_
        · rw [if_pos (by omega),if_pos a1]; simp
        · rw [if_neg a1]
          by_cases a2:t.from_ ≤ y∧y < max t.to_ s.to_
          · rw [if_pos a2]; simp; right; omega
          · rw [if_neg a2]
            constructor
            · exact .inl
            · rintro (h | h)
              · exact h
              · exact absurd (by omega) a2
      · rcases List.mem_append.1 hu with hu | hu
        · exact hle u (by simp [hu])
        · simp at hu; subst hu; exact ht
    · rename_i hm
      rw [spanRuns_append,e]
      have h5:EndsBy (spanRuns o ++ [(t.from_,t.to_,true)]) s.from_:=by
        intro r hr
        rcases List.mem_append.1 hr with hr | hr
        · have:=h4 r hr; omega
        · simp at hr; subst hr; show t.to_ ≤ _; omega
      refine ⟨canon_snoc hc (fun r hr=>by simp at hr; subst hr; exact .inl (by show t.to_ < _; omega)) hs (by simp),fun y=>?_,fun u hu=>?_,by simp⟩
      · show rval false ((spanRuns o ++ [(t.from_, t.to_, true)]) ++ [(s.from_, s.to_, true)]) y = true ↔ _
        rw [rval_snoc h5]
        by_cases a1:s.from_ ≤ y∧y < s.to_
        · rw [if_pos a1]; simp [a1]
        · rw [if_neg a1]; simp [a1]
      · rcases List.mem_append.1 hu with hu | hu
        · exact hle u hu
        · simp at hu; subst hu; exact Int.le_refl _
theorem addIv_fold : ∀ (r out:List RegionSpan),Canon false (spanRuns out) → (∀ s ∈ r,s.from_ < s.to_) → r.Pairwise (fun a b=>a.from_ ≤ b.from_) → (∀ t ∈ out,∀ s ∈ r,t.from_ ≤ s.from_) →
    Canon false (spanRuns (r.foldl addIv out))∧(∀ y,rval false (spanRuns (r.foldl addIv out)) y = true ↔ rval false (spanRuns out) y = true ∨ ∃ s ∈ r,s.from_ ≤ y∧y < s.to_)∧(r.foldl addIv out).length ≤ out.length + r.length
  | [],out,hc,_,_,_=>⟨hc,fun y=>by simp,by simp⟩
  | s :: r, out, hc, hs, hp, hle => by
    obtain ⟨h1,h2,h3,h4⟩:=addIv_spec hc (hs s (by simp)) (fun t ht=>hle t ht s (by simp))
    have hp':=List.pairwise_cons.1 hp
    obtain ⟨k1,k2,k3⟩:=addIv_fold r (addIv out s) h1 (fun t ht=>hs t (by simp [ht])) hp'.2 (fun t ht u hu=>by
      have:=h3 t ht; have:=hp'.1 u hu; omega)
    refine ⟨k1,fun y=>?_,by simp only [List.foldl_cons,List.length_cons]; omega⟩
    rw [List.foldl_cons,k2,h2]
    simp [or_assoc]

/-! The column of rectangles at x. -/
def colAt (l:List Rect) (x:Int):List RegionSpan:=(l.filter fun r=>decide (r.X0 ≤ x) && decide (x < r.X1)).map fun r=>⟨r.Y0,r.Y1⟩
theorem column_L0 {l:List Rect} {x:Int} (hl:l.length ≤ 100000) :
    iterL (region_column_L0 l x) (l.length + 1) (([]:List RegionSpan),0) = some (.ex 0 (colAt l x,(l.length:Int))):=by
  refine (iter_range (k:=0) (l:=l) (fun s i=>(s,i)) (fun s r=>if (decide (r.X0 ≤ x) && decide (x < r.X1)) then s ++ [⟨r.Y0,r.Y1⟩] else s) (fun i s=>s.length ≤ i) ?_ ?_ (Nat.zero_le _) (by omega)).1.trans ?_
  · intro i hi s hI
    constructor
    · unfold region_column_L0
      dsimp only
      rw [if_pos (by simpa using hi),getI_nat hi,Option.bind_some]
      split
      · rw [appI_some (by simp; omega),Option.bind_some,Option.bind_some,addI_one (by omega),Option.bind_some]
      · rw [Option.bind_some,addI_one (by omega),Option.bind_some]
    · split
      · simp; omega
      · omega
  · intro s _
    unfold region_column_L0
    dsimp only
    rw [if_neg (by simp)]
  · rw [foldl_filterMap (fun r : Rect => decide (r.X0 ≤ x) && decide (x < r.X1)) (fun r => (⟨r.Y0, r.Y1⟩ : RegionSpan))]
    rfl
theorem column_L1 {r:List RegionSpan} (hl:r.length ≤ 100000) :
    iterL (region_column_L1 r) (r.length + 1) (([]:List RegionSpan),0) = some (.ex 2 (r.foldl addIv [],(r.length:Int))):=by
  refine (iter_range (k:=2) (l:=r) (fun s i=>(s,i)) addIv (fun i s=>s.length ≤ i) ?_ ?_ (Nat.zero_le _) (by omega)).1
  · intro i hi s hI
    rcases List.eq_nil_or_concat s with rfl | ⟨o,t,rfl⟩
    · constructor
      · unfold region_column_L1
        dsimp only
        rw [if_pos (by simpa using hi),getI_nat hi,Option.bind_some,if_neg (by simp),Option.bind_some,if_neg (by simp),appI_some (by simp),Option.bind_some,Option.bind_some,addI_one (by omega),Option.bind_some]
        rfl
      · simp [addIv]
    · rw [List.concat_eq_append] at *
      have hol:o.length + 1 ≤ i:=by simpa using hI
      constructor
      · unfold region_column_L1
        dsimp only
        rw [if_pos (by simpa using hi),getI_nat hi,Option.bind_some,if_pos (by simp)]
        simp only [subI_len (l:=o) (x:=t) (by omega),getI_concat (l:=o) (x:=t) rfl,Option.bind_some]
        by_cases hm:r[i].from_ ≤ t.to_
        · rw [if_pos (by simpa using hm), set_concat (by simp), Option.bind_some, addI_one (by omega), Option.bind_some]
          simp [addIv,hm]
        · rw [if_neg (by simpa using hm), appI_some (by simp; omega), Option.bind_some, Option.bind_some, addI_one (by omega), Option.bind_some]
          simp [addIv,hm]
      · unfold addIv
        simp only [List.getLast?_append,List.getLast?_singleton,Option.some_or,List.dropLast_concat]
        split <;> simp <;> omega
  · intro s _
    unfold region_column_L1
    dsimp only
    rw [if_neg (by simp)]

/-- The canonical column of a list of rectangles at x. -/
structure IsCol (l:List Rect) (x:Int) (c:List RegionSpan):Prop where
  canon:Canon false (spanRuns c)
  val : ∀ y,rval false (spanRuns c) y = true ↔ cells l x y
  len:c.length ≤ l.length
theorem column_spec {l:List Rect} {x:Int} (hv : ∀ r ∈ l,VR r) (hl:l.length ≤ 100000) : ∃ c,region_column l x = some c∧IsCol l x c:=by
  have hcl:(colAt l x).length ≤ l.length:=by unfold colAt; rw [List.length_map]; exact List.length_filter_le _ _
  obtain ⟨r,hr,hp,hs⟩:=sortSpans_spec (l:=colAt l x) (by omega)
  have hrl:=hp.length_eq
  have hpos : ∀ s ∈ r,s.from_ < s.to_:=by
    intro s hs
    have:=hp.mem_iff.1 hs
    simp only [colAt,List.mem_map,List.mem_filter] at this
    obtain ⟨q,⟨hq,_⟩,rfl⟩:=this
    exact (hv q hq).2.2.2.2.1
  obtain ⟨h1,h2,h3⟩:=addIv_fold r [] trivial hpos hs (by simp)
  refine ⟨r.foldl addIv [],?_,h1,fun y=>?_,by simp at h3; omega⟩
  · unfold region_column
    rw [column_L0 hl,Option.bind_some]
    dsimp only
    rw [hr,Option.bind_some,column_L1 (by omega),Option.bind_some]
  · rw [h2]
    simp only [spanRuns,List.map_nil,rval,Bool.false_eq_true,false_or]
    constructor
    · rintro ⟨s, hs, h⟩
      have:=hp.mem_iff.1 hs
      simp only [colAt,List.mem_map,List.mem_filter,Bool.and_eq_true,decide_eq_true_eq] at this
      obtain ⟨q,⟨hq,hx⟩,rfl⟩:=this
      exact ⟨q,hq,hx,h⟩
    · rintro ⟨q, hq, hx, h⟩
      refine ⟨⟨q.Y0,q.Y1⟩,hp.mem_iff.2 ?_,h⟩
      simp only [colAt,List.mem_map,List.mem_filter,Bool.and_eq_true,decide_eq_true_eq]
      exact ⟨q,⟨hq,hx⟩,rfl⟩
theorem IsCol.unique {l l' : List Rect} {x x' : Int} {c c' : List RegionSpan} (h:IsCol l x c) (h' : IsCol l' x' c') (he : ∀ y,cells l x y ↔ cells l' x' y):c = c':=by
  refine spanRuns_inj (canon_unique h.canon h'.canon fun y=>?_)
  rw [Bool.eq_iff_iff,h.val,h'.val,he]
end Go.Proofs.YtagkmlkhaekldaaGreat

namespace Go.Proofs.YtagkmlkhaekldaaGreat
open Go.Gb
set_option linter.unusedVariables false
set_option linter.unusedSimpArgs false
set_option linter.unusedSectionVars false
set_option linter.unusedVariables false
set_option linter.unusedSimpArgs false

/-! The list of rectangles that runs of columns stand for. -/
def flatG (G:Runs Col):List Rect:=G.flatMap fun g=>g.2.2.map fun s=>⟨g.1,s.1,g.2.1,s.2.1⟩
theorem flatG_append (G H:Runs Col):flatG (G ++ H) = flatG G ++ flatG H:=List.flatMap_append
theorem flatG_one (a b:Int) (c:List RegionSpan):flatG [(a,b,spanRuns c)] = c.map fun s=>⟨a,s.from_,b,s.to_⟩:=by
  simp [flatG,spanRuns]
/-- The list is the form of the set of cells. -/
def IsForm (S:Int → Int → Prop) (out:List Rect):Prop:=
  ∃ G:Runs Col,Canon [] G∧(∀ a b c,(a,b,c) ∈ G → Canon false c)∧(∀ x y,rval false (rval [] G x) y = true ↔ S x y)∧out = flatG G
theorem canon_at {G:Runs Col} (h : ∀ a b c,(a,b,c) ∈ G → Canon false c) (x:Int):Canon false (rval [] G x):=by
  rcases rval_mem (e:=[]) (l:=G) (x:=x) with h1 | ⟨a,b,h1,_⟩
  · rw [h1]; trivial
  · exact h _ _ _ h1
theorem IsForm.unique {S S' : Int → Int → Prop} {out out' : List Rect} (h:IsForm S out) (h' : IsForm S' out') (he : ∀ x y,S x y ↔ S' x y):out = out':=by
  obtain ⟨G,h1,h2,h3,rfl⟩:=h
  obtain ⟨G', k1, k2, k3, rfl⟩ := h'
  rw [canon_unique h1 k1 fun x=>canon_unique (canon_at h2 x) (canon_at k2 x) fun y=>?_]
  rw [Bool.eq_iff_iff,h3,k3,he]
theorem IsForm.congr {S S' : Int → Int → Prop} {out:List Rect} (h:IsForm S out) (he : ∀ x y,S x y ↔ S' x y):IsForm S' out:=by
  obtain ⟨G,h1,h2,h3,rfl⟩:=h
  exact ⟨G,h1,h2,fun x y=>(h3 x y).trans (he x y),rfl⟩
/-- The form has the cells of the set. -/
theorem rval_true_mem {c:Col} {y:Int}:rval false c y = true → ∃ a b,(a,b,true) ∈ c∧a ≤ y∧y < b:=by
  intro h
  rcases rval_mem (e:=false) (l:=c) (x:=y) with h1 | ⟨a,b,h1,h2⟩
  · rw [h] at h1; simp at h1
  · rw [h] at h1; exact ⟨a,b,h1,h2⟩
theorem IsForm.cells {S:Int → Int → Prop} {out:List Rect} (h:IsForm S out) (x y:Int):cells out x y ↔ S x y:=by
  obtain ⟨G,h1,h2,h3,rfl⟩:=h
  rw [← h3]
  constructor
  · rintro ⟨r, hr, hx, hy⟩
    simp only [flatG,List.mem_flatMap,List.mem_map] at hr
    obtain ⟨⟨a,b,c⟩,hg,⟨f,t,v⟩,hs,rfl⟩:=hr
    have hc:=h2 a b c hg
    have hv:v = true:=by
      have:=(canon_mem hc hs).2
      cases v <;> simp_all
    subst hv
    rw [rval_of_mem h1 hg hx.1 hx.2]
    exact rval_of_mem hc hs hy.1 hy.2
  · intro h
    obtain ⟨f,t,hs,hy1,hy2⟩:=rval_true_mem h
    rcases rval_mem (e:=[]) (l:=G) (x:=x) with h4 | ⟨a,b,h4,h5⟩
    · rw [h4] at hs; simp at hs
    · refine ⟨⟨a, f, b, t⟩, ?_, h5, hy1, hy2⟩
      simp only [flatG,List.mem_flatMap,List.mem_map]
      exact ⟨_,h4,_,hs,rfl⟩
theorem IsForm.self {S:Int → Int → Prop} {out:List Rect} (h:IsForm S out):IsForm (YtagkmlkhaekldaaGreat.cells out) out:=h.congr fun x y=>(h.cells x y).symm
theorem form_rect {S:Int → Int → Prop} {out:List Rect} (h:IsForm S out) : ∀ r ∈ out,r.X0 < r.X1∧r.Y0 < r.Y1:=by
  obtain ⟨G,h1,h2,h3,rfl⟩:=h
  intro r hr
  simp only [flatG,List.mem_flatMap,List.mem_map] at hr
  obtain ⟨⟨a,b,c⟩,hg,⟨f,t,v⟩,hs,rfl⟩:=hr
  exact ⟨(canon_mem h1 hg).1,(canon_mem (h2 a b c hg) hs).1⟩
theorem form_nil:IsForm (fun _ _=>False) []:=⟨[],trivial,by simp,by simp [rval],rfl⟩

/-! Strips -/
def stripRuns (l:List RegionStrip):Runs Col:=l.map fun s=>(s.x0,s.x1,spanRuns s.column)
/-- Strips without gaps, of canonical columns. -/
structure Gapless (l:List RegionStrip):Prop where
  pos : ∀ s ∈ l,s.x0 < s.x1
  next : ∀ i (h:i + 1 < l.length),(l[i]'(by omega)).x1 = l[i + 1].x0
  col : ∀ s ∈ l,Canon false (spanRuns s.column)

theorem equal_span_L0 {a b:List RegionSpan} (hl:a.length = b.length) (hb:a.length ≤ 1000000) :
    ∃ f,iterL (slices_Equal_span_L0 a b) (a.length + 1) 0 = some f∧((a = b∧∃ s,f = .ex 0 s) ∨ (a ≠ b∧f = .ret false)):=by
  have hs : ∀ i (hi:i < (a.zip b).length),((a.zip b)[i].1 ≠ (a.zip b)[i].2∧slices_Equal_span_L0 a b (i:Int) = some (.ret false)) ∨
      (¬ ((a.zip b)[i].1 ≠ (a.zip b)[i].2)∧slices_Equal_span_L0 a b (i:Int) = some (.go ((i + 1:Nat):Int))):=by
    intro i hi
    simp only [List.length_zip] at hi
    have h1:i < a.length:=by omega
    have h2:i < b.length:=by omega
    unfold slices_Equal_span_L0
    rw [if_pos (by simpa using h1)]
    simp only [getI_nat h1,getI_nat h2,Option.bind_some,List.getElem_zip]
    by_cases he:a[i] = b[i]
    · right
      rw [if_neg (by simpa using he)]
      simp only [addI_one (show i < 4611686018427387904 by omega),Option.bind_some]
      exact ⟨by simpa using he,trivial⟩
    · left
      rw [if_pos (by simpa using he)]
      exact ⟨he,rfl⟩
  have hd:slices_Equal_span_L0 a b ((a.zip b).length:Int) = some (.ex 0 ((a.zip b).length:Int)):=by
    have e:((a.zip b).length:Int) = (a.length:Int):=by simp; omega
    rw [e]
    unfold slices_Equal_span_L0
    rw [if_neg (by simp)]
  rcases iter_find (l:=a.zip b) (body:=slices_Equal_span_L0 a b) (k:=0) (fun p=>p.1 ≠ p.2) (fun _=>false) hs hd (fuel:=a.length + 1) (by simp; omega) with ⟨i,hi,hp,_,h⟩ | ⟨hp,h⟩
  · refine ⟨_, h, .inr ⟨fun e => ?_, rfl⟩⟩
    subst e
    simp at hp
  · refine ⟨_, h, .inl ⟨?_, _, rfl⟩⟩
    refine List.ext_getElem hl fun i h1 h2=>?_
    have:=hp (a[i],b[i]) (by
      rw [List.mem_iff_getElem]
      exact ⟨i,by simp; omega,by simp⟩)
    simpa using this
theorem equal_span {a b:List RegionSpan} (hb:a.length ≤ 1000000):slices_Equal_span a b = some (decide (a = b)):=by
  unfold slices_Equal_span
  by_cases hl:a.length = b.length
  · rw [if_neg (by simp [hl])]
    obtain ⟨f,hf,h⟩:=equal_span_L0 hl hb
    rw [hf,Option.bind_some]
    rcases h with ⟨h1,s,rfl⟩ | ⟨h1,rfl⟩ <;> simp [h1]
  · rw [if_pos (by simp; omega)]
    congr 1
    symm
    rw [decide_eq_false_iff_not]
    intro e; exact hl (by rw [e])

theorem ends_take {l:List RegionStrip} (h:Gapless l) : ∀ i (hi:i < l.length),EndsBy (stripRuns (l.take i)) l[i].x0
  | 0,_=>by intro r hr; simp [stripRuns] at hr
  | i + 1, hi => by
    have ih:=ends_take h i (by omega)
    have hp:=h.pos l[i] (List.getElem_mem _)
    have hn:=h.next i hi
    intro r hr
    rw [List.take_succ_eq_append_getElem (by omega)] at hr
    simp only [stripRuns,List.map_append,List.map_cons,List.map_nil,List.mem_append,List.mem_singleton] at hr
    rcases hr with hr | hr
    · have:=ih r hr; omega
    · subst hr; show (l[i]'(by omega)).x1 ≤ _; omega
theorem rval_take {l:List RegionStrip} (h:Gapless l) {i:Nat} (hi:i < l.length) (x:Int) :
    rval [] (stripRuns (l.take (i + 1))) x = if l[i].x0 ≤ x∧x < l[i].x1 then spanRuns l[i].column else rval [] (stripRuns (l.take i)) x:=by
  rw [List.take_succ_eq_append_getElem hi]
  simp only [stripRuns,List.map_append,List.map_cons,List.map_nil]
  exact rval_snoc (ends_take h i hi) x

/-- The end of the strips from i on whose columns are that of strip i. -/
theorem write_L1 {l:List RegionStrip} (h:Gapless l) (hl:l.length ≤ 100000) (hc : ∀ s ∈ l,s.column.length ≤ 1000000) {i:Nat} (hi:i < l.length) (s:List Rect) {fuel:Nat} (hf:l.length < fuel) :
    ∃ k:Nat,iterL (region_write_L1 l (s,(i:Int))) fuel ((i + 1:Nat):Int) = some (.ex 2 (k:Int))∧∃ (hik:i < k) (hk:k ≤ l.length),
      (∀ x,rval [] (stripRuns (l.take k)) x = if l[i].x0 ≤ x∧x < (l[k - 1]'(by omega)).x1 then spanRuns l[i].column else rval [] (stripRuns (l.take i)) x) ∧
      (∀ hk' : k < l.length,l[k].column ≠ l[i].column):=by
  have key : ∀ m j,j + m = l.length → ∀ (hij:i < j) (hj:j ≤ l.length),
      (∀ x,rval [] (stripRuns (l.take j)) x = if l[i].x0 ≤ x∧x < (l[j - 1]'(by omega)).x1 then spanRuns l[i].column else rval [] (stripRuns (l.take i)) x) → ∀ fuel,m < fuel →
      ∃ k:Nat,iterL (region_write_L1 l (s,(i:Int))) fuel (j:Int) = some (.ex 2 (k:Int))∧∃ (hik:i < k) (hk:k ≤ l.length),
      (∀ x,rval [] (stripRuns (l.take k)) x = if l[i].x0 ≤ x∧x < (l[k - 1]'(by omega)).x1 then spanRuns l[i].column else rval [] (stripRuns (l.take i)) x) ∧
      (∀ hk' : k < l.length,l[k].column ≠ l[i].column):=by
    intro m
    induction m with
    | zero =>
      intro j hjm hij hj hr fuel hf
      obtain ⟨fuel,rfl⟩ : ∃ m,fuel = m + 1:=⟨fuel - 1,by omega⟩
      refine ⟨j,?_,hij,hj,hr,fun hk'=>absurd hk' (by omega)⟩
      have e:region_write_L1 l (s,(i:Int)) (j:Int) = some (.ex 2 (j:Int)):=by
        unfold region_write_L1
        dsimp only
        rw [if_neg (by simp; omega),Option.bind_some,if_neg (by simp)]
      simp only [iterL,e]
    | succ m ih =>
      intro j hjm hij hj hr fuel hf
      obtain ⟨fuel,rfl⟩ : ∃ m,fuel = m + 1:=⟨fuel - 1,by omega⟩
      have hjl:j < l.length:=by omega
      by_cases he:l[j].column = l[i].column
      · have e : region_write_L1 l (s, (i : Int)) (j : Int) = some (.go ((j + 1 : Nat) : Int)) := by
          unfold region_write_L1
          dsimp only
          rw [if_pos (by simp; omega)]
          simp only [getI_nat hjl,getI_nat hi,Option.bind_some,equal_span (hc _ (List.getElem_mem hjl))]
          rw [if_pos (by simpa using he),addI_one (by omega),Option.bind_some]
        simp only [iterL,e]
        refine ih (j + 1) (by omega) (by omega) (by omega) (fun x=>?_) fuel (by omega)
        rw [rval_take h hjl,hr x,he]
        have hn:(l[j - 1]'(by omega)).x1 = l[j].x0:=by
          have:=h.next (j - 1) (by omega)
          rw [this]; congr 2; omega
        have hp:=h.pos l[j] (List.getElem_mem _)
        have hlo : ∀ q (hq:q < l.length),i ≤ q → l[i].x0 ≤ l[q].x0:=by
          intro q
          induction q with
          | zero => intro hq hiq; have : i = 0 := by omega
                    subst this; exact Int.le_refl _
          | succ q ihq =>
            intro hq hiq
            rcases Nat.lt_or_ge q i with h' | h'
            · have : i = q + 1 := by omega
              subst this; exact Int.le_refl _
            · have := ihq (by omega) h'
              have h2:=h.pos (l[q]'(by omega)) (List.getElem_mem _)
              have h3:=h.next q hq
              omega
        have:=hlo j hjl (by omega)
        have e2:(l[j + 1 - 1]'(by omega)) = l[j]:=by congr 1
        rw [e2]
        by_cases c1:l[j].x0 ≤ x∧x < l[j].x1
        · rw [if_pos c1,if_pos (by omega)]
        · rw [if_neg c1]
          by_cases c2:l[i].x0 ≤ x∧x < (l[j - 1]'(by omega)).x1
          · rw [if_pos c2,if_pos (by omega)]
          · rw [if_neg c2,if_neg (by omega)]
      · refine ⟨j, ?_, hij, hj, hr, fun _ => he⟩
        have e:region_write_L1 l (s,(i:Int)) (j:Int) = some (.ex 2 (j:Int)):=by
          unfold region_write_L1
          dsimp only
          rw [if_pos (by simp; omega)]
          simp only [getI_nat hjl,getI_nat hi,Option.bind_some,equal_span (hc _ (List.getElem_mem hjl))]
          rw [if_neg (by simpa using he)]
        simp only [iterL,e]
  exact key (l.length - (i + 1)) (i + 1) (by omega) (by omega) (by omega) (fun x=>by
    rw [rval_take h hi]
    have e2:(l[i + 1 - 1]'(by omega)) = l[i]:=by congr 1
    rw [e2]) fuel (by omega)
end Go.Proofs.YtagkmlkhaekldaaGreat

namespace Go.Proofs.YtagkmlkhaekldaaGreat
open Go.Gb
set_option linter.unusedVariables false
set_option linter.unusedSimpArgs false
set_option linter.unusedSectionVars false
set_option linter.unusedVariables false
set_option linter.unusedSimpArgs false

theorem rval_past {V:Type} {e:V} : ∀ {l:Runs V} {n x:Int},EndsBy l n → n ≤ x → rval e l x = e
  | [],_,_,_,_=>rfl
  | (a, b, v) :: t, n, x, h, hx => by
    have:=h (a,b,v) (by simp)
    simp only at this
    simp only [rval]
    rw [if_neg (by omega)]
    exact rval_past (fun r hr=>h r (List.mem_cons_of_mem _ hr)) hx
theorem gapless_lo {l:List RegionStrip} (h:Gapless l) {i:Nat} (hi:i < l.length) : ∀ q (hq:q < l.length),i ≤ q → l[i].x0 ≤ l[q].x0
  | 0, hq, hiq => by have : i = 0 := by omega
                     subst this; exact Int.le_refl _
  | q + 1, hq, hiq => by
    rcases Nat.lt_or_ge q i with h' | h'
    · have : i = q + 1 := by omega
      subst this; exact Int.le_refl _
    · have := gapless_lo h hi q (by omega) h'
      have h2:=h.pos (l[q]'(by omega)) (List.getElem_mem _)
      have h3:=h.next q hq
      omega

theorem write_L2 {l:List RegionStrip} {i k:Nat} (hi:i < l.length) (hik:i < k) (hk:k ≤ l.length) (hl:l.length ≤ 100000) (hc:l[i].column.length ≤ 1000) (s:List Rect) {out:List Rect} (ho:out.length ≤ 1000000000) :
    iterL (region_write_L2 l (s,(i:Int)) (k:Int) l[i]) (l[i].column.length + 1) (out,0) =
      some (.ex 4 (out ++ l[i].column.map fun s=>⟨l[i].x0,s.from_,(l[k - 1]'(by omega)).x1,s.to_⟩,(l[i].column.length:Int))):=by
  refine (iter_range (k:=4) (l:=l[i].column) (fun s i=>(s,i)) (fun o s=>o ++ [⟨l[i].x0,s.from_,(l[k - 1]'(by omega)).x1,s.to_⟩]) (fun j o=>o.length ≤ 1000000000 + j) ?_ ?_ (by omega) (by omega)).1.trans ?_
  · intro j hj o hI
    constructor
    · unfold region_write_L2
      dsimp only
      rw [if_pos (by simpa using hj),getI_nat hj,Option.bind_some,getI_nat hi,Option.bind_some]
      simp only [subI_nat (show 0 < k by omega) (by omega),Option.bind_some,getI_nat (show k - 1 < l.length by omega)]
      rw [appI_some (by simp; omega),Option.bind_some,addI_one (by omega),Option.bind_some]
    · simp; omega
  · intro o _
    unfold region_write_L2
    dsimp only
    rw [if_neg (by simp)]
  · rw [foldl_flatMap (fun s : RegionSpan => [(⟨l[i].x0, s.from_, (l[k - 1]'(by omega)).x1, s.to_⟩ : Rect)])]
    simp [List.flatMap_singleton']
    rw [List.map_eq_flatMap]

theorem write_spec {l:List RegionStrip} (h:Gapless l) (hl:l.length ≤ 100000) (hc : ∀ s ∈ l,s.column.length ≤ 1000) :
    ∃ out,region_write l = some out∧∃ G:Runs Col,Canon [] G∧(∀ a b c,(a,b,c) ∈ G → Canon false c)∧(∀ x,rval [] G x = rval [] (stripRuns l) x)∧out = flatG G:=by
  refine Exists.elim (loop_down (body:=region_write_L0 l) (fun s=>∃ (i:Nat) (G:Runs Col),s.2 = (i:Int)∧i ≤ l.length∧s.1 = flatG G∧Canon [] G∧(∀ a b c,(a,b,c) ∈ G → Canon false c) ∧
      (∀ x,rval [] G x = rval [] (stripRuns (l.take i)) x)∧(∀ hi:i < l.length,EndsBy G l[i].x0∧Lst G l[i].x0 (spanRuns l[i].column))∧s.1.length ≤ 1000 * i)
    (fun s=>l.length - s.2.toNat) (fun f=>∃ s G,f = .ex 0 s∧s.1 = flatG G∧Canon [] G∧(∀ a b c,(a,b,c) ∈ G → Canon false c)∧(∀ x,rval [] G x = rval [] (stripRuns l) x)) ?_
    (([]:List Rect),0) ⟨0,[],rfl,Nat.zero_le _,rfl,trivial,by simp,fun x=>by simp [stripRuns],fun _=>⟨fun r hr=>by simp at hr,fun r hr=>by simp at hr⟩,by simp⟩ (l.length + ([]:List Rect).length + 1) (by simp)) ?_
  · rintro ⟨out, _⟩ ⟨i, G, rfl, hil, rfl, hG, hGc, hv, hE, hlen⟩
    dsimp only at *
    rcases Nat.lt_or_ge i l.length with hi | hi
    · left
      obtain ⟨k,hk,hik,hkl,hkv,hkn⟩:=write_L1 h hl (fun s hs=>by have:=hc s hs; omega) hi (flatG G) (fuel:=l.length + (flatG G).length + 1) (by omega)
      have h2:=write_L2 hi hik hkl hl (hc _ (List.getElem_mem hi)) (flatG G) (out:=flatG G) (by omega)
      obtain ⟨hE1,hE2⟩:=hE hi
      have hpos:l[i].x0 < (l[k - 1]'(by omega)).x1:=by
        have:=gapless_lo h hi (k - 1) (by omega) (by omega)
        have:=h.pos (l[k - 1]'(by omega)) (List.getElem_mem _)
        omega
      refine ⟨(flatG G ++ l[i].column.map fun s=>⟨l[i].x0,s.from_,(l[k - 1]'(by omega)).x1,s.to_⟩,(k:Int)),?_,?_,?_⟩
      · unfold region_write_L0
        dsimp only
        rw [if_pos (by simpa using hi),addI_one (by omega),Option.bind_some,hk,Option.bind_some]
        dsimp only
        rw [getI_nat hi,Option.bind_some,h2,Option.bind_some]
      · have hlen' : (flatG G ++ l[i].column.map fun s => (⟨l[i].x0, s.from_, (l[k - 1]'(by omega)).x1, s.to_⟩ : Rect)).length ≤ 1000 * k := by
          have:=hc _ (List.getElem_mem hi)
          simp; omega
        have hx : ∀ hk' : k < l.length,(l[k - 1]'(by omega)).x1 = l[k].x0:=fun hk'=>by
          have:=h.next (k - 1) (by omega)
          rw [this]; congr 2; omega
        by_cases hcol:l[i].column = []
        · refine ⟨k, G, rfl, hkl, by simp [hcol], hG, hGc, fun x => ?_, fun hk' => ⟨fun r hr => ?_, fun r hr => ?_⟩, hlen'⟩
          · rw [hkv, hv]
            split
            · rename_i hx
              rw [hcol,← hv,rval_past hE1 hx.1]; rfl
            · rfl
          · have:=hE1 r hr; have:=hx hk'; omega
          · have:=hE1 r (List.mem_of_getLast? hr); have:=hx hk'; exact .inl (by omega)
        · have hne : spanRuns l[i].column ≠ [] := fun e => hcol (spanRuns_inj (b := []) e)
          refine ⟨k,G ++ [(l[i].x0,(l[k - 1]'(by omega)).x1,spanRuns l[i].column)],rfl,hkl,?_,canon_snoc hG hE2 hpos hne,?_,fun x=>?_,fun hk'=>⟨fun r hr=>?_,fun r hr=>?_⟩,hlen'⟩
          · rw [flatG_append,flatG_one]
          · intro a b c hm
            rcases List.mem_append.1 hm with hm | hm
            · exact hGc a b c hm
            · simp only [List.mem_singleton, Prod.mk.injEq] at hm
              rw [hm.2.2]
              exact h.col _ (List.getElem_mem hi)
          · rw [rval_snoc hE1,hkv,hv]
          · have := hx hk'
            rcases List.mem_append.1 hr with hr | hr
            · have:=hE1 r hr; omega
            · simp only [List.mem_singleton] at hr; subst hr; show (l[k - 1]'(by omega)).x1 ≤ _; omega
          · simp at hr; subst hr
            exact .inr ⟨hx hk', fun e => hkn hk' (spanRuns_inj e.symm)⟩
      · dsimp only; simp only [Int.toNat_natCast]; omega
    · right
      obtain rfl:i = l.length:=by omega
      refine ⟨.ex 0 (flatG G,(l.length:Int)),?_,trivial,_,G,rfl,rfl,hG,hGc,fun x=>by rw [hv,List.take_length]⟩
      unfold region_write_L0
      dsimp only
      rw [if_neg (by simp)]
  · rintro f ⟨hf, _, s, G, rfl, h1, h2, h3, h4⟩
    refine ⟨s.1,?_,G,h2,h3,h4,h1⟩
    unfold region_write
    rw [hf,Option.bind_some]

/-! Strips of rectangles -/
theorem concat_Rect {ls:List (List Rect)} (hl:ls.flatten.length ≤ 1000000) (hn:ls.length ≤ 1000000):slices_Concat_Rect ls = some ls.flatten:=by
  have hle : ∀ i (hi:i < ls.length),(ls.take i).flatten.length + ls[i].length ≤ ls.flatten.length:=by
    intro i hi
    have e:ls.flatten = (ls.take i).flatten ++ (ls[i] ++ (ls.drop (i + 1)).flatten):=by
      conv=>lhs; rw [← List.take_append_drop i ls,List.drop_eq_getElem_cons hi]
      rw [List.flatten_append,List.flatten_cons]
    rw [e,List.length_append,List.length_append]; omega
  have htk : ∀ i (hi:i < ls.length),(ls.take (i + 1)).flatten = (ls.take i).flatten ++ ls[i]:=by
    intro i hi
    rw [List.take_succ_eq_append_getElem hi,List.flatten_append,List.flatten_cons,List.flatten_nil,List.append_nil]
  unfold slices_Concat_Rect
  obtain ⟨h1,h2⟩:=iter_range (k:=0) (l:=ls) (body:=slices_Concat_Rect_L0 ls) (fun (s:Int) i=>(s,i)) (fun s x=>s + x.length) (fun i s=>s = ((ls.take i).flatten.length:Int)) (by
    intro i hi s hI
    have:=hle i hi
    constructor
    · unfold slices_Concat_Rect_L0
      dsimp only
      rw [if_pos (by simpa using hi),getI_nat hi,Option.bind_some,addI_some (by unfold inI; omega),Option.bind_some,if_neg (by simp; omega),addI_one (by omega),Option.bind_some]
    · rw [htk i hi,hI]; simp) (by
    intro s _
    unfold slices_Concat_Rect_L0
    dsimp only
    rw [if_neg (by simp)]) (s0:=0) (by simp) (fuel:=ls.length + 1) (by omega)
  rw [h1,Option.bind_some]
  dsimp only
  rw [List.take_length] at h2
  rw [growI_some (by omega) (by omega),Option.bind_some]
  obtain ⟨h3,h4⟩:=iter_range (k:=2) (l:=ls) (body:=slices_Concat_Rect_L1 ls) (fun (s:List Rect) i=>(s,i)) (fun s x=>s ++ x) (fun i s=>s = (ls.take i).flatten) (by
    intro i hi s hI
    have:=hle i hi
    constructor
    · unfold slices_Concat_Rect_L1
      dsimp only
      rw [if_pos (by simpa using hi),getI_nat hi,Option.bind_some,appI_some (by rw [hI]; omega),Option.bind_some,addI_one (by omega),Option.bind_some]
    · rw [htk i hi,hI]) (by
    intro s _
    unfold slices_Concat_Rect_L1
    dsimp only
    rw [if_neg (by simp)]) (s0:=[]) (by simp) (fuel:=ls.length + 1) (by omega)
  rw [h3,Option.bind_some]
  dsimp only
  rw [h4,List.take_length]

/-- The numbers at which something begins or ends, in ascending order, each once. -/
structure IsCuts (xs:List Int) (l:List Rect):Prop where
  asc:xs.Pairwise fun a b=>a < b
  mem : ∀ x,x ∈ xs ↔ ∃ r ∈ l,x = r.X0 ∨ x = r.X1
  len:xs.length ≤ 2 * l.length
theorem asc_between : ∀ {xs:List Int} {a b x:Int},xs.Pairwise (fun a b=>a < b) → a ∈ xs → b ∈ xs → a ≤ x → x < b → ∃ i,∃ h:i + 1 < xs.length,xs[i] ≤ x∧x < xs[i + 1]
  | [],_,_,_,_,h,_,_,_=>by simp at h
  | [h],a,b,x,_,ha,hb,h1,h2=>by simp at ha hb; subst ha; subst hb; omega
  | h :: h2 :: t, a, b, x, hp, ha, hb, hax, hxb => by
    have hp':=List.pairwise_cons.1 hp
    rcases Int.lt_or_le x h2 with hx | hx
    · refine ⟨0, by simp, ?_, hx⟩
      rcases List.mem_cons.1 ha with rfl | ha
      · exact hax
      · have:=hp'.1 a ha; show h ≤ x; omega
    · have hb' : b ∈ h2 :: t := by
        rcases List.mem_cons.1 hb with rfl | hb
        · have:=hp'.1 h2 (by simp); omega
        · exact hb
      obtain ⟨i,hi,h3,h4⟩:=asc_between hp'.2 (a:=h2) (by simp) hb' hx hxb
      exact ⟨i + 1,by simp only [List.length_cons] at hi ⊢; omega,by simpa using h3,by simpa using h4⟩
theorem asc_gap {xs:List Int} (hp:xs.Pairwise fun a b=>a < b) {i:Nat} (h:i + 1 < xs.length) {z:Int} (hz:z ∈ xs):z ≤ xs[i] ∨ xs[i + 1] ≤ z:=by
  obtain ⟨j,hj,rfl⟩:=List.getElem_of_mem hz
  have hp:=List.pairwise_iff_getElem.1 hp
  rcases Nat.lt_or_ge i j with h1 | h1
  · right
    rcases Nat.lt_or_ge (i + 1) j with h2 | h2
    · exact Int.le_of_lt (hp (i + 1) j h hj h2)
    · have : j = i + 1 := by omega
      subst this; exact Int.le_refl _
  · left
    rcases Nat.lt_or_ge j i with h2 | h2
    · exact Int.le_of_lt (hp j i hj (by omega) h2)
    · have : j = i := by omega
      subst this; exact Int.le_refl _
theorem cells_between {l:List Rect} {xs:List Int} (hx:IsCuts xs l) {i:Nat} (h:i + 1 < xs.length) {x:Int} (h1:xs[i] ≤ x) (h2:x < xs[i + 1]) (y:Int):cells l xs[i] y ↔ cells l x y:=by
  refine exists_congr fun r=>and_congr_right fun hr=>?_
  unfold rin
  have g1:=asc_gap hx.asc h ((hx.mem r.X0).2 ⟨r,hr,.inl rfl⟩)
  have g2:=asc_gap hx.asc h ((hx.mem r.X1).2 ⟨r,hr,.inr rfl⟩)
  have g3:=(List.pairwise_iff_getElem.1 hx.asc) i (i + 1) (by omega) h (by omega)
  omega

structure StripsOf (l:List Rect) (out:List RegionStrip):Prop where
  gapless:Gapless out
  col : ∀ s ∈ out,IsCol l s.x0 s.column
  val : ∀ x y,rval false (rval [] (stripRuns out) x) y = true ↔ cells l x y
  len:out.length ≤ 2 * l.length
  same : ∀ s ∈ out,∀ x,s.x0 ≤ x → x < s.x1 → ∀ r ∈ l,(r.X0 ≤ x∧x < r.X1) ↔ (r.X0 ≤ s.x0∧s.x0 < r.X1)
  cover : ∀ r ∈ l,∀ x,r.X0 ≤ x → x < r.X1 → ∃ s ∈ out,s.x0 ≤ x∧x < s.x1
theorem rval_strips {l:List RegionStrip} (h:Gapless l) {i:Nat} (hi:i < l.length) {x:Int} (h1:l[i].x0 ≤ x) (h2:x < l[i].x1):rval [] (stripRuns l) x = spanRuns l[i].column:=by
  have key : ∀ m j,j + m = l.length → i < j → rval [] (stripRuns (l.take j)) x = rval [] (stripRuns l) x:=by
    intro m
    induction m with
    | zero=>intro j hj _; rw [show j = l.length by omega,List.take_length]
    | succ m ih =>
      intro j hj hij
      rw [← ih (j + 1) (by omega) (by omega),rval_take h (show j < l.length by omega),if_neg]
      have a1:=gapless_lo h (show i + 1 < l.length by omega) j (by omega) (by omega)
      have a2:=h.next i (by omega)
      omega
  rw [← key (l.length - (i + 1)) (i + 1) (by omega) (by omega),rval_take h hi,if_pos ⟨h1,h2⟩]

theorem strips_cuts {l:List Rect} (hl:l.length ≤ 100000) : ∃ ys xs zs,iterL (region_strips_L0 l) (l.length + 1) (([]:List Int),0) = some (.ex 0 (ys,(l.length:Int))) ∧
    sortInts ys = some zs∧compactInts zs = some xs∧IsCuts xs l:=by
  obtain ⟨h1,h2⟩:=iter_range (k:=0) (l:=l) (body:=region_strips_L0 l) (fun (s:List Int) i=>(s,i)) (fun s r=>s ++ [r.X0,r.X1]) (fun i s=>s.length = 2 * i) (by
    intro i hi s hI
    constructor
    · unfold region_strips_L0
      dsimp only
      rw [if_pos (by simpa using hi),getI_nat hi,Option.bind_some,appI_some (by simp; omega),Option.bind_some,addI_one (by omega),Option.bind_some]
    · simp; omega) (by
    intro s _
    unfold region_strips_L0
    dsimp only
    rw [if_neg (by simp)]) (s0:=[]) (by simp) (fuel:=l.length + 1) (by omega)
  rw [foldl_flatMap (fun r:Rect=>[r.X0,r.X1]),List.nil_append] at h1 h2
  obtain ⟨zs,h3,h4,h5⟩:=sortInts_spec (l:=l.flatMap fun r=>[r.X0,r.X1]) (by omega)
  have hzl:=h4.length_eq
  obtain ⟨xs,h6,h7,h8,h9⟩:=compactInts_spec (l:=zs) (by omega) h5
  refine ⟨_,xs,zs,h1,h3,h6,h7,fun x=>?_,by omega⟩
  rw [h8,h4.mem_iff]
  simp [List.mem_flatMap]

theorem strips_spec {ls:List (List Rect)} (hv : ∀ r ∈ ls.flatten,VR r) (hl:ls.flatten.length ≤ 100000) (hn:ls.length ≤ 1000) : ∃ out,region_strips ls = some out∧StripsOf ls.flatten out:=by
  unfold region_strips
  rw [concat_Rect (by omega) (by omega),Option.bind_some]
  generalize ls.flatten = l at hv hl
  obtain ⟨ys,xs,zs,h1,h2,h3,hx⟩:=strips_cuts hl
  rw [h1,Option.bind_some]
  dsimp only
  simp only [h2,h3,Option.bind_some]
  have hxl:=hx.len
  rcases Nat.eq_zero_or_pos xs.length with h0 | h0
  · have e : xs = [] := List.length_eq_zero_iff.1 h0
    subst e
    have hl0:l = []:=by
      cases l with
      | nil=>rfl
      | cons r l=>exact absurd ((hx.mem r.X0).2 ⟨r,by simp,.inl rfl⟩) (by simp)
    subst hl0
    refine ⟨[],rfl,⟨by simp,by simp,by simp⟩,by simp,by simp [stripRuns,rval,cells],by simp,by simp,by simp⟩
  · obtain ⟨out, h4, h5, h6⟩ := iter_from (k := 2) (body := region_strips_L1 l xs) (fun (s : List RegionStrip) i => (s, i)) 1 xs.length h0
      (fun i s=>s.length + 1 = i∧∀ j (hj:j < s.length) (hj' : j + 1 < xs.length),s[j].x0 = xs[j]∧s[j].x1 = xs[j + 1]∧IsCol l xs[j] s[j].column) (by
      intro i h1i hi s hI
      obtain ⟨hI1,hI2⟩:=hI
      obtain ⟨c,hc,hcol⟩:=column_spec (x:=xs[i - 1]'(by omega)) hv hl
      refine ⟨s ++ [⟨xs[i - 1]'(by omega),xs[i],c⟩],?_,by simp; omega,fun j hj hj'=>?_⟩
      · unfold region_strips_L1
        dsimp only
        rw [if_pos (by simpa using hi)]
        simp only [subI_nat (show 0 < i by omega) (by omega),Option.bind_some,getI_nat (show i - 1 < xs.length by omega),getI_nat hi,hc]
        rw [appI_some (by simp; omega),Option.bind_some,addI_one (by omega),Option.bind_some]
      · simp only [List.length_append, List.length_cons, List.length_nil] at hj
        rcases Nat.lt_or_ge j s.length with h | h
        · simp only [List.getElem_append_left h]
          exact hI2 j h hj'
        · have : j = s.length := by omega
          subst this
          simp only [List.getElem_concat_length]
          have e1:xs[i - 1]'(by omega) = xs[s.length]:=by congr 1; omega
          have e2:xs[i] = xs[s.length + 1]:=by congr 1; omega
          refine ⟨e1,e2,?_⟩
          rw [← e1]; exact hcol) (by
      intro s _
      unfold region_strips_L1
      dsimp only
      rw [if_neg (by simp)]) (s0:=[]) (by simp) (fuel:=l.length + xs.length + ([]:List RegionStrip).length + 1) (by simp; omega)
    have h4' : iterL (region_strips_L1 l xs) (l.length + xs.length + ([]:List RegionStrip).length + 1) (([]:List RegionStrip),1) = some (.ex 2 (out,(xs.length:Int))):=h4
    rw [h4', Option.bind_some]
    have hg:Gapless out:=by
      refine ⟨fun s hs=>?_,fun i hi=>?_,fun s hs=>?_⟩
      · obtain ⟨j, hj, rfl⟩ := List.getElem_of_mem hs
        obtain ⟨a1,a2,_⟩:=h6 j hj (by omega)
        rw [a1,a2]
        exact (List.pairwise_iff_getElem.1 hx.asc) j (j + 1) (by omega) (by omega) (by omega)
      · rw [(h6 i (by omega) (by omega)).2.1,(h6 (i + 1) hi (by omega)).1]
      · obtain ⟨j, hj, rfl⟩ := List.getElem_of_mem hs
        exact (h6 j hj (by omega)).2.2.canon
    refine ⟨out,rfl,hg,fun s hs=>?_,fun x y=>?_,by omega,fun s hs x c1 c2 r hr=>?_,fun r hr x c1 c2=>?_⟩
    · obtain ⟨j, hj, rfl⟩ := List.getElem_of_mem hs
      obtain ⟨a1,_,a3⟩:=h6 j hj (by omega)
      rw [a1]; exact a3
    · by_cases hs : ∃ i, ∃ h : i + 1 < xs.length, xs[i] ≤ x ∧ x < xs[i + 1]
      · obtain ⟨i, hi, b1, b2⟩ := hs
        obtain ⟨a1,a2,a3⟩:=h6 i (by omega) hi
        rw [rval_strips hg (show i < out.length by omega) (by omega) (by omega),a3.val,cells_between hx hi b1 b2]
      · constructor
        · intro h
          rcases rval_mem (e:=[]) (l:=stripRuns out) (x:=x) with h7 | ⟨a,b,h7,h8⟩
          · rw [h7] at h; simp [rval] at h
          · simp only [stripRuns, List.mem_map, Prod.mk.injEq] at h7
            obtain ⟨s, hs', e1, e2, _⟩ := h7
            obtain ⟨j,hj,rfl⟩:=List.getElem_of_mem hs'
            obtain ⟨a1,a2,_⟩:=h6 j hj (by omega)
            exact absurd ⟨j,by omega,by omega,by omega⟩ hs
        · rintro ⟨r, hr, hrx, hry⟩
          exact absurd (asc_between hx.asc ((hx.mem r.X0).2 ⟨r,hr,.inl rfl⟩) ((hx.mem r.X1).2 ⟨r,hr,.inr rfl⟩) hrx.1 hrx.2) hs
    · obtain ⟨j, hj, rfl⟩ := List.getElem_of_mem hs
      obtain ⟨a1,a2,_⟩:=h6 j hj (by omega)
      have g1:=asc_gap hx.asc (show j + 1 < xs.length by omega) ((hx.mem r.X0).2 ⟨r,hr,.inl rfl⟩)
      have g2:=asc_gap hx.asc (show j + 1 < xs.length by omega) ((hx.mem r.X1).2 ⟨r,hr,.inr rfl⟩)
      omega
    · obtain ⟨i, hi, b1, b2⟩ := asc_between hx.asc ((hx.mem r.X0).2 ⟨r, hr, .inl rfl⟩) ((hx.mem r.X1).2 ⟨r, hr, .inr rfl⟩) c1 c2
      obtain ⟨a1,a2,a3⟩:=h6 i (by omega) hi
      exact ⟨_,List.getElem_mem (show i < out.length by omega),by omega,by omega⟩
theorem write_form {l:List RegionStrip} (h:Gapless l) (hl:l.length ≤ 100000) (hc : ∀ s ∈ l,s.column.length ≤ 1000) {S:Int → Int → Prop} (hS : ∀ x y,rval false (rval [] (stripRuns l) x) y = true ↔ S x y) :
    ∃ out,region_write l = some out∧IsForm S out:=by
  obtain ⟨out,h1,G,h2,h3,h4,h5⟩:=write_spec h hl hc
  exact ⟨out,h1,G,h2,h3,fun x y=>by rw [h4,hS],h5⟩
end Go.Proofs.YtagkmlkhaekldaaGreat

namespace Go.Proofs.YtagkmlkhaekldaaGreat
open Go.Gb
set_option linter.unusedVariables false
set_option linter.unusedSimpArgs false
set_option linter.unusedSectionVars false
set_option linter.unusedVariables false
set_option linter.unusedSimpArgs false

theorem canon_starts {V:Type} {e:V} : ∀ {t:Runs V} {b:Int} {v:V},Canon e t → Nxt b v t → ∀ r ∈ t,b ≤ r.1
  | [],_,_,_,_,r,hr=>by simp at hr
  | (c, d, w) :: t, b, v, hc, hn, r, hr => by
    have hbc:b ≤ c:=by rcases hn with h | h <;> omega
    rcases List.mem_cons.1 hr with rfl | hr
    · exact hbc
    · have := canon_starts hc.2.2.2 hc.2.2.1 r hr
      have:=hc.1
      omega
theorem canon_pairwise {V:Type} {e:V} : ∀ {l:Runs V},Canon e l → l.Pairwise fun a b=>a.2.1 ≤ b.1
  | [],_=>.nil
  | (a,b,v)::t,h=>List.pairwise_cons.2 ⟨fun r hr=>canon_starts h.2.2.2 h.2.2.1 r hr,canon_pairwise h.2.2.2⟩
/-! Merging two columns -/
end Go.Proofs.YtagkmlkhaekldaaGreat

namespace Go.Proofs.YtagkmlkhaekldaaGreat
open Go.Gb
set_option linter.unusedVariables false
set_option linter.unusedSimpArgs false
set_option linter.unusedSectionVars false
set_option linter.unusedVariables false
set_option linter.unusedSimpArgs false

instance (l:List Rect) (x y:Int):Decidable (cells l x y):=inferInstanceAs (Decidable (∃ r ∈ l,rin r x y))
theorem equal_Rect_L0 {a b:List Rect} (hl:a.length = b.length) (hb:a.length ≤ 1000000) :
    ∃ f,iterL (slices_Equal_Rect_L0 a b) (a.length + 1) 0 = some f∧((a = b∧∃ s,f = .ex 0 s) ∨ (a ≠ b∧f = .ret false)):=by
  have hs : ∀ i (hi:i < (a.zip b).length),((a.zip b)[i].1 ≠ (a.zip b)[i].2∧slices_Equal_Rect_L0 a b (i:Int) = some (.ret false)) ∨
      (¬ ((a.zip b)[i].1 ≠ (a.zip b)[i].2)∧slices_Equal_Rect_L0 a b (i:Int) = some (.go ((i + 1:Nat):Int))):=by
    intro i hi
    simp only [List.length_zip] at hi
    have h1:i < a.length:=by omega
    have h2:i < b.length:=by omega
    unfold slices_Equal_Rect_L0
    rw [if_pos (by simpa using h1)]
    simp only [getI_nat h1,getI_nat h2,Option.bind_some,List.getElem_zip]
    by_cases he:a[i] = b[i]
    · right
      rw [if_neg (by simpa using he)]
      simp only [addI_one (show i < 4611686018427387904 by omega),Option.bind_some]
      exact ⟨by simpa using he,trivial⟩
    · left
      rw [if_pos (by simpa using he)]
      exact ⟨he,rfl⟩
  have hd:slices_Equal_Rect_L0 a b ((a.zip b).length:Int) = some (.ex 0 ((a.zip b).length:Int)):=by
    have e:((a.zip b).length:Int) = (a.length:Int):=by simp; omega
    rw [e]
    unfold slices_Equal_Rect_L0
    rw [if_neg (by simp)]
  rcases iter_find (l:=a.zip b) (body:=slices_Equal_Rect_L0 a b) (k:=0) (fun p=>p.1 ≠ p.2) (fun _=>false) hs hd (fuel:=a.length + 1) (by simp; omega) with ⟨i,hi,hp,_,h⟩ | ⟨hp,h⟩
  · refine ⟨_, h, .inr ⟨fun e => ?_, rfl⟩⟩
    subst e
    simp at hp
  · refine ⟨_, h, .inl ⟨?_, _, rfl⟩⟩
    refine List.ext_getElem hl fun i h1 h2=>?_
    have:=hp (a[i],b[i]) (by
      rw [List.mem_iff_getElem]
      exact ⟨i,by simp; omega,by simp⟩)
    simpa using this
theorem equal_Rect {a b:List Rect} (hb:a.length ≤ 1000000):slices_Equal_Rect a b = some (decide (a = b)):=by
  unfold slices_Equal_Rect
  by_cases hl:a.length = b.length
  · rw [if_neg (by simp [hl])]
    obtain ⟨f,hf,h⟩:=equal_Rect_L0 hl hb
    rw [hf,Option.bind_some]
    rcases h with ⟨h1,s,rfl⟩ | ⟨h1,rfl⟩ <;> simp [h1]
  · rw [if_pos (by simp; omega)]
    congr 1
    symm
    rw [decide_eq_false_iff_not]
    intro e; exact hl (by rw [e])
theorem region_Same_eq {a b:List Rect} (hb:a.length ≤ 1000000):region_Same a b = some (decide (a = b)):=by
  unfold region_Same
  rw [equal_Rect hb,Option.bind_some]

/-- The form, if it is not too long. -/
def lim (out:List Rect):List Rect × Int:=if 200 < out.length then ([],6) else (out,0)
theorem limited_eq (out:List Rect):region_limited out = some (lim out):=by
  unfold region_limited lim
  by_cases h:200 < out.length
  · rw [if_pos (by simp; omega),if_pos h]
  · rw [if_neg (by simp; omega),if_neg h]
theorem Of_check {l:List Rect} (hl:l.length ≤ 100000) :
    (¬ (∀ r ∈ l,VR r)∧iterL (region_Of_L0 l) (l.length + 1) 0 = some (.ret ([],1))) ∨ ((∀ r ∈ l,VR r)∧iterL (region_Of_L0 l) (l.length + 1) 0 = some (.ex 0 (l.length:Int))):=by
  rcases iter_find (l:=l) (body:=region_Of_L0 l) (k:=0) (fun r=>¬ VR r) (fun _=>(([]:List Rect),(1:Int))) (by
    intro i hi
    unfold region_Of_L0
    rw [if_pos (by simpa using hi)]
    simp only [getI_nat hi,Option.bind_some,rect_Right_eq]
    by_cases he:VR l[i]
    · right
      rw [if_neg (by simpa using he)]
      simp only [addI_one (show i < 4611686018427387904 by omega),Option.bind_some]
      exact ⟨fun h=>h he,trivial⟩
    · left
      rw [if_pos (by simpa using he)]
      exact ⟨he,rfl⟩) (by
    unfold region_Of_L0
    rw [if_neg (by simp)]) (fuel:=l.length + 1) (by omega) with ⟨i,hi,hp,_,h⟩ | ⟨hp,h⟩
  · exact .inl ⟨fun h'=>hp (h' _ (List.getElem_mem hi)),h⟩
  · exact .inr ⟨fun r hr=>Classical.not_not.1 (hp r hr),h⟩
theorem region_Of_bad {l:List Rect} (hl:l.length ≤ 100000) (h : ¬ ∀ r ∈ l,VR r):region_Of l = some ([],1):=by
  unfold region_Of
  rcases Of_check hl with ⟨_,h1⟩ | ⟨h1,_⟩
  · rw [h1,Option.bind_some]
  · exact absurd h1 h
theorem region_Of_many {l:List Rect} (hl:l.length ≤ 100000) (h : ∀ r ∈ l,VR r) (hm:400 < l.length):region_Of l = some ([],6):=by
  unfold region_Of
  rcases Of_check hl with ⟨h1,_⟩ | ⟨_,h1⟩
  · exact absurd h h1
  · rw [h1, Option.bind_some]
    dsimp only
    rw [if_pos (by simp; omega)]
theorem region_Of_fine {l:List Rect} (h : ∀ r ∈ l,VR r) (hm:l.length ≤ 400) : ∃ out,IsForm (cells l) out∧region_Of l = some (lim out):=by
  unfold region_Of
  rcases Of_check (l:=l) (by omega) with ⟨h1,_⟩ | ⟨_,h1⟩
  · exact absurd h h1
  · obtain ⟨st, h2, h3⟩ := strips_spec (ls := [l]) (by simpa using h) (by simp; omega) (by simp)
    rw [show [l].flatten = l by simp] at h3
    have hlen:=h3.len
    obtain ⟨out,h4,h5⟩:=write_form (S:=cells l) h3.gapless (by omega) (fun s hs=>by have:=(h3.col s hs).len; omega) h3.val
    refine ⟨out,h5,?_⟩
    rw [h1,Option.bind_some]
    dsimp only
    rw [if_neg (by simp; omega),h2,Option.bind_some,h4,Option.bind_some,limited_eq,Option.bind_some]

/-- The list is a region. -/
def RR (a:List Rect):Prop:=(∀ r ∈ a,VR r)∧a.length ≤ 200∧IsForm (cells a) a
theorem region_Right_spec {a:List Rect} (hl:a.length ≤ 100000) : ∃ b,region_Right a = some b∧(b = true ↔ RR a):=by
  unfold region_Right
  by_cases h : ∀ r ∈ a,VR r
  · rcases Nat.lt_or_ge 400 a.length with hm | hm
    · rw [region_Of_many hl h hm, Option.bind_some, if_neg (by simp), Option.bind_some]
      exact ⟨_,rfl,by simp,fun h=>absurd h.2.1 (by omega)⟩
    · obtain ⟨out, h1, h2⟩ := region_Of_fine h hm
      rw [h2,Option.bind_some]
      unfold lim
      by_cases h3:200 < out.length
      · rw [if_pos h3, if_neg (by simp), Option.bind_some]
        refine ⟨_,rfl,by simp,fun h=>?_⟩
        have:=h.2.2.unique h1 (fun _ _=>Iff.rfl)
        rw [this] at h
        exact absurd h.2.1 (by omega)
      · rw [if_neg h3]
        dsimp only
        rw [if_pos (by simp),equal_Rect (by omega),Option.bind_some,Option.bind_some]
        refine ⟨_,rfl,?_⟩
        simp only [decide_eq_true_eq]
        constructor
        · intro e
          rw [e] at h1 h3
          exact ⟨h,by omega,h1⟩
        · intro h4
          exact h1.unique h4.2.2 (fun _ _=>Iff.rfl)
  · rw [region_Of_bad hl h, Option.bind_some, if_neg (by simp), Option.bind_some]
    exact ⟨_,rfl,by simp,fun h'=>absurd h'.1 h⟩
theorem region_Right_true {a:List Rect} (h:RR a):region_Right a = some true:=by
  obtain ⟨b,h1,h2⟩:=region_Right_spec (a:=a) (by have:=h.2.1; omega)
  rw [h1,h2.2 h]
theorem region_Right_false {a:List Rect} (hl:a.length ≤ 100000) (h : ¬ RR a):region_Right a = some false:=by
  obtain ⟨b,h1,h2⟩:=region_Right_spec hl
  rw [h1]; cases b
  · rfl
  · exact absurd (h2.1 rfl) h
theorem RR.of_form {S:Int → Int → Prop} {out:List Rect} (h:IsForm S out) (hv : ∀ r ∈ out,VR r) (hl:out.length ≤ 200):RR out:=⟨hv,hl,h.self⟩
theorem RR_nil:RR []:=⟨by simp,by simp,form_nil.congr fun x y=>by simp [cells]⟩

/-! Combining -/
end Go.Proofs.YtagkmlkhaekldaaGreat

namespace Go.Proofs.YtagkmlkhaekldaaGreat
open Go.Gb
set_option linter.unusedVariables false
set_option linter.unusedSimpArgs false
set_option linter.unusedSectionVars false
set_option linter.unusedVariables false
set_option linter.unusedSimpArgs false

def slabRuns (s:List Slab):Runs (List Rect):=s.map fun x=>(x.Z0,x.Z1,x.Area)
theorem slabRuns_length (a:List Slab):(slabRuns a).length = a.length:=by simp [slabRuns]
theorem slabRuns_inj : ∀ {a b:List Slab},slabRuns a = slabRuns b → a = b
  | [],[],_=>rfl
  | [],_::_,h=>by simp [slabRuns] at h
  | _::_,[],h=>by simp [slabRuns] at h
  | ⟨f, t, u⟩ :: a, ⟨f', t', u'⟩ :: b, h => by
    simp only [slabRuns,List.map_cons,List.cons.injEq,Prod.mk.injEq] at h
    obtain ⟨⟨rfl,rfl,rfl⟩,h⟩:=h
    rw [slabRuns_inj (a:=a) (b:=b) h]
/-- The cross-section at z. -/
def sect (s:List Slab) (z:Int):List Rect:=rval [] (slabRuns s) z
/-- The cube (x, y, z) is in the solid. -/
def scells (s:List Slab) (x y z:Int):Prop:=cells (sect s z) x y
instance (s:List Slab) (x y z:Int):Decidable (scells s x y z):=inferInstanceAs (Decidable (cells _ _ _))
/-- The list is the solid of the set of cubes. -/
structure IsSolid (S:Int → Int → Int → Prop) (out:List Slab):Prop where
  canon:Canon [] (slabRuns out)
  form : ∀ z,IsForm (fun x y=>S x y z) (sect out z)
theorem IsSolid.unique {S S' : Int → Int → Int → Prop} {out out' : List Slab} (h:IsSolid S out) (h' : IsSolid S' out') (he : ∀ x y z,S x y z ↔ S' x y z):out = out':=
  slabRuns_inj (canon_unique h.canon h'.canon fun z=>(h.form z).unique (h'.form z) fun x y=>he x y z)
theorem IsSolid.congr {S S' : Int → Int → Int → Prop} {out:List Slab} (h:IsSolid S out) (he : ∀ x y z,S x y z ↔ S' x y z):IsSolid S' out:=
  ⟨h.canon,fun z=>(h.form z).congr fun x y=>he x y z⟩
theorem IsSolid.cells {S:Int → Int → Int → Prop} {out:List Slab} (h:IsSolid S out) (x y z:Int):scells out x y z ↔ S x y z:=(h.form z).cells x y
theorem IsSolid.self {S:Int → Int → Int → Prop} {out:List Slab} (h:IsSolid S out):IsSolid (scells out) out:=h.congr fun x y z=>(h.cells x y z).symm

/-- The list is a solid. -/
structure SS (s:List Slab):Prop where
  len:s.length ≤ 80
  canon:Canon [] (slabRuns s)
  ok : ∀ b ∈ s,0 ≤ b.Z0∧b.Z1 ≤ 4096∧RR b.Area
theorem SS.sect {s:List Slab} (h:SS s) (z:Int):RR (sect s z):=by
  rcases rval_mem (e:=[]) (l:=slabRuns s) (x:=z) with h1 | ⟨a,b,h1,_⟩
  · unfold YtagkmlkhaekldaaGreat.sect; rw [h1]; exact RR_nil
  · obtain ⟨x, hx, he⟩ := List.mem_map.1 h1
    simp only [Prod.mk.injEq] at he
    unfold YtagkmlkhaekldaaGreat.sect; rw [← he.2.2]; exact (h.ok x hx).2.2
theorem SS.solid {s:List Slab} (h:SS s):IsSolid (scells s) s:=⟨h.canon,fun z=>(h.sect z).2.2⟩
theorem slab_mem {s:List Slab} {b:Slab} (h:b ∈ s):(b.Z0,b.Z1,b.Area) ∈ slabRuns s:=List.mem_map.2 ⟨b,h,rfl⟩
theorem slab_pos {s:List Slab} (h:Canon [] (slabRuns s)) {b:Slab} (hb:b ∈ s):b.Z0 < b.Z1∧b.Area ≠ []:=canon_mem h (slab_mem hb)
theorem sect_mem {s:List Slab} (h:Canon [] (slabRuns s)) {b:Slab} (hb:b ∈ s) {z:Int} (h1:b.Z0 ≤ z) (h2:z < b.Z1):sect s z = b.Area:=rval_of_mem h (slab_mem hb) h1 h2
/-! Right -/
/-! put -/
theorem put_spec {out:List Slab} {x:Slab} (hl:out.length ≤ 1000000) (ha : ∀ b ∈ out,b.Area.length ≤ 1000000) :
    ∃ o,solid_put out x = some o∧slabRuns o = pushR [] (slabRuns out) x.Z0 x.Z1 x.Area∧o.length ≤ out.length + 1∧∀ b ∈ o,b.Area = x.Area ∨ ∃ c ∈ out,b.Area = c.Area:=by
  unfold solid_put
  by_cases h0:x.Area = []
  · rw [if_pos (by simp [h0])]
    exact ⟨out,rfl,by rw [h0]; simp [pushR],by omega,fun b hb=>.inr ⟨b,hb,rfl⟩⟩
  · have hlen : 0 < x.Area.length := List.length_pos_iff.2 h0
    rw [if_neg (by simp; omega)]
    rcases List.eq_nil_or_concat out with rfl | ⟨o,t,rfl⟩
    · have e : subI (([] : List Slab).length : Int) 1 = some (-1) := by decide
      rw [e,Option.bind_some,if_neg (by decide),Option.bind_some,if_neg (by simp),Option.bind_some,if_neg (by simp),appI_some (by simp),Option.bind_some]
      exact ⟨[x],rfl,by simp [pushR,slabRuns,h0],by simp,by simp⟩
    · rw [List.concat_eq_append] at *
      have hol:o.length < 1000000:=by simp at hl; omega
      have hta:=ha t (by simp)
      rw [subI_len (by omega),Option.bind_some,if_pos (by simp),getI_concat rfl,Option.bind_some,Option.bind_some]
      have hp:pushR [] (slabRuns (o ++ [t])) x.Z0 x.Z1 x.Area = if t.Z1 = x.Z0∧t.Area = x.Area then slabRuns o ++ [(t.Z0,x.Z1,x.Area)] else slabRuns (o ++ [t]) ++ [(x.Z0,x.Z1,x.Area)]:=by
        unfold pushR
        rw [if_neg h0]
        simp [slabRuns]
      by_cases h1:t.Z1 = x.Z0
      · rw [if_pos (by simpa using h1), Option.bind_some, region_Same_eq hta, Option.bind_some, Option.bind_some]
        by_cases h2:t.Area = x.Area
        · rw [if_pos (by simpa using h2), Option.bind_some, Option.bind_some, set_concat (by simp)]
          refine ⟨_,rfl,?_,by simp,fun b hb=>?_⟩
          · rw [hp,if_pos ⟨h1,h2⟩]; simp [slabRuns,h2]
          · rcases List.mem_append.1 hb with hb | hb
            · exact .inr ⟨b,by simp [hb],rfl⟩
            · simp only [List.mem_singleton] at hb; subst hb; exact .inl h2
        · rw [if_neg (by simpa using h2), appI_some (by simp; omega), Option.bind_some]
          refine ⟨_,rfl,?_,by simp,fun b hb=>?_⟩
          · rw [hp,if_neg (fun h=>h2 h.2)]; simp [slabRuns]
          · rcases List.mem_append.1 hb with hb | hb
            · exact .inr ⟨b,hb,rfl⟩
            · simp only [List.mem_singleton] at hb; subst hb; exact .inl rfl
      · rw [if_neg (by simpa using h1), Option.bind_some, if_neg (by simp), appI_some (by simp; omega), Option.bind_some]
        refine ⟨_,rfl,?_,by simp,fun b hb=>?_⟩
        · rw [hp,if_neg (fun h=>h1 h.1)]; simp [slabRuns]
        · rcases List.mem_append.1 hb with hb | hb
          · exact .inr ⟨b,hb,rfl⟩
          · simp only [List.mem_singleton] at hb; subst hb; exact .inl rfl

/-! Heights -/
structure IsZ (zs:List Int) (l:List Slab):Prop where
  asc:zs.Pairwise fun a b=>a < b
  mem : ∀ z,z ∈ zs ↔ ∃ s ∈ l,z = s.Z0 ∨ z = s.Z1
  len:zs.length ≤ 2 * l.length
theorem heights_L1 {l:List Slab} {o:List Int} (hl:l.length ≤ 100000) (ho:o.length ≤ 10000000) :
    iterL (solid_heights_L1 l) (l.length + 1) (o,0) = some (.ex 2 (o ++ l.flatMap (fun s=>[s.Z0,s.Z1]),(l.length:Int)))∧(o ++ l.flatMap fun s=>[s.Z0,s.Z1]).length = o.length + 2 * l.length:=by
  obtain ⟨h1,h2⟩:=iter_range (k:=2) (l:=l) (body:=solid_heights_L1 l) (fun (s:List Int) i=>(s,i)) (fun s r=>s ++ [r.Z0,r.Z1]) (fun i s=>s.length = o.length + 2 * i) (by
    intro i hi s hI
    constructor
    · unfold solid_heights_L1
      dsimp only
      rw [if_pos (by simpa using hi),getI_nat hi,Option.bind_some,appI_some (by simp; omega),Option.bind_some,addI_one (by omega),Option.bind_some]
    · simp; omega) (by
    intro s _
    unfold solid_heights_L1
    dsimp only
    rw [if_neg (by simp)]) (s0:=o) (by omega) (fuel:=l.length + 1) (by omega)
  rw [foldl_flatMap (fun r:Slab=>[r.Z0,r.Z1])] at h1 h2
  exact ⟨h1,h2⟩
theorem heights_spec {ls:List (List Slab)} (hn:ls.length ≤ 1000) (hl : ∀ l ∈ ls,l.length ≤ 400) : ∃ zs,solid_heights ls = some zs∧IsZ zs ls.flatten:=by
  unfold solid_heights
  obtain ⟨h1,h2⟩:=iter_range (k:=0) (l:=ls) (body:=solid_heights_L0 ls) (fun (s:List Int) i=>(s,i)) (fun s l=>s ++ l.flatMap fun s=>[s.Z0,s.Z1]) (fun i s=>s.length ≤ 800 * i∧s = (ls.take i).flatten.flatMap (fun s=>[s.Z0,s.Z1])) (by
    intro i hi s ⟨hI,hI2⟩
    have hli:=hl _ (List.getElem_mem hi)
    obtain ⟨g1,g2⟩:=heights_L1 (l:=ls[i]) (o:=s) (by omega) (by omega)
    refine ⟨?_,by rw [g2]; omega,?_⟩
    · unfold solid_heights_L0
      dsimp only
      rw [if_pos (by simpa using hi),getI_nat hi,Option.bind_some,g1,Option.bind_some]
      dsimp only
      rw [addI_one (by omega),Option.bind_some]
    · rw [List.take_succ_eq_append_getElem hi,List.flatten_append,List.flatten_cons,List.flatten_nil,List.append_nil,List.flatMap_append,← hI2]) (by
    intro s _
    unfold solid_heights_L0
    dsimp only
    rw [if_neg (by simp)]) (s0:=[]) ⟨by simp,by simp⟩ (fuel:=ls.length + 1) (by omega)
  rw [h1,Option.bind_some]
  dsimp only
  obtain ⟨h2,h2'⟩:=h2
  rw [List.take_length] at h2'
  generalize ls.foldl (fun s l=>s ++ l.flatMap fun s=>[s.Z0,s.Z1]) [] = ys at h2 h2'
  obtain ⟨ws,h3,h4,h5⟩:=sortInts_spec (l:=ys) (by omega)
  have hzl:=h4.length_eq
  obtain ⟨zs,h6,h7,h8,h9⟩:=compactInts_spec (l:=ws) (by omega) h5
  rw [h3,Option.bind_some,h6,Option.bind_some]
  refine ⟨zs,rfl,h7,fun z=>?_,?_⟩
  · rw [h8, h4.mem_iff, h2']
    simp [List.mem_flatMap]
  · have : ∀ l : List Slab, (l.flatMap fun s => [s.Z0, s.Z1]).length = 2 * l.length := by
      intro l
      induction l with
      | nil=>rfl
      | cons a l ih=>simp only [List.flatMap_cons,List.length_append,List.length_cons,List.length_nil,ih]; omega
    have:=this ls.flatten
    rw [← h2'] at this
    omega

/-! The solid of a function of z that is constant between cuts -/
/-- No more than 200 rectangles in a cross-section, no more than 80 slabs. -/
def slim (out:List Slab):List Slab × Int:=if (∃ s ∈ out,200 < s.Area.length) ∨ 80 < out.length then ([],6) else (out,0)
theorem fits_eq {out:List Slab} (h : ∀ s ∈ out,s.Area.length ≤ 200):solid_fits out = some (slim out):=by
  have hno : ¬ ∃ s ∈ out,200 < s.Area.length:=fun ⟨s,hs,h'⟩=>by have:=h s hs; omega
  unfold solid_fits slim
  by_cases h2:80 < out.length
  · rw [if_pos (by simp; omega),if_pos (.inr h2)]
  · rw [if_neg (by simp; omega),if_neg (fun h=>h.elim hno h2)]
def unslab (G:Runs (List Rect)):List Slab:=G.map fun g=>⟨g.1,g.2.1,g.2.2⟩
theorem slabRuns_unslab (G:Runs (List Rect)):slabRuns (unslab G) = G:=by
  unfold slabRuns unslab
  rw [List.map_map]
  exact List.map_id'' (fun _=>rfl) G
theorem build_solid {S:Int → Int → Int → Prop} {zs:List Int} (hz:zs.Pairwise fun a b=>a < b) {A:Int → List Rect} (hA : ∀ z,IsForm (fun x y=>S x y z) (A z))
    (hc : ∀ i (h:i + 1 < zs.length) z,zs[i] ≤ z → z < zs[i + 1] → ∀ x y,S x y zs[i] ↔ S x y z) (ho : ∀ z,(∀ i (h:i + 1 < zs.length),¬ (zs[i] ≤ z∧z < zs[i + 1])) → ∀ x y,¬ S x y z) :
    IsSolid S (unslab (build [] zs A (zs.length - 1)))∧(∀ i (h:i + 1 < zs.length),A zs[i] ≠ [] → ∃ s ∈ unslab (build [] zs A (zs.length - 1)),s.Area = A zs[i])∧∀ s ∈ unslab (build [] zs A (zs.length - 1)),∃ i,∃ h:i + 1 < zs.length,s.Area = A zs[i]:=by
  rcases Nat.eq_zero_or_pos zs.length with h0 | h0
  · have e : build [] zs A (zs.length - 1) = [] := by rw [h0]; rfl
    rw [e]
    refine ⟨⟨trivial,fun z=>?_⟩,fun i h=>absurd h (by omega),by simp [unslab]⟩
    exact form_nil.congr fun x y=>⟨False.elim,fun h=>ho z (fun i hi=>absurd hi (by omega)) x y h⟩
  · obtain ⟨h1, _, h3, h4, h5⟩ := build_spec hz A (zs.length - 1) (by omega)
    generalize hG:build [] zs A (zs.length - 1) = G at h1 h3 h4 h5
    have hin : ∀ i (h:i + 1 < zs.length) z,zs[i] ≤ z → z < zs[i + 1] → rval [] G z = A zs[i]:=fun i h z a b=>h3 i h (by omega) z a b
    refine ⟨⟨by rw [slabRuns_unslab]; exact h1,fun z=>?_⟩,fun i h hne=>?_,fun s hs=>?_⟩
    · unfold sect
      rw [slabRuns_unslab]
      by_cases hz' : ∃ i,∃ h:i + 1 < zs.length,zs[i] ≤ z∧z < zs[i + 1]
      · obtain ⟨i, h, a, b⟩ := hz'
        rw [hin i h z a b]
        exact (hA _).congr fun x y=>hc i h z a b x y
      · have hz2 : ∀ i (h : i + 1 < zs.length), ¬ (zs[i] ≤ z ∧ z < zs[i + 1]) := fun i h hh => hz' ⟨i, h, hh⟩
        rw [h4 z fun j hj _=>hz2 j hj]
        exact form_nil.congr fun x y=>⟨False.elim,fun h=>ho z hz2 x y h⟩
    · have hlt : zs[i] < zs[i + 1] := (List.pairwise_iff_getElem.1 hz) i (i + 1) (by omega) h (by omega)
      have hv:=hin i h zs[i] (Int.le_refl _) hlt
      rcases rval_mem (e:=[]) (l:=G) (x:=zs[i]) with h6 | ⟨a,b,h6,_⟩
      · rw [hv] at h6; exact absurd h6 hne
      · rw [hv] at h6
        exact ⟨⟨a,b,A zs[i]⟩,List.mem_map.2 ⟨_,h6,rfl⟩,rfl⟩
    · obtain ⟨g, hg, rfl⟩ := List.mem_map.1 hs
      obtain ⟨j,hj,hjn,he⟩:=h5 g hg
      exact ⟨j,by omega,he⟩
end Go.Proofs.YtagkmlkhaekldaaGreat

namespace Go.Proofs.YtagkmlkhaekldaaGreat
open Go.Gb
set_option linter.unusedVariables false
set_option linter.unusedSimpArgs false
set_option linter.unusedSectionVars false
set_option linter.unusedVariables false
set_option linter.unusedSimpArgs false

/-- One slab after the other. -/
theorem solid_loop {body:List Slab × Int → Option (Flow (List Slab × Int) (List Slab × Int))} {k:Nat} {zs:List Int} {A:Int → List Rect} (hz:zs.Pairwise fun a b=>a < b) (hzl:zs.length ≤ 100000)
    (hb : ∀ i (h1:1 ≤ i) (hi:i < zs.length) (s:List Slab),(200 < (A (zs[i - 1]'(by omega))).length → body (s,(i:Int)) = some (.ret ([],6))) ∧
      ((A (zs[i - 1]'(by omega))).length ≤ 200 → body (s,(i:Int)) = (solid_put s ⟨zs[i - 1]'(by omega),zs[i],A (zs[i - 1]'(by omega))⟩).bind fun o=>some (.go (o,((i + 1:Nat):Int)))))
    (hd : ∀ s,body (s,(zs.length:Int)) = some (.ex k (s,(zs.length:Int)))) (h1:0 < zs.length) {fuel:Nat} (hf:zs.length < fuel) :
    (iterL body fuel (([]:List Slab),1) = some (.ex k (unslab (build [] zs A (zs.length - 1)),(zs.length:Int)))∧∀ b ∈ unslab (build [] zs A (zs.length - 1)),b.Area.length ≤ 200) ∨
    (iterL body fuel (([]:List Slab),1) = some (.ret ([],6))∧∃ j,∃ h:j + 1 < zs.length,200 < (A zs[j]).length):=by
  rcases iter_fromR (k:=k) (body:=body) (fun (s:List Slab) i=>(s,i)) 1 zs.length h1 (fun i s=>slabRuns s = build [] zs A (i - 1)∧s.length < i∧∀ b ∈ s,b.Area.length ≤ 200)
    (fun r=>r = ([],6)∧∃ j,∃ h:j + 1 < zs.length,200 < (A zs[j]).length) (by
    intro i h1i hi s ⟨hI1,hI2,hI3⟩
    obtain ⟨b1,b2⟩:=hb i h1i hi s
    by_cases hc:200 < (A (zs[i - 1]'(by omega))).length
    · exact .inr ⟨_,b1 hc,rfl,i - 1,by omega,hc⟩
    · left
      obtain ⟨o,p1,p2,p3,p4⟩:=put_spec (out:=s) (x:=⟨zs[i - 1]'(by omega),zs[i],A (zs[i - 1]'(by omega))⟩) (by omega) (fun b hb=>by have:=hI3 b hb; omega)
      refine ⟨o,by rw [b2 (by omega),p1,Option.bind_some],?_,by omega,fun b hb=>?_⟩
      · rw [p2, hI1]
        have e:i + 1 - 1 = (i - 1) + 1:=by omega
        rw [e,build_succ (show i - 1 + 1 < zs.length by omega)]
        have e2:zs[i - 1 + 1]'(by omega) = zs[i]:=by congr 1; omega
        rw [e2]
      · rcases p4 b hb with h | ⟨c, hc', h⟩
        · rw [h]; dsimp only; omega
        · rw [h]; exact hI3 c hc') (fun s _=>hd s) (s0:=[]) ⟨rfl,by simp,by simp⟩ (fuel:=fuel) (by omega) with ⟨s,h2,h3,h4,h5⟩ | ⟨r,h2,rfl,h3⟩
  · left
    have e:s = unslab (build [] zs A (zs.length - 1)):=slabRuns_inj (by rw [h3,slabRuns_unslab])
    rw [← e]
    exact ⟨h2,h5⟩
  · exact .inr ⟨h2,h3⟩

/-! Of -/
def VB (b:Box):Prop:=VR b.Base∧0 ≤ b.Z0∧b.Z0 < b.Z1∧b.Z1 ≤ 4096
instance (b:Box):Decidable (VB b):=inferInstanceAs (Decidable (_∧_))
/-- The cube (x, y, z) is in one of the boxes. -/
def bcells (l:List Box) (x y z:Int):Prop:=∃ b ∈ l,rin b.Base x y∧b.Z0 ≤ z∧z < b.Z1
instance (l:List Box) (x y z:Int):Decidable (bcells l x y z):=inferInstanceAs (Decidable (∃ b ∈ l,_))
def bases (l:List Box) (z:Int):List Rect:=(l.filter fun b=>decide (b.Z0 ≤ z) && decide (z < b.Z1)).map (·.Base)
theorem bases_cells (l:List Box) (x y z:Int):cells (bases l z) x y ↔ bcells l x y z:=by
  unfold cells bcells bases
  constructor
  · rintro ⟨r, hr, h⟩
    obtain ⟨b,hb,rfl⟩:=List.mem_map.1 hr
    simp only [List.mem_filter,Bool.and_eq_true,decide_eq_true_eq] at hb
    exact ⟨b,hb.1,h,hb.2⟩
  · rintro ⟨b, hb, h, hz⟩
    exact ⟨b.Base,List.mem_map.2 ⟨b,by simp only [List.mem_filter,Bool.and_eq_true,decide_eq_true_eq]; exact ⟨hb,hz⟩,rfl⟩,h⟩
theorem bases_length (l:List Box) (z:Int):(bases l z).length ≤ l.length:=by unfold bases; rw [List.length_map]; exact List.length_filter_le _ _
theorem bases_right {l:List Box} (h : ∀ b ∈ l,VB b) (z:Int) : ∀ r ∈ bases l z,VR r:=by
  intro r hr
  obtain ⟨b,hb,rfl⟩:=List.mem_map.1 hr
  exact (h b (List.mem_filter.1 hb).1).1
theorem Of_L0 {l:List Box} (hl:l.length ≤ 100000) :
    (¬ (∀ b ∈ l,VB b)∧iterL (solid_Of_L0 l) (l.length + 1) (([]:List Slab),0) = some (.ret ([],1))) ∨
    ((∀ b ∈ l,VB b)∧iterL (solid_Of_L0 l) (l.length + 1) (([]:List Slab),0) = some (.ex 0 (l.map (fun b=>⟨b.Z0,b.Z1,[]⟩),(l.length:Int)))):=by
  rcases iter_fromR (k:=0) (body:=solid_Of_L0 l) (fun (s:List Slab) i=>(s,i)) 0 l.length (Nat.zero_le _) (fun i s=>s = (l.take i).map (fun b=>⟨b.Z0,b.Z1,[]⟩)∧∀ j (hj:j < l.length),j < i → VB l[j])
    (fun r=>r = ([],1)∧¬ ∀ b ∈ l,VB b) (by
    rintro i - hi s ⟨rfl,hV⟩
    unfold solid_Of_L0
    dsimp only
    rw [if_pos (by simpa using hi),getI_nat hi,Option.bind_some,rect_Right_eq,Option.bind_some]
    by_cases hv:VB l[i]
    · left
      have hv':=hv
      unfold VB at hv'
      refine ⟨(l.take (i + 1)).map (fun b=>⟨b.Z0,b.Z1,[]⟩),?_,rfl,fun j hj hji=>?_⟩
      · rw [if_neg (by simp only [Bool.or_eq_true, decide_eq_true_eq, Bool.not_eq_true', decide_eq_false_iff_not]; rintro (((h | h) | h) | h) <;> first | exact h hv'.1 | omega),
          appI_some (by simp; omega),Option.bind_some,addI_one (by omega),Option.bind_some,List.take_succ_eq_append_getElem hi,List.map_append]
        rfl
      · rcases Nat.lt_or_ge j i with h | h
        · exact hV j hj h
        · obtain rfl : j = i := by omega
          exact hv
    · right
      refine ⟨_,if_pos ?_,rfl,fun h=>hv (h _ (List.getElem_mem hi))⟩
      simp only [Bool.or_eq_true, decide_eq_true_eq, Bool.not_eq_true', decide_eq_false_iff_not]
      unfold VB at hv
      by_cases h1:VR l[i].Base
      · have : ¬ (0 ≤ l[i].Z0 ∧ l[i].Z0 < l[i].Z1 ∧ l[i].Z1 ≤ 4096) := fun h => hv ⟨h1, h⟩
        omega
      · exact .inl (.inl (.inl h1))) (by
    intro s _
    unfold solid_Of_L0
    dsimp only
    rw [if_neg (by simp)]) (s0:=[]) ⟨rfl,fun j _ h=>absurd h (Nat.not_lt_zero j)⟩ (fuel:=l.length + 1) (by omega) with ⟨s,h1,rfl,h2⟩ | ⟨r,h1,rfl,h2⟩
  · rw [List.take_length] at h1
    refine .inr ⟨fun b hb=>?_,h1⟩
    obtain ⟨j,hj,rfl⟩:=List.getElem_of_mem hb
    exact h2 j hj hj
  · exact .inl ⟨h2,h1⟩
theorem Of_L2 {l:List Box} (hl:l.length ≤ 100000) {zs:List Int} {s:List Slab} {i:Nat} (h1:1 ≤ i) (hi:i < zs.length) (hil:i < 1000000) (hz : ∀ b ∈ l,b.Z0 < zs[i] ↔ b.Z0 ≤ zs[i - 1]'(by omega)) :
    iterL (solid_Of_L2 l zs (s,(i:Int))) (l.length + 1) (([]:List Rect),0) = some (.ex 4 (bases l (zs[i - 1]'(by omega)),(l.length:Int))):=by
  refine (iter_range (k:=4) (l:=l) (fun (o:List Rect) j=>(o,j)) (fun o b=>if (decide (b.Z0 ≤ zs[i - 1]'(by omega)) && decide ((zs[i - 1]'(by omega)) < b.Z1)) then o ++ [b.Base] else o) (fun j o=>o.length ≤ j) ?_ ?_ (s0:=[]) (Nat.zero_le _) (by omega)).1.trans ?_
  · intro j hj o hI
    have hzj:=hz _ (List.getElem_mem hj)
    constructor
    · unfold solid_Of_L2
      dsimp only
      rw [if_pos (by simpa using hj),getI_nat hj,Option.bind_some,getI_nat hi,Option.bind_some]
      have hcond:(if decide (l[j].Z0 < zs[i]) = true then (subI (i:Int) 1).bind fun x=>(getI zs x).bind fun y=>some (decide (y < l[j].Z1)) else some false) = some (decide (l[j].Z0 ≤ zs[i - 1]'(by omega)) && decide ((zs[i - 1]'(by omega)) < l[j].Z1)):=by
        by_cases c:l[j].Z0 < zs[i]
        · rw [if_pos (by simpa using c), subI_nat (by omega) (by omega), Option.bind_some, getI_nat (show i - 1 < zs.length by omega), Option.bind_some]
          simp [hzj.1 c]
        · rw [if_neg (by simpa using c)]
          have : ¬ l[j].Z0 ≤ zs[i - 1]'(by omega):=fun h=>c (hzj.2 h)
          simp [this]
      rw [hcond,Option.bind_some]
      split
      · rw [appI_some (by simp; omega),Option.bind_some,Option.bind_some,addI_one (by omega),Option.bind_some]
      · rw [Option.bind_some,addI_one (by omega),Option.bind_some]
    · split
      · simp; omega
      · omega
  · intro o _
    unfold solid_Of_L2
    dsimp only
    rw [if_neg (by simp)]
  · rw [foldl_filterMap (fun b : Box => decide (b.Z0 ≤ zs[i - 1]'(by omega)) && decide ((zs[i - 1]'(by omega)) < b.Z1)) (fun b => b.Base)]
    rfl
theorem z_cut {zs:List Int} (hp:zs.Pairwise fun a b=>a < b) {i:Nat} (h1:1 ≤ i) (hi:i < zs.length) {z:Int} (hz:z ∈ zs):z < zs[i] ↔ z ≤ zs[i - 1]'(by omega):=by
  have e:i - 1 + 1 = i:=by omega
  have hlt:(zs[i - 1]'(by omega)) < zs[i]:=(List.pairwise_iff_getElem.1 hp) (i - 1) i (by omega) hi (by omega)
  have:=asc_gap hp (i:=i - 1) (by omega) hz
  simp only [e] at this
  omega
theorem solid_Of_fine {l:List Box} (h : ∀ b ∈ l,VB b) (hm:l.length ≤ 200) : ∃ out,IsSolid (bcells l) out∧solid_Of l = some (slim out):=by
  have hex : ∀ z,∃ o,IsForm (fun x y=>bcells l x y z) o∧region_Of (bases l z) = some (lim o):=by
    intro z
    obtain ⟨o,h1,h2⟩:=region_Of_fine (bases_right h z) (by have:=bases_length l z; omega)
    exact ⟨o,h1.congr fun x y=>bases_cells l x y z,h2⟩
  obtain ⟨A,hA⟩:=Classical.axiomOfChoice hex
  obtain ⟨zs,hz1,hz2⟩:=heights_spec (ls:=[l.map fun b=>(⟨b.Z0,b.Z1,[]⟩:Slab)]) (by simp) (by simp; omega)
  have hzl:=hz2.len
  simp only [List.flatten_cons,List.flatten_nil,List.append_nil,List.length_map] at hzl
  have hmem : ∀ b ∈ l,b.Z0 ∈ zs∧b.Z1 ∈ zs:=by
    intro b hb
    refine ⟨(hz2.mem _).2 ⟨⟨b.Z0,b.Z1,[]⟩,?_,.inl rfl⟩,(hz2.mem _).2 ⟨⟨b.Z0,b.Z1,[]⟩,?_,.inr rfl⟩⟩ <;>
    · simp only [List.flatten_cons, List.flatten_nil, List.append_nil]
      exact List.mem_map.2 ⟨b,hb,rfl⟩
  obtain ⟨hS,hS2,hS3⟩:=build_solid (S:=bcells l) hz2.asc (fun z=>(hA z).1) (by
    intro i hi z h1 h2 x y
    refine exists_congr fun b=>and_congr_right fun hb=>and_congr_right fun _=>?_
    have g1:=asc_gap hz2.asc hi (hmem b hb).1
    have g2:=asc_gap hz2.asc hi (hmem b hb).2
    omega) (by
    rintro z hno x y ⟨b,hb,_,h1,h2⟩
    obtain ⟨i,hi,a1,a2⟩:=asc_between hz2.asc (hmem b hb).1 (hmem b hb).2 h1 h2
    exact hno i hi ⟨a1,a2⟩)
  refine ⟨_,hS,?_⟩
  unfold solid_Of
  rcases Of_L0 (l:=l) (by omega) with ⟨h1,_⟩ | ⟨_,h1⟩
  · exact absurd h h1
  · rw [h1, Option.bind_some]
    dsimp only
    rw [if_neg (by simp; omega),hz1,Option.bind_some]
    rcases Nat.eq_zero_or_pos zs.length with h0 | h0
    · obtain rfl : zs = [] := List.length_eq_zero_iff.1 h0
      have e:iterL (solid_Of_L1 l []) (l.length + ([]:List Int).length + ([]:List Slab).length + 1) (([]:List Slab),1) = some (.ex 2 (([]:List Slab),1)):=by
        have:solid_Of_L1 l [] (([]:List Slab),1) = some (.ex 2 (([]:List Slab),1)):=by
          unfold solid_Of_L1
          dsimp only
          rw [if_neg (by simp)]
        simp only [iterL,this]
      rw [e,Option.bind_some]
      dsimp only
      rw [fits_eq (by simp),Option.bind_some]
      rfl
    · rcases solid_loop (body := solid_Of_L1 l zs) (k := 2) (A := A) hz2.asc (by omega) (by
        intro i h1i hi s
        have hL2:=Of_L2 (l:=l) (by omega) (s:=s) h1i hi (by omega) (fun b hb=>z_cut hz2.asc h1i hi (hmem b hb).1)
        have hOf:=(hA (zs[i - 1]'(by omega))).2
        unfold solid_Of_L1
        dsimp only
        rw [if_pos (by simpa using hi),hL2,Option.bind_some]
        dsimp only
        rw [hOf,Option.bind_some]
        unfold lim
        constructor
        · intro hc
          rw [if_pos hc,if_pos (by decide)]
        · intro hc
          rw [if_neg (Nat.not_lt.2 hc),if_neg (by dsimp only; decide),subI_nat (by omega) (by omega),Option.bind_some,getI_nat (show i - 1 < zs.length by omega),Option.bind_some,getI_nat hi,Option.bind_some]
          rw [addI_one (by omega)]
          rfl) (by
        intro s
        unfold solid_Of_L1
        dsimp only
        rw [if_neg (by simp)]) h0 (fuel:=l.length + zs.length + ([]:List Slab).length + 1) (by simp; omega) with ⟨h2,h3⟩ | ⟨h2,j,hj,h3⟩
      · rw [h2, Option.bind_some]
        dsimp only
        rw [fits_eq h3,Option.bind_some]
      · rw [h2, Option.bind_some]
        dsimp only
        obtain ⟨s,hs1,hs2⟩:=hS2 j hj (fun e=>by rw [e] at h3; simp at h3)
        unfold slim
        rw [if_pos (.inl ⟨s,hs1,by rw [hs2]; exact h3⟩)]

/-! Combining -/
end Go.Proofs.YtagkmlkhaekldaaGreat

namespace Go.Proofs.YtagkmlkhaekldaaGreat
open Go.Gb
set_option linter.unusedVariables false
set_option linter.unusedSimpArgs false
set_option linter.unusedSectionVars false
set_option linter.unusedVariables false
set_option linter.unusedSimpArgs false

/-! What is asked of a region -/
theorem rect_checked_eq (r:Rect):rect_checked r = some (if VR r then (r,true) else (⟨0,0,0,0⟩,false)):=by
  unfold rect_checked
  rw [rect_Right_eq,Option.bind_some]
  by_cases h:VR r <;> simp [h]
/-- The number of cells. -/
def areaL (l:List Rect):Int:=sumL (fun r=>(r.X1 - r.X0) * (r.Y1 - r.Y0)) l
def ind (b:Bool):Int:=if b then 1 else 0
theorem ind_bounds (b:Bool):0 ≤ ind b∧ind b ≤ 1:=by cases b <;> simp [ind]
theorem area_form {S:Int → Int → Prop} [∀ x y,Decidable (S x y)] {out:List Rect} (h:IsForm S out) {M:Nat} (hb : ∀ r ∈ out,0 ≤ r.X0∧r.X1 ≤ M∧0 ≤ r.Y0∧r.Y1 ≤ M) :
    areaL out = sumN (fun x=>sumN (fun y=>ind (decide (S x y))) M) M:=by
  obtain ⟨G,h1,h2,h3,rfl⟩:=h
  have hG : ∀ g ∈ G,(0 ≤ g.1∧g.2.1 ≤ M)∧∀ s ∈ g.2.2,0 ≤ s.1∧s.2.1 ≤ M:=by
    intro g hg
    have hmem : ∀ s ∈ g.2.2,(⟨g.1,s.1,g.2.1,s.2.1⟩:Rect) ∈ flatG G:=fun s hs=>List.mem_flatMap.2 ⟨g,hg,List.mem_map.2 ⟨s,hs,rfl⟩⟩
    refine ⟨?_,fun s hs=>?_⟩
    · obtain ⟨a, b, c⟩ := g
      have hne:=(canon_mem h1 hg).2
      cases c with
      | nil=>exact absurd rfl hne
      | cons s c =>
        have:=hb _ (hmem s (by simp))
        exact ⟨this.1,this.2.1⟩
    · have := hb _ (hmem s hs)
      exact ⟨this.2.2.1,this.2.2.2⟩
  have e1:areaL (flatG G) = sumL (fun g=>(g.2.1 - g.1) * sumN (fun y=>ind (rval false g.2.2 (y:Int))) M) G:=by
    unfold areaL flatG
    rw [sumL_flatMap]
    refine sumL_congr fun g hg=>?_
    obtain ⟨a,b,c⟩:=g
    have hc:=h2 a b c hg
    rw [← sum_runs (w:=ind) (e:=false) rfl hc (hG _ hg).2,sumL_map,← sumL_mul]
    refine sumL_congr fun s hs=>?_
    have:s.2.2 = true:=by
      have:=(canon_mem hc (show (s.1,s.2.1,s.2.2) ∈ c from hs)).2
      cases hv:s.2.2
      · rw [hv] at this; exact absurd rfl this
      · rfl
    rw [this]; simp [ind]
  rw [e1,sum_runs (e:=[]) (w:=fun c:Col=>sumN (fun y=>ind (rval false c (y:Int))) M) (by simp only [rval]; exact sumN_zero) h1 fun r hr=>(hG r hr).1]
  refine sumN_congr fun x _=>sumN_congr fun y _=>?_
  congr 1
  rw [Bool.eq_iff_iff,h3,decide_eq_true_eq]
theorem area_bound {S:Int → Int → Prop} {out:List Rect} (h:IsForm S out) (hb : ∀ r ∈ out,VR r):0 ≤ areaL out∧areaL out ≤ 1099511627776:=by
  classical
  have hb' : ∀ r ∈ out,0 ≤ r.X0∧r.X1 ≤ ((1048576:Nat):Int)∧0 ≤ r.Y0∧r.Y1 ≤ ((1048576:Nat):Int):=fun r hr=>by
    have:=hb r hr
    unfold VR at this
    omega
  rw [area_form h hb']
  generalize hM:(1048576:Nat) = M
  have h1 : ∀ x:Nat,0 ≤ sumN (fun y:Nat=>ind (decide (S (x:Int) (y:Int)))) M∧sumN (fun y:Nat=>ind (decide (S (x:Int) (y:Int)))) M ≤ M * 1:=fun x=>
    ⟨sumN_nonneg fun i _=>(ind_bounds _).1,sumN_le fun i _=>(ind_bounds _).2⟩
  refine ⟨sumN_nonneg fun i _=>(h1 i).1,?_⟩
  have h2:=sumN_le (f:=fun x:Nat=>sumN (fun y:Nat=>ind (decide (S (x:Int) (y:Int)))) M) (m:=M * 1) (n:=M) fun i _=>(h1 i).2
  subst hM
  exact h2
theorem rect_Area_eq {r:Rect} (h:VR r):rect_Area r = some ((r.X1 - r.X0) * (r.Y1 - r.Y0)):=by
  unfold rect_Area
  rw [rect_checked_eq,if_pos h,Option.bind_some]
  unfold VR at h
  have hm:(r.X1 - r.X0) * (r.Y1 - r.Y0) ≤ 1048576 * 1048576:=Int.mul_le_mul (by omega) (by omega) (by omega) (by omega)
  have hm0:0 ≤ (r.X1 - r.X0) * (r.Y1 - r.Y0):=Int.mul_nonneg (by omega) (by omega)
  rw [subI_some (by unfold inI; dsimp only; omega),Option.bind_some,subI_some (by unfold inI; dsimp only; omega),Option.bind_some,mulI_some (by unfold inI; dsimp only; omega),Option.bind_some]
theorem rect_area_bound {r:Rect} (h:VR r):0 ≤ (r.X1 - r.X0) * (r.Y1 - r.Y0)∧(r.X1 - r.X0) * (r.Y1 - r.Y0) ≤ 1099511627776:=by
  unfold VR at h
  exact ⟨Int.mul_nonneg (by omega) (by omega),Int.mul_le_mul (c:=1048576) (d:=1048576) (by omega) (by omega) (by omega) (by omega)⟩
theorem sumL_prefix {α:Type} {f:α → Int} {l:List α} (h : ∀ x ∈ l,0 ≤ f x) (i:Nat):0 ≤ sumL f (l.take i)∧sumL f (l.take i) ≤ sumL f l:=by
  have h1:=sumL_nonneg (l:=l.take i) fun x hx=>h x (List.mem_of_mem_take hx)
  have h2:=sumL_nonneg (l:=l.drop i) fun x hx=>h x (List.mem_of_mem_drop hx)
  have h3:sumL f l = sumL f (l.take i) + sumL f (l.drop i):=by rw [← sumL_append,List.take_append_drop]
  omega
theorem sumL_snoc {α:Type} {f:α → Int} {l:List α} {i:Nat} (hi:i < l.length):sumL f (l.take (i + 1)) = sumL f (l.take i) + f l[i]:=by
  rw [List.take_succ_eq_append_getElem hi,sumL_append]; simp [sumL]
theorem region_Area_fine {a:List Rect} (h:RR a):region_Area a = some (areaL a):=by
  unfold region_Area
  rw [region_Right_true h,Option.bind_some,if_neg (by simp)]
  have hl:=h.2.1
  have hb:=area_bound h.2.2 h.1
  have hn : ∀ r ∈ a,0 ≤ (r.X1 - r.X0) * (r.Y1 - r.Y0):=fun r hr=>(rect_area_bound (h.1 r hr)).1
  obtain ⟨h1,h2⟩:=iter_range (k:=0) (l:=a) (body:=region_Area_L0 a) (fun (s:Int) i=>(s,i)) (fun s r=>s + (r.X1 - r.X0) * (r.Y1 - r.Y0)) (fun i s=>s = sumL (fun r=>(r.X1 - r.X0) * (r.Y1 - r.Y0)) (a.take i)) (by
    intro i hi s hI
    have hp:=sumL_prefix hn (i + 1)
    rw [sumL_snoc hi,← hI] at hp
    unfold areaL at hb
    constructor
    · unfold region_Area_L0
      dsimp only
      rw [if_pos (by simpa using hi),getI_nat hi,Option.bind_some,rect_Area_eq (h.1 _ (List.getElem_mem hi)),Option.bind_some,addI_some (by unfold inI; omega),Option.bind_some,addI_one (by omega),Option.bind_some]
    · rw [sumL_snoc hi,← hI]) (by
    intro s _
    unfold region_Area_L0
    dsimp only
    rw [if_neg (by simp)]) (s0:=0) rfl (fuel:=a.length + 1) (by omega)
  rw [h1,Option.bind_some]
  dsimp only
  rw [h2,List.take_length]
  rfl
/-! What is asked of a solid -/
/-- The height over a cell. -/
def IsTop (s:List Slab) (x y t:Int):Prop:=0 ≤ t∧(∀ z,scells s x y z → z < t)∧(t = 0 ∨ scells s x y (t - 1))
theorem IsTop.unique {s:List Slab} {x y t t' : Int} (h:IsTop s x y t) (h' : IsTop s x y t'):t = t':=by
  obtain ⟨a1,a2,a3⟩:=h
  obtain ⟨b1,b2,b3⟩:=h'
  rcases a3 with rfl | a3
  · rcases b3 with rfl | b3
    · rfl
    · have:=a2 _ b3; omega
  · have := b2 _ a3
    rcases b3 with rfl | b3
    · omega
    · have:=a2 _ b3; omega
end Go.Proofs.YtagkmlkhaekldaaGreat

namespace Go.Proofs.YtagkmlkhaekldaaGreat
open Go.Gb
set_option linter.unusedVariables false
set_option linter.unusedSimpArgs false
set_option linter.unusedSectionVars false
set_option linter.unusedVariables false
set_option linter.unusedSimpArgs false

/-! Forms that can be checked by reckoning -/
def canonB {V:Type} [DecidableEq V] (e:V):Runs V → Bool
  | []=>true
  | (a,b,v)::t=>decide (a < b) && decide (v ≠ e) && (match t with | []=>true | (c,_,w)::_=>decide (b < c) || (decide (b = c) && decide (v ≠ w))) && canonB e t
theorem canonB_spec {V:Type} [DecidableEq V] {e:V} : ∀ {l:Runs V},canonB e l = true → Canon e l
  | [],_=>trivial
  | (a, b, v) :: t, h => by
    simp only [canonB,Bool.and_eq_true,decide_eq_true_eq] at h
    obtain ⟨⟨⟨h1,h2⟩,h3⟩,h4⟩:=h
    refine ⟨h1,h2,?_,canonB_spec h4⟩
    cases t with
    | nil=>trivial
    | cons r t =>
      obtain ⟨c,d,w⟩:=r
      simp only [Bool.or_eq_true,Bool.and_eq_true,decide_eq_true_eq] at h3
      exact h3
/-- The runs of columns of a list of rectangles, neighbours with the same ends in one. -/
def runsOf:List Rect → Runs Col
  | []=>[]
  | r :: l => match runsOf l with
    | []=>[(r.X0,r.X1,[(r.Y0,r.Y1,true)])]
    | (a,b,c)::t=>if r.X0 = a∧r.X1 = b then (a,b,(r.Y0,r.Y1,true)::c)::t else (r.X0,r.X1,[(r.Y0,r.Y1,true)])::(a,b,c)::t
theorem flatG_cons (a b:Int) (c:Col) (t:Runs Col):flatG ((a,b,c)::t) = (c.map fun s=>⟨a,s.1,b,s.2.1⟩) ++ flatG t:=rfl
theorem flatG_runsOf : ∀ l:List Rect,flatG (runsOf l) = l
  | []=>rfl
  | r :: l => by
    have ih:=flatG_runsOf l
    simp only [runsOf]
    split
    · rename_i h
      rw [h] at ih
      rw [← ih]; rfl
    · rename_i a b c t h
      rw [h] at ih
      split
      · rename_i h2
        obtain ⟨rfl,rfl⟩:=h2
        rw [← ih,flatG_cons,flatG_cons]; rfl
      · rw [flatG_cons,← ih]; rfl
def formB (l:List Rect):Bool:=canonB [] (runsOf l) && (runsOf l).all fun g=>canonB false g.2.2
theorem formB_spec {l:List Rect} (h:formB l = true):IsForm (cells l) l:=by
  unfold formB at h
  rw [Bool.and_eq_true,List.all_eq_true] at h
  have hf:IsForm (fun x y=>rval false (rval [] (runsOf l) x) y = true) l:=⟨runsOf l,canonB_spec h.1,fun a b c hm=>canonB_spec (h.2 _ hm),fun _ _=>Iff.rfl,(flatG_runsOf l).symm⟩
  exact hf.self
def rrB (l:List Rect):Bool:=l.all (fun r=>decide (VR r)) && decide (l.length ≤ 200) && formB l
theorem rrB_spec {l:List Rect} (h:rrB l = true):RR l:=by
  unfold rrB at h
  simp only [Bool.and_eq_true,List.all_eq_true,decide_eq_true_eq] at h
  exact ⟨h.1.1,h.1.2,formB_spec h.2⟩
def ssB (s:List Slab):Bool:=decide (s.length ≤ 80) && canonB [] (slabRuns s) && s.all fun b=>decide (0 ≤ b.Z0) && decide (b.Z1 ≤ 4096) && rrB b.Area
theorem ssB_spec {s:List Slab} (h:ssB s = true):SS s:=by
  unfold ssB at h
  simp only [Bool.and_eq_true,List.all_eq_true,decide_eq_true_eq] at h
  exact ⟨h.1.1,canonB_spec h.1.2,fun b hb=>⟨(h.2 b hb).1.1,(h.2 b hb).1.2,rrB_spec (h.2 b hb).2⟩⟩
theorem slim_fine {s:List Slab} (h:SS s):slim s = (s,0):=by
  unfold slim
  rw [if_neg]
  rintro (⟨b,hb,h'⟩ | h')
  · have:=(h.ok b hb).2.2.2.1; omega
  · have:=h.len; omega
theorem scells_iff {s:List Slab} {x y z:Int}:scells s x y z ↔ cells (sect s z) x y:=Iff.rfl
theorem sect_nil (z:Int):sect [] z = []:=rfl
end Go.Proofs.YtagkmlkhaekldaaGreat

namespace Go.Proofs.YtagkmlkhaekldaaGreat
open Go.Gb
set_option linter.unusedVariables false
set_option linter.unusedSimpArgs false
set_option linter.unusedSectionVars false
set_option linter.unusedVariables false
set_option linter.unusedSimpArgs false

theorem nodup_le {α:Type} [DecidableEq α] : ∀ {l m:List α},l.Nodup → (∀ x ∈ l,x ∈ m) → l.length ≤ m.length
  | [],m,_,_=>Nat.zero_le _
  | a :: l, m, hn, hs => by
    have hn':=List.nodup_cons.1 hn
    have ha:=hs a (by simp)
    have ih:=nodup_le (l:=l) (m:=m.erase a) hn'.2 fun x hx=>by
      have hxa:x ≠ a:=fun e=>hn'.1 (e ▸ hx)
      exact (List.mem_erase_of_ne hxa).2 (hs x (by simp [hx]))
    rw [List.length_erase_of_mem ha] at ih
    have:=List.length_pos_of_mem ha
    simp only [List.length_cons]; omega

/-- How many of the numbers lie in [a, b). -/
def inC (D:List Int) (a b:Int):Nat:=D.countP fun c=>decide (a ≤ c) && decide (c < b)
def ends (l:List (Int × Int)):List Int:=l.flatMap fun r=>[r.1,r.2]
theorem ends_cons (r:Int × Int) (l:List (Int × Int)):ends (r::l) = r.1::r.2::ends l:=rfl
def sumNat {α:Type} (f:α → Nat):List α → Nat
  | []=>0
  | x::xs=>f x + sumNat f xs
theorem sumNat_le {α:Type} {f g:α → Nat} : ∀ {l:List α},(∀ x ∈ l,f x ≤ g x) → sumNat f l ≤ sumNat g l
  | [],_=>Nat.le_refl _
  | x :: l, h => by
    have:=h x (by simp)
    have:=sumNat_le (l:=l) fun y hy=>h y (by simp [hy])
    simp only [sumNat]; omega
theorem sumNat_add {α:Type} {f g:α → Nat} : ∀ {l:List α},sumNat (fun x=>f x + g x) l = sumNat f l + sumNat g l
  | []=>rfl
  | x::l=>by simp only [sumNat,sumNat_add (l:=l)]; omega
theorem sumNat_const {α:Type} {c:Nat} : ∀ {l:List α},sumNat (fun _=>c) l = c * l.length
  | []=>rfl
  | x::l=>by simp only [sumNat,sumNat_const (l:=l),List.length_cons,Nat.mul_add]; omega
/-- Numbers that are ends of intervals, each once: those in a set are no more than the ends in it. -/
theorem count_ends {l:List (Int × Int)} {q:Int → Bool} : ∀ {D:List Int},D.Nodup → (∀ c ∈ D,c ∈ ends l) → D.countP q ≤ sumNat (fun r=>(if q r.1 then 1 else 0) + (if q r.2 then 1 else 0)) l:=by
  intro D hn hs
  have h1:D.countP q = (D.filter q).length:=List.countP_eq_length_filter
  have h2:(D.filter q).length ≤ ((ends l).filter q).length:=nodup_le (hn.sublist List.filter_sublist) fun x hx=>by
    rw [List.mem_filter] at hx ⊢
    exact ⟨hs x hx.1,hx.2⟩
  have h3 : ∀ l:List (Int × Int),((ends l).filter q).length = sumNat (fun r=>(if q r.1 then 1 else 0) + (if q r.2 then 1 else 0)) l:=by
    intro l
    induction l with
    | nil=>rfl
    | cons r l ih =>
      rw [ends_cons]
      simp only [List.filter_cons,sumNat,← ih]
      cases q r.1 <;> cases q r.2 <;> simp <;> omega
  rw [← h3]; omega
theorem pairs_sq : ∀ {l:List (Int × Int)} {D:List Int},(∀ r ∈ l,r.1 < r.2) → D.Nodup → (∀ c ∈ D,c ∈ ends l) → sumNat (fun r=>inC D r.1 r.2) l ≤ l.length * l.length
  | [],D,_,_,_=>Nat.le_refl _
  | r0 :: l, D, hlt, hn, hs => by
    have h0:=hlt r0 (by simp)
    -- the numbers that are ends of the other intervals, and those that are not
    let o:Int → Bool:=fun c=>decide (c ∈ ends l)
    have hD : ∀ p:Int → Bool,D.countP p = (D.filter o).countP p + (D.filter fun c=>!o c).countP p:=by
      intro p
      clear hn hs hlt
      induction D with
      | nil=>rfl
      | cons c D ih =>
        simp only [List.countP_cons,List.filter_cons,ih]
        cases o c <;> simp [List.countP_cons] <;> omega
    have hD1:(D.filter o).Nodup:=hn.sublist List.filter_sublist
    have hs1 : ∀ c ∈ D.filter o,c ∈ ends l:=fun c hc=>by have:=(List.mem_filter.1 hc).2; simpa [o] using this
    have hD2:(D.filter fun c=>!o c).Nodup:=hn.sublist List.filter_sublist
    have hs2 : ∀ c ∈ D.filter (fun c=>!o c),c ∉ ends l∧(c = r0.1 ∨ c = r0.2):=fun c hc=>by
      have h1:=(List.mem_filter.1 hc).2
      have h2:=hs c (List.mem_filter.1 hc).1
      rw [ends_cons] at h2
      have h3:c ∉ ends l:=by simpa [o] using h1
      refine ⟨h3,?_⟩
      rcases List.mem_cons.1 h2 with h | h
      · exact .inl h
      · rcases List.mem_cons.1 h with h | h
        · exact .inr h
        · exact absurd h h3
    have ih:=pairs_sq (l:=l) (D:=D.filter o) (fun r hr=>hlt r (by simp [hr])) hD1 hs1
    -- the new numbers within another interval
    have hnew : ∀ r ∈ l,(D.filter fun c=>!o c).countP (fun c=>decide (r.1 ≤ c) && decide (c < r.2)) ≤ (if r.1 < r0.1∧r0.1 < r.2 then 1 else 0) + (if r.1 < r0.2∧r0.2 < r.2 then 1 else 0):=by
      intro r hr
      have hrl:=hlt r (by simp [hr])
      have:=count_ends (l:=[r0]) (q:=fun c=>decide (r.1 < c) && decide (c < r.2)) (D:=D.filter fun c=>!o c) hD2 (fun c hc=>by
        have:=(hs2 c hc).2
        simp [ends]; exact this)
      have e:(D.filter fun c=>!o c).countP (fun c=>decide (r.1 ≤ c) && decide (c < r.2)) = (D.filter fun c=>!o c).countP (fun c=>decide (r.1 < c) && decide (c < r.2)):=by
        refine List.countP_congr fun c hc=>?_
        have hc1:c ≠ r.1:=fun e=>(hs2 c hc).1 (by rw [e]; exact List.mem_flatMap.2 ⟨r,hr,by simp⟩)
        simp only [Bool.and_eq_true,decide_eq_true_eq]
        omega
      rw [e]
      simpa [sumNat] using this
    -- the numbers within the new interval
    have hold:inC D r0.1 r0.2 ≤ 1 + sumNat (fun r=>(if r0.1 < r.1∧r.1 < r0.2 then 1 else 0) + (if r0.1 < r.2∧r.2 < r0.2 then 1 else 0)) l:=by
      have h1:inC D r0.1 r0.2 ≤ 1 + D.countP (fun c=>decide (r0.1 < c) && decide (c < r0.2)):=by
        have h2:D.countP (fun c=>decide (c = r0.1)) ≤ 1:=by
          have:=nodup_le (l:=D.filter fun c=>decide (c = r0.1)) (m:=[r0.1]) (hn.sublist List.filter_sublist) fun x hx=>by
            have:=(List.mem_filter.1 hx).2
            simpa using this
          rw [List.countP_eq_length_filter]; simpa using this
        have h3:inC D r0.1 r0.2 ≤ D.countP (fun c=>decide (c = r0.1)) + D.countP (fun c=>decide (r0.1 < c) && decide (c < r0.2)):=by
          unfold inC
          clear hn hs hD hD1 hs1 hD2 hs2 ih hnew h2
          induction D with
          | nil=>simp
          | cons c D ih =>
            simp only [List.countP_cons]
            by_cases c1:c = r0.1
            · subst c1; simp [h0]; omega
            · by_cases c2 : r0.1 < c ∧ c < r0.2
              · simp [c1,c2,Int.le_of_lt c2.1]; omega
              · have : ¬ (r0.1 ≤ c ∧ c < r0.2) := by omega
                simp only [Bool.and_eq_true,decide_eq_true_eq,c1,c2,this,if_false]; omega
        omega
      have h4:D.countP (fun c=>decide (r0.1 < c) && decide (c < r0.2)) ≤ sumNat (fun r=>(if r0.1 < r.1∧r.1 < r0.2 then 1 else 0) + (if r0.1 < r.2∧r.2 < r0.2 then 1 else 0)) (r0::l):=by
        have:=count_ends (l:=r0::l) (q:=fun c=>decide (r0.1 < c) && decide (c < r0.2)) hn hs
        simpa using this
      have h5:sumNat (fun r:Int × Int=>(if r0.1 < r.1∧r.1 < r0.2 then 1 else 0) + (if r0.1 < r.2∧r.2 < r0.2 then 1 else 0)) (r0::l) = sumNat (fun r=>(if r0.1 < r.1∧r.1 < r0.2 then 1 else 0) + (if r0.1 < r.2∧r.2 < r0.2 then 1 else 0)) l:=by
        simp only [sumNat]
        rw [if_neg (by omega),if_neg (by omega)]; omega
      omega
    have hsum:sumNat (fun r=>inC D r.1 r.2) l ≤ sumNat (fun r=>inC (D.filter o) r.1 r.2) l + sumNat (fun r=>(if r.1 < r0.1∧r0.1 < r.2 then 1 else 0) + (if r.1 < r0.2∧r0.2 < r.2 then 1 else 0)) l:=by
      rw [← sumNat_add]
      refine sumNat_le fun r hr=>?_
      unfold inC
      rw [hD]
      have:=hnew r hr
      omega
    have hpair:sumNat (fun r=>(if r.1 < r0.1∧r0.1 < r.2 then 1 else 0) + (if r.1 < r0.2∧r0.2 < r.2 then 1 else 0)) l + sumNat (fun r=>(if r0.1 < r.1∧r.1 < r0.2 then 1 else 0) + (if r0.1 < r.2∧r.2 < r0.2 then 1 else 0)) l ≤ 2 * l.length:=by
      rw [← sumNat_add,← sumNat_const]
      refine sumNat_le fun r hr=>?_
      have:=hlt r (by simp [hr])
      repeat' split
      all_goals omega
    have e:(r0::l).length * (r0::l).length = l.length * l.length + 2 * l.length + 1:=by
      simp only [List.length_cons,Nat.add_mul,Nat.mul_add]; omega
    rw [e]
    simp only [sumNat]
    omega

/-- What holds at a cell hangs on the rectangles alone that the cell is in. -/
structure Hangs (S:Int → Int → Prop) (l:List Rect):Prop where
  same : ∀ x y x' y', (∀ r ∈ l, rin r x y ↔ rin r x' y') → (S x y ↔ S x' y')
  none : ∀ x y,(∀ r ∈ l,¬ rin r x y) → ¬ S x y
theorem rval_before {V:Type} {e:V} : ∀ {l:Runs V},Canon e l → ∀ {a b:Int} {v:V},(a,b,v) ∈ l → rval e l (a - 1) ≠ v
  | (c, d, w) :: t, hc, a, b, v, hm => by
    obtain ⟨k1,k2,k3,k4⟩:=hc
    rcases List.mem_cons.1 hm with h | h
    · simp only [Prod.mk.injEq] at h
      obtain ⟨rfl,rfl,rfl⟩:=h
      rw [canon_lt ⟨k1,k2,k3,k4⟩ (by omega)]
      exact fun h=>k2 h.symm
    · have ih := rval_before k4 h
      have hst:=canon_starts k4 k3 _ h
      simp only at hst
      simp only [rval]
      split
      · rename_i h2
        -- the last place of the first run: the run begins right behind it
        have had:a = d:=by omega
        cases t with
        | nil=>simp at h
        | cons q t =>
          obtain ⟨c', d', w'⟩ := q
          rcases List.mem_cons.1 h with h' | h'
          · simp only [Prod.mk.injEq] at h'
            obtain ⟨rfl,rfl,rfl⟩:=h'
            rcases k3 with h3 | h3
            · omega
            · exact h3.2
          · have := canon_starts k4.2.2.2 k4.2.2.1 _ h'
            simp only at this
            have h5:=k4.1
            have h6:d ≤ c':=by rcases k3 with h3 | h3 <;> omega
            omega
      · exact ih
theorem rval_behind {V:Type} {e:V} : ∀ {l:Runs V},Canon e l → ∀ {a b:Int} {v:V},(a,b,v) ∈ l → rval e l b ≠ v
  | (c, d, w) :: t, hc, a, b, v, hm => by
    obtain ⟨k1,k2,k3,k4⟩:=hc
    simp only [rval]
    rcases List.mem_cons.1 hm with h | h
    · simp only [Prod.mk.injEq] at h
      obtain ⟨rfl,rfl,rfl⟩:=h
      rw [if_neg (by omega)]
      exact rval_nxt k4 k3 k2
    · have ih := rval_behind k4 h
      have h1:=(canon_mem k4 h).1
      have hst:=canon_starts k4 k3 _ h
      simp only at hst
      rw [if_neg (by omega)]
      exact ih
theorem length_flatMap {α β:Type} {g:α → List β} : ∀ {l:List α},(l.flatMap g).length = sumNat (fun x=>(g x).length) l
  | []=>rfl
  | x::l=>by simp only [List.flatMap_cons,List.length_append,sumNat,length_flatMap (l:=l)]
theorem starts_nodup {V:Type} {e:V} : ∀ {l:Runs V},Canon e l → (l.map (·.1)).Nodup
  | [],_=>.nil
  | (a, b, v) :: t, h => by
    obtain ⟨k1,k2,k3,k4⟩:=h
    rw [List.map_cons,List.nodup_cons]
    refine ⟨fun hm=>?_,starts_nodup k4⟩
    obtain ⟨r,hr,he⟩:=List.mem_map.1 hm
    have:=canon_starts k4 k3 r hr
    simp only at he; omega
theorem flat_nodup {c:Col} (h:Canon false c):(c.flatMap fun s=>[s.1,s.2.1]).Nodup∧(c.flatMap fun s=>[s.1,s.2.1]).length = 2 * c.length:=by
  have key : ∀ c:Col,Canon false c → (c.flatMap fun s=>[s.1,s.2.1]).Pairwise (fun a b=>a < b)∧(c.flatMap fun s=>[s.1,s.2.1]).length = 2 * c.length:=by
    intro c
    induction c with
    | nil=>intro _; exact ⟨.nil,rfl⟩
    | cons r t ih =>
      obtain ⟨a,b,v⟩:=r
      rintro ⟨k1,k2,k3,k4⟩
      obtain ⟨i1,i2⟩:=ih k4
      have hbt : ∀ x ∈ t.flatMap (fun s=>[s.1,s.2.1]),b < x:=by
        intro x hx
        obtain ⟨s,hs,hx⟩:=List.mem_flatMap.1 hx
        have h1:=canon_starts k4 k3 s hs
        have h2:=(canon_mem k4 (show (s.1,s.2.1,s.2.2) ∈ t from hs)).1
        have h3:b < s.1:=by
          cases t with
          | nil=>simp at hs
          | cons q t =>
            obtain ⟨c', d', w'⟩ := q
            have hw:b < c':=by
              rcases k3 with h | ⟨_,h⟩
              · exact h
              · exfalso
                have:=k4.2.1
                revert h this k2
                cases v <;> cases w' <;> simp
            rcases List.mem_cons.1 hs with rfl | hs
            · exact hw
            · have := canon_starts k4.2.2.2 k4.2.2.1 s hs
              have:=k4.1
              omega
        simp at hx
        omega
      refine ⟨?_,by simp only [List.flatMap_cons,List.length_append,List.length_cons,List.length_nil,i2]; omega⟩
      simp only [List.flatMap_cons,List.cons_append,List.nil_append]
      refine List.pairwise_cons.2 ⟨fun x hx=>?_,List.pairwise_cons.2 ⟨hbt,i1⟩⟩
      rcases List.mem_cons.1 hx with rfl | hx
      · exact k1
      · have:=hbt x hx; omega
  obtain ⟨h1,h2⟩:=key c h
  exact ⟨h1.imp fun h=>Int.ne_of_lt h,h2⟩

theorem col_len {S:Int → Int → Prop} {l:List Rect} (hS:Hangs S l) (hl : ∀ r ∈ l,VR r) {x:Int} {c:Col} (hc:Canon false c) (hv : ∀ y,rval false c y = true ↔ S x y):c.length ≤ (l.filter fun r=>decide (r.X0 ≤ x) && decide (x < r.X1)).length:=by
  obtain ⟨h1,h2⟩:=flat_nodup hc
  have hsub : ∀ z ∈ c.flatMap (fun s=>[s.1,s.2.1]),z ∈ (l.filter fun r=>decide (r.X0 ≤ x) && decide (x < r.X1)).flatMap (fun r=>[r.Y0,r.Y1]):=by
    intro z hz
    obtain ⟨s,hs,hz⟩:=List.mem_flatMap.1 hz
    have hst:s.2.2 = true:=by
      have:=(canon_mem hc (show (s.1,s.2.1,s.2.2) ∈ c from hs)).2
      cases h:s.2.2
      · rw [h] at this; exact absurd rfl this
      · rfl
    have hs' : (s.1,s.2.1,true) ∈ c:=by rw [← hst]; exact hs
    have hpos:=(canon_mem hc hs').1
    -- something changes at z
    have hch : ¬ (S x z ↔ S x (z - 1)):=by
      rw [← hv,← hv]
      simp at hz
      rcases hz with rfl | rfl
      · have h3 := rval_before hc hs'
        have h4:=rval_of_mem hc hs' (Int.le_refl _) hpos
        rw [h4]
        cases h5:rval false c (s.1 - 1)
        · simp
        · exact absurd h5 h3
      · have h3 := rval_behind hc hs'
        have h4:=rval_of_mem hc hs' (show s.1 ≤ s.2.1 - 1 by omega) (by omega)
        rw [h4]
        cases h5:rval false c s.2.1
        · simp
        · exact absurd h5 h3
    rw [List.mem_flatMap]
    refine Classical.byContradiction fun hno=>hch (hS.same _ _ _ _ fun r hr=>?_)
    have hr2:(r.X0 ≤ x∧x < r.X1) → z ≠ r.Y0∧z ≠ r.Y1:=fun hx=>by
      have hm:r ∈ l.filter fun r=>decide (r.X0 ≤ x) && decide (x < r.X1):=List.mem_filter.2 ⟨hr,by simpa using hx⟩
      exact ⟨fun e=>hno ⟨r,hm,by simp [e]⟩,fun e=>hno ⟨r,hm,by simp [e]⟩⟩
    unfold rin
    constructor
    · rintro ⟨hx, hy⟩
      have:=hr2 hx
      exact ⟨hx,by omega⟩
    · rintro ⟨hx, hy⟩
      have:=hr2 hx
      exact ⟨hx,by omega⟩
  have h3:=nodup_le h1 hsub
  have h4 : ∀ m:List Rect,(m.flatMap fun r=>[r.Y0,r.Y1]).length = 2 * m.length:=by
    intro m
    induction m with
    | nil=>rfl
    | cons a m ih=>simp only [List.flatMap_cons,List.length_append,List.length_cons,List.length_nil,ih]; omega
  rw [h2,h4] at h3
  omega
theorem form_len {S:Int → Int → Prop} {l out:List Rect} (hS:Hangs S l) (hl : ∀ r ∈ l,VR r) (h:IsForm S out):out.length ≤ l.length * l.length:=by
  obtain ⟨G,h1,h2,h3,rfl⟩:=h
  let P:List (Int × Int):=l.map fun r=>(r.X0,r.X1)
  have hPl:P.length = l.length:=by simp [P]
  have hcol : ∀ g ∈ G,g.2.2.length ≤ (l.filter fun r=>decide (r.X0 ≤ g.1) && decide (g.1 < r.X1)).length:=by
    intro g hg
    obtain ⟨a,b,c⟩:=g
    have hab:=(canon_mem h1 hg).1
    have hr:=rval_of_mem h1 hg (Int.le_refl a) hab
    exact col_len hS hl (h2 a b c hg) fun y=>by rw [← hr]; exact h3 a y
  have hstart : ∀ a ∈ G.map (·.1),a ∈ ends P:=by
    intro a ha
    obtain ⟨g,hg,rfl⟩:=List.mem_map.1 ha
    obtain ⟨a,b,c⟩:=g
    have hab:=(canon_mem h1 hg).1
    have hr:=rval_of_mem h1 hg (Int.le_refl a) hab
    have hb:=rval_before h1 hg
    dsimp only
    refine Classical.byContradiction fun hno=>hb ?_
    rw [← hr]
    refine canon_unique (canon_at h2 _) (canon_at h2 _) fun y=>?_
    rw [Bool.eq_iff_iff,h3,h3]
    refine hS.same _ _ _ _ fun r hr=>?_
    have hm:(r.X0,r.X1) ∈ P:=List.mem_map.2 ⟨r,hr,rfl⟩
    have e1:a ≠ r.X0:=fun e=>hno (List.mem_flatMap.2 ⟨_,hm,by simp [e]⟩)
    have e2:a ≠ r.X1:=fun e=>hno (List.mem_flatMap.2 ⟨_,hm,by simp [e]⟩)
    unfold rin
    constructor
    · rintro ⟨hx,hy⟩; exact ⟨by omega,hy⟩
    · rintro ⟨hx,hy⟩; exact ⟨by omega,hy⟩
  have hsq:=pairs_sq (l:=P) (D:=G.map (·.1)) (fun r hr=>by
    obtain ⟨q,hq,rfl⟩:=List.mem_map.1 hr
    exact (hl q hq).2.1) (starts_nodup h1) hstart
  rw [hPl] at hsq
  refine Nat.le_trans ?_ hsq
  unfold flatG
  rw [length_flatMap]
  refine Nat.le_trans (sumNat_le (g:=fun g=>(l.filter fun r=>decide (r.X0 ≤ g.1) && decide (g.1 < r.X1)).length) fun g hg=>by rw [List.length_map]; exact hcol g hg) ?_
  -- exchange the sums
  have hex : ∀ (m:List Rect) (H:Runs Col),sumNat (fun g=>(m.filter fun r=>decide (r.X0 ≤ g.1) && decide (g.1 < r.X1)).length) H = sumNat (fun r=>inC (H.map (·.1)) r.1 r.2) (m.map fun r=>(r.X0,r.X1)):=by
    intro m
    induction m with
    | nil =>
      intro H
      simp only [List.filter_nil,List.length_nil,List.map_nil,sumNat]
      rw [sumNat_const]; simp
    | cons r m ih =>
      intro H
      simp only [List.map_cons,sumNat]
      rw [← ih H]
      have e1:sumNat (fun g:Int × Int × Col=>((r::m).filter fun r=>decide (r.X0 ≤ g.1) && decide (g.1 < r.X1)).length) H = sumNat (fun g=>if (decide (r.X0 ≤ g.1) && decide (g.1 < r.X1)) = true then 1 else 0) H + sumNat (fun g=>(m.filter fun r=>decide (r.X0 ≤ g.1) && decide (g.1 < r.X1)).length) H:=by
        rw [← sumNat_add]
        congr 1
        funext g
        by_cases hp:(decide (r.X0 ≤ g.1) && decide (g.1 < r.X1)) = true
        · rw [List.filter_cons,if_pos hp,if_pos hp,List.length_cons]; omega
        · rw [List.filter_cons,if_neg hp,if_neg hp]; omega
      have e2 : ∀ H:Runs Col,sumNat (fun g:Int × Int × Col=>if (decide (r.X0 ≤ g.1) && decide (g.1 < r.X1)) = true then 1 else 0) H = inC (H.map (·.1)) r.X0 r.X1:=by
        intro H
        unfold inC
        induction H with
        | nil=>rfl
        | cons g H ihH =>
          simp only [sumNat,List.map_cons,List.countP_cons,ihH]; omega
      rw [e1,e2]
  rw [hex]
  exact Nat.le_refl _

/-- What holds at a cube hangs on the boxes alone that it is in. -/
structure Hangs3 (S:Int → Int → Int → Prop) (l:List Box):Prop where
  same : ∀ x y z x' y' z', (∀ b ∈ l, (rin b.Base x y ∧ b.Z0 ≤ z ∧ z < b.Z1) ↔ (rin b.Base x' y' ∧ b.Z0 ≤ z' ∧ z' < b.Z1)) → (S x y z ↔ S x' y' z')
  none : ∀ x y z,(∀ b ∈ l,¬ (rin b.Base x y∧b.Z0 ≤ z∧z < b.Z1)) → ¬ S x y z
theorem Hangs3.at {S:Int → Int → Int → Prop} {l:List Box} (h:Hangs3 S l) (z:Int):Hangs (fun x y=>S x y z) (bases l z):=by
  have hb : ∀ b ∈ l,(b.Z0 ≤ z∧z < b.Z1) → b.Base ∈ bases l z:=fun b hb hz=>List.mem_map.2 ⟨b,List.mem_filter.2 ⟨hb,by simpa using hz⟩,rfl⟩
  refine ⟨fun x y x' y' he=>h.same _ _ _ _ _ _ fun b hbl=>?_,fun x y hno=>h.none _ _ _ fun b hbl hh=>hno _ (hb b hbl hh.2) hh.1⟩
  constructor
  · rintro ⟨h1,h2⟩; exact ⟨(he _ (hb b hbl h2)).1 h1,h2⟩
  · rintro ⟨h1,h2⟩; exact ⟨(he _ (hb b hbl h2)).2 h1,h2⟩
theorem solid_len {S:Int → Int → Int → Prop} {l:List Box} {out:List Slab} (hS:Hangs3 S l) (hl : ∀ b ∈ l,VB b) (h:IsSolid S out):out.length ≤ 2 * l.length∧∀ s ∈ out,s.Area.length ≤ l.length * l.length:=by
  constructor
  · have h1 := starts_nodup h.canon
    have hsub : ∀ a ∈ (slabRuns out).map (·.1),a ∈ l.flatMap fun b=>[b.Z0,b.Z1]:=by
      intro a ha
      obtain ⟨g,hg,rfl⟩:=List.mem_map.1 ha
      obtain ⟨a,b,c⟩:=g
      have hab:=(canon_mem h.canon hg).1
      have hr:=rval_of_mem h.canon hg (Int.le_refl a) hab
      have hb:=rval_before h.canon hg
      dsimp only
      refine Classical.byContradiction fun hno=>hb ?_
      rw [← hr]
      refine (h.form (a - 1)).unique (h.form a) fun x y=>hS.same _ _ _ _ _ _ fun b hb=>?_
      have e1:a ≠ b.Z0:=fun e=>hno (List.mem_flatMap.2 ⟨b,hb,by simp [e]⟩)
      have e2:a ≠ b.Z1:=fun e=>hno (List.mem_flatMap.2 ⟨b,hb,by simp [e]⟩)
      constructor
      · rintro ⟨h1,h2⟩; exact ⟨h1,by omega⟩
      · rintro ⟨h1,h2⟩; exact ⟨h1,by omega⟩
    have h2:=nodup_le h1 hsub
    have h4 : ∀ m:List Box,(m.flatMap fun r=>[r.Z0,r.Z1]).length = 2 * m.length:=by
      intro m
      induction m with
      | nil=>rfl
      | cons a m ih=>simp only [List.flatMap_cons,List.length_append,List.length_cons,List.length_nil,ih]; omega
    rw [h4,List.length_map,slabRuns_length] at h2
    exact h2
  · intro s hs
    have hp:=(slab_pos h.canon hs).1
    have he:=sect_mem h.canon hs (Int.le_refl _) hp
    have:=form_len (hS.at s.Z0) (bases_right hl s.Z0) (h.form s.Z0)
    rw [he] at this
    exact Nat.le_trans this (Nat.mul_le_mul (bases_length l s.Z0) (bases_length l s.Z0))
/-- With few boxes no limit is met. -/
theorem slim_few {S:Int → Int → Int → Prop} {l:List Box} {out:List Slab} (hS:Hangs3 S l) (hl : ∀ b ∈ l,VB b) (h:IsSolid S out) (hn:l.length ≤ 14):SS out∧slim out = (out,0):=by
  obtain ⟨h1,h2⟩:=solid_len hS hl h
  have hsq:l.length * l.length ≤ 14 * 14:=Nat.mul_le_mul (by omega) (by omega)
  have hex : ∀ {x y z:Int},S x y z → ∃ b ∈ l,rin b.Base x y∧b.Z0 ≤ z∧z < b.Z1:=fun {x y z} hs=>Classical.byContradiction fun hno=>hS.none x y z (fun b hb hh=>hno ⟨b,hb,hh⟩) hs
  have hSS:SS out:=by
    refine ⟨by omega,h.canon,fun s hs=>?_⟩
    obtain ⟨hp,hne⟩:=slab_pos h.canon hs
    have hf:=h.form s.Z0
    rw [sect_mem h.canon hs (Int.le_refl _) hp] at hf
    have hf1:=h.form (s.Z1 - 1)
    rw [sect_mem h.canon hs (by omega) (by omega)] at hf1
    have hpos:=form_rect hf
    obtain ⟨r,hr⟩:=List.exists_mem_of_ne_nil _ hne
    have hrp:=hpos r hr
    obtain ⟨b,hb,hb1,hb2⟩:=hex ((hf.cells r.X0 r.Y0).1 ⟨r,hr,⟨Int.le_refl _,hrp.1⟩,Int.le_refl _,hrp.2⟩)
    obtain ⟨b', hb', hb1', hb2'⟩ := hex ((hf1.cells r.X0 r.Y0).1 ⟨r, hr, ⟨Int.le_refl _, hrp.1⟩, Int.le_refl _, hrp.2⟩)
    have v1:=hl b hb; have v2:=hl b' hb'
    unfold VB at v1 v2
    refine ⟨by omega,by omega,RR.of_form hf (fun q hq=>?_) (by have:=h2 s hs; omega)⟩
    have hqp:=hpos q hq
    obtain ⟨c,hc,hc1,_⟩:=hex ((hf.cells q.X0 q.Y0).1 ⟨q,hq,⟨Int.le_refl _,hqp.1⟩,Int.le_refl _,hqp.2⟩)
    obtain ⟨d,hd,hd1,_⟩:=hex ((hf.cells (q.X1 - 1) (q.Y1 - 1)).1 ⟨q,hq,⟨by omega,by omega⟩,by omega,by omega⟩)
    have w1:=(hl c hc).1; have w2:=(hl d hd).1
    unfold VR at w1 w2 ⊢
    unfold rin at hc1 hd1
    omega
  exact ⟨hSS,slim_fine hSS⟩
theorem bcells_hangs (l:List Box):Hangs3 (bcells l) l:=
  ⟨fun x y z x' y' z' h=>exists_congr fun b=>and_congr_right fun hb=>h b hb,fun x y z h ⟨b,hb,hh⟩=>h b hb hh⟩
theorem Hangs3.mono {S:Int → Int → Int → Prop} {l m:List Box} (h:Hangs3 S l) (hs : ∀ b ∈ l,b ∈ m):Hangs3 S m:=
  ⟨fun x y z x' y' z' he=>h.same _ _ _ _ _ _ fun b hb=>he b (hs b hb),fun x y z hn=>h.none x y z fun b hb=>hn b (hs b hb)⟩
theorem Hangs3.congr {S T:Int → Int → Int → Prop} {l:List Box} (h:Hangs3 S l) (he : ∀ x y z,S x y z ↔ T x y z):Hangs3 T l:=
  ⟨fun x y z x' y' z' hh=>by rw [← he,← he]; exact h.same _ _ _ _ _ _ hh,fun x y z hn=>by rw [← he]; exact h.none _ _ _ hn⟩
end Go.Proofs.YtagkmlkhaekldaaGreat

namespace Go.Proofs.YtagkmlkhaekldaaGreat
open Go.Gb
set_option linter.unusedVariables false
set_option linter.unusedSimpArgs false
set_option linter.unusedSectionVars false
set_option maxRecDepth 100000
/-- This solid has these cubes, and its borders are those of these boxes. -/
structure Mk (l:List Box) (S:Int → Int → Int → Bool) (s:List Slab):Prop where
  vb : ∀ b ∈ l,VB b
  ss:SS s
  is:IsSolid (fun x y z=>S x y z = true) s
  hang:Hangs3 (fun x y z=>S x y z = true) l
def bcB (l:List Box) (x y z:Int):Bool:=decide (bcells l x y z)
theorem bcB_iff {l:List Box} {x y z:Int}:bcB l x y z = true ↔ bcells l x y z:=by unfold bcB; rw [decide_eq_true_iff]
theorem Mk.of {l m:List Box} (h : ∀ b ∈ m,VB b) (hn:m.length ≤ 14) (hs : ∀ b ∈ l,b ∈ m) (hl:l.length ≤ 200) : ∃ s,Mk m (bcB l) s∧solid_Of l = some (s,0):=by
  have hv : ∀ b ∈ l,VB b:=fun b hb=>h b (hs b hb)
  obtain ⟨out,h1,h2⟩:=solid_Of_fine hv hl
  obtain ⟨h3,h4⟩:=slim_few ((bcells_hangs l).mono hs) h h1 hn
  exact ⟨out,⟨h,h3,h1.congr fun x y z=>bcB_iff.symm,((bcells_hangs l).mono hs).congr fun x y z=>bcB_iff.symm⟩,by rw [h2,h4]⟩
section
variable {l m:List Box} {S T:Int → Int → Int → Bool} {a b:List Slab}
theorem Mk.mono (h:Mk l S a) (hs : ∀ b ∈ l,b ∈ m) (hv : ∀ b ∈ m,VB b):Mk m S a:=⟨hv,h.ss,h.is,h.hang.mono hs⟩
theorem Mk.nil (hv : ∀ b ∈ l,VB b):Mk l (fun _ _ _=>false) []:=by
  refine ⟨hv,ssB_spec (by decide),(ssB_spec (s:=[]) (by decide)).solid.congr fun x y z=>?_,⟨by simp,by simp⟩⟩
  rw [scells_iff,sect_nil]
  simp [cells]
end
end Go.Proofs.YtagkmlkhaekldaaGreat

namespace Go.Proofs.YtagkmlkhaekldaaGreat
open Go.Gb
set_option linter.unusedVariables false
set_option linter.unusedSimpArgs false
set_option linter.unusedSectionVars false
set_option maxRecDepth 100000
/-! counting -/
theorem sumN_zero_inv {f:Nat → Int} : ∀ {n:Nat},(∀ i,0 ≤ f i) → sumN f n = 0 → ∀ i,i < n → f i = 0
  | 0,_,_,i,hi=>absurd hi (Nat.not_lt_zero i)
  | n + 1, hf, h, i, hi => by
    have h1:=sumN_nonneg (n:=n) fun i _=>hf i
    have h2:=hf n
    simp only [sumN] at h
    by_cases e:i = n
    · subst e; omega
    · exact sumN_zero_inv (n:=n) hf (by omega) i (by omega)
/-! the loops -/
end Go.Proofs.YtagkmlkhaekldaaGreat

namespace Go.Proofs.YtagkmlkhaekldaaGreat
open Go.Gb
set_option linter.unusedVariables false
set_option linter.unusedSimpArgs false
set_option linter.unusedSectionVars false
set_option maxRecDepth 100000
def sg (x y:Int):Int:=if x < y then -1 else if y < x then 1 else 0
theorem cmp_eq (x y:Int):cmp_Compare_int x y = some (sg x y):=by
  unfold cmp_Compare_int cmp_isNaN_int sg
  simp only [bne_self_eq_false,Option.bind_some,decide_eq_true_eq]
  rw [if_neg (by simp),if_neg (by simp)]
  split
  · rfl
  · split <;> rfl
/-! bounds -/
end Go.Proofs.YtagkmlkhaekldaaGreat

namespace Go.Proofs.YtagkmlkhaekldaaGreat
open Go.Gb
set_option linter.unusedVariables false
set_option linter.unusedSimpArgs false
set_option linter.unusedSectionVars false
set_option linter.unusedVariables false
set_option linter.unusedSimpArgs false

def Tot {α:Type} (o:Option α):Prop:=∃ r,o = some r
theorem Tot.pure {α:Type} (x:α):Tot (some x):=⟨x,rfl⟩
theorem Tot.bind {α β:Type} {o:Option α} {f:α → Option β} (h:Tot o) (g : ∀ x,o = some x → Tot (f x)):Tot (o.bind f):=by
  obtain ⟨x,hx⟩:=h
  rw [hx]; exact g x hx
theorem Tot.ite {α:Type} {c:Prop} [Decidable c] {x y:Option α} (h:c → Tot x) (g : ¬c → Tot y):Tot (if c then x else y):=by
  split
  · exact h ‹_›
  · exact g ‹_›
theorem loop_allQ {body:Int → Option (Flow Int Bool)} {id:Nat} (N:Nat) (Q:Nat → Prop) (hN:N ≤ 1000000000)
    (step : ∀ i:Nat,i < N → (∀ m,m < i → Q m) → (Q i∧body (i:Int) = (addI (i:Int) 1).bind fun x=>some (.go x)) ∨ (¬ Q i∧body (i:Int) = some (.ret false)))
    (done:body (N:Int) = some (.ex id (N:Int))) {fuel:Nat} (hf:N < fuel) :
    ((∀ m,m < N → Q m)∧iterL body fuel 0 = some (.ex id (N:Int))) ∨ ((∃ m,m < N∧¬ Q m)∧iterL body fuel 0 = some (.ret false)):=by
  obtain ⟨f,h1,h2,h3⟩:=loop_up (body:=body) (fun i s=>s = ((i:Nat):Int)∧∀ m,m < i → Q m) N
    (fun f=>((∀ m,m < N → Q m)∧f = .ex id (N:Int)) ∨ ((∃ m,m < N∧¬ Q m)∧f = .ret false)) (fun i s hi ⟨hs,hI⟩=>by
      subst hs
      rcases step i hi hI with ⟨hq,hb⟩ | ⟨hq,hb⟩
      · rw [addI_one (by omega)] at hb
        refine .inl ⟨_,hb,rfl,fun m hm=>?_⟩
        by_cases e:m = i
        · subst e; exact hq
        · exact hI m (by omega)
      · exact .inr ⟨_,hb,trivial,.inr ⟨⟨i,hi,hq⟩,rfl⟩⟩) (fun s ⟨hs,hI⟩=>by
      subst hs
      exact ⟨_,done,trivial,.inl ⟨hI,rfl⟩⟩) 0 ⟨rfl,fun m h=>by omega⟩ fuel hf
  rcases h3 with ⟨h3,rfl⟩ | ⟨h3,rfl⟩
  · exact .inl ⟨h3,h1⟩
  · exact .inr ⟨h3,h1⟩
end Go.Proofs.YtagkmlkhaekldaaGreat

namespace Go.Proofs.YtagkmlkhaekldaaGreat
open Go.Gb
set_option linter.unusedVariables false
set_option linter.unusedSimpArgs false
set_option linter.unusedSectionVars false
set_option linter.unusedVariables false
set_option linter.unusedSimpArgs false

theorem makeI_some {α:Type} {n:Nat} {z:α} (h:n ≤ 1000000):makeI (n:Int) z = some (List.replicate n z):=by
  unfold makeI
  rw [if_pos (by constructor <;> omega)]
  simp
theorem remI_nat {i n:Nat} (h0:0 < n):remI (i:Int) (n:Int) = some ((i % n:Nat):Int):=by
  unfold remI
  rw [if_pos (by omega)]
  congr 1
end Go.Proofs.YtagkmlkhaekldaaGreat

namespace Go.Proofs.YtagkmlkhaekldaaGreat
open Go.Gb
set_option linter.unusedVariables false
set_option linter.unusedSimpArgs false
set_option linter.unusedSectionVars false
set_option linter.unusedVariables false
set_option linter.unusedSimpArgs false

theorem rvol {v:Volume} : ∃ b,drawing_RightVolume v = some b∧(b = true → VR v.Box.Base∧0 ≤ v.Box.Z0∧v.Box.Z0 < v.Box.Z1∧v.Box.Z1 ≤ 4096∧0 ≤ v.Use∧v.Use ≤ 5∧0 ≤ v.Units∧v.Units ≤ 1048576):=by
  unfold drawing_RightVolume
  rw [rect_Right_eq,Option.bind_some]
  split
  · exact ⟨_,rfl,fun h=>by simp at h⟩
  · rename_i h
    simp at h
    split
    · exact ⟨_,rfl,fun h=>by simp at h⟩
    · refine ⟨_, rfl, fun g => ?_⟩
      simp at g
      exact ⟨h.1.1.1,by omega,by omega,by omega,by omega,by omega,by omega,by omega⟩
/-- a plan with few tables -/
def PlanS (p:Plan):Prop:=p.Tables.length ≤ 5∧∀ t ∈ p.Tables,t.Rows.length ≤ 10
theorem indexE_tot {s:List Entry} {f:Entry → Option Bool} (hl:s.length ≤ 1000000) (hf : ∀ x,Tot (f x)) : ∃ r,slices_IndexFunc_Entry s f = some r∧(0 ≤ r → r < (s.length:Int)):=by
  obtain ⟨g,k1,k2,k3⟩:=loop_up (body:=slices_IndexFunc_Entry_L0 s f) (fun j t=>t = ((j:Nat):Int)) s.length (fun g=>match g with | .ex _ _=>True | .ret r=>0 ≤ r∧r < (s.length:Int) | .go _=>False) (fun j t hj ht=>by
    subst ht
    unfold slices_IndexFunc_Entry_L0
    obtain ⟨b,hb⟩:=hf s[j]
    rw [if_pos (by simpa using hj),getI_nat hj,Option.bind_some,hb,Option.bind_some]
    cases b with
    | true=>exact .inr ⟨_,rfl,trivial,by show (0:Int) ≤ j; omega,by show (j:Int) < _; omega⟩
    | false=>rw [if_neg (by simp),addI_one (by omega)]; exact .inl ⟨_,rfl,rfl⟩) (fun t ht=>by
    subst ht
    unfold slices_IndexFunc_Entry_L0
    rw [if_neg (by simp)]
    exact ⟨_,rfl,trivial,trivial⟩) 0 rfl (s.length + 1) (by omega)
  unfold slices_IndexFunc_Entry
  rw [k1,Option.bind_some]
  cases g with
  | go _=>exact k2.elim
  | ex _ _=>exact ⟨_,rfl,fun h=>by omega⟩
  | ret r=>exact ⟨_,rfl,fun _=>k3.2⟩
theorem row1_tot {e:Entry} {q:ByteArray × ByteArray × ByteArray × ByteArray × ByteArray × ByteArray} {u:Int} (h0:0 ≤ u) (h5:u ≤ 5):Tot (measure_row_1 e q u):=by
  unfold measure_row_1
  rw [getI_some h0 (by simp; omega)]
  exact Tot.pure _
theorem row_tot {p:Plan} {u:Int} (hp:PlanS p) (h0:0 ≤ u) (h5:u ≤ 5) : ∃ n,measure_row p u = some n∧0 ≤ n∧n ≤ 1048576:=by
  have hl4:=hp.1
  obtain ⟨f,h1,h2,h3⟩:=loop_up (body:=measure_row_L0 p u) (fun i s=>s = ((i:Nat):Int)) p.Tables.length
    (fun f=>match f with | .ex _ _=>True | .ret n=>0 ≤ n∧n ≤ 1048576 | .go _=>False) (fun i s hi hs=>by
      subst hs
      unfold measure_row_L0
      rw [if_pos (by simpa using hi),getI_nat hi,Option.bind_some]
      split
      · rw [addI_one (by omega)]; exact .inl ⟨_,rfl,rfl⟩
      · have hr8 := hp.2 _ (List.getElem_mem hi)
        obtain ⟨r,hr,hrl⟩:=indexE_tot (s:=p.Tables[i].Rows) (f:=fun y0=>measure_row_1 y0 (((⟨#[104,111,109,101]⟩:ByteArray),(⟨#[115,104,111,112]⟩:ByteArray),(⟨#[119,111,114,107]⟩:ByteArray),(⟨#[112,97,114,107]⟩:ByteArray),(⟨#[112,108,97,110,116]⟩:ByteArray),(⟨#[104,97,108,108]⟩:ByteArray)):(ByteArray × ByteArray × ByteArray × ByteArray × ByteArray × ByteArray)) u) (by omega) fun x=>row1_tot h0 h5
        rw [hr,Option.bind_some]
        obtain ⟨m,hm⟩:Tot (if (decide (0 ≤ r)) = true then (getI p.Tables[i].Rows r).bind fun x=>some x.N else some p.Tables[i].Else):=by
          refine Tot.ite (fun h=>?_) fun _=>Tot.pure _
          have h:=of_decide_eq_true h
          rw [getI_some h (hrl h)]
          exact Tot.pure _
        rw [hm,Option.bind_some]
        exact .inr ⟨_,rfl,trivial,by show (0:Int) ≤ max 0 (min m 1048576); omega,by show max 0 (min m 1048576) ≤ 1048576; omega⟩) (fun s hs=>by
      subst hs
      unfold measure_row_L0
      rw [if_neg (by simp)]
      exact ⟨_,rfl,trivial,trivial⟩) 0 rfl (p.Tables.length + 1) (by omega)
  unfold measure_row
  rw [h1,Option.bind_some]
  cases f with
  | go _=>exact h2.elim
  | ex _ _=>exact ⟨_,rfl,by omega,by omega⟩
  | ret n=>exact ⟨_,rfl,h3.1,h3.2⟩
theorem area_tot {r:Rect} (h:VR r) : ∃ n,rect_Area r = some n∧0 ≤ n∧n ≤ 1099511627776:=by
  unfold rect_Area rect_checked
  have hv:=h
  unfold VR at hv
  rw [rect_Right_eq,Option.bind_some,decide_eq_true h,if_pos rfl,Option.bind_some]
  dsimp only
  rw [subI_some (by constructor <;> omega),Option.bind_some,subI_some (by constructor <;> omega),Option.bind_some]
  have h1:0 ≤ (r.X1 - r.X0) * (r.Y1 - r.Y0):=Int.mul_nonneg (by omega) (by omega)
  have h2:(r.X1 - r.X0) * (r.Y1 - r.Y0) ≤ 1048576 * 1048576:=Int.mul_le_mul (by omega) (by omega) (by omega) (by omega)
  rw [mulI_some (by constructor <;> omega),Option.bind_some]
  exact ⟨_,rfl,h1,by omega⟩
theorem floor_tot (v:Volume) : ∃ n,measure_Floor v = some n∧0 ≤ n∧n ≤ 2251799813685248:=by
  unfold measure_Floor
  obtain ⟨b,hb,hbs⟩:=rvol (v:=v)
  rw [hb,Option.bind_some]
  cases b with
  | false=>rw [if_pos (by simp)]; exact ⟨_,rfl,by omega,by omega⟩
  | true =>
    obtain ⟨hV,h1,h2,h3,_⟩:=hbs rfl
    rw [if_neg (by simp)]
    obtain ⟨a,ha,ha0,ha1⟩:=area_tot hV
    rw [ha,Option.bind_some]
    obtain ⟨s,hs,hs0,hs1⟩ : ∃ s,measure_Storeys v = some s∧0 ≤ s∧s ≤ 2048:=by
      unfold measure_Storeys
      rw [hb]
      cases v.Extra with
      | true=>rw [if_pos rfl,Option.bind_some,if_pos rfl]; exact ⟨_,rfl,by omega,by omega⟩
      | false =>
        rw [if_neg (by simp),Option.bind_some,Option.bind_some,if_neg (by simp),subI_some (by constructor <;> omega),Option.bind_some,addI_some (by constructor <;> omega),Option.bind_some,subI_some (by constructor <;> omega),Option.bind_some]
        have hq:(v.Box.Z1 - v.Box.Z0 + 3 - 1).tdiv 3 = (v.Box.Z1 - v.Box.Z0 + 3 - 1) / 3:=Int.tdiv_eq_ediv_of_nonneg (by omega)
        unfold quoI
        rw [if_pos ⟨by omega,by rw [hq]; constructor <;> omega⟩,Option.bind_some]
        exact ⟨_,rfl,by rw [hq]; omega,by rw [hq]; omega⟩
    rw [hs,Option.bind_some]
    have g1:0 ≤ a * s:=Int.mul_nonneg ha0 hs0
    have g2:a * s ≤ 1099511627776 * 2048:=Int.mul_le_mul ha1 hs1 hs0 (by omega)
    rw [mulI_some (by constructor <;> omega),Option.bind_some]
    exact ⟨_,rfl,g1,by omega⟩
theorem traffic_tot {p:Plan} {v:Volume} (hp:PlanS p) (h0:0 ≤ v.Use) (h5:v.Use ≤ 5) : ∃ n,measure_traffic p v = some n∧0 ≤ n∧n ≤ 1099511627776:=by
  unfold measure_traffic
  obtain ⟨r,hr,hr0,hr1⟩:=row_tot hp h0 h5
  obtain ⟨f,hf,hf0,hf1⟩:=floor_tot v
  rw [hr,Option.bind_some,hf,Option.bind_some]
  by_cases hz:0 < r
  · have hq : (109951162777600 : Int).tdiv r = 109951162777600 / r := Int.tdiv_eq_ediv_of_nonneg (by omega)
    have hq0:0 ≤ 109951162777600 / r:=Int.ediv_nonneg (by omega) (by omega)
    have hq1:109951162777600 / r ≤ 109951162777600:=Int.ediv_le_self _ (by omega)
    rw [if_pos (by simpa using hz)]
    unfold quoI
    rw [if_pos ⟨by omega,by rw [hq]; constructor <;> omega⟩,Option.bind_some,Option.bind_some,hq]
    by_cases hc:109951162777600 / r < f
    · rw [if_pos (by simpa using hc)]
      exact ⟨_,rfl,by omega,by omega⟩
    · rw [if_neg (by simpa using hc)]
      have g0:0 ≤ r * f:=Int.mul_nonneg (by omega) hf0
      have g1:r * f ≤ r * (109951162777600 / r):=Int.mul_le_mul_of_nonneg_left (by omega) (by omega)
      have g2:r * (109951162777600 / r) ≤ 109951162777600:=Int.mul_ediv_self_le (by omega)
      rw [mulI_some (by constructor <;> omega),Option.bind_some,addI_some (by constructor <;> omega),Option.bind_some,subI_some (by constructor <;> omega),Option.bind_some]
      have hq2:(r * f + 100 - 1).tdiv 100 = (r * f + 100 - 1) / 100:=Int.tdiv_eq_ediv_of_nonneg (by omega)
      rw [if_pos ⟨by omega,by rw [hq2]; constructor <;> omega⟩,Option.bind_some]
      exact ⟨_,rfl,by rw [hq2]; omega,by rw [hq2]; omega⟩
  · obtain rfl : r = 0 := by omega
    rw [if_neg (by simp),Option.bind_some,if_neg (by simp),mulI_some (by rw [Int.zero_mul]; constructor <;> omega),Option.bind_some,Int.zero_mul,addI_some (by constructor <;> omega),Option.bind_some,subI_some (by constructor <;> omega),Option.bind_some]
    exact ⟨_,rfl,by decide,by decide⟩
end Go.Proofs.YtagkmlkhaekldaaGreat

namespace Go.Proofs.YtagkmlkhaekldaaGreat
open Go.Gb
set_option linter.unusedVariables false
set_option linter.unusedSimpArgs false
set_option linter.unusedSectionVars false
set_option linter.unusedVariables false
set_option linter.unusedSimpArgs false

theorem sorted_ext : ∀ {l m:List Int},l.Perm m → l.Pairwise (fun a b=>a ≤ b) → m.Pairwise (fun a b=>a ≤ b) → l = m
  | [],m,h,_,_=>h.nil_eq
  | a::l,[],h,_,_=>by simp at h
  | a :: l, b :: m, h, hl, hm => by
    have hab:a = b:=by
      have h1:a ∈ b::m:=h.subset List.mem_cons_self
      have h2:b ∈ a::l:=h.symm.subset List.mem_cons_self
      rcases List.mem_cons.1 h1 with e | h1
      · exact e
      · rcases List.mem_cons.1 h2 with e | h2
        · exact e.symm
        · have := (List.pairwise_cons.1 hm).1 a h1
          have:=(List.pairwise_cons.1 hl).1 b h2
          omega
    subst hab
    rw [sorted_ext ((List.perm_cons a).1 h) (List.pairwise_cons.1 hl).2 (List.pairwise_cons.1 hm).2]
theorem strict_ext : ∀ {l m:List Int},l.Pairwise (fun a b=>a < b) → m.Pairwise (fun a b=>a < b) → (∀ x,x ∈ l ↔ x ∈ m) → l = m
  | [],[],_,_,_=>rfl
  | [],b::m,_,_,h=>by have:=(h b).2 List.mem_cons_self; simp at this
  | a::l,[],_,_,h=>by have:=(h a).1 List.mem_cons_self; simp at this
  | a :: l, b :: m, hl, hm, h => by
    have ha:=(List.pairwise_cons.1 hl).1
    have hb:=(List.pairwise_cons.1 hm).1
    have hab:a = b:=by
      rcases List.mem_cons.1 ((h a).1 List.mem_cons_self) with e | h1
      · exact e
      · rcases List.mem_cons.1 ((h b).2 List.mem_cons_self) with e | h2
        · exact e.symm
        · have:=hb a h1; have:=ha b h2; omega
    subst hab
    rw [strict_ext (List.pairwise_cons.1 hl).2 (List.pairwise_cons.1 hm).2 fun x=>?_]
    constructor
    · intro hx
      rcases List.mem_cons.1 ((h x).1 (List.mem_cons_of_mem _ hx)) with e | h1
      · have:=ha x hx; omega
      · exact h1
    · intro hx
      rcases List.mem_cons.1 ((h x).2 (List.mem_cons_of_mem _ hx)) with e | h1
      · have:=hb x hx; omega
      · exact h1
theorem sort_is {l m:List Int} (h:l.length ≤ 1000) (hp:l.Perm m) (hs:m.Pairwise fun a b=>a ≤ b):sortInts l = some m:=by
  obtain ⟨r, hr, hp', hs'⟩ := sortInts_spec (l := l) (by omega)
  rw [hr,sorted_ext (hp'.trans hp) hs' hs]
theorem compact_is {l m:List Int} (h:l.length ≤ 1000) (hs:l.Pairwise fun a b=>a ≤ b) (hm:m.Pairwise fun a b=>a < b) (he : ∀ x,x ∈ l ↔ x ∈ m):compactInts l = some m:=by
  obtain ⟨r,hr,h1,h2,_⟩:=compactInts_spec (l:=l) (by omega) hs
  rw [hr,strict_ext h1 hm fun x=>(h2 x).trans (he x)]
end Go.Proofs.YtagkmlkhaekldaaGreat

namespace Go.Proofs.YtagkmlkhaekldaaGreat
open Go.Gb
set_option linter.unusedVariables false
set_option linter.unusedSimpArgs false
set_option linter.unusedSectionVars false
set_option linter.unusedVariables false
set_option linter.unusedSimpArgs false

def pt (p:List Point) (i:Nat):Point:=p.getD i ⟨0,0⟩
theorem getI_pt {p:List Point} {i:Nat} (h:i < p.length):getI p (i:Int) = some (pt p i):=by
  rw [getI_nat h]; simp [pt,h]
def nx (p:List Point) (i:Nat):Nat:=(i + 1) % p.length
theorem nx_lt {p:List Point} (i:Nat) (h:0 < p.length):nx p i < p.length:=Nat.mod_lt _ h
/-- the side from a corner on -/
def sd (p:List Point) (i:Nat):PolygonSide:=⟨pt p i,pt p (nx p i)⟩
def sds (p:List Point):List PolygonSide:=(List.range p.length).map (sd p)
theorem sds_len (p:List Point):(sds p).length = p.length:=by simp [sds]
theorem getI_sds {p:List Point} {i:Nat} (h:i < p.length):getI (sds p) (i:Int) = some (sd p i):=by
  rw [getI_nat (by rw [sds_len]; exact h)]; simp [sds]
theorem around_eq {p:List Point} (h:p.length ≤ 60):polygon_around p = some (sds p):=by
  unfold polygon_around
  rw [makeI_some (by omega),Option.bind_some]
  obtain ⟨f,h1,h2,h3⟩:=loop_up (body:=polygon_around_L0 p) (fun i s=>s.2 = ((i:Nat):Int)∧s.1 = (List.range i).map (sd p) ++ List.replicate (p.length - i) ⟨⟨0,0⟩,⟨0,0⟩⟩) p.length
    (fun f=>match f with | .ex _ s=>s.1 = sds p | _=>False) (fun i s hi ⟨hs,hl⟩=>by
      obtain ⟨l,j⟩:=s
      dsimp only at hs hl
      subst hs
      unfold polygon_around_L0
      dsimp only
      have hm:(i + 1) % p.length < p.length:=Nat.mod_lt _ (by omega)
      have hll:i < l.length:=by rw [hl]; simp; omega
      rw [if_pos (by simpa using hi),getI_pt hi,Option.bind_some,addI_one (by omega),Option.bind_some,remI_nat (by omega),Option.bind_some,getI_pt hm,Option.bind_some,getI_nat hll,Option.bind_some,Option.bind_some,Option.bind_some]
      refine .inl ⟨_,rfl,rfl,?_⟩
      dsimp only
      rw [hl,Int.toNat_natCast,List.set_append,if_neg (by simp),List.range_succ,List.map_append,List.append_assoc]
      congr 1
      have e1:p.length - i = (p.length - (i + 1)) + 1:=by omega
      rw [e1,List.replicate_succ]
      simp [sd,nx]) (fun s ⟨hs,hl⟩=>by
      unfold polygon_around_L0
      rw [hs,if_neg (by simp)]
      refine ⟨_,rfl,trivial,?_⟩
      show s.1 = _
      rw [hl]; simp [sds]) (List.replicate p.length ⟨⟨0,0⟩,⟨0,0⟩⟩,0) ⟨rfl,by simp⟩ (p.length + 1) (by omega)
  rw [h1,Option.bind_some]
  cases f with
  | go _=>exact h2.elim
  | ret _=>exact h3.elim
  | ex _ s=>exact congrArg some h3
/-- a corner is on the grid, and its two sides are horizontal and vertical -/
def q1 (p:List Point) (i:Nat):Bool:=
  !((((((decide ((pt p i).X < 0)) || (decide (1048576 < (pt p i).X))) || (decide ((pt p i).Y < 0))) || (decide (1048576 < (pt p i).Y))) || (((pt p i).X == (pt p (nx p i)).X) == ((pt p i).Y == (pt p (nx p i)).Y))) || (((pt p i).X == (pt p (nx p i)).X) == ((pt p (nx p i)).X == (pt p (nx p (nx p i))).X)))
def lss (a b:Point):Bool:=(decide (a.X < b.X)) || ((a.X == b.X) && (decide (a.Y < b.Y)))
def mts (a b c d:Point):Bool:=(decide ((max (min a.X b.X) (min c.X d.X)) ≤ (min (max a.X b.X) (max c.X d.X)))) && (decide ((max (min a.Y b.Y) (min c.Y d.Y)) ≤ (min (max a.Y b.Y) (max c.Y d.Y))))
def q2 (p:List Point) (i:Nat):Prop:=0 < i → lss (pt p 0) (pt p i) = true
def q3 (p:List Point) (i k:Nat):Prop:=nx p k ≠ i → mts (pt p i) (pt p (nx p i)) (pt p k) (pt p (nx p k)) = false
/-- a polygon -/
def Poly (p:List Point):Prop:=4 ≤ p.length∧p.length ≤ 60∧(∀ i,i < p.length → q1 p i = true)∧(∀ i,i < p.length → q2 p i)∧(∀ i,i < p.length → ∀ k,i + 2 ≤ k → k < p.length → q3 p i k)∧(pt p 0).Y = (pt p 1).Y
theorem loop_allO {body:Int → Option (Flow Int Bool)} {id:Nat} (c N:Nat) (Q:Nat → Prop) (hN:c + N ≤ 1000000000)
    (step : ∀ i:Nat,i < N → (Q (c + i)∧body ((c + i:Nat):Int) = (addI ((c + i:Nat):Int) 1).bind fun x=>some (.go x)) ∨ (¬ Q (c + i)∧body ((c + i:Nat):Int) = some (.ret false)))
    (done:body ((c + N:Nat):Int) = some (.ex id ((c + N:Nat):Int))) {fuel:Nat} (hf:N < fuel) :
    ((∀ m,m < N → Q (c + m))∧iterL body fuel (c:Int) = some (.ex id ((c + N:Nat):Int))) ∨ ((∃ m,m < N∧¬ Q (c + m))∧iterL body fuel (c:Int) = some (.ret false)):=by
  obtain ⟨f,h1,h2,h3⟩:=loop_up (body:=body) (fun i s=>s = ((c + i:Nat):Int)∧∀ m,m < i → Q (c + m)) N
    (fun f=>((∀ m,m < N → Q (c + m))∧f = .ex id ((c + N:Nat):Int)) ∨ ((∃ m,m < N∧¬ Q (c + m))∧f = .ret false)) (fun i s hi ⟨hs,hI⟩=>by
      subst hs
      rcases step i hi with ⟨hq,hb⟩ | ⟨hq,hb⟩
      · rw [addI_one (by omega)] at hb
        refine .inl ⟨_,hb,rfl,fun m hm=>?_⟩
        by_cases e:m = i
        · subst e; exact hq
        · exact hI m (by omega)
      · exact .inr ⟨_,hb,trivial,.inr ⟨⟨i,hi,hq⟩,rfl⟩⟩) (fun s ⟨hs,hI⟩=>by
      subst hs
      exact ⟨_,done,trivial,.inl ⟨hI,rfl⟩⟩) (c:Int) ⟨rfl,fun m h=>by omega⟩ fuel hf
  rcases h3 with ⟨h3,rfl⟩ | ⟨h3,rfl⟩
  · exact .inl ⟨h3,h1⟩
  · exact .inr ⟨h3,h1⟩
theorem or2 (x y:Int):cmp_Or_int [x,y] = some (if x ≠ 0 then x else y):=by
  unfold cmp_Or_int
  by_cases hx:x = 0
  · by_cases hy : y = 0
    · subst hx hy; rfl
    · subst hx
      have e0:cmp_Or_int_L0 [0,y] 0 = some (.go 1):=rfl
      have e1:cmp_Or_int_L0 [0,y] 1 = some (.ret y):=by
        show (if (y != 0) = true then _ else _) = _
        rw [if_pos (by simpa using hy)]
      simp [iterL,e0,e1]
  · have e0 : cmp_Or_int_L0 [x, y] 0 = some (.ret x) := by
      show (if (x != 0) = true then _ else _) = _
      rw [if_pos (by simpa using hx)]
    simp [iterL,e0,hx]
theorem pcompare_eq (a b:Point) : ∃ c,polygon_compare a b = some c∧(decide (0 ≤ c) = !(lss a b)):=by
  unfold polygon_compare
  rw [cmp_eq,Option.bind_some,cmp_eq,Option.bind_some,or2,Option.bind_some]
  refine ⟨_,rfl,?_⟩
  rw [Bool.eq_iff_iff]
  unfold lss sg
  simp only [decide_eq_true_eq, Bool.not_eq_true', Bool.or_eq_false_iff, decide_eq_false_iff_not, Bool.and_eq_false_imp, beq_iff_eq]
  by_cases h1:a.X < b.X
  · simp [h1]
  · by_cases h2 : b.X < a.X
    · simp [h1,h2]; omega
    · have : a.X = b.X := by omega
      by_cases h3:a.Y < b.Y
      · simp [h1,h2,h3,this]
      · by_cases h4:b.Y < a.Y <;> simp [h1,h2,h3,h4,this]
end Go.Proofs.YtagkmlkhaekldaaGreat

namespace Go.Proofs.YtagkmlkhaekldaaGreat
open Go.Gb
set_option linter.unusedVariables false
set_option linter.unusedSimpArgs false
set_option linter.unusedSectionVars false
set_option linter.unusedVariables false
set_option linter.unusedSimpArgs false

theorem q1_eq (p:List Point) (i:Nat):((!((((decide (0 ≤ (pt p i).X)) && (decide ((pt p i).X ≤ 1048576))) && (decide (0 ≤ (pt p i).Y))) && (decide ((pt p i).Y ≤ 1048576)))) || (((pt p i).X == (pt p (nx p i)).X) == ((pt p i).Y == (pt p (nx p i)).Y)) || (((pt p i).X == (pt p (nx p i)).X) == ((pt p (nx p i)).X == (pt p (nx p (nx p i))).X))) = !(q1 p i):=by
  unfold q1
  rw [Bool.not_not]
  congr 2
  rw [Bool.eq_iff_iff]
  simp only [Bool.not_eq_true', Bool.and_eq_false_imp, Bool.or_eq_true, decide_eq_true_eq, decide_eq_false_iff_not, Bool.and_eq_true]
  omega
theorem pright0 {p:List Point} (h4:4 ≤ p.length) (h:p.length ≤ 60):((∀ i,i < p.length → q1 p i = true∧q2 p i)∧∃ s,iterL (polygon_Right_L0 p (sds p)) ((sds p).length + 1) 0 = some (.ex 0 s)) ∨ ((∃ i,i < p.length∧¬ (q1 p i = true∧q2 p i))∧iterL (polygon_Right_L0 p (sds p)) ((sds p).length + 1) 0 = some (.ret false)):=by
  have hb : ∀ i:Nat,i < p.length → ((q1 p i = true∧q2 p i)∧polygon_Right_L0 p (sds p) (i:Int) = (addI (i:Int) 1).bind fun x=>some (.go x)) ∨ (¬ (q1 p i = true∧q2 p i)∧polygon_Right_L0 p (sds p) (i:Int) = some (.ret false)):=fun i hi=>by
    have e1:addI (i:Int) 1 = some ((i + 1:Nat):Int):=addI_one (by omega)
    have e2:remI ((i + 1:Nat):Int) ((sds p).length:Int) = some ((nx p i:Nat):Int):=by rw [sds_len]; exact remI_nat (by omega)
    have z0:getI p 0 = some (pt p 0):=getI_pt (i:=0) (by omega)
    obtain ⟨c,hc,hlc⟩:=pcompare_eq (pt p 0) (pt p i)
    unfold polygon_Right_L0
    rw [if_pos (by rw [sds_len]; simpa using hi),getI_sds hi,Option.bind_some,e1,Option.bind_some,e2,Option.bind_some,getI_sds (nx_lt i (by omega)),Option.bind_some]
    unfold polygon_onGrid polygon_side_upright
    rw [Option.bind_some,Option.bind_some,Option.bind_some]
    have e3:(if ((!((((decide (0 ≤ (sd p i).a.X)) && (decide ((sd p i).a.X ≤ 1048576))) && (decide (0 ≤ (sd p i).a.Y))) && (decide ((sd p i).a.Y ≤ 1048576)))) || (((sd p i).a.X == (sd p i).b.X) == ((sd p i).a.Y == (sd p i).b.Y))) = true then some true else some (((sd p i).a.X == (sd p i).b.X) == ((sd p (nx p i)).a.X == (sd p (nx p i)).b.X))) = some (!(q1 p i)):=by
      rw [← q1_eq]
      show (if (_ || _) = true then some true else _) = _
      unfold sd
      dsimp only
      split
      · rename_i hx; rw [hx]; rfl
      · rename_i hx; rw [Bool.not_eq_true] at hx; rw [hx]; rfl
    rw [e3,Option.bind_some]
    cases h1:q1 p i with
    | false=>exact .inr ⟨by simp,rfl⟩
    | true =>
      rw [if_neg (by simp)]
      have e4:(if (decide ((0:Int) < (i:Int))) = true then (getI p 0).bind fun x=>(getI p (i:Int)).bind fun y=>(polygon_compare x y).bind fun z=>some (decide (0 ≤ z)) else some false) = some (decide (0 < i) && !(lss (pt p 0) (pt p i))):=by
        by_cases h0:0 < i
        · rw [if_pos (by simpa using h0), z0, Option.bind_some, getI_pt hi, Option.bind_some, hc, Option.bind_some, hlc]
          simp [h0]
        · rw [if_neg (by simpa using h0)]; simp [h0]
      rw [e4,Option.bind_some]
      by_cases h2:q2 p i
      · rw [if_neg (by
          simp only [Bool.and_eq_true,decide_eq_true_eq,Bool.not_eq_true']
          rintro ⟨h0,h5⟩
          rw [h2 h0] at h5; simp at h5)]
        exact .inl ⟨⟨rfl,h2⟩,rfl⟩
      · refine .inr ⟨fun h => h2 h.2, ?_⟩
        rw [if_pos]
        simp only [Bool.and_eq_true,decide_eq_true_eq,Bool.not_eq_true']
        unfold q2 at h2
        by_cases h0:0 < i
        · refine ⟨h0, ?_⟩
          cases hx:lss (pt p 0) (pt p i) with
          | false=>rfl
          | true=>exact absurd (fun _=>hx) h2
        · exact absurd (fun h=>absurd h h0) h2
  rcases loop_allQ (body:=polygon_Right_L0 p (sds p)) (id:=0) p.length (fun i=>q1 p i = true∧q2 p i) (by omega) (fun i hi _=>hb i hi) (by
    unfold polygon_Right_L0
    rw [if_neg (by rw [sds_len]; simp)]) (fuel:=(sds p).length + 1) (by rw [sds_len]; omega) with ⟨h1,h2⟩ | ⟨⟨m,g1,g3⟩,h2⟩
  · exact .inl ⟨h1,_,h2⟩
  · exact .inr ⟨⟨m,g1,g3⟩,h2⟩
theorem pright1 {p:List Point} (h4:4 ≤ p.length) (h:p.length ≤ 60) {i:Nat} (hi:i < p.length) :
    ((∀ k,i + 2 ≤ k → k < p.length → q3 p i k)∧∃ s,iterL (polygon_Right_L2 (sds p) (i:Int)) ((sds p).length + 1) ((i + 2:Nat):Int) = some (.ex 4 s)) ∨ ((∃ k,i + 2 ≤ k∧k < p.length∧¬ q3 p i k)∧iterL (polygon_Right_L2 (sds p) (i:Int)) ((sds p).length + 1) ((i + 2:Nat):Int) = some (.ret false)):=by
  by_cases hn:p.length ≤ i + 2
  · refine .inl ⟨fun k h1 h2 => by omega, ((i + 2 : Nat) : Int), ?_⟩
    have e:polygon_Right_L2 (sds p) (i:Int) ((i + 2:Nat):Int) = some (.ex 4 ((i + 2:Nat):Int)):=by
      unfold polygon_Right_L2
      rw [if_neg (by rw [sds_len]; simp; omega)]
    simp only [iterL,e,Option.bind_some]
  · have hb : ∀ k : Nat, i + 2 ≤ k → k < p.length → (q3 p i k ∧ polygon_Right_L2 (sds p) (i : Int) (k : Int) = (addI (k : Int) 1).bind fun x => some (.go x)) ∨ (¬ q3 p i k ∧ polygon_Right_L2 (sds p) (i : Int) (k : Int) = some (.ret false)) := fun k h1 h2 => by
      have e1:addI (i:Int) ((sds p).length:Int) = some ((i:Int) + (p.length:Int)):=by rw [sds_len]; exact addI_some (by constructor <;> omega)
      have e2:subI ((i:Int) + (p.length:Int)) (k:Int) = some ((i:Int) + (p.length:Int) - (k:Int)):=subI_some (by constructor <;> omega)
      have hnx:nx p k = i ↔ ¬ (1 < (i:Int) + (p.length:Int) - (k:Int)):=by
        unfold nx
        by_cases hk:k + 1 = p.length
        · rw [hk,Nat.mod_self]; omega
        · rw [Nat.mod_eq_of_lt (by omega)]; omega
      unfold polygon_Right_L2
      rw [if_pos (by rw [sds_len]; simpa using h2),e1,Option.bind_some,e2,Option.bind_some]
      by_cases hne:nx p k = i
      · refine .inl ⟨fun h => absurd hne h, ?_⟩
        rw [if_neg (by simpa using hnx.1 hne),Option.bind_some,if_neg (by simp)]
      · rw [if_pos (by have := fun h => hne (hnx.2 h); simpa using Classical.not_not.1 this), getI_sds hi, Option.bind_some, getI_sds h2, Option.bind_some]
        show (_∧(if (mts (pt p i) (pt p (nx p i)) (pt p k) (pt p (nx p k))) = true then _ else _) = _) ∨ (_∧(if (mts (pt p i) (pt p (nx p i)) (pt p k) (pt p (nx p k))) = true then _ else _) = _)
        cases hm:mts (pt p i) (pt p (nx p i)) (pt p k) (pt p (nx p k)) with
        | true=>exact .inr ⟨fun h=>by have:=h hne; rw [hm] at this; simp at this,rfl⟩
        | false=>exact .inl ⟨fun _=>hm,rfl⟩
    rcases loop_allO (body:=polygon_Right_L2 (sds p) (i:Int)) (id:=4) (i + 2) (p.length - (i + 2)) (fun k=>q3 p i k) (by omega) (fun m hm=>hb (i + 2 + m) (by omega) (by omega)) (by
      unfold polygon_Right_L2
      rw [if_neg (by rw [sds_len]; simp; omega)]) (fuel:=(sds p).length + 1) (by rw [sds_len]; omega) with ⟨h1,h2⟩ | ⟨⟨m,hm,h1⟩,h2⟩
    · refine .inl ⟨fun k g1 g2 => ?_, _, h2⟩
      have:=h1 (k - (i + 2)) (by omega)
      rwa [show i + 2 + (k - (i + 2)) = k by omega] at this
    · exact .inr ⟨⟨i + 2 + m,by omega,by omega,h1⟩,h2⟩
theorem q1_alt {p:List Point} {i:Nat} (h:q1 p i = true):((pt p i).X = (pt p (nx p i)).X ↔ ¬ (pt p i).Y = (pt p (nx p i)).Y)∧((pt p i).X = (pt p (nx p i)).X ↔ ¬ (pt p (nx p i)).X = (pt p (nx p (nx p i))).X):=by
  unfold q1 at h
  simp only [Bool.not_eq_true', Bool.or_eq_false_iff, beq_eq_false_iff_ne, ne_eq] at h
  obtain ⟨⟨_,h1⟩,h2⟩:=h
  have key : ∀ a b c d:Int,¬ ((a == b) = (c == d)) → (a = b ↔ ¬ c = d):=fun a b c d h=>by
    by_cases e:a = b <;> by_cases f:c = d
    · exact absurd (by rw [beq_iff_eq.2 e,beq_iff_eq.2 f]) h
    · exact ⟨fun _=>f,fun _=>e⟩
    · exact ⟨fun g=>absurd g e,fun g=>absurd f g⟩
    · exact absurd (by rw [beq_eq_false_iff_ne.2 e,beq_eq_false_iff_ne.2 f]) h
  exact ⟨key _ _ _ _ h1,key _ _ _ _ h2⟩
theorem pright_eq (p:List Point) : ∃ b,polygon_Right p = some b∧(b = true ↔ Poly p):=by
  unfold polygon_Right
  by_cases hl:p.length < 4 ∨ 60 < p.length
  · rw [if_pos (by simpa using hl.imp (by intro h; omega) (by intro h; omega))]
    exact ⟨_,rfl,by simp; intro ⟨h1,h2,_⟩; omega⟩
  · rw [if_neg (by simp; omega)]
    have h4:4 ≤ p.length:=by omega
    have h6:p.length ≤ 60:=by omega
    have n0:nx p 0 = 1:=by unfold nx; rw [Nat.mod_eq_of_lt (by omega)]
    rw [around_eq h6,Option.bind_some]
    rcases pright0 h4 h6 with ⟨h1,s,h2⟩ | ⟨⟨i,hi,h1⟩,h2⟩
    · rw [h2, Option.bind_some]
      dsimp only
      rcases loop_allQ (body:=polygon_Right_L1 (sds p)) (id:=2) p.length (fun i=>∀ k,i + 2 ≤ k → k < p.length → q3 p i k) (by omega) (fun i hi _=>by
        unfold polygon_Right_L1
        rw [if_pos (by rw [sds_len]; simpa using hi),addI_some (by constructor <;> omega),Option.bind_some,show ((i:Int) + 2) = ((i + 2:Nat):Int) by push_cast; rfl]
        rcases pright1 h4 h6 hi with ⟨g1,s,g2⟩ | ⟨⟨k,g1,g3,g4⟩,g2⟩
        · refine .inl ⟨g1, ?_⟩
          rw [g2,Option.bind_some]
        · refine .inr ⟨fun h => g4 (h k g1 g3), ?_⟩
          rw [g2,Option.bind_some]) (by
        unfold polygon_Right_L1
        rw [if_neg (by rw [sds_len]; simp)]) (fuel:=(sds p).length + 1) (by rw [sds_len]; omega) with ⟨g1,g2⟩ | ⟨⟨m,g1,g3⟩,g2⟩
      · have z0 : getI (sds p) 0 = some (sd p 0) := getI_sds (i := 0) (by omega)
        rw [g2,Option.bind_some]
        dsimp only
        rw [z0,Option.bind_some]
        unfold polygon_side_upright
        rw [Option.bind_some]
        refine ⟨_,rfl,?_⟩
        have ha:=(q1_alt (h1 0 (by omega)).1).1
        rw [n0] at ha
        have:((sd p 0).a.X = (sd p 0).b.X) = ((pt p 0).X = (pt p 1).X):=by unfold sd; rw [n0]
        simp only [Bool.not_eq_true', beq_eq_false_iff_ne, ne_eq, this]
        constructor
        · intro hx
          exact ⟨h4,h6,fun i hi=>(h1 i hi).1,fun i hi=>(h1 i hi).2,g1,Classical.byContradiction fun hy=>hx (ha.2 hy)⟩
        · intro hp hx
          exact ha.1 hx hp.2.2.2.2.2
      · rw [g2, Option.bind_some]
        exact ⟨false,rfl,by simp; exact fun hp=>g3 (hp.2.2.2.2.1 m g1)⟩
    · rw [h2, Option.bind_some]
      exact ⟨false,rfl,by simp; exact fun hp=>h1 ⟨hp.2.2.1 i hi,hp.2.2.2.1 i hi⟩⟩
end Go.Proofs.YtagkmlkhaekldaaGreat

namespace Go.Proofs.YtagkmlkhaekldaaGreat
open Go.Gb
set_option linter.unusedVariables false
set_option linter.unusedSimpArgs false
set_option linter.unusedSectionVars false
set_option linter.unusedVariables false
set_option linter.unusedSimpArgs false

theorem containsRc_any {s:List Rect} {f:Rect → Option Bool} {g:Rect → Bool} (hl:s.length ≤ 1000000) (hf : ∀ x ∈ s,f x = some (g x)):slices_ContainsFunc_Rect s f = some (s.any g):=by
  obtain ⟨fl,h1,h2,h3⟩:=loop_up (body:=slices_IndexFunc_Rect_L0 s f) (fun i t=>t = ((i:Nat):Int)∧∀ m (h:m < s.length),m < i → g s[m] = false) s.length
    (fun fl=>match fl with | .ex _ _=>s.any g = false | .ret r=>0 ≤ r∧s.any g = true | .go _=>False) (fun i t hi ⟨ht,hI⟩=>by
      subst ht
      unfold slices_IndexFunc_Rect_L0
      rw [if_pos (by simpa using hi),getI_nat hi,Option.bind_some,hf s[i] (List.getElem_mem hi),Option.bind_some]
      cases hb:g s[i] with
      | true=>exact .inr ⟨_,rfl,trivial,by show (0:Int) ≤ i; omega,List.any_eq_true.2 ⟨_,List.getElem_mem hi,hb⟩⟩
      | false =>
        rw [if_neg (by simp),addI_one (by omega)]
        refine .inl ⟨_,rfl,rfl,fun m hm hmi=>?_⟩
        by_cases e:m = i
        · subst e; exact hb
        · exact hI m hm (by omega)) (fun t ⟨ht,hI⟩=>by
      subst ht
      unfold slices_IndexFunc_Rect_L0
      rw [if_neg (by simp)]
      refine ⟨_,rfl,trivial,?_⟩
      rw [List.any_eq_false]
      intro x hx
      obtain ⟨m,hm,rfl⟩:=List.getElem_of_mem hx
      rw [hI m hm hm]; simp) 0 ⟨rfl,fun m _ h=>by omega⟩ (s.length + 1) (by omega)
  unfold slices_ContainsFunc_Rect slices_IndexFunc_Rect
  rw [h1,Option.bind_some]
  cases fl with
  | go _=>exact h3.elim
  | ex _ _=>dsimp only at h3; rw [h3]; rfl
  | ret r =>
    obtain ⟨h3,h4⟩:=h3
    rw [h4,Option.bind_some,decide_eq_true h3]
/-- have two rectangles a cell in common? -/
def comm (a b:Rect):Bool:=decide (max a.X0 b.X0 < min a.X1 b.X1) && decide (max a.Y0 b.Y0 < min a.Y1 b.Y1)
end Go.Proofs.YtagkmlkhaekldaaGreat

namespace Go.Proofs.YtagkmlkhaekldaaGreat
open Go.Gb
set_option linter.unusedVariables false
set_option linter.unusedSimpArgs false
set_option linter.unusedSectionVars false
set_option linter.unusedVariables false
set_option linter.unusedSimpArgs false
set_option maxRecDepth 100000

open Classical in
noncomputable def indP (p:Prop):Int:=if p then 1 else 0
theorem indP_t {p:Prop} (h:p):indP p = 1:=by unfold indP; rw [if_pos h]
theorem indP_f {p:Prop} (h : ¬ p):indP p = 0:=by unfold indP; rw [if_neg h]
theorem indP_c {p q:Prop} (h:p ↔ q):indP p = indP q:=by rw [propext h]
theorem indP_bounds (p:Prop):0 ≤ indP p∧indP p ≤ 1:=by
  by_cases h:p
  · rw [indP_t h]; decide
  · rw [indP_f h]; decide
theorem sumN_z {f:Nat → Int} {n:Nat} (h : ∀ i,i < n → f i = 0):sumN f n = 0:=(sumN_congr h).trans sumN_zero
theorem sumN_iv (a b:Int) : ∀ n:Nat,sumN (fun j=>indP (a ≤ (j:Int)∧(j:Int) < b)) n = max 0 (min b n - max a 0)
  | 0=>by rw [sumN]; omega
  | n + 1 => by
    rw [sumN,sumN_iv a b n]
    by_cases h:a ≤ (n:Int)∧(n:Int) < b
    · rw [indP_t h]; omega
    · rw [indP_f h]; omega
theorem sumN_mul (c:Int) (f:Nat → Int) (n:Nat):sumN (fun x=>c * f x) n = c * sumN f n:=by
  induction n with
  | zero=>simp [sumN]
  | succ n ih=>rw [sumN,ih,sumN,Int.mul_add]
/-- one strip: the bases over x in the order of their beginnings -/
def swp (x w:Int):List Rect → Int × Int → Int × Int
  | [],s=>s
  | b::l,s=>swp x w l (if (b.X0 ≤ x∧x < b.X1)∧s.2 < b.Y1 then (s.1 + w * (b.Y1 - max s.2 b.Y0),b.Y1) else s)
noncomputable def colM (l:List Rect) (M:Nat) (x y:Int):Int:=sumN (fun j=>indP (y ≤ (j:Int)∧cells l x j)) M
theorem colM_nil (M:Nat) (x y:Int):colM [] M x y = 0:=sumN_z fun j _=>indP_f (by simp [cells])
theorem colM_bounds (l:List Rect) (M:Nat) (x y:Int):0 ≤ colM l M x y∧colM l M x y ≤ M:=by
  constructor
  · exact sumN_nonneg fun i _=>(indP_bounds _).1
  · have := sumN_le (f := fun j : Nat => indP (y ≤ (j : Int) ∧ cells l x j)) (m := 1) (n := M) fun i _ => (indP_bounds _).2
    rw [Int.mul_one] at this; exact this
theorem swp_spec {x w:Int} {M:Nat} (hM:M = 1048576) : ∀ {l:List Rect} {s:Int × Int},(∀ r ∈ l,VR r) → l.Pairwise (fun a b=>a.Y0 ≤ b.Y0) → 0 ≤ s.2 → (swp x w l s).1 = s.1 + w * colM l M x s.2
  | [],s,_,_,_=>by rw [colM_nil,Int.mul_zero,Int.add_zero]; rfl
  | b :: l, s, hv, hp, hs => by
    have hb:=hv b (by simp)
    have hv' : ∀ r ∈ l,VR r:=fun r hr=>hv r (by simp [hr])
    rw [List.pairwise_cons] at hp
    have hb':=hb
    unfold VR at hb'
    unfold swp
    by_cases c:(b.X0 ≤ x∧x < b.X1)∧s.2 < b.Y1
    · rw [if_pos c, swp_spec hM hv' hp.2 (by show 0 ≤ b.Y1; omega)]
      have e:colM (b::l) M x s.2 = (b.Y1 - max s.2 b.Y0) + colM l M x b.Y1:=by
        have e1:b.Y1 - max s.2 b.Y0 = sumN (fun j=>indP (max s.2 b.Y0 ≤ (j:Int)∧(j:Int) < b.Y1)) M:=by
          rw [sumN_iv]; omega
        rw [e1]
        unfold colM
        rw [← sumN_add]
        refine sumN_congr fun j _=>?_
        by_cases hj:(j:Int) < b.Y1
        · have h2 : indP (b.Y1 ≤ (j : Int) ∧ cells l x j) = 0 := indP_f (by omega)
          rw [h2,Int.add_zero]
          by_cases hm:max s.2 b.Y0 ≤ (j:Int)
          · rw [indP_t, indP_t ⟨hm, hj⟩]
            exact ⟨by omega,b,by simp,c.1,by omega,hj⟩
          · rw [indP_f, indP_f (fun h => hm h.1)]
            rintro ⟨h3,r,hr,h4⟩
            rcases List.mem_cons.1 hr with rfl | hr
            · unfold rin at h4; omega
            · have := hp.1 r hr
              unfold rin at h4; omega
        · have h2 : indP (max s.2 b.Y0 ≤ (j : Int) ∧ (j : Int) < b.Y1) = 0 := indP_f (by omega)
          rw [h2,Int.zero_add]
          refine indP_c ?_
          constructor
          · rintro ⟨h3, r, hr, h4⟩
            rcases List.mem_cons.1 hr with rfl | hr
            · unfold rin at h4; omega
            · exact ⟨by omega,r,hr,h4⟩
          · rintro ⟨h3, r, hr, h4⟩
            exact ⟨by omega,r,by simp [hr],h4⟩
      rw [e,Int.mul_add]
      show s.1 + w * (b.Y1 - max s.2 b.Y0) + w * colM l M x b.Y1 = _
      omega
    · rw [if_neg c, swp_spec hM hv' hp.2 hs]
      have e:colM (b::l) M x s.2 = colM l M x s.2:=by
        refine sumN_congr fun j _=>indP_c ?_
        constructor
        · rintro ⟨h3, r, hr, h4⟩
          rcases List.mem_cons.1 hr with rfl | hr
          · unfold rin at h4; omega
          · exact ⟨by omega,r,hr,h4⟩
        · rintro ⟨h3, r, hr, h4⟩
          exact ⟨by omega,r,by simp [hr],h4⟩
      rw [e]
/-- all strips -/
noncomputable def strips (l:List Rect) (M:Nat):List Int → Int
  | a::b::t=>(b - a) * colM l M a 0 + strips l M (b::t)
  | _=>0
theorem strips_cov' {l:List Rect} {M:Nat} (hM:M = 1048576) (hv : ∀ r ∈ l,VR r) : ∀ {t:List Int} {a:Int},(a::t).Pairwise (· ≤ ·) → 0 ≤ a → (∀ x ∈ t,x ≤ 1048576) → (∀ r ∈ l,(r.X0 ≤ a ∨ r.X0 ∈ t)∧(r.X1 ≤ a ∨ r.X1 ∈ t)) →
    strips l M (a::t) = sumN (fun x=>if a ≤ (x:Int) then colM l M x 0 else 0) M
  | [], a, _, _, _, hc => by
    unfold strips
    symm
    refine sumN_z fun x _=>?_
    split
    · rename_i hx
      refine sumN_z fun j _=>indP_f ?_
      rintro ⟨_,r,hr,h4⟩
      have:=hc r hr
      simp at this
      unfold rin at h4; omega
    · rfl
  | b :: t, a, hp, ha, hb, hc => by
    rw [List.pairwise_cons] at hp
    have hab:a ≤ b:=hp.1 b (by simp)
    have hbt : ∀ z ∈ b::t,b ≤ z:=by
      intro z hz
      rcases List.mem_cons.1 hz with rfl | hz
      · exact Int.le_refl _
      · exact (List.pairwise_cons.1 hp.2).1 z hz
    have hb1:=hb b (by simp)
    unfold strips
    rw [strips_cov' hM hv hp.2 (by omega) (fun x hx=>hb x (by simp [hx])) (fun r hr=>?_)]
    · have e1 : (b - a) * colM l M a 0 = sumN (fun x => if a ≤ (x : Int) ∧ (x : Int) < b then colM l M a 0 else 0) M := by
        have h1:sumN (fun x=>if a ≤ (x:Int)∧(x:Int) < b then colM l M a 0 else 0) M = sumN (fun x=>colM l M a 0 * indP (a ≤ (x:Int)∧(x:Int) < b)) M:=by
          refine sumN_congr fun x _=>?_
          by_cases h:a ≤ (x:Int)∧(x:Int) < b
          · rw [if_pos h,indP_t h,Int.mul_one]
          · rw [if_neg h,indP_f h,Int.mul_zero]
        rw [h1,sumN_mul,sumN_iv,Int.mul_comm]
        congr 1; omega
      rw [e1,← sumN_add]
      refine sumN_congr fun x _=>?_
      by_cases h1:a ≤ (x:Int)
      · rw [if_pos h1]
        by_cases h2:(x:Int) < b
        · rw [if_pos ⟨h1, h2⟩, if_neg (by omega), Int.add_zero]
          refine sumN_congr fun j _=>indP_c ?_
          have key : ∀ r ∈ l,(rin r a j ↔ rin r x j):=by
            intro r hr
            obtain ⟨c1,c2⟩:=hc r hr
            have d1:r.X0 ≤ a ∨ b ≤ r.X0:=c1.imp id (hbt _)
            have d2:r.X1 ≤ a ∨ b ≤ r.X1:=c2.imp id (hbt _)
            unfold rin
            omega
          constructor
          · rintro ⟨h3,r,hr,h4⟩; exact ⟨h3,r,hr,(key r hr).1 h4⟩
          · rintro ⟨h3,r,hr,h4⟩; exact ⟨h3,r,hr,(key r hr).2 h4⟩
        · rw [if_neg (by omega),if_pos (by omega),Int.zero_add]
      · rw [if_neg (by omega),if_neg (by omega),if_neg h1]; rfl
    · obtain ⟨c1, c2⟩ := hc r hr
      constructor
      · rcases c1 with c1 | c1
        · exact .inl (by omega)
        · rcases List.mem_cons.1 c1 with c1 | c1
          · exact .inl (by omega)
          · exact .inr c1
      · rcases c2 with c2 | c2
        · exact .inl (by omega)
        · rcases List.mem_cons.1 c2 with c2 | c2
          · exact .inl (by omega)
          · exact .inr c2
noncomputable def covM (l:List Rect) (M:Nat):Int:=sumN (fun x=>colM l M x 0) M
theorem strips_cov {l:List Rect} {M:Nat} (hM:M = 1048576) {xs:List Int} (hv : ∀ r ∈ l,VR r) (hp:xs.Pairwise (· ≤ ·)) (hx : ∀ x ∈ xs,0 ≤ x∧x ≤ 1048576) (hc : ∀ r ∈ l,r.X0 ∈ xs∧r.X1 ∈ xs):strips l M xs = covM l M:=by
  cases xs with
  | nil =>
    have:l = []:=by
      cases l with
      | nil=>rfl
      | cons r l=>have:=(hc r (by simp)).1; simp at this
    subst this
    unfold strips
    symm
    exact sumN_z fun x _=>colM_nil _ _ _
  | cons a t =>
    rw [strips_cov' hM hv hp (hx a (by simp)).1 (fun x h=>(hx x (by simp [h])).2) (fun r hr=>?_)]
    · refine sumN_congr fun x _ => ?_
      split
      · rfl
      · rename_i h
        symm
        refine sumN_z fun j _=>indP_f ?_
        rintro ⟨_,r,hr,h4⟩
        have h5:a ≤ r.X0:=by
          rcases List.mem_cons.1 (hc r hr).1 with h5 | h5
          · omega
          · exact (List.pairwise_cons.1 hp).1 _ h5
        unfold rin at h4; omega
    · obtain ⟨c1, c2⟩ := hc r hr
      exact ⟨(List.mem_cons.1 c1).imp (fun h=>by omega) id,(List.mem_cons.1 c2).imp (fun h=>by omega) id⟩
theorem covM_congr {l m:List Rect} {M:Nat} (h : ∀ x y,cells l x y ↔ cells m x y):covM l M = covM m M:=
  sumN_congr fun x _=>sumN_congr fun j _=>indP_c (and_congr_right fun _=>h _ _)
theorem covM_perm {l m:List Rect} {M:Nat} (h:l.Perm m):covM l M = covM m M:=covM_congr fun x y=>⟨fun ⟨r,hr,h'⟩=>⟨r,h.mem_iff.1 hr,h'⟩,fun ⟨r,hr,h'⟩=>⟨r,h.mem_iff.2 hr,h'⟩⟩
end Go.Proofs.YtagkmlkhaekldaaGreat

namespace Go.Proofs.YtagkmlkhaekldaaGreat
open Go.Gb
set_option linter.unusedVariables false
set_option linter.unusedSimpArgs false
set_option linter.unusedSectionVars false
set_option linter.unusedVariables false
set_option linter.unusedSimpArgs false
set_option maxRecDepth 100000

section
variable {V:Type} {e:V} {f:V → V} {d:Int}
def shRuns (d:Int) (f:V → V) (l:Runs V):Runs V:=l.map fun r=>(r.1 + d,r.2.1 + d,f r.2.2)
theorem shRuns_canon (hf : ∀ a b,f a = f b → a = b) (he:f e = e) : ∀ {l:Runs V},Canon e l → Canon e (shRuns d f l)
  | [],_=>trivial
  | (a, b, v) :: t, h => by
    obtain ⟨h1,h2,h3,h4⟩:=h
    refine ⟨by dsimp only; omega,fun h=>h2 (hf _ _ (h.trans he.symm)),?_,shRuns_canon hf he h4⟩
    cases t with
    | nil=>trivial
    | cons r t =>
      obtain ⟨c, c', w⟩ := r
      rcases h3 with h3 | ⟨h3,h5⟩
      · exact .inl (by dsimp only; omega)
      · exact .inr ⟨by dsimp only; omega,fun h=>h5 (hf _ _ h)⟩
theorem shRuns_rval (he:f e = e) : ∀ {l:Runs V} {x:Int},rval e (shRuns d f l) x = f (rval e l (x - d))
  | [],_=>he.symm
  | (a, b, v) :: t, x => by
    show (if a + d ≤ x∧x < b + d then f v else rval e (shRuns d f t) x) = f (if a ≤ x - d∧x - d < b then v else rval e t (x - d))
    by_cases h:a ≤ x - d∧x - d < b
    · rw [if_pos h,if_pos (by omega)]
    · rw [if_neg h, if_neg (by omega)]
      exact shRuns_rval he
end
def shR (dx dy:Int) (r:Rect):Rect:=⟨r.X0 + dx,r.Y0 + dy,r.X1 + dx,r.Y1 + dy⟩
theorem map_inj {α β:Type} {f:α → β} (hf : ∀ a b,f a = f b → a = b) : ∀ {l m:List α},l.map f = m.map f → l = m
  | [],[],_=>rfl
  | [],_::_,h=>by simp at h
  | _::_,[],h=>by simp at h
  | a :: l, b :: m, h => by
    simp only [List.map_cons,List.cons.injEq] at h
    rw [hf _ _ h.1,map_inj hf h.2]
theorem shCol_inj (dy:Int) : ∀ a b:Col,shRuns dy id a = shRuns dy id b → a = b:=fun a b h=>map_inj (by
  rintro ⟨x1,y1,v1⟩ ⟨x2,y2,v2⟩ h
  simp only [id,Prod.mk.injEq] at h
  obtain ⟨h1,h2,h3⟩:=h
  subst h3
  rw [show x1 = x2 by omega,show y1 = y2 by omega]) h
theorem form_shift {S:Int → Int → Prop} {out:List Rect} (dx dy:Int) (h:IsForm S out):IsForm (fun x y=>S (x - dx) (y - dy)) (out.map (shR dx dy)):=by
  obtain ⟨G,h1,h2,h3,rfl⟩:=h
  refine ⟨shRuns dx (shRuns dy id) G,shRuns_canon (shCol_inj dy) rfl h1,?_,fun x y=>?_,?_⟩
  · intro a b c hm
    obtain ⟨⟨a', b', c'⟩, hm', he⟩ := List.mem_map.1 hm
    simp only [Prod.mk.injEq] at he
    rw [← he.2.2]
    exact shRuns_canon (fun _ _ h=>h) rfl (h2 _ _ _ hm')
  · rw [shRuns_rval (e := ([] : Col)) (f := shRuns dy id) rfl, shRuns_rval (e := false) (f := id) rfl]
    exact h3 _ _
  · clear h1 h2 h3
    induction G with
    | nil=>rfl
    | cons g G ih =>
      have e1:flatG (g::G) = g.2.2.map (fun s=>(⟨g.1,s.1,g.2.1,s.2.1⟩:Rect)) ++ flatG G:=rfl
      have e2:flatG (shRuns dx (shRuns dy id) (g::G)) = (shRuns dy id g.2.2).map (fun s=>(⟨g.1 + dx,s.1,g.2.1 + dx,s.2.1⟩:Rect)) ++ flatG (shRuns dx (shRuns dy id) G):=rfl
      rw [e1,e2,List.map_append,ih]
      congr 1
      unfold shRuns
      rw [List.map_map,List.map_map]
      rfl
theorem form_disj {S:Int → Int → Prop} {out:List Rect} (h:IsForm S out):out.Pairwise fun r s=>∀ x y,rin r x y → ¬ rin s x y:=by
  obtain ⟨G,h1,h2,h3,rfl⟩:=h
  unfold flatG
  rw [List.pairwise_flatMap]
  refine ⟨fun g hg=>?_,?_⟩
  · obtain ⟨a, b, c⟩ := g
    rw [List.pairwise_map]
    refine (canon_pairwise (h2 a b c hg)).imp fun hab x y hr hs=>?_
    unfold rin at hr hs
    dsimp only at hr hs
    omega
  · refine (canon_pairwise h1).imp fun hab r hr s hs x y h4 h5 => ?_
    obtain ⟨u,_,rfl⟩:=List.mem_map.1 hr
    obtain ⟨w,_,rfl⟩:=List.mem_map.1 hs
    unfold rin at h4 h5
    dsimp only at h4 h5
    omega
theorem box_ind (a b c d:Int) (M:Nat):sumN (fun x=>sumN (fun y=>indP ((a ≤ (x:Int)∧(x:Int) < b)∧c ≤ (y:Int)∧(y:Int) < d)) M) M = max 0 (min b M - max a 0) * max 0 (min d M - max c 0):=by
  have e : ∀ x:Nat,sumN (fun y=>indP ((a ≤ (x:Int)∧(x:Int) < b)∧c ≤ (y:Int)∧(y:Int) < d)) M = (max 0 (min d M - max c 0)) * indP (a ≤ (x:Int)∧(x:Int) < b):=by
    intro x
    by_cases h:a ≤ (x:Int)∧(x:Int) < b
    · rw [indP_t h, Int.mul_one, ← sumN_iv]
      exact sumN_congr fun y _=>indP_c (and_iff_right h)
    · rw [indP_f h, Int.mul_zero]
      exact sumN_z fun y _=>indP_f fun h'=>h h'.1
  rw [sumN_congr fun x _=>e x,sumN_mul,sumN_iv,Int.mul_comm]
/-- the cells that two rectangles have in common -/
def capA (g r:Rect):Int:=if comm g r then (min g.X1 r.X1 - max g.X0 r.X0) * (min g.Y1 r.Y1 - max g.Y0 r.Y0) else 0
theorem area_ind {r:Rect} (h:VR r) {M:Nat} (hM:M = 1048576):(r.X1 - r.X0) * (r.Y1 - r.Y0) = sumN (fun x=>sumN (fun y=>indP (rin r x y)) M) M:=by
  unfold rin
  rw [box_ind]
  unfold VR at h
  congr 1 <;> omega
theorem capA_ind {g r:Rect} (hg:VR g) (h:VR r) {M:Nat} (hM:M = 1048576):capA g r = sumN (fun x=>sumN (fun y=>indP (rin g x y∧rin r x y)) M) M:=by
  have e:sumN (fun x=>sumN (fun y=>indP (rin g x y∧rin r x y)) M) M = sumN (fun x=>sumN (fun y=>indP ((max g.X0 r.X0 ≤ (x:Int)∧(x:Int) < min g.X1 r.X1)∧max g.Y0 r.Y0 ≤ (y:Int)∧(y:Int) < min g.Y1 r.Y1)) M) M:=by
    refine sumN_congr fun x _=>sumN_congr fun y _=>indP_c ?_
    unfold rin; omega
  rw [e,box_ind]
  unfold capA comm
  unfold VR at hg h
  by_cases c1:max g.X0 r.X0 < min g.X1 r.X1
  · by_cases c2 : max g.Y0 r.Y0 < min g.Y1 r.Y1
    · rw [decide_eq_true c1, decide_eq_true c2, if_pos (show (true && true) = true from rfl)]
      congr 1 <;> omega
    · rw [decide_eq_false c2,Bool.and_false,if_neg (by simp),show max 0 (min (min g.Y1 r.Y1) (M:Int) - max (max g.Y0 r.Y0) 0) = 0 by omega,Int.mul_zero]
  · rw [decide_eq_false c1,Bool.false_and,if_neg (by simp),show max 0 (min (min g.X1 r.X1) (M:Int) - max (max g.X0 r.X0) 0) = 0 by omega,Int.zero_mul]
theorem capA_bound {g r:Rect} (hg:VR g):0 ≤ capA g r∧capA g r ≤ 1099511627776:=by
  unfold capA
  split
  · rename_i h
    unfold comm at h
    rw [Bool.and_eq_true,decide_eq_true_iff,decide_eq_true_iff] at h
    unfold VR at hg
    exact ⟨Int.mul_nonneg (by omega) (by omega),Int.mul_le_mul (c:=1048576) (d:=1048576) (by omega) (by omega) (by omega) (by omega)⟩
  · decide
noncomputable def inA (g:Rect) (M:Nat) (l:List Rect):Int:=sumN (fun x=>sumN (fun y=>indP (rin g x y∧cells l x y)) M) M
theorem inA_sum {g:Rect} (hg:VR g) {M:Nat} (hM:M = 1048576) : ∀ {l:List Rect},(∀ r ∈ l,VR r) → (l.Pairwise fun r s=>∀ x y,rin r x y → ¬ rin s x y) → sumL (capA g) l = inA g M l
  | [], _, _ => by
    symm
    exact sumN_z fun x _=>sumN_z fun y _=>indP_f (by simp [cells])
  | r :: l, hv, hp => by
    rw [List.pairwise_cons] at hp
    rw [sumL,inA_sum hg hM (fun s hs=>hv s (by simp [hs])) hp.2,capA_ind hg (hv r (by simp)) hM]
    unfold inA
    rw [← sumN_add]
    refine sumN_congr fun x _=>?_
    rw [← sumN_add]
    refine sumN_congr fun y _=>?_
    by_cases h1:rin g x y
    · by_cases h2 : rin r x y
      · have h3 : ¬ cells l x y := fun ⟨s, hs, h⟩ => hp.1 s hs x y h2 h
        rw [indP_t ⟨h1,h2⟩,indP_f (fun h=>h3 h.2),indP_t ⟨h1,r,by simp,h2⟩]; rfl
      · rw [indP_f (fun h => h2 h.2), Int.zero_add]
        refine indP_c (and_congr_right fun _=>⟨fun ⟨s,hs,h⟩=>⟨s,by simp [hs],h⟩,fun ⟨s,hs,h⟩=>?_⟩)
        rcases List.mem_cons.1 hs with rfl | hs
        · exact absurd h h2
        · exact ⟨s,hs,h⟩
    · rw [indP_f (fun h=>h1 h.1),indP_f (fun h=>h1 h.1),indP_f (fun h=>h1 h.1)]; rfl
theorem inA_full {g:Rect} {l:List Rect} {M:Nat} (hM:M = 1048576) (hg:VR g):inA g M l = (g.X1 - g.X0) * (g.Y1 - g.Y0) ↔ ∀ x y,rin g x y → cells l x y:=by
  have e:inA g M l + sumN (fun x=>sumN (fun y=>indP (rin g x y∧¬ cells l x y)) M) M = (g.X1 - g.X0) * (g.Y1 - g.Y0):=by
    rw [area_ind hg hM]
    unfold inA
    rw [← sumN_add]
    refine sumN_congr fun x _=>?_
    rw [← sumN_add]
    refine sumN_congr fun y _=>?_
    by_cases h1:rin g x y
    · by_cases h2 : cells l x y
      · rw [indP_t ⟨h1,h2⟩,indP_f (fun h=>h.2 h2),indP_t h1]; rfl
      · rw [indP_f (fun h=>h2 h.2),indP_t ⟨h1,h2⟩,indP_t h1]; rfl
    · rw [indP_f (fun h=>h1 h.1),indP_f (fun h=>h1 h.1),indP_f h1]; rfl
  rw [← e]
  constructor
  · intro h x y hxy
    have h0:sumN (fun x=>sumN (fun y=>indP (rin g x y∧¬ cells l x y)) M) M = 0:=by omega
    have hb:=hxy
    unfold rin at hb
    unfold VR at hg
    have h1:=sumN_zero_inv (fun x=>sumN_nonneg fun y _=>(indP_bounds _).1) h0 x.toNat (by omega)
    have h2:=sumN_zero_inv (fun y=>(indP_bounds _).1) h1 y.toNat (by omega)
    rw [Int.toNat_of_nonneg (by omega),Int.toNat_of_nonneg (by omega)] at h2
    by_cases h3:cells l x y
    · exact h3
    · rw [indP_t ⟨hxy,h3⟩] at h2; exact absurd h2 (by decide)
  · intro h
    rw [sumN_z fun x _=>sumN_z fun y _=>indP_f fun h'=>h'.2 (h _ _ h'.1),Int.add_zero]
/-- a rectangle with all cells within a distance -/
def grw (b:Rect) (n:Int):Rect:=⟨b.X0 - n,b.Y0 - n,b.X1 + n,b.Y1 + n⟩
/-- do all cells within a distance of a base lie in a region? -/
def SQ (a:List Rect) (b:Rect) (n:Int):Prop:=n ≤ 0 ∨ ∀ x y,rin (grw b n) x y → cells a x y
theorem SQ.anti {a:List Rect} {b:Rect} {m n:Int} (h:SQ a b n) (hm:m ≤ n):SQ a b m:=by
  rcases h with h | h
  · exact .inl (by omega)
  · refine .inr fun x y hxy => h x y ?_
    unfold rin grw at hxy ⊢
    dsimp only at hxy ⊢
    omega
theorem cells_grid {a:List Rect} (ha : ∀ r ∈ a,VR r) {x y:Int} (h:cells a x y):(0 ≤ x∧x < 1048576)∧0 ≤ y∧y < 1048576:=by
  obtain ⟨r,hr,h⟩:=h
  have:=ha r hr
  unfold VR at this
  unfold rin at h
  omega
theorem SQ_VR {a:List Rect} (ha : ∀ r ∈ a,VR r) {b:Rect} (hb:VR b) {n:Int} (hn:0 < n) (h:SQ a b n):VR (grw b n):=by
  rcases h with h | h
  · omega
  · unfold VR at hb
    have h1:=cells_grid ha (h (b.X0 - n) (b.Y0 - n) (by unfold rin grw; dsimp only; omega))
    have h2:=cells_grid ha (h (b.X1 + n - 1) (b.Y1 + n - 1) (by unfold rin grw; dsimp only; omega))
    unfold VR grw
    dsimp only
    omega
/-- The setback of bases in a region. -/
structure SB (a:List Rect) (l:List Rect) (B:Int):Prop where
  lo:0 ≤ B
  hi:B ≤ 1048576
  iff : ∀ n,0 ≤ n → n ≤ 1048576 → (n ≤ B ↔ ∀ b ∈ l,SQ a b n)
theorem SB.unique {a l m:List Rect} {B C:Int} (h:SB a l B) (g:SB a m C) (he : ∀ b,b ∈ l ↔ b ∈ m):B = C:=by
  have h1:=(g.iff B h.lo h.hi).2 fun b hb=>(h.iff B h.lo h.hi).1 (Int.le_refl _) b ((he b).2 hb)
  have h2:=(h.iff C g.lo g.hi).2 fun b hb=>(g.iff C g.lo g.hi).1 (Int.le_refl _) b ((he b).1 hb)
  omega
theorem SB.min {a l m:List Rect} {B C:Int} (h:SB a l B) (g:SB a m C):SB a (l ++ m) (min B C):=
  ⟨by have := h.lo; have := g.lo; omega, by have := h.hi; omega, fun n h0 h1 => by
    have e1:=h.iff n h0 h1
    have e2:=g.iff n h0 h1
    constructor
    · intro hn b hb
      rcases List.mem_append.1 hb with hb | hb
      · exact e1.1 (by omega) b hb
      · exact e2.1 (by omega) b hb
    · intro hq
      have:=e1.2 fun b hb=>hq b (by simp [hb])
      have:=e2.2 fun b hb=>hq b (by simp [hb])
      omega⟩
theorem SB_nil (a:List Rect):SB a [] 1048576:=⟨by decide,by decide,fun n _ h=>⟨fun _ _ hb=>by simp at hb,fun _=>h⟩⟩
theorem cells_shift (dx dy:Int) (a:List Rect) (x y:Int):cells (a.map (shR dx dy)) x y ↔ cells a (x - dx) (y - dy):=by
  unfold cells
  constructor
  · rintro ⟨r, hr, h⟩
    obtain ⟨s,hs,rfl⟩:=List.mem_map.1 hr
    refine ⟨s,hs,?_⟩
    unfold rin shR at h
    unfold rin
    dsimp only at h
    omega
  · rintro ⟨s, hs, h⟩
    refine ⟨_,List.mem_map.2 ⟨s,hs,rfl⟩,?_⟩
    unfold rin shR
    unfold rin at h
    dsimp only
    omega
theorem SQ_shift (dx dy:Int) (a:List Rect) (b:Rect) (n:Int):SQ (a.map (shR dx dy)) (shR dx dy b) n ↔ SQ a b n:=by
  unfold SQ
  refine or_congr Iff.rfl ⟨fun h x y hxy=>?_,fun h x y hxy=>?_⟩
  · have := h (x + dx) (y + dy) (by unfold rin grw shR; unfold rin grw at hxy; dsimp only at hxy ⊢; omega)
    rw [cells_shift,show x + dx - dx = x by omega,show y + dy - dy = y by omega] at this
    exact this
  · rw [cells_shift]
    exact h _ _ (by unfold rin grw shR at hxy; unfold rin grw; dsimp only at hxy ⊢; omega)
theorem SB_shift {a l:List Rect} {B C:Int} (dx dy:Int) (h:SB a l B) (g:SB (a.map (shR dx dy)) (l.map (shR dx dy)) C):B = C:=by
  have key : ∀ n,(∀ b ∈ l.map (shR dx dy),SQ (a.map (shR dx dy)) b n) ↔ ∀ b ∈ l,SQ a b n:=by
    intro n
    constructor
    · intro h b hb
      exact (SQ_shift dx dy a b n).1 (h _ (List.mem_map.2 ⟨b,hb,rfl⟩))
    · intro h b hb
      obtain ⟨c,hc,rfl⟩:=List.mem_map.1 hb
      exact (SQ_shift dx dy a c n).2 (h c hc)
  have h1:=(g.iff B h.lo h.hi).2 ((key B).2 ((h.iff B h.lo h.hi).1 (Int.le_refl _)))
  have h2:=(h.iff C g.lo g.hi).2 ((key C).1 ((g.iff C g.lo g.hi).1 (Int.le_refl _)))
  omega
theorem covM_eq {l out:List Rect} (hv : ∀ r ∈ out,VR r) (h:IsForm (cells l) out) {M:Nat} (hM:M = 1048576):covM l M = areaL out:=by
  classical
  rw [area_form h (M:=M) (fun r hr=>by have:=hv r hr; unfold VR at this; omega)]
  refine sumN_congr fun x _=>sumN_congr fun y _=>?_
  by_cases c:cells l x y
  · rw [indP_t ⟨by omega,c⟩,decide_eq_true c]; rfl
  · rw [indP_f (fun h=>c h.2),decide_eq_false c]; rfl
theorem VR_form {l out:List Rect} (hv : ∀ r ∈ l,VR r) (h:IsForm (cells l) out) : ∀ r ∈ out,VR r:=by
  intro r hr
  have h0:=form_rect h r hr
  have h1:=cells_grid hv ((h.cells r.X0 r.Y0).1 ⟨r,hr,by unfold rin; omega⟩)
  have h2:=cells_grid hv ((h.cells (r.X1 - 1) (r.Y1 - 1)).1 ⟨r,hr,by unfold rin; omega⟩)
  unfold VR
  omega
theorem form_of {l:List Rect} (hv : ∀ r ∈ l,VR r) (hl:l.length ≤ 400) : ∃ out,IsForm (cells l) out∧∀ r ∈ out,VR r:=by
  obtain ⟨out,h,_⟩:=region_Of_fine hv hl
  exact ⟨out,h,VR_form hv h⟩
theorem areaL_shift (dx dy:Int) (l:List Rect):areaL (l.map (shR dx dy)) = areaL l:=by
  unfold areaL
  rw [sumL_map]
  refine sumL_congr fun r _=>?_
  unfold shR
  dsimp only
  rw [show r.X1 + dx - (r.X0 + dx) = r.X1 - r.X0 by omega,show r.Y1 + dy - (r.Y0 + dy) = r.Y1 - r.Y0 by omega]
theorem covM_shift {l:List Rect} {M:Nat} (hM:M = 1048576) (dx dy:Int) (hl:l.length ≤ 400) (hv : ∀ r ∈ l,VR r) (hv' : ∀ r ∈ l.map (shR dx dy),VR r):covM (l.map (shR dx dy)) M = covM l M:=by
  obtain ⟨out,h,ho⟩:=form_of hv hl
  have h' : IsForm (cells (l.map (shR dx dy))) (out.map (shR dx dy)):=(form_shift dx dy h).congr fun x y=>(cells_shift dx dy l x y).symm
  rw [covM_eq (VR_form hv' h') h' hM,covM_eq ho h hM,areaL_shift]
end Go.Proofs.YtagkmlkhaekldaaGreat

namespace Go.Proofs.YtagkmlkhaekldaaGreat
open Go.Gb
set_option linter.unusedVariables false
set_option linter.unusedSimpArgs false
set_option linter.unusedSectionVars false
set_option linter.unusedVariables false
set_option linter.unusedSimpArgs false
set_option maxRecDepth 100000

def RV (v:Volume):Prop:=VR v.Box.Base∧0 ≤ v.Box.Z0∧v.Box.Z0 < v.Box.Z1∧v.Box.Z1 ≤ 4096∧0 ≤ v.Use∧v.Use ≤ 5∧0 ≤ v.Units∧v.Units ≤ 1048576∧(v.Units = 0 ∨ v.Use = 0)
instance (v:Volume):Decidable (RV v):=inferInstanceAs (Decidable (_∧_))
theorem RV.VB {v:Volume} (h:RV v):VB v.Box:=⟨h.1,h.2.1,h.2.2.1,h.2.2.2.1⟩
theorem rv_eq (v:Volume):drawing_RightVolume v = some (decide (RV v)):=by
  unfold drawing_RightVolume
  rw [rect_Right_eq,Option.bind_some]
  split
  · rename_i h
    congr 1; symm; rw [decide_eq_false_iff_not]; intro hr; unfold RV at hr
    simp [hr.1] at h; omega
  · rename_i h
    simp at h
    split
    · rename_i g
      congr 1; symm; rw [decide_eq_false_iff_not]; intro hr; unfold RV at hr
      simp at g; omega
    · rename_i g
      congr 1
      rw [Bool.eq_iff_iff]
      simp at g
      simp only [Bool.and_eq_true,decide_eq_true_eq]
      unfold RV
      constructor
      · intro hh
        exact ⟨h.1.1.1,by omega,by omega,by omega,by omega,by omega,by omega,by omega,by omega⟩
      · intro hh; omega
def allV (d:Drawing):List Volume:=d.Phases.flatMap (·.Volumes)
theorem flat_take_le {l:List Phase} (i:Nat):((l.take i).flatMap (·.Volumes)).length ≤ (l.flatMap (·.Volumes)).length:=by
  conv=>rhs; rw [← List.take_append_drop i l]
  rw [List.flatMap_append,List.length_append]; omega
theorem volumesM {d:Drawing} (hp:d.Phases.length ≤ 100000) (hl:(allV d).length ≤ 1000000) {n:Int} (hn:(d.Phases.length:Int) ≤ n):drawing_Volumes d 0 n = some (allV d):=by
  obtain ⟨f,h1,h2,h3⟩:=loop_up (body:=drawing_Volumes_L0 d 0 n) (fun i s=>s.2 = ((i:Nat):Int)∧s.1 = (d.Phases.take i).flatMap (·.Volumes)) d.Phases.length
    (fun f=>match f with | .ex _ s=>s.1 = allV d | _=>False) (fun i s hi ⟨hs,hI⟩=>by
      have hb:=flat_take_le (l:=d.Phases) (i + 1)
      have e:(d.Phases.take (i + 1)).flatMap (·.Volumes) = s.1 ++ d.Phases[i].Volumes:=by
        rw [List.take_succ_eq_append_getElem hi,List.flatMap_append,hI]; simp
      rw [e,List.length_append] at hb
      unfold allV at hl
      unfold drawing_Volumes_L0
      rw [hs,if_pos (by simpa using hi),getI_nat hi,Option.bind_some,if_pos (by simp; omega),appI_some (by omega),Option.bind_some,Option.bind_some,addI_one (by omega),Option.bind_some]
      exact .inl ⟨_,rfl,rfl,e.symm⟩) (fun s ⟨hs,hI⟩=>by
      unfold drawing_Volumes_L0
      rw [hs,if_neg (by simp)]
      rw [List.take_length] at hI
      exact ⟨_,rfl,trivial,hI⟩) ([],0) ⟨rfl,by simp⟩ (d.Phases.length + 1) (by omega)
  unfold drawing_Volumes
  rw [h1,Option.bind_some]
  cases f with
  | go _=>exact h2.elim
  | ret r=>exact h3.elim
  | ex _ s=>dsimp only at h3 ⊢; rw [h3]
theorem inter_eq {a b:Rect} (ha:VR a) (hb:VR b) : ∃ c,rect_Intersect a b = some (c,comm a b)∧(comm a b = true → VR c∧(c.X1 - c.X0) * (c.Y1 - c.Y0) = capA a b):=by
  unfold rect_Intersect
  rw [rect_Right_eq,Option.bind_some,decide_eq_true ha,if_neg (by simp),rect_Right_eq,Option.bind_some,decide_eq_true hb,Option.bind_some,if_neg (by simp),rect_checked_eq]
  by_cases h:VR ⟨max a.X0 b.X0,max a.Y0 b.Y0,min a.X1 b.X1,min a.Y1 b.Y1⟩
  · have hc : comm a b = true := by
      unfold VR at h
      unfold comm
      rw [Bool.and_eq_true,decide_eq_true_iff,decide_eq_true_iff]
      dsimp only at h
      omega
    rw [if_pos h,Option.bind_some]
    dsimp only
    refine ⟨_,by rw [hc],fun _=>⟨h,?_⟩⟩
    unfold capA
    rw [if_pos hc]
  · have hc : comm a b = false := by
      cases hc:comm a b
      · rfl
      · exfalso
        apply h
        unfold comm at hc
        rw [Bool.and_eq_true,decide_eq_true_iff,decide_eq_true_iff] at hc
        unfold VR at ha hb ⊢
        dsimp only
        omega
    rw [if_neg h,Option.bind_some]
    exact ⟨_,by rw [hc],fun h=>by rw [hc] at h; simp at h⟩
theorem grown_eq {b:Rect} (hb:VR b) {n:Int} (h0:0 ≤ n) (h1:n ≤ 1048576):measure_grown b n = some (grw b n,decide (VR (grw b n))):=by
  unfold measure_grown
  unfold VR at hb
  rw [subI_some (by unfold inI; omega),Option.bind_some,subI_some (by unfold inI; omega),Option.bind_some,addI_some (by unfold inI; omega),Option.bind_some,addI_some (by unfold inI; omega),Option.bind_some,rect_Right_eq]
  rfl
theorem inside_eq {s:MeasureSite} (ha:RR s.area) {b:Rect} (hb:VR b) {n:Int} (h0:0 < n) (h1:n ≤ 1048576) : ∃ c,measure_site_inside s b n = some c∧(c = true ↔ SQ s.area b n):=by
  unfold measure_site_inside
  rw [grown_eq hb (by omega) h1,Option.bind_some]
  dsimp only
  by_cases hg:VR (grw b n)
  · rw [decide_eq_true hg, if_neg (by simp)]
    have hl:=ha.2.1
    obtain ⟨f,k1,k2,k3⟩:=loop_up (body:=measure_site_inside_L0 s (grw b n,true)) (fun i t=>t.2 = ((i:Nat):Int)∧t.1 = sumL (capA (grw b n)) (s.area.take i)) s.area.length
      (fun f=>match f with | .ex _ t=>t.1 = sumL (capA (grw b n)) s.area | _=>False) (fun i t hi ⟨e,h⟩=>by
        have hv:=ha.1 _ (List.getElem_mem hi)
        obtain ⟨c,hc,hcc⟩:=inter_eq hg hv
        have hcb:=capA_bound (r:=s.area[i]) hg
        have hs1:=sumL_prefix (f:=capA (grw b n)) (l:=s.area) (fun x _=>(capA_bound hg).1) i
        have hs2:sumL (capA (grw b n)) (s.area.take i) ≤ 1099511627776 * i:=by
          have : ∀ (l:List Rect),sumL (capA (grw b n)) l ≤ 1099511627776 * l.length:=by
            intro l
            induction l with
            | nil=>simp [sumL]
            | cons r l ih=>rw [sumL,List.length_cons]; have:=(capA_bound (r:=r) hg).2; omega
          have h2:=this (s.area.take i)
          rw [List.length_take] at h2
          omega
        unfold measure_site_inside_L0
        rw [e,if_pos (by simpa using hi),getI_nat hi,Option.bind_some]
        dsimp only
        rw [hc,Option.bind_some]
        dsimp only
        have key:(if comm (grw b n) s.area[i] = true then (rect_Area c).bind fun x=>(addI t.1 x).bind fun y=>some y else some t.1) = some (sumL (capA (grw b n)) (s.area.take (i + 1))):=by
          rw [sumL_snoc hi]
          by_cases hm:comm (grw b n) s.area[i] = true
          · obtain ⟨q1, q2⟩ := hcc hm
            rw [if_pos hm,rect_Area_eq q1,Option.bind_some,q2,addI_some (by unfold inI; omega),Option.bind_some,h]
          · have : capA (grw b n) s.area[i] = 0 := by unfold capA; rw [if_neg hm]
            rw [if_neg hm,this,Int.add_zero,h]
        rw [key,Option.bind_some,addI_one (by omega)]
        exact .inl ⟨_,rfl,rfl,rfl⟩) (fun t ⟨e,h⟩=>by
        unfold measure_site_inside_L0
        rw [e,if_neg (by simp)]
        rw [List.take_length] at h
        exact ⟨_,rfl,trivial,h⟩) (0,0) ⟨rfl,rfl⟩ (s.area.length + 1) (by omega)
    rw [k1,Option.bind_some]
    cases f with
    | go _=>exact k2.elim
    | ret r=>exact k3.elim
    | ex _ t =>
      dsimp only at k3 ⊢
      rw [rect_Area_eq hg,Option.bind_some,k3]
      refine ⟨_,rfl,?_⟩
      rw [inA_sum hg rfl ha.1 (form_disj ha.2.2),beq_iff_eq,inA_full rfl hg]
      unfold SQ
      constructor
      · intro h; exact .inr h
      · rintro (h | h)
        · omega
        · exact h
  · rw [decide_eq_false hg, if_pos (by simp)]
    exact ⟨_,rfl,by simp; exact fun h=>hg (SQ_VR ha.1 hb h0 h)⟩
theorem quoI_pos {n m:Int} (h0:0 ≤ n) (hm:0 < m) (h:n ≤ 9223372036854775807):quoI n m = some (n / m):=by
  unfold quoI
  have e:n.tdiv m = n / m:=Int.tdiv_eq_ediv_of_nonneg h0
  have h1:0 ≤ n / m:=Int.ediv_nonneg h0 (by omega)
  have h2:n / m ≤ n:=Int.ediv_le_self m h0
  rw [e,if_pos ⟨by omega,by unfold inI; omega⟩]
theorem bs_loop {s:MeasureSite} (ha:RR s.area) {v:Volume} (hv:VR v.Box.Base) : ∀ (k:Nat) (lo hi:Int),0 ≤ lo → lo ≤ hi → hi ≤ 1048576 → hi - lo < ((2 ^ k:Nat):Int) → SQ s.area v.Box.Base lo →
    ∃ r,iterL (measure_site_setback_L1 s v) (k + 1) (lo,hi) = some (.ex 2 (r,r))∧lo ≤ r∧r ≤ hi∧SQ s.area v.Box.Base r∧∀ n,SQ s.area v.Box.Base n → n ≤ hi → n ≤ r
  | k, lo, hi, h0, h1, h2, h3, hq => by
    unfold iterL
    unfold measure_site_setback_L1
    by_cases c:lo < hi
    · rw [if_pos (by simpa using c)]
      dsimp only
      rw [addI_some (by unfold inI; omega),Option.bind_some,addI_some (by unfold inI; omega),Option.bind_some,quoI_pos (by omega) (by omega) (by omega),Option.bind_some]
      obtain ⟨b,hb,hbq⟩:=inside_eq ha hv (n:=(lo + hi + 1) / 2) (by omega) (by omega)
      rw [hb,Option.bind_some]
      have hk:0 < k:=by
        rcases Nat.eq_zero_or_pos k with rfl | h
        · simp at h3; omega
        · exact h
      obtain ⟨j,rfl⟩ : ∃ j,k = j + 1:=⟨k - 1,by omega⟩
      have hp:((2 ^ (j + 1):Nat):Int) = 2 * ((2 ^ j:Nat):Int):=by rw [Nat.pow_succ]; omega
      cases b with
      | true =>
        rw [if_pos rfl,Option.bind_some]
        dsimp only
        obtain ⟨r,g1,g2,g3,g4,g5⟩:=bs_loop ha hv j ((lo + hi + 1) / 2) hi (by omega) (by omega) h2 (by omega) (hbq.1 rfl)
        exact ⟨r,g1,by omega,g3,g4,g5⟩
      | false =>
        rw [if_neg (by simp),subI_some (by unfold inI; omega),Option.bind_some,Option.bind_some]
        dsimp only
        obtain ⟨r,g1,g2,g3,g4,g5⟩:=bs_loop ha hv j lo ((lo + hi + 1) / 2 - 1) h0 (by omega) (by omega) (by omega) hq
        refine ⟨r,g1,g2,by omega,g4,fun n hn hh=>?_⟩
        by_cases hc:(lo + hi + 1) / 2 ≤ n
        · exact absurd (hbq.2 (hn.anti hc)) (by simp)
        · exact g5 n hn (by omega)
    · rw [if_neg (by simpa using c)]
      have:lo = hi:=by omega
      subst this
      exact ⟨lo,rfl,Int.le_refl _,Int.le_refl _,hq,fun n _ h=>h⟩
theorem setback_eq {s:MeasureSite} (ha:RR s.area) (hv : ∀ v ∈ s.volumes,VR v.Box.Base) (hl:s.volumes.length ≤ 1000) : ∃ B,measure_site_setback s = some B∧SB s.area (s.volumes.map fun v=>v.Box.Base) B:=by
  obtain ⟨f,k1,k2,k3⟩:=loop_up (body:=measure_site_setback_L0 s) (fun i t=>t.2 = ((i:Nat):Int)∧SB s.area ((s.volumes.take i).map fun v=>v.Box.Base) t.1) s.volumes.length
    (fun f=>match f with | .ex _ t=>SB s.area (s.volumes.map fun v=>v.Box.Base) t.1 | _=>False) (fun i t hi ⟨e,h⟩=>by
      have hvi:=hv _ (List.getElem_mem hi)
      obtain ⟨r,g1,g2,g3,g4,g5⟩:=bs_loop ha hvi 24 0 t.1 (by omega) h.lo h.hi (by have:=h.hi; simp; omega) (.inl (by omega))
      unfold measure_site_setback_L0
      rw [e,if_pos (by simpa using hi),getI_nat hi,Option.bind_some,g1,Option.bind_some]
      dsimp only
      rw [addI_one (by omega)]
      refine .inl ⟨_,rfl,rfl,g2,by have:=h.hi; dsimp only; omega,fun n n0 n1=>?_⟩
      dsimp only
      rw [List.take_succ_eq_append_getElem hi,List.map_append]
      constructor
      · intro hn b hb
        rcases List.mem_append.1 hb with hb | hb
        · exact (h.iff n n0 n1).1 (by omega) b hb
        · simp at hb; subst hb; exact g4.anti hn
      · intro hq
        have h1:=(h.iff n n0 n1).2 fun b hb=>hq b (List.mem_append_left _ hb)
        exact g5 n (hq _ (by simp)) h1) (fun t ⟨e,h⟩=>by
      unfold measure_site_setback_L0
      rw [e,if_neg (by simp)]
      rw [List.take_length] at h
      exact ⟨_,rfl,trivial,h⟩) (1048576,0) ⟨rfl,SB_nil _⟩ (s.volumes.length + 1) (by omega)
  unfold measure_site_setback
  rw [k1,Option.bind_some]
  cases f with
  | go _=>exact k2.elim
  | ret r=>exact k3.elim
  | ex _ t=>exact ⟨_,rfl,k3⟩
theorem site_sum {s:MeasureSite} {f:Volume → Option Int} {g:Volume → Int} (hl:s.volumes.length ≤ 1000) (hf : ∀ v ∈ s.volumes,f v = some (g v)∧0 ≤ g v∧g v ≤ 4503599627370496):measure_site_sum s f = some (sumL g s.volumes):=by
  obtain ⟨f', k1, k2, k3⟩ := loop_up (body := measure_site_sum_L0 s f) (fun i t => t.2 = ((i : Nat) : Int) ∧ t.1 = sumL g (s.volumes.take i) ∧ 0 ≤ t.1 ∧ t.1 ≤ 4503599627370496 * i) s.volumes.length
    (fun f=>match f with | .ex _ t=>t.1 = sumL g s.volumes | _=>False) (fun i t hi ⟨e,h,hb0,hb⟩=>by
      obtain ⟨e1,e2,e3⟩:=hf _ (List.getElem_mem hi)
      unfold measure_site_sum_L0
      rw [e,if_pos (by simpa using hi),getI_nat hi,Option.bind_some,e1,Option.bind_some,addI_some (by unfold inI; omega),Option.bind_some,addI_one (by omega)]
      refine .inl ⟨_,rfl,rfl,?_,by dsimp only; omega,by dsimp only; omega⟩
      dsimp only
      rw [sumL_snoc hi,h]) (fun t ⟨e,h,_⟩=>by
      unfold measure_site_sum_L0
      rw [e,if_neg (by simp)]
      rw [List.take_length] at h
      exact ⟨_,rfl,trivial,h⟩) (0,0) ⟨rfl,rfl,by simp,by simp⟩ (s.volumes.length + 1) (by omega)
  unfold measure_site_sum
  rw [k1,Option.bind_some]
  cases f' with
  | go _=>exact k2.elim
  | ret r=>exact k3.elim
  | ex _ t=>dsimp only at k3 ⊢; rw [k3]
def maxL {α:Type} (g:α → Int):List α → Int
  | []=>0
  | x::l=>max (g x) (maxL g l)
theorem maxL_append {α:Type} (g:α → Int) : ∀ (l m:List α),maxL g (l ++ m) = max (maxL g l) (maxL g m)
  | [], m => by
    have:0 ≤ maxL g m:=by
      cases m with
      | nil=>exact Int.le_refl _
      | cons x m =>
        have : ∀ l:List α,0 ≤ maxL g l:=by
          intro l; induction l with
          | nil=>exact Int.le_refl _
          | cons y l ih=>rw [maxL]; omega
        exact this _
    rw [List.nil_append]; simp only [maxL]; omega
  | x::l,m=>by rw [List.cons_append,maxL,maxL_append g l m,maxL]; omega
theorem maxL_nonneg {α:Type} (g:α → Int) (l:List α):0 ≤ maxL g l:=by
  induction l with
  | nil=>exact Int.le_refl _
  | cons y l ih=>rw [maxL]; omega
theorem site_greatest {s:MeasureSite} {f:Volume → Option Int} {g:Volume → Int} (hl:s.volumes.length ≤ 1000) (hf : ∀ v ∈ s.volumes,f v = some (g v)):measure_site_greatest s f = some (maxL g s.volumes):=by
  obtain ⟨f', k1, k2, k3⟩ := loop_up (body := measure_site_greatest_L0 s f) (fun i t => t.2 = ((i : Nat) : Int) ∧ t.1 = maxL g (s.volumes.take i)) s.volumes.length
    (fun f=>match f with | .ex _ t=>t.1 = maxL g s.volumes | _=>False) (fun i t hi ⟨e,h⟩=>by
      have e1:=hf _ (List.getElem_mem hi)
      unfold measure_site_greatest_L0
      rw [e,if_pos (by simpa using hi),getI_nat hi,Option.bind_some,e1,Option.bind_some,addI_one (by omega)]
      refine .inl ⟨_,rfl,rfl,?_⟩
      dsimp only
      have:=maxL_nonneg g (s.volumes.take i)
      rw [List.take_succ_eq_append_getElem hi,maxL_append,h]
      simp only [maxL]
      omega) (fun t ⟨e,h⟩=>by
      unfold measure_site_greatest_L0
      rw [e,if_neg (by simp)]
      rw [List.take_length] at h
      exact ⟨_,rfl,trivial,h⟩) (0,0) ⟨rfl,rfl⟩ (s.volumes.length + 1) (by omega)
  unfold measure_site_greatest
  rw [k1,Option.bind_some]
  cases f' with
  | go _=>exact k2.elim
  | ret r=>exact k3.elim
  | ex _ t=>dsimp only at k3 ⊢; rw [k3]
end Go.Proofs.YtagkmlkhaekldaaGreat

