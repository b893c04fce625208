/- The plain part of the proof (no program in sight), part 1 -/
import Derived.Test.YtagkmlkhaekldaaGreatT2
namespace Go.Proofs.YtagkmlkhaekldaaGreat
open Go.Gb
set_option linter.unusedVariables false
structure Slab where
  Z0:Int
  Z1:Int
  Area:(List Rect)
  deriving DecidableEq,Inhabited
def solid_heights_L1 (x3667_0:(List Slab)) (s3669:(List Int) × Int):Option (Flow ((List Int) × Int) ((List Int))):=
  if (decide (s3669.2 < (x3667_0.length:Int))) then
    (getI x3667_0 s3669.2).bind fun x3674_0=>
    (appI s3669.1 ([x3674_0.Z0,x3674_0.Z1])).bind fun x3675_6=>
    (addI s3669.2 1).bind fun x3676_0=>
    some (.go (x3675_6,x3676_0))
  else
    some (.ex 2 (s3669.1,s3669.2))
def solid_heights_L0 (lists_:(List (List Slab))) (s3662:(List Int) × Int):Option (Flow ((List Int) × Int) ((List Int))):=
  if (decide (s3662.2 < (lists_.length:Int))) then
    (getI lists_ s3662.2).bind fun x3667_0=>
    (iterL (solid_heights_L1 x3667_0) (x3667_0.length + 1) (s3662.1,0)).bind fun f3686=>match f3686 with
      | .go _=>none
      | .ex _ s3687 =>
        (addI s3662.2 1).bind fun x3688_0=>
        some (.go (s3687.1,x3688_0))
      | .ret r3691=>some (.ret r3691)
  else
    some (.ex 0 (s3662.1,s3662.2))
def solid_heights (lists_:(List (List Slab))):Option ((List Int)):=
  (iterL (solid_heights_L0 lists_) (lists_.length + 1) (([]:List Int),0)).bind fun f3700=>match f3700 with
    | .go _=>none
    | .ex _ s3701 =>
      (sortInts s3701.1).bind fun x3702_1=>
      (compactInts x3702_1).bind fun x3703_1=>
      some x3703_1
    | .ret r3709=>some r3709
def region_Same (a_:(List Rect)) (b_:(List Rect)):Option (Bool):=
  (slices_Equal_Rect a_ b_).bind fun x3718_2=>
  some x3718_2
def solid_put (out_:(List Slab)) (x_:Slab):Option ((List Slab)):=
  if ((x_.Area.length:Int) == 0) then
    some out_
  else
    (subI (out_.length:Int) 1).bind fun x3728_2=>
    (if (decide (0 ≤ x3728_2)) then
      (getI out_ x3728_2).bind fun x3729_5=>
      some (x3729_5.Z1 == x_.Z0)
    else
      some false).bind fun x3729_11=>
    (if x3729_11 then
      (getI out_ x3728_2).bind fun x3729_15=>
      (region_Same x3729_15.Area x_.Area).bind fun x3729_20=>
      some x3729_20
    else
      some false).bind fun x3729_21=>
    if x3729_21 then
      (getI out_ x3728_2).bind fun x3730_4=>
      (some (out_.set (x3728_2).toNat ({ x3730_4 with Z1:=x_.Z1 }))).bind fun x3730_6=>
      some x3730_6
    else
      (appI out_ ([x_])).bind fun x3736_3=>
      some x3736_3
def solid_fits (out_:(List Slab)):Option ((List Slab) × Int):=
  if (decide (80 < (out_.length:Int))) then
    some (([]:List Slab),6)
  else
    some (out_,0)
def solid_Of_L0 (l_:(List Box)) (s3765:(List Slab) × Int):Option (Flow ((List Slab) × Int) ((List Slab) × Int)):=
  if (decide (s3765.2 < (l_.length:Int))) then
    (getI l_ s3765.2).bind fun x3770_0=>
    (rect_Right x3770_0.Base).bind fun x3771_2=>
    if ((((!x3771_2) || (decide (x3770_0.Z0 < 0))) || (decide (x3770_0.Z1 ≤ x3770_0.Z0))) || (decide (4096 < x3770_0.Z1))) then
      some (.ret (([]:List Slab),1))
    else
      (appI s3765.1 ([(⟨x3770_0.Z0,x3770_0.Z1,[]⟩:Slab)])).bind fun x3775_7=>
      (addI s3765.2 1).bind fun x3776_0=>
      some (.go (x3775_7,x3776_0))
  else
    some (.ex 0 (s3765.1,s3765.2))
def solid_Of_L2 (l_:(List Box)) (x3796_2:(List Int)) (s3799:(List Slab) × Int) (s3806:(List Rect) × Int):Option (Flow ((List Rect) × Int) ((List Slab) × Int)):=
  if (decide (s3806.2 < (l_.length:Int))) then
    (getI l_ s3806.2).bind fun x3811_0=>
    (getI x3796_2 s3799.2).bind fun x3812_4=>
    (if (decide (x3811_0.Z0 < x3812_4)) then
      (subI s3799.2 1).bind fun x3812_10=>
      (getI x3796_2 x3812_10).bind fun x3812_11=>
      some (decide (x3812_11 < x3811_0.Z1))
    else
      some false).bind fun x3812_16=>
    (if x3812_16 then
      (appI s3806.1 ([x3811_0.Base])).bind fun x3815_4=>
      some x3815_4
    else
      some s3806.1).bind fun s3813=>
    (addI s3806.2 1).bind fun x3819_0=>
    some (.go (s3813,x3819_0))
  else
    some (.ex 4 (s3806.1,s3806.2))
def solid_Of_L1 (l_:(List Box)) (x3796_2:(List Int)) (s3799:(List Slab) × Int):Option (Flow ((List Slab) × Int) ((List Slab) × Int)):=
  if (decide (s3799.2 < (x3796_2.length:Int))) then
    (iterL (solid_Of_L2 l_ x3796_2 s3799) (l_.length + 1) (([]:List Rect),0)).bind fun f3831=>match f3831 with
      | .go _=>none
      | .ex _ s3832 =>
        (region_Of s3832.1).bind fun x3833_1=>
        if (x3833_1.2 != 0) then
          some (.ret (([]:List Slab),x3833_1.2))
        else
          (subI s3799.2 1).bind fun x3838_3=>
          (getI x3796_2 x3838_3).bind fun x3838_4=>
          (getI x3796_2 s3799.2).bind fun x3838_8=>
          (solid_put s3799.1 (⟨x3838_4,x3838_8,x3833_1.1⟩:Slab)).bind fun x3838_12=>
          (addI s3799.2 1).bind fun x3839_1=>
          some (.go (x3838_12,x3839_1))
      | .ret r3849=>some (.ret r3849)
  else
    some (.ex 2 (s3799.1,s3799.2))
def solid_Of (l_:(List Box)):Option ((List Slab) × Int):=
  (iterL (solid_Of_L0 l_) (l_.length + 1) (([]:List Slab),0)).bind fun f3790=>match f3790 with
    | .go _=>none
    | .ex _ s3791 =>
      if (decide (200 < (l_.length:Int))) then
        some (([]:List Slab),6)
      else
        (solid_heights ([s3791.1])).bind fun x3796_2=>
        (iterL (solid_Of_L1 l_ x3796_2) (l_.length + x3796_2.length + ([]:List Slab).length + 1) (([]:List Slab),1)).bind fun f3859=>match f3859 with
          | .go _=>none
          | .ex _ s3860 =>
            (solid_fits s3860.1).bind fun x3861_1=>
            some (x3861_1.1,x3861_1.2)
          | .ret r3864=>some r3864
    | .ret r3875=>some r3875
def solid_Right_L0 (s_:(List Slab)) (s1678:Int):Option (Flow (Int) (Bool)):=
  if (decide (s1678 < (s_.length:Int))) then
    ((getI s_ s1678).bind fun x1688_1=>
    (if ((((decide (x1688_1.Z0 < 0)) || (decide (x1688_1.Z1 ≤ x1688_1.Z0))) || (decide (4096 < x1688_1.Z1))) || ((x1688_1.Area.length:Int) == 0)) then
      some true
    else
      (region_Right x1688_1.Area).bind fun x1689_24=>
      some (!x1689_24)).bind fun x1689_26=>
    if x1689_26 then
      some (.ret false)
    else
      if (s1678 == 0) then
        some (.go ())
      else
        (subI s1678 1).bind fun x1694_2=>
        (getI s_ x1694_2).bind fun x1694_3=>
        (if (decide (x1688_1.Z0 < x1694_3.Z1)) then
          some true
        else
          (if (x1694_3.Z1 == x1688_1.Z0) then
            (region_Same x1694_3.Area x1688_1.Area).bind fun x1695_16=>
            some x1695_16
          else
            some false).bind fun x1695_17=>
          some x1695_17).bind fun x1695_18=>
        if x1695_18 then
          some (.ret false)
        else
          some (.go ()):Option (Flow (Unit) (Bool))).bind fun f1712=>match f1712 with
      | .go _ =>
        (addI s1678 1).bind fun x1714_0=>
        some (.go x1714_0)
      | .ex _ _=>none
      | .ret r1717=>some (.ret r1717)
  else
    some (.ex 0 s1678)
def solid_Right (s_:(List Slab)):Option (Bool):=
  if (decide (80 < (s_.length:Int))) then
    some false
  else
    (iterL (solid_Right_L0 s_) (s_.length + 1) 0).bind fun f1722=>match f1722 with
      | .go _=>none
      | .ex _ _ =>
        some true
      | .ret r1727=>some r1727
end Go.Proofs.YtagkmlkhaekldaaGreat

namespace Go.Proofs.YtagkmlkhaekldaaGreat
open Go.Gb
set_option linter.unusedVariables false
set_option linter.unusedSimpArgs false
set_option linter.unusedSectionVars false
set_option linter.unusedVariables false
set_option linter.unusedSimpArgs false

/-- The cell (x, y) is in the rectangle. -/
def rin (r:Rect) (x y:Int):Prop:=(r.X0 ≤ x∧x < r.X1)∧r.Y0 ≤ y∧y < r.Y1
instance (r:Rect) (x y:Int):Decidable (rin r x y):=inferInstanceAs (Decidable (_∧_))
def cells (l:List Rect) (x y:Int):Prop:=∃ r ∈ l,rin r x y
def VR (r:Rect):Prop:=0 ≤ r.X0∧r.X0 < r.X1∧r.X1 ≤ 1048576∧0 ≤ r.Y0∧r.Y0 < r.Y1∧r.Y1 ≤ 1048576
instance (r:Rect):Decidable (VR r):=inferInstanceAs (Decidable (_∧_))
abbrev Col:=Runs Bool
def spanRuns (l:List RegionSpan):Col:=l.map fun s=>(s.from_,s.to_,true)
theorem spanRuns_append (a b:List RegionSpan):spanRuns (a ++ b) = spanRuns a ++ spanRuns b:=List.map_append
theorem spanRuns_inj : ∀ {a b:List RegionSpan},spanRuns a = spanRuns b → a = b
  | [],[],_=>rfl
  | [],_::_,h=>by simp [spanRuns] at h
  | _::_,[],h=>by simp [spanRuns] at h
  | ⟨f, t⟩ :: a, ⟨f', t'⟩ :: b, h => by
    simp only [spanRuns,List.map_cons,List.cons.injEq,Prod.mk.injEq] at h
    obtain ⟨⟨rfl,rfl,_⟩,h⟩:=h
    rw [spanRuns_inj (a:=a) (b:=b) h]
theorem rect_Right_eq (r:Rect):rect_Right r = some (decide (VR r)):=by
  unfold rect_Right
  congr 1
  rw [Bool.eq_iff_iff,decide_eq_true_iff]
  simp only [Bool.and_eq_true,decide_eq_true_eq]
  unfold VR
  constructor
  · rintro ⟨⟨⟨⟨⟨h1,h2⟩,h3⟩,h4⟩,h5⟩,h6⟩; exact ⟨h1,h2,h3,h4,h5,h6⟩
  · rintro ⟨h1,h2,h3,h4,h5,h6⟩; exact ⟨⟨⟨⟨⟨h1,h2⟩,h3⟩,h4⟩,h5⟩,h6⟩

/-! Merging intervals in the order of their beginnings. -/
def addIv (out:List RegionSpan) (s:RegionSpan):List RegionSpan:=
  match out.getLast? with
  | some t=>if s.from_ ≤ t.to_ then out.dropLast ++ [⟨t.from_,max t.to_ s.to_⟩] else out ++ [s]
  | none=>[s]
theorem addIv_spec {out:List RegionSpan} {s:RegionSpan} (hc:Canon false (spanRuns out)) (hs:s.from_ < s.to_) (hle : ∀ t ∈ out,t.from_ ≤ s.from_) :
    Canon false (spanRuns (addIv out s))∧(∀ y,rval false (spanRuns (addIv out s)) y = true ↔ rval false (spanRuns out) y = true ∨ (s.from_ ≤ y∧y < s.to_)) ∧
    (∀ t ∈ addIv out s,t.from_ ≤ s.from_)∧(addIv out s).length ≤ out.length + 1:=by
  rcases List.eq_nil_or_concat out with rfl | ⟨o,t,rfl⟩
  · refine ⟨⟨hs, by simp, trivial, trivial⟩, fun y => ?_, fun t ht => by simp [addIv] at ht; subst ht; exact Int.le_refl _, by simp [addIv]⟩
    simp [addIv,spanRuns,rval]
  · rw [List.concat_eq_append] at *
    have ht:=hle t (by simp)
    have e:spanRuns (o ++ [t]) = spanRuns o ++ [(t.from_,t.to_,true)]:=by simp [spanRuns]
    rw [e] at hc ⊢
    obtain ⟨h1,h2,h3⟩:=canon_last hc
    have h4:=canon_ends hc
    unfold addIv
    simp only [List.getLast?_append,List.getLast?_singleton,Option.some_or,List.dropLast_concat]
    split
    · rename_i hm
      rw [spanRuns_append]
      refine ⟨canon_snoc (canon_prefix hc) h3 (show t.from_ < max t.to_ s.to_ by omega) (by simp),fun y=>?_,fun u hu=>?_,by simp⟩
      · show rval false (spanRuns o ++ [(t.from_, max t.to_ s.to_, true)]) y = true ↔ _
        rw [rval_snoc h4,rval_snoc h4]
        by_cases a1:t.from_ ≤ y∧y < t.to_
        · rw [if_pos (by omega),if_pos a1]; simp
        · rw [if_neg a1]
          by_cases a2:t.from_ ≤ y∧y < max t.to_ s.to_
          · rw [if_pos a2]; simp; right; omega
          · rw [if_neg a2]
            constructor
            · exact .inl
            · rintro (h | h)
              · exact h
              · exact absurd (by omega) a2
      · rcases List.mem_append.1 hu with hu | hu
        · exact hle u (by simp [hu])
        · simp at hu; subst hu; exact ht
    · rename_i hm
      rw [spanRuns_append,e]
      have h5:EndsBy (spanRuns o ++ [(t.from_,t.to_,true)]) s.from_:=by
        intro r hr
        rcases List.mem_append.1 hr with hr | hr
        · have:=h4 r hr; omega
        · simp at hr; subst hr; show t.to_ ≤ _; omega
      refine ⟨canon_snoc hc (fun r hr=>by simp at hr; subst hr; exact .inl (by show t.to_ < _; omega)) hs (by simp),fun y=>?_,fun u hu=>?_,by simp⟩
      · show rval false ((spanRuns o ++ [(t.from_, t.to_, true)]) ++ [(s.from_, s.to_, true)]) y = true ↔ _
        rw [rval_snoc h5]
        by_cases a1:s.from_ ≤ y∧y < s.to_
        · rw [if_pos a1]; simp [a1]
        · rw [if_neg a1]; simp [a1]
      · rcases List.mem_append.1 hu with hu | hu
        · exact hle u hu
        · simp at hu; subst hu; exact Int.le_refl _
theorem addIv_fold : ∀ (r out:List RegionSpan),Canon false (spanRuns out) → (∀ s ∈ r,s.from_ < s.to_) → r.Pairwise (fun a b=>a.from_ ≤ b.from_) → (∀ t ∈ out,∀ s ∈ r,t.from_ ≤ s.from_) →
    Canon false (spanRuns (r.foldl addIv out))∧(∀ y,rval false (spanRuns (r.foldl addIv out)) y = true ↔ rval false (spanRuns out) y = true ∨ ∃ s ∈ r,s.from_ ≤ y∧y < s.to_)∧(r.foldl addIv out).length ≤ out.length + r.length
  | [],out,hc,_,_,_=>⟨hc,fun y=>by simp,by simp⟩
  | s :: r, out, hc, hs, hp, hle => by
    obtain ⟨h1,h2,h3,h4⟩:=addIv_spec hc (hs s (by simp)) (fun t ht=>hle t ht s (by simp))
    have hp':=List.pairwise_cons.1 hp
    obtain ⟨k1,k2,k3⟩:=addIv_fold r (addIv out s) h1 (fun t ht=>hs t (by simp [ht])) hp'.2 (fun t ht u hu=>by
      have:=h3 t ht; have:=hp'.1 u hu; omega)
    refine ⟨k1,fun y=>?_,by simp only [List.foldl_cons,List.length_cons]; omega⟩
    rw [List.foldl_cons,k2,h2]
    simp [or_assoc]

/-! The column of rectangles at x. -/
def colAt (l:List Rect) (x:Int):List RegionSpan:=(l.filter fun r=>decide (r.X0 ≤ x) && decide (x < r.X1)).map fun r=>⟨r.Y0,r.Y1⟩
theorem column_L0 {l:List Rect} {x:Int} (hl:l.length ≤ 100000) :
    iterL (region_column_L0 l x) (l.length + 1) (([]:List RegionSpan),0) = some (.ex 0 (colAt l x,(l.length:Int))):=by
  refine (iter_range (k:=0) (l:=l) (fun s i=>(s,i)) (fun s r=>if (decide (r.X0 ≤ x) && decide (x < r.X1)) then s ++ [⟨r.Y0,r.Y1⟩] else s) (fun i s=>s.length ≤ i) ?_ ?_ (Nat.zero_le _) (by omega)).1.trans ?_
  · intro i hi s hI
    constructor
    · unfold region_column_L0
      dsimp only
      rw [if_pos (by simpa using hi),getI_nat hi,Option.bind_some]
      split
      · rw [appI_some (by simp; omega),Option.bind_some,Option.bind_some,addI_one (by omega),Option.bind_some]
      · rw [Option.bind_some,addI_one (by omega),Option.bind_some]
    · split
      · simp; omega
      · omega
  · intro s _
    unfold region_column_L0
    dsimp only
    rw [if_neg (by simp)]
  · rw [foldl_filterMap (fun r : Rect => decide (r.X0 ≤ x) && decide (x < r.X1)) (fun r => (⟨r.Y0, r.Y1⟩ : RegionSpan))]
    rfl
theorem column_L1 {r:List RegionSpan} (hl:r.length ≤ 100000) :
    iterL (region_column_L1 r) (r.length + 1) (([]:List RegionSpan),0) = some (.ex 2 (r.foldl addIv [],(r.length:Int))):=by
  refine (iter_range (k:=2) (l:=r) (fun s i=>(s,i)) addIv (fun i s=>s.length ≤ i) ?_ ?_ (Nat.zero_le _) (by omega)).1
  · intro i hi s hI
    rcases List.eq_nil_or_concat s with rfl | ⟨o,t,rfl⟩
    · constructor
      · unfold region_column_L1
        dsimp only
        rw [if_pos (by simpa using hi),getI_nat hi,Option.bind_some,if_neg (by simp),Option.bind_some,if_neg (by simp),appI_some (by simp),Option.bind_some,Option.bind_some,addI_one (by omega),Option.bind_some]
        rfl
      · simp [addIv]
    · rw [List.concat_eq_append] at *
      have hol:o.length + 1 ≤ i:=by simpa using hI
      constructor
      · unfold region_column_L1
        dsimp only
        rw [if_pos (by simpa using hi),getI_nat hi,Option.bind_some,if_pos (by simp)]
        simp only [subI_len (l:=o) (x:=t) (by omega),getI_concat (l:=o) (x:=t) rfl,Option.bind_some]
        by_cases hm:r[i].from_ ≤ t.to_
        · rw [if_pos (by simpa using hm), set_concat (by simp), Option.bind_some, addI_one (by omega), Option.bind_some]
          simp [addIv,hm]
        · rw [if_neg (by simpa using hm), appI_some (by simp; omega), Option.bind_some, Option.bind_some, addI_one (by omega), Option.bind_some]
          simp [addIv,hm]
      · unfold addIv
        simp only [List.getLast?_append,List.getLast?_singleton,Option.some_or,List.dropLast_concat]
        split <;> simp <;> omega
  · intro s _
    unfold region_column_L1
    dsimp only
    rw [if_neg (by simp)]

/-- The canonical column of a list of rectangles at x. -/
structure IsCol (l:List Rect) (x:Int) (c:List RegionSpan):Prop where
  canon:Canon false (spanRuns c)
  val : ∀ y,rval false (spanRuns c) y = true ↔ cells l x y
  len:c.length ≤ l.length
theorem column_spec {l:List Rect} {x:Int} (hv : ∀ r ∈ l,VR r) (hl:l.length ≤ 100000) : ∃ c,region_column l x = some c∧IsCol l x c:=by
  have hcl:(colAt l x).length ≤ l.length:=by unfold colAt; rw [List.length_map]; exact List.length_filter_le _ _
  obtain ⟨r,hr,hp,hs⟩:=sortSpans_spec (l:=colAt l x) (by omega)
  have hrl:=hp.length_eq
  have hpos : ∀ s ∈ r,s.from_ < s.to_:=by
    intro s hs
    have:=hp.mem_iff.1 hs
    simp only [colAt,List.mem_map,List.mem_filter] at this
    obtain ⟨q,⟨hq,_⟩,rfl⟩:=this
    exact (hv q hq).2.2.2.2.1
  obtain ⟨h1,h2,h3⟩:=addIv_fold r [] trivial hpos hs (by simp)
  refine ⟨r.foldl addIv [],?_,h1,fun y=>?_,by simp at h3; omega⟩
  · unfold region_column
    rw [column_L0 hl,Option.bind_some]
    dsimp only
    rw [hr,Option.bind_some,column_L1 (by omega),Option.bind_some]
  · rw [h2]
    simp only [spanRuns,List.map_nil,rval,Bool.false_eq_true,false_or]
    constructor
    · rintro ⟨s, hs, h⟩
      have:=hp.mem_iff.1 hs
      simp only [colAt,List.mem_map,List.mem_filter,Bool.and_eq_true,decide_eq_true_eq] at this
      obtain ⟨q,⟨hq,hx⟩,rfl⟩:=this
      exact ⟨q,hq,hx,h⟩
    · rintro ⟨q, hq, hx, h⟩
      refine ⟨⟨q.Y0,q.Y1⟩,hp.mem_iff.2 ?_,h⟩
      simp only [colAt,List.mem_map,List.mem_filter,Bool.and_eq_true,decide_eq_true_eq]
      exact ⟨q,⟨hq,hx⟩,rfl⟩
theorem IsCol.unique {l l' : List Rect} {x x' : Int} {c c' : List RegionSpan} (h:IsCol l x c) (h' : IsCol l' x' c') (he : ∀ y,cells l x y ↔ cells l' x' y):c = c':=by
  refine spanRuns_inj (canon_unique h.canon h'.canon fun y=>?_)
  rw [Bool.eq_iff_iff,h.val,h'.val,he]
end Go.Proofs.YtagkmlkhaekldaaGreat

namespace Go.Proofs.YtagkmlkhaekldaaGreat
open Go.Gb
set_option linter.unusedVariables false
set_option linter.unusedSimpArgs false
set_option linter.unusedSectionVars false
set_option linter.unusedVariables false
set_option linter.unusedSimpArgs false

/-! The list of rectangles that runs of columns stand for. -/
def flatG (G:Runs Col):List Rect:=G.flatMap fun g=>g.2.2.map fun s=>⟨g.1,s.1,g.2.1,s.2.1⟩
theorem flatG_append (G H:Runs Col):flatG (G ++ H) = flatG G ++ flatG H:=List.flatMap_append
theorem flatG_one (a b:Int) (c:List RegionSpan):flatG [(a,b,spanRuns c)] = c.map fun s=>⟨a,s.from_,b,s.to_⟩:=by
  simp [flatG,spanRuns]
/-- The list is the form of the set of cells. -/
def IsForm (S:Int → Int → Prop) (out:List Rect):Prop:=
  ∃ G:Runs Col,Canon [] G∧(∀ a b c,(a,b,c) ∈ G → Canon false c)∧(∀ x y,rval false (rval [] G x) y = true ↔ S x y)∧out = flatG G
theorem canon_at {G:Runs Col} (h : ∀ a b c,(a,b,c) ∈ G → Canon false c) (x:Int):Canon false (rval [] G x):=by
  rcases rval_mem (e:=[]) (l:=G) (x:=x) with h1 | ⟨a,b,h1,_⟩
  · rw [h1]; trivial
  · exact h _ _ _ h1
theorem IsForm.unique {S S' : Int → Int → Prop} {out out' : List Rect} (h:IsForm S out) (h' : IsForm S' out') (he : ∀ x y,S x y ↔ S' x y):out = out':=by
  obtain ⟨G,h1,h2,h3,rfl⟩:=h
  obtain ⟨G', k1, k2, k3, rfl⟩ := h'
  rw [canon_unique h1 k1 fun x=>canon_unique (canon_at h2 x) (canon_at k2 x) fun y=>?_]
  rw [Bool.eq_iff_iff,h3,k3,he]
theorem IsForm.congr {S S' : Int → Int → Prop} {out:List Rect} (h:IsForm S out) (he : ∀ x y,S x y ↔ S' x y):IsForm S' out:=by
  obtain ⟨G,h1,h2,h3,rfl⟩:=h
  exact ⟨G,h1,h2,fun x y=>(h3 x y).trans (he x y),rfl⟩
/-- The form has the cells of the set. -/
theorem rval_true_mem {c:Col} {y:Int}:rval false c y = true → ∃ a b,(a,b,true) ∈ c∧a ≤ y∧y < b:=by
  intro h
  rcases rval_mem (e:=false) (l:=c) (x:=y) with h1 | ⟨a,b,h1,h2⟩
  · rw [h] at h1; simp at h1
  · rw [h] at h1; exact ⟨a,b,h1,h2⟩
theorem IsForm.cells {S:Int → Int → Prop} {out:List Rect} (h:IsForm S out) (x y:Int):cells out x y ↔ S x y:=by
  obtain ⟨G,h1,h2,h3,rfl⟩:=h
  rw [← h3]
  constructor
  · rintro ⟨r, hr, hx, hy⟩
    simp only [flatG,List.mem_flatMap,List.mem_map] at hr
    obtain ⟨⟨a,b,c⟩,hg,⟨f,t,v⟩,hs,rfl⟩:=hr
    have hc:=h2 a b c hg
    have hv:v = true:=by
      have:=(canon_mem hc hs).2
      cases v <;> simp_all
    subst hv
    rw [rval_of_mem h1 hg hx.1 hx.2]
    exact rval_of_mem hc hs hy.1 hy.2
  · intro h
    obtain ⟨f,t,hs,hy1,hy2⟩:=rval_true_mem h
    rcases rval_mem (e:=[]) (l:=G) (x:=x) with h4 | ⟨a,b,h4,h5⟩
    · rw [h4] at hs; simp at hs
    · refine ⟨⟨a, f, b, t⟩, ?_, h5, hy1, hy2⟩
      simp only [flatG,List.mem_flatMap,List.mem_map]
      exact ⟨_,h4,_,hs,rfl⟩
theorem IsForm.self {S:Int → Int → Prop} {out:List Rect} (h:IsForm S out):IsForm (YtagkmlkhaekldaaGreat.cells out) out:=h.congr fun x y=>(h.cells x y).symm
theorem form_rect {S:Int → Int → Prop} {out:List Rect} (h:IsForm S out) : ∀ r ∈ out,r.X0 < r.X1∧r.Y0 < r.Y1:=by
  obtain ⟨G,h1,h2,h3,rfl⟩:=h
  intro r hr
  simp only [flatG,List.mem_flatMap,List.mem_map] at hr
  obtain ⟨⟨a,b,c⟩,hg,⟨f,t,v⟩,hs,rfl⟩:=hr
  exact ⟨(canon_mem h1 hg).1,(canon_mem (h2 a b c hg) hs).1⟩
theorem form_nil:IsForm (fun _ _=>False) []:=⟨[],trivial,by simp,by simp [rval],rfl⟩

/-! Strips -/
def stripRuns (l:List RegionStrip):Runs Col:=l.map fun s=>(s.x0,s.x1,spanRuns s.column)
/-- Strips without gaps, of canonical columns. -/
structure Gapless (l:List RegionStrip):Prop where
  pos : ∀ s ∈ l,s.x0 < s.x1
  next : ∀ i (h:i + 1 < l.length),(l[i]'(by omega)).x1 = l[i + 1].x0
  col : ∀ s ∈ l,Canon false (spanRuns s.column)

theorem equal_span_L0 {a b:List RegionSpan} (hl:a.length = b.length) (hb:a.length ≤ 1000000) :
    ∃ f,iterL (slices_Equal_span_L0 a b) (a.length + 1) 0 = some f∧((a = b∧∃ s,f = .ex 0 s) ∨ (a ≠ b∧f = .ret false)):=by
  have hs : ∀ i (hi:i < (a.zip b).length),((a.zip b)[i].1 ≠ (a.zip b)[i].2∧slices_Equal_span_L0 a b (i:Int) = some (.ret false)) ∨
      (¬ ((a.zip b)[i].1 ≠ (a.zip b)[i].2)∧slices_Equal_span_L0 a b (i:Int) = some (.go ((i + 1:Nat):Int))):=by
    intro i hi
    simp only [List.length_zip] at hi
    have h1:i < a.length:=by omega
    have h2:i < b.length:=by omega
    unfold slices_Equal_span_L0
    rw [if_pos (by simpa using h1)]
    simp only [getI_nat h1,getI_nat h2,Option.bind_some,List.getElem_zip]
    by_cases he:a[i] = b[i]
    · right
      rw [if_neg (by simpa using he)]
      simp only [addI_one (show i < 4611686018427387904 by omega),Option.bind_some]
      exact ⟨by simpa using he,trivial⟩
    · left
      rw [if_pos (by simpa using he)]
      exact ⟨he,rfl⟩
  have hd:slices_Equal_span_L0 a b ((a.zip b).length:Int) = some (.ex 0 ((a.zip b).length:Int)):=by
    have e:((a.zip b).length:Int) = (a.length:Int):=by simp; omega
    rw [e]
    unfold slices_Equal_span_L0
    rw [if_neg (by simp)]
  rcases iter_find (l:=a.zip b) (body:=slices_Equal_span_L0 a b) (k:=0) (fun p=>p.1 ≠ p.2) (fun _=>false) hs hd (fuel:=a.length + 1) (by simp; omega) with ⟨i,hi,hp,_,h⟩ | ⟨hp,h⟩
  · refine ⟨_, h, .inr ⟨fun e => ?_, rfl⟩⟩
    subst e
    simp at hp
  · refine ⟨_, h, .inl ⟨?_, _, rfl⟩⟩
    refine List.ext_getElem hl fun i h1 h2=>?_
    have:=hp (a[i],b[i]) (by
      rw [List.mem_iff_getElem]
      exact ⟨i,by simp; omega,by simp⟩)
    simpa using this
theorem equal_span {a b:List RegionSpan} (hb:a.length ≤ 1000000):slices_Equal_span a b = some (decide (a = b)):=by
  unfold slices_Equal_span
  by_cases hl:a.length = b.length
  · rw [if_neg (by simp [hl])]
    obtain ⟨f,hf,h⟩:=equal_span_L0 hl hb
    rw [hf,Option.bind_some]
    rcases h with ⟨h1,s,rfl⟩ | ⟨h1,rfl⟩ <;> simp [h1]
  · rw [if_pos (by simp; omega)]
    congr 1
    symm
    rw [decide_eq_false_iff_not]
    intro e; exact hl (by rw [e])

theorem ends_take {l:List RegionStrip} (h:Gapless l) : ∀ i (hi:i < l.length),EndsBy (stripRuns (l.take i)) l[i].x0
  | 0,_=>by intro r hr; simp [stripRuns] at hr
  | i + 1, hi => by
    have ih:=ends_take h i (by omega)
    have hp:=h.pos l[i] (List.getElem_mem _)
    have hn:=h.next i hi
    intro r hr
    rw [List.take_succ_eq_append_getElem (by omega)] at hr
    simp only [stripRuns,List.map_append,List.map_cons,List.map_nil,List.mem_append,List.mem_singleton] at hr
    rcases hr with hr | hr
    · have:=ih r hr; omega
    · subst hr; show (l[i]'(by omega)).x1 ≤ _; omega
theorem rval_take {l:List RegionStrip} (h:Gapless l) {i:Nat} (hi:i < l.length) (x:Int) :
    rval [] (stripRuns (l.take (i + 1))) x = if l[i].x0 ≤ x∧x < l[i].x1 then spanRuns l[i].column else rval [] (stripRuns (l.take i)) x:=by
  rw [List.take_succ_eq_append_getElem hi]
  simp only [stripRuns,List.map_append,List.map_cons,List.map_nil]
  exact rval_snoc (ends_take h i hi) x

/-- The end of the strips from i on whose columns are that of strip i. -/
theorem write_L1 {l:List RegionStrip} (h:Gapless l) (hl:l.length ≤ 100000) (hc : ∀ s ∈ l,s.column.length ≤ 1000000) {i:Nat} (hi:i < l.length) (s:List Rect) {fuel:Nat} (hf:l.length < fuel) :
    ∃ k:Nat,iterL (region_write_L1 l (s,(i:Int))) fuel ((i + 1:Nat):Int) = some (.ex 2 (k:Int))∧∃ (hik:i < k) (hk:k ≤ l.length),
      (∀ x,rval [] (stripRuns (l.take k)) x = if l[i].x0 ≤ x∧x < (l[k - 1]'(by omega)).x1 then spanRuns l[i].column else rval [] (stripRuns (l.take i)) x) ∧
      (∀ hk' : k < l.length,l[k].column ≠ l[i].column):=by
  have key : ∀ m j,j + m = l.length → ∀ (hij:i < j) (hj:j ≤ l.length),
      (∀ x,rval [] (stripRuns (l.take j)) x = if l[i].x0 ≤ x∧x < (l[j - 1]'(by omega)).x1 then spanRuns l[i].column else rval [] (stripRuns (l.take i)) x) → ∀ fuel,m < fuel →
      ∃ k:Nat,iterL (region_write_L1 l (s,(i:Int))) fuel (j:Int) = some (.ex 2 (k:Int))∧∃ (hik:i < k) (hk:k ≤ l.length),
      (∀ x,rval [] (stripRuns (l.take k)) x = if l[i].x0 ≤ x∧x < (l[k - 1]'(by omega)).x1 then spanRuns l[i].column else rval [] (stripRuns (l.take i)) x) ∧
      (∀ hk' : k < l.length,l[k].column ≠ l[i].column):=by
    intro m
    induction m with
    | zero =>
      intro j hjm hij hj hr fuel hf
      obtain ⟨fuel,rfl⟩ : ∃ m,fuel = m + 1:=⟨fuel - 1,by omega⟩
      refine ⟨j,?_,hij,hj,hr,fun hk'=>absurd hk' (by omega)⟩
      have e:region_write_L1 l (s,(i:Int)) (j:Int) = some (.ex 2 (j:Int)):=by
        unfold region_write_L1
        dsimp only
        rw [if_neg (by simp; omega),Option.bind_some,if_neg (by simp)]
      simp only [iterL,e]
    | succ m ih =>
      intro j hjm hij hj hr fuel hf
      obtain ⟨fuel,rfl⟩ : ∃ m,fuel = m + 1:=⟨fuel - 1,by omega⟩
      have hjl:j < l.length:=by omega
      by_cases he:l[j].column = l[i].column
      · have e : region_write_L1 l (s, (i : Int)) (j : Int) = some (.go ((j + 1 : Nat) : Int)) := by
          unfold region_write_L1
          dsimp only
          rw [if_pos (by simp; omega)]
          simp only [getI_nat hjl,getI_nat hi,Option.bind_some,equal_span (hc _ (List.getElem_mem hjl))]
          rw [if_pos (by simpa using he),addI_one (by omega),Option.bind_some]
        simp only [iterL,e]
        refine ih (j + 1) (by omega) (by omega) (by omega) (fun x=>?_) fuel (by omega)
        rw [rval_take h hjl,hr x,he]
        have hn:(l[j - 1]'(by omega)).x1 = l[j].x0:=by
          have:=h.next (j - 1) (by omega)
          rw [this]; congr 2; omega
        have hp:=h.pos l[j] (List.getElem_mem _)
        have hlo : ∀ q (hq:q < l.length),i ≤ q → l[i].x0 ≤ l[q].x0:=by
          intro q
          induction q with
          | zero => intro hq hiq; have : i = 0 := by omega
                    subst this; exact Int.le_refl _
          | succ q ihq =>
            intro hq hiq
            rcases Nat.lt_or_ge q i with h' | h'
            · have : i = q + 1 := by omega
              subst this; exact Int.le_refl _
            · have := ihq (by omega) h'
              have h2:=h.pos (l[q]'(by omega)) (List.getElem_mem _)
              have h3:=h.next q hq
              omega
        have:=hlo j hjl (by omega)
        have e2:(l[j + 1 - 1]'(by omega)) = l[j]:=by congr 1
        rw [e2]
        by_cases c1:l[j].x0 ≤ x∧x < l[j].x1
        · rw [if_pos c1,if_pos (by omega)]
        · rw [if_neg c1]
          by_cases c2:l[i].x0 ≤ x∧x < (l[j - 1]'(by omega)).x1
          · rw [if_pos c2,if_pos (by omega)]
          · rw [if_neg c2,if_neg (by omega)]
      · refine ⟨j, ?_, hij, hj, hr, fun _ => he⟩
        have e:region_write_L1 l (s,(i:Int)) (j:Int) = some (.ex 2 (j:Int)):=by
          unfold region_write_L1
          dsimp only
          rw [if_pos (by simp; omega)]
          simp only [getI_nat hjl,getI_nat hi,Option.bind_some,equal_span (hc _ (List.getElem_mem hjl))]
          rw [if_neg (by simpa using he)]
        simp only [iterL,e]
  exact key (l.length - (i + 1)) (i + 1) (by omega) (by omega) (by omega) (fun x=>by
    rw [rval_take h hi]
    have e2:(l[i + 1 - 1]'(by omega)) = l[i]:=by congr 1
    rw [e2]) fuel (by omega)
end Go.Proofs.YtagkmlkhaekldaaGreat

namespace Go.Proofs.YtagkmlkhaekldaaGreat
open Go.Gb
set_option linter.unusedVariables false
set_option linter.unusedSimpArgs false
set_option linter.unusedSectionVars false
set_option linter.unusedVariables false
set_option linter.unusedSimpArgs false

theorem rval_past {V:Type} {e:V} : ∀ {l:Runs V} {n x:Int},EndsBy l n → n ≤ x → rval e l x = e
  | [],_,_,_,_=>rfl
  | (a, b, v) :: t, n, x, h, hx => by
    have:=h (a,b,v) (by simp)
    simp only at this
    simp only [rval]
    rw [if_neg (by omega)]
    exact rval_past (fun r hr=>h r (List.mem_cons_of_mem _ hr)) hx
theorem gapless_lo {l:List RegionStrip} (h:Gapless l) {i:Nat} (hi:i < l.length) : ∀ q (hq:q < l.length),i ≤ q → l[i].x0 ≤ l[q].x0
  | 0, hq, hiq => by have : i = 0 := by omega
                     subst this; exact Int.le_refl _
  | q + 1, hq, hiq => by
    rcases Nat.lt_or_ge q i with h' | h'
    · have : i = q + 1 := by omega
      subst this; exact Int.le_refl _
    · have := gapless_lo h hi q (by omega) h'
      have h2:=h.pos (l[q]'(by omega)) (List.getElem_mem _)
      have h3:=h.next q hq
      omega

theorem write_L2 {l:List RegionStrip} {i k:Nat} (hi:i < l.length) (hik:i < k) (hk:k ≤ l.length) (hl:l.length ≤ 100000) (hc:l[i].column.length ≤ 1000) (s:List Rect) {out:List Rect} (ho:out.length ≤ 1000000000) :
    iterL (region_write_L2 l (s,(i:Int)) (k:Int) l[i]) (l[i].column.length + 1) (out,0) =
      some (.ex 4 (out ++ l[i].column.map fun s=>⟨l[i].x0,s.from_,(l[k - 1]'(by omega)).x1,s.to_⟩,(l[i].column.length:Int))):=by
  refine (iter_range (k:=4) (l:=l[i].column) (fun s i=>(s,i)) (fun o s=>o ++ [⟨l[i].x0,s.from_,(l[k - 1]'(by omega)).x1,s.to_⟩]) (fun j o=>o.length ≤ 1000000000 + j) ?_ ?_ (by omega) (by omega)).1.trans ?_
  · intro j hj o hI
    constructor
    · unfold region_write_L2
      dsimp only
      rw [if_pos (by simpa using hj),getI_nat hj,Option.bind_some,getI_nat hi,Option.bind_some]
      simp only [subI_nat (show 0 < k by omega) (by omega),Option.bind_some,getI_nat (show k - 1 < l.length by omega)]
      rw [appI_some (by simp; omega),Option.bind_some,addI_one (by omega),Option.bind_some]
    · simp; omega
  · intro o _
    unfold region_write_L2
    dsimp only
    rw [if_neg (by simp)]
  · rw [foldl_flatMap (fun s : RegionSpan => [(⟨l[i].x0, s.from_, (l[k - 1]'(by omega)).x1, s.to_⟩ : Rect)])]
    simp [List.flatMap_singleton']
    rw [List.map_eq_flatMap]

theorem write_spec {l:List RegionStrip} (h:Gapless l) (hl:l.length ≤ 100000) (hc : ∀ s ∈ l,s.column.length ≤ 1000) :
    ∃ out,region_write l = some out∧∃ G:Runs Col,Canon [] G∧(∀ a b c,(a,b,c) ∈ G → Canon false c)∧(∀ x,rval [] G x = rval [] (stripRuns l) x)∧out = flatG G:=by
  refine Exists.elim (loop_down (body:=region_write_L0 l) (fun s=>∃ (i:Nat) (G:Runs Col),s.2 = (i:Int)∧i ≤ l.length∧s.1 = flatG G∧Canon [] G∧(∀ a b c,(a,b,c) ∈ G → Canon false c) ∧
      (∀ x,rval [] G x = rval [] (stripRuns (l.take i)) x)∧(∀ hi:i < l.length,EndsBy G l[i].x0∧Lst G l[i].x0 (spanRuns l[i].column))∧s.1.length ≤ 1000 * i)
    (fun s=>l.length - s.2.toNat) (fun f=>∃ s G,f = .ex 0 s∧s.1 = flatG G∧Canon [] G∧(∀ a b c,(a,b,c) ∈ G → Canon false c)∧(∀ x,rval [] G x = rval [] (stripRuns l) x)) ?_
    (([]:List Rect),0) ⟨0,[],rfl,Nat.zero_le _,rfl,trivial,by simp,fun x=>by simp [stripRuns],fun _=>⟨fun r hr=>by simp at hr,fun r hr=>by simp at hr⟩,by simp⟩ (l.length + ([]:List Rect).length + 1) (by simp)) ?_
  · rintro ⟨out, _⟩ ⟨i, G, rfl, hil, rfl, hG, hGc, hv, hE, hlen⟩
    dsimp only at *
    rcases Nat.lt_or_ge i l.length with hi | hi
    · left
      obtain ⟨k,hk,hik,hkl,hkv,hkn⟩:=write_L1 h hl (fun s hs=>by have:=hc s hs; omega) hi (flatG G) (fuel:=l.length + (flatG G).length + 1) (by omega)
      have h2:=write_L2 hi hik hkl hl (hc _ (List.getElem_mem hi)) (flatG G) (out:=flatG G) (by omega)
      obtain ⟨hE1,hE2⟩:=hE hi
      have hpos:l[i].x0 < (l[k - 1]'(by omega)).x1:=by
        have:=gapless_lo h hi (k - 1) (by omega) (by omega)
        have:=h.pos (l[k - 1]'(by omega)) (List.getElem_mem _)
        omega
      refine ⟨(flatG G ++ l[i].column.map fun s=>⟨l[i].x0,s.from_,(l[k - 1]'(by omega)).x1,s.to_⟩,(k:Int)),?_,?_,?_⟩
      · unfold region_write_L0
        dsimp only
        rw [if_pos (by simpa using hi),addI_one (by omega),Option.bind_some,hk,Option.bind_some]
        dsimp only
        rw [getI_nat hi,Option.bind_some,h2,Option.bind_some]
      · have hlen' : (flatG G ++ l[i].column.map fun s => (⟨l[i].x0, s.from_, (l[k - 1]'(by omega)).x1, s.to_⟩ : Rect)).length ≤ 1000 * k := by
          have:=hc _ (List.getElem_mem hi)
          simp; omega
        have hx : ∀ hk' : k < l.length,(l[k - 1]'(by omega)).x1 = l[k].x0:=fun hk'=>by
          have:=h.next (k - 1) (by omega)
          rw [this]; congr 2; omega
        by_cases hcol:l[i].column = []
        · refine ⟨k, G, rfl, hkl, by simp [hcol], hG, hGc, fun x => ?_, fun hk' => ⟨fun r hr => ?_, fun r hr => ?_⟩, hlen'⟩
          · rw [hkv, hv]
            split
            · rename_i hx
              rw [hcol,← hv,rval_past hE1 hx.1]; rfl
            · rfl
          · have:=hE1 r hr; have:=hx hk'; omega
          · have:=hE1 r (List.mem_of_getLast? hr); have:=hx hk'; exact .inl (by omega)
        · have hne : spanRuns l[i].column ≠ [] := fun e => hcol (spanRuns_inj (b := []) e)
          refine ⟨k,G ++ [(l[i].x0,(l[k - 1]'(by omega)).x1,spanRuns l[i].column)],rfl,hkl,?_,canon_snoc hG hE2 hpos hne,?_,fun x=>?_,fun hk'=>⟨fun r hr=>?_,fun r hr=>?_⟩,hlen'⟩
          · rw [flatG_append,flatG_one]
          · intro a b c hm
            rcases List.mem_append.1 hm with hm | hm
            · exact hGc a b c hm
            · simp only [List.mem_singleton, Prod.mk.injEq] at hm
              rw [hm.2.2]
              exact h.col _ (List.getElem_mem hi)
          · rw [rval_snoc hE1,hkv,hv]
          · have := hx hk'
            rcases List.mem_append.1 hr with hr | hr
            · have:=hE1 r hr; omega
            · simp only [List.mem_singleton] at hr; subst hr; show (l[k - 1]'(by omega)).x1 ≤ _; omega
          · simp at hr; subst hr
            exact .inr ⟨hx hk', fun e => hkn hk' (spanRuns_inj e.symm)⟩
      · dsimp only; simp only [Int.toNat_natCast]; omega
    · right
      obtain rfl:i = l.length:=by omega
      refine ⟨.ex 0 (flatG G,(l.length:Int)),?_,trivial,_,G,rfl,rfl,hG,hGc,fun x=>by rw [hv,List.take_length]⟩
      unfold region_write_L0
      dsimp only
      rw [if_neg (by simp)]
  · rintro f ⟨hf, _, s, G, rfl, h1, h2, h3, h4⟩
    refine ⟨s.1,?_,G,h2,h3,h4,h1⟩
    unfold region_write
    rw [hf,Option.bind_some]

/-! Strips of rectangles -/
theorem concat_Rect {ls:List (List Rect)} (hl:ls.flatten.length ≤ 1000000) (hn:ls.length ≤ 1000000):slices_Concat_Rect ls = some ls.flatten:=by
  have hle : ∀ i (hi:i < ls.length),(ls.take i).flatten.length + ls[i].length ≤ ls.flatten.length:=by
    intro i hi
    have e:ls.flatten = (ls.take i).flatten ++ (ls[i] ++ (ls.drop (i + 1)).flatten):=by
      conv=>lhs; rw [← List.take_append_drop i ls,List.drop_eq_getElem_cons hi]
      rw [List.flatten_append,List.flatten_cons]
    rw [e,List.length_append,List.length_append]; omega
  have htk : ∀ i (hi:i < ls.length),(ls.take (i + 1)).flatten = (ls.take i).flatten ++ ls[i]:=by
    intro i hi
    rw [List.take_succ_eq_append_getElem hi,List.flatten_append,List.flatten_cons,List.flatten_nil,List.append_nil]
  unfold slices_Concat_Rect
  obtain ⟨h1,h2⟩:=iter_range (k:=0) (l:=ls) (body:=slices_Concat_Rect_L0 ls) (fun (s:Int) i=>(s,i)) (fun s x=>s + x.length) (fun i s=>s = ((ls.take i).flatten.length:Int)) (by
    intro i hi s hI
    have:=hle i hi
    constructor
    · unfold slices_Concat_Rect_L0
      dsimp only
      rw [if_pos (by simpa using hi),getI_nat hi,Option.bind_some,addI_some (by unfold inI; omega),Option.bind_some,if_neg (by simp; omega),addI_one (by omega),Option.bind_some]
    · rw [htk i hi,hI]; simp) (by
    intro s _
    unfold slices_Concat_Rect_L0
    dsimp only
    rw [if_neg (by simp)]) (s0:=0) (by simp) (fuel:=ls.length + 1) (by omega)
  rw [h1,Option.bind_some]
  dsimp only
  rw [List.take_length] at h2
  rw [growI_some (by omega) (by omega),Option.bind_some]
  obtain ⟨h3,h4⟩:=iter_range (k:=2) (l:=ls) (body:=slices_Concat_Rect_L1 ls) (fun (s:List Rect) i=>(s,i)) (fun s x=>s ++ x) (fun i s=>s = (ls.take i).flatten) (by
    intro i hi s hI
    have:=hle i hi
    constructor
    · unfold slices_Concat_Rect_L1
      dsimp only
      rw [if_pos (by simpa using hi),getI_nat hi,Option.bind_some,appI_some (by rw [hI]; omega),Option.bind_some,addI_one (by omega),Option.bind_some]
    · rw [htk i hi,hI]) (by
    intro s _
    unfold slices_Concat_Rect_L1
    dsimp only
    rw [if_neg (by simp)]) (s0:=[]) (by simp) (fuel:=ls.length + 1) (by omega)
  rw [h3,Option.bind_some]
  dsimp only
  rw [h4,List.take_length]

/-- The numbers at which something begins or ends, in ascending order, each once. -/
structure IsCuts (xs:List Int) (l:List Rect):Prop where
  asc:xs.Pairwise fun a b=>a < b
  mem : ∀ x,x ∈ xs ↔ ∃ r ∈ l,x = r.X0 ∨ x = r.X1
  len:xs.length ≤ 2 * l.length
theorem asc_between : ∀ {xs:List Int} {a b x:Int},xs.Pairwise (fun a b=>a < b) → a ∈ xs → b ∈ xs → a ≤ x → x < b → ∃ i,∃ h:i + 1 < xs.length,xs[i] ≤ x∧x < xs[i + 1]
  | [],_,_,_,_,h,_,_,_=>by simp at h
  | [h],a,b,x,_,ha,hb,h1,h2=>by simp at ha hb; subst ha; subst hb; omega
  | h :: h2 :: t, a, b, x, hp, ha, hb, hax, hxb => by
    have hp':=List.pairwise_cons.1 hp
    rcases Int.lt_or_le x h2 with hx | hx
    · refine ⟨0, by simp, ?_, hx⟩
      rcases List.mem_cons.1 ha with rfl | ha
      · exact hax
      · have:=hp'.1 a ha; show h ≤ x; omega
    · have hb' : b ∈ h2 :: t := by
        rcases List.mem_cons.1 hb with rfl | hb
        · have:=hp'.1 h2 (by simp); omega
        · exact hb
      obtain ⟨i,hi,h3,h4⟩:=asc_between hp'.2 (a:=h2) (by simp) hb' hx hxb
      exact ⟨i + 1,by simp only [List.length_cons] at hi ⊢; omega,by simpa using h3,by simpa using h4⟩
theorem asc_gap {xs:List Int} (hp:xs.Pairwise fun a b=>a < b) {i:Nat} (h:i + 1 < xs.length) {z:Int} (hz:z ∈ xs):z ≤ xs[i] ∨ xs[i + 1] ≤ z:=by
  obtain ⟨j,hj,rfl⟩:=List.getElem_of_mem hz
  have hp:=List.pairwise_iff_getElem.1 hp
  rcases Nat.lt_or_ge i j with h1 | h1
  · right
    rcases Nat.lt_or_ge (i + 1) j with h2 | h2
    · exact Int.le_of_lt (hp (i + 1) j h hj h2)
    · have : j = i + 1 := by omega
      subst this; exact Int.le_refl _
  · left
    rcases Nat.lt_or_ge j i with h2 | h2
    · exact Int.le_of_lt (hp j i hj (by omega) h2)
    · have : j = i := by omega
      subst this; exact Int.le_refl _
theorem cells_between {l:List Rect} {xs:List Int} (hx:IsCuts xs l) {i:Nat} (h:i + 1 < xs.length) {x:Int} (h1:xs[i] ≤ x) (h2:x < xs[i + 1]) (y:Int):cells l xs[i] y ↔ cells l x y:=by
  refine exists_congr fun r=>and_congr_right fun hr=>?_
  unfold rin
  have g1:=asc_gap hx.asc h ((hx.mem r.X0).2 ⟨r,hr,.inl rfl⟩)
  have g2:=asc_gap hx.asc h ((hx.mem r.X1).2 ⟨r,hr,.inr rfl⟩)
  have g3:=(List.pairwise_iff_getElem.1 hx.asc) i (i + 1) (by omega) h (by omega)
  omega

structure StripsOf (l:List Rect) (out:List RegionStrip):Prop where
  gapless:Gapless out
  col : ∀ s ∈ out,IsCol l s.x0 s.column
  val : ∀ x y,rval false (rval [] (stripRuns out) x) y = true ↔ cells l x y
  len:out.length ≤ 2 * l.length
  same : ∀ s ∈ out,∀ x,s.x0 ≤ x → x < s.x1 → ∀ r ∈ l,(r.X0 ≤ x∧x < r.X1) ↔ (r.X0 ≤ s.x0∧s.x0 < r.X1)
  cover : ∀ r ∈ l,∀ x,r.X0 ≤ x → x < r.X1 → ∃ s ∈ out,s.x0 ≤ x∧x < s.x1
theorem rval_strips {l:List RegionStrip} (h:Gapless l) {i:Nat} (hi:i < l.length) {x:Int} (h1:l[i].x0 ≤ x) (h2:x < l[i].x1):rval [] (stripRuns l) x = spanRuns l[i].column:=by
  have key : ∀ m j,j + m = l.length → i < j → rval [] (stripRuns (l.take j)) x = rval [] (stripRuns l) x:=by
    intro m
    induction m with
    | zero=>intro j hj _; rw [show j = l.length by omega,List.take_length]
    | succ m ih =>
      intro j hj hij
      rw [← ih (j + 1) (by omega) (by omega),rval_take h (show j < l.length by omega),if_neg]
      have a1:=gapless_lo h (show i + 1 < l.length by omega) j (by omega) (by omega)
      have a2:=h.next i (by omega)
      omega
  rw [← key (l.length - (i + 1)) (i + 1) (by omega) (by omega),rval_take h hi,if_pos ⟨h1,h2⟩]

theorem strips_cuts {l:List Rect} (hl:l.length ≤ 100000) : ∃ ys xs zs,iterL (region_strips_L0 l) (l.length + 1) (([]:List Int),0) = some (.ex 0 (ys,(l.length:Int))) ∧
    sortInts ys = some zs∧compactInts zs = some xs∧IsCuts xs l:=by
  obtain ⟨h1,h2⟩:=iter_range (k:=0) (l:=l) (body:=region_strips_L0 l) (fun (s:List Int) i=>(s,i)) (fun s r=>s ++ [r.X0,r.X1]) (fun i s=>s.length = 2 * i) (by
    intro i hi s hI
    constructor
    · unfold region_strips_L0
      dsimp only
      rw [if_pos (by simpa using hi),getI_nat hi,Option.bind_some,appI_some (by simp; omega),Option.bind_some,addI_one (by omega),Option.bind_some]
    · simp; omega) (by
    intro s _
    unfold region_strips_L0
    dsimp only
    rw [if_neg (by simp)]) (s0:=[]) (by simp) (fuel:=l.length + 1) (by omega)
  rw [foldl_flatMap (fun r:Rect=>[r.X0,r.X1]),List.nil_append] at h1 h2
  obtain ⟨zs,h3,h4,h5⟩:=sortInts_spec (l:=l.flatMap fun r=>[r.X0,r.X1]) (by omega)
  have hzl:=h4.length_eq
  obtain ⟨xs,h6,h7,h8,h9⟩:=compactInts_spec (l:=zs) (by omega) h5
  refine ⟨_,xs,zs,h1,h3,h6,h7,fun x=>?_,by omega⟩
  rw [h8,h4.mem_iff]
  simp [List.mem_flatMap]

theorem strips_spec {ls:List (List Rect)} (hv : ∀ r ∈ ls.flatten,VR r) (hl:ls.flatten.length ≤ 100000) (hn:ls.length ≤ 1000) : ∃ out,region_strips ls = some out∧StripsOf ls.flatten out:=by
  unfold region_strips
  rw [concat_Rect (by omega) (by omega),Option.bind_some]
  generalize ls.flatten = l at hv hl
  obtain ⟨ys,xs,zs,h1,h2,h3,hx⟩:=strips_cuts hl
  rw [h1,Option.bind_some]
  dsimp only
  simp only [h2,h3,Option.bind_some]
  have hxl:=hx.len
  rcases Nat.eq_zero_or_pos xs.length with h0 | h0
  · have e : xs = [] := List.length_eq_zero_iff.1 h0
    subst e
    have hl0:l = []:=by
      cases l with
      | nil=>rfl
      | cons r l=>exact absurd ((hx.mem r.X0).2 ⟨r,by simp,.inl rfl⟩) (by simp)
    subst hl0
    refine ⟨[],rfl,⟨by simp,by simp,by simp⟩,by simp,by simp [stripRuns,rval,cells],by simp,by simp,by simp⟩
  · obtain ⟨out, h4, h5, h6⟩ := iter_from (k := 2) (body := region_strips_L1 l xs) (fun (s : List RegionStrip) i => (s, i)) 1 xs.length h0
      (fun i s=>s.length + 1 = i∧∀ j (hj:j < s.length) (hj' : j + 1 < xs.length),s[j].x0 = xs[j]∧s[j].x1 = xs[j + 1]∧IsCol l xs[j] s[j].column) (by
      intro i h1i hi s hI
      obtain ⟨hI1,hI2⟩:=hI
      obtain ⟨c,hc,hcol⟩:=column_spec (x:=xs[i - 1]'(by omega)) hv hl
      refine ⟨s ++ [⟨xs[i - 1]'(by omega),xs[i],c⟩],?_,by simp; omega,fun j hj hj'=>?_⟩
      · unfold region_strips_L1
        dsimp only
        rw [if_pos (by simpa using hi)]
        simp only [subI_nat (show 0 < i by omega) (by omega),Option.bind_some,getI_nat (show i - 1 < xs.length by omega),getI_nat hi,hc]
        rw [appI_some (by simp; omega),Option.bind_some,addI_one (by omega),Option.bind_some]
      · simp only [List.length_append, List.length_cons, List.length_nil] at hj
        rcases Nat.lt_or_ge j s.length with h | h
        · simp only [List.getElem_append_left h]
          exact hI2 j h hj'
        · have : j = s.length := by omega
          subst this
          simp only [List.getElem_concat_length]
          have e1:xs[i - 1]'(by omega) = xs[s.length]:=by congr 1; omega
          have e2:xs[i] = xs[s.length + 1]:=by congr 1; omega
          refine ⟨e1,e2,?_⟩
          rw [← e1]; exact hcol) (by
      intro s _
      unfold region_strips_L1
      dsimp only
      rw [if_neg (by simp)]) (s0:=[]) (by simp) (fuel:=l.length + xs.length + ([]:List RegionStrip).length + 1) (by simp; omega)
    have h4' : iterL (region_strips_L1 l xs) (l.length + xs.length + ([]:List RegionStrip).length + 1) (([]:List RegionStrip),1) = some (.ex 2 (out,(xs.length:Int))):=h4
    rw [h4', Option.bind_some]
    have hg:Gapless out:=by
      refine ⟨fun s hs=>?_,fun i hi=>?_,fun s hs=>?_⟩
      · obtain ⟨j, hj, rfl⟩ := List.getElem_of_mem hs
        obtain ⟨a1,a2,_⟩:=h6 j hj (by omega)
        rw [a1,a2]
        exact (List.pairwise_iff_getElem.1 hx.asc) j (j + 1) (by omega) (by omega) (by omega)
      · rw [(h6 i (by omega) (by omega)).2.1,(h6 (i + 1) hi (by omega)).1]
      · obtain ⟨j, hj, rfl⟩ := List.getElem_of_mem hs
        exact (h6 j hj (by omega)).2.2.canon
    refine ⟨out,rfl,hg,fun s hs=>?_,fun x y=>?_,by omega,fun s hs x c1 c2 r hr=>?_,fun r hr x c1 c2=>?_⟩
    · obtain ⟨j, hj, rfl⟩ := List.getElem_of_mem hs
      obtain ⟨a1,_,a3⟩:=h6 j hj (by omega)
      rw [a1]; exact a3
    · by_cases hs : ∃ i, ∃ h : i + 1 < xs.length, xs[i] ≤ x ∧ x < xs[i + 1]
      · obtain ⟨i, hi, b1, b2⟩ := hs
        obtain ⟨a1,a2,a3⟩:=h6 i (by omega) hi
        rw [rval_strips hg (show i < out.length by omega) (by omega) (by omega),a3.val,cells_between hx hi b1 b2]
      · constructor
        · intro h
          rcases rval_mem (e:=[]) (l:=stripRuns out) (x:=x) with h7 | ⟨a,b,h7,h8⟩
          · rw [h7] at h; simp [rval] at h
          · simp only [stripRuns, List.mem_map, Prod.mk.injEq] at h7
            obtain ⟨s, hs', e1, e2, _⟩ := h7
            obtain ⟨j,hj,rfl⟩:=List.getElem_of_mem hs'
            obtain ⟨a1,a2,_⟩:=h6 j hj (by omega)
            exact absurd ⟨j,by omega,by omega,by omega⟩ hs
        · rintro ⟨r, hr, hrx, hry⟩
          exact absurd (asc_between hx.asc ((hx.mem r.X0).2 ⟨r,hr,.inl rfl⟩) ((hx.mem r.X1).2 ⟨r,hr,.inr rfl⟩) hrx.1 hrx.2) hs
    · obtain ⟨j, hj, rfl⟩ := List.getElem_of_mem hs
      obtain ⟨a1,a2,_⟩:=h6 j hj (by omega)
      have g1:=asc_gap hx.asc (show j + 1 < xs.length by omega) ((hx.mem r.X0).2 ⟨r,hr,.inl rfl⟩)
      have g2:=asc_gap hx.asc (show j + 1 < xs.length by omega) ((hx.mem r.X1).2 ⟨r,hr,.inr rfl⟩)
      omega
    · obtain ⟨i, hi, b1, b2⟩ := asc_between hx.asc ((hx.mem r.X0).2 ⟨r, hr, .inl rfl⟩) ((hx.mem r.X1).2 ⟨r, hr, .inr rfl⟩) c1 c2
      obtain ⟨a1,a2,a3⟩:=h6 i (by omega) hi
      exact ⟨_,List.getElem_mem (show i < out.length by omega),by omega,by omega⟩
theorem write_form {l:List RegionStrip} (h:Gapless l) (hl:l.length ≤ 100000) (hc : ∀ s ∈ l,s.column.length ≤ 1000) {S:Int → Int → Prop} (hS : ∀ x y,rval false (rval [] (stripRuns l) x) y = true ↔ S x y) :
    ∃ out,region_write l = some out∧IsForm S out:=by
  obtain ⟨out,h1,G,h2,h3,h4,h5⟩:=write_spec h hl hc
  exact ⟨out,h1,G,h2,h3,fun x y=>by rw [h4,hS],h5⟩
end Go.Proofs.YtagkmlkhaekldaaGreat

namespace Go.Proofs.YtagkmlkhaekldaaGreat
open Go.Gb
set_option linter.unusedVariables false
set_option linter.unusedSimpArgs false
set_option linter.unusedSectionVars false
set_option linter.unusedVariables false
set_option linter.unusedSimpArgs false

theorem canon_starts {V:Type} {e:V} : ∀ {t:Runs V} {b:Int} {v:V},Canon e t → Nxt b v t → ∀ r ∈ t,b ≤ r.1
  | [],_,_,_,_,r,hr=>by simp at hr
  | (c, d, w) :: t, b, v, hc, hn, r, hr => by
    have hbc:b ≤ c:=by rcases hn with h | h <;> omega
    rcases List.mem_cons.1 hr with rfl | hr
    · exact hbc
    · have := canon_starts hc.2.2.2 hc.2.2.1 r hr
      have:=hc.1
      omega
theorem canon_pairwise {V:Type} {e:V} : ∀ {l:Runs V},Canon e l → l.Pairwise fun a b=>a.2.1 ≤ b.1
  | [],_=>.nil
  | (a,b,v)::t,h=>List.pairwise_cons.2 ⟨fun r hr=>canon_starts h.2.2.2 h.2.2.1 r hr,canon_pairwise h.2.2.2⟩
/-! Merging two columns -/
end Go.Proofs.YtagkmlkhaekldaaGreat

namespace Go.Proofs.YtagkmlkhaekldaaGreat
open Go.Gb
set_option linter.unusedVariables false
set_option linter.unusedSimpArgs false
set_option linter.unusedSectionVars false
set_option linter.unusedVariables false
set_option linter.unusedSimpArgs false

instance (l:List Rect) (x y:Int):Decidable (cells l x y):=inferInstanceAs (Decidable (∃ r ∈ l,rin r x y))
theorem equal_Rect_L0 {a b:List Rect} (hl:a.length = b.length) (hb:a.length ≤ 1000000) :
    ∃ f,iterL (slices_Equal_Rect_L0 a b) (a.length + 1) 0 = some f∧((a = b∧∃ s,f = .ex 0 s) ∨ (a ≠ b∧f = .ret false)):=by
  have hs : ∀ i (hi:i < (a.zip b).length),((a.zip b)[i].1 ≠ (a.zip b)[i].2∧slices_Equal_Rect_L0 a b (i:Int) = some (.ret false)) ∨
      (¬ ((a.zip b)[i].1 ≠ (a.zip b)[i].2)∧slices_Equal_Rect_L0 a b (i:Int) = some (.go ((i + 1:Nat):Int))):=by
    intro i hi
    simp only [List.length_zip] at hi
    have h1:i < a.length:=by omega
    have h2:i < b.length:=by omega
    unfold slices_Equal_Rect_L0
    rw [if_pos (by simpa using h1)]
    simp only [getI_nat h1,getI_nat h2,Option.bind_some,List.getElem_zip]
    by_cases he:a[i] = b[i]
    · right
      rw [if_neg (by simpa using he)]
      simp only [addI_one (show i < 4611686018427387904 by omega),Option.bind_some]
      exact ⟨by simpa using he,trivial⟩
    · left
      rw [if_pos (by simpa using he)]
      exact ⟨he,rfl⟩
  have hd:slices_Equal_Rect_L0 a b ((a.zip b).length:Int) = some (.ex 0 ((a.zip b).length:Int)):=by
    have e:((a.zip b).length:Int) = (a.length:Int):=by simp; omega
    rw [e]
    unfold slices_Equal_Rect_L0
    rw [if_neg (by simp)]
  rcases iter_find (l:=a.zip b) (body:=slices_Equal_Rect_L0 a b) (k:=0) (fun p=>p.1 ≠ p.2) (fun _=>false) hs hd (fuel:=a.length + 1) (by simp; omega) with ⟨i,hi,hp,_,h⟩ | ⟨hp,h⟩
  · refine ⟨_, h, .inr ⟨fun e => ?_, rfl⟩⟩
    subst e
    simp at hp
  · refine ⟨_, h, .inl ⟨?_, _, rfl⟩⟩
    refine List.ext_getElem hl fun i h1 h2=>?_
    have:=hp (a[i],b[i]) (by
      rw [List.mem_iff_getElem]
      exact ⟨i,by simp; omega,by simp⟩)
    simpa using this
theorem equal_Rect {a b:List Rect} (hb:a.length ≤ 1000000):slices_Equal_Rect a b = some (decide (a = b)):=by
  unfold slices_Equal_Rect
  by_cases hl:a.length = b.length
  · rw [if_neg (by simp [hl])]
    obtain ⟨f,hf,h⟩:=equal_Rect_L0 hl hb
    rw [hf,Option.bind_some]
    rcases h with ⟨h1,s,rfl⟩ | ⟨h1,rfl⟩ <;> simp [h1]
  · rw [if_pos (by simp; omega)]
    congr 1
    symm
    rw [decide_eq_false_iff_not]
    intro e; exact hl (by rw [e])
theorem region_Same_eq {a b:List Rect} (hb:a.length ≤ 1000000):region_Same a b = some (decide (a = b)):=by
  unfold region_Same
  rw [equal_Rect hb,Option.bind_some]

/-- The form, if it is not too long. -/
def lim (out:List Rect):List Rect × Int:=if 200 < out.length then ([],6) else (out,0)
theorem limited_eq (out:List Rect):region_limited out = some (lim out):=by
  unfold region_limited lim
  by_cases h:200 < out.length
  · rw [if_pos (by simp; omega),if_pos h]
  · rw [if_neg (by simp; omega),if_neg h]
theorem Of_check {l:List Rect} (hl:l.length ≤ 100000) :
    (¬ (∀ r ∈ l,VR r)∧iterL (region_Of_L0 l) (l.length + 1) 0 = some (.ret ([],1))) ∨ ((∀ r ∈ l,VR r)∧iterL (region_Of_L0 l) (l.length + 1) 0 = some (.ex 0 (l.length:Int))):=by
  rcases iter_find (l:=l) (body:=region_Of_L0 l) (k:=0) (fun r=>¬ VR r) (fun _=>(([]:List Rect),(1:Int))) (by
    intro i hi
    unfold region_Of_L0
    rw [if_pos (by simpa using hi)]
    simp only [getI_nat hi,Option.bind_some,rect_Right_eq]
    by_cases he:VR l[i]
    · right
      rw [if_neg (by simpa using he)]
      simp only [addI_one (show i < 4611686018427387904 by omega),Option.bind_some]
      exact ⟨fun h=>h he,trivial⟩
    · left
      rw [if_pos (by simpa using he)]
      exact ⟨he,rfl⟩) (by
    unfold region_Of_L0
    rw [if_neg (by simp)]) (fuel:=l.length + 1) (by omega) with ⟨i,hi,hp,_,h⟩ | ⟨hp,h⟩
  · exact .inl ⟨fun h'=>hp (h' _ (List.getElem_mem hi)),h⟩
  · exact .inr ⟨fun r hr=>Classical.not_not.1 (hp r hr),h⟩
theorem region_Of_bad {l:List Rect} (hl:l.length ≤ 100000) (h : ¬ ∀ r ∈ l,VR r):region_Of l = some ([],1):=by
  unfold region_Of
  rcases Of_check hl with ⟨_,h1⟩ | ⟨h1,_⟩
  · rw [h1,Option.bind_some]
  · exact absurd h1 h
theorem region_Of_many {l:List Rect} (hl:l.length ≤ 100000) (h : ∀ r ∈ l,VR r) (hm:400 < l.length):region_Of l = some ([],6):=by
  unfold region_Of
  rcases Of_check hl with ⟨h1,_⟩ | ⟨_,h1⟩
  · exact absurd h h1
  · rw [h1, Option.bind_some]
    dsimp only
    rw [if_pos (by simp; omega)]
theorem region_Of_fine {l:List Rect} (h : ∀ r ∈ l,VR r) (hm:l.length ≤ 400) : ∃ out,IsForm (cells l) out∧region_Of l = some (lim out):=by
  unfold region_Of
  rcases Of_check (l:=l) (by omega) with ⟨h1,_⟩ | ⟨_,h1⟩
  · exact absurd h h1
  · obtain ⟨st, h2, h3⟩ := strips_spec (ls := [l]) (by simpa using h) (by simp; omega) (by simp)
    rw [show [l].flatten = l by simp] at h3
    have hlen:=h3.len
    obtain ⟨out,h4,h5⟩:=write_form (S:=cells l) h3.gapless (by omega) (fun s hs=>by have:=(h3.col s hs).len; omega) h3.val
    refine ⟨out,h5,?_⟩
    rw [h1,Option.bind_some]
    dsimp only
    rw [if_neg (by simp; omega),h2,Option.bind_some,h4,Option.bind_some,limited_eq,Option.bind_some]

/-- The list is a region. -/
def RR (a:List Rect):Prop:=(∀ r ∈ a,VR r)∧a.length ≤ 200∧IsForm (cells a) a
theorem region_Right_spec {a:List Rect} (hl:a.length ≤ 100000) : ∃ b,region_Right a = some b∧(b = true ↔ RR a):=by
  unfold region_Right
  by_cases h : ∀ r ∈ a,VR r
  · rcases Nat.lt_or_ge 400 a.length with hm | hm
    · rw [region_Of_many hl h hm, Option.bind_some, if_neg (by simp), Option.bind_some]
      exact ⟨_,rfl,by simp,fun h=>absurd h.2.1 (by omega)⟩
    · obtain ⟨out, h1, h2⟩ := region_Of_fine h hm
      rw [h2,Option.bind_some]
      unfold lim
      by_cases h3:200 < out.length
      · rw [if_pos h3, if_neg (by simp), Option.bind_some]
        refine ⟨_,rfl,by simp,fun h=>?_⟩
        have:=h.2.2.unique h1 (fun _ _=>Iff.rfl)
        rw [this] at h
        exact absurd h.2.1 (by omega)
      · rw [if_neg h3]
        dsimp only
        rw [if_pos (by simp),equal_Rect (by omega),Option.bind_some,Option.bind_some]
        refine ⟨_,rfl,?_⟩
        simp only [decide_eq_true_eq]
        constructor
        · intro e
          rw [e] at h1 h3
          exact ⟨h,by omega,h1⟩
        · intro h4
          exact h1.unique h4.2.2 (fun _ _=>Iff.rfl)
  · rw [region_Of_bad hl h, Option.bind_some, if_neg (by simp), Option.bind_some]
    exact ⟨_,rfl,by simp,fun h'=>absurd h'.1 h⟩
theorem region_Right_true {a:List Rect} (h:RR a):region_Right a = some true:=by
  obtain ⟨b,h1,h2⟩:=region_Right_spec (a:=a) (by have:=h.2.1; omega)
  rw [h1,h2.2 h]
theorem region_Right_false {a:List Rect} (hl:a.length ≤ 100000) (h : ¬ RR a):region_Right a = some false:=by
  obtain ⟨b,h1,h2⟩:=region_Right_spec hl
  rw [h1]; cases b
  · rfl
  · exact absurd (h2.1 rfl) h
theorem RR.of_form {S:Int → Int → Prop} {out:List Rect} (h:IsForm S out) (hv : ∀ r ∈ out,VR r) (hl:out.length ≤ 200):RR out:=⟨hv,hl,h.self⟩
theorem RR_nil:RR []:=⟨by simp,by simp,form_nil.congr fun x y=>by simp [cells]⟩

/-! Combining -/
/-- The operations: 0: union, 1: intersection, 2: difference. -/
def opB (op:Int) (p q:Bool):Bool:=if op = 1 then p && q else if op = 2 then p && !q else p || q
theorem opB_false (op:Int):opB op false false = false:=by unfold opB; split <;> (try split) <;> rfl
def opS (op:Int) (a b:List Rect) (x y:Int):Prop:=opB op (decide (cells a x y)) (decide (cells b x y)) = true
end Go.Proofs.YtagkmlkhaekldaaGreat

namespace Go.Proofs.YtagkmlkhaekldaaGreat
open Go.Gb
set_option linter.unusedVariables false
set_option linter.unusedSimpArgs false
set_option linter.unusedSectionVars false
set_option linter.unusedVariables false
set_option linter.unusedSimpArgs false

/-! Columns as lists of numbers -/
def flatC (c:List RegionSpan):List Int:=c.flatMap fun s=>[s.from_,s.to_]
theorem flatC_append (a b:List RegionSpan):flatC (a ++ b) = flatC a ++ flatC b:=List.flatMap_append
theorem flatC_length (c:List RegionSpan):(flatC c).length = 2 * c.length:=by
  induction c with
  | nil=>rfl
  | cons s c ih=>simp only [flatC,List.flatMap_cons,List.length_append,List.length_cons,List.length_nil] at ih ⊢; omega
theorem flatC_inj : ∀ {a b:List RegionSpan},flatC a = flatC b → a = b
  | [],[],_=>rfl
  | [],_::_,h=>by simp [flatC] at h
  | _::_,[],h=>by simp [flatC] at h
  | ⟨f, t⟩ :: a, ⟨f', t'⟩ :: b, h => by
    simp only [flatC,List.flatMap_cons,List.cons_append,List.nil_append,List.cons.injEq] at h
    obtain ⟨rfl,rfl,h⟩:=h
    rw [flatC_inj (a:=a) (b:=b) h]
theorem flatC_get {c:List RegionSpan} {j:Nat} (h:j < c.length):getI (flatC c) (2 * (j:Int)) = some c[j].from_∧getI (flatC c) (2 * (j:Int) + 1) = some c[j].to_:=by
  induction c generalizing j with
  | nil=>simp at h
  | cons s c ih =>
    cases j with
    | zero=>simp [flatC,getI]
    | succ j =>
      obtain ⟨h1,h2⟩:=ih (j:=j) (by simpa using h)
      have e:flatC (s::c) = s.from_::s.to_::flatC c:=rfl
      have key : ∀ q:Int,0 ≤ q → getI (flatC (s::c)) (q + 2) = getI (flatC c) q:=by
        intro q hq
        unfold getI
        rw [if_pos (by omega),if_pos hq,e]
        have:(q + 2).toNat = q.toNat + 2:=by omega
        rw [this]; simp
      simp only [List.getElem_cons_succ]
      have e2:2 * ((j + 1:Nat):Int) = 2 * (j:Int) + 2:=by omega
      have e3:2 * ((j + 1:Nat):Int) + 1 = 2 * (j:Int) + 1 + 2:=by omega
      exact ⟨by rw [e2,key _ (by omega),h1],by rw [e3,key _ (by omega),h2]⟩

/-- How many of the numbers are at most y: is it odd? -/
def odd (p:List Int) (y:Int):Bool:=decide (p.countP (fun x=>decide (x ≤ y)) % 2 = 1)
theorem canon_flat : ∀ {c:List RegionSpan},Canon false (spanRuns c) → (flatC c).Pairwise fun a b=>a < b
  | [],_=>.nil
  | s :: c, h => by
    obtain ⟨h1,_,h3,h4⟩:=h
    have ih:=canon_flat (c:=c) h4
    have hst : ∀ x ∈ flatC c,s.to_ < x:=by
      intro x hx
      cases c with
      | nil=>simp [flatC] at hx
      | cons t c =>
        have h5 : s.to_ < t.from_ := by rcases h3 with h | ⟨_, h⟩
                                        · exact h
                                        · exact absurd rfl h
        have e:flatC (t::c) = t.from_::t.to_::flatC c:=rfl
        rw [e] at hx ih
        rcases List.mem_cons.1 hx with rfl | hx
        · exact h5
        · have:=(List.pairwise_cons.1 ih).1 x hx; omega
    have e:flatC (s::c) = s.from_::s.to_::flatC c:=rfl
    rw [e]
    have h1:s.from_ < s.to_:=h1
    refine List.pairwise_cons.2 ⟨fun x hx=>?_,List.pairwise_cons.2 ⟨hst,ih⟩⟩
    rcases List.mem_cons.1 hx with rfl | hx
    · exact h1
    · have:=hst x hx; omega
theorem count_none {p:List Int} {y:Int} (h : ∀ x ∈ p,y < x):p.countP (fun x=>decide (x ≤ y)) = 0:=by
  rw [List.countP_eq_zero]
  intro x hx
  have:=h x hx
  simp; omega
theorem rval_flat : ∀ {c:List RegionSpan},Canon false (spanRuns c) → ∀ y,rval false (spanRuns c) y = odd (flatC c) y
  | [],_,y=>rfl
  | s :: c, h, y => by
    have hp:=canon_flat h
    have e:flatC (s::c) = s.from_::s.to_::flatC c:=rfl
    have ih:=rval_flat (c:=c) h.2.2.2 y
    rw [e] at hp ⊢
    have hp1:=(List.pairwise_cons.1 hp).1
    have hp2:=List.pairwise_cons.1 (List.pairwise_cons.1 hp).2
    have h1:s.from_ < s.to_:=h.1
    show (if s.from_ ≤ y∧y < s.to_ then true else rval false (spanRuns c) y) = _
    rw [ih]
    unfold odd
    by_cases c1:y < s.from_
    · have z1 := count_none (p := s.from_ :: s.to_ :: flatC c) (y := y) (fun x hx => by
        rcases List.mem_cons.1 hx with rfl | hx
        · exact c1
        · have:=hp1 x hx; omega)
      have z2:=count_none (p:=flatC c) (y:=y) (fun x hx=>by have:=hp1 x (by simp [hx]); omega)
      rw [z1,z2,if_neg (by omega)]
    · by_cases c2 : y < s.to_
      · have z2 := count_none (p := flatC c) (y := y) (fun x hx => by have := hp2.1 x hx; omega)
        rw [if_pos (by omega)]
        simp only [List.countP_cons,z2]
        simp [c2,show s.from_ ≤ y by omega,show ¬ s.to_ ≤ y by omega]
      · rw [if_neg (by omega)]
        simp only [List.countP_cons]
        simp [show s.from_ ≤ y by omega,show s.to_ ≤ y by omega]
        omega
theorem unflat : ∀ (n:Nat) {p:List Int},p.length = 2 * n → p.Pairwise (fun a b=>a < b) → ∃ c,p = flatC c∧Canon false (spanRuns c)
  | 0,p,h,_=>⟨[],List.length_eq_zero_iff.1 (by omega),trivial⟩
  | n + 1,[],h,_=>by simp at h
  | n + 1,[_],h,_=>by simp at h; omega
  | n + 1, a :: b :: p, h, hp => by
    have hp1:=List.pairwise_cons.1 hp
    have hp2:=List.pairwise_cons.1 hp1.2
    obtain ⟨c,rfl,hc⟩:=unflat n (p:=p) (by simp at h; omega) hp2.2
    refine ⟨⟨a,b⟩::c,rfl,hp1.1 b (by simp),by simp,?_,hc⟩
    cases c with
    | nil=>trivial
    | cons s c=>exact .inl (hp2.1 s.from_ (by simp [flatC]))

/-! Shifting -/
theorem getI_shift {α:Type} {o:List α} {x:α} {m:Nat} (h0:0 < m) (h:m ≤ o.length):getI (o.take m ++ x::o.drop m) ((m - 1:Nat):Int) = some (o[m - 1]'(by omega)):=by
  rw [getI_nat (by simp; omega)]
  rw [List.getElem_append_left (by simp; omega)]
  simp
theorem getI_here {α:Type} {o:List α} {x:α} {m:Nat} (h:m ≤ o.length):getI (o.take m ++ x::o.drop m) (m:Int) = some x:=by
  rw [getI_nat (by simp; omega)]
  rw [List.getElem_append_right (by rw [List.length_take]; omega)]
  simp [Nat.min_eq_left h]
theorem set_shift {α:Type} {o:List α} {x:α} {m:Nat} (h0:0 < m) (h:m ≤ o.length) :
    (o.take m ++ x::o.drop m).set m (o[m - 1]'(by omega)) = o.take (m - 1) ++ (o[m - 1]'(by omega))::o.drop (m - 1):=by
  rw [List.set_append_right _ _ (by rw [List.length_take]; omega),List.length_take,Nat.min_eq_left h,Nat.sub_self,List.set_cons_zero]
  have e1:o.take m = o.take (m - 1) ++ [o[m - 1]'(by omega)]:=by
    have:=List.take_succ_eq_append_getElem (l:=o) (i:=m - 1) (by omega)
    rwa [show m - 1 + 1 = m by omega] at this
  have e2:o.drop (m - 1) = (o[m - 1]'(by omega))::o.drop m:=by
    have:=List.drop_eq_getElem_cons (l:=o) (i:=m - 1) (by omega)
    rwa [show m - 1 + 1 = m by omega] at this
  rw [e1,e2,List.append_assoc]; rfl
theorem set_here {α:Type} {o:List α} {x v:α} {m:Nat} (h:m ≤ o.length):(o.take m ++ x::o.drop m).set m v = o.take m ++ v::o.drop m:=by
  rw [List.set_append_right _ _ (by rw [List.length_take]; omega),List.length_take,Nat.min_eq_left h,Nat.sub_self,List.set_cons_zero]

/-! Sorted numbers, each once -/
theorem sorted_L1 {l:List Int} {o:List Int} {i:Nat} (hi:i < l.length) (hol:o.length ≤ 1000000) : ∀ (m:Nat) (hm:m ≤ o.length),(∀ j (hj:j < o.length),m ≤ j → l[i] < o[j]) → ∀ fuel,m < fuel →
    ∃ k:Nat,iterL (ref06_sorted_L1 l (o,(i:Int))) fuel (m:Int) = some (.ex 2 (k:Int))∧k ≤ m∧(∀ j (hj:j < o.length),k ≤ j → l[i] < o[j])∧(∀ hk:0 < k,∀ hk' : k - 1 < o.length,o[k - 1] ≤ l[i])
  | 0, hm, hj, fuel, hf => by
    obtain ⟨fuel,rfl⟩ : ∃ m,fuel = m + 1:=⟨fuel - 1,by omega⟩
    refine ⟨0,?_,Nat.le_refl _,hj,fun h=>absurd h (Nat.lt_irrefl _)⟩
    have e:ref06_sorted_L1 l (o,(i:Int)) ((0:Nat):Int) = some (.ex 2 ((0:Nat):Int)):=by
      unfold ref06_sorted_L1
      rw [if_neg (by simp),Option.bind_some,if_neg (by simp)]
    simp only [iterL,e]
  | m + 1, hm, hj, fuel, hf => by
    obtain ⟨fuel,rfl⟩ : ∃ m,fuel = m + 1:=⟨fuel - 1,by omega⟩
    have hml:m < o.length:=by omega
    by_cases hc:l[i] < o[m]
    · have e : ref06_sorted_L1 l (o, (i : Int)) ((m + 1 : Nat) : Int) = some (.go (m : Int)) := by
        unfold ref06_sorted_L1
        dsimp only
        rw [if_pos (by exact decide_eq_true (by omega)),subI_nat (by omega) (by omega),Option.bind_some,Nat.add_sub_cancel,getI_nat hml,Option.bind_some,getI_nat hi,Option.bind_some,Option.bind_some,if_pos (by simpa using hc),Option.bind_some]
      obtain ⟨k,h1,h2,h3,h4⟩:=sorted_L1 hi hol m (by omega) (fun j hj' hmj=>by
        rcases Nat.lt_or_ge m j with h | h
        · exact hj j hj' (by omega)
        · have : j = m := by omega
          subst this; exact hc) fuel (by omega)
      refine ⟨k,?_,by omega,h3,h4⟩
      simp only [iterL,e]; exact h1
    · have e : ref06_sorted_L1 l (o, (i : Int)) ((m + 1 : Nat) : Int) = some (.ex 2 ((m + 1 : Nat) : Int)) := by
        unfold ref06_sorted_L1
        dsimp only
        rw [if_pos (by exact decide_eq_true (by omega)),subI_nat (by omega) (by omega),Option.bind_some,Nat.add_sub_cancel,getI_nat hml,Option.bind_some,getI_nat hi,Option.bind_some,Option.bind_some,if_neg (by simpa using hc)]
      refine ⟨m + 1,?_,Nat.le_refl _,hj,fun _ _=>by simpa using hc⟩
      simp only [iterL,e]
theorem sorted_L2 {o:List Int} {k:Nat} (hol:o.length ≤ 1000000) (hk:k ≤ o.length) : ∀ (m:Nat) (x:Int),k ≤ m → m ≤ o.length → ∀ fuel,m - k < fuel →
    ∃ y,iterL (ref06_sorted_L2 (k:Int)) fuel (o.take m ++ x::o.drop m,(m:Int)) = some (.ex 4 (o.take k ++ y::o.drop k,(k:Int)))
  | 0, x, hkm, hm, fuel, hf => by
    obtain ⟨fuel,rfl⟩ : ∃ m,fuel = m + 1:=⟨fuel - 1,by omega⟩
    have:k = 0:=by omega
    subst this
    refine ⟨x,?_⟩
    have e:ref06_sorted_L2 ((0:Nat):Int) (o.take 0 ++ x::o.drop 0,((0:Nat):Int)) = some (.ex 4 (o.take 0 ++ x::o.drop 0,((0:Nat):Int))):=by
      unfold ref06_sorted_L2
      dsimp only
      rw [if_neg (by simp)]
    simp only [iterL,e]
  | m + 1, x, hkm, hm, fuel, hf => by
    obtain ⟨fuel,rfl⟩ : ∃ m,fuel = m + 1:=⟨fuel - 1,by omega⟩
    rcases Nat.lt_or_ge k (m + 1) with h | h
    · have e : ref06_sorted_L2 (k : Int) (o.take (m + 1) ++ x :: o.drop (m + 1), ((m + 1 : Nat) : Int)) = some (.go (o.take m ++ (o[m]'(by omega)) :: o.drop m, (m : Int))) := by
        unfold ref06_sorted_L2
        dsimp only
        rw [if_pos (by simp; omega),subI_nat (by omega) (by omega),Option.bind_some,getI_shift (by omega) hm,Option.bind_some,getI_here hm,Option.bind_some,Option.bind_some,Option.bind_some,Int.toNat_natCast,set_shift (by omega) hm]
        simp only [Nat.add_sub_cancel]
      obtain ⟨y,h1⟩:=sorted_L2 hol hk m (o[m]'(by omega)) (by omega) (by omega) fuel (by omega)
      refine ⟨y,?_⟩
      simp only [iterL,e]; exact h1
    · have : k = m + 1 := by omega
      subst this
      refine ⟨x,?_⟩
      have e:ref06_sorted_L2 ((m + 1:Nat):Int) (o.take (m + 1) ++ x::o.drop (m + 1),((m + 1:Nat):Int)) = some (.ex 4 (o.take (m + 1) ++ x::o.drop (m + 1),((m + 1:Nat):Int))):=by
        unfold ref06_sorted_L2
        dsimp only
        rw [if_neg (by simp)]
      simp only [iterL,e]
theorem asc_insert {o:List Int} {v:Int} {k:Nat} (hk:k ≤ o.length) (ho:o.Pairwise fun a b=>a < b) (h1 : ∀ j (hj:j < o.length),k ≤ j → v < o[j]) (h2 : ∀ j (hj:j < o.length),j < k → o[j] < v) :
    (o.take k ++ v::o.drop k).Pairwise fun a b=>a < b:=by
  rw [List.pairwise_append]
  refine ⟨ho.sublist (List.take_sublist _ _),List.pairwise_cons.2 ⟨fun x hx=>?_,ho.sublist (List.drop_sublist _ _)⟩,fun a ha b hb=>?_⟩
  · obtain ⟨j, hj, rfl⟩ := List.getElem_of_mem hx
    rw [List.getElem_drop]
    exact h1 _ _ (by omega)
  · obtain ⟨j, hj, rfl⟩ := List.getElem_of_mem ha
    rw [List.getElem_take]
    simp only [List.length_take] at hj
    have h3:=h2 j (by omega) (by omega)
    rcases List.mem_cons.1 hb with rfl | hb
    · exact h3
    · obtain ⟨q, hq, rfl⟩ := List.getElem_of_mem hb
      rw [List.getElem_drop]
      have:=h1 (k + q) (by simp at hq; omega) (by omega)
      omega
theorem sorted_spec {l:List Int} (hl:l.length ≤ 100000) : ∃ r,ref06_sorted l = some r∧r.Pairwise (fun a b=>a < b)∧(∀ x,x ∈ r ↔ x ∈ l)∧r.length ≤ l.length:=by
  obtain ⟨r,h1,h2,h3,h4⟩:=iter_rangeE (k:=0) (l:=l) (body:=ref06_sorted_L0 l) (fun (s:List Int) i=>(s,i))
    (fun i s=>s.length ≤ i∧s.Pairwise (fun a b=>a < b)∧∀ x,x ∈ s ↔ x ∈ l.take i) (by
    intro i hi o ⟨hI1,hI2,hI3⟩
    have htk:l.take (i + 1) = l.take i ++ [l[i]]:=List.take_succ_eq_append_getElem hi
    obtain ⟨k,h1,h2,h3,h4⟩:=sorted_L1 hi (o:=o) (by omega) o.length (Nat.le_refl _) (fun j hj hj'=>absurd hj (by omega)) (l.length + o.length + 1) (by omega)
    have hasc:=List.pairwise_iff_getElem.1 hI2
    have hno : ∀ s', (addI (i : Int) 1).bind (fun x => some (Flow.go (s', x) : Flow (List Int × Int) (List Int))) = some (.go (s', ((i + 1 : Nat) : Int))) := fun s' => by rw [addI_one (by omega), Option.bind_some]
    by_cases hd : ∃ hk:0 < k,o[k - 1]'(by omega) = l[i]
    · obtain ⟨hk, hd⟩ := hd
      refine ⟨o,?_,by omega,hI2,fun x=>?_⟩
      · unfold ref06_sorted_L0
        dsimp only
        rw [if_pos (by simpa using hi),h1,Option.bind_some]
        dsimp only
        rw [if_pos (by simp; omega),subI_nat hk (by omega),Option.bind_some,getI_nat (show k - 1 < o.length by omega),Option.bind_some,getI_nat hi,Option.bind_some,Option.bind_some,if_pos (by simpa using hd),Option.bind_some,hno]
      · rw [htk, List.mem_append, ← hI3]
        constructor
        · exact .inl
        · rintro (h | h)
          · exact h
          · simp only [List.mem_singleton] at h
            rw [h,← hd]; exact List.getElem_mem _
    · obtain ⟨y, h5⟩ := sorted_L2 (o := o) (k := k) (by omega) (by omega) o.length 0 (by omega) (Nat.le_refl _) (l.length + (o ++ [0]).length + 1) (by omega)
      rw [List.take_length,List.drop_length] at h5
      have hlt : ∀ j (hj:j < o.length),j < k → o[j] < l[i]:=by
        intro j hj hjk
        have h6:=h4 (by omega) (by omega)
        have h7:o[k - 1]'(by omega) ≠ l[i]:=fun e=>hd ⟨by omega,e⟩
        rcases Nat.lt_or_ge j (k - 1) with h | h
        · have:=hasc j (k - 1) hj (by omega) h; omega
        · have : j = k - 1 := by omega
          subst this; omega
      refine ⟨o.take k ++ l[i]::o.drop k,?_,by simp; omega,asc_insert (by omega) hI2 h3 hlt,fun x=>?_⟩
      · unfold ref06_sorted_L0
        dsimp only
        rw [if_pos (by simpa using hi),h1,Option.bind_some]
        dsimp only
        have hcond:(if (decide ((0:Int) < (k:Int))) = true then (subI (k:Int) 1).bind fun x=>(getI o x).bind fun y=>(getI l (i:Int)).bind fun z=>some (y == z) else some false) = some false:=by
          by_cases hk:0 < k
          · rw [if_pos (by simp; omega), subI_nat hk (by omega), Option.bind_some, getI_nat (show k - 1 < o.length by omega), Option.bind_some, getI_nat hi, Option.bind_some]
            congr 1
            simpa using fun e=>hd ⟨hk,e⟩
          · rw [if_neg (by simp; omega)]
        rw [hcond,Option.bind_some,if_neg (by simp),appI_some (by simp; omega),Option.bind_some]
        have esub:subI ((o ++ [(0:Int)]).length:Int) 1 = some (o.length:Int):=subI_len (by omega)
        rw [esub,Option.bind_some,h5,Option.bind_some]
        dsimp only
        rw [getI_nat hi,Option.bind_some,getI_here (by omega),Option.bind_some,Option.bind_some,Int.toNat_natCast,set_here (by omega),Option.bind_some,hno]
      · rw [htk, List.mem_append (s := l.take i), ← hI3]
        conv=>rhs; rw [← List.take_append_drop k o]
        simp only [List.mem_append,List.mem_cons,List.mem_singleton,List.not_mem_nil,or_false]
        constructor
        · rintro (h | h | h)
          · exact .inl (.inl h)
          · exact .inr h
          · exact .inl (.inr h)
        · rintro ((h | h) | h)
          · exact .inl h
          · exact .inr (.inr h)
          · exact .inr (.inl h)) (by
    intro s _
    unfold ref06_sorted_L0
    dsimp only
    rw [if_neg (by simp)]) (s0:=[]) ⟨by simp,.nil,by simp⟩ (fuel:=l.length + ([]:List Int).length + 1) (by simp)
  refine ⟨r,?_,h3,fun x=>by rw [h4,List.take_length],h2⟩
  unfold ref06_sorted
  rw [h1,Option.bind_some]
theorem edges_spec {a b:List Rect} (hl:(a ++ b).length ≤ 10000) : ∃ xs,ref06_edges a b = some xs∧IsCuts xs (a ++ b):=by
  simp only [List.length_append] at hl
  unfold ref06_edges
  obtain ⟨h1,h2⟩:=iter_range (k:=0) (l:=a) (body:=ref06_edges_L0 a) (fun (s:List Int) i=>(s,i)) (fun s r=>s ++ [r.X0,r.X1]) (fun i s=>s.length = 2 * i) (by
    intro i hi s hI
    constructor
    · unfold ref06_edges_L0
      dsimp only
      rw [if_pos (by simpa using hi),getI_nat hi,Option.bind_some,Option.bind_some,appI_some (by simp; omega),Option.bind_some,addI_one (by omega),Option.bind_some]
    · simp; omega) (by
    intro s _
    unfold ref06_edges_L0
    dsimp only
    rw [if_neg (by simp)]) (s0:=[]) (by simp) (fuel:=a.length + b.length + ([]:List Int).length + 1) (by simp; omega)
  rw [foldl_flatMap (fun r:Rect=>[r.X0,r.X1]),List.nil_append] at h1 h2
  rw [h1,Option.bind_some]
  dsimp only
  obtain ⟨h3,h4⟩:=iter_range (k:=2) (l:=b) (body:=ref06_edges_L1 b) (fun (s:List Int) i=>(s,i)) (fun s r=>s ++ [r.X0,r.X1]) (fun i s=>s.length = 2 * a.length + 2 * i) (by
    intro i hi s hI
    constructor
    · unfold ref06_edges_L1
      dsimp only
      rw [if_pos (by simpa using hi),getI_nat hi,Option.bind_some,Option.bind_some,appI_some (by simp; omega),Option.bind_some,addI_one (by omega),Option.bind_some]
    · simp; omega) (by
    intro s _
    unfold ref06_edges_L1
    dsimp only
    rw [if_neg (by simp)]) (s0:=a.flatMap fun r=>[r.X0,r.X1]) (by omega) (fuel:=b.length + (a.flatMap fun r=>[r.X0,r.X1]).length + 1) (by omega)
  rw [foldl_flatMap (fun r:Rect=>[r.X0,r.X1])] at h3 h4
  rw [h3,Option.bind_some]
  dsimp only
  obtain ⟨xs,h5,h6,h7,h8⟩:=sorted_spec (l:=(a.flatMap fun r=>[r.X0,r.X1]) ++ b.flatMap fun r=>[r.X0,r.X1]) (by omega)
  rw [h5,Option.bind_some]
  refine ⟨xs,rfl,h6,fun x=>?_,by rw [List.length_append («as»:=a)]; omega⟩
  rw [h7]
  simp only [List.mem_append,List.mem_flatMap,List.mem_cons,List.not_mem_nil,or_false]
  constructor
  · rintro (⟨r, hr, h⟩ | ⟨r, hr, h⟩)
    · exact ⟨r,.inl hr,h⟩
    · exact ⟨r,.inr hr,h⟩
  · rintro ⟨r, hr | hr, h⟩
    · exact .inl ⟨r,hr,h⟩
    · exact .inr ⟨r,hr,h⟩
end Go.Proofs.YtagkmlkhaekldaaGreat

namespace Go.Proofs.YtagkmlkhaekldaaGreat
open Go.Gb
set_option linter.unusedVariables false
set_option linter.unusedSimpArgs false
set_option linter.unusedSectionVars false
set_option linter.unusedVariables false
set_option linter.unusedSimpArgs false

theorem column_ins {l:List Rect} {F T:List Int} {s0:List Int × List Int × Int} {i:Nat} (hi:i < l.length) (hs0:s0.2.2 = (i:Int)) (hFT:F.length = T.length) (hol:F.length ≤ 1000000) : ∀ (m:Nat) (x y:Int),m ≤ F.length → (∀ j (hj:j < F.length),m ≤ j → l[i].Y0 < F[j]) → ∀ fuel,m < fuel →
    ∃ (k:Nat) (x' y' : Int),iterL (ref06_column_L1 l s0) fuel (F.take m ++ x::F.drop m,T.take m ++ y::T.drop m,(m:Int)) = some (.ex 2 (F.take k ++ x'::F.drop k,T.take k ++ y'::T.drop k,(k:Int)))∧k ≤ m ∧
      (∀ j (hj:j < F.length),k ≤ j → l[i].Y0 < F[j])∧(∀ hk:0 < k,∀ hk' : k - 1 < F.length,F[k - 1] ≤ l[i].Y0)
  | 0, x, y, hm, hj, fuel, hf => by
    obtain ⟨fuel,rfl⟩ : ∃ m,fuel = m + 1:=⟨fuel - 1,by omega⟩
    refine ⟨0,x,y,?_,Nat.le_refl _,hj,fun h=>absurd h (Nat.lt_irrefl _)⟩
    have e:ref06_column_L1 l s0 (F.take 0 ++ x::F.drop 0,T.take 0 ++ y::T.drop 0,((0:Nat):Int)) = some (.ex 2 (F.take 0 ++ x::F.drop 0,T.take 0 ++ y::T.drop 0,((0:Nat):Int))):=by
      unfold ref06_column_L1
      dsimp only
      rw [if_neg (by simp),Option.bind_some,if_neg (by simp)]
    simp only [iterL,e]
  | m + 1, x, y, hm, hj, fuel, hf => by
    obtain ⟨fuel,rfl⟩ : ∃ m,fuel = m + 1:=⟨fuel - 1,by omega⟩
    have hml:m < F.length:=by omega
    by_cases hc:l[i].Y0 < F[m]
    · have e : ref06_column_L1 l s0 (F.take (m + 1) ++ x :: F.drop (m + 1), T.take (m + 1) ++ y :: T.drop (m + 1), ((m + 1 : Nat) : Int)) =
          some (.go (F.take m ++ F[m]::F.drop m,T.take m ++ (T[m]'(by omega))::T.drop m,(m:Int))):=by
        unfold ref06_column_L1
        dsimp only
        have hT:=getI_shift (o:=T) (x:=y) (m:=m + 1) (by omega) (by omega)
        have hF:=getI_shift (o:=F) (x:=x) (m:=m + 1) (by omega) (by omega)
        have h1:=set_shift (o:=F) (x:=x) (m:=m + 1) (by omega) hm
        have h2:=set_shift (o:=T) (x:=y) (m:=m + 1) (by omega) (by omega)
        simp only [Nat.add_sub_cancel] at h1 h2 hT hF
        have hsub:subI ((m + 1:Nat):Int) 1 = some (m:Int):=by rw [subI_nat (by omega) (by omega)]; rfl
        rw [if_pos (by exact decide_eq_true (by omega)),hs0,hsub,Option.bind_some,hF,Option.bind_some,getI_nat hi,Option.bind_some,Option.bind_some,if_pos (by simpa using hc)]
        have hF':=getI_here (o:=F) (x:=x) (m:=m + 1) hm
        have hT':=getI_here (o:=T) (x:=y) (m:=m + 1) (by omega)
        simp only [Option.bind_some, hF, hF', hT, hT', Int.toNat_natCast, h1, h2]
      obtain ⟨k, x', y', h1, h2, h3, h4⟩ := column_ins hi hs0 hFT hol m F[m] (T[m]'(by omega)) (by omega) (fun j hj' hmj => by
        rcases Nat.lt_or_ge m j with h | h
        · exact hj j hj' (by omega)
        · have : j = m := by omega
          subst this; exact hc) fuel (by omega)
      refine ⟨k, x', y', ?_, by omega, h3, h4⟩
      simp only [iterL,e]; exact h1
    · have e : ref06_column_L1 l s0 (F.take (m + 1) ++ x :: F.drop (m + 1), T.take (m + 1) ++ y :: T.drop (m + 1), ((m + 1 : Nat) : Int)) =
          some (.ex 2 (F.take (m + 1) ++ x::F.drop (m + 1),T.take (m + 1) ++ y::T.drop (m + 1),((m + 1:Nat):Int))):=by
        unfold ref06_column_L1
        dsimp only
        rw [if_pos (by exact decide_eq_true (by omega)),hs0,subI_nat (by omega) (by omega),Option.bind_some,getI_shift (by omega) hm,Option.bind_some,getI_nat hi,Option.bind_some,Option.bind_some]
        simp only [Nat.add_sub_cancel]
        rw [if_neg (by simpa using hc)]
      refine ⟨m + 1,x,y,?_,Nat.le_refl _,hj,fun _ _=>by simpa using hc⟩
      simp only [iterL,e]
theorem sorted_insert {c:List RegionSpan} {v:RegionSpan} {k:Nat} (hk:k ≤ c.length) (ho:c.Pairwise fun a b=>a.from_ ≤ b.from_) (h1 : ∀ j (hj:j < c.length),k ≤ j → v.from_ < c[j].from_) (h2 : ∀ j (hj:j < c.length),j < k → c[j].from_ ≤ v.from_) :
    (c.take k ++ v::c.drop k).Pairwise fun a b=>a.from_ ≤ b.from_:=by
  rw [List.pairwise_append]
  refine ⟨ho.sublist (List.take_sublist _ _),List.pairwise_cons.2 ⟨fun x hx=>?_,ho.sublist (List.drop_sublist _ _)⟩,fun a ha b hb=>?_⟩
  · obtain ⟨j, hj, rfl⟩ := List.getElem_of_mem hx
    rw [List.getElem_drop]
    exact Int.le_of_lt (h1 _ _ (by omega))
  · obtain ⟨j, hj, rfl⟩ := List.getElem_of_mem ha
    rw [List.getElem_take]
    simp only [List.length_take] at hj
    have h3:=h2 j (by omega) (by omega)
    rcases List.mem_cons.1 hb with rfl | hb
    · exact h3
    · obtain ⟨q, hq, rfl⟩ := List.getElem_of_mem hb
      rw [List.getElem_drop]
      have:=h1 (k + q) (by simp at hq; omega) (by omega)
      omega
theorem column_r0 {l:List Rect} {x:Int} (hl:l.length ≤ 100000) : ∃ c:List RegionSpan,
    iterL (ref06_column_L0 l x) (l.length + ([]:List Int).length + ([]:List Int).length + 1) (([]:List Int),([]:List Int),0) = some (.ex 0 (c.map (fun s=>s.from_),c.map (fun s=>s.to_),(l.length:Int))) ∧
    c.Pairwise (fun a b=>a.from_ ≤ b.from_)∧(∀ s,s ∈ c ↔ s ∈ colAt l x)∧c.length ≤ l.length:=by
  obtain ⟨c,h1,h2,h3,h4⟩:=iter_rangeE (k:=0) (l:=l) (body:=ref06_column_L0 l x) (fun (c:List RegionSpan) (i:Int)=>(c.map (·.from_),c.map (·.to_),i))
    (fun i c=>c.length ≤ i∧c.Pairwise (fun a b=>a.from_ ≤ b.from_)∧∀ s,s ∈ c ↔ s ∈ colAt (l.take i) x) (by
    intro i hi c ⟨hI1,hI2,hI3⟩
    have htk:l.take (i + 1) = l.take i ++ [l[i]]:=List.take_succ_eq_append_getElem hi
    have hcol:colAt (l.take (i + 1)) x = colAt (l.take i) x ++ (if decide (l[i].X0 ≤ x) && decide (x < l[i].X1) then [⟨l[i].Y0,l[i].Y1⟩] else []):=by
      unfold colAt
      rw [htk,List.filter_append,List.map_append]
      congr 1
      by_cases h:(decide (l[i].X0 ≤ x) && decide (x < l[i].X1)) = true <;> simp [h,List.filter_cons]
    by_cases hout:x < l[i].X0 ∨ l[i].X1 ≤ x
    · refine ⟨c, ?_, by omega, hI2, fun s => ?_⟩
      · unfold ref06_column_L0
        dsimp only
        rw [if_pos (by simpa using hi),getI_nat hi,Option.bind_some,Option.bind_some]
        have hcond:(if decide (x < l[i].X0) = true then some true else some (decide (l[i].X1 ≤ x))) = some true:=by
          by_cases h:x < l[i].X0
          · rw [if_pos (by simpa using h)]
          · rw [if_neg (by simpa using h)]; congr 1; simpa using hout.resolve_left h
        rw [hcond,Option.bind_some,if_pos rfl,Option.bind_some,addI_one (by omega),Option.bind_some]
      · rw [hcol,if_neg (by simp; omega),List.append_nil,hI3]
    · have hin : l[i].X0 ≤ x ∧ x < l[i].X1 := by omega
      obtain ⟨k, x', y', h1, h2, h3, h4⟩ := column_ins (s0 := (c.map (fun s : RegionSpan => s.from_), c.map (fun s : RegionSpan => s.to_), (i : Int))) hi rfl (F := c.map fun s => s.from_) (T := c.map fun s => s.to_) (by simp) (by simp; omega) c.length 0 0 (by simp)
        (fun j hj hj'=>absurd hj (by simp; omega)) (l.length + (c.map (fun s:RegionSpan=>s.from_) ++ [0]).length + (c.map (fun s:RegionSpan=>s.to_) ++ [0]).length + 1) (by simp; omega)
      have e1:(c.map (·.from_)).take c.length = c.map (·.from_):=List.take_of_length_le (by simp)
      have e2:(c.map (·.to_)).take c.length = c.map (·.to_):=List.take_of_length_le (by simp)
      have e3:(c.map (·.from_)).drop c.length = []:=List.drop_eq_nil_of_le (by simp)
      have e4:(c.map (·.to_)).drop c.length = []:=List.drop_eq_nil_of_le (by simp)
      rw [e1,e2,e3,e4] at h1
      simp only [List.length_map] at h3 h4
      simp only [List.getElem_map] at h3 h4
      have hasc:=List.pairwise_iff_getElem.1 hI2
      have hlt : ∀ j (hj:j < c.length),j < k → c[j].from_ ≤ l[i].Y0:=by
        intro j hj hjk
        have h6:=h4 (by omega) (by omega)
        rcases Nat.lt_or_ge j (k - 1) with h | h
        · have:=hasc j (k - 1) hj (by omega) h; omega
        · have : j = k - 1 := by omega
          subst this; omega
      refine ⟨c.take k ++ ⟨l[i].Y0,l[i].Y1⟩::c.drop k,?_,by simp; omega,sorted_insert (by omega) hI2 h3 hlt,fun s=>?_⟩
      · unfold ref06_column_L0
        dsimp only
        rw [if_pos (by simpa using hi),getI_nat hi,Option.bind_some,Option.bind_some]
        have hcond:(if decide (x < l[i].X0) = true then some true else some (decide (l[i].X1 ≤ x))) = some false:=by
          rw [if_neg (by simp; omega)]; congr 1; simp; omega
        rw [hcond,Option.bind_some,if_neg (by simp),appI_some (by simp; omega),Option.bind_some,appI_some (by simp; omega),Option.bind_some]
        have hlen:((c.map (·.from_)).length:Int) = (c.length:Int):=by simp
        rw [hlen,h1,Option.bind_some]
        dsimp only
        rw [Option.bind_some,getI_here (by simp; omega),Option.bind_some,Option.bind_some,Option.bind_some,getI_here (by simp; omega),Option.bind_some,Option.bind_some,Option.bind_some,addI_one (by omega),Option.bind_some,
          Int.toNat_natCast,set_here (by simp; omega),set_here (by simp; omega)]
        simp only [List.map_append,List.map_cons,List.map_take,List.map_drop]
      · rw [hcol, if_pos (by simp; omega), List.mem_append (s := colAt (l.take i) x), ← hI3]
        conv=>rhs; rw [← List.take_append_drop k c]
        simp only [List.mem_append,List.mem_cons,List.mem_singleton,List.not_mem_nil,or_false]
        constructor
        · rintro (h | h | h)
          · exact .inl (.inl h)
          · exact .inr h
          · exact .inl (.inr h)
        · rintro ((h | h) | h)
          · exact .inl h
          · exact .inr (.inr h)
          · exact .inr (.inl h)) (by
    intro s _
    unfold ref06_column_L0
    dsimp only
    rw [if_neg (by simp)]) (s0:=[]) ⟨by simp,.nil,by simp [colAt]⟩ (fuel:=l.length + ([]:List Int).length + ([]:List Int).length + 1) (by simp)
  exact ⟨c,h1,h3,fun s=>by rw [h4,List.take_length],h2⟩
theorem column_r2 {c:List RegionSpan} {n:Int} (hl:c.length ≤ 100000) {fuel:Nat} (hf:c.length < fuel) :
    iterL (ref06_column_L2 (c.map (·.from_),c.map (·.to_),n)) fuel (([]:List Int),0) = some (.ex 4 (flatC (c.foldl addIv []),(c.length:Int))):=by
  refine (iter_range (k:=4) (l:=c) (body:=ref06_column_L2 (c.map (·.from_),c.map (·.to_),n)) (fun (o:List RegionSpan) i=>(flatC o,i)) addIv (fun i o=>o.length ≤ i) ?_ ?_ (s0:=[]) (Nat.zero_le _) hf).1
  · intro i hi o hI
    have hF:getI (c.map (·.from_)) (i:Int) = some c[i].from_:=by rw [getI_nat (by simpa using hi)]; simp
    have hT:getI (c.map (·.to_)) (i:Int) = some c[i].to_:=by rw [getI_nat (by simpa using hi)]; simp
    rcases List.eq_nil_or_concat o with rfl | ⟨o', t, rfl⟩
    · constructor
      · unfold ref06_column_L2
        dsimp only
        rw [if_pos (by simpa using hi)]
        have e0:flatC [] = []:=rfl
        rw [e0,if_neg (by simp),Option.bind_some,if_neg (by simp),hF,Option.bind_some,hT,Option.bind_some,appI_some (by simp),Option.bind_some,Option.bind_some,addI_one (by omega),Option.bind_some]
        rfl
      · simp [addIv]
    · rw [List.concat_eq_append] at *
      have hol:o'.length + 1 ≤ i:=by simpa using hI
      have e:flatC (o' ++ [t]) = (flatC o' ++ [t.from_]) ++ [t.to_]:=by rw [flatC_append]; simp [flatC]
      have hfl:=flatC_length o'
      constructor
      · unfold ref06_column_L2
        dsimp only
        rw [if_pos (by simpa using hi),e,if_pos (by simp; omega),hF,Option.bind_some,subI_len (by simp; omega),Option.bind_some,getI_concat rfl,Option.bind_some,Option.bind_some]
        by_cases hm:c[i].from_ ≤ t.to_
        · rw [if_pos (by simpa using hm), Option.bind_some, Option.bind_some, getI_concat rfl, Option.bind_some, hT, Option.bind_some, Option.bind_some, Option.bind_some, Option.bind_some, set_concat (by simp), addI_one (by omega), Option.bind_some]
          have:addIv (o' ++ [t]) c[i] = o' ++ [⟨t.from_,max t.to_ c[i].to_⟩]:=by simp [addIv,hm]
          rw [this,flatC_append]; simp [flatC]
        · rw [if_neg (by simpa using hm), Option.bind_some, hT, Option.bind_some, appI_some (by simp; omega), Option.bind_some, Option.bind_some, addI_one (by omega), Option.bind_some]
          have:addIv (o' ++ [t]) c[i] = (o' ++ [t]) ++ [c[i]]:=by simp [addIv,hm]
          rw [this,flatC_append,e]; simp [flatC]
      · unfold addIv
        simp only [List.getLast?_append,List.getLast?_singleton,Option.some_or,List.dropLast_concat]
        split <;> simp <;> omega
  · intro o _
    unfold ref06_column_L2
    dsimp only
    rw [if_neg (by simp)]
theorem rcolumn_spec {l:List Rect} {x:Int} (hv : ∀ r ∈ l,VR r) (hl:l.length ≤ 100000) : ∃ c,ref06_column l x = some (flatC c)∧IsCol l x c:=by
  obtain ⟨r,h1,hs,hmem,hrl⟩:=column_r0 (x:=x) hl
  have hpos : ∀ s ∈ r,s.from_ < s.to_:=by
    intro s hs
    have:=(hmem s).1 hs
    simp only [colAt,List.mem_map,List.mem_filter] at this
    obtain ⟨q,⟨hq,_⟩,rfl⟩:=this
    exact (hv q hq).2.2.2.2.1
  obtain ⟨k1,k2,k3⟩:=addIv_fold r [] trivial hpos hs (by simp)
  refine ⟨r.foldl addIv [],?_,k1,fun y=>?_,by simp at k3; omega⟩
  · unfold ref06_column
    rw [h1,Option.bind_some]
    dsimp only
    rw [column_r2 (by omega) (by simp; omega),Option.bind_some]
  · rw [k2]
    simp only [spanRuns,List.map_nil,rval,Bool.false_eq_true,false_or]
    constructor
    · rintro ⟨s, hs, h⟩
      have:=(hmem s).1 hs
      simp only [colAt,List.mem_map,List.mem_filter,Bool.and_eq_true,decide_eq_true_eq] at this
      obtain ⟨q,⟨hq,hx⟩,rfl⟩:=this
      exact ⟨q,hq,hx,h⟩
    · rintro ⟨q, hq, hx, h⟩
      refine ⟨⟨q.Y0,q.Y1⟩,(hmem _).2 ?_,h⟩
      simp only [colAt,List.mem_map,List.mem_filter,Bool.and_eq_true,decide_eq_true_eq]
      exact ⟨q,⟨hq,hx⟩,rfl⟩

/-! Lists of numbers -/
theorem ints_eq {a b:List Int} (hb:a.length ≤ 1000000):ref06_ints a b = some (decide (a = b)):=by
  unfold ref06_ints
  by_cases hl:a.length = b.length
  · rw [if_neg (by simp [hl])]
    rcases iter_find (l:=a.zip b) (body:=ref06_ints_L0 a b) (k:=0) (fun p=>p.1 ≠ p.2) (fun _=>false) (by
      intro i hi
      simp only [List.length_zip] at hi
      have h1:i < a.length:=by omega
      have h2:i < b.length:=by omega
      unfold ref06_ints_L0
      rw [if_pos (by simpa using h1),getI_nat h1,Option.bind_some,getI_nat h2,Option.bind_some]
      simp only [List.getElem_zip]
      by_cases he:a[i] = b[i]
      · right
        rw [if_neg (by simpa using he),addI_one (show i < 4611686018427387904 by omega),Option.bind_some]
        exact ⟨by simpa using he,rfl⟩
      · left
        rw [if_pos (by simpa using he)]
        exact ⟨he,rfl⟩) (by
      have e:((a.zip b).length:Int) = (a.length:Int):=by simp; omega
      rw [e]
      unfold ref06_ints_L0
      rw [if_neg (by simp)]) (fuel:=a.length + b.length + 1) (by simp; omega) with ⟨i,hi,hp,_,h⟩ | ⟨hp,h⟩
    · rw [h, Option.bind_some]
      dsimp only
      congr 1
      symm
      rw [decide_eq_false_iff_not]
      intro e; subst e; simp at hp
    · rw [h, Option.bind_some]
      dsimp only
      congr 1
      symm
      rw [decide_eq_true_iff]
      refine List.ext_getElem hl fun i h1 h2=>?_
      have:=hp (a[i],b[i]) (by
        rw [List.mem_iff_getElem]
        exact ⟨i,by simp; omega,by simp⟩)
      simpa using this
  · rw [if_pos (by simp; omega)]
    congr 1
    symm
    rw [decide_eq_false_iff_not]
    intro e; exact hl (by rw [e])

/-! Combining two columns, point by point -/
def oddN (n:Nat):Bool:=decide (n % 2 = 1)
theorem comb_tail (op:Int) (out:List Int) (was:Bool) (y:Int) (i' k' : Nat) (hlen:out.length ≤ 1000000) :
    ((remI (i' : Int) 2).bind fun p=>(remI (k' : Int) 2).bind fun q=>(if (op == 1) then some ((p == 1) && (q == 1)) else some ((p == 1) || (q == 1))).bind fun s332=>
      (if (op == 2) then some ((p == 1) && (!(q == 1))) else some s332).bind fun s339=>(if (s339 != was) then (appI out ([y])).bind fun x=>some x else some out).bind fun s346=>
        some (Flow.go (s346,(i' : Int),(k' : Int),s339):Flow (List Int × Int × Int × Bool) (List Int))) =
    some (.go (if opB op (oddN i') (oddN k') != was then out ++ [y] else out,(i' : Int),(k' : Int),opB op (oddN i') (oddN k'))):=by
  have hr : ∀ n:Nat,remI (n:Int) 2 = some ((n % 2:Nat):Int):=fun n=>by
    unfold remI
    rw [if_pos (by decide)]
    congr 1
  have ho : ∀ n:Nat,(((n % 2:Nat):Int) == 1) = oddN n:=fun n=>by
    unfold oddN
    rw [Bool.eq_iff_iff]; simp; omega
  rw [hr,Option.bind_some,hr,Option.bind_some,ho,ho]
  have happ:appI out [y] = some (out ++ [y]):=appI_some (by simp; omega)
  unfold opB
  by_cases h1:op = 1
  · subst h1
    rw [if_pos (by decide),Option.bind_some,if_neg (by decide),Option.bind_some,if_pos rfl]
    cases hb:((oddN i' && oddN k') != was) <;> simp [happ]
  · rw [if_neg (by simpa using h1), Option.bind_some, if_neg h1]
    by_cases h2:op = 2
    · subst h2
      rw [if_pos (by decide),Option.bind_some,if_pos rfl]
      cases hb:((oddN i' && !oddN k') != was) <;> simp [happ]
    · rw [if_neg (by simpa using h2), Option.bind_some, if_neg h2]
      cases hb:((oddN i' || oddN k') != was) <;> simp [happ]
theorem comb_step {a b:List Int} {op:Int} {out:List Int} {was:Bool} {i k:Nat} (hal:a.length ≤ 100000) (hbl:b.length ≤ 100000) (hi:i ≤ a.length) (hk:k ≤ b.length) (hne:i < a.length ∨ k < b.length) (hlen:out.length ≤ 1000000)
    (ha:a.Pairwise fun a b=>a < b) (hb:b.Pairwise fun a b=>a < b) (hai : ∀ j (hj:j < i),∀ h:j < a.length,∀ q (hq:k ≤ q) (hq' : q < b.length),a[j] < b[q]) (hbk : ∀ j (hj:j < k),∀ h:j < b.length,∀ q (hq:i ≤ q) (hq' : q < a.length),b[j] < a[q]) :
    ∃ (y:Int) (i' k' : Nat),ref06_combine_L0 a b op (out,(i:Int),(k:Int),was) = some (.go (if opB op (oddN i') (oddN k') != was then out ++ [y] else out,(i' : Int),(k' : Int),opB op (oddN i') (oddN k'))) ∧
      i ≤ i'∧k ≤ k'∧i + k < i' + k'∧i' ≤ a.length∧k' ≤ b.length∧i' ≤ i + 1∧k' ≤ k + 1∧(∀ j (hj:j < i') (h:j < a.length),a[j] ≤ y)∧(∀ j (hj:i' ≤ j) (h:j < a.length),y < a[j])∧(∀ j (hj:j < k') (h:j < b.length),b[j] ≤ y)∧(∀ j (hj:k' ≤ j) (h:j < b.length),y < b[j]) ∧
      (∀ j (hj:i ≤ j) (h:j < a.length),y ≤ a[j])∧(∀ j (hj:k ≤ j) (h:j < b.length),y ≤ b[j]):=by
  have ha':=List.pairwise_iff_getElem.1 ha
  have hb':=List.pairwise_iff_getElem.1 hb
  have mono : ∀ {p:List Int},(∀ (i j:Nat) (hi:i < p.length) (hj:j < p.length),i < j → p[i] < p[j]) → ∀ (i j:Nat) (hi:i < p.length) (hj:j < p.length),i ≤ j → p[i] ≤ p[j]:=by
    intro p hp i j hi hj hij
    rcases Nat.lt_or_ge i j with h | h
    · exact Int.le_of_lt (hp i j hi hj h)
    · have : i = j := by omega
      subst this; exact Int.le_refl _
  have ma:=mono ha'
  have mb:=mono hb'
  unfold ref06_combine_L0
  dsimp only
  rw [if_pos (by simp; omega)]
  have eL:subI (b.length:Int) 1 = some ((b.length:Int) - 1):=subI_some (by unfold inI; omega)
  rcases Nat.lt_or_ge i a.length with h1 | h1
  · have gA : getI a (i : Int) = some a[i] := getI_nat h1
    have cI:decide ((i:Int) < (a.length:Int)) = true:=by simpa using h1
    have eI:addI (i:Int) 1 = some ((i + 1:Nat):Int):=addI_one (by omega)
    rcases Nat.lt_or_ge k b.length with h2 | h2
    · have emin : min (k : Int) ((b.length : Int) - 1) = (k : Int) := by omega
      have gB:getI b (k:Int) = some b[k]:=getI_nat h2
      have cK:decide ((k:Int) < (b.length:Int)) = true:=by simpa using h2
      have cL:decide ((b.length:Int) ≤ (k:Int)) = false:=by simp; omega
      have eK:addI (k:Int) 1 = some ((k + 1:Nat):Int):=addI_one (by omega)
      rcases Int.lt_trichotomy a[i] b[k] with hc | hc | hc
      · refine ⟨a[i], i + 1, k, ?_, by omega, by omega, by omega, by omega, by omega, by omega, by omega, fun j hj h => ma j i h h1 (by omega), fun j hj h => ha' i j h1 h (by omega), fun j hj h => Int.le_of_lt (hbk j hj h i (Nat.le_refl _) h1), fun j hj h => by have := mb k j h2 h hj; omega, fun j hj h => ma i j h1 h hj, fun j hj h => by have := mb k j h2 h hj; omega⟩
        have c1:decide (a[i] ≤ b[k]) = true:=by simp; omega
        have c2:(b[k] == a[i]) = false:=by simp; omega
        simp only [cI,cK,cL,gA,gB,eL,emin,c1,c2,eI,Option.bind_some,Bool.false_eq_true,beq_self_eq_true,↓reduceIte]
        exact comb_tail op out was a[i] (i + 1) k hlen
      · refine ⟨a[i], i + 1, k + 1, ?_, by omega, by omega, by omega, by omega, by omega, by omega, by omega, fun j hj h => ma j i h h1 (by omega), fun j hj h => ha' i j h1 h (by omega), fun j hj h => by rw [hc]; exact mb j k h h2 (by omega), fun j hj h => by rw [hc]; exact hb' k j h2 h (by omega), fun j hj h => ma i j h1 h hj, fun j hj h => by rw [hc]; exact mb k j h2 h hj⟩
        have c1:decide (a[i] ≤ b[k]) = true:=by simp; omega
        have c2:(b[k] == a[i]) = true:=by simp; omega
        simp only [cI,cK,cL,gA,gB,eL,emin,c1,c2,eI,eK,Option.bind_some,Bool.false_eq_true,beq_self_eq_true,↓reduceIte]
        exact comb_tail op out was a[i] (i + 1) (k + 1) hlen
      · refine ⟨b[k], i, k + 1, ?_, by omega, by omega, by omega, by omega, by omega, by omega, by omega, fun j hj h => Int.le_of_lt (hai j hj h k (Nat.le_refl _) h2), fun j hj h => by have := ma i j h1 h hj; omega, fun j hj h => mb j k h h2 (by omega), fun j hj h => hb' k j h2 h (by omega), fun j hj h => by have := ma i j h1 h hj; omega, fun j hj h => mb k j h2 h hj⟩
        have c1:decide (a[i] ≤ b[k]) = false:=by simp; omega
        have c2:(a[i] == b[k]) = false:=by simp; omega
        simp only [cI,cK,cL,gA,gB,eL,emin,c1,c2,eK,Option.bind_some,Bool.false_eq_true,beq_self_eq_true,↓reduceIte]
        exact comb_tail op out was b[k] i (k + 1) hlen
    · refine ⟨a[i], i + 1, k, ?_, by omega, by omega, by omega, by omega, by omega, by omega, by omega, fun j hj h => ma j i h h1 (by omega), fun j hj h => ha' i j h1 h (by omega), fun j hj h => Int.le_of_lt (hbk j hj h i (Nat.le_refl _) h1), fun j hj h => absurd h (by omega), fun j hj h => ma i j h1 h hj, fun j hj h => absurd h (by omega)⟩
      have cK:decide ((k:Int) < (b.length:Int)) = false:=by simp; omega
      have cL:decide ((b.length:Int) ≤ (k:Int)) = true:=by simp; omega
      simp only [cI,cK,cL,gA,eI,Option.bind_some,Bool.false_eq_true,beq_self_eq_true,↓reduceIte]
      exact comb_tail op out was a[i] (i + 1) k hlen
  · have h2 : k < b.length := by omega
    have gB:getI b (k:Int) = some b[k]:=getI_nat h2
    have cI:decide ((i:Int) < (a.length:Int)) = false:=by simp; omega
    have cK:decide ((k:Int) < (b.length:Int)) = true:=by simpa using h2
    have eK:addI (k:Int) 1 = some ((k + 1:Nat):Int):=addI_one (by omega)
    refine ⟨b[k],i,k + 1,?_,by omega,by omega,by omega,by omega,by omega,by omega,by omega,fun j hj h=>Int.le_of_lt (hai j hj h k (Nat.le_refl _) h2),fun j hj h=>absurd h (by omega),fun j hj h=>mb j k h h2 (by omega),fun j hj h=>hb' k j h2 h (by omega),fun j hj h=>absurd h (by omega),fun j hj h=>mb k j h2 h hj⟩
    simp only [cI,cK,gB,eK,Option.bind_some,Bool.false_eq_true,beq_self_eq_true,↓reduceIte]
    exact comb_tail op out was b[k] i (k + 1) hlen

theorem count_split {p:List Int} {z:Int} {i:Nat} (hi:i ≤ p.length) (h1 : ∀ j (hj:j < i) (h:j < p.length),p[j] ≤ z) (h2 : ∀ j (hj:i ≤ j) (h:j < p.length),z < p[j]):p.countP (fun x=>decide (x ≤ z)) = i:=by
  conv=>lhs; rw [← List.take_append_drop i p]
  rw [List.countP_append]
  have e1:(p.take i).countP (fun x=>decide (x ≤ z)) = i:=by
    rw [List.countP_eq_length.2]
    · simp; omega
    · intro x hx
      obtain ⟨j,hj,rfl⟩:=List.getElem_of_mem hx
      rw [List.getElem_take]
      simp only [List.length_take] at hj
      simpa using h1 j (by omega) (by omega)
  have e2:(p.drop i).countP (fun x=>decide (x ≤ z)) = 0:=count_none (by
    intro x hx
    obtain ⟨j,hj,rfl⟩:=List.getElem_of_mem hx
    rw [List.getElem_drop]
    simp only [List.length_drop] at hj
    exact h2 _ (by omega) (by omega))
  omega
theorem oddN_succ (n:Nat):oddN (n + 1) = !oddN n:=by
  unfold oddN
  by_cases h:n % 2 = 1
  · simp [h]; omega
  · simp [h]; omega
theorem combine_flat {a b:List Int} {op:Int} (hal:a.length ≤ 100000) (hbl:b.length ≤ 100000) (ha:a.Pairwise fun a b=>a < b) (hb:b.Pairwise fun a b=>a < b) :
    ∃ out,ref06_combine a b op = some out∧out.Pairwise (fun a b=>a < b)∧(∀ z,odd out z = opB op (odd a z) (odd b z))∧oddN out.length = opB op (oddN a.length) (oddN b.length)∧out.length ≤ a.length + b.length:=by
  refine Exists.elim (loop_down (body:=ref06_combine_L0 a b op) (fun s=>∃ (i k:Nat),s.2.1 = (i:Int)∧s.2.2.1 = (k:Int)∧i ≤ a.length∧k ≤ b.length∧s.1.Pairwise (fun a b=>a < b) ∧
      (∀ x ∈ s.1,∀ j (hj:i ≤ j) (h:j < a.length),x < a[j])∧(∀ x ∈ s.1,∀ j (hj:k ≤ j) (h:j < b.length),x < b[j])∧s.2.2.2 = opB op (oddN i) (oddN k)∧oddN s.1.length = s.2.2.2∧s.1.length ≤ i + k ∧
      (∀ j (hj:j < i),∀ h:j < a.length,∀ q (hq:k ≤ q) (hq' : q < b.length),a[j] < b[q])∧(∀ j (hj:j < k),∀ h:j < b.length,∀ q (hq:i ≤ q) (hq' : q < a.length),b[j] < a[q]) ∧
      ∀ z,(∀ j (hj:i ≤ j) (h:j < a.length),z < a[j]) → (∀ j (hj:k ≤ j) (h:j < b.length),z < b[j]) → odd s.1 z = opB op (odd a z) (odd b z))
    (fun s=>(a.length - s.2.1.toNat) + (b.length - s.2.2.1.toNat)) (fun f=>∃ s,f = .ex 0 s∧s.1.Pairwise (fun a b=>a < b)∧(∀ z,odd s.1 z = opB op (odd a z) (odd b z))∧oddN s.1.length = opB op (oddN a.length) (oddN b.length)∧s.1.length ≤ a.length + b.length) ?_
    (([]:List Int),0,0,false) ⟨0,0,rfl,rfl,Nat.zero_le _,Nat.zero_le _,.nil,by simp,by simp,(opB_false op).symm,rfl,by simp,fun j hj=>absurd hj (Nat.not_lt_zero j),fun j hj=>absurd hj (Nat.not_lt_zero j),fun z h1 h2=>by
      have e1:=count_none (p:=a) (y:=z) (fun x hx=>by obtain ⟨j,hj,rfl⟩:=List.getElem_of_mem hx; exact h1 j (Nat.zero_le _) hj)
      have e2:=count_none (p:=b) (y:=z) (fun x hx=>by obtain ⟨j,hj,rfl⟩:=List.getElem_of_mem hx; exact h2 j (Nat.zero_le _) hj)
      unfold odd
      rw [e1,e2]
      exact (opB_false op).symm⟩ (a.length + b.length + ([]:List Int).length + 1) (by simp)) ?_
  · rintro ⟨out, _, _, was⟩ ⟨i, k, rfl, rfl, hi, hk, hp, hxa, hxb, rfl, hodd, hlen, hab, hba, hz⟩
    dsimp only at *
    by_cases hne:i < a.length ∨ k < b.length
    · left
      obtain ⟨y, i', k', h1, h2, h3, h4, h5, h6, h7, h8, h9, h10, h11, h12, h13, h14⟩ := comb_step (op := op) (out := out) (was := opB op (oddN i) (oddN k)) hal hbl hi hk hne (by omega) ha hb hab hba
      refine ⟨_, h1, ⟨i', k', rfl, rfl, h5, h6, ?_, ?_, ?_, rfl, ?_, ?_, ?_, ?_, ?_⟩, ?_⟩
      · dsimp only
        split
        · rw [List.pairwise_append]
          refine ⟨hp,List.pairwise_singleton _ _,fun x hx y' hy'=>?_⟩
          simp only [List.mem_singleton] at hy'
          subst hy'
          rcases Nat.lt_or_ge i i' with h | h
          · have := hxa x hx i (Nat.le_refl _) (by omega)
            have:=h9 i h (by omega)
            omega
          · have hkk : k < k' := by omega
            have:=hxb x hx k (Nat.le_refl _) (by omega)
            have:=h11 k hkk (by omega)
            omega
        · exact hp
      · dsimp only
        intro x hx j hj h
        have hold:x ∈ out → x < a[j]:=fun hx=>hxa x hx j (by omega) h
        split at hx
        · rcases List.mem_append.1 hx with hx | hx
          · exact hold hx
          · simp only [List.mem_singleton] at hx; subst hx; exact h10 j hj h
        · exact hold hx
      · dsimp only
        intro x hx j hj h
        have hold:x ∈ out → x < b[j]:=fun hx=>hxb x hx j (by omega) h
        split at hx
        · rcases List.mem_append.1 hx with hx | hx
          · exact hold hx
          · simp only [List.mem_singleton] at hx; subst hx; exact h12 j hj h
        · exact hold hx
      · dsimp only
        split
        · rename_i hc
          rw [List.length_append,List.length_singleton,oddN_succ,hodd]
          revert hc
          cases opB op (oddN i') (oddN k') <;> cases opB op (oddN i) (oddN k) <;> simp
        · rename_i hc
          rw [hodd]
          revert hc
          cases opB op (oddN i') (oddN k') <;> cases opB op (oddN i) (oddN k) <;> simp
      · dsimp only
        split
        · simp; omega
        · omega
      · intro j hj h q hq hq'
        have:=h9 j hj h
        have:=h12 q hq hq'
        omega
      · intro j hj h q hq hq'
        have:=h11 j hj h
        have:=h10 q hq hq'
        omega
      · intro z hz1 hz2
        dsimp only
        rcases Int.lt_or_le z y with hzy | hzy
        · have e := hz z (fun j hj h => by have := h13 j hj h; omega) (fun j hj h => by have := h14 j hj h; omega)
          rw [← e]
          split
          · unfold odd
            rw [List.countP_append,count_none (p:=[y]) (by simp; omega)]
            simp
          · rfl
        · have e1 : odd a z = oddN i' := by unfold odd oddN; rw [count_split h5 (fun j hj h => by have := h9 j hj h; omega) hz1]
          have e2:odd b z = oddN k':=by unfold odd oddN; rw [count_split h6 (fun j hj h=>by have:=h11 j hj h; omega) hz2]
          rw [e1,e2]
          have hall : ∀ x ∈ out,x ≤ z:=by
            intro x hx
            rcases Nat.lt_or_ge i i' with h | h
            · have := hxa x hx i (Nat.le_refl _) (by omega)
              have:=h9 i h (by omega)
              omega
            · have := hxb x hx k (Nat.le_refl _) (by omega)
              have:=h11 k (by omega) (by omega)
              omega
          have hfull : ∀ p:List Int,(∀ x ∈ p,x ≤ z) → odd p z = oddN p.length:=fun p hp=>by
            unfold odd oddN
            rw [List.countP_eq_length.2 (by simpa using hp)]
          split
          · rename_i hc
            rw [hfull _ (by
              intro x hx
              rcases List.mem_append.1 hx with hx | hx
              · exact hall x hx
              · simp only [List.mem_singleton] at hx; omega),List.length_append,List.length_singleton,oddN_succ,hodd]
            revert hc
            cases opB op (oddN i') (oddN k') <;> cases opB op (oddN i) (oddN k) <;> simp
          · rename_i hc
            rw [hfull _ hall,hodd]
            revert hc
            cases opB op (oddN i') (oddN k') <;> cases opB op (oddN i) (oddN k) <;> simp
      · dsimp only; simp only [Int.toNat_natCast]; omega
    · right
      obtain rfl:i = a.length:=by omega
      obtain rfl:k = b.length:=by omega
      refine ⟨.ex 0 (out,(a.length:Int),(b.length:Int),opB op (oddN a.length) (oddN b.length)),?_,trivial,_,rfl,hp,fun z=>hz z (fun j hj h=>absurd h (by omega)) (fun j hj h=>absurd h (by omega)),hodd,hlen⟩
      unfold ref06_combine_L0
      dsimp only
      rw [if_neg (by simp)]
  · rintro f ⟨hf, _, s, rfl, h1, h2, h3, h4⟩
    refine ⟨s.1,?_,h1,h2,h3,h4⟩
    unfold ref06_combine
    rw [hf,Option.bind_some]
theorem rcombine_spec {a b:List RegionSpan} {op:Int} (hal:a.length ≤ 40000) (hbl:b.length ≤ 40000) (ha:Canon false (spanRuns a)) (hb:Canon false (spanRuns b)) :
    ∃ c,ref06_combine (flatC a) (flatC b) op = some (flatC c)∧Canon false (spanRuns c)∧(∀ y,rval false (spanRuns c) y = opB op (rval false (spanRuns a) y) (rval false (spanRuns b) y))∧c.length ≤ a.length + b.length:=by
  have la:=flatC_length a; have lb:=flatC_length b
  obtain ⟨out,h1,h2,h3,h4,h5⟩:=combine_flat (op:=op) (by omega) (by omega) (canon_flat ha) (canon_flat hb)
  have ev : ∀ n:Nat,oddN (2 * n) = false:=fun n=>by unfold oddN; simp
  rw [la,lb,ev,ev,opB_false] at h4
  have hev:out.length = 2 * (out.length / 2):=by unfold oddN at h4; simp at h4; omega
  obtain ⟨c,rfl,hc⟩:=unflat _ hev h2
  have lc:=flatC_length c
  exact ⟨c,h1,hc,fun y=>by rw [rval_flat hc,rval_flat ha,rval_flat hb,h3],by omega⟩
end Go.Proofs.YtagkmlkhaekldaaGreat

namespace Go.Proofs.YtagkmlkhaekldaaGreat
open Go.Gb
set_option linter.unusedVariables false
set_option linter.unusedSimpArgs false
set_option linter.unusedSectionVars false
set_option linter.unusedVariables false
set_option linter.unusedSimpArgs false

theorem Form_L1_spec {xs:List Int} {s0:List Rect × List Int × Int × Int} {i:Nat} (hx:i + 1 < xs.length) (hs:s0.2.2.2 = (i:Int)) (hi:i < 1000000) : ∀ (B A:List Rect),A.length + B.length ≤ 1000000000 → ∀ fuel,B.length < fuel →
    iterL (ref06_Form_L1 xs s0) fuel (A ++ B,(A.length:Int)) = some (.ex 2 (A ++ B.map (fun r=>{ r with X1:=xs[i + 1] }),((A ++ B).length:Int)))
  | [], A, hl, fuel, hf => by
    obtain ⟨fuel,rfl⟩ : ∃ m,fuel = m + 1:=⟨fuel - 1,by omega⟩
    have e:ref06_Form_L1 xs s0 (A ++ [],(A.length:Int)) = some (.ex 2 (A ++ [].map (fun r:Rect=>{ r with X1:=xs[i + 1] }),((A ++ []).length:Int))):=by
      unfold ref06_Form_L1
      dsimp only
      rw [if_neg (by simp)]
      simp
    simp only [iterL,e]
  | r :: B, A, hl, fuel, hf => by
    obtain ⟨fuel,rfl⟩ : ∃ m,fuel = m + 1:=⟨fuel - 1,by omega⟩
    simp only [List.length_cons] at hl hf
    have hg:getI (A ++ r::B) (A.length:Int) = some r:=by rw [getI_nat (by simp)]; simp
    have hset : ∀ v,(A ++ r::B).set A.length v = (A ++ [v]) ++ B:=fun v=>by rw [List.set_append_right _ _ (Nat.le_refl _)]; simp
    have e:ref06_Form_L1 xs s0 (A ++ r::B,(A.length:Int)) = some (.go ((A ++ [{ r with X1:=xs[i + 1] }]) ++ B,((A ++ [{ r with X1:=xs[i + 1] }]).length:Int))):=by
      unfold ref06_Form_L1
      dsimp only
      rw [if_pos (by simp; omega),hs,addI_one (by omega),Option.bind_some,getI_nat hx,Option.bind_some,hg,Option.bind_some,Option.bind_some,addI_one (by omega),Option.bind_some,Int.toNat_natCast,hset]
      simp
    simp only [iterL,e]
    exact (Form_L1_spec hx hs hi B _ (by simp; omega) fuel (by omega)).trans (by simp)
theorem Form_L2_spec {xs:List Int} {s0:List Rect × List Int × Int × Int} {i:Nat} (hx:i + 1 < xs.length) (hs:s0.2.2.2 = (i:Int)) (hi:i < 1000000) {c:List RegionSpan} (hc:c.length ≤ 1000000) {out:List Rect} (ho:out.length ≤ 100000000) {fuel:Nat} (hf:c.length < fuel) :
    ∃ n,iterL (ref06_Form_L2 xs s0 (flatC c)) fuel (out,0) = some (.ex 4 (out ++ c.map fun s=>⟨xs[i]'(by omega),s.from_,xs[i + 1],s.to_⟩,n)):=by
  have hfl:=flatC_length c
  obtain ⟨o,h1,h2,h3⟩:=iter_from (k:=4) (body:=ref06_Form_L2 xs s0 (flatC c)) (fun (s:List Rect) j=>(s,2 * j)) 0 c.length (Nat.zero_le _)
    (fun j s=>s = out ++ (c.take j).map (fun s=>⟨xs[i]'(by omega),s.from_,xs[i + 1],s.to_⟩)∧s.length ≤ out.length + j) (by
    intro j _ hj s ⟨hI1,hI2⟩
    obtain ⟨g1,g2⟩:=flatC_get hj
    refine ⟨s ++ [⟨xs[i]'(by omega),c[j].from_,xs[i + 1],c[j].to_⟩],?_,?_,by rw [List.length_append,List.length_singleton]; omega⟩
    · have e1 : addI (2 * (j : Int)) 1 = some (2 * (j : Int) + 1) := addI_some (by unfold inI; omega)
      have e2:addI (2 * (j:Int)) 2 = some (2 * ((j + 1:Nat):Int)):=by rw [addI_some (by unfold inI; omega)]; exact congrArg some (by omega)
      unfold ref06_Form_L2
      dsimp only
      rw [e1,Option.bind_some,if_pos (by simp; omega),hs,getI_nat (show i < xs.length by omega),Option.bind_some,g1,Option.bind_some,addI_one (by omega),Option.bind_some,getI_nat hx,Option.bind_some,Option.bind_some,g2,Option.bind_some,
        appI_some (by simp; omega),Option.bind_some,e2,Option.bind_some]
    · rw [hI1,List.take_succ_eq_append_getElem hj,List.map_append]; simp) (by
    intro s _
    have e1:addI (2 * (c.length:Int)) 1 = some (2 * (c.length:Int) + 1):=addI_some (by unfold inI; omega)
    unfold ref06_Form_L2
    dsimp only
    rw [e1,Option.bind_some,if_neg (by simp; omega)]) (s0:=out) ⟨by simp,by simp⟩ (fuel:=fuel) (by omega)
  rw [List.take_length] at h2
  refine ⟨2 * (c.length:Int),?_⟩
  rw [← h2]
  exact h1

theorem Form_spec {a b:List Rect} {op:Int} (hva : ∀ r ∈ a,VR r) (hvb : ∀ r ∈ b,VR r) (hl:(a ++ b).length ≤ 1000) : ∃ out,ref06_Form a b op = some out∧IsForm (opS op a b) out:=by
  classical
  obtain ⟨xs,hxs,hx⟩:=edges_spec (a:=a) (b:=b) (by omega)
  have hxl:=hx.len
  have hla:a.length + b.length ≤ 1000:=by simpa using hl
  have hex : ∀ z,∃ c:List RegionSpan,Canon false (spanRuns c)∧(∀ y,rval false (spanRuns c) y = opB op (decide (cells a z y)) (decide (cells b z y)))∧c.length ≤ 1000 ∧
      ((ref06_column a z).bind fun p=>(ref06_column b z).bind fun q=>ref06_combine p q op) = some (flatC c):=by
    intro z
    obtain ⟨ca,h1,h2⟩:=rcolumn_spec (x:=z) hva (by omega)
    obtain ⟨cb,h3,h4⟩:=rcolumn_spec (x:=z) hvb (by omega)
    have l1:=h2.len; have l2:=h4.len
    obtain ⟨c,h5,h6,h7,h8⟩:=rcombine_spec (op:=op) (by omega) (by omega) h2.canon h4.canon
    refine ⟨c,h6,fun y=>?_,by omega,by rw [h1,Option.bind_some,h3,Option.bind_some,h5]⟩
    rw [h7]
    congr 1
    · rw [Bool.eq_iff_iff,h2.val,decide_eq_true_iff]
    · rw [Bool.eq_iff_iff,h4.val,decide_eq_true_iff]
  obtain ⟨C,hC⟩:=Classical.axiomOfChoice hex
  have hCb : ∀ i (hi:i + 1 < xs.length) z,xs[i] ≤ z → z < xs[i + 1] → C z = C xs[i]:=by
    intro i hi z h1 h2
    refine spanRuns_inj (canon_unique (hC z).1 (hC _).1 fun y=>?_)
    rw [(hC z).2.1,(hC _).2.1]
    have key : ∀ c:List Rect,(∀ r ∈ c,r ∈ a ++ b) → decide (cells c z y) = decide (cells c xs[i] y):=by
      intro c hc
      rw [decide_eq_decide]
      refine exists_congr fun r=>and_congr_right fun hr=>?_
      unfold rin
      have g1:=asc_gap hx.asc hi ((hx.mem r.X0).2 ⟨r,hc r hr,.inl rfl⟩)
      have g2:=asc_gap hx.asc hi ((hx.mem r.X1).2 ⟨r,hc r hr,.inr rfl⟩)
      omega
    rw [key a fun r hr=>List.mem_append_left _ hr,key b fun r hr=>List.mem_append_right _ hr]
  obtain ⟨s,h1,h2⟩:=iter_from (k:=0) (body:=ref06_Form_L0 a b op xs) (fun (s:List Rect × List Int × Int) i=>(s.1,s.2.1,s.2.2,i)) 0 (xs.length - 1) (Nat.zero_le _)
    (fun i s=>∃ G:Runs Col,s.1 = flatG G∧Canon [] G∧(∀ a b c,(a,b,c) ∈ G → Canon false c)∧(∀ hi:i < xs.length,EndsBy G xs[i]) ∧
      (∀ z,rval [] G z = if (∃ j,∃ h:j + 1 < xs.length,j < i∧xs[j] ≤ z∧z < xs[j + 1]) then spanRuns (C z) else [])∧s.1.length ≤ 1000 * i ∧
      ((i = 0∧G = []) ∨ (0 < i∧∃ c,s.2.1 = flatC c∧c.length ≤ 1000∧(c = [] → ∀ r,G.getLast? = some r → ∀ hi:i < xs.length,r.2.1 < xs[i]) ∧
        (c ≠ [] → ∃ G' lo,∃ hi:i < xs.length,G = G' ++ [(lo,xs[i],spanRuns c)]∧s.2.2 = ((flatG G').length:Int))))) (by
    rintro i - hi ⟨out,was,last⟩ ⟨G,hI1,hI2,hI3,hI4,hI5,hI6,hI7⟩
    dsimp only at *
    have hi1:i + 1 < xs.length:=by omega
    obtain ⟨hc1,hc2,hc3,hc4⟩:=hC xs[i]
    have hlt:xs[i] < xs[i + 1]:=(List.pairwise_iff_getElem.1 hx.asc) i (i + 1) (by omega) hi1 (by omega)
    have hout:out.length ≤ 1000000 + 1000 * i:=by omega
    -- the columns are those of the reference
    obtain ⟨pa,hpa,_⟩:=rcolumn_spec (x:=xs[i]) hva (by omega)
    obtain ⟨pb,hpb,_⟩:=rcolumn_spec (x:=xs[i]) hvb (by omega)
    have hcomb:ref06_combine (flatC pa) (flatC pb) op = some (flatC (C xs[i])):=by
      rw [hpa,Option.bind_some,hpb,Option.bind_some] at hc4; exact hc4
    have hq:=pushR_spec (e:=[]) (spanRuns (C xs[i])) hI2 (hI4 (by omega)) hlt
    have hval : ∀ z,rval [] (pushR [] G xs[i] xs[i + 1] (spanRuns (C xs[i]))) z = if (∃ j,∃ h:j + 1 < xs.length,j < i + 1∧xs[j] ≤ z∧z < xs[j + 1]) then spanRuns (C z) else []:=by
      intro z
      rw [hq.2.2,hI5]
      by_cases c1:xs[i] ≤ z∧z < xs[i + 1]
      · rw [if_pos c1,if_pos ⟨i,hi1,by omega,c1⟩,hCb i hi1 z c1.1 c1.2]
      · rw [if_neg c1]
        by_cases c2 : ∃ j,∃ h:j + 1 < xs.length,j < i∧xs[j] ≤ z∧z < xs[j + 1]
        · rw [if_pos c2, if_pos]
          obtain ⟨j,h,q,r⟩:=c2
          exact ⟨j,h,by omega,r⟩
        · rw [if_neg c2, if_neg]
          rintro ⟨j,h,q,r⟩
          rcases Nat.lt_or_ge j i with h' | h'
          · exact c2 ⟨j, h, h', r⟩
          · have : j = i := by omega
            subst this; exact c1 r
    have hcols : ∀ a b c,(a,b,c) ∈ pushR [] G xs[i] xs[i + 1] (spanRuns (C xs[i])) → Canon false c:=by
      intro p q c hm
      by_cases hce:C xs[i] = []
      · unfold pushR at hm
        rw [hce,if_pos (show spanRuns [] = [] from rfl)] at hm
        exact hI3 p q c hm
      · have : c = spanRuns (C xs[i]) ∨ ∃ p q, (p, q, c) ∈ G := by
          unfold pushR at hm
          rw [if_neg (show ¬ spanRuns (C xs[i]) = ([]:Col) from fun e=>hce (spanRuns_inj (b:=[]) e))] at hm
          split at hm
          · rename_i r c' d w hr
            have hmem:=List.mem_of_getLast? hr
            split at hm
            · rename_i hcw
              rcases List.mem_append.1 hm with h | h
              · exact .inr ⟨_,_,(List.dropLast_sublist _).subset h⟩
              · simp only [List.mem_singleton,Prod.mk.injEq] at h; exact .inl h.2.2
            · rcases List.mem_append.1 hm with h | h
              · exact .inr ⟨_,_,h⟩
              · simp only [List.mem_singleton,Prod.mk.injEq] at h; exact .inl h.2.2
          · simp only [List.mem_singleton,Prod.mk.injEq] at hm; exact .inl hm.2.2
        rcases this with rfl | ⟨p,q,h⟩
        · exact hc1
        · exact hI3 p q c h
    have hfl:=flatC_length (C xs[i])
    -- does it go on as before?
    by_cases hcond:0 < i∧C xs[i] ≠ []∧was = flatC (C xs[i])
    · obtain ⟨hi0, hne, rfl⟩ := hcond
      rcases hI7 with ⟨h,_⟩ | ⟨_,c,hcw,hcl,_,hcG⟩
      · omega
      · obtain rfl := flatC_inj hcw
        obtain ⟨G', lo, hilt, rfl, rfl⟩ := hcG hne
        have hpush:pushR [] (G' ++ [(lo,xs[i],spanRuns (C xs[i]))]) xs[i] xs[i + 1] (spanRuns (C xs[i])) = G' ++ [(lo,xs[i + 1],spanRuns (C xs[i]))]:=by
          unfold pushR
          rw [if_neg (show ¬ spanRuns (C xs[i]) = ([]:Col) from fun e=>hne (spanRuns_inj (b:=[]) e))]
          simp
        rw [hpush] at hq hval hcols
        rw [flatG_append,flatG_one] at hI1
        have hlen2:(flatG (G' ++ [(lo,xs[i + 1],spanRuns (C xs[i]))])).length = out.length:=by rw [flatG_append,flatG_one,hI1]; simp
        have hL1:=Form_L1_spec (xs:=xs) (s0:=(out,flatC (C xs[i]),((flatG G').length:Int),(i:Int))) hi1 rfl (by omega) ((C xs[i]).map fun s=>⟨lo,s.from_,xs[i],s.to_⟩) (flatG G') (by rw [hI1] at hout; simp at hout ⊢; omega)
          (a.length + b.length + out.length + xs.length + (flatC (C xs[i])).length + 1) (by simp; omega)
        rw [← hI1] at hL1
        refine ⟨(flatG (G' ++ [(lo, xs[i + 1], spanRuns (C xs[i]))]), flatC (C xs[i]), ((flatG G').length : Int)), ?_, _, rfl, hq.1, hcols, fun _ => hq.2.1, hval, by dsimp only; omega, .inr ⟨by omega, C xs[i], rfl, hcl, fun h => absurd h hne, fun _ => ⟨G', lo, hi1, rfl, rfl⟩⟩⟩
        unfold ref06_Form_L0
        dsimp only
        have hneL:0 < (C xs[i]).length:=List.length_pos_iff.2 hne
        rw [addI_one (by omega),Option.bind_some,if_pos (by simp; omega),getI_nat (show i < xs.length by omega),Option.bind_some,hpa,Option.bind_some,Option.bind_some,hpb,Option.bind_some,hcomb,Option.bind_some,
          if_pos (by simp; omega),ints_eq (by omega),Option.bind_some,Option.bind_some,if_pos (by simp),hL1,Option.bind_some]
        dsimp only
        rw [Option.bind_some,Option.bind_some]
        rw [flatG_append,flatG_one,List.map_map]
        rfl
    · have hcnd : (if (decide (0 < (i : Int)) && decide (0 < ((flatC (C xs[i])).length : Int))) = true then (ref06_ints (flatC (C xs[i])) was).bind fun x => some x else some false) = some false := by
        by_cases h:0 < i∧C xs[i] ≠ []
        · have hneL : 0 < (C xs[i]).length := List.length_pos_iff.2 h.2
          rw [if_pos (by simp; omega),ints_eq (by omega),Option.bind_some]
          congr 1
          rw [decide_eq_false_iff_not]
          exact fun e=>hcond ⟨h.1,h.2,e.symm⟩
        · rw [if_neg]
          simp only [Bool.and_eq_true,decide_eq_true_eq]
          rintro ⟨g1,g2⟩
          refine h ⟨by omega,fun e=>?_⟩
          rw [e] at g2; simp [flatC] at g2
      have hpush:pushR [] G xs[i] xs[i + 1] (spanRuns (C xs[i])) = if C xs[i] = [] then G else G ++ [(xs[i],xs[i + 1],spanRuns (C xs[i]))]:=by
        unfold pushR
        by_cases hce:C xs[i] = []
        · rw [hce,if_pos (show spanRuns [] = [] from rfl),if_pos rfl]
        · rw [if_neg (show ¬ spanRuns (C xs[i]) = ([] : Col) from fun e => hce (spanRuns_inj (b := []) e)), if_neg hce]
          rcases hI7 with ⟨_,rfl⟩ | ⟨hi0,c,hcw,hcl,hce1,hce2⟩
          · rfl
          · by_cases hcn : c = []
            · split
              · rename_i p d w hr
                have h9:d < xs[i]:=hce1 hcn _ hr (by omega)
                rw [if_neg (fun h=>by have:=h.1; omega)]
              · rename_i hr
                rw [List.getLast?_eq_none_iff] at hr
                subst hr; rfl
            · obtain ⟨G', lo, _, rfl, _⟩ := hce2 hcn
              simp only [List.getLast?_append,List.getLast?_singleton,Option.some_or]
              rw [if_neg]
              rintro ⟨_,h⟩
              exact hcond ⟨hi0,hce,by rw [hcw,spanRuns_inj h]⟩
      obtain ⟨n,hL2⟩:=Form_L2_spec (xs:=xs) (s0:=(out,was,last,(i:Int))) hi1 rfl (by omega) (c:=C xs[i]) (by omega) (out:=out) (by omega) (fuel:=a.length + b.length + out.length + xs.length + (flatC (C xs[i])).length + (flatC (C xs[i])).length + 1) (by omega)
      have hnew:out ++ (C xs[i]).map (fun s=>(⟨xs[i],s.from_,xs[i + 1],s.to_⟩:Rect)) = flatG (pushR [] G xs[i] xs[i + 1] (spanRuns (C xs[i]))):=by
        rw [hpush]
        by_cases hce:C xs[i] = []
        · rw [if_pos hce,hce,hI1]; simp
        · rw [if_neg hce,flatG_append,flatG_one,hI1]
      have hlen2:(flatG (pushR [] G xs[i] xs[i + 1] (spanRuns (C xs[i])))).length ≤ 1000 * (i + 1):=by rw [← hnew]; simp; omega
      refine ⟨(flatG (pushR [] G xs[i] xs[i + 1] (spanRuns (C xs[i]))),flatC (C xs[i]),(out.length:Int)),?_,_,rfl,hq.1,hcols,fun _=>hq.2.1,hval,hlen2,.inr ⟨by omega,C xs[i],rfl,hc3,fun h r hr _=>?_,fun h=>?_⟩⟩
      · unfold ref06_Form_L0
        dsimp only
        rw [addI_one (by omega),Option.bind_some,if_pos (by simp; omega),getI_nat (show i < xs.length by omega),Option.bind_some,hpa,Option.bind_some,Option.bind_some,hpb,Option.bind_some,hcomb,Option.bind_some,
          hcnd,Option.bind_some,if_neg (by simp),hL2,Option.bind_some]
        dsimp only
        rw [Option.bind_some,Option.bind_some,hnew]
      · rw [hpush, if_pos h] at hr
        have:=hI4 (by omega) r (List.mem_of_getLast? hr)
        omega
      · rw [hpush, if_neg h]
        exact ⟨G,xs[i],hi1,rfl,by rw [hI1]⟩) (by
    rintro ⟨out,was,last⟩ -
    unfold ref06_Form_L0
    dsimp only
    rw [addI_one (by omega),Option.bind_some,if_neg (by simp; omega)]) (s0:=(([]:List Rect),([]:List Int),0))
      ⟨[],rfl,trivial,by simp,fun _ r hr=>by simp at hr,fun z=>by
        rw [if_neg]
        · rfl
        · rintro ⟨j,_,h,_⟩; omega,by simp,.inl ⟨rfl,rfl⟩⟩ (fuel:=a.length + b.length + ([]:List Rect).length + xs.length + ([]:List Int).length + 1) (by simp; omega)
  obtain ⟨G,g1,g2,g3,_,g5,_⟩:=h2
  refine ⟨s.1,?_,G,g2,g3,fun x y=>?_,g1⟩
  · unfold ref06_Form
    rw [hxs,Option.bind_some]
    have h1' : iterL (ref06_Form_L0 a b op xs) (a.length + b.length + ([]:List Rect).length + xs.length + ([]:List Int).length + 1) (([]:List Rect),([]:List Int),0,0) = some (.ex 0 (s.1,s.2.1,s.2.2,((xs.length - 1:Nat):Int))):=h1
    rw [h1', Option.bind_some]
  · rw [g5]
    unfold opS
    by_cases c1 : ∃ j,∃ h:j + 1 < xs.length,j < xs.length - 1∧xs[j] ≤ x∧x < xs[j + 1]
    · rw [if_pos c1,(hC x).2.1]
    · rw [if_neg c1]
      have hno : ∀ c:List Rect,(∀ r ∈ c,r ∈ a ++ b) → decide (cells c x y) = false:=by
        intro c hc
        rw [decide_eq_false_iff_not]
        rintro ⟨r,hr,⟨r1,r2⟩,_⟩
        obtain ⟨j,hj,q⟩:=asc_between hx.asc ((hx.mem r.X0).2 ⟨r,hc r hr,.inl rfl⟩) ((hx.mem r.X1).2 ⟨r,hc r hr,.inr rfl⟩) r1 r2
        exact c1 ⟨j,hj,by omega,q⟩
      rw [hno a fun r hr=>List.mem_append_left _ hr,hno b fun r hr=>List.mem_append_right _ hr,opB_false]
      simp [rval]
theorem Form_or {l:List Rect} (hv : ∀ r ∈ l,VR r) (hl:l.length ≤ 1000) : ∃ out,ref06_Form l [] 0 = some out∧IsForm (cells l) out:=by
  obtain ⟨out,h1,h2⟩:=Form_spec (a:=l) (b:=[]) (op:=0) hv (by simp) (by simpa using hl)
  exact ⟨out,h1,h2.congr fun x y=>by
    have : ¬ cells [] x y:=by simp [cells]
    unfold opS opB
    simp [this]⟩

/-! The functions of the reference -/
theorem RightRect_eq (r:Rect):ref06_RightRect r = some (decide (VR r)):=by rw [← rect_Right_eq]; rfl
theorem rOf_check {l:List Rect} (hl:l.length ≤ 100000) :
    (¬ (∀ r ∈ l,VR r)∧iterL (ref06_Of_L0 l) (l.length + 1) 0 = some (.ret ([],1))) ∨ ((∀ r ∈ l,VR r)∧iterL (ref06_Of_L0 l) (l.length + 1) 0 = some (.ex 0 (l.length:Int))):=by
  rcases iter_find (l:=l) (body:=ref06_Of_L0 l) (k:=0) (fun r=>¬ VR r) (fun _=>(([]:List Rect),(1:Int))) (by
    intro i hi
    unfold ref06_Of_L0
    rw [if_pos (by simpa using hi),getI_nat hi,Option.bind_some,RightRect_eq,Option.bind_some]
    by_cases he:VR l[i]
    · right
      rw [if_neg (by simpa using he),addI_one (show i < 4611686018427387904 by omega),Option.bind_some]
      exact ⟨fun h=>h he,rfl⟩
    · left
      rw [if_pos (by simpa using he)]
      exact ⟨he,rfl⟩) (by
    unfold ref06_Of_L0
    rw [if_neg (by simp)]) (fuel:=l.length + 1) (by omega) with ⟨i,hi,hp,_,h⟩ | ⟨hp,h⟩
  · exact .inl ⟨fun h'=>hp (h' _ (List.getElem_mem hi)),h⟩
  · exact .inr ⟨fun r hr=>Classical.not_not.1 (hp r hr),h⟩
theorem rOf_bad {l:List Rect} (hl:l.length ≤ 100000) (h : ¬ ∀ r ∈ l,VR r):ref06_Of l = some ([],1):=by
  unfold ref06_Of
  rcases rOf_check hl with ⟨_,h1⟩ | ⟨h1,_⟩
  · rw [h1,Option.bind_some]
  · exact absurd h1 h
theorem rOf_many {l:List Rect} (hl:l.length ≤ 100000) (h : ∀ r ∈ l,VR r) (hm:400 < l.length):ref06_Of l = some ([],6):=by
  unfold ref06_Of
  rcases rOf_check hl with ⟨h1,_⟩ | ⟨_,h1⟩
  · exact absurd h h1
  · rw [h1, Option.bind_some]
    dsimp only
    rw [if_pos (by simp; omega)]
theorem rOf_fine {l:List Rect} (h : ∀ r ∈ l,VR r) (hm:l.length ≤ 400) : ∃ out,IsForm (cells l) out∧ref06_Of l = some (lim out):=by
  unfold ref06_Of
  rcases rOf_check (l:=l) (by omega) with ⟨h1,_⟩ | ⟨_,h1⟩
  · exact absurd h h1
  · obtain ⟨out, h4, h5⟩ := Form_or h (by omega)
    refine ⟨out,h5,?_⟩
    rw [h1,Option.bind_some]
    dsimp only
    rw [if_neg (by simp; omega),h4,Option.bind_some]
    unfold lim
    by_cases h6:200 < out.length
    · rw [if_pos (by simp; omega),if_pos h6]
    · rw [if_neg (by simp; omega),if_neg h6]
theorem rOf_eq {l:List Rect} (hl:l.length ≤ 100000):ref06_Of l = region_Of l:=by
  by_cases h : ∀ r ∈ l,VR r
  · rcases Nat.lt_or_ge 400 l.length with hm | hm
    · rw [rOf_many hl h hm,region_Of_many hl h hm]
    · obtain ⟨o1, h1, h2⟩ := rOf_fine h hm
      obtain ⟨o2,h3,h4⟩:=region_Of_fine h hm
      rw [h2,h4,h1.unique h3 fun _ _=>Iff.rfl]
  · rw [rOf_bad hl h,region_Of_bad hl h]
theorem rSame_eq {a b:List Rect} (hb:a.length ≤ 1000000):ref06_Same a b = some (decide (a = b)):=by
  unfold ref06_Same
  by_cases hl:a.length = b.length
  · rw [if_neg (by simp [hl])]
    rcases iter_find (l:=a.zip b) (body:=ref06_Same_L0 a b) (k:=0) (fun p=>p.1 ≠ p.2) (fun _=>false) (by
      intro i hi
      simp only [List.length_zip] at hi
      have h1:i < a.length:=by omega
      have h2:i < b.length:=by omega
      unfold ref06_Same_L0
      rw [if_pos (by simpa using h1),getI_nat h1,Option.bind_some,getI_nat h2,Option.bind_some]
      simp only [List.getElem_zip]
      by_cases he:a[i] = b[i]
      · right
        rw [if_neg (by simpa using he),addI_one (show i < 4611686018427387904 by omega),Option.bind_some]
        exact ⟨by simpa using he,rfl⟩
      · left
        rw [if_pos (by simpa using he)]
        exact ⟨he,rfl⟩) (by
      have e:((a.zip b).length:Int) = (a.length:Int):=by simp; omega
      rw [e]
      unfold ref06_Same_L0
      rw [if_neg (by simp)]) (fuel:=a.length + b.length + 1) (by simp; omega) with ⟨i,hi,hp,_,h⟩ | ⟨hp,h⟩
    · rw [h, Option.bind_some]
      dsimp only
      congr 1
      symm
      rw [decide_eq_false_iff_not]
      intro e; subst e; simp at hp
    · rw [h, Option.bind_some]
      dsimp only
      congr 1
      symm
      rw [decide_eq_true_iff]
      refine List.ext_getElem hl fun i h1 h2=>?_
      have:=hp (a[i],b[i]) (by
        rw [List.mem_iff_getElem]
        exact ⟨i,by simp; omega,by simp⟩)
      simpa using this
  · rw [if_pos (by simp; omega)]
    congr 1
    symm
    rw [decide_eq_false_iff_not]
    intro e; exact hl (by rw [e])
theorem rRight_eq {a:List Rect} (hl:a.length ≤ 100000):ref06_Right a = region_Right a:=by
  unfold ref06_Right region_Right
  rw [rOf_eq hl]
  by_cases h : ∀ r ∈ a,VR r
  · rcases Nat.lt_or_ge 400 a.length with hm | hm
    · rw [region_Of_many hl h hm,Option.bind_some,Option.bind_some,if_neg (by simp),if_neg (by simp)]
    · obtain ⟨out, h1, h2⟩ := region_Of_fine h hm
      rw [h2,Option.bind_some,Option.bind_some]
      unfold lim
      by_cases h3:200 < out.length
      · rw [if_pos h3,if_neg (by simp),if_neg (by simp)]
      · rw [if_neg h3]
        dsimp only
        rw [rSame_eq (by omega),equal_Rect (by omega)]
  · rw [region_Of_bad hl h,Option.bind_some,Option.bind_some,if_neg (by simp),if_neg (by simp)]
theorem rRight_true {a:List Rect} (h:RR a):ref06_Right a = some true:=by rw [rRight_eq (by have:=h.2.1; omega),region_Right_true h]
theorem rRight_false {a:List Rect} (hl:a.length ≤ 100000) (h : ¬ RR a):ref06_Right a = some false:=by rw [rRight_eq hl,region_Right_false hl h]
end Go.Proofs.YtagkmlkhaekldaaGreat

namespace Go.Proofs.YtagkmlkhaekldaaGreat
open Go.Gb
set_option linter.unusedVariables false
set_option linter.unusedSimpArgs false
set_option linter.unusedSectionVars false
set_option linter.unusedVariables false
set_option linter.unusedSimpArgs false

def slabRuns (s:List Slab):Runs (List Rect):=s.map fun x=>(x.Z0,x.Z1,x.Area)
theorem slabRuns_length (a:List Slab):(slabRuns a).length = a.length:=by simp [slabRuns]
theorem slabRuns_inj : ∀ {a b:List Slab},slabRuns a = slabRuns b → a = b
  | [],[],_=>rfl
  | [],_::_,h=>by simp [slabRuns] at h
  | _::_,[],h=>by simp [slabRuns] at h
  | ⟨f, t, u⟩ :: a, ⟨f', t', u'⟩ :: b, h => by
    simp only [slabRuns,List.map_cons,List.cons.injEq,Prod.mk.injEq] at h
    obtain ⟨⟨rfl,rfl,rfl⟩,h⟩:=h
    rw [slabRuns_inj (a:=a) (b:=b) h]
/-- The cross-section at z. -/
def sect (s:List Slab) (z:Int):List Rect:=rval [] (slabRuns s) z
/-- The cube (x, y, z) is in the solid. -/
def scells (s:List Slab) (x y z:Int):Prop:=cells (sect s z) x y
instance (s:List Slab) (x y z:Int):Decidable (scells s x y z):=inferInstanceAs (Decidable (cells _ _ _))
/-- The list is the solid of the set of cubes. -/
structure IsSolid (S:Int → Int → Int → Prop) (out:List Slab):Prop where
  canon:Canon [] (slabRuns out)
  form : ∀ z,IsForm (fun x y=>S x y z) (sect out z)
theorem IsSolid.unique {S S' : Int → Int → Int → Prop} {out out' : List Slab} (h:IsSolid S out) (h' : IsSolid S' out') (he : ∀ x y z,S x y z ↔ S' x y z):out = out':=
  slabRuns_inj (canon_unique h.canon h'.canon fun z=>(h.form z).unique (h'.form z) fun x y=>he x y z)
theorem IsSolid.congr {S S' : Int → Int → Int → Prop} {out:List Slab} (h:IsSolid S out) (he : ∀ x y z,S x y z ↔ S' x y z):IsSolid S' out:=
  ⟨h.canon,fun z=>(h.form z).congr fun x y=>he x y z⟩
theorem IsSolid.cells {S:Int → Int → Int → Prop} {out:List Slab} (h:IsSolid S out) (x y z:Int):scells out x y z ↔ S x y z:=(h.form z).cells x y
theorem IsSolid.self {S:Int → Int → Int → Prop} {out:List Slab} (h:IsSolid S out):IsSolid (scells out) out:=h.congr fun x y z=>(h.cells x y z).symm

/-- The list is a solid. -/
structure SS (s:List Slab):Prop where
  len:s.length ≤ 80
  canon:Canon [] (slabRuns s)
  ok : ∀ b ∈ s,0 ≤ b.Z0∧b.Z1 ≤ 4096∧RR b.Area
theorem SS.sect {s:List Slab} (h:SS s) (z:Int):RR (sect s z):=by
  rcases rval_mem (e:=[]) (l:=slabRuns s) (x:=z) with h1 | ⟨a,b,h1,_⟩
  · unfold YtagkmlkhaekldaaGreat.sect; rw [h1]; exact RR_nil
  · obtain ⟨x, hx, he⟩ := List.mem_map.1 h1
    simp only [Prod.mk.injEq] at he
    unfold YtagkmlkhaekldaaGreat.sect; rw [← he.2.2]; exact (h.ok x hx).2.2
theorem SS.solid {s:List Slab} (h:SS s):IsSolid (scells s) s:=⟨h.canon,fun z=>(h.sect z).2.2⟩
theorem slab_mem {s:List Slab} {b:Slab} (h:b ∈ s):(b.Z0,b.Z1,b.Area) ∈ slabRuns s:=List.mem_map.2 ⟨b,h,rfl⟩
theorem slab_pos {s:List Slab} (h:Canon [] (slabRuns s)) {b:Slab} (hb:b ∈ s):b.Z0 < b.Z1∧b.Area ≠ []:=canon_mem h (slab_mem hb)
theorem sect_mem {s:List Slab} (h:Canon [] (slabRuns s)) {b:Slab} (hb:b ∈ s) {z:Int} (h1:b.Z0 ≤ z) (h2:z < b.Z1):sect s z = b.Area:=rval_of_mem h (slab_mem hb) h1 h2
theorem slabs_canon {s:List Slab}:Canon [] (slabRuns s) ↔ (∀ i (h:i < s.length),s[i].Z0 < s[i].Z1∧s[i].Area ≠ []) ∧
    ∀ i (h:i + 1 < s.length),s[i].Z1 < s[i + 1].Z0 ∨ (s[i].Z1 = s[i + 1].Z0∧s[i].Area ≠ s[i + 1].Area):=by
  rw [canon_iff]
  simp only [slabRuns_length]
  simp only [slabRuns,List.getElem_map]

/-! Right -/
theorem solid_Right_spec {s:List Slab} (ha : ∀ b ∈ s,b.Area.length ≤ 100000) : ∃ b,solid_Right s = some b∧(b = true ↔ SS s):=by
  unfold solid_Right
  by_cases hl:80 < s.length
  · rw [if_pos (by simp; omega)]
    exact ⟨_,rfl,by simp,fun h=>absurd h.len (by omega)⟩
  · rw [if_neg (by simp; omega)]
    have hstep : ∀ i,i < s.length → (∀ j,j < i → ¬ ¬ ((∃ h:j < s.length,0 ≤ s[j].Z0∧s[j].Z0 < s[j].Z1∧s[j].Z1 ≤ 4096∧s[j].Area ≠ []∧RR s[j].Area)∧∀ h0:0 < j,∀ h:j < s.length,(s[j - 1]'(by omega)).Z1 < s[j].Z0 ∨ ((s[j - 1]'(by omega)).Z1 = s[j].Z0∧(s[j - 1]'(by omega)).Area ≠ s[j].Area))) →
        (¬ ((∃ h:i < s.length,0 ≤ s[i].Z0∧s[i].Z0 < s[i].Z1∧s[i].Z1 ≤ 4096∧s[i].Area ≠ []∧RR s[i].Area)∧∀ h0:0 < i,∀ h:i < s.length,(s[i - 1]'(by omega)).Z1 < s[i].Z0 ∨ ((s[i - 1]'(by omega)).Z1 = s[i].Z0∧(s[i - 1]'(by omega)).Area ≠ s[i].Area)) ∧
          solid_Right_L0 s (i:Int) = some (.ret false)) ∨
        (¬ ¬ ((∃ h:i < s.length,0 ≤ s[i].Z0∧s[i].Z0 < s[i].Z1∧s[i].Z1 ≤ 4096∧s[i].Area ≠ []∧RR s[i].Area)∧∀ h0:0 < i,∀ h:i < s.length,(s[i - 1]'(by omega)).Z1 < s[i].Z0 ∨ ((s[i - 1]'(by omega)).Z1 = s[i].Z0∧(s[i - 1]'(by omega)).Area ≠ s[i].Area)) ∧
          solid_Right_L0 s (i:Int) = some (.go ((i + 1:Nat):Int))):=by
      intro i hi _
      obtain ⟨rb,hr1,hr2⟩:=region_Right_spec (a:=s[i].Area) (ha _ (List.getElem_mem hi))
      unfold solid_Right_L0
      rw [if_pos (by simpa using hi),getI_nat hi,Option.bind_some]
      by_cases h1:0 ≤ s[i].Z0∧s[i].Z0 < s[i].Z1∧s[i].Z1 ≤ 4096∧s[i].Area ≠ []
      · have hal : 0 < s[i].Area.length := List.length_pos_iff.2 h1.2.2.2
        rw [if_neg (by simp only [Bool.or_eq_true,decide_eq_true_eq,beq_iff_eq]; omega),hr1,Option.bind_some,Option.bind_some]
        cases rb
        · left
          rw [if_pos (by simp),Option.bind_some]
          refine ⟨fun h=>?_,rfl⟩
          obtain ⟨⟨_,_,_,_,_,h⟩,_⟩:=h
          exact absurd (hr2.2 h) (by simp)
        · have hRR := hr2.1 rfl
          rw [if_neg (by simp)]
          rcases Nat.eq_zero_or_pos i with rfl | h0
          · right
            rw [if_pos (by simp),Option.bind_some]
            dsimp only
            rw [addI_one (by omega),Option.bind_some]
            exact ⟨fun h=>h ⟨⟨hi,h1.1,h1.2.1,h1.2.2.1,h1.2.2.2,hRR⟩,fun h=>absurd h (Nat.lt_irrefl _)⟩,rfl⟩
          · have hsame : region_Same (s[i - 1]'(by omega)).Area s[i].Area = some (decide ((s[i - 1]'(by omega)).Area = s[i].Area)) := region_Same_eq (by have := ha _ (List.getElem_mem (show i - 1 < s.length by omega)); omega)
            rw [if_neg (by simp; omega),subI_nat h0 (by omega),Option.bind_some,getI_nat (show i - 1 < s.length by omega),Option.bind_some]
            have hcond:(if decide (s[i].Z0 < (s[i - 1]'(by omega)).Z1) = true then some true else (if ((s[i - 1]'(by omega)).Z1 == s[i].Z0) = true then (region_Same (s[i - 1]'(by omega)).Area s[i].Area).bind fun x=>some x else some false).bind fun x=>some x) =
                some (decide (¬ ((s[i - 1]'(by omega)).Z1 < s[i].Z0 ∨ ((s[i - 1]'(by omega)).Z1 = s[i].Z0∧(s[i - 1]'(by omega)).Area ≠ s[i].Area)))):=by
              by_cases c1:s[i].Z0 < (s[i - 1]'(by omega)).Z1
              · rw [if_pos (by simpa using c1)]; congr 1; simp; omega
              · rw [if_neg (by simpa using c1), hsame]
                by_cases c2:(s[i - 1]'(by omega)).Z1 = s[i].Z0
                · rw [if_pos (by simpa using c2)]; simp [c2]
                · rw [if_neg (by simpa using c2)]; simp; omega
            rw [hcond,Option.bind_some]
            by_cases c:(s[i - 1]'(by omega)).Z1 < s[i].Z0 ∨ ((s[i - 1]'(by omega)).Z1 = s[i].Z0∧(s[i - 1]'(by omega)).Area ≠ s[i].Area)
            · right
              rw [if_neg (by simp only [decide_eq_true_eq,Classical.not_not]; exact c),Option.bind_some]
              dsimp only
              rw [addI_one (by omega),Option.bind_some]
              exact ⟨fun h=>h ⟨⟨hi,h1.1,h1.2.1,h1.2.2.1,h1.2.2.2,hRR⟩,fun _ _=>c⟩,rfl⟩
            · left
              rw [if_pos (decide_eq_true c),Option.bind_some]
              exact ⟨fun h=>c (h.2 h0 hi),rfl⟩
      · left
        rw [if_pos (by
          simp only [Bool.or_eq_true,decide_eq_true_eq,beq_iff_eq]
          rcases Int.lt_or_le s[i].Z0 0 with g | g
          · exact .inl (.inl (.inl g))
          · rcases Int.lt_or_le s[i].Z0 s[i].Z1 with g2 | g2
            · rcases Int.lt_or_le 4096 s[i].Z1 with g3 | g3
              · exact .inl (.inr g3)
              · right
                have:s[i].Area = []:=Classical.not_not.1 fun h=>h1 ⟨g,g2,g3,h⟩
                rw [this]; rfl
            · exact .inl (.inl (.inr g2))),Option.bind_some,if_pos rfl,Option.bind_some]
        refine ⟨fun h=>h1 ?_,rfl⟩
        obtain ⟨⟨_,a,b,c,d,_⟩,_⟩:=h
        exact ⟨a,b,c,d⟩
    rcases iter_findN (body:=solid_Right_L0 s) (k:=0) s.length (fun i=>¬ ((∃ h:i < s.length,0 ≤ s[i].Z0∧s[i].Z0 < s[i].Z1∧s[i].Z1 ≤ 4096∧s[i].Area ≠ []∧RR s[i].Area)∧∀ h0:0 < i,∀ h:i < s.length,(s[i - 1]'(by omega)).Z1 < s[i].Z0 ∨ ((s[i - 1]'(by omega)).Z1 = s[i].Z0∧(s[i - 1]'(by omega)).Area ≠ s[i].Area))) (fun _=>false) hstep (by
        unfold solid_Right_L0
        rw [if_neg (by simp)]) (fuel:=s.length + 1) (by omega) with ⟨i,hi,hp,_,h⟩ | ⟨hp,h⟩
    · rw [h, Option.bind_some]
      refine ⟨_,rfl,by simp,fun hS=>absurd ⟨⟨hi,?_⟩,fun h0 _=>?_⟩ hp⟩
      · have h1 := hS.ok _ (List.getElem_mem hi)
        have h2:=slab_pos hS.canon (List.getElem_mem hi)
        exact ⟨h1.1,h2.1,h1.2.1,h2.2,h1.2.2⟩
      · have := (slabs_canon.1 hS.canon).2 (i - 1) (by omega)
        have e:i - 1 + 1 = i:=by omega
        simp only [e] at this
        exact this
    · rw [h, Option.bind_some]
      have hp' : ∀ i (hi:i < s.length),(0 ≤ s[i].Z0∧s[i].Z0 < s[i].Z1∧s[i].Z1 ≤ 4096∧s[i].Area ≠ []∧RR s[i].Area)∧∀ h0:0 < i,(s[i - 1]'(by omega)).Z1 < s[i].Z0 ∨ ((s[i - 1]'(by omega)).Z1 = s[i].Z0∧(s[i - 1]'(by omega)).Area ≠ s[i].Area):=by
        intro i hi
        have:=Classical.not_not.1 (hp i hi)
        exact ⟨this.1.2,fun h0=>this.2 h0 hi⟩
      refine ⟨_,rfl,fun _=>⟨by omega,slabs_canon.2 ⟨fun i hi=>⟨(hp' i hi).1.2.1,(hp' i hi).1.2.2.2.1⟩,fun i hi=>(hp' (i + 1) hi).2 (by omega)⟩,fun b hb=>?_⟩,fun _=>rfl⟩
      obtain ⟨i,hi,rfl⟩:=List.getElem_of_mem hb
      have:=(hp' i hi).1
      exact ⟨this.1,this.2.2.1,this.2.2.2.2⟩
theorem solid_Right_true {s:List Slab} (h:SS s):solid_Right s = some true:=by
  obtain ⟨b,h1,h2⟩:=solid_Right_spec (s:=s) (fun b hb=>by have:=(h.ok b hb).2.2.2.1; omega)
  rw [h1,h2.2 h]
/-! put -/
theorem put_spec {out:List Slab} {x:Slab} (hl:out.length ≤ 1000000) (ha : ∀ b ∈ out,b.Area.length ≤ 1000000) :
    ∃ o,solid_put out x = some o∧slabRuns o = pushR [] (slabRuns out) x.Z0 x.Z1 x.Area∧o.length ≤ out.length + 1∧∀ b ∈ o,b.Area = x.Area ∨ ∃ c ∈ out,b.Area = c.Area:=by
  unfold solid_put
  by_cases h0:x.Area = []
  · rw [if_pos (by simp [h0])]
    exact ⟨out,rfl,by rw [h0]; simp [pushR],by omega,fun b hb=>.inr ⟨b,hb,rfl⟩⟩
  · have hlen : 0 < x.Area.length := List.length_pos_iff.2 h0
    rw [if_neg (by simp; omega)]
    rcases List.eq_nil_or_concat out with rfl | ⟨o,t,rfl⟩
    · have e : subI (([] : List Slab).length : Int) 1 = some (-1) := by decide
      rw [e,Option.bind_some,if_neg (by decide),Option.bind_some,if_neg (by simp),Option.bind_some,if_neg (by simp),appI_some (by simp),Option.bind_some]
      exact ⟨[x],rfl,by simp [pushR,slabRuns,h0],by simp,by simp⟩
    · rw [List.concat_eq_append] at *
      have hol:o.length < 1000000:=by simp at hl; omega
      have hta:=ha t (by simp)
      rw [subI_len (by omega),Option.bind_some,if_pos (by simp),getI_concat rfl,Option.bind_some,Option.bind_some]
      have hp:pushR [] (slabRuns (o ++ [t])) x.Z0 x.Z1 x.Area = if t.Z1 = x.Z0∧t.Area = x.Area then slabRuns o ++ [(t.Z0,x.Z1,x.Area)] else slabRuns (o ++ [t]) ++ [(x.Z0,x.Z1,x.Area)]:=by
        unfold pushR
        rw [if_neg h0]
        simp [slabRuns]
      by_cases h1:t.Z1 = x.Z0
      · rw [if_pos (by simpa using h1), Option.bind_some, region_Same_eq hta, Option.bind_some, Option.bind_some]
        by_cases h2:t.Area = x.Area
        · rw [if_pos (by simpa using h2), Option.bind_some, Option.bind_some, set_concat (by simp)]
          refine ⟨_,rfl,?_,by simp,fun b hb=>?_⟩
          · rw [hp,if_pos ⟨h1,h2⟩]; simp [slabRuns,h2]
          · rcases List.mem_append.1 hb with hb | hb
            · exact .inr ⟨b,by simp [hb],rfl⟩
            · simp only [List.mem_singleton] at hb; subst hb; exact .inl h2
        · rw [if_neg (by simpa using h2), appI_some (by simp; omega), Option.bind_some]
          refine ⟨_,rfl,?_,by simp,fun b hb=>?_⟩
          · rw [hp,if_neg (fun h=>h2 h.2)]; simp [slabRuns]
          · rcases List.mem_append.1 hb with hb | hb
            · exact .inr ⟨b,hb,rfl⟩
            · simp only [List.mem_singleton] at hb; subst hb; exact .inl rfl
      · rw [if_neg (by simpa using h1), Option.bind_some, if_neg (by simp), appI_some (by simp; omega), Option.bind_some]
        refine ⟨_,rfl,?_,by simp,fun b hb=>?_⟩
        · rw [hp,if_neg (fun h=>h1 h.1)]; simp [slabRuns]
        · rcases List.mem_append.1 hb with hb | hb
          · exact .inr ⟨b,hb,rfl⟩
          · simp only [List.mem_singleton] at hb; subst hb; exact .inl rfl

/-! Heights -/
structure IsZ (zs:List Int) (l:List Slab):Prop where
  asc:zs.Pairwise fun a b=>a < b
  mem : ∀ z,z ∈ zs ↔ ∃ s ∈ l,z = s.Z0 ∨ z = s.Z1
  len:zs.length ≤ 2 * l.length
theorem heights_L1 {l:List Slab} {o:List Int} (hl:l.length ≤ 100000) (ho:o.length ≤ 10000000) :
    iterL (solid_heights_L1 l) (l.length + 1) (o,0) = some (.ex 2 (o ++ l.flatMap (fun s=>[s.Z0,s.Z1]),(l.length:Int)))∧(o ++ l.flatMap fun s=>[s.Z0,s.Z1]).length = o.length + 2 * l.length:=by
  obtain ⟨h1,h2⟩:=iter_range (k:=2) (l:=l) (body:=solid_heights_L1 l) (fun (s:List Int) i=>(s,i)) (fun s r=>s ++ [r.Z0,r.Z1]) (fun i s=>s.length = o.length + 2 * i) (by
    intro i hi s hI
    constructor
    · unfold solid_heights_L1
      dsimp only
      rw [if_pos (by simpa using hi),getI_nat hi,Option.bind_some,appI_some (by simp; omega),Option.bind_some,addI_one (by omega),Option.bind_some]
    · simp; omega) (by
    intro s _
    unfold solid_heights_L1
    dsimp only
    rw [if_neg (by simp)]) (s0:=o) (by omega) (fuel:=l.length + 1) (by omega)
  rw [foldl_flatMap (fun r:Slab=>[r.Z0,r.Z1])] at h1 h2
  exact ⟨h1,h2⟩
theorem heights_spec {ls:List (List Slab)} (hn:ls.length ≤ 1000) (hl : ∀ l ∈ ls,l.length ≤ 400) : ∃ zs,solid_heights ls = some zs∧IsZ zs ls.flatten:=by
  unfold solid_heights
  obtain ⟨h1,h2⟩:=iter_range (k:=0) (l:=ls) (body:=solid_heights_L0 ls) (fun (s:List Int) i=>(s,i)) (fun s l=>s ++ l.flatMap fun s=>[s.Z0,s.Z1]) (fun i s=>s.length ≤ 800 * i∧s = (ls.take i).flatten.flatMap (fun s=>[s.Z0,s.Z1])) (by
    intro i hi s ⟨hI,hI2⟩
    have hli:=hl _ (List.getElem_mem hi)
    obtain ⟨g1,g2⟩:=heights_L1 (l:=ls[i]) (o:=s) (by omega) (by omega)
    refine ⟨?_,by rw [g2]; omega,?_⟩
    · unfold solid_heights_L0
      dsimp only
      rw [if_pos (by simpa using hi),getI_nat hi,Option.bind_some,g1,Option.bind_some]
      dsimp only
      rw [addI_one (by omega),Option.bind_some]
    · rw [List.take_succ_eq_append_getElem hi,List.flatten_append,List.flatten_cons,List.flatten_nil,List.append_nil,List.flatMap_append,← hI2]) (by
    intro s _
    unfold solid_heights_L0
    dsimp only
    rw [if_neg (by simp)]) (s0:=[]) ⟨by simp,by simp⟩ (fuel:=ls.length + 1) (by omega)
  rw [h1,Option.bind_some]
  dsimp only
  obtain ⟨h2,h2'⟩:=h2
  rw [List.take_length] at h2'
  generalize ls.foldl (fun s l=>s ++ l.flatMap fun s=>[s.Z0,s.Z1]) [] = ys at h2 h2'
  obtain ⟨ws,h3,h4,h5⟩:=sortInts_spec (l:=ys) (by omega)
  have hzl:=h4.length_eq
  obtain ⟨zs,h6,h7,h8,h9⟩:=compactInts_spec (l:=ws) (by omega) h5
  rw [h3,Option.bind_some,h6,Option.bind_some]
  refine ⟨zs,rfl,h7,fun z=>?_,?_⟩
  · rw [h8, h4.mem_iff, h2']
    simp [List.mem_flatMap]
  · have : ∀ l : List Slab, (l.flatMap fun s => [s.Z0, s.Z1]).length = 2 * l.length := by
      intro l
      induction l with
      | nil=>rfl
      | cons a l ih=>simp only [List.flatMap_cons,List.length_append,List.length_cons,List.length_nil,ih]; omega
    have:=this ls.flatten
    rw [← h2'] at this
    omega

/-! The solid of a function of z that is constant between cuts -/
/-- No more than 200 rectangles in a cross-section, no more than 80 slabs. -/
def slim (out:List Slab):List Slab × Int:=if (∃ s ∈ out,200 < s.Area.length) ∨ 80 < out.length then ([],6) else (out,0)
theorem fits_eq {out:List Slab} (h : ∀ s ∈ out,s.Area.length ≤ 200):solid_fits out = some (slim out):=by
  have hno : ¬ ∃ s ∈ out,200 < s.Area.length:=fun ⟨s,hs,h'⟩=>by have:=h s hs; omega
  unfold solid_fits slim
  by_cases h2:80 < out.length
  · rw [if_pos (by simp; omega),if_pos (.inr h2)]
  · rw [if_neg (by simp; omega),if_neg (fun h=>h.elim hno h2)]
def unslab (G:Runs (List Rect)):List Slab:=G.map fun g=>⟨g.1,g.2.1,g.2.2⟩
theorem slabRuns_unslab (G:Runs (List Rect)):slabRuns (unslab G) = G:=by
  unfold slabRuns unslab
  rw [List.map_map]
  exact List.map_id'' (fun _=>rfl) G
theorem build_solid {S:Int → Int → Int → Prop} {zs:List Int} (hz:zs.Pairwise fun a b=>a < b) {A:Int → List Rect} (hA : ∀ z,IsForm (fun x y=>S x y z) (A z))
    (hc : ∀ i (h:i + 1 < zs.length) z,zs[i] ≤ z → z < zs[i + 1] → ∀ x y,S x y zs[i] ↔ S x y z) (ho : ∀ z,(∀ i (h:i + 1 < zs.length),¬ (zs[i] ≤ z∧z < zs[i + 1])) → ∀ x y,¬ S x y z) :
    IsSolid S (unslab (build [] zs A (zs.length - 1)))∧(∀ i (h:i + 1 < zs.length),A zs[i] ≠ [] → ∃ s ∈ unslab (build [] zs A (zs.length - 1)),s.Area = A zs[i])∧∀ s ∈ unslab (build [] zs A (zs.length - 1)),∃ i,∃ h:i + 1 < zs.length,s.Area = A zs[i]:=by
  rcases Nat.eq_zero_or_pos zs.length with h0 | h0
  · have e : build [] zs A (zs.length - 1) = [] := by rw [h0]; rfl
    rw [e]
    refine ⟨⟨trivial,fun z=>?_⟩,fun i h=>absurd h (by omega),by simp [unslab]⟩
    exact form_nil.congr fun x y=>⟨False.elim,fun h=>ho z (fun i hi=>absurd hi (by omega)) x y h⟩
  · obtain ⟨h1, _, h3, h4, h5⟩ := build_spec hz A (zs.length - 1) (by omega)
    generalize hG:build [] zs A (zs.length - 1) = G at h1 h3 h4 h5
    have hin : ∀ i (h:i + 1 < zs.length) z,zs[i] ≤ z → z < zs[i + 1] → rval [] G z = A zs[i]:=fun i h z a b=>h3 i h (by omega) z a b
    refine ⟨⟨by rw [slabRuns_unslab]; exact h1,fun z=>?_⟩,fun i h hne=>?_,fun s hs=>?_⟩
    · unfold sect
      rw [slabRuns_unslab]
      by_cases hz' : ∃ i,∃ h:i + 1 < zs.length,zs[i] ≤ z∧z < zs[i + 1]
      · obtain ⟨i, h, a, b⟩ := hz'
        rw [hin i h z a b]
        exact (hA _).congr fun x y=>hc i h z a b x y
      · have hz2 : ∀ i (h : i + 1 < zs.length), ¬ (zs[i] ≤ z ∧ z < zs[i + 1]) := fun i h hh => hz' ⟨i, h, hh⟩
        rw [h4 z fun j hj _=>hz2 j hj]
        exact form_nil.congr fun x y=>⟨False.elim,fun h=>ho z hz2 x y h⟩
    · have hlt : zs[i] < zs[i + 1] := (List.pairwise_iff_getElem.1 hz) i (i + 1) (by omega) h (by omega)
      have hv:=hin i h zs[i] (Int.le_refl _) hlt
      rcases rval_mem (e:=[]) (l:=G) (x:=zs[i]) with h6 | ⟨a,b,h6,_⟩
      · rw [hv] at h6; exact absurd h6 hne
      · rw [hv] at h6
        exact ⟨⟨a,b,A zs[i]⟩,List.mem_map.2 ⟨_,h6,rfl⟩,rfl⟩
    · obtain ⟨g, hg, rfl⟩ := List.mem_map.1 hs
      obtain ⟨j,hj,hjn,he⟩:=h5 g hg
      exact ⟨j,by omega,he⟩
end Go.Proofs.YtagkmlkhaekldaaGreat

namespace Go.Proofs.YtagkmlkhaekldaaGreat
open Go.Gb
set_option linter.unusedVariables false
set_option linter.unusedSimpArgs false
set_option linter.unusedSectionVars false
set_option linter.unusedVariables false
set_option linter.unusedSimpArgs false

/-- One slab after the other. -/
theorem solid_loop {body:List Slab × Int → Option (Flow (List Slab × Int) (List Slab × Int))} {k:Nat} {zs:List Int} {A:Int → List Rect} (hz:zs.Pairwise fun a b=>a < b) (hzl:zs.length ≤ 100000)
    (hb : ∀ i (h1:1 ≤ i) (hi:i < zs.length) (s:List Slab),(200 < (A (zs[i - 1]'(by omega))).length → body (s,(i:Int)) = some (.ret ([],6))) ∧
      ((A (zs[i - 1]'(by omega))).length ≤ 200 → body (s,(i:Int)) = (solid_put s ⟨zs[i - 1]'(by omega),zs[i],A (zs[i - 1]'(by omega))⟩).bind fun o=>some (.go (o,((i + 1:Nat):Int)))))
    (hd : ∀ s,body (s,(zs.length:Int)) = some (.ex k (s,(zs.length:Int)))) (h1:0 < zs.length) {fuel:Nat} (hf:zs.length < fuel) :
    (iterL body fuel (([]:List Slab),1) = some (.ex k (unslab (build [] zs A (zs.length - 1)),(zs.length:Int)))∧∀ b ∈ unslab (build [] zs A (zs.length - 1)),b.Area.length ≤ 200) ∨
    (iterL body fuel (([]:List Slab),1) = some (.ret ([],6))∧∃ j,∃ h:j + 1 < zs.length,200 < (A zs[j]).length):=by
  rcases iter_fromR (k:=k) (body:=body) (fun (s:List Slab) i=>(s,i)) 1 zs.length h1 (fun i s=>slabRuns s = build [] zs A (i - 1)∧s.length < i∧∀ b ∈ s,b.Area.length ≤ 200)
    (fun r=>r = ([],6)∧∃ j,∃ h:j + 1 < zs.length,200 < (A zs[j]).length) (by
    intro i h1i hi s ⟨hI1,hI2,hI3⟩
    obtain ⟨b1,b2⟩:=hb i h1i hi s
    by_cases hc:200 < (A (zs[i - 1]'(by omega))).length
    · exact .inr ⟨_,b1 hc,rfl,i - 1,by omega,hc⟩
    · left
      obtain ⟨o,p1,p2,p3,p4⟩:=put_spec (out:=s) (x:=⟨zs[i - 1]'(by omega),zs[i],A (zs[i - 1]'(by omega))⟩) (by omega) (fun b hb=>by have:=hI3 b hb; omega)
      refine ⟨o,by rw [b2 (by omega),p1,Option.bind_some],?_,by omega,fun b hb=>?_⟩
      · rw [p2, hI1]
        have e:i + 1 - 1 = (i - 1) + 1:=by omega
        rw [e,build_succ (show i - 1 + 1 < zs.length by omega)]
        have e2:zs[i - 1 + 1]'(by omega) = zs[i]:=by congr 1; omega
        rw [e2]
      · rcases p4 b hb with h | ⟨c, hc', h⟩
        · rw [h]; dsimp only; omega
        · rw [h]; exact hI3 c hc') (fun s _=>hd s) (s0:=[]) ⟨rfl,by simp,by simp⟩ (fuel:=fuel) (by omega) with ⟨s,h2,h3,h4,h5⟩ | ⟨r,h2,rfl,h3⟩
  · left
    have e:s = unslab (build [] zs A (zs.length - 1)):=slabRuns_inj (by rw [h3,slabRuns_unslab])
    rw [← e]
    exact ⟨h2,h5⟩
  · exact .inr ⟨h2,h3⟩

/-! Of -/
def VB (b:Box):Prop:=VR b.Base∧0 ≤ b.Z0∧b.Z0 < b.Z1∧b.Z1 ≤ 4096
instance (b:Box):Decidable (VB b):=inferInstanceAs (Decidable (_∧_))
/-- The cube (x, y, z) is in one of the boxes. -/
def bcells (l:List Box) (x y z:Int):Prop:=∃ b ∈ l,rin b.Base x y∧b.Z0 ≤ z∧z < b.Z1
instance (l:List Box) (x y z:Int):Decidable (bcells l x y z):=inferInstanceAs (Decidable (∃ b ∈ l,_))
def bases (l:List Box) (z:Int):List Rect:=(l.filter fun b=>decide (b.Z0 ≤ z) && decide (z < b.Z1)).map (·.Base)
theorem bases_cells (l:List Box) (x y z:Int):cells (bases l z) x y ↔ bcells l x y z:=by
  unfold cells bcells bases
  constructor
  · rintro ⟨r, hr, h⟩
    obtain ⟨b,hb,rfl⟩:=List.mem_map.1 hr
    simp only [List.mem_filter,Bool.and_eq_true,decide_eq_true_eq] at hb
    exact ⟨b,hb.1,h,hb.2⟩
  · rintro ⟨b, hb, h, hz⟩
    exact ⟨b.Base,List.mem_map.2 ⟨b,by simp only [List.mem_filter,Bool.and_eq_true,decide_eq_true_eq]; exact ⟨hb,hz⟩,rfl⟩,h⟩
theorem bases_length (l:List Box) (z:Int):(bases l z).length ≤ l.length:=by unfold bases; rw [List.length_map]; exact List.length_filter_le _ _
theorem bases_right {l:List Box} (h : ∀ b ∈ l,VB b) (z:Int) : ∀ r ∈ bases l z,VR r:=by
  intro r hr
  obtain ⟨b,hb,rfl⟩:=List.mem_map.1 hr
  exact (h b (List.mem_filter.1 hb).1).1
theorem Of_L0 {l:List Box} (hl:l.length ≤ 100000) :
    (¬ (∀ b ∈ l,VB b)∧iterL (solid_Of_L0 l) (l.length + 1) (([]:List Slab),0) = some (.ret ([],1))) ∨
    ((∀ b ∈ l,VB b)∧iterL (solid_Of_L0 l) (l.length + 1) (([]:List Slab),0) = some (.ex 0 (l.map (fun b=>⟨b.Z0,b.Z1,[]⟩),(l.length:Int)))):=by
  rcases iter_fromR (k:=0) (body:=solid_Of_L0 l) (fun (s:List Slab) i=>(s,i)) 0 l.length (Nat.zero_le _) (fun i s=>s = (l.take i).map (fun b=>⟨b.Z0,b.Z1,[]⟩)∧∀ j (hj:j < l.length),j < i → VB l[j])
    (fun r=>r = ([],1)∧¬ ∀ b ∈ l,VB b) (by
    rintro i - hi s ⟨rfl,hV⟩
    unfold solid_Of_L0
    dsimp only
    rw [if_pos (by simpa using hi),getI_nat hi,Option.bind_some,rect_Right_eq,Option.bind_some]
    by_cases hv:VB l[i]
    · left
      have hv':=hv
      unfold VB at hv'
      refine ⟨(l.take (i + 1)).map (fun b=>⟨b.Z0,b.Z1,[]⟩),?_,rfl,fun j hj hji=>?_⟩
      · rw [if_neg (by simp only [Bool.or_eq_true, decide_eq_true_eq, Bool.not_eq_true', decide_eq_false_iff_not]; rintro (((h | h) | h) | h) <;> first | exact h hv'.1 | omega),
          appI_some (by simp; omega),Option.bind_some,addI_one (by omega),Option.bind_some,List.take_succ_eq_append_getElem hi,List.map_append]
        rfl
      · rcases Nat.lt_or_ge j i with h | h
        · exact hV j hj h
        · obtain rfl : j = i := by omega
          exact hv
    · right
      refine ⟨_,if_pos ?_,rfl,fun h=>hv (h _ (List.getElem_mem hi))⟩
      simp only [Bool.or_eq_true, decide_eq_true_eq, Bool.not_eq_true', decide_eq_false_iff_not]
      unfold VB at hv
      by_cases h1:VR l[i].Base
      · have : ¬ (0 ≤ l[i].Z0 ∧ l[i].Z0 < l[i].Z1 ∧ l[i].Z1 ≤ 4096) := fun h => hv ⟨h1, h⟩
        omega
      · exact .inl (.inl (.inl h1))) (by
    intro s _
    unfold solid_Of_L0
    dsimp only
    rw [if_neg (by simp)]) (s0:=[]) ⟨rfl,fun j _ h=>absurd h (Nat.not_lt_zero j)⟩ (fuel:=l.length + 1) (by omega) with ⟨s,h1,rfl,h2⟩ | ⟨r,h1,rfl,h2⟩
  · rw [List.take_length] at h1
    refine .inr ⟨fun b hb=>?_,h1⟩
    obtain ⟨j,hj,rfl⟩:=List.getElem_of_mem hb
    exact h2 j hj hj
  · exact .inl ⟨h2,h1⟩
theorem Of_L2 {l:List Box} (hl:l.length ≤ 100000) {zs:List Int} {s:List Slab} {i:Nat} (h1:1 ≤ i) (hi:i < zs.length) (hil:i < 1000000) (hz : ∀ b ∈ l,b.Z0 < zs[i] ↔ b.Z0 ≤ zs[i - 1]'(by omega)) :
    iterL (solid_Of_L2 l zs (s,(i:Int))) (l.length + 1) (([]:List Rect),0) = some (.ex 4 (bases l (zs[i - 1]'(by omega)),(l.length:Int))):=by
  refine (iter_range (k:=4) (l:=l) (fun (o:List Rect) j=>(o,j)) (fun o b=>if (decide (b.Z0 ≤ zs[i - 1]'(by omega)) && decide ((zs[i - 1]'(by omega)) < b.Z1)) then o ++ [b.Base] else o) (fun j o=>o.length ≤ j) ?_ ?_ (s0:=[]) (Nat.zero_le _) (by omega)).1.trans ?_
  · intro j hj o hI
    have hzj:=hz _ (List.getElem_mem hj)
    constructor
    · unfold solid_Of_L2
      dsimp only
      rw [if_pos (by simpa using hj),getI_nat hj,Option.bind_some,getI_nat hi,Option.bind_some]
      have hcond:(if decide (l[j].Z0 < zs[i]) = true then (subI (i:Int) 1).bind fun x=>(getI zs x).bind fun y=>some (decide (y < l[j].Z1)) else some false) = some (decide (l[j].Z0 ≤ zs[i - 1]'(by omega)) && decide ((zs[i - 1]'(by omega)) < l[j].Z1)):=by
        by_cases c:l[j].Z0 < zs[i]
        · rw [if_pos (by simpa using c), subI_nat (by omega) (by omega), Option.bind_some, getI_nat (show i - 1 < zs.length by omega), Option.bind_some]
          simp [hzj.1 c]
        · rw [if_neg (by simpa using c)]
          have : ¬ l[j].Z0 ≤ zs[i - 1]'(by omega):=fun h=>c (hzj.2 h)
          simp [this]
      rw [hcond,Option.bind_some]
      split
      · rw [appI_some (by simp; omega),Option.bind_some,Option.bind_some,addI_one (by omega),Option.bind_some]
      · rw [Option.bind_some,addI_one (by omega),Option.bind_some]
    · split
      · simp; omega
      · omega
  · intro o _
    unfold solid_Of_L2
    dsimp only
    rw [if_neg (by simp)]
  · rw [foldl_filterMap (fun b : Box => decide (b.Z0 ≤ zs[i - 1]'(by omega)) && decide ((zs[i - 1]'(by omega)) < b.Z1)) (fun b => b.Base)]
    rfl
theorem z_cut {zs:List Int} (hp:zs.Pairwise fun a b=>a < b) {i:Nat} (h1:1 ≤ i) (hi:i < zs.length) {z:Int} (hz:z ∈ zs):z < zs[i] ↔ z ≤ zs[i - 1]'(by omega):=by
  have e:i - 1 + 1 = i:=by omega
  have hlt:(zs[i - 1]'(by omega)) < zs[i]:=(List.pairwise_iff_getElem.1 hp) (i - 1) i (by omega) hi (by omega)
  have:=asc_gap hp (i:=i - 1) (by omega) hz
  simp only [e] at this
  omega
theorem solid_Of_fine {l:List Box} (h : ∀ b ∈ l,VB b) (hm:l.length ≤ 200) : ∃ out,IsSolid (bcells l) out∧solid_Of l = some (slim out):=by
  have hex : ∀ z,∃ o,IsForm (fun x y=>bcells l x y z) o∧region_Of (bases l z) = some (lim o):=by
    intro z
    obtain ⟨o,h1,h2⟩:=region_Of_fine (bases_right h z) (by have:=bases_length l z; omega)
    exact ⟨o,h1.congr fun x y=>bases_cells l x y z,h2⟩
  obtain ⟨A,hA⟩:=Classical.axiomOfChoice hex
  obtain ⟨zs,hz1,hz2⟩:=heights_spec (ls:=[l.map fun b=>(⟨b.Z0,b.Z1,[]⟩:Slab)]) (by simp) (by simp; omega)
  have hzl:=hz2.len
  simp only [List.flatten_cons,List.flatten_nil,List.append_nil,List.length_map] at hzl
  have hmem : ∀ b ∈ l,b.Z0 ∈ zs∧b.Z1 ∈ zs:=by
    intro b hb
    refine ⟨(hz2.mem _).2 ⟨⟨b.Z0,b.Z1,[]⟩,?_,.inl rfl⟩,(hz2.mem _).2 ⟨⟨b.Z0,b.Z1,[]⟩,?_,.inr rfl⟩⟩ <;>
    · simp only [List.flatten_cons, List.flatten_nil, List.append_nil]
      exact List.mem_map.2 ⟨b,hb,rfl⟩
  obtain ⟨hS,hS2,hS3⟩:=build_solid (S:=bcells l) hz2.asc (fun z=>(hA z).1) (by
    intro i hi z h1 h2 x y
    refine exists_congr fun b=>and_congr_right fun hb=>and_congr_right fun _=>?_
    have g1:=asc_gap hz2.asc hi (hmem b hb).1
    have g2:=asc_gap hz2.asc hi (hmem b hb).2
    omega) (by
    rintro z hno x y ⟨b,hb,_,h1,h2⟩
    obtain ⟨i,hi,a1,a2⟩:=asc_between hz2.asc (hmem b hb).1 (hmem b hb).2 h1 h2
    exact hno i hi ⟨a1,a2⟩)
  refine ⟨_,hS,?_⟩
  unfold solid_Of
  rcases Of_L0 (l:=l) (by omega) with ⟨h1,_⟩ | ⟨_,h1⟩
  · exact absurd h h1
  · rw [h1, Option.bind_some]
    dsimp only
    rw [if_neg (by simp; omega),hz1,Option.bind_some]
    rcases Nat.eq_zero_or_pos zs.length with h0 | h0
    · obtain rfl : zs = [] := List.length_eq_zero_iff.1 h0
      have e:iterL (solid_Of_L1 l []) (l.length + ([]:List Int).length + ([]:List Slab).length + 1) (([]:List Slab),1) = some (.ex 2 (([]:List Slab),1)):=by
        have:solid_Of_L1 l [] (([]:List Slab),1) = some (.ex 2 (([]:List Slab),1)):=by
          unfold solid_Of_L1
          dsimp only
          rw [if_neg (by simp)]
        simp only [iterL,this]
      rw [e,Option.bind_some]
      dsimp only
      rw [fits_eq (by simp),Option.bind_some]
      rfl
    · rcases solid_loop (body := solid_Of_L1 l zs) (k := 2) (A := A) hz2.asc (by omega) (by
        intro i h1i hi s
        have hL2:=Of_L2 (l:=l) (by omega) (s:=s) h1i hi (by omega) (fun b hb=>z_cut hz2.asc h1i hi (hmem b hb).1)
        have hOf:=(hA (zs[i - 1]'(by omega))).2
        unfold solid_Of_L1
        dsimp only
        rw [if_pos (by simpa using hi),hL2,Option.bind_some]
        dsimp only
        rw [hOf,Option.bind_some]
        unfold lim
        constructor
        · intro hc
          rw [if_pos hc,if_pos (by decide)]
        · intro hc
          rw [if_neg (Nat.not_lt.2 hc),if_neg (by dsimp only; decide),subI_nat (by omega) (by omega),Option.bind_some,getI_nat (show i - 1 < zs.length by omega),Option.bind_some,getI_nat hi,Option.bind_some]
          rw [addI_one (by omega)]
          rfl) (by
        intro s
        unfold solid_Of_L1
        dsimp only
        rw [if_neg (by simp)]) h0 (fuel:=l.length + zs.length + ([]:List Slab).length + 1) (by simp; omega) with ⟨h2,h3⟩ | ⟨h2,j,hj,h3⟩
      · rw [h2, Option.bind_some]
        dsimp only
        rw [fits_eq h3,Option.bind_some]
      · rw [h2, Option.bind_some]
        dsimp only
        obtain ⟨s,hs1,hs2⟩:=hS2 j hj (fun e=>by rw [e] at h3; simp at h3)
        unfold slim
        rw [if_pos (.inl ⟨s,hs1,by rw [hs2]; exact h3⟩)]

/-! Combining -/
end Go.Proofs.YtagkmlkhaekldaaGreat

namespace Go.Proofs.YtagkmlkhaekldaaGreat
open Go.Gb
set_option linter.unusedVariables false
set_option linter.unusedSimpArgs false
set_option linter.unusedSectionVars false
set_option linter.unusedVariables false
set_option linter.unusedSimpArgs false

/-! What is asked of a region -/
theorem rect_checked_eq (r:Rect):rect_checked r = some (if VR r then (r,true) else (⟨0,0,0,0⟩,false)):=by
  unfold rect_checked
  rw [rect_Right_eq,Option.bind_some]
  by_cases h:VR r <;> simp [h]
/-- The number of cells. -/
def areaL (l:List Rect):Int:=sumL (fun r=>(r.X1 - r.X0) * (r.Y1 - r.Y0)) l
def ind (b:Bool):Int:=if b then 1 else 0
theorem ind_bounds (b:Bool):0 ≤ ind b∧ind b ≤ 1:=by cases b <;> simp [ind]
theorem area_form {S:Int → Int → Prop} [∀ x y,Decidable (S x y)] {out:List Rect} (h:IsForm S out) {M:Nat} (hb : ∀ r ∈ out,0 ≤ r.X0∧r.X1 ≤ M∧0 ≤ r.Y0∧r.Y1 ≤ M) :
    areaL out = sumN (fun x=>sumN (fun y=>ind (decide (S x y))) M) M:=by
  obtain ⟨G,h1,h2,h3,rfl⟩:=h
  have hG : ∀ g ∈ G,(0 ≤ g.1∧g.2.1 ≤ M)∧∀ s ∈ g.2.2,0 ≤ s.1∧s.2.1 ≤ M:=by
    intro g hg
    have hmem : ∀ s ∈ g.2.2,(⟨g.1,s.1,g.2.1,s.2.1⟩:Rect) ∈ flatG G:=fun s hs=>List.mem_flatMap.2 ⟨g,hg,List.mem_map.2 ⟨s,hs,rfl⟩⟩
    refine ⟨?_,fun s hs=>?_⟩
    · obtain ⟨a, b, c⟩ := g
      have hne:=(canon_mem h1 hg).2
      cases c with
      | nil=>exact absurd rfl hne
      | cons s c =>
        have:=hb _ (hmem s (by simp))
        exact ⟨this.1,this.2.1⟩
    · have := hb _ (hmem s hs)
      exact ⟨this.2.2.1,this.2.2.2⟩
  have e1:areaL (flatG G) = sumL (fun g=>(g.2.1 - g.1) * sumN (fun y=>ind (rval false g.2.2 (y:Int))) M) G:=by
    unfold areaL flatG
    rw [sumL_flatMap]
    refine sumL_congr fun g hg=>?_
    obtain ⟨a,b,c⟩:=g
    have hc:=h2 a b c hg
    rw [← sum_runs (w:=ind) (e:=false) rfl hc (hG _ hg).2,sumL_map,← sumL_mul]
    refine sumL_congr fun s hs=>?_
    have:s.2.2 = true:=by
      have:=(canon_mem hc (show (s.1,s.2.1,s.2.2) ∈ c from hs)).2
      cases hv:s.2.2
      · rw [hv] at this; exact absurd rfl this
      · rfl
    rw [this]; simp [ind]
  rw [e1,sum_runs (e:=[]) (w:=fun c:Col=>sumN (fun y=>ind (rval false c (y:Int))) M) (by simp only [rval]; exact sumN_zero) h1 fun r hr=>(hG r hr).1]
  refine sumN_congr fun x _=>sumN_congr fun y _=>?_
  congr 1
  rw [Bool.eq_iff_iff,h3,decide_eq_true_eq]
theorem area_bound {S:Int → Int → Prop} {out:List Rect} (h:IsForm S out) (hb : ∀ r ∈ out,VR r):0 ≤ areaL out∧areaL out ≤ 1099511627776:=by
  classical
  have hb' : ∀ r ∈ out,0 ≤ r.X0∧r.X1 ≤ ((1048576:Nat):Int)∧0 ≤ r.Y0∧r.Y1 ≤ ((1048576:Nat):Int):=fun r hr=>by
    have:=hb r hr
    unfold VR at this
    omega
  rw [area_form h hb']
  generalize hM:(1048576:Nat) = M
  have h1 : ∀ x:Nat,0 ≤ sumN (fun y:Nat=>ind (decide (S (x:Int) (y:Int)))) M∧sumN (fun y:Nat=>ind (decide (S (x:Int) (y:Int)))) M ≤ M * 1:=fun x=>
    ⟨sumN_nonneg fun i _=>(ind_bounds _).1,sumN_le fun i _=>(ind_bounds _).2⟩
  refine ⟨sumN_nonneg fun i _=>(h1 i).1,?_⟩
  have h2:=sumN_le (f:=fun x:Nat=>sumN (fun y:Nat=>ind (decide (S (x:Int) (y:Int)))) M) (m:=M * 1) (n:=M) fun i _=>(h1 i).2
  subst hM
  exact h2
theorem rect_Area_eq {r:Rect} (h:VR r):rect_Area r = some ((r.X1 - r.X0) * (r.Y1 - r.Y0)):=by
  unfold rect_Area
  rw [rect_checked_eq,if_pos h,Option.bind_some]
  unfold VR at h
  have hm:(r.X1 - r.X0) * (r.Y1 - r.Y0) ≤ 1048576 * 1048576:=Int.mul_le_mul (by omega) (by omega) (by omega) (by omega)
  have hm0:0 ≤ (r.X1 - r.X0) * (r.Y1 - r.Y0):=Int.mul_nonneg (by omega) (by omega)
  rw [subI_some (by unfold inI; dsimp only; omega),Option.bind_some,subI_some (by unfold inI; dsimp only; omega),Option.bind_some,mulI_some (by unfold inI; dsimp only; omega),Option.bind_some]
theorem rect_area_bound {r:Rect} (h:VR r):0 ≤ (r.X1 - r.X0) * (r.Y1 - r.Y0)∧(r.X1 - r.X0) * (r.Y1 - r.Y0) ≤ 1099511627776:=by
  unfold VR at h
  exact ⟨Int.mul_nonneg (by omega) (by omega),Int.mul_le_mul (c:=1048576) (d:=1048576) (by omega) (by omega) (by omega) (by omega)⟩
theorem sumL_prefix {α:Type} {f:α → Int} {l:List α} (h : ∀ x ∈ l,0 ≤ f x) (i:Nat):0 ≤ sumL f (l.take i)∧sumL f (l.take i) ≤ sumL f l:=by
  have h1:=sumL_nonneg (l:=l.take i) fun x hx=>h x (List.mem_of_mem_take hx)
  have h2:=sumL_nonneg (l:=l.drop i) fun x hx=>h x (List.mem_of_mem_drop hx)
  have h3:sumL f l = sumL f (l.take i) + sumL f (l.drop i):=by rw [← sumL_append,List.take_append_drop]
  omega
theorem sumL_snoc {α:Type} {f:α → Int} {l:List α} {i:Nat} (hi:i < l.length):sumL f (l.take (i + 1)) = sumL f (l.take i) + f l[i]:=by
  rw [List.take_succ_eq_append_getElem hi,sumL_append]; simp [sumL]
theorem region_Area_fine {a:List Rect} (h:RR a):region_Area a = some (areaL a):=by
  unfold region_Area
  rw [region_Right_true h,Option.bind_some,if_neg (by simp)]
  have hl:=h.2.1
  have hb:=area_bound h.2.2 h.1
  have hn : ∀ r ∈ a,0 ≤ (r.X1 - r.X0) * (r.Y1 - r.Y0):=fun r hr=>(rect_area_bound (h.1 r hr)).1
  obtain ⟨h1,h2⟩:=iter_range (k:=0) (l:=a) (body:=region_Area_L0 a) (fun (s:Int) i=>(s,i)) (fun s r=>s + (r.X1 - r.X0) * (r.Y1 - r.Y0)) (fun i s=>s = sumL (fun r=>(r.X1 - r.X0) * (r.Y1 - r.Y0)) (a.take i)) (by
    intro i hi s hI
    have hp:=sumL_prefix hn (i + 1)
    rw [sumL_snoc hi,← hI] at hp
    unfold areaL at hb
    constructor
    · unfold region_Area_L0
      dsimp only
      rw [if_pos (by simpa using hi),getI_nat hi,Option.bind_some,rect_Area_eq (h.1 _ (List.getElem_mem hi)),Option.bind_some,addI_some (by unfold inI; omega),Option.bind_some,addI_one (by omega),Option.bind_some]
    · rw [sumL_snoc hi,← hI]) (by
    intro s _
    unfold region_Area_L0
    dsimp only
    rw [if_neg (by simp)]) (s0:=0) rfl (fuel:=a.length + 1) (by omega)
  rw [h1,Option.bind_some]
  dsimp only
  rw [h2,List.take_length]
  rfl
/-! What is asked of a solid -/
/-- The height over a cell. -/
def IsTop (s:List Slab) (x y t:Int):Prop:=0 ≤ t∧(∀ z,scells s x y z → z < t)∧(t = 0 ∨ scells s x y (t - 1))
theorem IsTop.unique {s:List Slab} {x y t t' : Int} (h:IsTop s x y t) (h' : IsTop s x y t'):t = t':=by
  obtain ⟨a1,a2,a3⟩:=h
  obtain ⟨b1,b2,b3⟩:=h'
  rcases a3 with rfl | a3
  · rcases b3 with rfl | b3
    · rfl
    · have:=a2 _ b3; omega
  · have := b2 _ a3
    rcases b3 with rfl | b3
    · omega
    · have:=a2 _ b3; omega
end Go.Proofs.YtagkmlkhaekldaaGreat

namespace Go.Proofs.YtagkmlkhaekldaaGreat
open Go.Gb
set_option linter.unusedVariables false
set_option linter.unusedSimpArgs false
set_option linter.unusedSectionVars false
set_option linter.unusedVariables false
set_option linter.unusedSimpArgs false

/-! Forms that can be checked by reckoning -/
def canonB {V:Type} [DecidableEq V] (e:V):Runs V → Bool
  | []=>true
  | (a,b,v)::t=>decide (a < b) && decide (v ≠ e) && (match t with | []=>true | (c,_,w)::_=>decide (b < c) || (decide (b = c) && decide (v ≠ w))) && canonB e t
theorem canonB_spec {V:Type} [DecidableEq V] {e:V} : ∀ {l:Runs V},canonB e l = true → Canon e l
  | [],_=>trivial
  | (a, b, v) :: t, h => by
    simp only [canonB,Bool.and_eq_true,decide_eq_true_eq] at h
    obtain ⟨⟨⟨h1,h2⟩,h3⟩,h4⟩:=h
    refine ⟨h1,h2,?_,canonB_spec h4⟩
    cases t with
    | nil=>trivial
    | cons r t =>
      obtain ⟨c,d,w⟩:=r
      simp only [Bool.or_eq_true,Bool.and_eq_true,decide_eq_true_eq] at h3
      exact h3
/-- The runs of columns of a list of rectangles, neighbours with the same ends in one. -/
def runsOf:List Rect → Runs Col
  | []=>[]
  | r :: l => match runsOf l with
    | []=>[(r.X0,r.X1,[(r.Y0,r.Y1,true)])]
    | (a,b,c)::t=>if r.X0 = a∧r.X1 = b then (a,b,(r.Y0,r.Y1,true)::c)::t else (r.X0,r.X1,[(r.Y0,r.Y1,true)])::(a,b,c)::t
theorem flatG_cons (a b:Int) (c:Col) (t:Runs Col):flatG ((a,b,c)::t) = (c.map fun s=>⟨a,s.1,b,s.2.1⟩) ++ flatG t:=rfl
theorem flatG_runsOf : ∀ l:List Rect,flatG (runsOf l) = l
  | []=>rfl
  | r :: l => by
    have ih:=flatG_runsOf l
    simp only [runsOf]
    split
    · rename_i h
      rw [h] at ih
      rw [← ih]; rfl
    · rename_i a b c t h
      rw [h] at ih
      split
      · rename_i h2
        obtain ⟨rfl,rfl⟩:=h2
        rw [← ih,flatG_cons,flatG_cons]; rfl
      · rw [flatG_cons,← ih]; rfl
def formB (l:List Rect):Bool:=canonB [] (runsOf l) && (runsOf l).all fun g=>canonB false g.2.2
theorem formB_spec {l:List Rect} (h:formB l = true):IsForm (cells l) l:=by
  unfold formB at h
  rw [Bool.and_eq_true,List.all_eq_true] at h
  have hf:IsForm (fun x y=>rval false (rval [] (runsOf l) x) y = true) l:=⟨runsOf l,canonB_spec h.1,fun a b c hm=>canonB_spec (h.2 _ hm),fun _ _=>Iff.rfl,(flatG_runsOf l).symm⟩
  exact hf.self
def rrB (l:List Rect):Bool:=l.all (fun r=>decide (VR r)) && decide (l.length ≤ 200) && formB l
theorem rrB_spec {l:List Rect} (h:rrB l = true):RR l:=by
  unfold rrB at h
  simp only [Bool.and_eq_true,List.all_eq_true,decide_eq_true_eq] at h
  exact ⟨h.1.1,h.1.2,formB_spec h.2⟩
def ssB (s:List Slab):Bool:=decide (s.length ≤ 80) && canonB [] (slabRuns s) && s.all fun b=>decide (0 ≤ b.Z0) && decide (b.Z1 ≤ 4096) && rrB b.Area
theorem ssB_spec {s:List Slab} (h:ssB s = true):SS s:=by
  unfold ssB at h
  simp only [Bool.and_eq_true,List.all_eq_true,decide_eq_true_eq] at h
  exact ⟨h.1.1,canonB_spec h.1.2,fun b hb=>⟨(h.2 b hb).1.1,(h.2 b hb).1.2,rrB_spec (h.2 b hb).2⟩⟩
theorem slim_fine {s:List Slab} (h:SS s):slim s = (s,0):=by
  unfold slim
  rw [if_neg]
  rintro (⟨b,hb,h'⟩ | h')
  · have:=(h.ok b hb).2.2.2.1; omega
  · have:=h.len; omega
theorem scells_iff {s:List Slab} {x y z:Int}:scells s x y z ↔ cells (sect s z) x y:=Iff.rfl
theorem sect_nil (z:Int):sect [] z = []:=rfl
end Go.Proofs.YtagkmlkhaekldaaGreat

