/- The plain part of the proof (no program in sight), part 1 -/
import Derived.Test.YtegglcdhfnjhcaaGreatT4
namespace Go.Proofs.YtegglcdhfnjhcaaGreat
open Go.Gb
set_option linter.unusedVariables false
set_option linter.unusedSimpArgs false
set_option linter.unusedSectionVars false
set_option linter.unusedVariables false
set_option linter.unusedSimpArgs false

/-- The cell (x, y) is in the rectangle. -/
def rin (r:Rect) (x y:Int):Prop:=(r.X0 ≤ x∧x < r.X1)∧r.Y0 ≤ y∧y < r.Y1
instance (r:Rect) (x y:Int):Decidable (rin r x y):=inferInstanceAs (Decidable (_∧_))
def cells (l:List Rect) (x y:Int):Prop:=∃ r ∈ l,rin r x y
def VR (r:Rect):Prop:=0 ≤ r.X0∧r.X0 < r.X1∧r.X1 ≤ 1048576∧0 ≤ r.Y0∧r.Y0 < r.Y1∧r.Y1 ≤ 1048576
instance (r:Rect):Decidable (VR r):=inferInstanceAs (Decidable (_∧_))
abbrev Col:=Runs Bool
def spanRuns (l:List RegionSpan):Col:=l.map fun s=>(s.from_,s.to_,true)
theorem spanRuns_append (a b:List RegionSpan):spanRuns (a ++ b) = spanRuns a ++ spanRuns b:=List.map_append
theorem spanRuns_inj : ∀ {a b:List RegionSpan},spanRuns a = spanRuns b → a = b
  | [],[],_=>rfl
  | [],_::_,h=>by simp [spanRuns] at h
  | _::_,[],h=>by simp [spanRuns] at h
  | ⟨f, t⟩ :: a, ⟨f', t'⟩ :: b, h => by
    simp only [spanRuns,List.map_cons,List.cons.injEq,Prod.mk.injEq] at h
    obtain ⟨⟨rfl,rfl,_⟩,h⟩:=h
    rw [spanRuns_inj (a:=a) (b:=b) h]
theorem rect_Right_eq (r:Rect):rect_Right r = some (decide (VR r)):=by
  unfold rect_Right
  congr 1
  rw [Bool.eq_iff_iff,decide_eq_true_iff]
  simp only [Bool.and_eq_true,decide_eq_true_eq]
  unfold VR
  constructor
  · rintro ⟨⟨⟨⟨⟨h1,h2⟩,h3⟩,h4⟩,h5⟩,h6⟩; exact ⟨h1,h2,h3,h4,h5,h6⟩
  · rintro ⟨h1,h2,h3,h4,h5,h6⟩; exact ⟨⟨⟨⟨⟨h1,h2⟩,h3⟩,h4⟩,h5⟩,h6⟩

/-! Merging intervals in the order of their beginnings. -/
def addIv (out:List RegionSpan) (s:RegionSpan):List RegionSpan:=
  match out.getLast? with
  | some t=>if s.from_ ≤ t.to_ then out.dropLast ++ [⟨t.from_,max t.to_ s.to_⟩] else out ++ [s]
  | none=>[s]
theorem addIv_spec {out:List RegionSpan} {s:RegionSpan} (hc:Canon false (spanRuns out)) (hs:s.from_ < s.to_) (hle : ∀ t ∈ out,t.from_ ≤ s.from_) :
    Canon false (spanRuns (addIv out s))∧(∀ y,rval false (spanRuns (addIv out s)) y = true ↔ rval false (spanRuns out) y = true ∨ (s.from_ ≤ y∧y < s.to_)) ∧
    (∀ t ∈ addIv out s,t.from_ ≤ s.from_)∧(addIv out s).length ≤ out.length + 1:=by
  rcases List.eq_nil_or_concat out with rfl | ⟨o,t,rfl⟩
  · refine ⟨⟨hs, by simp, trivial, trivial⟩, fun y => ?_, fun t ht => by simp [addIv] at ht; subst ht; exact Int.le_refl _, by simp [addIv]⟩
    simp [addIv,spanRuns,rval]
  · rw [List.concat_eq_append] at *
    have ht:=hle t (by simp)
    have e:spanRuns (o ++ [t]) = spanRuns o ++ [(t.from_,t.to_,true)]:=by simp [spanRuns]
    rw [e] at hc ⊢
    obtain ⟨h1,h2,h3⟩:=canon_last hc
    have h4:=canon_ends hc
    unfold addIv
    simp only [List.getLast?_append,List.getLast?_singleton,Option.some_or,List.dropLast_concat]
    split
    · rename_i hm
      rw [spanRuns_append]
      refine ⟨canon_snoc (canon_prefix hc) h3 (show t.from_ < max t.to_ s.to_ by omega) (by simp),fun y=>?_,fun u hu=>?_,by simp⟩
      · show rval false (spanRuns o ++ [(t.from_, max t.to_ s.to_, true)]) y = true ↔ _
        rw [rval_snoc h4,rval_snoc h4]
        by_cases a1:t.from_ ≤ y∧y < t.to_
        · rw [if_pos (by omega),if_pos a1]; simp
        · rw [if_neg a1]
          by_cases a2:t.from_ ≤ y∧y < max t.to_ s.to_
          · rw [if_pos a2]; simp; right; omega
          · rw [if_neg a2]
            constructor
            · exact .inl
            · rintro (h | h)
              · exact h
              · exact absurd (by omega) a2
      · rcases List.mem_append.1 hu with hu | hu
        · exact hle u (by simp [hu])
        · simp at hu; subst hu; exact ht
    · rename_i hm
      rw [spanRuns_append,e]
      have h5:EndsBy (spanRuns o ++ [(t.from_,t.to_,true)]) s.from_:=by
        intro r hr
        rcases List.mem_append.1 hr with hr | hr
        · have:=h4 r hr; omega
        · simp at hr; subst hr; show t.to_ ≤ _; omega
      refine ⟨canon_snoc hc (fun r hr=>by simp at hr; subst hr; exact .inl (by show t.to_ < _; omega)) hs (by simp),fun y=>?_,fun u hu=>?_,by simp⟩
      · show rval false ((spanRuns o ++ [(t.from_, t.to_, true)]) ++ [(s.from_, s.to_, true)]) y = true ↔ _
        rw [rval_snoc h5]
        by_cases a1:s.from_ ≤ y∧y < s.to_
        · rw [if_pos a1]; simp [a1]
        · rw [if_neg a1]; simp [a1]
      · rcases List.mem_append.1 hu with hu | hu
        · exact hle u hu
        · simp at hu; subst hu; exact Int.le_refl _
theorem addIv_fold : ∀ (r out:List RegionSpan),Canon false (spanRuns out) → (∀ s ∈ r,s.from_ < s.to_) → r.Pairwise (fun a b=>a.from_ ≤ b.from_) → (∀ t ∈ out,∀ s ∈ r,t.from_ ≤ s.from_) →
    Canon false (spanRuns (r.foldl addIv out))∧(∀ y,rval false (spanRuns (r.foldl addIv out)) y = true ↔ rval false (spanRuns out) y = true ∨ ∃ s ∈ r,s.from_ ≤ y∧y < s.to_)∧(r.foldl addIv out).length ≤ out.length + r.length
  | [],out,hc,_,_,_=>⟨hc,fun y=>by simp,by simp⟩
  | s :: r, out, hc, hs, hp, hle => by
    obtain ⟨h1,h2,h3,h4⟩:=addIv_spec hc (hs s (by simp)) (fun t ht=>hle t ht s (by simp))
    have hp':=List.pairwise_cons.1 hp
    obtain ⟨k1,k2,k3⟩:=addIv_fold r (addIv out s) h1 (fun t ht=>hs t (by simp [ht])) hp'.2 (fun t ht u hu=>by
      have:=h3 t ht; have:=hp'.1 u hu; omega)
    refine ⟨k1,fun y=>?_,by simp only [List.foldl_cons,List.length_cons]; omega⟩
    rw [List.foldl_cons,k2,h2]
    simp [or_assoc]

/-! The column of rectangles at x. -/
def colAt (l:List Rect) (x:Int):List RegionSpan:=(l.filter fun r=>decide (r.X0 ≤ x) && decide (x < r.X1)).map fun r=>⟨r.Y0,r.Y1⟩
theorem column_L0 {l:List Rect} {x:Int} (hl:l.length ≤ 100000) :
    iterL (region_column_L0 l x) (l.length + 1) (([]:List RegionSpan),0) = some (.ex 0 (colAt l x,(l.length:Int))):=by
  refine (iter_range (k:=0) (l:=l) (fun s i=>(s,i)) (fun s r=>if (decide (r.X0 ≤ x) && decide (x < r.X1)) then s ++ [⟨r.Y0,r.Y1⟩] else s) (fun i s=>s.length ≤ i) ?_ ?_ (Nat.zero_le _) (by omega)).1.trans ?_
  · intro i hi s hI
    constructor
    · unfold region_column_L0
      dsimp only
      rw [if_pos (by simpa using hi),getI_nat hi,Option.bind_some]
      split
      · rw [appI_some (by simp; omega),Option.bind_some,Option.bind_some,addI_one (by omega),Option.bind_some]
      · rw [Option.bind_some,addI_one (by omega),Option.bind_some]
    · split
      · simp; omega
      · omega
  · intro s _
    unfold region_column_L0
    dsimp only
    rw [if_neg (by simp)]
  · rw [foldl_filterMap (fun r : Rect => decide (r.X0 ≤ x) && decide (x < r.X1)) (fun r => (⟨r.Y0, r.Y1⟩ : RegionSpan))]
    rfl
theorem column_L1 {r:List RegionSpan} (hl:r.length ≤ 100000) :
    iterL (region_column_L1 r) (r.length + 1) (([]:List RegionSpan),0) = some (.ex 2 (r.foldl addIv [],(r.length:Int))):=by
  refine (iter_range (k:=2) (l:=r) (fun s i=>(s,i)) addIv (fun i s=>s.length ≤ i) ?_ ?_ (Nat.zero_le _) (by omega)).1
  · intro i hi s hI
    rcases List.eq_nil_or_concat s with rfl | ⟨o,t,rfl⟩
    · constructor
      · unfold region_column_L1
        dsimp only
        rw [if_pos (by simpa using hi),getI_nat hi,Option.bind_some,if_neg (by simp),Option.bind_some,if_neg (by simp),appI_some (by simp),Option.bind_some,Option.bind_some,addI_one (by omega),Option.bind_some]
        rfl
      · simp [addIv]
    · rw [List.concat_eq_append] at *
      have hol:o.length + 1 ≤ i:=by simpa using hI
      constructor
      · unfold region_column_L1
        dsimp only
        rw [if_pos (by simpa using hi),getI_nat hi,Option.bind_some,if_pos (by simp)]
        simp only [subI_len (l:=o) (x:=t) (by omega),getI_concat (l:=o) (x:=t) rfl,Option.bind_some]
        by_cases hm:r[i].from_ ≤ t.to_
        · rw [if_pos (by simpa using hm), set_concat (by simp), Option.bind_some, addI_one (by omega), Option.bind_some]
          simp [addIv,hm]
        · rw [if_neg (by simpa using hm), appI_some (by simp; omega), Option.bind_some, Option.bind_some, addI_one (by omega), Option.bind_some]
          simp [addIv,hm]
      · unfold addIv
        simp only [List.getLast?_append,List.getLast?_singleton,Option.some_or,List.dropLast_concat]
        split <;> simp <;> omega
  · intro s _
    unfold region_column_L1
    dsimp only
    rw [if_neg (by simp)]

/-- The canonical column of a list of rectangles at x. -/
structure IsCol (l:List Rect) (x:Int) (c:List RegionSpan):Prop where
  canon:Canon false (spanRuns c)
  val : ∀ y,rval false (spanRuns c) y = true ↔ cells l x y
  len:c.length ≤ l.length
theorem column_spec {l:List Rect} {x:Int} (hv : ∀ r ∈ l,VR r) (hl:l.length ≤ 100000) : ∃ c,region_column l x = some c∧IsCol l x c:=by
  have hcl:(colAt l x).length ≤ l.length:=by unfold colAt; rw [List.length_map]; exact List.length_filter_le _ _
  obtain ⟨r,hr,hp,hs⟩:=sortSpans_spec (l:=colAt l x) (by omega)
  have hrl:=hp.length_eq
  have hpos : ∀ s ∈ r,s.from_ < s.to_:=by
    intro s hs
    have:=hp.mem_iff.1 hs
    simp only [colAt,List.mem_map,List.mem_filter] at this
    obtain ⟨q,⟨hq,_⟩,rfl⟩:=this
    exact (hv q hq).2.2.2.2.1
  obtain ⟨h1,h2,h3⟩:=addIv_fold r [] trivial hpos hs (by simp)
  refine ⟨r.foldl addIv [],?_,h1,fun y=>?_,by simp at h3; omega⟩
  · unfold region_column
    rw [column_L0 hl,Option.bind_some]
    dsimp only
    rw [hr,Option.bind_some,column_L1 (by omega),Option.bind_some]
  · rw [h2]
    simp only [spanRuns,List.map_nil,rval,Bool.false_eq_true,false_or]
    constructor
    · rintro ⟨s, hs, h⟩
      have:=hp.mem_iff.1 hs
      simp only [colAt,List.mem_map,List.mem_filter,Bool.and_eq_true,decide_eq_true_eq] at this
      obtain ⟨q,⟨hq,hx⟩,rfl⟩:=this
      exact ⟨q,hq,hx,h⟩
    · rintro ⟨q, hq, hx, h⟩
      refine ⟨⟨q.Y0,q.Y1⟩,hp.mem_iff.2 ?_,h⟩
      simp only [colAt,List.mem_map,List.mem_filter,Bool.and_eq_true,decide_eq_true_eq]
      exact ⟨q,⟨hq,hx⟩,rfl⟩
theorem IsCol.unique {l l' : List Rect} {x x' : Int} {c c' : List RegionSpan} (h:IsCol l x c) (h' : IsCol l' x' c') (he : ∀ y,cells l x y ↔ cells l' x' y):c = c':=by
  refine spanRuns_inj (canon_unique h.canon h'.canon fun y=>?_)
  rw [Bool.eq_iff_iff,h.val,h'.val,he]
end Go.Proofs.YtegglcdhfnjhcaaGreat

namespace Go.Proofs.YtegglcdhfnjhcaaGreat
open Go.Gb
set_option linter.unusedVariables false
set_option linter.unusedSimpArgs false
set_option linter.unusedSectionVars false
set_option linter.unusedVariables false
set_option linter.unusedSimpArgs false

/-! The list of rectangles that runs of columns stand for. -/
def flatG (G:Runs Col):List Rect:=G.flatMap fun g=>g.2.2.map fun s=>⟨g.1,s.1,g.2.1,s.2.1⟩
theorem flatG_append (G H:Runs Col):flatG (G ++ H) = flatG G ++ flatG H:=List.flatMap_append
theorem flatG_one (a b:Int) (c:List RegionSpan):flatG [(a,b,spanRuns c)] = c.map fun s=>⟨a,s.from_,b,s.to_⟩:=by
  simp [flatG,spanRuns]
/-- The list is the form of the set of cells. -/
def IsForm (S:Int → Int → Prop) (out:List Rect):Prop:=
  ∃ G:Runs Col,Canon [] G∧(∀ a b c,(a,b,c) ∈ G → Canon false c)∧(∀ x y,rval false (rval [] G x) y = true ↔ S x y)∧out = flatG G
theorem canon_at {G:Runs Col} (h : ∀ a b c,(a,b,c) ∈ G → Canon false c) (x:Int):Canon false (rval [] G x):=by
  rcases rval_mem (e:=[]) (l:=G) (x:=x) with h1 | ⟨a,b,h1,_⟩
  · rw [h1]; trivial
  · exact h _ _ _ h1
theorem IsForm.unique {S S' : Int → Int → Prop} {out out' : List Rect} (h:IsForm S out) (h' : IsForm S' out') (he : ∀ x y,S x y ↔ S' x y):out = out':=by
  obtain ⟨G,h1,h2,h3,rfl⟩:=h
  obtain ⟨G', k1, k2, k3, rfl⟩ := h'
  rw [canon_unique h1 k1 fun x=>canon_unique (canon_at h2 x) (canon_at k2 x) fun y=>?_]
  rw [Bool.eq_iff_iff,h3,k3,he]
theorem IsForm.congr {S S' : Int → Int → Prop} {out:List Rect} (h:IsForm S out) (he : ∀ x y,S x y ↔ S' x y):IsForm S' out:=by
  obtain ⟨G,h1,h2,h3,rfl⟩:=h
  exact ⟨G,h1,h2,fun x y=>(h3 x y).trans (he x y),rfl⟩
/-- The form has the cells of the set. -/
theorem rval_true_mem {c:Col} {y:Int}:rval false c y = true → ∃ a b,(a,b,true) ∈ c∧a ≤ y∧y < b:=by
  intro h
  rcases rval_mem (e:=false) (l:=c) (x:=y) with h1 | ⟨a,b,h1,h2⟩
  · rw [h] at h1; simp at h1
  · rw [h] at h1; exact ⟨a,b,h1,h2⟩
theorem IsForm.cells {S:Int → Int → Prop} {out:List Rect} (h:IsForm S out) (x y:Int):cells out x y ↔ S x y:=by
  obtain ⟨G,h1,h2,h3,rfl⟩:=h
  rw [← h3]
  constructor
  · rintro ⟨r, hr, hx, hy⟩
    simp only [flatG,List.mem_flatMap,List.mem_map] at hr
    obtain ⟨⟨a,b,c⟩,hg,⟨f,t,v⟩,hs,rfl⟩:=hr
    have hc:=h2 a b c hg
    have hv:v = true:=by
      have:=(canon_mem hc hs).2
      cases v <;> simp_all
    subst hv
    rw [rval_of_mem h1 hg hx.1 hx.2]
    exact rval_of_mem hc hs hy.1 hy.2
  · intro h
    obtain ⟨f,t,hs,hy1,hy2⟩:=rval_true_mem h
    rcases rval_mem (e:=[]) (l:=G) (x:=x) with h4 | ⟨a,b,h4,h5⟩
    · rw [h4] at hs; simp at hs
    · refine ⟨⟨a, f, b, t⟩, ?_, h5, hy1, hy2⟩
      simp only [flatG,List.mem_flatMap,List.mem_map]
      exact ⟨_,h4,_,hs,rfl⟩
theorem IsForm.self {S:Int → Int → Prop} {out:List Rect} (h:IsForm S out):IsForm (YtegglcdhfnjhcaaGreat.cells out) out:=h.congr fun x y=>(h.cells x y).symm
theorem form_nil:IsForm (fun _ _=>False) []:=⟨[],trivial,by simp,by simp [rval],rfl⟩

/-! Strips -/
def stripRuns (l:List RegionStrip):Runs Col:=l.map fun s=>(s.x0,s.x1,spanRuns s.column)
/-- Strips without gaps, of canonical columns. -/
structure Gapless (l:List RegionStrip):Prop where
  pos : ∀ s ∈ l,s.x0 < s.x1
  next : ∀ i (h:i + 1 < l.length),(l[i]'(by omega)).x1 = l[i + 1].x0
  col : ∀ s ∈ l,Canon false (spanRuns s.column)

theorem equal_span_L0 {a b:List RegionSpan} (hl:a.length = b.length) (hb:a.length ≤ 1000000) :
    ∃ f,iterL (slices_Equal_span_L0 a b) (a.length + 1) 0 = some f∧((a = b∧∃ s,f = .ex 0 s) ∨ (a ≠ b∧f = .ret false)):=by
  have hs : ∀ i (hi:i < (a.zip b).length),((a.zip b)[i].1 ≠ (a.zip b)[i].2∧slices_Equal_span_L0 a b (i:Int) = some (.ret false)) ∨
      (¬ ((a.zip b)[i].1 ≠ (a.zip b)[i].2)∧slices_Equal_span_L0 a b (i:Int) = some (.go ((i + 1:Nat):Int))):=by
    intro i hi
    simp only [List.length_zip] at hi
    have h1:i < a.length:=by omega
    have h2:i < b.length:=by omega
    unfold slices_Equal_span_L0
    rw [if_pos (by simpa using h1)]
    simp only [getI_nat h1,getI_nat h2,Option.bind_some,List.getElem_zip]
    by_cases he:a[i] = b[i]
    · right
      rw [if_neg (by simpa using he)]
      simp only [addI_one (show i < 4611686018427387904 by omega),Option.bind_some]
      exact ⟨by simpa using he,trivial⟩
    · left
      rw [if_pos (by simpa using he)]
      exact ⟨he,rfl⟩
  have hd:slices_Equal_span_L0 a b ((a.zip b).length:Int) = some (.ex 0 ((a.zip b).length:Int)):=by
    have e:((a.zip b).length:Int) = (a.length:Int):=by simp; omega
    rw [e]
    unfold slices_Equal_span_L0
    rw [if_neg (by simp)]
  rcases iter_find (l:=a.zip b) (body:=slices_Equal_span_L0 a b) (k:=0) (fun p=>p.1 ≠ p.2) (fun _=>false) hs hd (fuel:=a.length + 1) (by simp; omega) with ⟨i,hi,hp,_,h⟩ | ⟨hp,h⟩
  · refine ⟨_, h, .inr ⟨fun e => ?_, rfl⟩⟩
    subst e
    simp at hp
  · refine ⟨_, h, .inl ⟨?_, _, rfl⟩⟩
    refine List.ext_getElem hl fun i h1 h2=>?_
    have:=hp (a[i],b[i]) (by
      rw [List.mem_iff_getElem]
      exact ⟨i,by simp; omega,by simp⟩)
    simpa using this
theorem equal_span {a b:List RegionSpan} (hb:a.length ≤ 1000000):slices_Equal_span a b = some (decide (a = b)):=by
  unfold slices_Equal_span
  by_cases hl:a.length = b.length
  · rw [if_neg (by simp [hl])]
    obtain ⟨f,hf,h⟩:=equal_span_L0 hl hb
    rw [hf,Option.bind_some]
    rcases h with ⟨h1,s,rfl⟩ | ⟨h1,rfl⟩ <;> simp [h1]
  · rw [if_pos (by simp; omega)]
    congr 1
    symm
    rw [decide_eq_false_iff_not]
    intro e; exact hl (by rw [e])

theorem ends_take {l:List RegionStrip} (h:Gapless l) : ∀ i (hi:i < l.length),EndsBy (stripRuns (l.take i)) l[i].x0
  | 0,_=>by intro r hr; simp [stripRuns] at hr
  | i + 1, hi => by
    have ih:=ends_take h i (by omega)
    have hp:=h.pos l[i] (List.getElem_mem _)
    have hn:=h.next i hi
    intro r hr
    rw [List.take_succ_eq_append_getElem (by omega)] at hr
    simp only [stripRuns,List.map_append,List.map_cons,List.map_nil,List.mem_append,List.mem_singleton] at hr
    rcases hr with hr | hr
    · have:=ih r hr; omega
    · subst hr; show (l[i]'(by omega)).x1 ≤ _; omega
theorem rval_take {l:List RegionStrip} (h:Gapless l) {i:Nat} (hi:i < l.length) (x:Int) :
    rval [] (stripRuns (l.take (i + 1))) x = if l[i].x0 ≤ x∧x < l[i].x1 then spanRuns l[i].column else rval [] (stripRuns (l.take i)) x:=by
  rw [List.take_succ_eq_append_getElem hi]
  simp only [stripRuns,List.map_append,List.map_cons,List.map_nil]
  exact rval_snoc (ends_take h i hi) x

/-- The end of the strips from i on whose columns are that of strip i. -/
theorem write_L1 {l:List RegionStrip} (h:Gapless l) (hl:l.length ≤ 100000) (hc : ∀ s ∈ l,s.column.length ≤ 1000000) {i:Nat} (hi:i < l.length) (s:List Rect) {fuel:Nat} (hf:l.length < fuel) :
    ∃ k:Nat,iterL (region_write_L1 l (s,(i:Int))) fuel ((i + 1:Nat):Int) = some (.ex 2 (k:Int))∧∃ (hik:i < k) (hk:k ≤ l.length),
      (∀ x,rval [] (stripRuns (l.take k)) x = if l[i].x0 ≤ x∧x < (l[k - 1]'(by omega)).x1 then spanRuns l[i].column else rval [] (stripRuns (l.take i)) x) ∧
      (∀ hk' : k < l.length,l[k].column ≠ l[i].column):=by
  have key : ∀ m j,j + m = l.length → ∀ (hij:i < j) (hj:j ≤ l.length),
      (∀ x,rval [] (stripRuns (l.take j)) x = if l[i].x0 ≤ x∧x < (l[j - 1]'(by omega)).x1 then spanRuns l[i].column else rval [] (stripRuns (l.take i)) x) → ∀ fuel,m < fuel →
      ∃ k:Nat,iterL (region_write_L1 l (s,(i:Int))) fuel (j:Int) = some (.ex 2 (k:Int))∧∃ (hik:i < k) (hk:k ≤ l.length),
      (∀ x,rval [] (stripRuns (l.take k)) x = if l[i].x0 ≤ x∧x < (l[k - 1]'(by omega)).x1 then spanRuns l[i].column else rval [] (stripRuns (l.take i)) x) ∧
      (∀ hk' : k < l.length,l[k].column ≠ l[i].column):=by
    intro m
    induction m with
    | zero =>
      intro j hjm hij hj hr fuel hf
      obtain ⟨fuel,rfl⟩ : ∃ m,fuel = m + 1:=⟨fuel - 1,by omega⟩
      refine ⟨j,?_,hij,hj,hr,fun hk'=>absurd hk' (by omega)⟩
      have e:region_write_L1 l (s,(i:Int)) (j:Int) = some (.ex 2 (j:Int)):=by
        unfold region_write_L1
        dsimp only
        rw [if_neg (by simp; omega),Option.bind_some,if_neg (by simp)]
      simp only [iterL,e]
    | succ m ih =>
      intro j hjm hij hj hr fuel hf
      obtain ⟨fuel,rfl⟩ : ∃ m,fuel = m + 1:=⟨fuel - 1,by omega⟩
      have hjl:j < l.length:=by omega
      by_cases he:l[j].column = l[i].column
      · have e : region_write_L1 l (s, (i : Int)) (j : Int) = some (.go ((j + 1 : Nat) : Int)) := by
          unfold region_write_L1
          dsimp only
          rw [if_pos (by simp; omega)]
          simp only [getI_nat hjl,getI_nat hi,Option.bind_some,equal_span (hc _ (List.getElem_mem hjl))]
          rw [if_pos (by simpa using he),addI_one (by omega),Option.bind_some]
        simp only [iterL,e]
        refine ih (j + 1) (by omega) (by omega) (by omega) (fun x=>?_) fuel (by omega)
        rw [rval_take h hjl,hr x,he]
        have hn:(l[j - 1]'(by omega)).x1 = l[j].x0:=by
          have:=h.next (j - 1) (by omega)
          rw [this]; congr 2; omega
        have hp:=h.pos l[j] (List.getElem_mem _)
        have hlo : ∀ q (hq:q < l.length),i ≤ q → l[i].x0 ≤ l[q].x0:=by
          intro q
          induction q with
          | zero => intro hq hiq; have : i = 0 := by omega
                    subst this; exact Int.le_refl _
          | succ q ihq =>
            intro hq hiq
            rcases Nat.lt_or_ge q i with h' | h'
            · have : i = q + 1 := by omega
              subst this; exact Int.le_refl _
            · have := ihq (by omega) h'
              have h2:=h.pos (l[q]'(by omega)) (List.getElem_mem _)
              have h3:=h.next q hq
              omega
        have:=hlo j hjl (by omega)
        have e2:(l[j + 1 - 1]'(by omega)) = l[j]:=by congr 1
        rw [e2]
        by_cases c1:l[j].x0 ≤ x∧x < l[j].x1
        · rw [if_pos c1,if_pos (by omega)]
        · rw [if_neg c1]
          by_cases c2:l[i].x0 ≤ x∧x < (l[j - 1]'(by omega)).x1
          · rw [if_pos c2,if_pos (by omega)]
          · rw [if_neg c2,if_neg (by omega)]
      · refine ⟨j, ?_, hij, hj, hr, fun _ => he⟩
        have e:region_write_L1 l (s,(i:Int)) (j:Int) = some (.ex 2 (j:Int)):=by
          unfold region_write_L1
          dsimp only
          rw [if_pos (by simp; omega)]
          simp only [getI_nat hjl,getI_nat hi,Option.bind_some,equal_span (hc _ (List.getElem_mem hjl))]
          rw [if_neg (by simpa using he)]
        simp only [iterL,e]
  exact key (l.length - (i + 1)) (i + 1) (by omega) (by omega) (by omega) (fun x=>by
    rw [rval_take h hi]
    have e2:(l[i + 1 - 1]'(by omega)) = l[i]:=by congr 1
    rw [e2]) fuel (by omega)
end Go.Proofs.YtegglcdhfnjhcaaGreat

namespace Go.Proofs.YtegglcdhfnjhcaaGreat
open Go.Gb
set_option linter.unusedVariables false
set_option linter.unusedSimpArgs false
set_option linter.unusedSectionVars false
set_option linter.unusedVariables false
set_option linter.unusedSimpArgs false

theorem rval_past {V:Type} {e:V} : ∀ {l:Runs V} {n x:Int},EndsBy l n → n ≤ x → rval e l x = e
  | [],_,_,_,_=>rfl
  | (a, b, v) :: t, n, x, h, hx => by
    have:=h (a,b,v) (by simp)
    simp only at this
    simp only [rval]
    rw [if_neg (by omega)]
    exact rval_past (fun r hr=>h r (List.mem_cons_of_mem _ hr)) hx
theorem gapless_lo {l:List RegionStrip} (h:Gapless l) {i:Nat} (hi:i < l.length) : ∀ q (hq:q < l.length),i ≤ q → l[i].x0 ≤ l[q].x0
  | 0, hq, hiq => by have : i = 0 := by omega
                     subst this; exact Int.le_refl _
  | q + 1, hq, hiq => by
    rcases Nat.lt_or_ge q i with h' | h'
    · have : i = q + 1 := by omega
      subst this; exact Int.le_refl _
    · have := gapless_lo h hi q (by omega) h'
      have h2:=h.pos (l[q]'(by omega)) (List.getElem_mem _)
      have h3:=h.next q hq
      omega

theorem write_L2 {l:List RegionStrip} {i k:Nat} (hi:i < l.length) (hik:i < k) (hk:k ≤ l.length) (hl:l.length ≤ 100000) (hc:l[i].column.length ≤ 1000) (s:List Rect) {out:List Rect} (ho:out.length ≤ 1000000000) :
    iterL (region_write_L2 l (s,(i:Int)) (k:Int) l[i]) (l[i].column.length + 1) (out,0) =
      some (.ex 4 (out ++ l[i].column.map fun s=>⟨l[i].x0,s.from_,(l[k - 1]'(by omega)).x1,s.to_⟩,(l[i].column.length:Int))):=by
  refine (iter_range (k:=4) (l:=l[i].column) (fun s i=>(s,i)) (fun o s=>o ++ [⟨l[i].x0,s.from_,(l[k - 1]'(by omega)).x1,s.to_⟩]) (fun j o=>o.length ≤ 1000000000 + j) ?_ ?_ (by omega) (by omega)).1.trans ?_
  · intro j hj o hI
    constructor
    · unfold region_write_L2
      dsimp only
      rw [if_pos (by simpa using hj),getI_nat hj,Option.bind_some,getI_nat hi,Option.bind_some]
      simp only [subI_nat (show 0 < k by omega) (by omega),Option.bind_some,getI_nat (show k - 1 < l.length by omega)]
      rw [appI_some (by simp; omega),Option.bind_some,addI_one (by omega),Option.bind_some]
    · simp; omega
  · intro o _
    unfold region_write_L2
    dsimp only
    rw [if_neg (by simp)]
  · rw [foldl_flatMap (fun s : RegionSpan => [(⟨l[i].x0, s.from_, (l[k - 1]'(by omega)).x1, s.to_⟩ : Rect)])]
    simp [List.flatMap_singleton']
    rw [List.map_eq_flatMap]

theorem write_spec {l:List RegionStrip} (h:Gapless l) (hl:l.length ≤ 100000) (hc : ∀ s ∈ l,s.column.length ≤ 1000) :
    ∃ out,region_write l = some out∧∃ G:Runs Col,Canon [] G∧(∀ a b c,(a,b,c) ∈ G → Canon false c)∧(∀ x,rval [] G x = rval [] (stripRuns l) x)∧out = flatG G:=by
  refine Exists.elim (loop_down (body:=region_write_L0 l) (fun s=>∃ (i:Nat) (G:Runs Col),s.2 = (i:Int)∧i ≤ l.length∧s.1 = flatG G∧Canon [] G∧(∀ a b c,(a,b,c) ∈ G → Canon false c) ∧
      (∀ x,rval [] G x = rval [] (stripRuns (l.take i)) x)∧(∀ hi:i < l.length,EndsBy G l[i].x0∧Lst G l[i].x0 (spanRuns l[i].column))∧s.1.length ≤ 1000 * i)
    (fun s=>l.length - s.2.toNat) (fun f=>∃ s G,f = .ex 0 s∧s.1 = flatG G∧Canon [] G∧(∀ a b c,(a,b,c) ∈ G → Canon false c)∧(∀ x,rval [] G x = rval [] (stripRuns l) x)) ?_
    (([]:List Rect),0) ⟨0,[],rfl,Nat.zero_le _,rfl,trivial,by simp,fun x=>by simp [stripRuns],fun _=>⟨fun r hr=>by simp at hr,fun r hr=>by simp at hr⟩,by simp⟩ (l.length + ([]:List Rect).length + 1) (by simp)) ?_
  · rintro ⟨out, _⟩ ⟨i, G, rfl, hil, rfl, hG, hGc, hv, hE, hlen⟩
    dsimp only at *
    rcases Nat.lt_or_ge i l.length with hi | hi
    · left
      obtain ⟨k,hk,hik,hkl,hkv,hkn⟩:=write_L1 h hl (fun s hs=>by have:=hc s hs; omega) hi (flatG G) (fuel:=l.length + (flatG G).length + 1) (by omega)
      have h2:=write_L2 hi hik hkl hl (hc _ (List.getElem_mem hi)) (flatG G) (out:=flatG G) (by omega)
      obtain ⟨hE1,hE2⟩:=hE hi
      have hpos:l[i].x0 < (l[k - 1]'(by omega)).x1:=by
        have:=gapless_lo h hi (k - 1) (by omega) (by omega)
        have:=h.pos (l[k - 1]'(by omega)) (List.getElem_mem _)
        omega
      refine ⟨(flatG G ++ l[i].column.map fun s=>⟨l[i].x0,s.from_,(l[k - 1]'(by omega)).x1,s.to_⟩,(k:Int)),?_,?_,?_⟩
      · unfold region_write_L0
        dsimp only
        rw [if_pos (by simpa using hi),addI_one (by omega),Option.bind_some,hk,Option.bind_some]
        dsimp only
        rw [getI_nat hi,Option.bind_some,h2,Option.bind_some]
      · have hlen' : (flatG G ++ l[i].column.map fun s => (⟨l[i].x0, s.from_, (l[k - 1]'(by omega)).x1, s.to_⟩ : Rect)).length ≤ 1000 * k := by
          have:=hc _ (List.getElem_mem hi)
          simp; omega
        have hx : ∀ hk' : k < l.length,(l[k - 1]'(by omega)).x1 = l[k].x0:=fun hk'=>by
          have:=h.next (k - 1) (by omega)
          rw [this]; congr 2; omega
        by_cases hcol:l[i].column = []
        · refine ⟨k, G, rfl, hkl, by simp [hcol], hG, hGc, fun x => ?_, fun hk' => ⟨fun r hr => ?_, fun r hr => ?_⟩, hlen'⟩
          · rw [hkv, hv]
            split
            · rename_i hx
              rw [hcol,← hv,rval_past hE1 hx.1]; rfl
            · rfl
          · have:=hE1 r hr; have:=hx hk'; omega
          · have:=hE1 r (List.mem_of_getLast? hr); have:=hx hk'; exact .inl (by omega)
        · have hne : spanRuns l[i].column ≠ [] := fun e => hcol (spanRuns_inj (b := []) e)
          refine ⟨k,G ++ [(l[i].x0,(l[k - 1]'(by omega)).x1,spanRuns l[i].column)],rfl,hkl,?_,canon_snoc hG hE2 hpos hne,?_,fun x=>?_,fun hk'=>⟨fun r hr=>?_,fun r hr=>?_⟩,hlen'⟩
          · rw [flatG_append,flatG_one]
          · intro a b c hm
            rcases List.mem_append.1 hm with hm | hm
            · exact hGc a b c hm
            · simp only [List.mem_singleton, Prod.mk.injEq] at hm
              rw [hm.2.2]
              exact h.col _ (List.getElem_mem hi)
          · rw [rval_snoc hE1,hkv,hv]
          · have := hx hk'
            rcases List.mem_append.1 hr with hr | hr
            · have:=hE1 r hr; omega
            · simp only [List.mem_singleton] at hr; subst hr; show (l[k - 1]'(by omega)).x1 ≤ _; omega
          · simp at hr; subst hr
            exact .inr ⟨hx hk', fun e => hkn hk' (spanRuns_inj e.symm)⟩
      · dsimp only; simp only [Int.toNat_natCast]; omega
    · right
      obtain rfl:i = l.length:=by omega
      refine ⟨.ex 0 (flatG G,(l.length:Int)),?_,trivial,_,G,rfl,rfl,hG,hGc,fun x=>by rw [hv,List.take_length]⟩
      unfold region_write_L0
      dsimp only
      rw [if_neg (by simp)]
  · rintro f ⟨hf, _, s, G, rfl, h1, h2, h3, h4⟩
    refine ⟨s.1,?_,G,h2,h3,h4,h1⟩
    unfold region_write
    rw [hf,Option.bind_some]

/-! Strips of rectangles -/
theorem concat_Rect {ls:List (List Rect)} (hl:ls.flatten.length ≤ 1000000) (hn:ls.length ≤ 1000000):slices_Concat_Rect ls = some ls.flatten:=by
  have hle : ∀ i (hi:i < ls.length),(ls.take i).flatten.length + ls[i].length ≤ ls.flatten.length:=by
    intro i hi
    have e:ls.flatten = (ls.take i).flatten ++ (ls[i] ++ (ls.drop (i + 1)).flatten):=by
      conv=>lhs; rw [← List.take_append_drop i ls,List.drop_eq_getElem_cons hi]
      rw [List.flatten_append,List.flatten_cons]
    rw [e,List.length_append,List.length_append]; omega
  have htk : ∀ i (hi:i < ls.length),(ls.take (i + 1)).flatten = (ls.take i).flatten ++ ls[i]:=by
    intro i hi
    rw [List.take_succ_eq_append_getElem hi,List.flatten_append,List.flatten_cons,List.flatten_nil,List.append_nil]
  unfold slices_Concat_Rect
  obtain ⟨h1,h2⟩:=iter_range (k:=0) (l:=ls) (body:=slices_Concat_Rect_L0 ls) (fun (s:Int) i=>(s,i)) (fun s x=>s + x.length) (fun i s=>s = ((ls.take i).flatten.length:Int)) (by
    intro i hi s hI
    have:=hle i hi
    constructor
    · unfold slices_Concat_Rect_L0
      dsimp only
      rw [if_pos (by simpa using hi),getI_nat hi,Option.bind_some,addI_some (by unfold inI; omega),Option.bind_some,if_neg (by simp; omega),addI_one (by omega),Option.bind_some]
    · rw [htk i hi,hI]; simp) (by
    intro s _
    unfold slices_Concat_Rect_L0
    dsimp only
    rw [if_neg (by simp)]) (s0:=0) (by simp) (fuel:=ls.length + 1) (by omega)
  rw [h1,Option.bind_some]
  dsimp only
  rw [List.take_length] at h2
  rw [growI_some (by omega) (by omega),Option.bind_some]
  obtain ⟨h3,h4⟩:=iter_range (k:=2) (l:=ls) (body:=slices_Concat_Rect_L1 ls) (fun (s:List Rect) i=>(s,i)) (fun s x=>s ++ x) (fun i s=>s = (ls.take i).flatten) (by
    intro i hi s hI
    have:=hle i hi
    constructor
    · unfold slices_Concat_Rect_L1
      dsimp only
      rw [if_pos (by simpa using hi),getI_nat hi,Option.bind_some,appI_some (by rw [hI]; omega),Option.bind_some,addI_one (by omega),Option.bind_some]
    · rw [htk i hi,hI]) (by
    intro s _
    unfold slices_Concat_Rect_L1
    dsimp only
    rw [if_neg (by simp)]) (s0:=[]) (by simp) (fuel:=ls.length + 1) (by omega)
  rw [h3,Option.bind_some]
  dsimp only
  rw [h4,List.take_length]

/-- The numbers at which something begins or ends, in ascending order, each once. -/
structure IsCuts (xs:List Int) (l:List Rect):Prop where
  asc:xs.Pairwise fun a b=>a < b
  mem : ∀ x,x ∈ xs ↔ ∃ r ∈ l,x = r.X0 ∨ x = r.X1
  len:xs.length ≤ 2 * l.length
theorem asc_between : ∀ {xs:List Int} {a b x:Int},xs.Pairwise (fun a b=>a < b) → a ∈ xs → b ∈ xs → a ≤ x → x < b → ∃ i,∃ h:i + 1 < xs.length,xs[i] ≤ x∧x < xs[i + 1]
  | [],_,_,_,_,h,_,_,_=>by simp at h
  | [h],a,b,x,_,ha,hb,h1,h2=>by simp at ha hb; subst ha; subst hb; omega
  | h :: h2 :: t, a, b, x, hp, ha, hb, hax, hxb => by
    have hp':=List.pairwise_cons.1 hp
    rcases Int.lt_or_le x h2 with hx | hx
    · refine ⟨0, by simp, ?_, hx⟩
      rcases List.mem_cons.1 ha with rfl | ha
      · exact hax
      · have:=hp'.1 a ha; show h ≤ x; omega
    · have hb' : b ∈ h2 :: t := by
        rcases List.mem_cons.1 hb with rfl | hb
        · have:=hp'.1 h2 (by simp); omega
        · exact hb
      obtain ⟨i,hi,h3,h4⟩:=asc_between hp'.2 (a:=h2) (by simp) hb' hx hxb
      exact ⟨i + 1,by simp only [List.length_cons] at hi ⊢; omega,by simpa using h3,by simpa using h4⟩
theorem asc_gap {xs:List Int} (hp:xs.Pairwise fun a b=>a < b) {i:Nat} (h:i + 1 < xs.length) {z:Int} (hz:z ∈ xs):z ≤ xs[i] ∨ xs[i + 1] ≤ z:=by
  obtain ⟨j,hj,rfl⟩:=List.getElem_of_mem hz
  have hp:=List.pairwise_iff_getElem.1 hp
  rcases Nat.lt_or_ge i j with h1 | h1
  · right
    rcases Nat.lt_or_ge (i + 1) j with h2 | h2
    · exact Int.le_of_lt (hp (i + 1) j h hj h2)
    · have : j = i + 1 := by omega
      subst this; exact Int.le_refl _
  · left
    rcases Nat.lt_or_ge j i with h2 | h2
    · exact Int.le_of_lt (hp j i hj (by omega) h2)
    · have : j = i := by omega
      subst this; exact Int.le_refl _
theorem cells_between {l:List Rect} {xs:List Int} (hx:IsCuts xs l) {i:Nat} (h:i + 1 < xs.length) {x:Int} (h1:xs[i] ≤ x) (h2:x < xs[i + 1]) (y:Int):cells l xs[i] y ↔ cells l x y:=by
  refine exists_congr fun r=>and_congr_right fun hr=>?_
  unfold rin
  have g1:=asc_gap hx.asc h ((hx.mem r.X0).2 ⟨r,hr,.inl rfl⟩)
  have g2:=asc_gap hx.asc h ((hx.mem r.X1).2 ⟨r,hr,.inr rfl⟩)
  have g3:=(List.pairwise_iff_getElem.1 hx.asc) i (i + 1) (by omega) h (by omega)
  omega

structure StripsOf (l:List Rect) (out:List RegionStrip):Prop where
  gapless:Gapless out
  col : ∀ s ∈ out,IsCol l s.x0 s.column
  val : ∀ x y,rval false (rval [] (stripRuns out) x) y = true ↔ cells l x y
  len:out.length ≤ 2 * l.length
  same : ∀ s ∈ out,∀ x,s.x0 ≤ x → x < s.x1 → ∀ r ∈ l,(r.X0 ≤ x∧x < r.X1) ↔ (r.X0 ≤ s.x0∧s.x0 < r.X1)
  cover : ∀ r ∈ l,∀ x,r.X0 ≤ x → x < r.X1 → ∃ s ∈ out,s.x0 ≤ x∧x < s.x1
theorem rval_strips {l:List RegionStrip} (h:Gapless l) {i:Nat} (hi:i < l.length) {x:Int} (h1:l[i].x0 ≤ x) (h2:x < l[i].x1):rval [] (stripRuns l) x = spanRuns l[i].column:=by
  have key : ∀ m j,j + m = l.length → i < j → rval [] (stripRuns (l.take j)) x = rval [] (stripRuns l) x:=by
    intro m
    induction m with
    | zero=>intro j hj _; rw [show j = l.length by omega,List.take_length]
    | succ m ih =>
      intro j hj hij
      rw [← ih (j + 1) (by omega) (by omega),rval_take h (show j < l.length by omega),if_neg]
      have a1:=gapless_lo h (show i + 1 < l.length by omega) j (by omega) (by omega)
      have a2:=h.next i (by omega)
      omega
  rw [← key (l.length - (i + 1)) (i + 1) (by omega) (by omega),rval_take h hi,if_pos ⟨h1,h2⟩]

theorem strips_cuts {l:List Rect} (hl:l.length ≤ 100000) : ∃ ys xs zs,iterL (region_strips_L0 l) (l.length + 1) (([]:List Int),0) = some (.ex 0 (ys,(l.length:Int))) ∧
    sortInts ys = some zs∧compactInts zs = some xs∧IsCuts xs l:=by
  obtain ⟨h1,h2⟩:=iter_range (k:=0) (l:=l) (body:=region_strips_L0 l) (fun (s:List Int) i=>(s,i)) (fun s r=>s ++ [r.X0,r.X1]) (fun i s=>s.length = 2 * i) (by
    intro i hi s hI
    constructor
    · unfold region_strips_L0
      dsimp only
      rw [if_pos (by simpa using hi),getI_nat hi,Option.bind_some,appI_some (by simp; omega),Option.bind_some,addI_one (by omega),Option.bind_some]
    · simp; omega) (by
    intro s _
    unfold region_strips_L0
    dsimp only
    rw [if_neg (by simp)]) (s0:=[]) (by simp) (fuel:=l.length + 1) (by omega)
  rw [foldl_flatMap (fun r:Rect=>[r.X0,r.X1]),List.nil_append] at h1 h2
  obtain ⟨zs,h3,h4,h5⟩:=sortInts_spec (l:=l.flatMap fun r=>[r.X0,r.X1]) (by omega)
  have hzl:=h4.length_eq
  obtain ⟨xs,h6,h7,h8,h9⟩:=compactInts_spec (l:=zs) (by omega) h5
  refine ⟨_,xs,zs,h1,h3,h6,h7,fun x=>?_,by omega⟩
  rw [h8,h4.mem_iff]
  simp [List.mem_flatMap]

theorem strips_spec {ls:List (List Rect)} (hv : ∀ r ∈ ls.flatten,VR r) (hl:ls.flatten.length ≤ 100000) (hn:ls.length ≤ 1000) : ∃ out,region_strips ls = some out∧StripsOf ls.flatten out:=by
  unfold region_strips
  rw [concat_Rect (by omega) (by omega),Option.bind_some]
  generalize ls.flatten = l at hv hl
  obtain ⟨ys,xs,zs,h1,h2,h3,hx⟩:=strips_cuts hl
  rw [h1,Option.bind_some]
  dsimp only
  simp only [h2,h3,Option.bind_some]
  have hxl:=hx.len
  rcases Nat.eq_zero_or_pos xs.length with h0 | h0
  · have e : xs = [] := List.length_eq_zero_iff.1 h0
    subst e
    have hl0:l = []:=by
      cases l with
      | nil=>rfl
      | cons r l=>exact absurd ((hx.mem r.X0).2 ⟨r,by simp,.inl rfl⟩) (by simp)
    subst hl0
    refine ⟨[],rfl,⟨by simp,by simp,by simp⟩,by simp,by simp [stripRuns,rval,cells],by simp,by simp,by simp⟩
  · obtain ⟨out, h4, h5, h6⟩ := iter_from (k := 2) (body := region_strips_L1 l xs) (fun (s : List RegionStrip) i => (s, i)) 1 xs.length h0
      (fun i s=>s.length + 1 = i∧∀ j (hj:j < s.length) (hj' : j + 1 < xs.length),s[j].x0 = xs[j]∧s[j].x1 = xs[j + 1]∧IsCol l xs[j] s[j].column) (by
      intro i h1i hi s hI
      obtain ⟨hI1,hI2⟩:=hI
      obtain ⟨c,hc,hcol⟩:=column_spec (x:=xs[i - 1]'(by omega)) hv hl
      refine ⟨s ++ [⟨xs[i - 1]'(by omega),xs[i],c⟩],?_,by simp; omega,fun j hj hj'=>?_⟩
      · unfold region_strips_L1
        dsimp only
        rw [if_pos (by simpa using hi)]
        simp only [subI_nat (show 0 < i by omega) (by omega),Option.bind_some,getI_nat (show i - 1 < xs.length by omega),getI_nat hi,hc]
        rw [appI_some (by simp; omega),Option.bind_some,addI_one (by omega),Option.bind_some]
      · simp only [List.length_append, List.length_cons, List.length_nil] at hj
        rcases Nat.lt_or_ge j s.length with h | h
        · simp only [List.getElem_append_left h]
          exact hI2 j h hj'
        · have : j = s.length := by omega
          subst this
          simp only [List.getElem_concat_length]
          have e1:xs[i - 1]'(by omega) = xs[s.length]:=by congr 1; omega
          have e2:xs[i] = xs[s.length + 1]:=by congr 1; omega
          refine ⟨e1,e2,?_⟩
          rw [← e1]; exact hcol) (by
      intro s _
      unfold region_strips_L1
      dsimp only
      rw [if_neg (by simp)]) (s0:=[]) (by simp) (fuel:=l.length + xs.length + ([]:List RegionStrip).length + 1) (by simp; omega)
    have h4' : iterL (region_strips_L1 l xs) (l.length + xs.length + ([]:List RegionStrip).length + 1) (([]:List RegionStrip),1) = some (.ex 2 (out,(xs.length:Int))):=h4
    rw [h4', Option.bind_some]
    have hg:Gapless out:=by
      refine ⟨fun s hs=>?_,fun i hi=>?_,fun s hs=>?_⟩
      · obtain ⟨j, hj, rfl⟩ := List.getElem_of_mem hs
        obtain ⟨a1,a2,_⟩:=h6 j hj (by omega)
        rw [a1,a2]
        exact (List.pairwise_iff_getElem.1 hx.asc) j (j + 1) (by omega) (by omega) (by omega)
      · rw [(h6 i (by omega) (by omega)).2.1,(h6 (i + 1) hi (by omega)).1]
      · obtain ⟨j, hj, rfl⟩ := List.getElem_of_mem hs
        exact (h6 j hj (by omega)).2.2.canon
    refine ⟨out,rfl,hg,fun s hs=>?_,fun x y=>?_,by omega,fun s hs x c1 c2 r hr=>?_,fun r hr x c1 c2=>?_⟩
    · obtain ⟨j, hj, rfl⟩ := List.getElem_of_mem hs
      obtain ⟨a1,_,a3⟩:=h6 j hj (by omega)
      rw [a1]; exact a3
    · by_cases hs : ∃ i, ∃ h : i + 1 < xs.length, xs[i] ≤ x ∧ x < xs[i + 1]
      · obtain ⟨i, hi, b1, b2⟩ := hs
        obtain ⟨a1,a2,a3⟩:=h6 i (by omega) hi
        rw [rval_strips hg (show i < out.length by omega) (by omega) (by omega),a3.val,cells_between hx hi b1 b2]
      · constructor
        · intro h
          rcases rval_mem (e:=[]) (l:=stripRuns out) (x:=x) with h7 | ⟨a,b,h7,h8⟩
          · rw [h7] at h; simp [rval] at h
          · simp only [stripRuns, List.mem_map, Prod.mk.injEq] at h7
            obtain ⟨s, hs', e1, e2, _⟩ := h7
            obtain ⟨j,hj,rfl⟩:=List.getElem_of_mem hs'
            obtain ⟨a1,a2,_⟩:=h6 j hj (by omega)
            exact absurd ⟨j,by omega,by omega,by omega⟩ hs
        · rintro ⟨r, hr, hrx, hry⟩
          exact absurd (asc_between hx.asc ((hx.mem r.X0).2 ⟨r,hr,.inl rfl⟩) ((hx.mem r.X1).2 ⟨r,hr,.inr rfl⟩) hrx.1 hrx.2) hs
    · obtain ⟨j, hj, rfl⟩ := List.getElem_of_mem hs
      obtain ⟨a1,a2,_⟩:=h6 j hj (by omega)
      have g1:=asc_gap hx.asc (show j + 1 < xs.length by omega) ((hx.mem r.X0).2 ⟨r,hr,.inl rfl⟩)
      have g2:=asc_gap hx.asc (show j + 1 < xs.length by omega) ((hx.mem r.X1).2 ⟨r,hr,.inr rfl⟩)
      omega
    · obtain ⟨i, hi, b1, b2⟩ := asc_between hx.asc ((hx.mem r.X0).2 ⟨r, hr, .inl rfl⟩) ((hx.mem r.X1).2 ⟨r, hr, .inr rfl⟩) c1 c2
      obtain ⟨a1,a2,a3⟩:=h6 i (by omega) hi
      exact ⟨_,List.getElem_mem (show i < out.length by omega),by omega,by omega⟩
theorem write_form {l:List RegionStrip} (h:Gapless l) (hl:l.length ≤ 100000) (hc : ∀ s ∈ l,s.column.length ≤ 1000) {S:Int → Int → Prop} (hS : ∀ x y,rval false (rval [] (stripRuns l) x) y = true ↔ S x y) :
    ∃ out,region_write l = some out∧IsForm S out:=by
  obtain ⟨out,h1,G,h2,h3,h4,h5⟩:=write_spec h hl hc
  exact ⟨out,h1,G,h2,h3,fun x y=>by rw [h4,hS],h5⟩
end Go.Proofs.YtegglcdhfnjhcaaGreat

namespace Go.Proofs.YtegglcdhfnjhcaaGreat
open Go.Gb
set_option linter.unusedVariables false
set_option linter.unusedSimpArgs false
set_option linter.unusedSectionVars false
set_option linter.unusedVariables false
set_option linter.unusedSimpArgs false

instance (l:List Rect) (x y:Int):Decidable (cells l x y):=inferInstanceAs (Decidable (∃ r ∈ l,rin r x y))
theorem equal_Rect_L0 {a b:List Rect} (hl:a.length = b.length) (hb:a.length ≤ 1000000) :
    ∃ f,iterL (slices_Equal_Rect_L0 a b) (a.length + 1) 0 = some f∧((a = b∧∃ s,f = .ex 0 s) ∨ (a ≠ b∧f = .ret false)):=by
  have hs : ∀ i (hi:i < (a.zip b).length),((a.zip b)[i].1 ≠ (a.zip b)[i].2∧slices_Equal_Rect_L0 a b (i:Int) = some (.ret false)) ∨
      (¬ ((a.zip b)[i].1 ≠ (a.zip b)[i].2)∧slices_Equal_Rect_L0 a b (i:Int) = some (.go ((i + 1:Nat):Int))):=by
    intro i hi
    simp only [List.length_zip] at hi
    have h1:i < a.length:=by omega
    have h2:i < b.length:=by omega
    unfold slices_Equal_Rect_L0
    rw [if_pos (by simpa using h1)]
    simp only [getI_nat h1,getI_nat h2,Option.bind_some,List.getElem_zip]
    by_cases he:a[i] = b[i]
    · right
      rw [if_neg (by simpa using he)]
      simp only [addI_one (show i < 4611686018427387904 by omega),Option.bind_some]
      exact ⟨by simpa using he,trivial⟩
    · left
      rw [if_pos (by simpa using he)]
      exact ⟨he,rfl⟩
  have hd:slices_Equal_Rect_L0 a b ((a.zip b).length:Int) = some (.ex 0 ((a.zip b).length:Int)):=by
    have e:((a.zip b).length:Int) = (a.length:Int):=by simp; omega
    rw [e]
    unfold slices_Equal_Rect_L0
    rw [if_neg (by simp)]
  rcases iter_find (l:=a.zip b) (body:=slices_Equal_Rect_L0 a b) (k:=0) (fun p=>p.1 ≠ p.2) (fun _=>false) hs hd (fuel:=a.length + 1) (by simp; omega) with ⟨i,hi,hp,_,h⟩ | ⟨hp,h⟩
  · refine ⟨_, h, .inr ⟨fun e => ?_, rfl⟩⟩
    subst e
    simp at hp
  · refine ⟨_, h, .inl ⟨?_, _, rfl⟩⟩
    refine List.ext_getElem hl fun i h1 h2=>?_
    have:=hp (a[i],b[i]) (by
      rw [List.mem_iff_getElem]
      exact ⟨i,by simp; omega,by simp⟩)
    simpa using this
theorem equal_Rect {a b:List Rect} (hb:a.length ≤ 1000000):slices_Equal_Rect a b = some (decide (a = b)):=by
  unfold slices_Equal_Rect
  by_cases hl:a.length = b.length
  · rw [if_neg (by simp [hl])]
    obtain ⟨f,hf,h⟩:=equal_Rect_L0 hl hb
    rw [hf,Option.bind_some]
    rcases h with ⟨h1,s,rfl⟩ | ⟨h1,rfl⟩ <;> simp [h1]
  · rw [if_pos (by simp; omega)]
    congr 1
    symm
    rw [decide_eq_false_iff_not]
    intro e; exact hl (by rw [e])
theorem region_Same_eq {a b:List Rect} (hb:a.length ≤ 1000000):region_Same a b = some (decide (a = b)):=by
  unfold region_Same
  rw [equal_Rect hb,Option.bind_some]

/-- The form, if it is not too long. -/
def lim (out:List Rect):List Rect × Int:=if 200 < out.length then ([],6) else (out,0)
theorem limited_eq (out:List Rect):region_limited out = some (lim out):=by
  unfold region_limited lim
  by_cases h:200 < out.length
  · rw [if_pos (by simp; omega),if_pos h]
  · rw [if_neg (by simp; omega),if_neg h]
theorem Of_check {l:List Rect} (hl:l.length ≤ 100000) :
    (¬ (∀ r ∈ l,VR r)∧iterL (region_Of_L0 l) (l.length + 1) 0 = some (.ret ([],1))) ∨ ((∀ r ∈ l,VR r)∧iterL (region_Of_L0 l) (l.length + 1) 0 = some (.ex 0 (l.length:Int))):=by
  rcases iter_find (l:=l) (body:=region_Of_L0 l) (k:=0) (fun r=>¬ VR r) (fun _=>(([]:List Rect),(1:Int))) (by
    intro i hi
    unfold region_Of_L0
    rw [if_pos (by simpa using hi)]
    simp only [getI_nat hi,Option.bind_some,rect_Right_eq]
    by_cases he:VR l[i]
    · right
      rw [if_neg (by simpa using he)]
      simp only [addI_one (show i < 4611686018427387904 by omega),Option.bind_some]
      exact ⟨fun h=>h he,trivial⟩
    · left
      rw [if_pos (by simpa using he)]
      exact ⟨he,rfl⟩) (by
    unfold region_Of_L0
    rw [if_neg (by simp)]) (fuel:=l.length + 1) (by omega) with ⟨i,hi,hp,_,h⟩ | ⟨hp,h⟩
  · exact .inl ⟨fun h'=>hp (h' _ (List.getElem_mem hi)),h⟩
  · exact .inr ⟨fun r hr=>Classical.not_not.1 (hp r hr),h⟩
theorem region_Of_bad {l:List Rect} (hl:l.length ≤ 100000) (h : ¬ ∀ r ∈ l,VR r):region_Of l = some ([],1):=by
  unfold region_Of
  rcases Of_check hl with ⟨_,h1⟩ | ⟨h1,_⟩
  · rw [h1,Option.bind_some]
  · exact absurd h1 h
theorem region_Of_many {l:List Rect} (hl:l.length ≤ 100000) (h : ∀ r ∈ l,VR r) (hm:400 < l.length):region_Of l = some ([],6):=by
  unfold region_Of
  rcases Of_check hl with ⟨h1,_⟩ | ⟨_,h1⟩
  · exact absurd h h1
  · rw [h1, Option.bind_some]
    dsimp only
    rw [if_pos (by simp; omega)]
theorem region_Of_fine {l:List Rect} (h : ∀ r ∈ l,VR r) (hm:l.length ≤ 400) : ∃ out,IsForm (cells l) out∧region_Of l = some (lim out):=by
  unfold region_Of
  rcases Of_check (l:=l) (by omega) with ⟨h1,_⟩ | ⟨_,h1⟩
  · exact absurd h h1
  · obtain ⟨st, h2, h3⟩ := strips_spec (ls := [l]) (by simpa using h) (by simp; omega) (by simp)
    rw [show [l].flatten = l by simp] at h3
    have hlen:=h3.len
    obtain ⟨out,h4,h5⟩:=write_form (S:=cells l) h3.gapless (by omega) (fun s hs=>by have:=(h3.col s hs).len; omega) h3.val
    refine ⟨out,h5,?_⟩
    rw [h1,Option.bind_some]
    dsimp only
    rw [if_neg (by simp; omega),h2,Option.bind_some,h4,Option.bind_some,limited_eq,Option.bind_some]

/-- The list is a region. -/
def RR (a:List Rect):Prop:=(∀ r ∈ a,VR r)∧a.length ≤ 200∧IsForm (cells a) a
theorem region_Right_spec {a:List Rect} (hl:a.length ≤ 100000) : ∃ b,region_Right a = some b∧(b = true ↔ RR a):=by
  unfold region_Right
  by_cases h : ∀ r ∈ a,VR r
  · rcases Nat.lt_or_ge 400 a.length with hm | hm
    · rw [region_Of_many hl h hm, Option.bind_some, if_neg (by simp), Option.bind_some]
      exact ⟨_,rfl,by simp,fun h=>absurd h.2.1 (by omega)⟩
    · obtain ⟨out, h1, h2⟩ := region_Of_fine h hm
      rw [h2,Option.bind_some]
      unfold lim
      by_cases h3:200 < out.length
      · rw [if_pos h3, if_neg (by simp), Option.bind_some]
        refine ⟨_,rfl,by simp,fun h=>?_⟩
        have:=h.2.2.unique h1 (fun _ _=>Iff.rfl)
        rw [this] at h
        exact absurd h.2.1 (by omega)
      · rw [if_neg h3]
        dsimp only
        rw [if_pos (by simp),equal_Rect (by omega),Option.bind_some,Option.bind_some]
        refine ⟨_,rfl,?_⟩
        simp only [decide_eq_true_eq]
        constructor
        · intro e
          rw [e] at h1 h3
          exact ⟨h,by omega,h1⟩
        · intro h4
          exact h1.unique h4.2.2 (fun _ _=>Iff.rfl)
  · rw [region_Of_bad hl h, Option.bind_some, if_neg (by simp), Option.bind_some]
    exact ⟨_,rfl,by simp,fun h'=>absurd h'.1 h⟩
theorem RR_nil:RR []:=⟨by simp,by simp,form_nil.congr fun x y=>by simp [cells]⟩

/-! Combining -/
end Go.Proofs.YtegglcdhfnjhcaaGreat

namespace Go.Proofs.YtegglcdhfnjhcaaGreat
open Go.Gb
set_option linter.unusedVariables false
set_option linter.unusedSimpArgs false
set_option linter.unusedSectionVars false
set_option linter.unusedVariables false
set_option linter.unusedSimpArgs false

def slabRuns (s:List Slab):Runs (List Rect):=s.map fun x=>(x.Z0,x.Z1,x.Area)
theorem slabRuns_length (a:List Slab):(slabRuns a).length = a.length:=by simp [slabRuns]
theorem slabRuns_inj : ∀ {a b:List Slab},slabRuns a = slabRuns b → a = b
  | [],[],_=>rfl
  | [],_::_,h=>by simp [slabRuns] at h
  | _::_,[],h=>by simp [slabRuns] at h
  | ⟨f, t, u⟩ :: a, ⟨f', t', u'⟩ :: b, h => by
    simp only [slabRuns,List.map_cons,List.cons.injEq,Prod.mk.injEq] at h
    obtain ⟨⟨rfl,rfl,rfl⟩,h⟩:=h
    rw [slabRuns_inj (a:=a) (b:=b) h]
/-- The cross-section at z. -/
def sect (s:List Slab) (z:Int):List Rect:=rval [] (slabRuns s) z
/-- The cube (x, y, z) is in the solid. -/
def scells (s:List Slab) (x y z:Int):Prop:=cells (sect s z) x y
instance (s:List Slab) (x y z:Int):Decidable (scells s x y z):=inferInstanceAs (Decidable (cells _ _ _))
/-- The list is the solid of the set of cubes. -/
structure IsSolid (S:Int → Int → Int → Prop) (out:List Slab):Prop where
  canon:Canon [] (slabRuns out)
  form : ∀ z,IsForm (fun x y=>S x y z) (sect out z)
theorem IsSolid.unique {S S' : Int → Int → Int → Prop} {out out' : List Slab} (h:IsSolid S out) (h' : IsSolid S' out') (he : ∀ x y z,S x y z ↔ S' x y z):out = out':=
  slabRuns_inj (canon_unique h.canon h'.canon fun z=>(h.form z).unique (h'.form z) fun x y=>he x y z)
theorem IsSolid.congr {S S' : Int → Int → Int → Prop} {out:List Slab} (h:IsSolid S out) (he : ∀ x y z,S x y z ↔ S' x y z):IsSolid S' out:=
  ⟨h.canon,fun z=>(h.form z).congr fun x y=>he x y z⟩
theorem IsSolid.cells {S:Int → Int → Int → Prop} {out:List Slab} (h:IsSolid S out) (x y z:Int):scells out x y z ↔ S x y z:=(h.form z).cells x y
theorem IsSolid.self {S:Int → Int → Int → Prop} {out:List Slab} (h:IsSolid S out):IsSolid (scells out) out:=h.congr fun x y z=>(h.cells x y z).symm

/-- The list is a solid. -/
structure SS (s:List Slab):Prop where
  len:s.length ≤ 80
  canon:Canon [] (slabRuns s)
  ok : ∀ b ∈ s,0 ≤ b.Z0∧b.Z1 ≤ 4096∧RR b.Area
theorem SS.sect {s:List Slab} (h:SS s) (z:Int):RR (sect s z):=by
  rcases rval_mem (e:=[]) (l:=slabRuns s) (x:=z) with h1 | ⟨a,b,h1,_⟩
  · unfold YtegglcdhfnjhcaaGreat.sect; rw [h1]; exact RR_nil
  · obtain ⟨x, hx, he⟩ := List.mem_map.1 h1
    simp only [Prod.mk.injEq] at he
    unfold YtegglcdhfnjhcaaGreat.sect; rw [← he.2.2]; exact (h.ok x hx).2.2
theorem slab_mem {s:List Slab} {b:Slab} (h:b ∈ s):(b.Z0,b.Z1,b.Area) ∈ slabRuns s:=List.mem_map.2 ⟨b,h,rfl⟩
theorem slab_pos {s:List Slab} (h:Canon [] (slabRuns s)) {b:Slab} (hb:b ∈ s):b.Z0 < b.Z1∧b.Area ≠ []:=canon_mem h (slab_mem hb)
theorem sect_mem {s:List Slab} (h:Canon [] (slabRuns s)) {b:Slab} (hb:b ∈ s) {z:Int} (h1:b.Z0 ≤ z) (h2:z < b.Z1):sect s z = b.Area:=rval_of_mem h (slab_mem hb) h1 h2
theorem slabs_canon {s:List Slab}:Canon [] (slabRuns s) ↔ (∀ i (h:i < s.length),s[i].Z0 < s[i].Z1∧s[i].Area ≠ []) ∧
    ∀ i (h:i + 1 < s.length),s[i].Z1 < s[i + 1].Z0 ∨ (s[i].Z1 = s[i + 1].Z0∧s[i].Area ≠ s[i + 1].Area):=by
  rw [canon_iff]
  simp only [slabRuns_length]
  simp only [slabRuns,List.getElem_map]

/-! Right -/
theorem solid_Right_spec {s:List Slab} (ha : ∀ b ∈ s,b.Area.length ≤ 100000) : ∃ b,solid_Right s = some b∧(b = true ↔ SS s):=by
  unfold solid_Right
  by_cases hl:80 < s.length
  · rw [if_pos (by simp; omega)]
    exact ⟨_,rfl,by simp,fun h=>absurd h.len (by omega)⟩
  · rw [if_neg (by simp; omega)]
    have hstep : ∀ i,i < s.length → (∀ j,j < i → ¬ ¬ ((∃ h:j < s.length,0 ≤ s[j].Z0∧s[j].Z0 < s[j].Z1∧s[j].Z1 ≤ 4096∧s[j].Area ≠ []∧RR s[j].Area)∧∀ h0:0 < j,∀ h:j < s.length,(s[j - 1]'(by omega)).Z1 < s[j].Z0 ∨ ((s[j - 1]'(by omega)).Z1 = s[j].Z0∧(s[j - 1]'(by omega)).Area ≠ s[j].Area))) →
        (¬ ((∃ h:i < s.length,0 ≤ s[i].Z0∧s[i].Z0 < s[i].Z1∧s[i].Z1 ≤ 4096∧s[i].Area ≠ []∧RR s[i].Area)∧∀ h0:0 < i,∀ h:i < s.length,(s[i - 1]'(by omega)).Z1 < s[i].Z0 ∨ ((s[i - 1]'(by omega)).Z1 = s[i].Z0∧(s[i - 1]'(by omega)).Area ≠ s[i].Area)) ∧
          solid_Right_L0 s (i:Int) = some (.ret false)) ∨
        (¬ ¬ ((∃ h:i < s.length,0 ≤ s[i].Z0∧s[i].Z0 < s[i].Z1∧s[i].Z1 ≤ 4096∧s[i].Area ≠ []∧RR s[i].Area)∧∀ h0:0 < i,∀ h:i < s.length,(s[i - 1]'(by omega)).Z1 < s[i].Z0 ∨ ((s[i - 1]'(by omega)).Z1 = s[i].Z0∧(s[i - 1]'(by omega)).Area ≠ s[i].Area)) ∧
          solid_Right_L0 s (i:Int) = some (.go ((i + 1:Nat):Int))):=by
      intro i hi _
      obtain ⟨rb,hr1,hr2⟩:=region_Right_spec (a:=s[i].Area) (ha _ (List.getElem_mem hi))
      unfold solid_Right_L0
      rw [if_pos (by simpa using hi),getI_nat hi,Option.bind_some]
      by_cases h1:0 ≤ s[i].Z0∧s[i].Z0 < s[i].Z1∧s[i].Z1 ≤ 4096∧s[i].Area ≠ []
      · have hal : 0 < s[i].Area.length := List.length_pos_iff.2 h1.2.2.2
        rw [if_neg (by simp only [Bool.or_eq_true,decide_eq_true_eq,beq_iff_eq]; omega),hr1,Option.bind_some,Option.bind_some]
        cases rb
        · left
          rw [if_pos (by simp),Option.bind_some]
          refine ⟨fun h=>?_,rfl⟩
          obtain ⟨⟨_,_,_,_,_,h⟩,_⟩:=h
          exact absurd (hr2.2 h) (by simp)
        · have hRR := hr2.1 rfl
          rw [if_neg (by simp)]
          rcases Nat.eq_zero_or_pos i with rfl | h0
          · right
            rw [if_pos (by simp),Option.bind_some]
            dsimp only
            rw [addI_one (by omega),Option.bind_some]
            exact ⟨fun h=>h ⟨⟨hi,h1.1,h1.2.1,h1.2.2.1,h1.2.2.2,hRR⟩,fun h=>absurd h (Nat.lt_irrefl _)⟩,rfl⟩
          · have hsame : region_Same (s[i - 1]'(by omega)).Area s[i].Area = some (decide ((s[i - 1]'(by omega)).Area = s[i].Area)) := region_Same_eq (by have := ha _ (List.getElem_mem (show i - 1 < s.length by omega)); omega)
            rw [if_neg (by simp; omega),subI_nat h0 (by omega),Option.bind_some,getI_nat (show i - 1 < s.length by omega),Option.bind_some]
            have hcond:(if decide (s[i].Z0 < (s[i - 1]'(by omega)).Z1) = true then some true else (if ((s[i - 1]'(by omega)).Z1 == s[i].Z0) = true then (region_Same (s[i - 1]'(by omega)).Area s[i].Area).bind fun x=>some x else some false).bind fun x=>some x) =
                some (decide (¬ ((s[i - 1]'(by omega)).Z1 < s[i].Z0 ∨ ((s[i - 1]'(by omega)).Z1 = s[i].Z0∧(s[i - 1]'(by omega)).Area ≠ s[i].Area)))):=by
              by_cases c1:s[i].Z0 < (s[i - 1]'(by omega)).Z1
              · rw [if_pos (by simpa using c1)]; congr 1; simp; omega
              · rw [if_neg (by simpa using c1), hsame]
                by_cases c2:(s[i - 1]'(by omega)).Z1 = s[i].Z0
                · rw [if_pos (by simpa using c2)]; simp [c2]
                · rw [if_neg (by simpa using c2)]; simp; omega
            rw [hcond,Option.bind_some]
            by_cases c:(s[i - 1]'(by omega)).Z1 < s[i].Z0 ∨ ((s[i - 1]'(by omega)).Z1 = s[i].Z0∧(s[i - 1]'(by omega)).Area ≠ s[i].Area)
            · right
              rw [if_neg (by simp only [decide_eq_true_eq,Classical.not_not]; exact c),Option.bind_some]
              dsimp only
              rw [addI_one (by omega),Option.bind_some]
              exact ⟨fun h=>h ⟨⟨hi,h1.1,h1.2.1,h1.2.2.1,h1.2.2.2,hRR⟩,fun _ _=>c⟩,rfl⟩
            · left
              rw [if_pos (decide_eq_true c),Option.bind_some]
              exact ⟨fun h=>c (h.2 h0 hi),rfl⟩
      · left
        rw [if_pos (by
          simp only [Bool.or_eq_true,decide_eq_true_eq,beq_iff_eq]
          rcases Int.lt_or_le s[i].Z0 0 with g | g
          · exact .inl (.inl (.inl g))
          · rcases Int.lt_or_le s[i].Z0 s[i].Z1 with g2 | g2
            · rcases Int.lt_or_le 4096 s[i].Z1 with g3 | g3
              · exact .inl (.inr g3)
              · right
                have:s[i].Area = []:=Classical.not_not.1 fun h=>h1 ⟨g,g2,g3,h⟩
                rw [this]; rfl
            · exact .inl (.inl (.inr g2))),Option.bind_some,if_pos rfl,Option.bind_some]
        refine ⟨fun h=>h1 ?_,rfl⟩
        obtain ⟨⟨_,a,b,c,d,_⟩,_⟩:=h
        exact ⟨a,b,c,d⟩
    rcases iter_findN (body:=solid_Right_L0 s) (k:=0) s.length (fun i=>¬ ((∃ h:i < s.length,0 ≤ s[i].Z0∧s[i].Z0 < s[i].Z1∧s[i].Z1 ≤ 4096∧s[i].Area ≠ []∧RR s[i].Area)∧∀ h0:0 < i,∀ h:i < s.length,(s[i - 1]'(by omega)).Z1 < s[i].Z0 ∨ ((s[i - 1]'(by omega)).Z1 = s[i].Z0∧(s[i - 1]'(by omega)).Area ≠ s[i].Area))) (fun _=>false) hstep (by
        unfold solid_Right_L0
        rw [if_neg (by simp)]) (fuel:=s.length + 1) (by omega) with ⟨i,hi,hp,_,h⟩ | ⟨hp,h⟩
    · rw [h, Option.bind_some]
      refine ⟨_,rfl,by simp,fun hS=>absurd ⟨⟨hi,?_⟩,fun h0 _=>?_⟩ hp⟩
      · have h1 := hS.ok _ (List.getElem_mem hi)
        have h2:=slab_pos hS.canon (List.getElem_mem hi)
        exact ⟨h1.1,h2.1,h1.2.1,h2.2,h1.2.2⟩
      · have := (slabs_canon.1 hS.canon).2 (i - 1) (by omega)
        have e:i - 1 + 1 = i:=by omega
        simp only [e] at this
        exact this
    · rw [h, Option.bind_some]
      have hp' : ∀ i (hi:i < s.length),(0 ≤ s[i].Z0∧s[i].Z0 < s[i].Z1∧s[i].Z1 ≤ 4096∧s[i].Area ≠ []∧RR s[i].Area)∧∀ h0:0 < i,(s[i - 1]'(by omega)).Z1 < s[i].Z0 ∨ ((s[i - 1]'(by omega)).Z1 = s[i].Z0∧(s[i - 1]'(by omega)).Area ≠ s[i].Area):=by
        intro i hi
        have:=Classical.not_not.1 (hp i hi)
        exact ⟨this.1.2,fun h0=>this.2 h0 hi⟩
      refine ⟨_,rfl,fun _=>⟨by omega,slabs_canon.2 ⟨fun i hi=>⟨(hp' i hi).1.2.1,(hp' i hi).1.2.2.2.1⟩,fun i hi=>(hp' (i + 1) hi).2 (by omega)⟩,fun b hb=>?_⟩,fun _=>rfl⟩
      obtain ⟨i,hi,rfl⟩:=List.getElem_of_mem hb
      have:=(hp' i hi).1
      exact ⟨this.1,this.2.2.1,this.2.2.2.2⟩
theorem solid_Right_true {s:List Slab} (h:SS s):solid_Right s = some true:=by
  obtain ⟨b,h1,h2⟩:=solid_Right_spec (s:=s) (fun b hb=>by have:=(h.ok b hb).2.2.2.1; omega)
  rw [h1,h2.2 h]
theorem solid_Right_false {s:List Slab} (ha : ∀ b ∈ s,b.Area.length ≤ 100000) (h : ¬ SS s):solid_Right s = some false:=by
  obtain ⟨b,h1,h2⟩:=solid_Right_spec ha
  rw [h1]; cases b
  · rfl
  · exact absurd (h2.1 rfl) h

/-! put -/
/-! Heights -/
/-! The solid of a function of z that is constant between cuts -/
end Go.Proofs.YtegglcdhfnjhcaaGreat

namespace Go.Proofs.YtegglcdhfnjhcaaGreat
open Go.Gb
set_option linter.unusedVariables false
set_option linter.unusedSimpArgs false
set_option linter.unusedSectionVars false
set_option linter.unusedVariables false
set_option linter.unusedSimpArgs false

/-! Of -/
def VB (b:Box):Prop:=VR b.Base∧0 ≤ b.Z0∧b.Z0 < b.Z1∧b.Z1 ≤ 4096
instance (b:Box):Decidable (VB b):=inferInstanceAs (Decidable (_∧_))
/-- The cube (x, y, z) is in one of the boxes. -/
def bcells (l:List Box) (x y z:Int):Prop:=∃ b ∈ l,rin b.Base x y∧b.Z0 ≤ z∧z < b.Z1
instance (l:List Box) (x y z:Int):Decidable (bcells l x y z):=inferInstanceAs (Decidable (∃ b ∈ l,_))
def bases (l:List Box) (z:Int):List Rect:=(l.filter fun b=>decide (b.Z0 ≤ z) && decide (z < b.Z1)).map (·.Base)
/-! Combining -/
end Go.Proofs.YtegglcdhfnjhcaaGreat

namespace Go.Proofs.YtegglcdhfnjhcaaGreat
open Go.Gb
set_option linter.unusedVariables false
set_option linter.unusedSimpArgs false
set_option linter.unusedSectionVars false
set_option linter.unusedVariables false
set_option linter.unusedSimpArgs false

/-! What is asked of a region -/
/-! What is asked of a solid -/
def boxesOf (s:List Slab):List Box:=s.flatMap fun x=>x.Area.map fun r=>⟨r,x.Z0,x.Z1⟩
theorem Boxes_L1 {x:Slab} (hx:x.Area.length ≤ 1000000) {o:List Box} (ho:o.length ≤ 100000000) :
    iterL (solid_Boxes_L1 x) (x.Area.length + 1) (o,0) = some (.ex 2 (o ++ x.Area.map (fun r=>⟨r,x.Z0,x.Z1⟩),(x.Area.length:Int))):=by
  refine (iter_range (k:=2) (l:=x.Area) (body:=solid_Boxes_L1 x) (fun (s:List Box) i=>(s,i)) (fun s r=>s ++ [⟨r,x.Z0,x.Z1⟩]) (fun i s=>s.length ≤ 100000000 + i) (by
    intro i hi s hI
    constructor
    · unfold solid_Boxes_L1
      dsimp only
      rw [if_pos (by simpa using hi),getI_nat hi,Option.bind_some,appI_some (by simp; omega),Option.bind_some,addI_one (by omega),Option.bind_some]
    · simp; omega) (by
    intro s _
    unfold solid_Boxes_L1
    dsimp only
    rw [if_neg (by simp)]) (s0:=o) (by omega) (by omega)).1.trans ?_
  rw [foldl_flatMap (fun r:Rect=>[(⟨r,x.Z0,x.Z1⟩:Box)]),List.map_eq_flatMap]
theorem solid_Boxes_fine {s:List Slab} (h:SS s):solid_Boxes s = some (boxesOf s):=by
  unfold solid_Boxes
  rw [solid_Right_true h,Option.bind_some,if_neg (by simp)]
  have hl:=h.len
  obtain ⟨h1,h2⟩:=iter_range (k:=0) (l:=s) (body:=solid_Boxes_L0 s) (fun (s:List Box) i=>(s,i)) (fun o x=>o ++ x.Area.map fun r=>⟨r,x.Z0,x.Z1⟩) (fun i o=>o.length ≤ 200 * i) (by
    intro i hi o hI
    have hx:=(h.ok _ (List.getElem_mem hi)).2.2.2.1
    constructor
    · unfold solid_Boxes_L0
      dsimp only
      rw [if_pos (by simpa using hi),getI_nat hi,Option.bind_some,Boxes_L1 (by omega) (by omega),Option.bind_some]
      dsimp only
      rw [addI_one (by omega),Option.bind_some]
    · simp; omega) (by
    intro o _
    unfold solid_Boxes_L0
    dsimp only
    rw [if_neg (by simp)]) (s0:=[]) (by simp) (fuel:=s.length + 1) (by omega)
  rw [h1,Option.bind_some,foldl_flatMap (fun x:Slab=>x.Area.map fun r=>(⟨r,x.Z0,x.Z1⟩:Box))]
  rfl
theorem solid_Boxes_bad {s:List Slab} (ha : ∀ b ∈ s,b.Area.length ≤ 100000) (h : ¬ SS s):solid_Boxes s = some []:=by
  unfold solid_Boxes
  rw [solid_Right_false ha h,Option.bind_some,if_pos (by simp)]
theorem boxesOf_length {s:List Slab} (h:SS s):(boxesOf s).length ≤ 16000:=by
  have hl:=h.len
  have key : ∀ l:List Slab,(∀ b ∈ l,b.Area.length ≤ 200) → (boxesOf l).length ≤ 200 * l.length:=by
    intro l
    induction l with
    | nil=>intro _; simp [boxesOf]
    | cons a l ih =>
      intro hb
      have h1:=ih fun b hb'=>hb b (by simp [hb'])
      have h2:=hb a (by simp)
      unfold boxesOf at h1 ⊢
      simp only [List.flatMap_cons,List.length_append,List.length_map,List.length_cons]
      omega
  have:=key s fun b hb=>(h.ok b hb).2.2.2.1
  omega
theorem boxesOf_VB {s:List Slab} (h:SS s) : ∀ b ∈ boxesOf s,VB b:=by
  intro b hb
  obtain ⟨x,hx,hb⟩:=List.mem_flatMap.1 hb
  obtain ⟨r,hr,rfl⟩:=List.mem_map.1 hb
  have h1:=h.ok x hx
  have h2:=slab_pos h.canon hx
  exact ⟨h1.2.2.1 r hr,h1.1,h2.1,h1.2.1⟩
theorem bcells_boxesOf {s:List Slab} (h:Canon [] (slabRuns s)) (x y z:Int):bcells (boxesOf s) x y z ↔ scells s x y z:=by
  constructor
  · rintro ⟨b, hb, h1, h2⟩
    obtain ⟨q,hq,hb⟩:=List.mem_flatMap.1 hb
    obtain ⟨r,hr,rfl⟩:=List.mem_map.1 hb
    unfold scells
    rw [sect_mem h hq h2.1 h2.2]
    exact ⟨r,hr,h1⟩
  · intro hc
    unfold scells at hc
    rcases rval_mem (e:=[]) (l:=slabRuns s) (x:=z) with h1 | ⟨p,q,h1,h2⟩
    · unfold sect at hc; rw [h1] at hc; simp [cells] at hc
    · obtain ⟨b, hb, he⟩ := List.mem_map.1 h1
      simp only [Prod.mk.injEq] at he
      obtain ⟨r,hr,hr'⟩:=hc
      refine ⟨⟨r, b.Z0, b.Z1⟩, List.mem_flatMap.2 ⟨b, hb, List.mem_map.2 ⟨r, ?_, rfl⟩⟩, hr', by dsimp only; omega⟩
      have:sect s z = b.Area:=by unfold sect; rw [← he.2.2]
      rw [← this]; exact hr
/-- The height over a cell. -/
def IsTop (s:List Slab) (x y t:Int):Prop:=0 ≤ t∧(∀ z,scells s x y z → z < t)∧(t = 0 ∨ scells s x y (t - 1))
theorem IsTop.unique {s:List Slab} {x y t t' : Int} (h:IsTop s x y t) (h' : IsTop s x y t'):t = t':=by
  obtain ⟨a1,a2,a3⟩:=h
  obtain ⟨b1,b2,b3⟩:=h'
  rcases a3 with rfl | a3
  · rcases b3 with rfl | b3
    · rfl
    · have:=a2 _ b3; omega
  · have := b2 _ a3
    rcases b3 with rfl | b3
    · omega
    · have:=a2 _ b3; omega
end Go.Proofs.YtegglcdhfnjhcaaGreat

namespace Go.Proofs.YtegglcdhfnjhcaaGreat
open Go.Gb
set_option linter.unusedVariables false
set_option linter.unusedSimpArgs false
set_option linter.unusedSectionVars false
set_option linter.unusedVariables false
set_option linter.unusedSimpArgs false

/-! Forms that can be checked by reckoning -/
def canonB {V:Type} [DecidableEq V] (e:V):Runs V → Bool
  | []=>true
  | (a,b,v)::t=>decide (a < b) && decide (v ≠ e) && (match t with | []=>true | (c,_,w)::_=>decide (b < c) || (decide (b = c) && decide (v ≠ w))) && canonB e t
theorem canonB_spec {V:Type} [DecidableEq V] {e:V} : ∀ {l:Runs V},canonB e l = true → Canon e l
  | [],_=>trivial
  | (a, b, v) :: t, h => by
    simp only [canonB,Bool.and_eq_true,decide_eq_true_eq] at h
    obtain ⟨⟨⟨h1,h2⟩,h3⟩,h4⟩:=h
    refine ⟨h1,h2,?_,canonB_spec h4⟩
    cases t with
    | nil=>trivial
    | cons r t =>
      obtain ⟨c,d,w⟩:=r
      simp only [Bool.or_eq_true,Bool.and_eq_true,decide_eq_true_eq] at h3
      exact h3
/-- The runs of columns of a list of rectangles, neighbours with the same ends in one. -/
def runsOf:List Rect → Runs Col
  | []=>[]
  | r :: l => match runsOf l with
    | []=>[(r.X0,r.X1,[(r.Y0,r.Y1,true)])]
    | (a,b,c)::t=>if r.X0 = a∧r.X1 = b then (a,b,(r.Y0,r.Y1,true)::c)::t else (r.X0,r.X1,[(r.Y0,r.Y1,true)])::(a,b,c)::t
theorem flatG_cons (a b:Int) (c:Col) (t:Runs Col):flatG ((a,b,c)::t) = (c.map fun s=>⟨a,s.1,b,s.2.1⟩) ++ flatG t:=rfl
theorem flatG_runsOf : ∀ l:List Rect,flatG (runsOf l) = l
  | []=>rfl
  | r :: l => by
    have ih:=flatG_runsOf l
    simp only [runsOf]
    split
    · rename_i h
      rw [h] at ih
      rw [← ih]; rfl
    · rename_i a b c t h
      rw [h] at ih
      split
      · rename_i h2
        obtain ⟨rfl,rfl⟩:=h2
        rw [← ih,flatG_cons,flatG_cons]; rfl
      · rw [flatG_cons,← ih]; rfl
def formB (l:List Rect):Bool:=canonB [] (runsOf l) && (runsOf l).all fun g=>canonB false g.2.2
theorem formB_spec {l:List Rect} (h:formB l = true):IsForm (cells l) l:=by
  unfold formB at h
  rw [Bool.and_eq_true,List.all_eq_true] at h
  have hf:IsForm (fun x y=>rval false (rval [] (runsOf l) x) y = true) l:=⟨runsOf l,canonB_spec h.1,fun a b c hm=>canonB_spec (h.2 _ hm),fun _ _=>Iff.rfl,(flatG_runsOf l).symm⟩
  exact hf.self
def rrB (l:List Rect):Bool:=l.all (fun r=>decide (VR r)) && decide (l.length ≤ 200) && formB l
theorem rrB_spec {l:List Rect} (h:rrB l = true):RR l:=by
  unfold rrB at h
  simp only [Bool.and_eq_true,List.all_eq_true,decide_eq_true_eq] at h
  exact ⟨h.1.1,h.1.2,formB_spec h.2⟩
def ssB (s:List Slab):Bool:=decide (s.length ≤ 80) && canonB [] (slabRuns s) && s.all fun b=>decide (0 ≤ b.Z0) && decide (b.Z1 ≤ 4096) && rrB b.Area
theorem ssB_spec {s:List Slab} (h:ssB s = true):SS s:=by
  unfold ssB at h
  simp only [Bool.and_eq_true,List.all_eq_true,decide_eq_true_eq] at h
  exact ⟨h.1.1,canonB_spec h.1.2,fun b hb=>⟨(h.2 b hb).1.1,(h.2 b hb).1.2,rrB_spec (h.2 b hb).2⟩⟩
end Go.Proofs.YtegglcdhfnjhcaaGreat

namespace Go.Proofs.YtegglcdhfnjhcaaGreat
open Go.Gb
set_option linter.unusedVariables false
set_option linter.unusedSimpArgs false
set_option linter.unusedSectionVars false
set_option linter.unusedVariables false
set_option linter.unusedSimpArgs false

def ends (l:List (Int × Int)):List Int:=l.flatMap fun r=>[r.1,r.2]
/-- What holds at a cell hangs on the rectangles alone that the cell is in. -/
structure Hangs (S:Int → Int → Prop) (l:List Rect):Prop where
  same : ∀ x y x' y', (∀ r ∈ l, rin r x y ↔ rin r x' y') → (S x y ↔ S x' y')
  none : ∀ x y,(∀ r ∈ l,¬ rin r x y) → ¬ S x y
/-- What holds at a cube hangs on the boxes alone that it is in. -/
structure Hangs3 (S:Int → Int → Int → Prop) (l:List Box):Prop where
  same : ∀ x y z x' y' z', (∀ b ∈ l, (rin b.Base x y ∧ b.Z0 ≤ z ∧ z < b.Z1) ↔ (rin b.Base x' y' ∧ b.Z0 ≤ z' ∧ z' < b.Z1)) → (S x y z ↔ S x' y' z')
  none : ∀ x y z,(∀ b ∈ l,¬ (rin b.Base x y∧b.Z0 ≤ z∧z < b.Z1)) → ¬ S x y z
theorem Hangs3.at {S:Int → Int → Int → Prop} {l:List Box} (h:Hangs3 S l) (z:Int):Hangs (fun x y=>S x y z) (bases l z):=by
  have hb : ∀ b ∈ l,(b.Z0 ≤ z∧z < b.Z1) → b.Base ∈ bases l z:=fun b hb hz=>List.mem_map.2 ⟨b,List.mem_filter.2 ⟨hb,by simpa using hz⟩,rfl⟩
  refine ⟨fun x y x' y' he=>h.same _ _ _ _ _ _ fun b hbl=>?_,fun x y hno=>h.none _ _ _ fun b hbl hh=>hno _ (hb b hbl hh.2) hh.1⟩
  constructor
  · rintro ⟨h1,h2⟩; exact ⟨(he _ (hb b hbl h2)).1 h1,h2⟩
  · rintro ⟨h1,h2⟩; exact ⟨(he _ (hb b hbl h2)).2 h1,h2⟩
theorem Hangs3.mono {S:Int → Int → Int → Prop} {l m:List Box} (h:Hangs3 S l) (hs : ∀ b ∈ l,b ∈ m):Hangs3 S m:=
  ⟨fun x y z x' y' z' he=>h.same _ _ _ _ _ _ fun b hb=>he b (hs b hb),fun x y z hn=>h.none x y z fun b hb=>hn b (hs b hb)⟩
theorem Hangs3.congr {S T:Int → Int → Int → Prop} {l:List Box} (h:Hangs3 S l) (he : ∀ x y z,S x y z ↔ T x y z):Hangs3 T l:=
  ⟨fun x y z x' y' z' hh=>by rw [← he,← he]; exact h.same _ _ _ _ _ _ hh,fun x y z hn=>by rw [← he]; exact h.none _ _ _ hn⟩
end Go.Proofs.YtegglcdhfnjhcaaGreat

namespace Go.Proofs.YtegglcdhfnjhcaaGreat
open Go.Gb
set_option linter.unusedVariables false
set_option linter.unusedSimpArgs false
set_option linter.unusedSectionVars false
set_option maxRecDepth 100000
def sg (x y:Int):Int:=if x < y then -1 else if y < x then 1 else 0
theorem cmp_eq (x y:Int):cmp_Compare_int x y = some (sg x y):=by
  unfold cmp_Compare_int cmp_isNaN_int sg
  simp only [bne_self_eq_false,Option.bind_some,decide_eq_true_eq]
  rw [if_neg (by simp),if_neg (by simp)]
  split
  · rfl
  · split <;> rfl
theorem mul_bounds {x y M:Int} (h0 : -M ≤ x) (h1:x ≤ M) (h2:0 ≤ y) (h3:y ≤ M) : -(M * M) ≤ x * y∧x * y ≤ M * M:=by
  have a1:=Int.mul_le_mul_of_nonneg_right h0 h2
  have a2:=Int.mul_le_mul_of_nonneg_right h1 h2
  have a3:M * y ≤ M * M:=Int.mul_le_mul_of_nonneg_left h3 (by omega)
  constructor
  · have : -M * y = -(M * y) := Int.neg_mul M y
    omega
  · omega

/-! bounds -/
theorem cross_lt {n1 d1 n2 d2 p q:Int} (hd1:0 < d1) (hd2:0 < d2) (hq:0 < q) (h:n1 * d2 < n2 * d1) (g:n2 * q ≤ p * d2):n1 * q < p * d1:=by
  rcases Int.lt_or_le (n1 * q) (p * d1) with h0 | h0
  · exact h0
  · have e1 := Int.mul_le_mul_of_nonneg_right h0 (Int.le_of_lt hd2)
    have e2:=Int.mul_lt_mul_of_pos_right h hq
    have e3:=Int.mul_le_mul_of_nonneg_right g (Int.le_of_lt hd1)
    grind
theorem cross_gt {n1 d1 n2 d2 p q:Int} (hd1:0 < d1) (hd2:0 < d2) (hq:0 < q) (h:n2 * d1 < n1 * d2) (g:p * d2 ≤ n2 * q):p * d1 < n1 * q:=by
  rcases Int.lt_or_le (p * d1) (n1 * q) with h0 | h0
  · exact h0
  · have e1 := Int.mul_le_mul_of_nonneg_right h0 (Int.le_of_lt hd2)
    have e2:=Int.mul_lt_mul_of_pos_right h hq
    have e3:=Int.mul_le_mul_of_nonneg_right g (Int.le_of_lt hd1)
    grind
theorem cross_eq {n1 d1 n2 d2 p q:Int} (hd1:0 < d1) (hd2:0 < d2) (h:n1 * d2 = n2 * d1) (g:n2 * q ≤ p * d2):n1 * q ≤ p * d1:=by
  rcases Int.lt_or_le (p * d1) (n1 * q) with h0 | h0
  · have e1 := Int.mul_lt_mul_of_pos_right h0 hd2
    have e3:=Int.mul_le_mul_of_nonneg_right g (Int.le_of_lt hd1)
    have e4:n1 * d2 * q = n2 * d1 * q:=by rw [h]
    grind
  · exact h0
theorem cross_eq' {n1 d1 n2 d2 p q:Int} (hd1:0 < d1) (hd2:0 < d2) (h:n1 * d2 = n2 * d1) (g:p * d2 ≤ n2 * q):p * d1 ≤ n1 * q:=by
  rcases Int.lt_or_le (n1 * q) (p * d1) with h0 | h0
  · have e1 := Int.mul_lt_mul_of_pos_right h0 hd2
    have e3:=Int.mul_le_mul_of_nonneg_right g (Int.le_of_lt hd1)
    have e4:n1 * d2 * q = n2 * d1 * q:=by rw [h]
    grind
  · exact h0
/-- p/q is above, below a bound n/d -/
def loR (n d:Int) (o:Bool) (p q:Int):Prop:=n * q ≤ p * d∧(o = true → n * q < p * d)
def hiR (n d:Int) (o:Bool) (p q:Int):Prop:=p * d ≤ n * q∧(o = true → p * d < n * q)
def nK (n d:Int):Prop:=0 < d∧d ≤ 4194304∧-4194304 ≤ n∧n ≤ 4194304
section
variable {n1 d1 n2 d2 p q:Int} {o1 o2:Bool}
theorem nK.mul (h:nK n1 d1) (g:nK n2 d2):mulI n1 d2 = some (n1 * d2):=by
  have:=mul_bounds (x:=n1) (y:=d2) (M:=4194304) h.2.2.1 h.2.2.2 (Int.le_of_lt g.1) g.2.1
  exact mulI_some (by unfold inI; omega)
theorem lo_lt (h:nK n1 d1) (g:nK n2 d2) (hq:0 < q) (hc:n1 * d2 < n2 * d1) (hx:loR n2 d2 o2 p q):loR n1 d1 o1 p q:=by
  have:=cross_lt h.1 g.1 hq hc hx.1
  exact ⟨by omega,fun _=>this⟩
theorem lo_eq (h:nK n1 d1) (g:nK n2 d2) (hc:n1 * d2 = n2 * d1):(n1 * q ≤ p * d1 ↔ n2 * q ≤ p * d2)∧(n1 * q < p * d1 ↔ n2 * q < p * d2):=by
  have a:=cross_eq (p:=p) (q:=q) h.1 g.1 hc
  have b:=cross_eq (p:=p) (q:=q) g.1 h.1 hc.symm
  have c:=cross_eq' (p:=p) (q:=q) h.1 g.1 hc
  have d:=cross_eq' (p:=p) (q:=q) g.1 h.1 hc.symm
  refine ⟨⟨b,a⟩,⟨fun x=>?_,fun x=>?_⟩⟩
  · rcases Int.lt_or_le (n2 * q) (p * d2) with y | y
    · exact y
    · have:=c y; omega
  · rcases Int.lt_or_le (n1 * q) (p * d1) with y | y
    · exact y
    · have:=d y; omega
theorem lo_or (h:nK n1 d1) (g:nK n2 d2) (hc:n1 * d2 = n2 * d1):loR n1 d1 (o1 || o2) p q ↔ loR n1 d1 o1 p q∧loR n2 d2 o2 p q:=by
  obtain ⟨a,b⟩:=lo_eq (p:=p) (q:=q) h g hc
  unfold loR
  rw [← a,← b]
  cases o1 <;> cases o2 <;> simp <;> intro h0 _ <;> exact h0
theorem hi_lt (h:nK n1 d1) (g:nK n2 d2) (hq:0 < q) (hc:n2 * d1 < n1 * d2) (hx:hiR n2 d2 o2 p q):hiR n1 d1 o1 p q:=by
  have:=cross_gt h.1 g.1 hq hc hx.1
  exact ⟨by omega,fun _=>this⟩
theorem hi_eq (h:nK n1 d1) (g:nK n2 d2) (hc:n1 * d2 = n2 * d1):(p * d1 ≤ n1 * q ↔ p * d2 ≤ n2 * q)∧(p * d1 < n1 * q ↔ p * d2 < n2 * q):=by
  obtain ⟨a,b⟩:=lo_eq (p:=p) (q:=q) h g hc
  constructor
  · constructor
    · intro x; rcases Int.lt_or_le (n2 * q) (p * d2) with y | y
      · have:=b.2 y; omega
      · exact y
    · intro x; rcases Int.lt_or_le (n1 * q) (p * d1) with y | y
      · have:=b.1 y; omega
      · exact y
  · constructor
    · intro x; rcases Int.lt_or_le (p * d2) (n2 * q) with y | y
      · exact y
      · have:=a.2 y; omega
    · intro x; rcases Int.lt_or_le (p * d1) (n1 * q) with y | y
      · exact y
      · have:=a.1 y; omega
theorem hi_or (h:nK n1 d1) (g:nK n2 d2) (hc:n1 * d2 = n2 * d1):hiR n1 d1 (o1 || o2) p q ↔ hiR n1 d1 o1 p q∧hiR n2 d2 o2 p q:=by
  obtain ⟨a,b⟩:=hi_eq (p:=p) (q:=q) h g hc
  unfold hiR
  rw [← a,← b]
  cases o1 <;> cases o2 <;> simp <;> intro h0 _ <;> exact h0
/-- nothing lies between bounds in the wrong order; something does in the right one -/
theorem gap_none (h:nK n1 d1) (g:nK n2 d2) (hq:0 < q) (hl:loR n1 d1 o1 p q) (hh:hiR n2 d2 o2 p q):n1 * d2 ≤ n2 * d1∧((o1 = true ∨ o2 = true) → n1 * d2 < n2 * d1):=by
  constructor
  · rcases Int.lt_or_le (n2 * d1) (n1 * d2) with x | x
    · have := cross_gt h.1 g.1 hq x hh.1
      have:=hl.1
      omega
    · exact x
  · intro ho
    rcases Int.lt_trichotomy (n1 * d2) (n2 * d1) with x | x | x
    · exact x
    · obtain ⟨a, b⟩ := hi_eq (p := p) (q := q) h g x
      rcases ho with ho | ho
      · have:=hl.2 ho; have:=a.2 hh.1; omega
      · have:=b.2 (hh.2 ho); have:=hl.1; omega
    · have := cross_gt h.1 g.1 hq x hh.1
      have:=hl.1
      omega
theorem gap_some (h:nK n1 d1) (g:nK n2 d2) (hc:n1 * d2 < n2 * d1 ∨ (n1 * d2 = n2 * d1∧o1 = false∧o2 = false)) : ∃ p q,0 < q∧loR n1 d1 o1 p q∧hiR n2 d2 o2 p q:=by
  rcases hc with hc | ⟨hc,rfl,rfl⟩
  · refine ⟨n1 * d2 + n2 * d1, 2 * (d1 * d2), by have := Int.mul_pos h.1 g.1; omega, ?_, ?_⟩
    · have e := Int.mul_lt_mul_of_pos_right hc h.1
      have:n1 * (2 * (d1 * d2)) < (n1 * d2 + n2 * d1) * d1:=by grind
      exact ⟨by omega,fun _=>this⟩
    · have e := Int.mul_lt_mul_of_pos_right hc g.1
      have:(n1 * d2 + n2 * d1) * d2 < n2 * (2 * (d1 * d2)):=by grind
      exact ⟨by omega,fun _=>this⟩
  · exact ⟨n1,d1,h.1,⟨Int.le_refl _,by simp⟩,⟨by omega,by simp⟩⟩
theorem top_some (h:nK n1 d1) : ∃ p q,0 < q∧loR n1 d1 o1 p q:=by
  refine ⟨n1 + d1,d1,h.1,?_⟩
  have e:=Int.mul_pos h.1 h.1
  have:n1 * d1 < (n1 + d1) * d1:=by grind
  exact ⟨by omega,fun _=>this⟩
/-- what it means that at + t * by is in a range -/
theorem lo_pos {at' by' from' : Int} (hb:0 < by'):loR (from' - at') by' false p q ↔ from' * q ≤ at' * q + by' * p:=by
  unfold loR
  constructor
  · intro h; have:=h.1; grind
  · intro h; refine ⟨?_,by simp⟩; grind
theorem hi_pos {at' by' to' : Int} (hb:0 < by'):hiR (to' - at') by' true p q ↔ at' * q + by' * p < to' * q:=by
  unfold hiR
  constructor
  · intro h; have:=h.2 rfl; grind
  · intro h; have : p * by' < (to' - at') * q := by grind
    exact ⟨by omega,fun _=>this⟩
theorem lo_neg {at' by' to' : Int}:loR (at' - to') (0 - by') true p q ↔ at' * q + by' * p < to' * q:=by
  unfold loR
  constructor
  · intro h; have:=h.2 rfl; grind
  · intro h; have : (at' - to') * q < p * (0 - by') := by grind
    exact ⟨by omega,fun _=>this⟩
theorem hi_neg {at' by' from' : Int}:hiR (at' - from') (0 - by') false p q ↔ from' * q ≤ at' * q + by' * p:=by
  unfold hiR
  constructor
  · intro h; have:=h.1; grind
  · intro h; refine ⟨?_,by simp⟩; grind
end
end Go.Proofs.YtegglcdhfnjhcaaGreat

namespace Go.Proofs.YtegglcdhfnjhcaaGreat
open Go.Gb
set_option linter.unusedVariables false
set_option linter.unusedSimpArgs false
set_option linter.unusedSectionVars false
set_option maxRecDepth 100000
theorem sg_pos {a b:Int}:0 < sg a b ↔ b < a:=by unfold sg; split <;> (try split) <;> omega
theorem sg_neg {a b:Int}:sg a b < 0 ↔ a < b:=by unfold sg; split <;> (try split) <;> omega
theorem sg_zero {a b:Int}:sg a b = 0 ↔ a = b:=by unfold sg; split <;> (try split) <;> omega
def bK (x:SightBound):Prop:=nK x.n x.d
def IvK (i:SightInterval):Prop:=bK i.lo∧(i.top = true → bK i.hi)
def Mem (i:SightInterval) (p q:Int):Prop:=i.none_ = false∧loR i.lo.n i.lo.d i.lo.open_ p q∧(i.top = true → hiR i.hi.n i.hi.d i.hi.open_ p q)
theorem compare_eq {x y:SightBound} (hx:bK x) (hy:bK y):sight_bound_compare x y = some (sg (x.n * y.d) (y.n * x.d)):=by
  unfold sight_bound_compare
  rw [nK.mul hx hy,Option.bind_some,nK.mul hy hx,Option.bind_some,cmp_eq,Option.bind_some]
theorem above_eq {i:SightInterval} {b:SightBound} (hi:IvK i) (hb:bK b) :
    ∃ j,sight_interval_above i b = some j∧IvK j∧j.top = i.top∧∀ p q,0 < q → (Mem j p q ↔ Mem i p q∧loR b.n b.d b.open_ p q):=by
  unfold sight_interval_above
  rw [compare_eq hb hi.1,Option.bind_some]
  by_cases c1:i.lo.n * b.d < b.n * i.lo.d
  · rw [if_pos (by rw [decide_eq_true_iff]; exact sg_pos.2 c1), Option.bind_some]
    refine ⟨_,rfl,⟨hb,hi.2⟩,rfl,fun p q hq=>?_⟩
    unfold Mem
    dsimp only
    constructor
    · rintro ⟨h1, h2, h3⟩
      exact ⟨⟨h1,lo_lt hi.1 hb hq c1 h2,h3⟩,h2⟩
    · rintro ⟨⟨h1, _, h3⟩, h2⟩
      exact ⟨h1,h2,h3⟩
  · rw [if_neg (by rw [decide_eq_true_iff]; exact fun h => c1 (sg_pos.1 h))]
    by_cases c2:b.n * i.lo.d = i.lo.n * b.d
    · rw [if_pos (by rw [beq_iff_eq]; exact sg_zero.2 c2), Option.bind_some, Option.bind_some]
      refine ⟨_,rfl,⟨hi.1,hi.2⟩,rfl,fun p q hq=>?_⟩
      unfold Mem
      dsimp only
      rw [lo_or hi.1 hb c2.symm]
      constructor
      · rintro ⟨h1, ⟨h2, h4⟩, h3⟩
        exact ⟨⟨h1,h2,h3⟩,h4⟩
      · rintro ⟨⟨h1, h2, h3⟩, h4⟩
        exact ⟨h1,⟨h2,h4⟩,h3⟩
    · rw [if_neg (by rw [beq_iff_eq]; exact fun h => c2 (sg_zero.1 h)), Option.bind_some, Option.bind_some]
      refine ⟨_,rfl,hi,rfl,fun p q hq=>⟨fun h=>⟨h,?_⟩,fun h=>h.1⟩⟩
      exact lo_lt hb hi.1 hq (by omega) h.2.1
theorem below_eq {i:SightInterval} {b:SightBound} (hi:IvK i) (hb:bK b) :
    ∃ j,sight_interval_below i b = some j∧IvK j∧j.top = true∧∀ p q,0 < q → (Mem j p q ↔ Mem i p q∧hiR b.n b.d b.open_ p q):=by
  unfold sight_interval_below
  by_cases ht:i.top = true
  · have hh := hi.2 ht
    rw [if_pos ht,compare_eq hb hh,Option.bind_some,Option.bind_some]
    by_cases c1:b.n * i.hi.d < i.hi.n * b.d
    · rw [if_pos (by rw [decide_eq_true_iff]; exact sg_neg.2 c1), Option.bind_some]
      refine ⟨_,rfl,⟨hi.1,fun _=>hb⟩,rfl,fun p q hq=>?_⟩
      unfold Mem
      dsimp only
      constructor
      · rintro ⟨h1, h2, h3⟩
        exact ⟨⟨h1,h2,fun _=>hi_lt hh hb hq (by omega) (h3 rfl)⟩,h3 rfl⟩
      · rintro ⟨⟨h1, h2, _⟩, h3⟩
        exact ⟨h1,h2,fun _=>h3⟩
    · rw [if_neg (by rw [decide_eq_true_iff]; exact fun h => c1 (sg_neg.1 h))]
      by_cases c2:b.n * i.hi.d = i.hi.n * b.d
      · rw [if_pos (by rw [beq_iff_eq]; exact sg_zero.2 c2), Option.bind_some, Option.bind_some]
        refine ⟨_,rfl,⟨hi.1,fun _=>hh⟩,ht,fun p q hq=>?_⟩
        unfold Mem
        dsimp only
        rw [hi_or hh hb c2.symm]
        constructor
        · rintro ⟨h1, h2, h3⟩
          exact ⟨⟨h1,h2,fun h=>(h3 h).1⟩,(h3 ht).2⟩
        · rintro ⟨⟨h1, h2, h3⟩, h4⟩
          exact ⟨h1,h2,fun h=>⟨h3 h,h4⟩⟩
      · rw [if_neg (by rw [beq_iff_eq]; exact fun h => c2 (sg_zero.1 h)), Option.bind_some, Option.bind_some]
        refine ⟨_,rfl,hi,ht,fun p q hq=>⟨fun h=>⟨h,?_⟩,fun h=>h.1⟩⟩
        exact hi_lt hb hh hq (by omega) (h.2.2 ht)
  · rw [if_neg ht, Option.bind_some, if_pos (by decide), Option.bind_some]
    refine ⟨_,rfl,⟨hi.1,fun _=>hb⟩,rfl,fun p q hq=>?_⟩
    unfold Mem
    dsimp only
    constructor
    · rintro ⟨h1, h2, h3⟩
      exact ⟨⟨h1,h2,fun h=>absurd h ht⟩,h3 rfl⟩
    · rintro ⟨⟨h1, h2, _⟩, h3⟩
      exact ⟨h1,h2,fun _=>h3⟩
/-- coordinates, and steps, that can be reckoned with -/
def cK (x:Int):Prop:=-2097152 ≤ x∧x ≤ 2097152
theorem narrow_eq {i:SightInterval} {at' by' from' to' : Int} (hi:IvK i) (h1:cK at') (h2:cK by') (h3:cK from') (h4:cK to') :
    ∃ j,sight_interval_narrow i at' by' from' to' = some j∧IvK j∧(i.top = true → j.top = true)∧∀ p q,0 < q → (Mem j p q ↔ Mem i p q∧from' * q ≤ at' * q + by' * p∧at' * q + by' * p < to' * q):=by
  unfold cK at h1 h2 h3 h4
  unfold sight_interval_narrow
  by_cases c1:0 < by'
  · rw [if_pos (by simpa using c1), subI_some (by unfold inI; omega), Option.bind_some]
    obtain ⟨j, e1, e2, e3, e4⟩ := above_eq (b := ⟨from' - at', by', false⟩) hi (by unfold bK nK; dsimp only; omega)
    rw [e1,Option.bind_some,subI_some (by unfold inI; omega),Option.bind_some]
    obtain ⟨j', g1, g2, g3, g4⟩ := below_eq (b := ⟨to' - at', by', true⟩) e2 (by unfold bK nK; dsimp only; omega)
    rw [g1,Option.bind_some,Option.bind_some]
    refine ⟨j', rfl, g2, fun _ => g3, fun p q hq => ?_⟩
    rw [g4 p q hq,e4 p q hq]
    dsimp only
    rw [lo_pos c1,hi_pos c1,and_assoc]
  · rw [if_neg (by simpa using c1)]
    by_cases c2:by' < 0
    · rw [if_pos (by simpa using c2), subI_some (by unfold inI; omega), Option.bind_some, subI_some (by unfold inI; omega), Option.bind_some]
      obtain ⟨j, e1, e2, e3, e4⟩ := above_eq (b := ⟨at' - to', 0 - by', true⟩) hi (by unfold bK nK; dsimp only; omega)
      rw [e1,Option.bind_some,subI_some (by unfold inI; omega),Option.bind_some,Option.bind_some]
      obtain ⟨j', g1, g2, g3, g4⟩ := below_eq (b := ⟨at' - from', 0 - by', false⟩) e2 (by unfold bK nK; dsimp only; omega)
      rw [g1,Option.bind_some,Option.bind_some,Option.bind_some]
      refine ⟨j', rfl, g2, fun _ => g3, fun p q hq => ?_⟩
      rw [g4 p q hq,e4 p q hq]
      dsimp only
      rw [lo_neg,hi_neg,and_assoc]
      exact and_congr_right fun _=>and_comm
    · have hb : by' = 0 := by omega
      subst hb
      rw [if_neg (by simp)]
      by_cases c3:at' < from' ∨ to' ≤ at'
      · rw [if_pos (by simpa using c3), Option.bind_some, Option.bind_some, Option.bind_some]
        refine ⟨_,rfl,hi,fun h=>h,fun p q hq=>?_⟩
        unfold Mem
        dsimp only
        constructor
        · rintro ⟨h,_⟩; simp at h
        · rintro ⟨_, g1, g2⟩
          rw [Int.zero_mul,Int.add_zero] at g1 g2
          have a1:=Int.le_of_mul_le_mul_right g1 hq
          have a2:=Int.lt_of_mul_lt_mul_right g2 (Int.le_of_lt hq)
          omega
      · rw [if_neg (by simpa using c3), Option.bind_some, Option.bind_some, Option.bind_some]
        refine ⟨_,rfl,hi,fun h=>h,fun p q hq=>⟨fun h=>⟨h,?_,?_⟩,fun h=>h.1⟩⟩
        · rw [Int.zero_mul,Int.add_zero]; exact Int.mul_le_mul_of_nonneg_right (by omega) (Int.le_of_lt hq)
        · rw [Int.zero_mul,Int.add_zero]; exact Int.mul_lt_mul_of_pos_right (by omega) hq
theorem empty_eq {i:SightInterval} (hi:IvK i) : ∃ e,sight_interval_empty i = some e∧(e = false ↔ ∃ p q,0 < q∧Mem i p q):=by
  unfold sight_interval_empty
  by_cases hn:i.none_ = true
  · rw [if_pos (by simp [hn])]
    exact ⟨_,rfl,by simp [hn],fun ⟨p,q,_,h⟩=>by have:=h.1; rw [hn] at this; simp at this⟩
  · by_cases ht : i.top = true
    · have hh := hi.2 ht
      rw [if_neg (by simp [hn,ht]),compare_eq hi.1 hh,Option.bind_some]
      refine ⟨_,rfl,?_⟩
      have hn' : i.none_ = false:=by simpa using hn
      constructor
      · intro h
        simp only [Bool.or_eq_false_iff,decide_eq_false_iff_not,Bool.and_eq_false_iff,beq_eq_false_iff_ne] at h
        rw [sg_pos] at h
        obtain ⟨p,q,hq,h1,h2⟩:=gap_some (o1:=i.lo.open_) (o2:=i.hi.open_) hi.1 hh (by
          rcases Int.lt_trichotomy (i.lo.n * i.hi.d) (i.hi.n * i.lo.d) with x | x | x
          · exact .inl x
          · right
            rcases h.2 with h' | h'
            · exact absurd (sg_zero.2 x) h'
            · exact ⟨x,h'⟩
          · exact absurd x h.1)
        exact ⟨p, q, hq, hn', h1, fun _ => h2⟩
      · rintro ⟨p, q, hq, _, h1, h2⟩
        obtain ⟨g1,g2⟩:=gap_none hi.1 hh hq h1 (h2 ht)
        simp only [Bool.or_eq_false_iff,decide_eq_false_iff_not,Bool.and_eq_false_iff,beq_eq_false_iff_ne]
        rw [sg_pos]
        refine ⟨by omega,?_⟩
        by_cases ho:i.lo.open_ = true ∨ i.hi.open_ = true
        · left
          intro hz
          have:=g2 ho
          rw [sg_zero] at hz
          omega
        · right
          simpa using ho
    · rw [if_pos (by simp [ht])]
      have hn' : i.none_ = false:=by simpa using hn
      refine ⟨_,rfl,fun _=>?_,fun _=>hn'⟩
      obtain ⟨p,q,hq,h⟩:=top_some (o1:=i.lo.open_) hi.1
      exact ⟨p, q, hq, hn', h, fun h => absurd h ht⟩

/-! boxes -/
/-- p + (a/b) v is in a box -/
def inBox (x:Box) (p v:Point3) (a b:Int):Prop:=
  (x.Base.X0 * b ≤ p.X * b + v.X * a∧p.X * b + v.X * a < x.Base.X1 * b)∧(x.Base.Y0 * b ≤ p.Y * b + v.Y * a∧p.Y * b + v.Y * a < x.Base.Y1 * b)∧(x.Z0 * b ≤ p.Z * b + v.Z * a∧p.Z * b + v.Z * a < x.Z1 * b)
def pK (p:Point3):Prop:=cK p.X∧cK p.Y∧cK p.Z
theorem boxK {x:Box} (h:VB x):cK x.Base.X0∧cK x.Base.X1∧cK x.Base.Y0∧cK x.Base.Y1∧cK x.Z0∧cK x.Z1:=by
  unfold VB VR at h; unfold cK; omega
theorem meets_L0_eq {p v:Point3} {t:SightInterval} {l:List Box} (hp:pK p) (hv:pK v) (ht:IvK t) (hl : ∀ x ∈ l,VB x) (hn:l.length ≤ 1000000) :
    ∃ r,(iterL (sight_meets_L0 p v t l) (l.length + 1) 0).bind (fun f=>match f with | .go _=>none | .ex _ _=>some false | .ret r=>some r) = some r ∧
      (r = true ↔ ∃ x ∈ l,∃ a b,0 < b∧Mem t a b∧inBox x p v a b):=by
  rcases iter_find (l:=l) (body:=sight_meets_L0 p v t l) (k:=0) (fun x=>∃ a b,0 < b∧Mem t a b∧inBox x p v a b) (fun _=>true) (by
    intro i hi
    obtain ⟨k1,k2,k3,k4,k5,k6⟩:=boxK (hl _ (List.getElem_mem hi))
    obtain ⟨j1,a1,a2,_,a4⟩:=narrow_eq ht hp.1 hv.1 k1 k2
    obtain ⟨j2,b1,b2,_,b4⟩:=narrow_eq a2 hp.2.1 hv.2.1 k3 k4
    obtain ⟨j3,c1,c2,_,c4⟩:=narrow_eq b2 hp.2.2 hv.2.2 k5 k6
    obtain ⟨e,e1,e2⟩:=empty_eq c2
    have he:e = false ↔ ∃ a b,0 < b∧Mem t a b∧inBox l[i] p v a b:=by
      rw [e2]
      refine exists_congr fun a=>exists_congr fun b=>and_congr_right fun hb=>?_
      rw [c4 a b hb,b4 a b hb,a4 a b hb]
      unfold inBox
      simp only [and_assoc]
    unfold sight_meets_L0
    rw [if_pos (by simpa using hi),getI_nat hi,Option.bind_some,a1,Option.bind_some,b1,Option.bind_some,c1,Option.bind_some,e1,Option.bind_some]
    cases e
    · left
      rw [if_pos (by rfl)]
      exact ⟨he.1 rfl,rfl⟩
    · right
      rw [if_neg (by simp),addI_one (by omega),Option.bind_some]
      exact ⟨fun h=>by simpa using he.2 h,rfl⟩) (by
    unfold sight_meets_L0
    rw [if_neg (by simp)]) (fuel:=l.length + 1) (by omega) with ⟨i,hi,hp,_,h⟩ | ⟨hp,h⟩
  · rw [h, Option.bind_some]
    exact ⟨_,rfl,fun _=>⟨_,List.getElem_mem hi,hp⟩,fun _=>rfl⟩
  · rw [h, Option.bind_some]
    exact ⟨_,rfl,by simp,fun ⟨x,hx,h⟩=>absurd h (hp x hx)⟩
/-- p + (a/b) v is in a set of cubes -/
def Hit (S:Int → Int → Int → Prop) (p v:Point3) (a b:Int):Prop:=S ((p.X * b + v.X * a) / b) ((p.Y * b + v.Y * a) / b) ((p.Z * b + v.Z * a) / b)
theorem inBox_iff {x:Box} {p v:Point3} {a b:Int} (hb:0 < b) :
    inBox x p v a b ↔ rin x.Base ((p.X * b + v.X * a) / b) ((p.Y * b + v.Y * a) / b)∧x.Z0 ≤ (p.Z * b + v.Z * a) / b∧(p.Z * b + v.Z * a) / b < x.Z1:=by
  unfold inBox rin
  rw [Int.le_ediv_iff_mul_le hb,Int.le_ediv_iff_mul_le hb,Int.le_ediv_iff_mul_le hb,Int.ediv_lt_iff_lt_mul hb,Int.ediv_lt_iff_lt_mul hb,Int.ediv_lt_iff_lt_mul hb]
  simp only [and_assoc]
theorem hit_boxes {l:List Box} {p v:Point3} {a b:Int} (hb:0 < b):Hit (bcells l) p v a b ↔ ∃ x ∈ l,inBox x p v a b:=by
  unfold Hit bcells
  exact exists_congr fun x=>and_congr_right fun _=>(inBox_iff hb).symm
theorem meets_eq {s:List Slab} {p v:Point3} {t:SightInterval} (hp:pK p) (hv:pK v) (ht:IvK t) (hs : ∀ b ∈ s,b.Area.length ≤ 100000) :
    ∃ r,sight_meets s p v t = some r∧(r = true ↔ SS s∧∃ a b,0 < b∧Mem t a b∧Hit (scells s) p v a b):=by
  unfold sight_meets
  by_cases h:SS s
  · rw [solid_Boxes_fine h, Option.bind_some]
    obtain ⟨r,h1,h2⟩:=meets_L0_eq hp hv ht (boxesOf_VB h) (by have:=boxesOf_length h; omega)
    refine ⟨r,h1,h2.trans ?_⟩
    constructor
    · rintro ⟨x, hx, a, b, hb, hm, hi⟩
      refine ⟨h,a,b,hb,hm,?_⟩
      have:=(hit_boxes (l:=boxesOf s) hb).2 ⟨x,hx,hi⟩
      unfold Hit at this ⊢
      exact (bcells_boxesOf h.canon _ _ _).1 this
    · rintro ⟨_, a, b, hb, hm, hi⟩
      obtain ⟨x,hx,hi⟩:=(hit_boxes (l:=boxesOf s) (p:=p) (v:=v) (a:=a) hb).1 ((bcells_boxesOf h.canon _ _ _).2 hi)
      exact ⟨x,hx,a,b,hb,hm,hi⟩
  · rw [solid_Boxes_bad hs h, Option.bind_some]
    obtain ⟨r,h1,h2⟩:=meets_L0_eq (l:=[]) hp hv ht (by simp) (by simp)
    refine ⟨r,h1,h2.trans ⟨fun ⟨x,hx,_⟩=>by simp at hx,fun h'=>absurd h'.1 h⟩⟩
def onP (p:Point3):Prop:=0 ≤ p.X∧p.X ≤ 1048576∧0 ≤ p.Y∧p.Y ≤ 1048576∧0 ≤ p.Z∧p.Z ≤ 4096
instance (p:Point3):Decidable (onP p):=by unfold onP; infer_instance
theorem on_eq (p:Point3):sight_on p = some (decide (onP p)):=by
  unfold sight_on
  congr 1
  rw [Bool.eq_iff_iff,decide_eq_true_iff]
  unfold onP
  simp only [Bool.and_eq_true,decide_eq_true_eq]
  omega
theorem onP.pK {p:Point3} (h:onP p):YtegglcdhfnjhcaaGreat.pK p:=by unfold onP at h; unfold YtegglcdhfnjhcaaGreat.pK cK; omega
def less3 (q p:Point3):Point3:=⟨q.X - p.X,q.Y - p.Y,q.Z - p.Z⟩
/-- A segment is blocked: p + (a/b) (q - p) is in a cube, for a number between 0 and 1. -/
def BlockedP (S:Int → Int → Int → Prop) (p q:Point3):Prop:=∃ a b,0 < b∧0 < a∧a < b∧Hit S p (less3 q p) a b
def RayP (S:Int → Int → Int → Prop) (p d:Point3):Prop:=∃ a b,0 < b∧0 < a∧Hit S p d a b
theorem Blocked_eq {s:List Slab} {p q:Point3} (hs : ∀ b ∈ s,b.Area.length ≤ 100000) :
    ∃ r,sight_Blocked s p q = some r∧(r = true ↔ onP p∧onP q∧SS s∧BlockedP (scells s) p q):=by
  unfold sight_Blocked
  rw [on_eq,Option.bind_some]
  by_cases hp:onP p
  · by_cases hq : onP q
    · rw [if_neg (by simp [hp]), on_eq, Option.bind_some, Option.bind_some, if_neg (by simp [hq])]
      have hp':=hp
      have hq':=hq
      unfold onP at hp' hq'
      rw [subI_some (by unfold inI; omega),Option.bind_some,subI_some (by unfold inI; omega),Option.bind_some,subI_some (by unfold inI; omega),Option.bind_some]
      obtain ⟨r,h1,h2⟩:=meets_eq (s:=s) (p:=p) (v:=less3 q p) (t:=⟨⟨0,1,true⟩,⟨1,1,true⟩,true,false⟩) hp.pK (by unfold pK cK less3; dsimp only; omega) (by unfold IvK bK nK; dsimp only; omega) hs
      unfold less3 at h1
      rw [h1,Option.bind_some]
      refine ⟨r,rfl,h2.trans ⟨fun ⟨g1,a,b,g2,g3,g4⟩=>⟨hp,hq,g1,a,b,g2,?_,?_,g4⟩,fun ⟨_,_,g1,a,b,g2,g3,g4,g5⟩=>⟨g1,a,b,g2,⟨rfl,?_,fun _=>?_⟩,g5⟩⟩⟩
      · have:=g3.2.1.2 rfl; dsimp only at this; omega
      · have:=(g3.2.2 rfl).2 rfl; dsimp only at this; omega
      · unfold loR; dsimp only; omega
      · unfold hiR; dsimp only; omega
    · rw [if_neg (by simp [hp]), on_eq, Option.bind_some, Option.bind_some, if_pos (by simp [hq])]
      exact ⟨_,rfl,by simp,fun h=>absurd h.2.1 hq⟩
  · rw [if_pos (by simp [hp]), Option.bind_some, if_pos rfl]
    exact ⟨_,rfl,by simp,fun h=>absurd h.1 hp⟩
def dirP (d:Point3):Prop:=¬ (d.X = 0∧d.Y = 0∧d.Z = 0)∧(-1048576 ≤ d.X∧d.X ≤ 1048576)∧(-1048576 ≤ d.Y∧d.Y ≤ 1048576)∧(-1048576 ≤ d.Z∧d.Z ≤ 1048576)
instance (p:Point3):Decidable (dirP p):=by unfold dirP; infer_instance
theorem Ray_eq {s:List Slab} {p d:Point3} (hs : ∀ b ∈ s,b.Area.length ≤ 100000) :
    ∃ r,sight_Ray s p d = some r∧(r = true ↔ onP p∧dirP d∧SS s∧RayP (scells s) p d):=by
  unfold sight_Ray
  rw [on_eq,Option.bind_some]
  have hz:d = ⟨0,0,0⟩ ↔ d.X = 0∧d.Y = 0∧d.Z = 0:=by
    obtain ⟨x,y,z⟩:=d
    simp
  by_cases h:onP p∧dirP d
  · obtain ⟨hp, hd⟩ := h
    have hd':=hd
    unfold dirP at hd'
    rw [if_neg (by
      simp only [Bool.or_eq_true, Bool.not_eq_true', decide_eq_false_iff_not, decide_eq_true_eq]
      rintro (((h | h) | h) | h)
      · exact h hp
      · exact hd.1 (hz.1 h)
      · omega
      · omega)]
    obtain ⟨r,h1,h2⟩:=meets_eq (s:=s) (p:=p) (v:=d) (t:=⟨⟨0,1,true⟩,⟨0,0,false⟩,false,false⟩) hp.pK (by unfold pK cK; omega) (by unfold IvK bK nK; dsimp only; exact ⟨by omega,fun h=>by simp at h⟩) hs
    rw [h1,Option.bind_some]
    refine ⟨r,rfl,h2.trans ⟨fun ⟨g1,a,b,g2,g3,g4⟩=>⟨hp,hd,g1,a,b,g2,?_,g4⟩,fun ⟨_,_,g1,a,b,g2,g3,g5⟩=>⟨g1,a,b,g2,⟨rfl,?_,fun h=>by simp at h⟩,g5⟩⟩⟩
    · have:=g3.2.1.2 rfl; dsimp only at this; omega
    · unfold loR; dsimp only; omega
  · rw [if_pos (by
      simp only [Bool.or_eq_true, Bool.not_eq_true', decide_eq_false_iff_not, decide_eq_true_eq]
      by_cases hp:onP p
      · by_cases h0 : d = ⟨0, 0, 0⟩
        · exact .inl (.inl (.inr h0))
        · have hd : ¬ dirP d := fun hd => h ⟨hp, hd⟩
          rw [hz] at h0
          unfold dirP at hd
          have : ¬ ((-1048576 ≤ d.X∧d.X ≤ 1048576)∧(-1048576 ≤ d.Y∧d.Y ≤ 1048576)∧(-1048576 ≤ d.Z∧d.Z ≤ 1048576)):=fun hh=>hd ⟨h0,hh⟩
          by_cases hm:min (min d.X d.Y) d.Z < -1048576
          · exact .inl (.inr hm)
          · exact .inr (by omega)
      · exact .inl (.inl (.inl hp)))]
    exact ⟨_,rfl,by simp,fun h'=>absurd ⟨h'.1,h'.2.1⟩ h⟩
end Go.Proofs.YtegglcdhfnjhcaaGreat

namespace Go.Proofs.YtegglcdhfnjhcaaGreat
open Go.Gb
set_option linter.unusedVariables false
set_option linter.unusedSimpArgs false
set_option linter.unusedSectionVars false
set_option linter.unusedVariables false
set_option linter.unusedSimpArgs false

def Tot {α:Type} (o:Option α):Prop:=∃ r,o = some r
theorem Tot.pure {α:Type} (x:α):Tot (some x):=⟨x,rfl⟩
theorem Tot.bind {α β:Type} {o:Option α} {f:α → Option β} (h:Tot o) (g : ∀ x,o = some x → Tot (f x)):Tot (o.bind f):=by
  obtain ⟨x,hx⟩:=h
  rw [hx]; exact g x hx
theorem Tot.ite {α:Type} {c:Prop} [Decidable c] {x y:Option α} (h:c → Tot x) (g : ¬c → Tot y):Tot (if c then x else y):=by
  split
  · exact h ‹_›
  · exact g ‹_›
/-- a loop that counts -/
theorem tot_loop {σ ρ:Type} {body:σ → Option (Flow σ ρ)} (idx:σ → Int) (I:σ → Prop) (N:Nat)
    (step : ∀ s i, idx s = ((i : Nat) : Int) → i < N → I s → (∃ s', body s = some (.go s') ∧ idx s' = ((i + 1 : Nat) : Int) ∧ I s') ∨ ∃ f, body s = some f ∧ f.ends)
    (done : ∀ s,idx s = ((N:Nat):Int) → I s → ∃ f,body s = some f∧f.ends) (s0:σ) (h0:idx s0 = 0) (hI:I s0) {fuel:Nat} (hf:N < fuel) : ∃ f,iterL body fuel s0 = some f∧f.ends:=by
  obtain ⟨f,h1,h2,_⟩:=loop_up (body:=body) (fun i s=>idx s = ((i:Nat):Int)∧I s) N (fun _=>True)
    (fun i s hi hs => (step s i hs.1 hi hs.2).imp (fun ⟨s', a, b, c⟩ => ⟨s', a, b, c⟩) fun ⟨f, a, b⟩ => ⟨f, a, b, trivial⟩)
    (fun s hs=>let ⟨f,a,b⟩:=done s hs.1 hs.2; ⟨f,a,b,trivial⟩) s0 ⟨h0,hI⟩ fuel hf
  exact ⟨f,h1,h2⟩
theorem Tot.loop {σ ρ τ:Type} {o:Option (Flow σ ρ)} {f:Flow σ ρ → Option τ} (h : ∃ x,o = some x∧x.ends) (g : ∀ x,x.ends → Tot (f x)):Tot (o.bind f):=by
  obtain ⟨x,hx,he⟩:=h
  rw [hx]; exact g x he

end Go.Proofs.YtegglcdhfnjhcaaGreat

namespace Go.Proofs.YtegglcdhfnjhcaaGreat
open Go.Gb
set_option linter.unusedVariables false
set_option linter.unusedSimpArgs false
set_option linter.unusedSectionVars false
set_option linter.unusedVariables false
set_option linter.unusedSimpArgs false

theorem makeI_some {α:Type} {n:Nat} {z:α} (h:n ≤ 1000000):makeI (n:Int) z = some (List.replicate n z):=by
  unfold makeI
  rw [if_pos (by constructor <;> omega)]
  simp
theorem remI_nat {i n:Nat} (h0:0 < n):remI (i:Int) (n:Int) = some ((i % n:Nat):Int):=by
  unfold remI
  rw [if_pos (by omega)]
  congr 1
theorem around_tot {p:List Point} (h:p.length ≤ 60) : ∃ l,polygon_around p = some l∧l.length = p.length:=by
  unfold polygon_around
  rw [makeI_some (by omega),Option.bind_some]
  obtain ⟨f,h1,h2,h3⟩:=loop_up (body:=polygon_around_L0 p) (fun i s=>s.2 = ((i:Nat):Int)∧s.1.length = p.length) p.length
    (fun f=>match f with | .ex _ s=>s.1.length = p.length | _=>False) (fun i s hi ⟨hs,hl⟩=>by
      obtain ⟨l,j⟩:=s
      dsimp only at hs hl
      subst hs
      unfold polygon_around_L0
      dsimp only
      have hm:(i + 1) % p.length < p.length:=Nat.mod_lt _ (by omega)
      rw [if_pos (by simpa using hi),getI_nat hi,Option.bind_some,addI_one (by omega),Option.bind_some,remI_nat (by omega),Option.bind_some,getI_nat hm,Option.bind_some,getI_nat (by omega),Option.bind_some,Option.bind_some,Option.bind_some]
      exact .inl ⟨_,rfl,rfl,by simpa using hl⟩) (fun s ⟨hs,hl⟩=>by
      unfold polygon_around_L0
      rw [hs,if_neg (by simp)]
      exact ⟨_,rfl,trivial,hl⟩) (List.replicate p.length ⟨⟨0,0⟩,⟨0,0⟩⟩,0) ⟨rfl,by simp⟩ (p.length + 1) (by omega)
  rw [h1,Option.bind_some]
  cases f with
  | go _=>exact h2.elim
  | ret _=>exact h3.elim
  | ex _ s=>exact ⟨_,rfl,h3⟩
theorem compare_tot (a b:Int):Tot (cmp_Compare_int a b):=by
  unfold cmp_Compare_int cmp_isNaN_int
  rw [Option.bind_some,Option.bind_some]
  exact Tot.ite (fun _=>Tot.ite (fun _=>Tot.pure _) fun _=>Tot.pure _) fun _=>Tot.ite (fun _=>Tot.pure _) fun _=>Tot.ite (fun _=>Tot.pure _) fun _=>Tot.ite (fun _=>Tot.pure _) fun _=>Tot.pure _
theorem or_tot {l:List Int} (h:l.length ≤ 100):Tot (cmp_Or_int l):=by
  unfold cmp_Or_int
  refine Tot.loop (tot_loop (fun s=>s) (fun _=>True) l.length ?_ ?_ 0 rfl trivial (by omega)) ?_
  · intro s i hs hi _
    subst hs
    unfold cmp_Or_int_L0
    rw [if_pos (by simpa using hi),getI_nat hi,Option.bind_some]
    split
    · exact .inr ⟨_,rfl,trivial⟩
    · rw [addI_one (by omega)]
      exact .inl ⟨_,rfl,rfl,trivial⟩
  · intro s hs _
    subst hs
    unfold cmp_Or_int_L0
    rw [if_neg (by simp)]
    exact ⟨_,rfl,trivial⟩
  · intro x hx
    cases x with
    | go _=>exact hx.elim
    | ex _ _=>exact Tot.pure _
    | ret _=>exact Tot.pure _
theorem pcompare_tot (a b:Point):Tot (polygon_compare a b):=by
  unfold polygon_compare
  exact Tot.bind (compare_tot _ _) fun _ _=>Tot.bind (compare_tot _ _) fun _ _=>Tot.bind (or_tot (by simp)) fun _ _=>Tot.pure _
theorem pright0_tot {p:List Point} {l:List PolygonSide} (h:p.length ≤ 60) (hl:l.length = p.length) : ∃ f,iterL (polygon_Right_L0 p l) (l.length + 1) 0 = some f∧f.ends:=by
  refine tot_loop (fun s=>s) (fun _=>True) l.length ?_ ?_ 0 rfl trivial (by omega)
  · intro s i hs hi _
    subst hs
    unfold polygon_Right_L0
    have hm:(i + 1) % l.length < l.length:=Nat.mod_lt _ (by omega)
    rw [if_pos (by simpa using hi),getI_nat hi,Option.bind_some,addI_one (by omega),Option.bind_some,remI_nat (by omega),Option.bind_some,getI_nat hm,Option.bind_some]
    unfold polygon_onGrid polygon_side_upright
    rw [Option.bind_some]
    obtain ⟨c,hc⟩:Tot (if ((!((((decide (0 ≤ l[i].a.X)) && (decide (l[i].a.X ≤ 1048576))) && (decide (0 ≤ l[i].a.Y))) && (decide (l[i].a.Y ≤ 1048576)))) || ((l[i].a.X == l[i].b.X) == (l[i].a.Y == l[i].b.Y))) = true then some true else
        (some (l[i].a.X == l[i].b.X)).bind fun x=>(some (l[(i + 1) % l.length].a.X == l[(i + 1) % l.length].b.X)).bind fun y=>some (x == y)):=Tot.ite (fun _=>Tot.pure _) fun _=>Tot.pure _
    rw [hc,Option.bind_some]
    split
    · exact .inr ⟨_,rfl,trivial⟩
    · obtain ⟨e, he⟩ : Tot (if (decide ((0 : Int) < (i : Int))) = true then (getI p 0).bind fun x => (getI p (i : Int)).bind fun y => (polygon_compare x y).bind fun z => some (decide (0 ≤ z)) else some false) := by
        refine Tot.ite (fun _=>?_) fun _=>Tot.pure _
        rw [show (0:Int) = ((0:Nat):Int) from rfl,getI_nat (by omega),Option.bind_some,getI_nat (by omega),Option.bind_some]
        exact Tot.bind (pcompare_tot _ _) fun _ _=>Tot.pure _
      rw [he,Option.bind_some]
      split
      · exact .inr ⟨_,rfl,trivial⟩
      · rw [Option.bind_some]
        exact .inl ⟨_,rfl,rfl,trivial⟩
  · intro s hs _
    subst hs
    unfold polygon_Right_L0
    rw [if_neg (by simp)]
    exact ⟨_,rfl,trivial⟩
theorem pright2_tot {l:List PolygonSide} {i:Nat} (h:l.length ≤ 60) (hi:i < l.length) : ∃ f,iterL (polygon_Right_L2 l (i:Int)) (l.length + 1) ((i + 2:Nat):Int) = some f∧f.ends:=by
  by_cases hb:l.length ≤ i + 2
  · refine ⟨.ex 4 ((i + 2 : Nat) : Int), ?_, trivial⟩
    have e:polygon_Right_L2 l (i:Int) ((i + 2:Nat):Int) = some (.ex 4 ((i + 2:Nat):Int)):=by
      unfold polygon_Right_L2
      rw [if_neg (by simp; omega)]
    simp only [iterL,e,Option.bind_some]
  · obtain ⟨f, h1, h2, _⟩ := loop_up (body := polygon_Right_L2 l (i : Int)) (fun m s => s = ((i + 2 + m : Nat) : Int)) (l.length - (i + 2)) (fun _ => True) (fun m s hm hs => by
      subst hs
      unfold polygon_Right_L2
      rw [if_pos (by simp; omega),addI_some (by constructor <;> omega),Option.bind_some,subI_some (by constructor <;> omega),Option.bind_some,getI_nat hi,Option.bind_some,getI_nat (by omega),Option.bind_some]
      unfold polygon_side_crosses
      rw [Option.bind_some]
      obtain ⟨c,hc⟩:Tot (if (decide ((1:Int) < (i:Int) + (l.length:Int) - ((i + 2 + m:Nat):Int))) = true then some ((decide ((max (min l[i].a.X l[i].b.X) (min (l[i + 2 + m]'(by omega)).a.X (l[i + 2 + m]'(by omega)).b.X)) ≤ (min (max l[i].a.X l[i].b.X) (max (l[i + 2 + m]'(by omega)).a.X (l[i + 2 + m]'(by omega)).b.X)))) && (decide ((max (min l[i].a.Y l[i].b.Y) (min (l[i + 2 + m]'(by omega)).a.Y (l[i + 2 + m]'(by omega)).b.Y)) ≤ (min (max l[i].a.Y l[i].b.Y) (max (l[i + 2 + m]'(by omega)).a.Y (l[i + 2 + m]'(by omega)).b.Y))))) else some false):=Tot.ite (fun _=>Tot.pure _) fun _=>Tot.pure _
      rw [hc,Option.bind_some]
      split
      · exact .inr ⟨_,rfl,trivial,trivial⟩
      · rw [addI_one (by omega)]
        exact .inl ⟨_,rfl,by congr 1⟩) (fun s hs=>by
      subst hs
      unfold polygon_Right_L2
      rw [if_neg (by simp; omega)]
      exact ⟨_,rfl,trivial,trivial⟩) ((i + 2:Nat):Int) (by simp) (l.length + 1) (by omega)
    exact ⟨f,h1,h2⟩
theorem pright_tot {p:List Point}:Tot (polygon_Right p):=by
  unfold polygon_Right
  refine Tot.ite (fun _=>Tot.pure _) fun h=>?_
  simp at h
  have h60:p.length ≤ 60:=by omega
  have h4:4 ≤ p.length:=by omega
  obtain ⟨l,hl,hll⟩:=around_tot h60
  rw [hl,Option.bind_some]
  refine Tot.loop (pright0_tot h60 hll) fun x hx=>?_
  cases x with
  | go _=>exact hx.elim
  | ret _=>exact Tot.pure _
  | ex _ _ =>
    refine Tot.loop (tot_loop (fun s=>s) (fun _=>True) l.length ?_ ?_ 0 rfl trivial (by omega)) fun x hx=>?_
    · intro s i hs hi _
      subst hs
      unfold polygon_Right_L1
      rw [if_pos (by simpa using hi),addI_some (by constructor <;> omega),Option.bind_some]
      obtain ⟨f,hf,he⟩:=pright2_tot (by omega) hi
      rw [show ((i:Int) + 2) = ((i + 2:Nat):Int) by push_cast; rfl,hf,Option.bind_some]
      cases f with
      | go _=>exact he.elim
      | ret _=>exact .inr ⟨_,rfl,trivial⟩
      | ex _ _ =>
        dsimp only
        rw [addI_one (by omega)]
        exact .inl ⟨_,rfl,rfl,trivial⟩
    · intro s hs _
      subst hs
      unfold polygon_Right_L1
      rw [if_neg (by simp)]
      exact ⟨_,rfl,trivial⟩
    · cases x with
      | go _=>exact hx.elim
      | ret _=>exact Tot.pure _
      | ex _ _ =>
        rw [show (0:Int) = ((0:Nat):Int) from rfl,getI_nat (by omega),Option.bind_some]
        unfold polygon_side_upright
        exact Tot.pure _
theorem region2_tot {xs:List Int} {l:List PolygonSide} {s:List Rect × Int} {m:Nat} (hl:l.length ≤ 60) (hm:s.2 = (m:Int)) (hx:m < xs.length) : ∃ f,iterL (polygon_Region_L2 xs l s) (l.length + 1) (([]:List Int),0) = some f∧f.ends∧(match f with | .ex _ t=>t.1.length ≤ 60 | .go _=>False | .ret _=>False):=by
  refine loop_up (body:=polygon_Region_L2 xs l s) (fun i t=>t.2 = ((i:Nat):Int)∧t.1.length ≤ i) l.length _ (fun i t hi ⟨ht,hI⟩=>?_) (fun t ⟨ht,hI⟩=>?_) _ ⟨rfl,by simp⟩ _ (by omega)
  · unfold polygon_Region_L2
    rw [ht,hm,if_pos (by simpa using hi),getI_nat hi,Option.bind_some]
    unfold polygon_side_upright
    rw [Option.bind_some,getI_nat hx]
    obtain ⟨c,hc⟩:Tot (if (!(l[i].a.X == l[i].b.X)) = true then (some xs[m]).bind fun y=>some (decide ((min l[i].a.X l[i].b.X) ≤ y)) else some false):=Tot.ite (fun _=>Tot.pure _) fun _=>Tot.pure _
    rw [hc,Option.bind_some]
    obtain ⟨d,hd⟩:Tot (if c = true then (some xs[m]).bind fun y=>some (decide (y < (max l[i].a.X l[i].b.X))) else some false):=Tot.ite (fun _=>Tot.pure _) fun _=>Tot.pure _
    rw [hd,Option.bind_some]
    cases d with
    | true =>
      rw [if_pos rfl,appI_some (by simp; omega),Option.bind_some,Option.bind_some,addI_one (by omega)]
      exact .inl ⟨_,rfl,rfl,by simp; omega⟩
    | false =>
      rw [if_neg (by simp),Option.bind_some,addI_one (by omega)]
      exact .inl ⟨_,rfl,rfl,by show t.1.length ≤ _; omega⟩
  · unfold polygon_Region_L2
    rw [ht,if_neg (by simp)]
    exact ⟨_,rfl,trivial,by show t.1.length ≤ 60; omega⟩
theorem region3_tot {xs ys:List Int} {s:List Rect × Int} {m fuel:Nat} (hm:s.2 = (m:Int)) (hx:m + 1 < xs.length) (hl:ys.length ≤ 60) (hs:s.1.length ≤ 60 * m) (hm60:m ≤ 60) (hf:ys.length < fuel) :
    ∃ f,iterL (polygon_Region_L3 xs s ys) fuel (s.1,0) = some f∧f.ends∧(match f with | .ex _ t=>t.1.length ≤ 60 * (m + 1) | .go _=>False | .ret _=>False):=by
  refine loop_up (body:=polygon_Region_L3 xs s ys) (fun i t=>t.2 = ((2 * i:Nat):Int)∧t.1.length ≤ 60 * m + i) (ys.length / 2) _ (fun i t hi ⟨ht,hI⟩=>?_) (fun t ⟨ht,hI⟩=>?_) _ ⟨rfl,by omega⟩ _ (by omega)
  · unfold polygon_Region_L3
    rw [ht,addI_some (by constructor <;> omega),Option.bind_some,show (((2 * i:Nat):Int) + 1) = ((2 * i + 1:Nat):Int) by push_cast; rfl,if_pos (by simp; omega),hm,getI_nat (by omega),Option.bind_some,getI_nat (by omega),Option.bind_some,
      addI_one (by omega),Option.bind_some,getI_nat hx,Option.bind_some,Option.bind_some,getI_nat (by omega),Option.bind_some,appI_some (by simp; omega),Option.bind_some,addI_some (by constructor <;> omega),Option.bind_some]
    exact .inl ⟨_,rfl,by push_cast; omega,by simp; omega⟩
  · unfold polygon_Region_L3
    rw [ht,addI_some (by constructor <;> omega),Option.bind_some,if_neg (by simp; omega)]
    exact ⟨_,rfl,trivial,by show t.1.length ≤ _; omega⟩
theorem region_tot {p:List Point} (h:p.length ≤ 12) : ∃ r,polygon_Region p = some r∧r.1.length ≤ 1000:=by
  unfold polygon_Region
  obtain ⟨b,hb⟩:=pright_tot (p:=p)
  rw [hb,Option.bind_some]
  cases b with
  | false=>rw [if_pos (by simp)]; exact ⟨_,rfl,by simp⟩
  | true =>
    rw [if_neg (by simp)]
    obtain ⟨f,h1,h2,h3⟩:=loop_up (body:=polygon_Region_L0 p) (fun i s=>s.2 = ((i:Nat):Int)∧s.1.length = i) p.length
      (fun f=>match f with | .ex _ s=>s.1.length = p.length | _=>False) (fun i s hi ⟨hs,hl⟩=>by
        unfold polygon_Region_L0
        rw [hs,if_pos (by simpa using hi),getI_nat hi,Option.bind_some,appI_some (by simp; omega),Option.bind_some,addI_one (by omega)]
        exact .inl ⟨_,rfl,rfl,by simp [hl]⟩) (fun s ⟨hs,hl⟩=>by
        unfold polygon_Region_L0
        rw [hs,if_neg (by simp)]
        exact ⟨_,rfl,trivial,hl⟩) (([]:List Int),0) ⟨rfl,rfl⟩ (p.length + 1) (by omega)
    rw [h1,Option.bind_some]
    cases f with
    | go _=>exact h2.elim
    | ret _=>exact h3.elim
    | ex _ s =>
      have h3:s.1.length = p.length:=h3
      dsimp only
      obtain ⟨x1,g1,g2,g3⟩:=sortInts_spec (l:=s.1) (by omega)
      have g2l:=g2.length_eq
      obtain ⟨x2,k1,_,_,k4⟩:=compactInts_spec (l:=x1) (by omega) g3
      rw [g1,Option.bind_some,k1,Option.bind_some]
      obtain ⟨l,hl,hll⟩:=around_tot (p:=p) (by omega)
      rw [hl,Option.bind_some,subI_some (by constructor <;> omega),Option.bind_some]
      obtain ⟨f,e1,e2,e3⟩:=loop_up (body:=polygon_Region_L1 x2 l ((x2.length:Int) - 1)) (fun i t=>t.2 = ((i:Nat):Int)∧t.1.length ≤ 60 * i) (x2.length - 1)
        (fun f=>match f with | .ex _ t=>t.1.length ≤ 1000 | _=>False) (fun i t hi ⟨ht,hI⟩=>by
          unfold polygon_Region_L1
          rw [if_pos (by rw [ht]; simp; omega)]
          obtain ⟨f2,a1,a2,a3⟩:=region2_tot (xs:=x2) (l:=l) (s:=t) (by omega) ht (by omega)
          rw [a1,Option.bind_some]
          cases f2 with
          | go _=>exact a2.elim
          | ret _=>exact a3.elim
          | ex _ t2 =>
            have a3:t2.1.length ≤ 60:=a3
            dsimp only
            obtain ⟨ys,b1,b2,b3⟩:=sortInts_spec (l:=t2.1) (by omega)
            have b2l:=b2.length_eq
            rw [b1,Option.bind_some]
            obtain ⟨f3,c1,c2,c3⟩:=region3_tot (xs:=x2) (ys:=ys) (s:=t) (fuel:=x2.length + l.length + t.1.length + ys.length + 1) ht (by omega) (by omega) hI (by omega) (by omega)
            rw [c1,Option.bind_some]
            cases f3 with
            | go _=>exact c2.elim
            | ret _=>exact c3.elim
            | ex _ t3 =>
              dsimp only
              rw [ht,addI_one (by omega)]
              exact .inl ⟨_,rfl,rfl,c3⟩) (fun t ⟨ht,hI⟩=>by
          unfold polygon_Region_L1
          rw [if_neg (by rw [ht]; simp; omega)]
          exact ⟨_,rfl,trivial,by show t.1.length ≤ 1000; omega⟩) (([]:List Rect),0) ⟨rfl,by simp⟩ (((x2.length:Int) - 1).toNat + 1) (by omega)
      rw [e1,Option.bind_some]
      cases f with
      | go _=>exact e2.elim
      | ret _=>exact e3.elim
      | ex _ t =>
        have e3:t.1.length ≤ 1000:=e3
        dsimp only
        split
        · exact ⟨_,rfl,by simp⟩
        · exact ⟨_,rfl,e3⟩
end Go.Proofs.YtegglcdhfnjhcaaGreat

namespace Go.Proofs.YtegglcdhfnjhcaaGreat
open Go.Gb
set_option linter.unusedVariables false
set_option linter.unusedSimpArgs false
set_option linter.unusedSectionVars false
set_option linter.unusedVariables false
set_option linter.unusedSimpArgs false

def lmd (n:Int):Int:=min (max n (-1099511627776)) 1099511627776
theorem lmd_eq (n:Int):cap_Limited n = some (lmd n):=rfl
theorem lmd_bd (n:Int) : -1099511627776 ≤ lmd n∧lmd n ≤ 1099511627776:=by unfold lmd; omega
theorem lmd_neg (n:Int):lmd (-(lmd n)) = -(lmd n):=by unfold lmd; omega
def nmd:List Entry → Cap → Int
  | [],_=>0
  | e::l,c=>(if e.Name = c.Name then lmd e.N else 0) + nmd l c
theorem nmd_app (c:Cap) : ∀ (l m:List Entry),nmd (l ++ m) c = nmd l c + nmd m c
  | [],m=>by simp [nmd]
  | e::l,m=>by simp only [List.cons_append,nmd,nmd_app c l m]; omega
theorem nmd_bd (c:Cap) : ∀ l:List Entry,-(1099511627776 * (l.length:Int)) ≤ nmd l c∧nmd l c ≤ 1099511627776 * (l.length:Int)
  | []=>by simp [nmd]
  | e :: l => by
    have ih:=nmd_bd c l
    have hb:=lmd_bd e.N
    simp only [nmd,List.length_cons]
    push_cast
    split <;> omega
theorem named_eq {l:List Entry} {c:Cap} (h:l.length ≤ 1000):cap_named l c = some (nmd l c):=by
  obtain ⟨f,h1,h2,h3⟩:=loop_up (body:=cap_named_L0 l c) (fun i s=>s.2 = ((i:Nat):Int)∧s.1 = nmd (l.take i) c) l.length
    (fun f=>match f with | .ex _ s=>s.1 = nmd l c | _=>False) (fun i s hi ⟨hs,hI⟩=>by
      unfold cap_named_L0
      have hb:=nmd_bd c (l.take i)
      have hlt:(l.take i).length ≤ 1000:=by simp; omega
      have hl:=lmd_bd l[i].N
      rw [hs,if_pos (by simpa using hi),getI_nat hi,Option.bind_some,← beq_toListBytes,beqBA]
      have hst:nmd (l.take (i + 1)) c = nmd (l.take i) c + (if l[i].Name = c.Name then lmd l[i].N else 0):=by
        rw [List.take_succ_eq_append_getElem hi,nmd_app]; simp [nmd]
      by_cases hn:l[i].Name = c.Name
      · rw [if_pos (by simpa using hn), lmd_eq, Option.bind_some, hI, addI_some (by constructor <;> omega), Option.bind_some, Option.bind_some, addI_one (by omega)]
        exact .inl ⟨_,rfl,rfl,by rw [hst,if_pos hn]⟩
      · rw [if_neg (by simpa using hn), Option.bind_some, addI_one (by omega)]
        exact .inl ⟨_,rfl,rfl,by rw [hst,if_neg hn]; show s.1 = _; omega⟩) (fun s ⟨hs,hI⟩=>by
      unfold cap_named_L0
      rw [hs,if_neg (by simp)]
      rw [List.take_length] at hI
      exact ⟨_,rfl,trivial,hI⟩) (0,0) ⟨rfl,by simp [nmd]⟩ (l.length + 1) (by omega)
  unfold cap_named
  rw [h1,Option.bind_some]
  cases f with
  | go _=>exact h2.elim
  | ret _=>exact h3.elim
  | ex _ s=>dsimp only at h3 ⊢; rw [h3]
theorem rvol {v:Volume} : ∃ b,drawing_RightVolume v = some b∧(b = true → VR v.Box.Base∧0 ≤ v.Box.Z0∧v.Box.Z0 < v.Box.Z1∧v.Box.Z1 ≤ 4096∧0 ≤ v.Use∧v.Use ≤ 5∧0 ≤ v.Units∧v.Units ≤ 1048576):=by
  unfold drawing_RightVolume
  rw [rect_Right_eq,Option.bind_some]
  split
  · exact ⟨_,rfl,fun h=>by simp at h⟩
  · rename_i h
    simp at h
    split
    · exact ⟨_,rfl,fun h=>by simp at h⟩
    · refine ⟨_, rfl, fun g => ?_⟩
      simp at g
      exact ⟨h.1.1.1,by omega,by omega,by omega,by omega,by omega,by omega,by omega⟩
/-- a plan with few tables -/
def PlanS (p:Plan):Prop:=p.Tables.length ≤ 4∧∀ t ∈ p.Tables,t.Rows.length ≤ 8
theorem indexE_tot {s:List Entry} {f:Entry → Option Bool} (hl:s.length ≤ 1000000) (hf : ∀ x,Tot (f x)) : ∃ r,slices_IndexFunc_Entry s f = some r∧(0 ≤ r → r < (s.length:Int)):=by
  obtain ⟨g,k1,k2,k3⟩:=loop_up (body:=slices_IndexFunc_Entry_L0 s f) (fun j t=>t = ((j:Nat):Int)) s.length (fun g=>match g with | .ex _ _=>True | .ret r=>0 ≤ r∧r < (s.length:Int) | .go _=>False) (fun j t hj ht=>by
    subst ht
    unfold slices_IndexFunc_Entry_L0
    obtain ⟨b,hb⟩:=hf s[j]
    rw [if_pos (by simpa using hj),getI_nat hj,Option.bind_some,hb,Option.bind_some]
    cases b with
    | true=>exact .inr ⟨_,rfl,trivial,by show (0:Int) ≤ j; omega,by show (j:Int) < _; omega⟩
    | false=>rw [if_neg (by simp),addI_one (by omega)]; exact .inl ⟨_,rfl,rfl⟩) (fun t ht=>by
    subst ht
    unfold slices_IndexFunc_Entry_L0
    rw [if_neg (by simp)]
    exact ⟨_,rfl,trivial,trivial⟩) 0 rfl (s.length + 1) (by omega)
  unfold slices_IndexFunc_Entry
  rw [k1,Option.bind_some]
  cases g with
  | go _=>exact k2.elim
  | ex _ _=>exact ⟨_,rfl,fun h=>by omega⟩
  | ret r=>exact ⟨_,rfl,fun _=>k3.2⟩
theorem row1_tot {e:Entry} {q:ByteArray × ByteArray × ByteArray × ByteArray × ByteArray × ByteArray} {u:Int} (h0:0 ≤ u) (h5:u ≤ 5):Tot (measure_row_1 e q u):=by
  unfold measure_row_1
  rw [getI_some h0 (by simp; omega)]
  exact Tot.pure _
theorem row_tot {p:Plan} {u:Int} (hp:PlanS p) (h0:0 ≤ u) (h5:u ≤ 5) : ∃ n,measure_row p u = some n∧0 ≤ n∧n ≤ 1048576:=by
  have hl4:=hp.1
  obtain ⟨f,h1,h2,h3⟩:=loop_up (body:=measure_row_L0 p u) (fun i s=>s = ((i:Nat):Int)) p.Tables.length
    (fun f=>match f with | .ex _ _=>True | .ret n=>0 ≤ n∧n ≤ 1048576 | .go _=>False) (fun i s hi hs=>by
      subst hs
      unfold measure_row_L0
      rw [if_pos (by simpa using hi),getI_nat hi,Option.bind_some]
      split
      · rw [addI_one (by omega)]; exact .inl ⟨_,rfl,rfl⟩
      · have hr8 := hp.2 _ (List.getElem_mem hi)
        obtain ⟨r,hr,hrl⟩:=indexE_tot (s:=p.Tables[i].Rows) (f:=fun y0=>measure_row_1 y0 (((⟨#[104,111,109,101]⟩:ByteArray),(⟨#[115,104,111,112]⟩:ByteArray),(⟨#[119,111,114,107]⟩:ByteArray),(⟨#[112,97,114,107]⟩:ByteArray),(⟨#[112,108,97,110,116]⟩:ByteArray),(⟨#[104,97,108,108]⟩:ByteArray)):(ByteArray × ByteArray × ByteArray × ByteArray × ByteArray × ByteArray)) u) (by omega) fun x=>row1_tot h0 h5
        rw [hr,Option.bind_some]
        obtain ⟨m,hm⟩:Tot (if (decide (0 ≤ r)) = true then (getI p.Tables[i].Rows r).bind fun x=>some x.N else some p.Tables[i].Else):=by
          refine Tot.ite (fun h=>?_) fun _=>Tot.pure _
          have h:=of_decide_eq_true h
          rw [getI_some h (hrl h)]
          exact Tot.pure _
        rw [hm,Option.bind_some]
        exact .inr ⟨_,rfl,trivial,by show (0:Int) ≤ max 0 (min m 1048576); omega,by show max 0 (min m 1048576) ≤ 1048576; omega⟩) (fun s hs=>by
      subst hs
      unfold measure_row_L0
      rw [if_neg (by simp)]
      exact ⟨_,rfl,trivial,trivial⟩) 0 rfl (p.Tables.length + 1) (by omega)
  unfold measure_row
  rw [h1,Option.bind_some]
  cases f with
  | go _=>exact h2.elim
  | ex _ _=>exact ⟨_,rfl,by omega,by omega⟩
  | ret n=>exact ⟨_,rfl,h3.1,h3.2⟩
theorem area_tot {r:Rect} (h:VR r) : ∃ n,rect_Area r = some n∧0 ≤ n∧n ≤ 1099511627776:=by
  unfold rect_Area rect_checked
  have hv:=h
  unfold VR at hv
  rw [rect_Right_eq,Option.bind_some,decide_eq_true h,if_pos rfl,Option.bind_some]
  dsimp only
  rw [subI_some (by constructor <;> omega),Option.bind_some,subI_some (by constructor <;> omega),Option.bind_some]
  have h1:0 ≤ (r.X1 - r.X0) * (r.Y1 - r.Y0):=Int.mul_nonneg (by omega) (by omega)
  have h2:(r.X1 - r.X0) * (r.Y1 - r.Y0) ≤ 1048576 * 1048576:=Int.mul_le_mul (by omega) (by omega) (by omega) (by omega)
  rw [mulI_some (by constructor <;> omega),Option.bind_some]
  exact ⟨_,rfl,h1,by omega⟩
theorem floor_tot (v:Volume) : ∃ n,measure_Floor v = some n∧0 ≤ n∧n ≤ 2251799813685248:=by
  unfold measure_Floor
  obtain ⟨b,hb,hbs⟩:=rvol (v:=v)
  rw [hb,Option.bind_some]
  cases b with
  | false=>rw [if_pos (by simp)]; exact ⟨_,rfl,by omega,by omega⟩
  | true =>
    obtain ⟨hV,h1,h2,h3,_⟩:=hbs rfl
    rw [if_neg (by simp)]
    obtain ⟨a,ha,ha0,ha1⟩:=area_tot hV
    rw [ha,Option.bind_some]
    obtain ⟨s,hs,hs0,hs1⟩ : ∃ s,measure_Storeys v = some s∧0 ≤ s∧s ≤ 2048:=by
      unfold measure_Storeys
      rw [hb]
      cases v.Extra with
      | true=>rw [if_pos rfl,Option.bind_some,if_pos rfl]; exact ⟨_,rfl,by omega,by omega⟩
      | false =>
        rw [if_neg (by simp),Option.bind_some,Option.bind_some,if_neg (by simp),subI_some (by constructor <;> omega),Option.bind_some,addI_some (by constructor <;> omega),Option.bind_some,subI_some (by constructor <;> omega),Option.bind_some]
        have hq:(v.Box.Z1 - v.Box.Z0 + 3 - 1).tdiv 3 = (v.Box.Z1 - v.Box.Z0 + 3 - 1) / 3:=Int.tdiv_eq_ediv_of_nonneg (by omega)
        unfold quoI
        rw [if_pos ⟨by omega,by rw [hq]; constructor <;> omega⟩,Option.bind_some]
        exact ⟨_,rfl,by rw [hq]; omega,by rw [hq]; omega⟩
    rw [hs,Option.bind_some]
    have g1:0 ≤ a * s:=Int.mul_nonneg ha0 hs0
    have g2:a * s ≤ 1099511627776 * 2048:=Int.mul_le_mul ha1 hs1 hs0 (by omega)
    rw [mulI_some (by constructor <;> omega),Option.bind_some]
    exact ⟨_,rfl,g1,by omega⟩
theorem traffic_tot {p:Plan} {v:Volume} (hp:PlanS p) (h0:0 ≤ v.Use) (h5:v.Use ≤ 5) : ∃ n,measure_traffic p v = some n∧0 ≤ n∧n ≤ 1099511627776:=by
  unfold measure_traffic
  obtain ⟨r,hr,hr0,hr1⟩:=row_tot hp h0 h5
  obtain ⟨f,hf,hf0,hf1⟩:=floor_tot v
  rw [hr,Option.bind_some,hf,Option.bind_some]
  by_cases hz:0 < r
  · have hq : (109951162777600 : Int).tdiv r = 109951162777600 / r := Int.tdiv_eq_ediv_of_nonneg (by omega)
    have hq0:0 ≤ 109951162777600 / r:=Int.ediv_nonneg (by omega) (by omega)
    have hq1:109951162777600 / r ≤ 109951162777600:=Int.ediv_le_self _ (by omega)
    rw [if_pos (by simpa using hz)]
    unfold quoI
    rw [if_pos ⟨by omega,by rw [hq]; constructor <;> omega⟩,Option.bind_some,Option.bind_some,hq]
    by_cases hc:109951162777600 / r < f
    · rw [if_pos (by simpa using hc)]
      exact ⟨_,rfl,by omega,by omega⟩
    · rw [if_neg (by simpa using hc)]
      have g0:0 ≤ r * f:=Int.mul_nonneg (by omega) hf0
      have g1:r * f ≤ r * (109951162777600 / r):=Int.mul_le_mul_of_nonneg_left (by omega) (by omega)
      have g2:r * (109951162777600 / r) ≤ 109951162777600:=Int.mul_ediv_self_le (by omega)
      rw [mulI_some (by constructor <;> omega),Option.bind_some,addI_some (by constructor <;> omega),Option.bind_some,subI_some (by constructor <;> omega),Option.bind_some]
      have hq2:(r * f + 100 - 1).tdiv 100 = (r * f + 100 - 1) / 100:=Int.tdiv_eq_ediv_of_nonneg (by omega)
      rw [if_pos ⟨by omega,by rw [hq2]; constructor <;> omega⟩,Option.bind_some]
      exact ⟨_,rfl,by rw [hq2]; omega,by rw [hq2]; omega⟩
  · obtain rfl : r = 0 := by omega
    rw [if_neg (by simp),Option.bind_some,if_neg (by simp),mulI_some (by rw [Int.zero_mul]; constructor <;> omega),Option.bind_some,Int.zero_mul,addI_some (by constructor <;> omega),Option.bind_some,subI_some (by constructor <;> omega),Option.bind_some]
    exact ⟨_,rfl,by decide,by decide⟩
theorem containsR_tot {s:List Rect} {f:Rect → Option Bool} (hl:s.length ≤ 1000000) (hf : ∀ x,Tot (f x)):Tot (slices_ContainsFunc_Rect s f):=by
  unfold slices_ContainsFunc_Rect
  refine Tot.bind ?_ fun _ _=>Tot.pure _
  unfold slices_IndexFunc_Rect
  refine Tot.loop (tot_loop (fun s=>s) (fun _=>True) s.length ?_ ?_ 0 rfl trivial (by omega)) ?_
  · intro i n hi hn _
    subst hi
    unfold slices_IndexFunc_Rect_L0
    obtain ⟨b,hb⟩:=hf s[n]
    rw [if_pos (by simpa using hn),getI_nat hn]
    simp only [Option.bind_some,hb]
    cases b with
    | true=>exact .inr ⟨_,rfl,trivial⟩
    | false =>
      rw [if_neg (by simp),addI_one (by omega)]
      exact .inl ⟨_,rfl,rfl,trivial⟩
  · intro i hi _
    subst hi
    unfold slices_IndexFunc_Rect_L0
    rw [if_neg (by simp)]
    exact ⟨_,rfl,trivial⟩
  · intro x hx
    cases x with
    | go _=>exact hx.elim
    | ex _ _=>exact Tot.pure _
    | ret _=>exact Tot.pure _
theorem inter_tot (a b:Rect):Tot (rect_Intersect a b):=by
  unfold rect_Intersect rect_checked
  simp only [rect_Right_eq,Option.bind_some]
  refine Tot.bind (Tot.ite (fun _=>Tot.pure _) fun _=>Tot.pure _) fun _ _=>Tot.ite (fun _=>Tot.pure _) fun _=>Tot.bind (Tot.ite (fun _=>Tot.pure _) fun _=>Tot.pure _) fun _ _=>Tot.pure _
theorem load_tot {p:Plan} {c:Cap} {v:Volume} (hp:PlanS p) (hc:c.Corners.length ≤ 12) : ∃ n,measure_Load p c v = some n∧0 ≤ n∧n ≤ 1099511627776:=by
  unfold measure_Load
  obtain ⟨b,hb,hbs⟩:=rvol (v:=v)
  rw [hb,Option.bind_some]
  cases b with
  | false=>rw [if_pos (by simp)]; exact ⟨_,rfl,by omega,by omega⟩
  | true =>
    obtain ⟨hV,h1,h2,h3,h4,h5,h6,h7⟩:=hbs rfl
    rw [if_neg (by simp)]
    obtain ⟨r,hr,hrl⟩:=region_tot hc
    rw [hr,Option.bind_some]
    obtain ⟨e,he⟩:Tot (if (r.2 != 0) = true then some true else (slices_ContainsFunc_Rect r.1 (fun y0=>measure_Load_1 y0 v)).bind fun x=>some (!x)):=by
      refine Tot.ite (fun _=>Tot.pure _) fun _=>Tot.bind (containsR_tot (by omega) fun x=>?_) fun _ _=>Tot.pure _
      unfold measure_Load_1
      exact Tot.bind (inter_tot _ _) fun _ _=>Tot.pure _
    rw [he,Option.bind_some]
    split
    · exact ⟨_,rfl,by omega,by omega⟩
    · split
      · exact ⟨_,rfl,by omega,by omega⟩
      · split
        · obtain ⟨n, hn, hn0, hn1⟩ := traffic_tot (v := v) hp h4 h5
          rw [hn,Option.bind_some]
          exact ⟨_,rfl,hn0,hn1⟩
        · split
          · obtain ⟨n, hn, hn0, hn1⟩ := area_tot hV
            rw [hn,Option.bind_some]
            exact ⟨_,rfl,hn0,hn1⟩
          · exact ⟨_,rfl,by omega,by omega⟩
noncomputable def ld (p:Plan) (c:Cap) (v:Volume):Int:=(measure_Load p c v).getD 0
theorem ld_eq {p:Plan} {c:Cap} {v:Volume} (hp:PlanS p) (hc:c.Corners.length ≤ 12):measure_Load p c v = some (ld p c v)∧0 ≤ ld p c v∧ld p c v ≤ 1099511627776:=by
  obtain ⟨n,hn,h0,h1⟩:=load_tot (v:=v) hp hc
  unfold ld
  rw [hn]
  exact ⟨rfl,h0,h1⟩
noncomputable def lds (p:Plan) (c:Cap) (l:List Volume):Int:=(l.map (ld p c)).sum
theorem lds_app (p:Plan) (c:Cap) (l m:List Volume):lds p c (l ++ m) = lds p c l + lds p c m:=by simp [lds]
theorem lds_bd {p:Plan} {c:Cap} (hp:PlanS p) (hc:c.Corners.length ≤ 12) : ∀ l:List Volume,0 ≤ lds p c l∧lds p c l ≤ 1099511627776 * (l.length:Int)
  | []=>by simp [lds]
  | v :: l => by
    have ih:=lds_bd hp hc l
    have hv:=ld_eq (v:=v) hp hc
    have e:lds p c (v::l) = ld p c v + lds p c l:=by simp [lds]
    rw [e,List.length_cons]
    push_cast
    omega
noncomputable def loadT (t:Town) (c:Cap):Int:=nmd t.Base c + lds t.Plan c (t.Built.map (·.Volume))
noncomputable def phL (p:Plan) (c:Cap) (ph:Phase):Int:=-(nmd ph.Gives c) + lds p c ph.Volumes
theorem capLoad_eq {t:Town} {c:Cap} (hp:PlanS t.Plan) (hc:c.Corners.length ≤ 12) (hb:t.Built.length ≤ 1000) (hs:t.Base.length ≤ 1000):cap_Load t c = some (loadT t c):=by
  unfold cap_Load
  rw [named_eq hs,Option.bind_some]
  have hn:=nmd_bd c t.Base
  obtain ⟨f,h1,h2,h3⟩:=loop_up (body:=cap_Load_L0 t c) (fun i s=>s.2 = ((i:Nat):Int)∧s.1 = nmd t.Base c + lds t.Plan c ((t.Built.take i).map (·.Volume))) t.Built.length
    (fun f => match f with | .ex _ s => s.1 = loadT t c | _ => False) (fun i s hi ⟨hs', hI⟩ => by
      unfold cap_Load_L0
      have hv:=ld_eq (v:=t.Built[i].Volume) hp hc
      have hl:=lds_bd hp hc ((t.Built.take i).map (·.Volume))
      have hlen:((t.Built.take i).map (·.Volume)).length ≤ 1000:=by simp; omega
      rw [hs', if_pos (by simpa using hi), getI_nat hi, Option.bind_some, hv.1, Option.bind_some, hI, addI_some (by constructor <;> omega), Option.bind_some, addI_one (by omega)]
      refine .inl ⟨_,rfl,rfl,?_⟩
      rw [List.take_succ_eq_append_getElem hi,List.map_append,lds_app]
      simp [lds]; omega) (fun s ⟨hs', hI⟩ => by
      unfold cap_Load_L0
      rw [hs', if_neg (by simp)]
      rw [List.take_length] at hI
      exact ⟨_,rfl,trivial,hI⟩) (nmd t.Base c,0) ⟨rfl,by simp [lds]⟩ (t.Built.length + 1) (by omega)
  rw [h1,Option.bind_some]
  cases f with
  | go _=>exact h2.elim
  | ret _=>exact h3.elim
  | ex _ s=>dsimp only at h3 ⊢; rw [h3]
theorem capPhase_eq {p:Plan} {c:Cap} {ph:Phase} (hp:PlanS p) (hc:c.Corners.length ≤ 12) (hb:ph.Volumes.length ≤ 1000) (hs:ph.Gives.length ≤ 1000):cap_Phase p c ph = some (phL p c ph):=by
  unfold cap_Phase
  have hn:=nmd_bd c ph.Gives
  rw [named_eq hs,Option.bind_some,subI_some (by constructor <;> omega),Option.bind_some]
  obtain ⟨f,h1,h2,h3⟩:=loop_up (body:=cap_Phase_L0 p c ph) (fun i s=>s.2 = ((i:Nat):Int)∧s.1 = -(nmd ph.Gives c) + lds p c (ph.Volumes.take i)) ph.Volumes.length
    (fun f => match f with | .ex _ s => s.1 = phL p c ph | _ => False) (fun i s hi ⟨hs', hI⟩ => by
      unfold cap_Phase_L0
      have hv:=ld_eq (v:=ph.Volumes[i]) hp hc
      have hl:=lds_bd hp hc (ph.Volumes.take i)
      have hlen:(ph.Volumes.take i).length ≤ 1000:=by simp; omega
      rw [hs', if_pos (by simpa using hi), getI_nat hi, Option.bind_some, hv.1, Option.bind_some, hI, addI_some (by constructor <;> omega), Option.bind_some, addI_one (by omega)]
      refine .inl ⟨_,rfl,rfl,?_⟩
      rw [List.take_succ_eq_append_getElem hi,lds_app]
      simp [lds]; omega) (fun s ⟨hs', hI⟩ => by
      unfold cap_Phase_L0
      rw [hs', if_neg (by simp)]
      rw [List.take_length] at hI
      exact ⟨_,rfl,trivial,hI⟩) (0 - nmd ph.Gives c,0) ⟨rfl,by simp [lds]⟩ (ph.Volumes.length + 1) (by omega)
  rw [h1,Option.bind_some]
  cases f with
  | go _=>exact h2.elim
  | ret _=>exact h3.elim
  | ex _ s=>dsimp only at h3 ⊢; rw [h3]
end Go.Proofs.YtegglcdhfnjhcaaGreat

namespace Go.Proofs.YtegglcdhfnjhcaaGreat
open Go.Gb
set_option linter.unusedVariables false
set_option linter.unusedSimpArgs false
set_option linter.unusedSectionVars false
set_option linter.unusedVariables false
set_option linter.unusedSimpArgs false

def after (t:Town) (lot:Int) (ph:Phase):Town:=
  { t with Built:=t.Built ++ ph.Volumes.map (fun v=>(⟨lot,v⟩:Placed)),Base:=t.Base ++ ph.Gives.map (fun g=>(⟨g.Name,-(lmd g.N)⟩:Entry)) }
theorem appI_clone {α:Type} {s:List α} (h:s.length ≤ 1000000):appI [] s = some s:=by
  rw [appI_some (by simp; omega),List.nil_append]
theorem after_eq {t:Town} {lot:Int} {ph:Phase} (hb:t.Built.length + ph.Volumes.length ≤ 1000) (hs:t.Base.length + ph.Gives.length ≤ 1000):vested_After t lot ph = some (after t lot ph):=by
  unfold vested_After slices_Clone_Placed slices_Clone_Entry
  rw [appI_clone (by omega),Option.bind_some,Option.bind_some,appI_clone (by omega),Option.bind_some,Option.bind_some]
  obtain ⟨f,h1,h2,h3⟩:=loop_up (body:=vested_After_L0 lot ph) (fun i s=>s.2 = ((i:Nat):Int)∧s.1 = { t with Built:=t.Built ++ (ph.Volumes.take i).map (fun v=>(⟨lot,v⟩:Placed)) }) ph.Volumes.length
    (fun f => match f with | .ex _ s => s.1 = { t with Built := t.Built ++ ph.Volumes.map (fun v => (⟨lot, v⟩ : Placed)) } | _ => False) (fun i s hi ⟨hs', hI⟩ => by
      unfold vested_After_L0
      rw [hs', if_pos (by simpa using hi), getI_nat hi, Option.bind_some, hI]
      dsimp only
      rw [appI_some (by simp; omega),Option.bind_some,addI_one (by omega)]
      refine .inl ⟨_,rfl,rfl,?_⟩
      rw [List.take_succ_eq_append_getElem hi,List.map_append,List.append_assoc]
      rfl) (fun s ⟨hs', hI⟩ => by
      unfold vested_After_L0
      rw [hs', if_neg (by simp)]
      rw [List.take_length] at hI
      exact ⟨_,rfl,trivial,hI⟩) (t,0) ⟨rfl,by simp⟩ (ph.Volumes.length + 1) (by omega)
  rw [h1,Option.bind_some]
  cases f with
  | go _=>exact h2.elim
  | ret _=>exact h3.elim
  | ex _ s =>
    have h3:s.1 = { t with Built:=t.Built ++ ph.Volumes.map (fun v=>(⟨lot,v⟩:Placed)) }:=h3
    dsimp only
    rw [h3]
    obtain ⟨f,g1,g2,g3⟩:=loop_up (body:=vested_After_L1 ph) (fun i s=>s.2 = ((i:Nat):Int)∧s.1 = { t with Built:=t.Built ++ ph.Volumes.map (fun v=>(⟨lot,v⟩:Placed)),Base:=t.Base ++ (ph.Gives.take i).map (fun g=>(⟨g.Name,-(lmd g.N)⟩:Entry)) }) ph.Gives.length
      (fun f => match f with | .ex _ s => s.1 = after t lot ph | _ => False) (fun i s hi ⟨hs', hI⟩ => by
        unfold vested_After_L1
        have hb:=lmd_bd ph.Gives[i].N
        rw [hs', if_pos (by simpa using hi), getI_nat hi, Option.bind_some, lmd_eq, Option.bind_some, subI_some (by constructor <;> omega), Option.bind_some, hI]
        dsimp only
        rw [appI_some (by simp; omega),Option.bind_some,addI_one (by omega)]
        refine .inl ⟨_,rfl,rfl,?_⟩
        rw [List.take_succ_eq_append_getElem hi,List.map_append,List.append_assoc,Int.zero_sub]
        rfl) (fun s ⟨hs', hI⟩ => by
        unfold vested_After_L1
        rw [hs', if_neg (by simp)]
        rw [List.take_length] at hI
        exact ⟨_,rfl,trivial,hI⟩) ({ t with Built:=t.Built ++ ph.Volumes.map (fun v=>(⟨lot,v⟩:Placed)) },0) ⟨rfl,by simp⟩ (ph.Gives.length + 1) (by omega)
    rw [g1,Option.bind_some]
    cases f with
    | go _=>exact g2.elim
    | ret _=>exact g3.elim
    | ex _ s=>dsimp only at g3 ⊢; rw [g3]
theorem nmd_map (c:Cap) : ∀ l:List Entry,nmd (l.map (fun g=>(⟨g.Name,-(lmd g.N)⟩:Entry))) c = -(nmd l c)
  | []=>rfl
  | e :: l => by
    simp only [List.map_cons,nmd,nmd_map c l]
    split
    · rw [lmd_neg]; omega
    · omega
theorem loadT_after (t:Town) (lot:Int) (ph:Phase) (c:Cap):loadT (after t lot ph) c = loadT t c + phL t.Plan c ph:=by
  unfold loadT phL after
  dsimp only
  rw [nmd_app,nmd_map,List.map_append,lds_app,List.map_map]
  have:(ph.Volumes.map ((fun x:Placed=>x.Volume) ∘ fun v=>(⟨lot,v⟩:Placed))) = ph.Volumes:=by
    rw [show ((fun x:Placed=>x.Volume) ∘ fun v=>(⟨lot,v⟩:Placed)) = id from rfl,List.map_id]
  rw [this]; omega
/-- a small phase, a small right -/
def PhS (ph:Phase):Prop:=ph.Volumes.length ≤ 2∧ph.Gives.length ≤ 3
def RtS (r:Right):Prop:=r.Drawing.Phases.length ≤ 4∧∀ ph ∈ r.Drawing.Phases,PhS ph
def liv (r:Right):Bool:=((!r.Over) && (decide (0 ≤ r.Used))) && (decide (r.Used < (r.Drawing.Phases.length:Int)))
def lft (r:Right):List Phase:=if liv r = true then r.Drawing.Phases.drop r.Used.toNat else []
theorem phases_eq {l:List Phase} (h:l.length ≤ 1000) (hl : ∀ ph ∈ l,PhS ph):option_phases l = some l:=by
  unfold option_phases
  obtain ⟨f,h1,h2,h3⟩:=loop_up (body:=option_phases_L0 l) (fun i s=>s.2 = ((i:Nat):Int)∧s.1 = l.take i) l.length
    (fun f => match f with | .ex _ s => s.1 = l | _ => False) (fun i s hi ⟨hs', hI⟩ => by
      have hp:=hl _ (List.getElem_mem hi)
      have hp1:=hp.1; have hp2:=hp.2
      unfold option_phases_L0 slices_Clone_Volume slices_Clone_Entry
      rw [hs', if_pos (by simpa using hi), getI_nat hi, Option.bind_some, appI_clone (by omega), Option.bind_some, Option.bind_some, appI_clone (by omega), Option.bind_some, Option.bind_some, hI, appI_some (by simp; omega), Option.bind_some, addI_one (by omega)]
      refine .inl ⟨_,rfl,rfl,?_⟩
      rw [List.take_succ_eq_append_getElem hi]) (fun s ⟨hs', hI⟩ => by
      unfold option_phases_L0
      rw [hs', if_neg (by simp)]
      rw [List.take_length] at hI
      exact ⟨_,rfl,trivial,hI⟩) ([],0) ⟨rfl,by simp⟩ (l.length + 1) (by omega)
  rw [h1,Option.bind_some]
  cases f with
  | go _=>exact h2.elim
  | ret _=>exact h3.elim
  | ex _ s=>dsimp only at h3 ⊢; rw [h3]
theorem lft_sub {r:Right} {ph:Phase} (h:ph ∈ lft r):ph ∈ r.Drawing.Phases:=by
  unfold lft at h
  split at h
  · exact List.mem_of_mem_drop h
  · simp at h
theorem lft_len {r:Right} (h:RtS r):(lft r).length ≤ 4:=by
  have:=h.1
  unfold lft
  split
  · simp; omega
  · simp
theorem left_eq {r:Right} (h:RtS r):option_Left r = some (lft r):=by
  have h4:=h.1
  unfold option_Left option_Living
  rw [Option.bind_some]
  show (if (!(liv r)) = true then _ else _) = _
  by_cases hl:liv r = true
  · rw [if_neg (by simp [hl])]
    have hl':=hl
    unfold liv at hl'
    simp at hl'
    rw [sliceI_some hl'.1.2 (by omega) (by omega),Option.bind_some,Int.toNat_natCast,List.take_length]
    unfold lft
    rw [if_pos hl,phases_eq (by simp; omega) fun ph hp=>h.2 ph (List.mem_of_mem_drop hp),Option.bind_some]
  · rw [if_pos (by simpa using hl)]
    unfold lft
    rw [if_neg hl]
theorem phL_bd {p:Plan} {c:Cap} {ph:Phase} (hp:PlanS p) (hc:c.Corners.length ≤ 12) (h:PhS ph) : -10995116277760 ≤ phL p c ph∧phL p c ph ≤ 10995116277760:=by
  have h1:=nmd_bd c ph.Gives
  have h2:=lds_bd hp hc ph.Volumes
  have h3:=h.1; have h4:=h.2
  unfold phL
  constructor <;> omega
theorem loads_eq {p:Plan} {c:Cap} {r:Right} (hp:PlanS p) (hc:c.Corners.length ≤ 12) (h:RtS r):cap_loads p c r = some ((lft r).map (phL p c)):=by
  have hl4:=lft_len h
  unfold cap_loads
  rw [left_eq h,Option.bind_some]
  obtain ⟨f,h1,h2,h3⟩:=loop_up (body:=cap_loads_L0 p c (lft r)) (fun i s=>s.2 = ((i:Nat):Int)∧s.1 = ((lft r).take i).map (phL p c)) (lft r).length
    (fun f => match f with | .ex _ s => s.1 = (lft r).map (phL p c) | _ => False) (fun i s hi ⟨hs', hI⟩ => by
      have hq:=h.2 _ (lft_sub (List.getElem_mem hi))
      unfold cap_loads_L0
      rw [hs', if_pos (by simpa using hi), getI_nat hi, Option.bind_some, capPhase_eq hp hc (by have := hq.1; omega) (by have := hq.2; omega), Option.bind_some, hI, appI_some (by simp; omega), Option.bind_some, addI_one (by omega)]
      refine .inl ⟨_,rfl,rfl,?_⟩
      rw [List.take_succ_eq_append_getElem hi,List.map_append]
      rfl) (fun s ⟨hs', hI⟩ => by
      unfold cap_loads_L0
      rw [hs', if_neg (by simp)]
      rw [List.take_length] at hI
      exact ⟨_,rfl,trivial,hI⟩) ([],0) ⟨rfl,by simp⟩ ((lft r).length + 1) (by omega)
  rw [h1,Option.bind_some]
  cases f with
  | go _=>exact h2.elim
  | ret _=>exact h3.elim
  | ex _ s=>dsimp only at h3 ⊢; rw [h3]
/-- the sums of the first numbers, but for none of them -/
def psum:Int → List Int → List Int
  | _,[]=>[]
  | a,x::l=>(a + x)::psum (a + x) l
theorem psum_len : ∀ (a:Int) (l:List Int),(psum a l).length = l.length
  | _,[]=>rfl
  | a,x::l=>by simp [psum,psum_len]
theorem psum_snoc : ∀ (a:Int) (l:List Int) (x:Int),psum a (l ++ [x]) = psum a l ++ [a + l.sum + x]
  | a,[],x=>by simp [psum]
  | a, y :: l, x => by
    simp only [List.cons_append,psum,psum_snoc (a + y) l x,List.sum_cons]
    rw [Int.add_assoc a y l.sum]
theorem psum_get : ∀ (a:Int) (l:List Int) (k:Nat) (h:k < (psum a l).length),(psum a l)[k] = a + (l.take (k + 1)).sum
  | a,[],k,h=>by simp [psum] at h
  | a,x::l,0,h=>by simp [psum]
  | a, x :: l, k + 1, h => by
    simp only [psum,List.getElem_cons_succ,List.take_succ_cons,List.sum_cons]
    rw [psum_get (a + x) l k (by simpa [psum] using h),Int.add_assoc]
def pk (l:List Int):Int:=(psum 0 l).foldl max 0
theorem fold_le : ∀ (l:List Int) (m:Int),m ≤ l.foldl max m∧∀ x ∈ l,x ≤ l.foldl max m
  | [],m=>⟨Int.le_refl _,fun x h=>by simp at h⟩
  | y :: l, m => by
    have ih:=fold_le l (max m y)
    refine ⟨Int.le_trans (Int.le_max_left _ _) ih.1,fun x hx=>?_⟩
    rcases List.mem_cons.1 hx with rfl | hx
    · exact Int.le_trans (Int.le_max_right _ _) ih.1
    · exact ih.2 x hx
theorem fold_mem : ∀ (l:List Int) (m:Int),l.foldl max m = m ∨ l.foldl max m ∈ l
  | [],m=>.inl rfl
  | y :: l, m => by
    rcases fold_mem l (max m y) with h | h
    · rw [List.foldl_cons, h]
      by_cases hc:m ≤ y
      · right; rw [Int.max_eq_right hc]; exact List.mem_cons_self
      · left; exact Int.max_eq_left (by omega)
    · right; rw [List.foldl_cons]; exact List.mem_cons_of_mem _ h
theorem pk_le (l:List Int) (k:Nat) (h:k ≤ l.length):(l.take k).sum ≤ pk l:=by
  unfold pk
  have hf:=fold_le (psum 0 l) 0
  cases k with
  | zero=>simpa using hf.1
  | succ k =>
    have hk:k < (psum 0 l).length:=by rw [psum_len]; omega
    have:=hf.2 _ (List.getElem_mem hk)
    rw [psum_get] at this
    simpa using this
theorem pk_is (l:List Int) : ∃ k,k ≤ l.length∧pk l = (l.take k).sum:=by
  unfold pk
  rcases fold_mem (psum 0 l) 0 with h | h
  · exact ⟨0,by omega,by simpa using h⟩
  · obtain ⟨k, hk, he⟩ := List.getElem_of_mem h
    rw [psum_get,Int.zero_add] at he
    exact ⟨k + 1,by rw [psum_len] at hk; omega,he.symm⟩
theorem sum_bd {B:Int} : ∀ {l:List Int},(∀ x ∈ l,-B ≤ x∧x ≤ B) → 0 ≤ B → -(B * (l.length:Int)) ≤ l.sum∧l.sum ≤ B * (l.length:Int)
  | [],_,_=>by simp
  | x :: l, h, h0 => by
    have ih:=sum_bd (l:=l) (fun y hy=>h y (List.mem_cons_of_mem _ hy)) h0
    have hx:=h x List.mem_cons_self
    have e:B * (((x::l).length:Nat):Int) = B * (l.length:Int) + B:=by
      rw [List.length_cons]; push_cast; rw [Int.mul_add,Int.mul_one]
    rw [e,List.sum_cons]
    omega
theorem prefixes_eq {l:List Int} (h:l.length ≤ 100) (hb : ∀ x ∈ l,-10995116277760 ≤ x∧x ≤ 10995116277760):option_Prefixes l = some (0::psum 0 l):=by
  unfold option_Prefixes
  obtain ⟨f,h1,h2,h3⟩:=loop_up (body:=option_Prefixes_L0 l) (fun i s=>s.2 = ((i:Nat):Int)∧s.1 = 0::psum 0 (l.take i)) l.length
    (fun f => match f with | .ex _ s => s.1 = 0 :: psum 0 l | _ => False) (fun i s hi ⟨hs', hI⟩ => by
      unfold option_Prefixes_L0
      have hx:=hb _ (List.getElem_mem hi)
      have hsum:=sum_bd (B:=10995116277760) (l:=l.take i) (fun x hx=>hb x (List.mem_of_mem_take hx)) (by omega)
      have hlt:(l.take i).length = i:=by simp; omega
      rw [hlt] at hsum
      have hg:getI s.1 (i:Int) = some ((l.take i).sum):=by
        rw [hI,getI_nat (by simp [psum_len]; omega)]
        congr 1
        cases i with
        | zero=>simp
        | succ i=>rw [List.getElem_cons_succ,psum_get,Int.zero_add,List.take_take,Nat.min_self]
      rw [hs', if_pos (by simpa using hi), getI_nat hi, Option.bind_some, hg, Option.bind_some, addI_some (by constructor <;> omega), Option.bind_some, hI, appI_some (by simp [psum_len]; omega), Option.bind_some, addI_one (by omega)]
      refine .inl ⟨_,rfl,rfl,?_⟩
      rw [List.take_succ_eq_append_getElem hi, psum_snoc, Int.zero_add, List.cons_append]) (fun s ⟨hs', hI⟩ => by
      unfold option_Prefixes_L0
      rw [hs', if_neg (by simp)]
      rw [List.take_length] at hI
      exact ⟨_,rfl,trivial,hI⟩) ([0],0) ⟨rfl,by simp [psum]⟩ (l.length + 1) (by omega)
  rw [h1,Option.bind_some]
  cases f with
  | go _=>exact h2.elim
  | ret _=>exact h3.elim
  | ex _ s=>dsimp only at h3 ⊢; rw [h3]
theorem max_eq {x:Int} {l:List Int} (h:l.length ≤ 1000):slices_Max_int (x::l) = some (l.foldl max x):=by
  unfold slices_Max_int
  rw [if_neg (by simp; omega),show (0:Int) = ((0:Nat):Int) from rfl,getI_nat (by simp),Option.bind_some]
  obtain ⟨f,h1,h2,h3⟩:=loop_up (body:=slices_Max_int_L0 (x::l)) (fun i s=>s.2 = ((i + 1:Nat):Int)∧s.1 = (l.take i).foldl max x) l.length
    (fun f => match f with | .ex _ s => s.1 = l.foldl max x | _ => False) (fun i s hi ⟨hs', hI⟩ => by
      unfold slices_Max_int_L0
      rw [hs', if_pos (by simp; omega), getI_nat (by simp; omega), Option.bind_some, addI_one (by omega)]
      refine .inl ⟨_,rfl,rfl,?_⟩
      rw [List.take_succ_eq_append_getElem hi,List.foldl_append,← hI]
      rfl) (fun s ⟨hs', hI⟩ => by
      unfold slices_Max_int_L0
      rw [hs', if_neg (by simp)]
      rw [List.take_length] at hI
      exact ⟨_,rfl,trivial,hI⟩) (x,1) ⟨rfl,by simp⟩ ((x::l).length + 1) (by simp; omega)
  rw [List.getElem_cons_zero,h1,Option.bind_some]
  cases f with
  | go _=>exact h2.elim
  | ret _=>exact h3.elim
  | ex _ s=>dsimp only at h3 ⊢; rw [h3]
noncomputable def top (p:Plan) (c:Cap) (r:Right):Int:=pk ((lft r).map (phL p c))
theorem top_eq {p:Plan} {c:Cap} {r:Right} (hp:PlanS p) (hc:c.Corners.length ≤ 12) (h:RtS r):option_Peak ((lft r).map (phL p c)) = some (top p c r):=by
  have hl4:=lft_len h
  unfold option_Peak
  rw [prefixes_eq (by simp; omega) (fun x hx=>by
    obtain ⟨ph,hph,rfl⟩:=List.mem_map.1 hx
    exact phL_bd hp hc (h.2 ph (lft_sub hph))),Option.bind_some,max_eq (by rw [psum_len]; simp; omega),Option.bind_some]
  rfl
theorem peak_eq {t:Town} {rights:List Right} {c:Cap} (hp:PlanS t.Plan) (hc:c.Corners.length ≤ 12) (hb:t.Built.length ≤ 1000) (hs:t.Base.length ≤ 1000) (hr:rights.length ≤ 1000) (h : ∀ r ∈ rights,RtS r) :
    cap_Peak t rights c = some ⟨c.Name,loadT t c,rights.map (top t.Plan c)⟩:=by
  unfold cap_Peak
  rw [capLoad_eq hp hc hb hs,Option.bind_some]
  obtain ⟨f,h1,h2,h3⟩:=loop_up (body:=cap_Peak_L0 t rights c) (fun i s=>s.2 = ((i:Nat):Int)∧s.1 = ⟨c.Name,loadT t c,(rights.take i).map (top t.Plan c)⟩) rights.length
    (fun f => match f with | .ex _ s => s.1 = ⟨c.Name, loadT t c, rights.map (top t.Plan c)⟩ | _ => False) (fun i s hi ⟨hs', hI⟩ => by
      have hq:=h _ (List.getElem_mem hi)
      unfold cap_Peak_L0
      rw [hs', if_pos (by simpa using hi), getI_nat hi, Option.bind_some, loads_eq hp hc hq, Option.bind_some, top_eq hp hc hq, Option.bind_some, hI]
      dsimp only
      rw [appI_some (by simp; omega),Option.bind_some,addI_one (by omega)]
      refine .inl ⟨_,rfl,rfl,?_⟩
      rw [List.take_succ_eq_append_getElem hi,List.map_append]
      rfl) (fun s ⟨hs', hI⟩ => by
      unfold cap_Peak_L0
      rw [hs', if_neg (by simp)]
      rw [List.take_length] at hI
      exact ⟨_,rfl,trivial,hI⟩) (⟨c.Name,loadT t c,[]⟩,0) ⟨rfl,by simp⟩ (rights.length + 1) (by omega)
  rw [h1,Option.bind_some]
  cases f with
  | go _=>exact h2.elim
  | ret _=>exact h3.elim
  | ex _ s=>dsimp only at h3 ⊢; rw [h3]
end Go.Proofs.YtegglcdhfnjhcaaGreat

namespace Go.Proofs.YtegglcdhfnjhcaaGreat
open Go.Gb
set_option linter.unusedVariables false
set_option linter.unusedSimpArgs false
set_option linter.unusedSectionVars false
set_option linter.unusedVariables false
set_option linter.unusedSimpArgs false

theorem getD_of_tot {α:Type} {o:Option α} {d:α} (h:Tot o):o = some (o.getD d):=by
  obtain ⟨x,rfl⟩:=h; rfl
def rgt (v:Volume):Bool:=(vested_right v).getD false
theorem rgt_eq (v:Volume):vested_right v = some (rgt v):=getD_of_tot (by unfold vested_right; rw [rect_Right_eq]; exact Tot.pure _)
def sld (v:Volume):List Slab:=[⟨v.Box.Z0,v.Box.Z1,[v.Box.Base]⟩]
def ovl (a b:Volume):Bool:=(vested_overlap a b).getD false
theorem ovl_eq (a b:Volume):vested_overlap a b = some (ovl a b):=getD_of_tot (by
  unfold vested_overlap
  rw [rgt_eq,Option.bind_some,rgt_eq]
  exact Tot.bind (Tot.ite (fun _=>Tot.pure _) fun _=>Tot.pure _) fun _ _=>Tot.ite (fun _=>Tot.pure _) fun _=>Tot.bind (inter_tot _ _) fun _ _=>Tot.pure _)
noncomputable def rayV (s:List Slab) (p d:Point3):Bool:=(sight_Ray s p d).getD false
noncomputable def blkV (s:List Slab) (p q:Point3):Bool:=(sight_Blocked s p q).getD false
def Thin (s:List Slab):Prop:=∀ b ∈ s,b.Area.length ≤ 100000
theorem sld_thin (v:Volume):Thin (sld v):=fun b hb=>by
  rw [List.mem_singleton.1 hb]; simp
theorem rayV_eq {s:List Slab} (h:Thin s) (p d:Point3):sight_Ray s p d = some (rayV s p d):=getD_of_tot (let ⟨r,hr,_⟩:=Ray_eq (p:=p) (d:=d) h; ⟨r,hr⟩)
theorem blkV_eq {s:List Slab} (h:Thin s) (p q:Point3):sight_Blocked s p q = some (blkV s p q):=getD_of_tot (let ⟨r,hr,_⟩:=Blocked_eq (p:=p) (q:=q) h; ⟨r,hr⟩)
theorem containsS_any {s:List (List Slab)} {f:List Slab → Option Bool} {g:List Slab → Bool} (hl:s.length ≤ 1000000) (hf : ∀ x ∈ s,f x = some (g x)):slices_ContainsFunc_Slab s f = some (s.any g):=by
  obtain ⟨fl,h1,h2,h3⟩:=loop_up (body:=slices_IndexFunc_Slab_L0 s f) (fun i t=>t = ((i:Nat):Int)∧∀ m (h:m < s.length),m < i → g s[m] = false) s.length
    (fun fl=>match fl with | .ex _ _=>s.any g = false | .ret r=>0 ≤ r∧s.any g = true | .go _=>False) (fun i t hi ⟨ht,hI⟩=>by
      subst ht
      unfold slices_IndexFunc_Slab_L0
      rw [if_pos (by simpa using hi),getI_nat hi,Option.bind_some,hf s[i] (List.getElem_mem hi),Option.bind_some]
      cases hb:g s[i] with
      | true=>exact .inr ⟨_,rfl,trivial,by show (0:Int) ≤ i; omega,List.any_eq_true.2 ⟨_,List.getElem_mem hi,hb⟩⟩
      | false =>
        rw [if_neg (by simp),addI_one (by omega)]
        refine .inl ⟨_,rfl,rfl,fun m hm hmi=>?_⟩
        by_cases e:m = i
        · subst e; exact hb
        · exact hI m hm (by omega)) (fun t ⟨ht,hI⟩=>by
      subst ht
      unfold slices_IndexFunc_Slab_L0
      rw [if_neg (by simp)]
      refine ⟨_,rfl,trivial,?_⟩
      rw [List.any_eq_false]
      intro x hx
      obtain ⟨m,hm,rfl⟩:=List.getElem_of_mem hx
      rw [hI m hm hm]; simp) 0 ⟨rfl,fun m _ h=>by omega⟩ (s.length + 1) (by omega)
  unfold slices_ContainsFunc_Slab slices_IndexFunc_Slab
  rw [h1,Option.bind_some]
  cases fl with
  | go _=>exact h3.elim
  | ex _ _=>dsimp only at h3; rw [h3]; rfl
  | ret r =>
    obtain ⟨h3,h4⟩:=h3
    rw [h4,Option.bind_some,decide_eq_true h3]
theorem containsP_any {s:List Placed} {f:Placed → Option Bool} {g:Placed → Bool} (hl:s.length ≤ 1000000) (hf : ∀ x ∈ s,f x = some (g x)):slices_ContainsFunc_Placed s f = some (s.any g):=by
  obtain ⟨fl,h1,h2,h3⟩:=loop_up (body:=slices_IndexFunc_Placed_L0 s f) (fun i t=>t = ((i:Nat):Int)∧∀ m (h:m < s.length),m < i → g s[m] = false) s.length
    (fun fl=>match fl with | .ex _ _=>s.any g = false | .ret r=>0 ≤ r∧s.any g = true | .go _=>False) (fun i t hi ⟨ht,hI⟩=>by
      subst ht
      unfold slices_IndexFunc_Placed_L0
      rw [if_pos (by simpa using hi),getI_nat hi,Option.bind_some,hf s[i] (List.getElem_mem hi),Option.bind_some]
      cases hb:g s[i] with
      | true=>exact .inr ⟨_,rfl,trivial,by show (0:Int) ≤ i; omega,List.any_eq_true.2 ⟨_,List.getElem_mem hi,hb⟩⟩
      | false =>
        rw [if_neg (by simp),addI_one (by omega)]
        refine .inl ⟨_,rfl,rfl,fun m hm hmi=>?_⟩
        by_cases e:m = i
        · subst e; exact hb
        · exact hI m hm (by omega)) (fun t ⟨ht,hI⟩=>by
      subst ht
      unfold slices_IndexFunc_Placed_L0
      rw [if_neg (by simp)]
      refine ⟨_,rfl,trivial,?_⟩
      rw [List.any_eq_false]
      intro x hx
      obtain ⟨m,hm,rfl⟩:=List.getElem_of_mem hx
      rw [hI m hm hm]; simp) 0 ⟨rfl,fun m _ h=>by omega⟩ (s.length + 1) (by omega)
  unfold slices_ContainsFunc_Placed slices_IndexFunc_Placed
  rw [h1,Option.bind_some]
  cases fl with
  | go _=>exact h3.elim
  | ex _ _=>dsimp only at h3; rw [h3]; rfl
  | ret r =>
    obtain ⟨h3,h4⟩:=h3
    rw [h4,Option.bind_some,decide_eq_true h3]
def solL (l:List Placed) (β:Int → Bool):List (List Slab):=(l.filter fun b=>rgt b.Volume && !β b.Lot).map fun b=>sld b.Volume
theorem solL_snoc (l:List Placed) (b:Placed) (β:Int → Bool):solL (l ++ [b]) β = solL l β ++ (if (rgt b.Volume && !β b.Lot) = true then [sld b.Volume] else []):=by
  unfold solL
  rw [List.filter_append,List.map_append]
  congr 1
  rw [List.filter_cons]
  split <;> simp
theorem solL_len (l:List Placed) (β:Int → Bool):(solL l β).length ≤ l.length:=by
  unfold solL
  rw [List.length_map]
  exact List.length_filter_le _ _
theorem solids_eq {t:Town} {but:Int → Option Bool} {β:Int → Bool} (hl:t.Built.length ≤ 1000) (hb : ∀ x,but x = some (β x)):vested_solids t but = some (solL t.Built β):=by
  unfold vested_solids
  obtain ⟨f,h1,h2,h3⟩:=loop_up (body:=vested_solids_L0 t but) (fun i s=>s.2 = ((i:Nat):Int)∧s.1 = solL (t.Built.take i) β) t.Built.length
    (fun f => match f with | .ex _ s => s.1 = solL t.Built β | _ => False) (fun i s hi ⟨hs', hI⟩ => by
      unfold vested_solids_L0
      have hlen:=solL_len (t.Built.take i) β
      have hlt:(t.Built.take i).length ≤ 1000:=by simp; omega
      rw [hs', if_pos (by simpa using hi), getI_nat hi, Option.bind_some, rgt_eq, Option.bind_some, hb, Option.bind_some]
      have e:(if rgt t.Built[i].Volume = true then some (!β t.Built[i].Lot) else some false) = some (rgt t.Built[i].Volume && !β t.Built[i].Lot):=by cases rgt t.Built[i].Volume <;> rfl
      rw [e,Option.bind_some]
      have hst:solL (t.Built.take (i + 1)) β = s.1 ++ (if (rgt t.Built[i].Volume && !β t.Built[i].Lot) = true then [sld t.Built[i].Volume] else []):=by
        rw [List.take_succ_eq_append_getElem hi,solL_snoc,hI]
      by_cases hc:(rgt t.Built[i].Volume && !β t.Built[i].Lot) = true
      · rw [if_pos hc]
        unfold vested_solid
        rw [Option.bind_some,appI_some (by rw [hI]; simp; omega),Option.bind_some,Option.bind_some,addI_one (by omega)]
        exact .inl ⟨_,rfl,rfl,by rw [hst,if_pos hc]; rfl⟩
      · rw [if_neg hc, Option.bind_some, addI_one (by omega)]
        exact .inl ⟨_, rfl, rfl, by rw [hst, if_neg hc, List.append_nil]⟩) (fun s ⟨hs', hI⟩ => by
      unfold vested_solids_L0
      rw [hs', if_neg (by simp)]
      rw [List.take_length] at hI
      exact ⟨_,rfl,trivial,hI⟩) ([],0) ⟨rfl,rfl⟩ (t.Built.length + 1) (by omega)
  rw [h1,Option.bind_some]
  cases f with
  | go _=>exact h2.elim
  | ret _=>exact h3.elim
  | ex _ s=>dsimp only at h3 ⊢; rw [h3]
def freeN (ps:List Point3) (ss:List (List Slab)) (g:List Slab → Point3 → Bool):Nat:=ps.countP fun p=>!(ss.any fun s=>g s p)
theorem free_eq {ps:List Point3} {ss:List (List Slab)} {f:List Slab → Point3 → Option Bool} {g:List Slab → Point3 → Bool} (hp:ps.length ≤ 1000) (hs:ss.length ≤ 1000) (hf : ∀ s ∈ ss,∀ p,f s p = some (g s p)) :
    vested_free ps ss f = some (freeN ps ss g:Int):=by
  unfold vested_free
  obtain ⟨fl,h1,h2,h3⟩:=loop_up (body:=vested_free_L0 ps ss f) (fun i s=>s.2 = ((i:Nat):Int)∧s.1 = (freeN (ps.take i) ss g:Int)) ps.length
    (fun f => match f with | .ex _ s => s.1 = (freeN ps ss g : Int) | _ => False) (fun i s hi ⟨hs', hI⟩ => by
      unfold vested_free_L0
      rw [hs', if_pos (by simpa using hi), getI_nat hi, Option.bind_some, containsS_any (g := fun s => g s ps[i]) (by omega) (fun s hs => by unfold vested_free_1; rw [hf s hs, Option.bind_some]), Option.bind_some]
      have hst:freeN (ps.take (i + 1)) ss g = freeN (ps.take i) ss g + (if (!(ss.any fun s=>g s ps[i])) = true then 1 else 0):=by
        unfold freeN
        rw [List.take_succ_eq_append_getElem hi,List.countP_append,List.countP_singleton]
      have hle:freeN (ps.take i) ss g ≤ 1000:=by
        unfold freeN
        refine Nat.le_trans (List.countP_le_length) (by simp; omega)
      by_cases hc:(!(ss.any fun s=>g s ps[i])) = true
      · rw [if_pos hc, hI, addI_one (by omega), Option.bind_some, Option.bind_some, addI_one (by omega)]
        exact .inl ⟨_,rfl,rfl,by rw [hst,if_pos hc]⟩
      · rw [if_neg hc, Option.bind_some, addI_one (by omega)]
        exact .inl ⟨_, rfl, rfl, by rw [hst, if_neg hc]; exact hI⟩) (fun s ⟨hs', hI⟩ => by
      unfold vested_free_L0
      rw [hs', if_neg (by simp)]
      rw [List.take_length] at hI
      exact ⟨_,rfl,trivial,hI⟩) (0,0) ⟨rfl,by simp [freeN]⟩ (ps.length + 1) (by omega)
  rw [h1,Option.bind_some]
  cases fl with
  | go _=>exact h2.elim
  | ret _=>exact h3.elim
  | ex _ s=>dsimp only at h3 ⊢; rw [h3]
/-- fewer buildings leave more free -/
theorem freeN_mono {ps:List Point3} {ss st:List (List Slab)} {g:List Slab → Point3 → Bool} (h : ∀ s ∈ ss,s ∈ st):freeN ps st g ≤ freeN ps ss g:=by
  unfold freeN
  refine List.countP_mono_left fun p _ hp=>?_
  simp only [Bool.not_eq_true', List.any_eq_false] at hp ⊢
  exact fun s hs=>hp s (h s hs)
theorem solL_sub {l m:List Placed} {β:Int → Bool} (h:l.Sublist m) : ∀ s ∈ solL l β,s ∈ solL m β:=by
  intro s hs
  unfold solL at *
  exact (((h.filter _).map _).subset) hs
noncomputable def sunN (t:Town) (w:Window):Nat:=freeN t.Plan.Sun (solL t.Built fun lot=>lot == w.Lot) fun s d=>rayV s w.At d
noncomputable def viewN (t:Town) (w:View):Nat:=freeN w.Targets (solL t.Built fun _=>false) fun s q=>blkV s w.Eye q
def LightP (t:Town):Prop:=(∀ w ∈ t.Windows,t.Plan.Hours ≤ (sunN t w:Int))∧(∀ w ∈ t.Plan.Views,w.Least ≤ (viewN t w:Int))∧(t.Built.map (·.Volume)).Pairwise fun a b=>ovl a b = false
theorem LightP.mono {t u:Town} (hp:u.Plan = t.Plan) (hw:u.Windows = t.Windows) (hb:t.Built.Sublist u.Built) (h:LightP u):LightP t:=by
  obtain ⟨h1,h2,h3⟩:=h
  refine ⟨fun w hw'=>?_,fun w hw'=>?_,h3.sublist (hb.map _)⟩
  · have := h1 w (by rw [hw]; exact hw')
    have m:sunN u w ≤ sunN t w:=by unfold sunN; rw [hp]; exact freeN_mono (solL_sub hb)
    rw [hp] at this; omega
  · have := h2 w (by rw [hp]; exact hw')
    have m:viewN u w ≤ viewN t w:=freeN_mono (solL_sub hb)
    omega
end Go.Proofs.YtegglcdhfnjhcaaGreat

namespace Go.Proofs.YtegglcdhfnjhcaaGreat
open Go.Gb
set_option linter.unusedVariables false
set_option linter.unusedSimpArgs false
set_option linter.unusedSectionVars false
set_option linter.unusedVariables false
set_option linter.unusedSimpArgs false

/-- a town that is small -/
structure TownS (t:Town):Prop where
  plan:PlanS t.Plan
  caps:t.Plan.Caps.length ≤ 1000
  cap : ∀ c ∈ t.Plan.Caps,c.Corners.length ≤ 12
  sun:t.Plan.Sun.length ≤ 1000
  views:t.Plan.Views.length ≤ 1000
  view : ∀ w ∈ t.Plan.Views,w.Targets.length ≤ 1000
  wins:t.Windows.length ≤ 1000
theorem light_eq {t:Town} (h:TownS t) (hb:t.Built.length ≤ 1000) : ∃ x,vested_light t = some x∧(x.2 = true ↔ LightP t)∧(x.2 = true → x.1.Kind = 0)∧(x.2 = false → x.1.Kind = 2 ∨ x.1.Kind = 3 ∨ x.1.Kind = 5)∧(¬ (∀ w ∈ t.Windows,t.Plan.Hours ≤ (sunN t w:Int)) → ∃ i:Nat,i < t.Windows.length∧x = (⟨2,⟨#[]⟩,(i:Int)⟩,false)):=by
  have hw:=h.wins; have hv:=h.views; have hs:=h.sun
  unfold vested_light
  obtain ⟨f,h1,h2,h3⟩:=loop_up (body:=vested_light_L0 t) (fun i s=>s.1 = ((i:Nat):Int)∧∀ m (hm:m < t.Windows.length),m < i → t.Plan.Hours ≤ (sunN t t.Windows[m]:Int)) t.Windows.length
    (fun f => match f with | .ex _ _ => ∀ w ∈ t.Windows, t.Plan.Hours ≤ (sunN t w : Int) | .ret r => (∃ i : Nat, i < t.Windows.length ∧ r = (⟨2, ⟨#[]⟩, (i : Int)⟩, false)) ∧ ∃ w ∈ t.Windows, ¬ t.Plan.Hours ≤ (sunN t w : Int) | .go _ => False) (fun i s hi ⟨hs', hI⟩ => by
      unfold vested_light_L0
      have hsl:(solL t.Built fun lot=>lot == t.Windows[i].Lot).length ≤ 1000:=Nat.le_trans (solL_len _ _) hb
      have hthin : ∀ s ∈ (solL t.Built fun lot=>lot == t.Windows[i].Lot),Thin s:=fun s hs=>by
        unfold solL at hs
        obtain ⟨b,_,rfl⟩:=List.mem_map.1 hs
        exact sld_thin _
      rw [hs', if_pos (by simpa using hi), getI_nat hi, Option.bind_some, solids_eq (but := fun y0 => vested_light_1 y0 t.Windows[i]) (β := fun lot => lot == t.Windows[i].Lot) hb (fun x => rfl), Option.bind_some,
        free_eq (f:=fun y0 y1=>vested_light_2 y0 y1 t.Windows[i]) (g:=fun s d=>rayV s t.Windows[i].At d) hs hsl (fun s hs p=>by unfold vested_light_2; rw [rayV_eq (hthin s hs),Option.bind_some]),Option.bind_some]
      by_cases hc:((freeN t.Plan.Sun (solL t.Built fun lot=>lot == t.Windows[i].Lot) fun s d=>rayV s t.Windows[i].At d:Nat):Int) < t.Plan.Hours
      · rw [if_pos (by simpa using hc)]
        exact .inr ⟨_,rfl,trivial,⟨i,hi,rfl⟩,_,List.getElem_mem hi,by unfold sunN; omega⟩
      · rw [if_neg (by simpa using hc), addI_one (by omega)]
        refine .inl ⟨_,rfl,rfl,fun m hm hmi=>?_⟩
        by_cases e:m = i
        · subst e; unfold sunN; omega
        · exact hI m hm (by omega)) (fun s ⟨hs', hI⟩ => by
      unfold vested_light_L0
      rw [hs', if_neg (by simp)]
      refine ⟨_,rfl,trivial,fun w hw=>?_⟩
      obtain ⟨m,hm,rfl⟩:=List.getElem_of_mem hw
      exact hI m hm hm) ((0,(⟨0,(⟨#[]⟩:ByteArray),0⟩:Limit)):Int × Limit) ⟨rfl,fun m _ h=>by omega⟩ (t.Windows.length + 1) (by omega)
  rw [h1,Option.bind_some]
  cases f with
  | go _=>exact h2.elim
  | ret r =>
    obtain ⟨⟨i,hi,rfl⟩,w,hw,hn⟩:=h3
    exact ⟨_,rfl,⟨fun h=>by simp at h,fun h=>absurd (h.1 w hw) hn⟩,fun h=>by simp at h,fun _=>.inl rfl,fun _=>⟨i,hi,rfl⟩⟩
  | ex _ s0 =>
    have h3 : ∀ w ∈ t.Windows,t.Plan.Hours ≤ (sunN t w:Int):=h3
    dsimp only
    rw [solids_eq (but:=vested_light_3) (β:=fun _=>false) hb (fun x=>rfl),Option.bind_some]
    have hsl:(solL t.Built fun _=>false).length ≤ 1000:=Nat.le_trans (solL_len _ _) hb
    have hthin : ∀ s ∈ (solL t.Built fun _=>false),Thin s:=fun s hs=>by
      unfold solL at hs
      obtain ⟨b,_,rfl⟩:=List.mem_map.1 hs
      exact sld_thin _
    obtain ⟨f,g1,g2,g3⟩:=loop_up (body:=vested_light_L1 t (solL t.Built fun _=>false)) (fun i s=>s.1 = ((i:Nat):Int)∧∀ m (hm:m < t.Plan.Views.length),m < i → t.Plan.Views[m].Least ≤ (viewN t t.Plan.Views[m]:Int)) t.Plan.Views.length
      (fun f => match f with | .ex _ _ => ∀ w ∈ t.Plan.Views, w.Least ≤ (viewN t w : Int) | .ret r => r.2 = false ∧ r.1.Kind = 3 ∧ ∃ w ∈ t.Plan.Views, ¬ w.Least ≤ (viewN t w : Int) | .go _ => False) (fun i s hi ⟨hs', hI⟩ => by
        unfold vested_light_L1
        rw [hs', if_pos (by simpa using hi), getI_nat hi, Option.bind_some,
          free_eq (f:=fun y0 y1=>vested_light_4 y0 y1 t.Plan.Views[i]) (g:=fun s q=>blkV s t.Plan.Views[i].Eye q) (h.view _ (List.getElem_mem hi)) hsl (fun s hs p=>by unfold vested_light_4; rw [blkV_eq (hthin s hs),Option.bind_some]),Option.bind_some]
        by_cases hc:((freeN t.Plan.Views[i].Targets (solL t.Built fun _=>false) fun s q=>blkV s t.Plan.Views[i].Eye q:Nat):Int) < t.Plan.Views[i].Least
        · rw [if_pos (by simpa using hc)]
          exact .inr ⟨_,rfl,trivial,rfl,rfl,_,List.getElem_mem hi,by unfold viewN; omega⟩
        · rw [if_neg (by simpa using hc), addI_one (by omega)]
          refine .inl ⟨_,rfl,rfl,fun m hm hmi=>?_⟩
          by_cases e:m = i
          · subst e; unfold viewN; omega
          · exact hI m hm (by omega)) (fun s ⟨hs', hI⟩ => by
        unfold vested_light_L1
        rw [hs', if_neg (by simp)]
        refine ⟨_,rfl,trivial,fun w hw=>?_⟩
        obtain ⟨m,hm,rfl⟩:=List.getElem_of_mem hw
        exact hI m hm hm) (0,s0.2) ⟨rfl,fun m _ h=>by omega⟩ (t.Plan.Views.length + 1) (by omega)
    rw [g1,Option.bind_some]
    cases f with
    | go _=>exact g2.elim
    | ret r =>
      obtain ⟨a,b,w,hw,hn⟩:=g3
      exact ⟨r,rfl,⟨fun h=>by rw [a] at h; simp at h,fun h=>absurd (h.2.1 w hw) hn⟩,fun h=>by rw [a] at h; simp at h,fun _=>.inr (.inl b),fun h=>absurd h3 h⟩
    | ex _ s1 =>
      have g3 : ∀ w ∈ t.Plan.Views,w.Least ≤ (viewN t w:Int):=g3
      dsimp only
      obtain ⟨f,k1,k2,k3⟩:=loop_up (body:=vested_light_L2 t) (fun i s=>s.1 = ((i:Nat):Int)∧∀ m (hm:m < t.Built.length),m < i → ∀ j (hj:j < m),ovl t.Built[j].Volume t.Built[m].Volume = false) t.Built.length
        (fun f => match f with | .ex _ _ => ∀ m (hm : m < t.Built.length) j (hj : j < m), ovl t.Built[j].Volume t.Built[m].Volume = false | .ret r => r.2 = false ∧ r.1.Kind = 5 ∧ ∃ m, ∃ hm : m < t.Built.length, ∃ j, ∃ hj : j < m, ovl t.Built[j].Volume t.Built[m].Volume = true | .go _ => False) (fun i s hi ⟨hs', hI⟩ => by
          unfold vested_light_L2
          rw [hs', if_pos (by simpa using hi), getI_nat hi, Option.bind_some, sliceI_some (by omega) (by omega) (by omega), Option.bind_some, show (t.Built.take (i : Int).toNat).drop (0 : Int).toNat = t.Built.take i by simp,
            containsP_any (f:=fun y0=>vested_light_5 y0 t.Built[i]) (g:=fun a=>ovl a.Volume t.Built[i].Volume) (by simp; omega) (fun a _=>by unfold vested_light_5; rw [ovl_eq,Option.bind_some]),Option.bind_some]
          cases hc:(t.Built.take i).any fun a=>ovl a.Volume t.Built[i].Volume with
          | true =>
            rw [if_pos rfl]
            rw [List.any_eq_true] at hc
            obtain ⟨y,hy,ht⟩:=hc
            obtain ⟨j,hj,rfl⟩:=List.getElem_of_mem hy
            have hj' : j < i:=by simp at hj; omega
            rw [List.getElem_take] at ht
            exact .inr ⟨_, rfl, trivial, rfl, rfl, i, hi, j, hj', ht⟩
          | false =>
            rw [if_neg (by simp),addI_one (by omega)]
            rw [List.any_eq_false] at hc
            refine .inl ⟨_,rfl,rfl,fun m hm hmi j hj=>?_⟩
            by_cases e:m = i
            · subst e
              have:=hc t.Built[j] (List.mem_take_iff_getElem.2 ⟨j,by omega,rfl⟩)
              simpa using this
            · exact hI m hm (by omega) j hj) (fun s ⟨hs', hI⟩ => by
          unfold vested_light_L2
          rw [hs', if_neg (by simp)]
          exact ⟨_,rfl,trivial,fun m hm j hj=>hI m hm hm j hj⟩) (0,s1.2) ⟨rfl,fun m _ h=>by omega⟩ (t.Built.length + 1) (by omega)
      rw [k1,Option.bind_some]
      cases f with
      | go _=>exact k2.elim
      | ret r =>
        obtain ⟨a,b,m,hm,j,hj,hn⟩:=k3
        refine ⟨r,rfl,⟨fun h=>by rw [a] at h; simp at h,fun h=>?_⟩,fun h=>by rw [a] at h; simp at h,fun _=>.inr (.inr b),fun h=>absurd h3 h⟩
        have:=List.pairwise_iff_getElem.1 h.2.2 j m (by simp; omega) (by simpa using hm) hj
        simp only [List.getElem_map] at this
        rw [hn] at this; simp at this
      | ex _ _ =>
        have k3 : ∀ m (hm:m < t.Built.length) j (hj:j < m),ovl t.Built[j].Volume t.Built[m].Volume = false:=k3
        refine ⟨_,rfl,⟨fun _=>⟨h3,g3,List.pairwise_iff_getElem.2 fun j m hj hm hjm=>?_⟩,fun _=>rfl⟩,fun _=>rfl,fun h=>by simp at h,fun h=>absurd h3 h⟩
        simp only [List.getElem_map]
        exact k3 m (by simpa using hm) j hjm
/-- the caps are kept -/
def CapP (t:Town):Prop:=∀ c ∈ t.Plan.Caps,loadT t c ≤ c.Limit
def KeepsP (t:Town):Prop:=CapP t∧LightP t
theorem keeps_eq {t:Town} (h:TownS t) (hb:t.Built.length ≤ 1000) (hs:t.Base.length ≤ 1000) : ∃ x,vested_Keeps t = some x∧(x.2 = true ↔ KeepsP t)∧(x.2 = true → x.1.Kind = 0)∧(x.2 = false → x.1.Kind ≠ 0)∧(x.2 = false → x.1.Kind ≠ 1 → ¬ LightP t):=by
  have hc:=h.caps
  unfold vested_Keeps
  obtain ⟨f,h1,h2,h3⟩:=loop_up (body:=vested_Keeps_L0 t) (fun i s=>s.1 = ((i:Nat):Int)∧∀ m (hm:m < t.Plan.Caps.length),m < i → loadT t t.Plan.Caps[m] ≤ t.Plan.Caps[m].Limit) t.Plan.Caps.length
    (fun f => match f with | .ex _ _ => CapP t | .ret r => r.2 = false ∧ r.1.Kind = 1 ∧ ¬ CapP t | .go _ => False) (fun i s hi ⟨hs', hI⟩ => by
      unfold vested_Keeps_L0
      rw [hs', if_pos (by simpa using hi), getI_nat hi, Option.bind_some, capLoad_eq h.plan (h.cap _ (List.getElem_mem hi)) hb hs, Option.bind_some]
      by_cases hl:t.Plan.Caps[i].Limit < loadT t t.Plan.Caps[i]
      · rw [if_pos (by simpa using hl)]
        exact .inr ⟨_,rfl,trivial,rfl,rfl,fun hn=>by have:=hn _ (List.getElem_mem hi); omega⟩
      · rw [if_neg (by simpa using hl), addI_one (by omega)]
        refine .inl ⟨_,rfl,rfl,fun m hm hmi=>?_⟩
        by_cases e:m = i
        · subst e; omega
        · exact hI m hm (by omega)) (fun s ⟨hs', hI⟩ => by
      unfold vested_Keeps_L0
      rw [hs', if_neg (by simp)]
      refine ⟨_,rfl,trivial,fun c hc=>?_⟩
      obtain ⟨m,hm,rfl⟩:=List.getElem_of_mem hc
      exact hI m hm hm) ((0,(⟨0,(⟨#[]⟩:ByteArray),0⟩:Limit)):Int × Limit) ⟨rfl,fun m _ h=>by omega⟩ (t.Plan.Caps.length + 1) (by omega)
  rw [h1,Option.bind_some]
  cases f with
  | go _=>exact h2.elim
  | ret r =>
    obtain ⟨a,b,hn⟩:=h3
    exact ⟨r,rfl,⟨fun h=>by rw [a] at h; simp at h,fun h=>absurd h.1 hn⟩,fun h=>by rw [a] at h; simp at h,fun _=>by omega,fun _ h=>absurd b h⟩
  | ex _ _ =>
    have h3:CapP t:=h3
    dsimp only
    obtain ⟨x,hx,k1,k2,k3,_⟩:=light_eq h hb
    rw [hx,Option.bind_some]
    refine ⟨_,rfl,⟨fun h=>⟨h3,k1.1 h⟩,fun h=>k1.2 h.2⟩,k2,fun h=>?_,fun h _ hl=>?_⟩
    · have:=k3 h; show x.1.Kind ≠ 0; omega
    · have h : x.2 = false := h
      rw [k1.2 hl] at h; simp at h
/-- the town in which everything was used -/
def lastR (r:Right) (t:Town):Town:=(lft r).foldl (fun u ph=>after u r.Drawing.Lot ph) t
def lastT (rights:List Right) (t:Town):Town:=rights.foldl (fun u r=>lastR r u) t
theorem after_len {t:Town} {lot:Int} {ph:Phase} (h:PhS ph):(after t lot ph).Built.length ≤ t.Built.length + 2∧(after t lot ph).Base.length ≤ t.Base.length + 3:=by
  have h1:=h.1; have h2:=h.2
  unfold after
  dsimp only
  simp
  omega
theorem foldA_len {lot:Int} : ∀ {l:List Phase} {t:Town},(∀ ph ∈ l,PhS ph) → (l.foldl (fun u ph=>after u lot ph) t).Built.length ≤ t.Built.length + 2 * l.length∧(l.foldl (fun u ph=>after u lot ph) t).Base.length ≤ t.Base.length + 3 * l.length
  | [],t,_=>by simp
  | ph :: l, t, h => by
    have h1:=after_len (t:=t) (lot:=lot) (h ph List.mem_cons_self)
    have ih:=foldA_len (lot:=lot) (l:=l) (t:=after t lot ph) fun q hq=>h q (List.mem_cons_of_mem _ hq)
    simp only [List.foldl_cons,List.length_cons]
    omega
theorem lastR_len {r:Right} {t:Town} (h:RtS r):(lastR r t).Built.length ≤ t.Built.length + 8∧(lastR r t).Base.length ≤ t.Base.length + 12:=by
  have h4:=lft_len h
  have:=foldA_len (lot:=r.Drawing.Lot) (l:=lft r) (t:=t) fun ph hp=>h.2 ph (lft_sub hp)
  unfold lastR
  omega
theorem lastT_len : ∀ {rights:List Right} {t:Town},(∀ r ∈ rights,RtS r) → (lastT rights t).Built.length ≤ t.Built.length + 8 * rights.length∧(lastT rights t).Base.length ≤ t.Base.length + 12 * rights.length
  | [],t,_=>by simp [lastT]
  | r :: rights, t, h => by
    have h1:=lastR_len (t:=t) (h r List.mem_cons_self)
    have ih:=lastT_len (rights:=rights) (t:=lastR r t) fun q hq=>h q (List.mem_cons_of_mem _ hq)
    simp only [lastT,List.foldl_cons,List.length_cons] at ih ⊢
    omega
end Go.Proofs.YtegglcdhfnjhcaaGreat

namespace Go.Proofs.YtegglcdhfnjhcaaGreat
open Go.Gb
set_option linter.unusedVariables false
set_option linter.unusedSimpArgs false
set_option linter.unusedSectionVars false
set_option linter.unusedVariables false
set_option linter.unusedSimpArgs false

def fA (lot:Int) (l:List Phase) (t:Town):Town:=l.foldl (fun u ph=>after u lot ph) t
theorem fA_snoc (lot:Int) (l:List Phase) (ph:Phase) (t:Town):fA lot (l ++ [ph]) t = after (fA lot l t) lot ph:=by simp [fA]
theorem fA_plan (lot:Int) : ∀ (l:List Phase) (t:Town),(fA lot l t).Plan = t.Plan∧(fA lot l t).Windows = t.Windows
  | [],t=>⟨rfl,rfl⟩
  | ph::l,t=>fA_plan lot l (after t lot ph)
theorem fA_load (lot:Int) (c:Cap) : ∀ (l:List Phase) (t:Town),loadT (fA lot l t) c = loadT t c + (l.map (phL t.Plan c)).sum
  | [],t=>by simp [fA]
  | ph :: l, t => by
    have ih:=fA_load lot c l (after t lot ph)
    rw [loadT_after] at ih
    rw [List.map_cons,List.sum_cons]
    show loadT (fA lot l (after t lot ph)) c = _
    rw [ih]
    show loadT t c + phL t.Plan c ph + (l.map (phL t.Plan c)).sum = _
    omega
theorem fA_built (lot:Int) : ∀ (l:List Phase) (t:Town),(fA lot l t).Built = t.Built ++ l.flatMap fun ph=>ph.Volumes.map fun v=>(⟨lot,v⟩:Placed)
  | [],t=>by simp [fA]
  | ph :: l, t => by
    show (fA lot l (after t lot ph)).Built = _
    rw [fA_built lot l (after t lot ph)]
    simp [after]
theorem lastT_plan : ∀ (rights:List Right) (t:Town),(lastT rights t).Plan = t.Plan∧(lastT rights t).Windows = t.Windows
  | [],t=>⟨rfl,rfl⟩
  | r :: rights, t => by
    have h1:=fA_plan r.Drawing.Lot (lft r) t
    have ih:=lastT_plan rights (lastR r t)
    exact ⟨ih.1.trans h1.1,ih.2.trans h1.2⟩
theorem TownS.of {t u:Town} (h:TownS t) (hp:u.Plan = t.Plan) (hw:u.Windows = t.Windows):TownS u:=by
  obtain ⟨a,b,c,d,e,f,g⟩:=h
  exact ⟨hp ▸ a,by rw [hp]; exact b,by rw [hp]; exact c,by rw [hp]; exact d,by rw [hp]; exact e,by rw [hp]; exact f,by rw [hw]; exact g⟩
theorem last1_eq {r:Right} {t:Town} (h:RtS r) (hb:t.Built.length ≤ 900) (hs:t.Base.length ≤ 900) : ∃ n,iterL (vested_Last_L1 r (lft r)) ((lft r).length + 1) (0,t) = some (.ex 2 (n,lastR r t)):=by
  have h4:=lft_len h
  obtain ⟨f,h1,h2,h3⟩:=loop_up (body:=vested_Last_L1 r (lft r)) (fun i s=>s.1 = ((i:Nat):Int)∧s.2 = fA r.Drawing.Lot ((lft r).take i) t) (lft r).length
    (fun f => ∃ n, f = .ex 2 (n, lastR r t)) (fun i s hi ⟨hs', hI⟩ => by
      have hq:=h.2 _ (lft_sub (List.getElem_mem hi))
      have hl:=foldA_len (lot:=r.Drawing.Lot) (l:=(lft r).take i) (t:=t) fun ph hp=>h.2 ph (lft_sub (List.mem_of_mem_take hp))
      have hlt:((lft r).take i).length ≤ 4:=by simp; omega
      have hq1:=hq.1; have hq2:=hq.2
      unfold vested_Last_L1
      rw [hs', if_pos (by simpa using hi), getI_nat hi, Option.bind_some, hI, after_eq (by unfold fA; omega) (by unfold fA; omega), Option.bind_some, addI_one (by omega)]
      refine .inl ⟨_,rfl,rfl,?_⟩
      rw [List.take_succ_eq_append_getElem hi, fA_snoc]) (fun s ⟨hs', hI⟩ => by
      obtain ⟨s1,s2⟩:=s
      unfold vested_Last_L1
      rw [if_neg (by rw [hs']; simp)]
      rw [List.take_length] at hI
      exact ⟨_,rfl,trivial,s1,by dsimp only at hI; rw [hI]; rfl⟩) (0,t) ⟨rfl,rfl⟩ ((lft r).length + 1) (by omega)
  obtain ⟨n,rfl⟩:=h3
  exact ⟨n,h1⟩
theorem last_eq {t:Town} {rights:List Right} (hr:rights.length ≤ 10) (h : ∀ r ∈ rights,RtS r) (hb:t.Built.length ≤ 100) (hs:t.Base.length ≤ 100):vested_Last t rights = some (lastT rights t):=by
  unfold vested_Last slices_Clone_Placed slices_Clone_Entry
  rw [appI_clone (by omega),Option.bind_some,Option.bind_some,appI_clone (by omega),Option.bind_some,Option.bind_some]
  obtain ⟨f,h1,h2,h3⟩:=loop_up (body:=vested_Last_L0 rights) (fun i s=>s.1 = ((i:Nat):Int)∧s.2 = lastT (rights.take i) t) rights.length
    (fun f => match f with | .ex _ s => s.2 = lastT rights t | _ => False) (fun i s hi ⟨hs', hI⟩ => by
      have hq:=h _ (List.getElem_mem hi)
      have hl:=lastT_len (rights:=rights.take i) (t:=t) fun r hr=>h r (List.mem_of_mem_take hr)
      have hlt:(rights.take i).length ≤ 10:=by simp; omega
      unfold vested_Last_L0
      obtain ⟨n,hn⟩:=last1_eq (t:=s.2) hq (by rw [hI]; omega) (by rw [hI]; omega)
      rw [hs', if_pos (by simpa using hi), getI_nat hi, Option.bind_some, left_eq hq, Option.bind_some, hn, Option.bind_some]
      dsimp only
      rw [addI_one (by omega)]
      refine .inl ⟨_,rfl,rfl,?_⟩
      rw [List.take_succ_eq_append_getElem hi,hI]
      unfold lastT
      rw [List.foldl_append]
      rfl) (fun s ⟨hs', hI⟩ => by
      unfold vested_Last_L0
      rw [hs', if_neg (by simp)]
      rw [List.take_length] at hI
      exact ⟨_,rfl,trivial,hI⟩) (0,t) ⟨rfl,rfl⟩ (rights.length + 1) (by omega)
  rw [h1,Option.bind_some]
  cases f with
  | go _=>exact h2.elim
  | ret _=>exact h3.elim
  | ex _ s=>dsimp only at h3 ⊢; rw [h3]
theorem top_bd {p:Plan} {c:Cap} {r:Right} (hp:PlanS p) (hc:c.Corners.length ≤ 12) (h:RtS r):0 ≤ top p c r∧top p c r ≤ 43980465111040:=by
  have h4:=lft_len h
  obtain ⟨k,hk,he⟩:=pk_is ((lft r).map (phL p c))
  have h0:=pk_le ((lft r).map (phL p c)) 0 (by omega)
  have hb:=sum_bd (B:=10995116277760) (l:=((lft r).map (phL p c)).take k) (fun x hx=>by
    obtain ⟨ph,hph,rfl⟩:=List.mem_map.1 (List.mem_of_mem_take hx)
    exact phL_bd hp hc (h.2 ph (lft_sub hph))) (by omega)
  have hlt:(((lft r).map (phL p c)).take k).length ≤ 4:=by simp; omega
  unfold top
  rw [List.take_zero,List.sum_nil] at h0
  constructor
  · exact h0
  · rw [he]; omega
noncomputable def tops (p:Plan) (c:Cap) (rights:List Right):Int:=(rights.map (top p c)).sum
theorem tops_bd {p:Plan} {c:Cap} (hp:PlanS p) (hc:c.Corners.length ≤ 12) : ∀ {rights:List Right},(∀ r ∈ rights,RtS r) → 0 ≤ tops p c rights∧tops p c rights ≤ 43980465111040 * (rights.length:Int)
  | [],_=>by simp [tops]
  | r :: l, h => by
    have ih:=tops_bd hp hc (rights:=l) fun q hq=>h q (List.mem_cons_of_mem _ hq)
    have hr:=top_bd hp hc (h r List.mem_cons_self)
    have e:tops p c (r::l) = top p c r + tops p c l:=by simp [tops]
    rw [e,List.length_cons]; push_cast; omega
theorem loadT_bd {t:Town} {c:Cap} (hp:PlanS t.Plan) (hc:c.Corners.length ≤ 12) (hb:t.Built.length ≤ 1000) (hs:t.Base.length ≤ 1000) : -1099511627776000 ≤ loadT t c∧loadT t c ≤ 2199023255552000:=by
  have h1:=nmd_bd c t.Base
  have h2:=lds_bd hp hc (t.Built.map (·.Volume))
  have h3:(t.Built.map (·.Volume)).length = t.Built.length:=List.length_map ..
  rw [h3] at h2
  unfold loadT
  constructor <;> omega
theorem tops_snoc (p:Plan) (c:Cap) (l:List Right) (r:Right):tops p c (l ++ [r]) = tops p c l + top p c r:=by simp [tops]
def SafeP (t:Town) (rights:List Right):Prop:=(∀ c ∈ t.Plan.Caps,loadT t c + tops t.Plan c rights ≤ c.Limit)∧LightP (lastT rights t)
theorem safe_eq {t:Town} {rights:List Right} (h:TownS t) (hr:rights.length ≤ 10) (hrs : ∀ r ∈ rights,RtS r) (hb:t.Built.length ≤ 100) (hs:t.Base.length ≤ 100) :
    ∃ x,vested_Safe t rights = some x∧(x.2 = true ↔ SafeP t rights)∧(x.2 = true → x.1.Kind = 0)∧(x.2 = false → x.1.Kind ≠ 0)∧(¬ (∀ c ∈ t.Plan.Caps,loadT t c + tops t.Plan c rights ≤ c.Limit) → ∃ c ∈ t.Plan.Caps,x = (⟨1,c.Name,0⟩,false)) ∧
      ((∀ c ∈ t.Plan.Caps,loadT t c + tops t.Plan c rights ≤ c.Limit) → ¬ (∀ w ∈ t.Windows,t.Plan.Hours ≤ (sunN (lastT rights t) w:Int)) → ∃ i:Nat,i < t.Windows.length∧x = (⟨2,⟨#[]⟩,(i:Int)⟩,false)):=by
  have hcl:=h.caps
  unfold vested_Safe
  obtain ⟨f,h1,h2,h3⟩:=loop_up (body:=vested_Safe_L0 t rights) (fun i s=>s.1 = ((i:Nat):Int)∧∀ m (hm:m < t.Plan.Caps.length),m < i → loadT t t.Plan.Caps[m] + tops t.Plan t.Plan.Caps[m] rights ≤ t.Plan.Caps[m].Limit) t.Plan.Caps.length
    (fun f => match f with | .ex _ _ => ∀ c ∈ t.Plan.Caps, loadT t c + tops t.Plan c rights ≤ c.Limit | .ret r => ∃ c ∈ t.Plan.Caps, r = (⟨1, c.Name, 0⟩, false) ∧ ¬ loadT t c + tops t.Plan c rights ≤ c.Limit | .go _ => False) (fun i s hi ⟨hs', hI⟩ => by
      have hc:=h.cap _ (List.getElem_mem hi)
      unfold vested_Safe_L0
      rw [hs', if_pos (by simpa using hi), getI_nat hi, Option.bind_some, peak_eq h.plan hc (by omega) (by omega) (by omega) hrs, Option.bind_some]
      have hlb:=loadT_bd (c:=t.Plan.Caps[i]) h.plan hc (by omega) (by omega)
      obtain ⟨f1,a1,a2,a3⟩:=loop_up (body:=vested_Safe_L1 ⟨t.Plan.Caps[i].Name,loadT t t.Plan.Caps[i],rights.map (top t.Plan t.Plan.Caps[i])⟩) (fun j s=>s.2 = ((j:Nat):Int)∧s.1 = loadT t t.Plan.Caps[i] + tops t.Plan t.Plan.Caps[i] (rights.take j)) rights.length
        (fun f => match f with | .ex _ s => s.1 = loadT t t.Plan.Caps[i] + tops t.Plan t.Plan.Caps[i] rights | _ => False) (fun j s hj ⟨hs', hJ⟩ => by
          have hq:=hrs _ (List.getElem_mem hj)
          have ht:=top_bd h.plan hc hq
          have hts:=tops_bd h.plan hc (rights:=rights.take j) fun r hr=>hrs r (List.mem_of_mem_take hr)
          have hlt:(rights.take j).length ≤ 10:=by simp; omega
          unfold vested_Safe_L1
          dsimp only
          rw [hs', if_pos (by simpa using hj), getI_nat (by simpa using hj), Option.bind_some, List.getElem_map, hJ, addI_some (by constructor <;> omega), Option.bind_some, addI_one (by omega)]
          refine .inl ⟨_,rfl,rfl,?_⟩
          rw [List.take_succ_eq_append_getElem hj,tops_snoc]
          dsimp only; omega) (fun s ⟨hs', hJ⟩ => by
          unfold vested_Safe_L1
          dsimp only
          rw [hs', if_neg (by simp)]
          rw [List.take_length] at hJ
          exact ⟨_,rfl,trivial,hJ⟩) (loadT t t.Plan.Caps[i],0) ⟨rfl,by simp [tops]⟩ ((rights.map (top t.Plan t.Plan.Caps[i])).length + 1) (by simp)
      rw [a1,Option.bind_some]
      cases f1 with
      | go _=>exact a2.elim
      | ret _=>exact a3.elim
      | ex _ s1 =>
        have a3:s1.1 = loadT t t.Plan.Caps[i] + tops t.Plan t.Plan.Caps[i] rights:=a3
        dsimp only
        rw [a3]
        by_cases hl:t.Plan.Caps[i].Limit < loadT t t.Plan.Caps[i] + tops t.Plan t.Plan.Caps[i] rights
        · rw [if_pos (by simpa using hl)]
          exact .inr ⟨_,rfl,trivial,_,List.getElem_mem hi,rfl,by omega⟩
        · rw [if_neg (by simpa using hl), addI_one (by omega)]
          refine .inl ⟨_,rfl,rfl,fun m hm hmi=>?_⟩
          by_cases e:m = i
          · subst e; omega
          · exact hI m hm (by omega)) (fun s ⟨hs', hI⟩ => by
      unfold vested_Safe_L0
      rw [hs', if_neg (by simp)]
      refine ⟨_,rfl,trivial,fun c hc=>?_⟩
      obtain ⟨m,hm,rfl⟩:=List.getElem_of_mem hc
      exact hI m hm hm) ((0,(⟨0,(⟨#[]⟩:ByteArray),0⟩:Limit)):Int × Limit) ⟨rfl,fun m _ h=>by omega⟩ (t.Plan.Caps.length + 1) (by omega)
  rw [h1,Option.bind_some]
  cases f with
  | go _=>exact h2.elim
  | ret r =>
    obtain ⟨c,hc,rfl,hn⟩:=h3
    exact ⟨_,rfl,⟨fun h=>by simp at h,fun h=>absurd (h.1 c hc) hn⟩,fun h=>by simp at h,fun _=>by simp,fun _=>⟨c,hc,rfl⟩,fun h=>absurd (h c hc) hn⟩
  | ex _ _ =>
    have h3 : ∀ c ∈ t.Plan.Caps,loadT t c + tops t.Plan c rights ≤ c.Limit:=h3
    dsimp only
    have hl:=lastT_len (rights:=rights) (t:=t) hrs
    have hpl:=lastT_plan rights t
    obtain ⟨x,hx,k1,k2,k3,k4⟩:=light_eq (t:=lastT rights t) (h.of hpl.1 hpl.2) (by omega)
    rw [last_eq hr hrs hb hs,Option.bind_some,hx,Option.bind_some]
    refine ⟨_,rfl,⟨fun h=>⟨h3,k1.1 h⟩,fun h=>k1.2 h.2⟩,k2,fun h=>?_,fun h=>absurd h3 h,fun _ h=>?_⟩
    · have:=k3 h; show x.1.Kind ≠ 0; omega
    · rw [hpl.1, hpl.2] at k4
      exact k4 h
/-- all states -/
def sts:List Right → Town → List Town
  | [],t=>[t]
  | r::rs,t=>(List.range ((lft r).length + 1)).flatMap fun k=>sts rs (fA r.Drawing.Lot ((lft r).take k) t)
def cntR:List Right → Nat
  | []=>1
  | r::rs=>((lft r).length + 1) * cntR rs
theorem sts_len : ∀ (rs:List Right) (t:Town),(sts rs t).length = cntR rs
  | [],t=>rfl
  | r :: rs, t => by
    have : ∀ n,((List.range n).flatMap fun k=>sts rs (fA r.Drawing.Lot ((lft r).take k) t)).length = n * cntR rs:=by
      intro n
      induction n with
      | zero=>simp
      | succ n ih=>rw [List.range_succ,List.flatMap_append,List.length_append,ih,List.flatMap_singleton,sts_len rs,Nat.succ_mul]
    exact this _
theorem cntR_le : ∀ {rs:List Right},(∀ r ∈ rs,RtS r) → cntR rs ≤ 5 ^ rs.length
  | [],_=>by simp [cntR]
  | r :: rs, h => by
    have ih:=cntR_le (rs:=rs) fun q hq=>h q (List.mem_cons_of_mem _ hq)
    have h4:=lft_len (h r List.mem_cons_self)
    rw [cntR,List.length_cons,Nat.pow_succ,Nat.mul_comm (5 ^ rs.length) 5]
    exact Nat.mul_le_mul (by omega) ih
theorem cntR_pos : ∀ rs:List Right,1 ≤ cntR rs
  | []=>Nat.le_refl _
  | r::rs=>Nat.mul_pos (by omega) (cntR_pos rs)
end Go.Proofs.YtegglcdhfnjhcaaGreat

