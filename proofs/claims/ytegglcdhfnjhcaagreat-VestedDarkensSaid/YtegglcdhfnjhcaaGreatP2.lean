/- The plain part of the proof (no program in sight), part 2 -/
import Derived.Test.YtegglcdhfnjhcaaGreatP1
namespace Go.Proofs.YtegglcdhfnjhcaaGreat
open Go.Gb
set_option linter.unusedVariables false
set_option linter.unusedSimpArgs false
set_option linter.unusedSectionVars false
set_option linter.unusedVariables false
set_option linter.unusedSimpArgs false

theorem loop_allQ {body:Int → Option (Flow Int Bool)} {id:Nat} (N:Nat) (Q:Nat → Prop) (hN:N ≤ 1000000000)
    (step : ∀ i:Nat,i < N → (∀ m,m < i → Q m) → (Q i∧body (i:Int) = (addI (i:Int) 1).bind fun x=>some (.go x)) ∨ (¬ Q i∧body (i:Int) = some (.ret false)))
    (done:body (N:Int) = some (.ex id (N:Int))) {fuel:Nat} (hf:N < fuel) :
    ((∀ m,m < N → Q m)∧iterL body fuel 0 = some (.ex id (N:Int))) ∨ ((∃ m,m < N∧¬ Q m)∧iterL body fuel 0 = some (.ret false)):=by
  obtain ⟨f,h1,h2,h3⟩:=loop_up (body:=body) (fun i s=>s = ((i:Nat):Int)∧∀ m,m < i → Q m) N
    (fun f=>((∀ m,m < N → Q m)∧f = .ex id (N:Int)) ∨ ((∃ m,m < N∧¬ Q m)∧f = .ret false)) (fun i s hi ⟨hs,hI⟩=>by
      subst hs
      rcases step i hi hI with ⟨hq,hb⟩ | ⟨hq,hb⟩
      · rw [addI_one (by omega)] at hb
        refine .inl ⟨_,hb,rfl,fun m hm=>?_⟩
        by_cases e:m = i
        · subst e; exact hq
        · exact hI m (by omega)
      · exact .inr ⟨_,hb,trivial,.inr ⟨⟨i,hi,hq⟩,rfl⟩⟩) (fun s ⟨hs,hI⟩=>by
      subst hs
      exact ⟨_,done,trivial,.inl ⟨hI,rfl⟩⟩) 0 ⟨rfl,fun m h=>by omega⟩ fuel hf
  rcases h3 with ⟨h3,rfl⟩ | ⟨h3,rfl⟩
  · exact .inl ⟨h3,h1⟩
  · exact .inr ⟨h3,h1⟩
theorem one_spec {r:Right} : ∃ b,law33_one r = some b∧(b = true → RtS r):=by
  unfold law33_one
  rcases loop_allQ (body:=law33_one_L0 r) (id:=0) (min r.Drawing.Phases.length 5) (fun i=>∀ h:i < r.Drawing.Phases.length,PhS r.Drawing.Phases[i]) (by omega) (fun i hi _=>by
    have hlt:i < r.Drawing.Phases.length:=by omega
    unfold law33_one_L0 law33_phase
    rw [if_pos (by simp; omega),getI_nat hlt,Option.bind_some,Option.bind_some]
    by_cases hp:PhS r.Drawing.Phases[i]
    · have hp1 := hp.1; have hp2 := hp.2
      exact .inl ⟨fun _=>hp,by rw [if_neg (by simp; omega)]⟩
    · refine .inr ⟨fun h => hp (h hlt), ?_⟩
      rw [if_pos]
      unfold PhS at hp
      simp; omega) (by unfold law33_one_L0; rw [if_neg (by simp; omega)]) (fuel:=6) (by omega) with ⟨h1,h2⟩ | ⟨⟨m,hm,h1⟩,h2⟩
  · rw [h2, Option.bind_some]
    refine ⟨_,rfl,fun h=>?_⟩
    simp at h
    refine ⟨by omega,fun ph hph=>?_⟩
    obtain ⟨m,hm,rfl⟩:=List.getElem_of_mem hph
    exact h1 m (by omega) hm
  · rw [h2, Option.bind_some]
    exact ⟨_,rfl,fun h=>by simp at h⟩
structure FewP (t:Town) (rights:List Right) (n:Nat):Prop where
  town:TownS t
  caps:t.Plan.Caps.length ≤ 3
  built:t.Built.length ≤ 8
  base:t.Base.length ≤ 6
  len:rights.length ≤ n
  rts : ∀ r ∈ rights,RtS r
theorem few_spec {t:Town} {rights:List Right} {n:Nat} (hn:n ≤ 3) : ∃ b,law33_few t rights (n:Int) = some b∧(b = true → FewP t rights n):=by
  unfold law33_few
  rcases loop_allQ (body:=law33_few_L0 t) (id:=0) (min t.Plan.Caps.length 4) (fun i=>∀ h:i < t.Plan.Caps.length,t.Plan.Caps[i].Corners.length ≤ 12) (by omega) (fun i hi _=>by
    have hlt:i < t.Plan.Caps.length:=by omega
    unfold law33_few_L0
    rw [if_pos (by simp; omega),getI_nat hlt,Option.bind_some]
    by_cases hp:t.Plan.Caps[i].Corners.length ≤ 12
    · exact .inl ⟨fun _=>hp,by rw [if_neg (by simp; omega)]⟩
    · exact .inr ⟨fun h=>hp (h hlt),by rw [if_pos (by simp; omega)]⟩) (by unfold law33_few_L0; rw [if_neg (by simp; omega)]) (fuel:=5) (by omega) with ⟨a1,a2⟩ | ⟨_,a2⟩
  · rw [a2, Option.bind_some]
    dsimp only
    rcases loop_allQ (body:=law33_few_L1 t) (id:=2) (min t.Plan.Views.length 4) (fun i=>∀ h:i < t.Plan.Views.length,t.Plan.Views[i].Targets.length ≤ 5) (by omega) (fun i hi _=>by
      have hlt:i < t.Plan.Views.length:=by omega
      unfold law33_few_L1
      rw [if_pos (by simp; omega),getI_nat hlt,Option.bind_some]
      by_cases hp:t.Plan.Views[i].Targets.length ≤ 5
      · exact .inl ⟨fun _=>hp,by rw [if_neg (by simp; omega)]⟩
      · exact .inr ⟨fun h=>hp (h hlt),by rw [if_pos (by simp; omega)]⟩) (by unfold law33_few_L1; rw [if_neg (by simp; omega)]) (fuel:=5) (by omega) with ⟨b1,b2⟩ | ⟨_,b2⟩
    · rw [b2, Option.bind_some]
      dsimp only
      rcases loop_allQ (body:=law33_few_L2 t) (id:=4) (min t.Plan.Tables.length 5) (fun i=>∀ h:i < t.Plan.Tables.length,t.Plan.Tables[i].Rows.length ≤ 8) (by omega) (fun i hi _=>by
        have hlt:i < t.Plan.Tables.length:=by omega
        unfold law33_few_L2
        rw [if_pos (by simp; omega),getI_nat hlt,Option.bind_some]
        by_cases hp:t.Plan.Tables[i].Rows.length ≤ 8
        · exact .inl ⟨fun _=>hp,by rw [if_neg (by simp; omega)]⟩
        · exact .inr ⟨fun h=>hp (h hlt),by rw [if_pos (by simp; omega)]⟩) (by unfold law33_few_L2; rw [if_neg (by simp; omega)]) (fuel:=6) (by omega) with ⟨c1,c2⟩ | ⟨_,c2⟩
      · rw [c2, Option.bind_some]
        dsimp only
        rcases loop_allQ (body:=law33_few_L3 rights (n:Int)) (id:=6) (min rights.length (n + 1)) (fun i=>∀ h:i < rights.length,law33_one rights[i] = some true) (by omega) (fun i hi _=>by
          have hlt:i < rights.length:=by omega
          unfold law33_few_L3
          rw [if_pos (by simp; omega),getI_nat hlt,Option.bind_some]
          obtain ⟨b,hb,_⟩:=one_spec (r:=rights[i])
          rw [hb,Option.bind_some]
          cases b with
          | true=>exact .inl ⟨fun _=>hb,rfl⟩
          | false=>exact .inr ⟨fun h=>by have:=h hlt; rw [hb] at this; simp at this,rfl⟩) (by unfold law33_few_L3; rw [if_neg (by simp; omega)]) (fuel:=rights.length + 1) (by omega) with ⟨d1,d2⟩ | ⟨_,d2⟩
        · rw [d2, Option.bind_some]
          refine ⟨_,rfl,fun h=>?_⟩
          simp at h
          obtain ⟨⟨⟨⟨⟨⟨⟨e1,e2⟩,e3⟩,e4⟩,e5⟩,e6⟩,e7⟩,e8⟩:=h
          refine ⟨⟨⟨by omega,fun x hx=>?_⟩,by omega,fun c hc=>?_,by omega,by omega,fun w hw=>?_,by omega⟩,by omega,by omega,by omega,by omega,fun r hr=>?_⟩
          · obtain ⟨m, hm, rfl⟩ := List.getElem_of_mem hx
            exact c1 m (by omega) hm
          · obtain ⟨m, hm, rfl⟩ := List.getElem_of_mem hc
            exact a1 m (by omega) hm
          · obtain ⟨m, hm, rfl⟩ := List.getElem_of_mem hw
            have:=b1 m (by omega) hm
            omega
          · obtain ⟨m, hm, rfl⟩ := List.getElem_of_mem hr
            obtain ⟨b,hb,hbs⟩:=one_spec (r:=rights[m])
            have:=d1 m (by omega) hm
            rw [hb] at this
            exact hbs (Option.some.inj this)
        · rw [d2,Option.bind_some]; exact ⟨_,rfl,fun h=>by simp at h⟩
      · rw [c2,Option.bind_some]; exact ⟨_,rfl,fun h=>by simp at h⟩
    · rw [b2,Option.bind_some]; exact ⟨_,rfl,fun h=>by simp at h⟩
  · rw [a2,Option.bind_some]; exact ⟨_,rfl,fun h=>by simp at h⟩
/-- a town that a volume more makes darker; given the examples -/
theorem law_VestedDarkens_of (hsm:law33_small = some true) (t:Town) (lot:Int) (v:Volume):law33_VestedDarkens t lot v = some true:=by
  unfold law33_VestedDarkens
  obtain ⟨b,hb,hbs⟩:=few_spec (t:=t) (rights:=[]) (n:=0) (by omega)
  rw [hsm,Option.bind_some,show ((0:Nat):Int) = 0 from rfl] at *
  rw [hb,Option.bind_some]
  cases b with
  | false=>rw [if_pos (by simp)]
  | true =>
    have hF:=hbs rfl
    have h8:=hF.built; have h6:=hF.base
    rw [if_neg (by simp)]
    obtain ⟨x,hx,x1,x2,x3,x4⟩:=keeps_eq hF.town (by omega) (by omega)
    have hal:=after_len (t:=t) (lot:=lot) (ph:=⟨[v],[]⟩) ⟨by simp,by simp⟩
    obtain ⟨y,hy,y1,y2,y3,y4⟩:=keeps_eq (t:=after t lot ⟨[v],[]⟩) (hF.town.of rfl rfl) (by omega) (by omega)
    rw [hx,Option.bind_some,after_eq (by simp; omega) (by simp; omega),Option.bind_some,hy,Option.bind_some]
    congr 1
    cases h2:x.2 with
    | true=>simp
    | false =>
      have hk:=x3 h2
      simp only [Bool.true_and,Bool.false_or,Bool.and_eq_true,Bool.or_eq_true,beq_iff_eq,bne_iff_ne,Bool.not_eq_true']
      refine ⟨hk,?_⟩
      by_cases h1:x.1.Kind = 1
      · exact .inl h1
      · right
        cases hy2:y.2 with
        | false=>rfl
        | true =>
          exact absurd (LightP.mono (t:=t) (u:=after t lot ⟨[v],[]⟩) rfl rfl (List.sublist_append_left _ _) (y1.1 hy2).2) (x4 h2 h1)
end Go.Proofs.YtegglcdhfnjhcaaGreat

namespace Go.Proofs.YtegglcdhfnjhcaaGreat
open Go.Gb
set_option linter.unusedVariables false
set_option linter.unusedSimpArgs false
set_option linter.unusedSectionVars false
set_option linter.unusedVariables false
set_option linter.unusedSimpArgs false

theorem sorted_ext : ∀ {l m:List Int},l.Perm m → l.Pairwise (fun a b=>a ≤ b) → m.Pairwise (fun a b=>a ≤ b) → l = m
  | [],m,h,_,_=>h.nil_eq
  | a::l,[],h,_,_=>by simp at h
  | a :: l, b :: m, h, hl, hm => by
    have hab:a = b:=by
      have h1:a ∈ b::m:=h.subset List.mem_cons_self
      have h2:b ∈ a::l:=h.symm.subset List.mem_cons_self
      rcases List.mem_cons.1 h1 with e | h1
      · exact e
      · rcases List.mem_cons.1 h2 with e | h2
        · exact e.symm
        · have := (List.pairwise_cons.1 hm).1 a h1
          have:=(List.pairwise_cons.1 hl).1 b h2
          omega
    subst hab
    rw [sorted_ext ((List.perm_cons a).1 h) (List.pairwise_cons.1 hl).2 (List.pairwise_cons.1 hm).2]
theorem strict_ext : ∀ {l m:List Int},l.Pairwise (fun a b=>a < b) → m.Pairwise (fun a b=>a < b) → (∀ x,x ∈ l ↔ x ∈ m) → l = m
  | [],[],_,_,_=>rfl
  | [],b::m,_,_,h=>by have:=(h b).2 List.mem_cons_self; simp at this
  | a::l,[],_,_,h=>by have:=(h a).1 List.mem_cons_self; simp at this
  | a :: l, b :: m, hl, hm, h => by
    have ha:=(List.pairwise_cons.1 hl).1
    have hb:=(List.pairwise_cons.1 hm).1
    have hab:a = b:=by
      rcases List.mem_cons.1 ((h a).1 List.mem_cons_self) with e | h1
      · exact e
      · rcases List.mem_cons.1 ((h b).2 List.mem_cons_self) with e | h2
        · exact e.symm
        · have:=hb a h1; have:=ha b h2; omega
    subst hab
    rw [strict_ext (List.pairwise_cons.1 hl).2 (List.pairwise_cons.1 hm).2 fun x=>?_]
    constructor
    · intro hx
      rcases List.mem_cons.1 ((h x).1 (List.mem_cons_of_mem _ hx)) with e | h1
      · have:=ha x hx; omega
      · exact h1
    · intro hx
      rcases List.mem_cons.1 ((h x).2 (List.mem_cons_of_mem _ hx)) with e | h1
      · have:=hb x hx; omega
      · exact h1
theorem sort_is {l m:List Int} (h:l.length ≤ 1000) (hp:l.Perm m) (hs:m.Pairwise fun a b=>a ≤ b):sortInts l = some m:=by
  obtain ⟨r, hr, hp', hs'⟩ := sortInts_spec (l := l) (by omega)
  rw [hr,sorted_ext (hp'.trans hp) hs' hs]
theorem compact_is {l m:List Int} (h:l.length ≤ 1000) (hs:l.Pairwise fun a b=>a ≤ b) (hm:m.Pairwise fun a b=>a < b) (he : ∀ x,x ∈ l ↔ x ∈ m):compactInts l = some m:=by
  obtain ⟨r,hr,h1,h2,_⟩:=compactInts_spec (l:=l) (by omega) hs
  rw [hr,strict_ext h1 hm fun x=>(h2 x).trans (he x)]
def sq:List Point:=[⟨0,0⟩,⟨9,0⟩,⟨9,9⟩,⟨0,9⟩]
def sqS:List PolygonSide:=[⟨⟨0,0⟩,⟨9,0⟩⟩,⟨⟨9,0⟩,⟨9,9⟩⟩,⟨⟨9,9⟩,⟨0,9⟩⟩,⟨⟨0,9⟩,⟨0,0⟩⟩]
theorem sq_region:polygon_Region sq = some ([⟨0,0,9,9⟩],0):=by
  have h0:polygon_Right sq = some true:=by rfl
  have h1:iterL (polygon_Region_L0 sq) (sq.length + 1) (([]:List Int),0) = some (.ex 0 ([0,9,9,0],4)):=by rfl
  have h2:sortInts [0,9,9,0] = some [0,0,9,9]:=sort_is (by simp) (by decide) (by decide)
  have h3:compactInts [0,0,9,9] = some [0,9]:=compact_is (by simp) (by decide) (by decide) (fun x=>by simp)
  have h4:polygon_around sq = some sqS:=by rfl
  have h5:sortInts [0,9] = some [0,9]:=sort_is (by simp) (List.Perm.refl _) (by decide)
  have h6:iterL (polygon_Region_L2 [0,9] sqS (([]:List Rect),0)) (sqS.length + 1) (([]:List Int),0) = some (.ex 4 ([0,9],4)):=by rfl
  have h7:iterL (polygon_Region_L3 [0,9] (([]:List Rect),0) [0,9]) 9 (([]:List Rect),0) = some (.ex 6 ([⟨0,0,9,9⟩],2)):=by rfl
  have h8:polygon_Region_L1 [0,9] sqS 1 (([]:List Rect),0) = some (.go ([⟨0,0,9,9⟩],1)):=by
    unfold polygon_Region_L1
    rw [if_pos (by decide),h6,Option.bind_some]
    dsimp only
    rw [h5,Option.bind_some]
    have h7' : iterL (polygon_Region_L3 [0,9] (([]:List Rect),0) [0,9]) (([0,9]:List Int).length + sqS.length + ([]:List Rect).length + ([0,9]:List Int).length + 1) (([]:List Rect),0) = some (.ex 6 ([⟨0,0,9,9⟩],2)):=h7
    rw [h7', Option.bind_some]
    rfl
  have h9:polygon_Region_L1 [0,9] sqS 1 ([⟨0,0,9,9⟩],1) = some (.ex 2 ([⟨0,0,9,9⟩],1)):=by rfl
  unfold polygon_Region
  rw [h0,Option.bind_some,if_neg (by simp),h1,Option.bind_some]
  dsimp only
  rw [h2,Option.bind_some,h3,Option.bind_some,h4,Option.bind_some,show subI (([0,9]:List Int).length:Int) 1 = some 1 from rfl,Option.bind_some]
  have h10:iterL (polygon_Region_L1 [0,9] sqS 1) ((1:Int).toNat + 1) (([]:List Rect),0) = some (.ex 2 ([⟨0,0,9,9⟩],1)):=by
    show iterL _ 2 _ = _
    simp only [iterL,h8,h9,Option.bind_some]
  rw [h10,Option.bind_some]
  rfl
end Go.Proofs.YtegglcdhfnjhcaaGreat

namespace Go.Proofs.YtegglcdhfnjhcaaGreat
open Go.Gb
set_option linter.unusedVariables false
set_option linter.unusedSimpArgs false
set_option linter.unusedSectionVars false
set_option linter.unusedVariables false
set_option linter.unusedSimpArgs false

def cC:Cap:=⟨(⟨#[99]⟩:ByteArray),0,100,sq⟩
def t0:Town:=⟨⟨[],[],[],[],[cC],[],[],0⟩,[],[],[],[],[]⟩
def hmV (x y u:Int):Volume:=⟨⟨⟨x,0,y,1⟩,0,3⟩,0,u,false⟩
def r1:Right:=⟨1,0,⟨0,[⟨[hmV 1 2 60],[]⟩,⟨[],[⟨(⟨#[99]⟩:ByteArray),30⟩]⟩]⟩,0,0,false⟩
def r2 (u:Int):Right:=⟨2,0,⟨1,[⟨[hmV 3 4 u],[]⟩]⟩,0,0,false⟩
theorem example_eq (u:Int):law33_example u = some (t0,[r1,r2 u]):=rfl
theorem t0_S:TownS t0:=⟨⟨by simp [t0],fun t h=>by simp [t0] at h⟩,by simp [t0],fun c h=>by
  have:c = cC:=by simpa [t0] using h
  subst this; simp [cC,sq],by simp [t0],by simp [t0],fun w h=>by simp [t0] at h,by simp [t0]⟩
theorem rt_S (u:Int) : ∀ r ∈ [r1,r2 u],RtS r:=by
  intro r h
  simp only [List.mem_cons,List.not_mem_nil,or_false] at h
  rcases h with rfl | rfl
  · refine ⟨by simp [r1], fun ph hp => ?_⟩
    simp only [r1,List.mem_cons,List.not_mem_nil,or_false] at hp
    rcases hp with rfl | rfl <;> exact ⟨by simp,by simp⟩
  · refine ⟨by simp [r2], fun ph hp => ?_⟩
    simp only [r2,List.mem_cons,List.not_mem_nil,or_false] at hp
    subst hp; exact ⟨by simp,by simp⟩
theorem ld_of {v:Volume} {b:Bool} (h:drawing_RightVolume v = some true) (hc:slices_ContainsFunc_Rect [⟨0,0,9,9⟩] (fun y0=>measure_Load_1 y0 v) = some true):ld t0.Plan cC v = v.Units:=by
  unfold ld measure_Load
  rw [h,Option.bind_some,if_neg (by simp),show cC.Corners = sq from rfl,sq_region,Option.bind_some]
  dsimp only
  rw [hc]
  rfl
theorem ld1:ld t0.Plan cC (hmV 1 2 60) = 60:=ld_of (b:=true) rfl rfl
theorem ld3a:ld t0.Plan cC (hmV 3 4 40) = 40:=ld_of (b:=true) rfl rfl
theorem ld3b:ld t0.Plan cC (hmV 3 4 41) = 41:=ld_of (b:=true) rfl rfl
theorem top1:top t0.Plan cC r1 = 60:=by
  have e1:phL t0.Plan cC ⟨[hmV 1 2 60],[]⟩ = 60:=by simp [phL,nmd,lds,ld1]
  have e2:phL t0.Plan cC ⟨[],[⟨(⟨#[99]⟩:ByteArray),30⟩]⟩ = -30:=by simp [phL,nmd,lds,cC,lmd]; decide
  have:(lft r1).map (phL t0.Plan cC) = [60,-30]:=by
    rw [show lft r1 = [⟨[hmV 1 2 60],[]⟩,⟨[],[⟨(⟨#[99]⟩:ByteArray),30⟩]⟩] from rfl]
    simp [e1,e2]
  unfold top
  rw [this]; rfl
theorem top2 {u:Int} (h:ld t0.Plan cC (hmV 3 4 u) = u) (h0:0 ≤ u):top t0.Plan cC (r2 u) = u:=by
  have e1:phL t0.Plan cC ⟨[hmV 3 4 u],[]⟩ = u:=by simp [phL,nmd,lds,h]
  have:(lft (r2 u)).map (phL t0.Plan cC) = [u]:=by
    rw [show lft (r2 u) = [⟨[hmV 3 4 u],[]⟩] from rfl]
    simp [e1]
  unfold top
  rw [this]
  show max 0 (0 + u) = u
  omega
theorem t0_light (u:Int):LightP (lastT [r1,r2 u] t0):=by
  refine ⟨fun w h=>by simp [(lastT_plan _ _).2,t0] at h,fun w h=>by simp [(lastT_plan _ _).1,t0] at h,?_⟩
  show ([hmV 1 2 60,hmV 3 4 u].Pairwise fun a b=>ovl a b = false)
  simp only [List.pairwise_cons,List.mem_cons,List.not_mem_nil,or_false,forall_eq,List.Pairwise.nil,and_true,false_implies,implies_true]
  rfl
theorem safe40 : ∃ x,vested_Safe t0 [r1,r2 40] = some x∧x.2 = true:=by
  obtain ⟨x,hx,h1,_⟩:=safe_eq (rights:=[r1,r2 40]) t0_S (by simp) (rt_S 40) (by simp [t0]) (by simp [t0])
  refine ⟨x,hx,h1.2 ⟨fun c hc=>?_,t0_light 40⟩⟩
  have:c = cC:=by simpa [t0] using hc
  subst this
  have e:tops t0.Plan cC [r1,r2 40] = 100:=by simp [tops,top1,top2 ld3a (by omega)]
  rw [e]
  show 0 + 0 + 100 ≤ _
  decide
theorem safe41:vested_Safe t0 [r1,r2 41] = some (⟨1,(⟨#[99]⟩:ByteArray),0⟩,false):=by
  obtain ⟨x,hx,_,_,_,h4,_⟩:=safe_eq (rights:=[r1,r2 41]) t0_S (by simp) (rt_S 41) (by simp [t0]) (by simp [t0])
  obtain ⟨c,hc,rfl⟩:=h4 fun h=>by
    have:=h cC (by simp [t0])
    have e:tops t0.Plan cC [r1,r2 41] = 101:=by simp [tops,top1,top2 ld3b (by omega)]
    rw [e] at this
    have e0:loadT t0 cC = 0:=rfl
    rw [e0] at this
    exact absurd this (by decide)
  have:c = cC:=by simpa [t0] using hc
  subst this
  exact hx
end Go.Proofs.YtegglcdhfnjhcaaGreat

namespace Go.Proofs.YtegglcdhfnjhcaaGreat
open Go.Gb
set_option linter.unusedVariables false
set_option linter.unusedSimpArgs false
set_option linter.unusedSectionVars false
set_option linter.unusedVariables false
set_option linter.unusedSimpArgs false

def v2:Volume:=⟨⟨⟨2,0,3,1⟩,0,9⟩,0,0,false⟩
theorem v2_SS:SS (sld v2):=ssB_spec (by decide)
theorem v2_ray:rayV (sld v2) ⟨0,0,0⟩ ⟨1,0,1⟩ = true:=by
  obtain ⟨r,hr,hrs⟩:=Ray_eq (p:=⟨0,0,0⟩) (d:=⟨1,0,1⟩) (sld_thin v2)
  unfold rayV
  rw [hr]
  refine hrs.2 ⟨by decide,by decide,v2_SS,2,1,by omega,by omega,?_⟩
  show scells (sld v2) _ _ _
  decide
end Go.Proofs.YtegglcdhfnjhcaaGreat

namespace Go.Proofs.YtegglcdhfnjhcaaGreat
open Go.Gb
set_option linter.unusedVariables false
set_option linter.unusedSimpArgs false
set_option linter.unusedSectionVars false
set_option linter.unusedVariables false
set_option linter.unusedSimpArgs false

def wT:Town:=⟨⟨[],[],[],[],[],[],[⟨1,0,1⟩],1⟩,[],[],[⟨7,⟨0,0,0⟩⟩],[],[]⟩
def rW:Right:=⟨3,0,⟨1,[⟨[hmV 9 10 0],[]⟩,⟨[v2],[]⟩]⟩,0,0,false⟩
theorem wT_S:TownS wT:=⟨⟨by simp [wT],fun t h=>by simp [wT] at h⟩,by simp [wT],fun c h=>by simp [wT] at h,by simp [wT],by simp [wT],fun w h=>by simp [wT] at h,by simp [wT]⟩
theorem rW_S : ∀ r ∈ [rW],RtS r:=by
  intro r h
  rw [List.mem_singleton.1 h]
  refine ⟨by simp [rW],fun ph hp=>?_⟩
  simp only [rW,List.mem_cons,List.not_mem_nil,or_false] at hp
  rcases hp with rfl | rfl <;> exact ⟨by simp,by simp⟩
theorem safeW:vested_Safe wT [rW] = some (⟨2,(⟨#[]⟩:ByteArray),0⟩,false):=by
  obtain ⟨x,hx,_,_,_,_,h5⟩:=safe_eq (rights:=[rW]) wT_S (by simp) rW_S (by simp [wT]) (by simp [wT])
  obtain ⟨i,hi,rfl⟩:=h5 (fun c hc=>by simp [wT] at hc) fun h=>by
    have:=h ⟨7,⟨0,0,0⟩⟩ (by simp [wT])
    have e:solL (lastT [rW] wT).Built (fun lot=>lot == (7:Int)) = [sld (hmV 9 10 0),sld v2]:=rfl
    have e0:sunN (lastT [rW] wT) ⟨7,⟨0,0,0⟩⟩ = 0:=by
      unfold sunN freeN
      dsimp only
      rw [e,(lastT_plan _ _).1]
      show List.countP _ [(⟨1,0,1⟩:Point3)] = 0
      simp [v2_ray]
    rw [e0] at this
    exact absurd this (by decide)
  have:i = 0:=by simp [wT] at hi; exact hi
  subst this
  exact hx
theorem keepsW : ∃ x,vested_Keeps wT = some x∧x.2 = true:=by
  obtain ⟨x,hx,h1,_⟩:=keeps_eq wT_S (by simp [wT]) (by simp [wT])
  refine ⟨x,hx,h1.2 ⟨fun c hc=>by simp [wT] at hc,fun w hw=>?_,fun w hw=>by simp [wT] at hw,List.Pairwise.nil⟩⟩
  have:w = ⟨7,⟨0,0,0⟩⟩:=by simpa [wT] using hw
  subst this
  show (1:Int) ≤ ((sunN wT ⟨7,⟨0,0,0⟩⟩:Nat):Int)
  have:sunN wT ⟨7,⟨0,0,0⟩⟩ = 1:=rfl
  rw [this]; decide
theorem grant0:vested_Grant t0 [r1] (r2 40) = some 0:=by
  obtain ⟨x,hx,h⟩:=safe40
  unfold vested_Grant
  have h1:option_Living (r2 40) = some true:=rfl
  have h2:slices_ContainsFunc_Right [r1] (fun y0=>vested_Grant_1 y0 (r2 40)) = some false:=rfl
  have h3:slices_Clone_Right [r1] = some [r1]:=rfl
  rw [h1,Option.bind_some,if_neg (by simp),h2,Option.bind_some,if_neg (by simp),h3,Option.bind_some,appI_some (by simp),Option.bind_some]
  show (vested_Safe t0 [r1,r2 40]).bind _ = _
  rw [hx,Option.bind_some,h]; rfl
theorem small33_true:law33_small = some true:=by
  unfold law33_small
  rw [example_eq,Option.bind_some,example_eq,Option.bind_some]
  dsimp only
  obtain ⟨x,hx,hx2⟩:=safe40
  rw [hx,Option.bind_some,safe41,Option.bind_some,show law33_homes 9 0 = some (hmV 9 10 0) from rfl,Option.bind_some]
  have hw:vested_Safe (⟨(⟨[],[],[],[],[],[],[(⟨1,0,1⟩:Point3)],1⟩:Plan),[],[],[(⟨7,(⟨0,0,0⟩:Point3)⟩:Window)],[],[]⟩:Town) ([(⟨3,0,(⟨1,[(⟨[hmV 9 10 0],[]⟩:Phase),(⟨[(⟨(⟨(⟨2,0,3,1⟩:Rect),0,9⟩:Box),0,0,false⟩:Volume)],[]⟩:Phase)]⟩:Drawing),0,0,false⟩:Right)]) = some (⟨2,(⟨#[]⟩:ByteArray),0⟩,false):=safeW
  rw [hw,Option.bind_some]
  obtain ⟨y,hy,hy2⟩:=keepsW
  have hk:vested_Keeps (⟨(⟨[],[],[],[],[],[],[(⟨1,0,1⟩:Point3)],1⟩:Plan),[],[],[(⟨7,(⟨0,0,0⟩:Point3)⟩:Window)],[],[]⟩:Town) = some y:=hy
  rw [hk,Option.bind_some,states_eq (by simp) (rt_S 40) (by simp [t0]) (by simp [t0]),Option.bind_some]
  dsimp only
  rw [hx2,hy2,sts_len]
  have hc:cntR [r1,r2 40] = 6:=rfl
  rw [hc,if_pos (by simp)]
  have h1:sliceI [r1,r2 40] 0 1 = some [r1]:=rfl
  have h2:subI (([r1,r2 40]:List Right).length:Int) 1 = some 1:=rfl
  have h3:getI [r1,r2 40] 1 = some (r2 40):=rfl
  rw [h1,Option.bind_some,h2,Option.bind_some,h3,Option.bind_some,grant0]
  rfl
theorem law_VestedDarkens (t:Town) (lot:Int) (v:Volume):law33_VestedDarkens t lot v = some true:=law_VestedDarkens_of small33_true t lot v
end Go.Proofs.YtegglcdhfnjhcaaGreat

