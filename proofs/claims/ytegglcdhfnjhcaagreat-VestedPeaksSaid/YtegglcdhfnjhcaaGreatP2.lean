/- The plain part of the proof (no program in sight), part 2 -/
import Derived.Test.YtegglcdhfnjhcaaGreatP1
namespace Go.Proofs.YtegglcdhfnjhcaaGreat
open Go.Gb
set_option linter.unusedVariables false
set_option linter.unusedSimpArgs false
set_option linter.unusedSectionVars false
set_option linter.unusedVariables false
set_option linter.unusedSimpArgs false

theorem loop_allQ {body:Int → Option (Flow Int Bool)} {id:Nat} (N:Nat) (Q:Nat → Prop) (hN:N ≤ 1000000000)
    (step : ∀ i:Nat,i < N → (∀ m,m < i → Q m) → (Q i∧body (i:Int) = (addI (i:Int) 1).bind fun x=>some (.go x)) ∨ (¬ Q i∧body (i:Int) = some (.ret false)))
    (done:body (N:Int) = some (.ex id (N:Int))) {fuel:Nat} (hf:N < fuel) :
    ((∀ m,m < N → Q m)∧iterL body fuel 0 = some (.ex id (N:Int))) ∨ ((∃ m,m < N∧¬ Q m)∧iterL body fuel 0 = some (.ret false)):=by
  obtain ⟨f,h1,h2,h3⟩:=loop_up (body:=body) (fun i s=>s = ((i:Nat):Int)∧∀ m,m < i → Q m) N
    (fun f=>((∀ m,m < N → Q m)∧f = .ex id (N:Int)) ∨ ((∃ m,m < N∧¬ Q m)∧f = .ret false)) (fun i s hi ⟨hs,hI⟩=>by
      subst hs
      rcases step i hi hI with ⟨hq,hb⟩ | ⟨hq,hb⟩
      · rw [addI_one (by omega)] at hb
        refine .inl ⟨_,hb,rfl,fun m hm=>?_⟩
        by_cases e:m = i
        · subst e; exact hq
        · exact hI m (by omega)
      · exact .inr ⟨_,hb,trivial,.inr ⟨⟨i,hi,hq⟩,rfl⟩⟩) (fun s ⟨hs,hI⟩=>by
      subst hs
      exact ⟨_,done,trivial,.inl ⟨hI,rfl⟩⟩) 0 ⟨rfl,fun m h=>by omega⟩ fuel hf
  rcases h3 with ⟨h3,rfl⟩ | ⟨h3,rfl⟩
  · exact .inl ⟨h3,h1⟩
  · exact .inr ⟨h3,h1⟩
theorem one_spec {r:Right} : ∃ b,law33_one r = some b∧(b = true → RtS r):=by
  unfold law33_one
  rcases loop_allQ (body:=law33_one_L0 r) (id:=0) (min r.Drawing.Phases.length 5) (fun i=>∀ h:i < r.Drawing.Phases.length,PhS r.Drawing.Phases[i]) (by omega) (fun i hi _=>by
    have hlt:i < r.Drawing.Phases.length:=by omega
    unfold law33_one_L0 law33_phase
    rw [if_pos (by simp; omega),getI_nat hlt,Option.bind_some,Option.bind_some]
    by_cases hp:PhS r.Drawing.Phases[i]
    · have hp1 := hp.1; have hp2 := hp.2
      exact .inl ⟨fun _=>hp,by rw [if_neg (by simp; omega)]⟩
    · refine .inr ⟨fun h => hp (h hlt), ?_⟩
      rw [if_pos]
      unfold PhS at hp
      simp; omega) (by unfold law33_one_L0; rw [if_neg (by simp; omega)]) (fuel:=6) (by omega) with ⟨h1,h2⟩ | ⟨⟨m,hm,h1⟩,h2⟩
  · rw [h2, Option.bind_some]
    refine ⟨_,rfl,fun h=>?_⟩
    simp at h
    refine ⟨by omega,fun ph hph=>?_⟩
    obtain ⟨m,hm,rfl⟩:=List.getElem_of_mem hph
    exact h1 m (by omega) hm
  · rw [h2, Option.bind_some]
    exact ⟨_,rfl,fun h=>by simp at h⟩
structure FewP (t:Town) (rights:List Right) (n:Nat):Prop where
  town:TownS t
  caps:t.Plan.Caps.length ≤ 3
  built:t.Built.length ≤ 8
  base:t.Base.length ≤ 6
  len:rights.length ≤ n
  rts : ∀ r ∈ rights,RtS r
theorem few_spec {t:Town} {rights:List Right} {n:Nat} (hn:n ≤ 3) : ∃ b,law33_few t rights (n:Int) = some b∧(b = true → FewP t rights n):=by
  unfold law33_few
  rcases loop_allQ (body:=law33_few_L0 t) (id:=0) (min t.Plan.Caps.length 4) (fun i=>∀ h:i < t.Plan.Caps.length,t.Plan.Caps[i].Corners.length ≤ 12) (by omega) (fun i hi _=>by
    have hlt:i < t.Plan.Caps.length:=by omega
    unfold law33_few_L0
    rw [if_pos (by simp; omega),getI_nat hlt,Option.bind_some]
    by_cases hp:t.Plan.Caps[i].Corners.length ≤ 12
    · exact .inl ⟨fun _=>hp,by rw [if_neg (by simp; omega)]⟩
    · exact .inr ⟨fun h=>hp (h hlt),by rw [if_pos (by simp; omega)]⟩) (by unfold law33_few_L0; rw [if_neg (by simp; omega)]) (fuel:=5) (by omega) with ⟨a1,a2⟩ | ⟨_,a2⟩
  · rw [a2, Option.bind_some]
    dsimp only
    rcases loop_allQ (body:=law33_few_L1 t) (id:=2) (min t.Plan.Views.length 4) (fun i=>∀ h:i < t.Plan.Views.length,t.Plan.Views[i].Targets.length ≤ 5) (by omega) (fun i hi _=>by
      have hlt:i < t.Plan.Views.length:=by omega
      unfold law33_few_L1
      rw [if_pos (by simp; omega),getI_nat hlt,Option.bind_some]
      by_cases hp:t.Plan.Views[i].Targets.length ≤ 5
      · exact .inl ⟨fun _=>hp,by rw [if_neg (by simp; omega)]⟩
      · exact .inr ⟨fun h=>hp (h hlt),by rw [if_pos (by simp; omega)]⟩) (by unfold law33_few_L1; rw [if_neg (by simp; omega)]) (fuel:=5) (by omega) with ⟨b1,b2⟩ | ⟨_,b2⟩
    · rw [b2, Option.bind_some]
      dsimp only
      rcases loop_allQ (body:=law33_few_L2 t) (id:=4) (min t.Plan.Tables.length 5) (fun i=>∀ h:i < t.Plan.Tables.length,t.Plan.Tables[i].Rows.length ≤ 8) (by omega) (fun i hi _=>by
        have hlt:i < t.Plan.Tables.length:=by omega
        unfold law33_few_L2
        rw [if_pos (by simp; omega),getI_nat hlt,Option.bind_some]
        by_cases hp:t.Plan.Tables[i].Rows.length ≤ 8
        · exact .inl ⟨fun _=>hp,by rw [if_neg (by simp; omega)]⟩
        · exact .inr ⟨fun h=>hp (h hlt),by rw [if_pos (by simp; omega)]⟩) (by unfold law33_few_L2; rw [if_neg (by simp; omega)]) (fuel:=6) (by omega) with ⟨c1,c2⟩ | ⟨_,c2⟩
      · rw [c2, Option.bind_some]
        dsimp only
        rcases loop_allQ (body:=law33_few_L3 rights (n:Int)) (id:=6) (min rights.length (n + 1)) (fun i=>∀ h:i < rights.length,law33_one rights[i] = some true) (by omega) (fun i hi _=>by
          have hlt:i < rights.length:=by omega
          unfold law33_few_L3
          rw [if_pos (by simp; omega),getI_nat hlt,Option.bind_some]
          obtain ⟨b,hb,_⟩:=one_spec (r:=rights[i])
          rw [hb,Option.bind_some]
          cases b with
          | true=>exact .inl ⟨fun _=>hb,rfl⟩
          | false=>exact .inr ⟨fun h=>by have:=h hlt; rw [hb] at this; simp at this,rfl⟩) (by unfold law33_few_L3; rw [if_neg (by simp; omega)]) (fuel:=rights.length + 1) (by omega) with ⟨d1,d2⟩ | ⟨_,d2⟩
        · rw [d2, Option.bind_some]
          refine ⟨_,rfl,fun h=>?_⟩
          simp at h
          obtain ⟨⟨⟨⟨⟨⟨⟨e1,e2⟩,e3⟩,e4⟩,e5⟩,e6⟩,e7⟩,e8⟩:=h
          refine ⟨⟨⟨by omega,fun x hx=>?_⟩,by omega,fun c hc=>?_,by omega,by omega,fun w hw=>?_,by omega⟩,by omega,by omega,by omega,by omega,fun r hr=>?_⟩
          · obtain ⟨m, hm, rfl⟩ := List.getElem_of_mem hx
            exact c1 m (by omega) hm
          · obtain ⟨m, hm, rfl⟩ := List.getElem_of_mem hc
            exact a1 m (by omega) hm
          · obtain ⟨m, hm, rfl⟩ := List.getElem_of_mem hw
            have:=b1 m (by omega) hm
            omega
          · obtain ⟨m, hm, rfl⟩ := List.getElem_of_mem hr
            obtain ⟨b,hb,hbs⟩:=one_spec (r:=rights[m])
            have:=d1 m (by omega) hm
            rw [hb] at this
            exact hbs (Option.some.inj this)
        · rw [d2,Option.bind_some]; exact ⟨_,rfl,fun h=>by simp at h⟩
      · rw [c2,Option.bind_some]; exact ⟨_,rfl,fun h=>by simp at h⟩
    · rw [b2,Option.bind_some]; exact ⟨_,rfl,fun h=>by simp at h⟩
  · rw [a2,Option.bind_some]; exact ⟨_,rfl,fun h=>by simp at h⟩
end Go.Proofs.YtegglcdhfnjhcaaGreat

namespace Go.Proofs.YtegglcdhfnjhcaaGreat
open Go.Gb
set_option linter.unusedVariables false
set_option linter.unusedSimpArgs false
set_option linter.unusedSectionVars false
set_option linter.unusedVariables false
set_option linter.unusedSimpArgs false

theorem sorted_ext : ∀ {l m:List Int},l.Perm m → l.Pairwise (fun a b=>a ≤ b) → m.Pairwise (fun a b=>a ≤ b) → l = m
  | [],m,h,_,_=>h.nil_eq
  | a::l,[],h,_,_=>by simp at h
  | a :: l, b :: m, h, hl, hm => by
    have hab:a = b:=by
      have h1:a ∈ b::m:=h.subset List.mem_cons_self
      have h2:b ∈ a::l:=h.symm.subset List.mem_cons_self
      rcases List.mem_cons.1 h1 with e | h1
      · exact e
      · rcases List.mem_cons.1 h2 with e | h2
        · exact e.symm
        · have := (List.pairwise_cons.1 hm).1 a h1
          have:=(List.pairwise_cons.1 hl).1 b h2
          omega
    subst hab
    rw [sorted_ext ((List.perm_cons a).1 h) (List.pairwise_cons.1 hl).2 (List.pairwise_cons.1 hm).2]
theorem strict_ext : ∀ {l m:List Int},l.Pairwise (fun a b=>a < b) → m.Pairwise (fun a b=>a < b) → (∀ x,x ∈ l ↔ x ∈ m) → l = m
  | [],[],_,_,_=>rfl
  | [],b::m,_,_,h=>by have:=(h b).2 List.mem_cons_self; simp at this
  | a::l,[],_,_,h=>by have:=(h a).1 List.mem_cons_self; simp at this
  | a :: l, b :: m, hl, hm, h => by
    have ha:=(List.pairwise_cons.1 hl).1
    have hb:=(List.pairwise_cons.1 hm).1
    have hab:a = b:=by
      rcases List.mem_cons.1 ((h a).1 List.mem_cons_self) with e | h1
      · exact e
      · rcases List.mem_cons.1 ((h b).2 List.mem_cons_self) with e | h2
        · exact e.symm
        · have:=hb a h1; have:=ha b h2; omega
    subst hab
    rw [strict_ext (List.pairwise_cons.1 hl).2 (List.pairwise_cons.1 hm).2 fun x=>?_]
    constructor
    · intro hx
      rcases List.mem_cons.1 ((h x).1 (List.mem_cons_of_mem _ hx)) with e | h1
      · have:=ha x hx; omega
      · exact h1
    · intro hx
      rcases List.mem_cons.1 ((h x).2 (List.mem_cons_of_mem _ hx)) with e | h1
      · have:=hb x hx; omega
      · exact h1
theorem sort_is {l m:List Int} (h:l.length ≤ 1000) (hp:l.Perm m) (hs:m.Pairwise fun a b=>a ≤ b):sortInts l = some m:=by
  obtain ⟨r, hr, hp', hs'⟩ := sortInts_spec (l := l) (by omega)
  rw [hr,sorted_ext (hp'.trans hp) hs' hs]
theorem compact_is {l m:List Int} (h:l.length ≤ 1000) (hs:l.Pairwise fun a b=>a ≤ b) (hm:m.Pairwise fun a b=>a < b) (he : ∀ x,x ∈ l ↔ x ∈ m):compactInts l = some m:=by
  obtain ⟨r,hr,h1,h2,_⟩:=compactInts_spec (l:=l) (by omega) hs
  rw [hr,strict_ext h1 hm fun x=>(h2 x).trans (he x)]
def sq:List Point:=[⟨0,0⟩,⟨9,0⟩,⟨9,9⟩,⟨0,9⟩]
def sqS:List PolygonSide:=[⟨⟨0,0⟩,⟨9,0⟩⟩,⟨⟨9,0⟩,⟨9,9⟩⟩,⟨⟨9,9⟩,⟨0,9⟩⟩,⟨⟨0,9⟩,⟨0,0⟩⟩]
theorem sq_region:polygon_Region sq = some ([⟨0,0,9,9⟩],0):=by
  have h0:polygon_Right sq = some true:=by rfl
  have h1:iterL (polygon_Region_L0 sq) (sq.length + 1) (([]:List Int),0) = some (.ex 0 ([0,9,9,0],4)):=by rfl
  have h2:sortInts [0,9,9,0] = some [0,0,9,9]:=sort_is (by simp) (by decide) (by decide)
  have h3:compactInts [0,0,9,9] = some [0,9]:=compact_is (by simp) (by decide) (by decide) (fun x=>by simp)
  have h4:polygon_around sq = some sqS:=by rfl
  have h5:sortInts [0,9] = some [0,9]:=sort_is (by simp) (List.Perm.refl _) (by decide)
  have h6:iterL (polygon_Region_L2 [0,9] sqS (([]:List Rect),0)) (sqS.length + 1) (([]:List Int),0) = some (.ex 4 ([0,9],4)):=by rfl
  have h7:iterL (polygon_Region_L3 [0,9] (([]:List Rect),0) [0,9]) 9 (([]:List Rect),0) = some (.ex 6 ([⟨0,0,9,9⟩],2)):=by rfl
  have h8:polygon_Region_L1 [0,9] sqS 1 (([]:List Rect),0) = some (.go ([⟨0,0,9,9⟩],1)):=by
    unfold polygon_Region_L1
    rw [if_pos (by decide),h6,Option.bind_some]
    dsimp only
    rw [h5,Option.bind_some]
    have h7' : iterL (polygon_Region_L3 [0,9] (([]:List Rect),0) [0,9]) (([0,9]:List Int).length + sqS.length + ([]:List Rect).length + ([0,9]:List Int).length + 1) (([]:List Rect),0) = some (.ex 6 ([⟨0,0,9,9⟩],2)):=h7
    rw [h7', Option.bind_some]
    rfl
  have h9:polygon_Region_L1 [0,9] sqS 1 ([⟨0,0,9,9⟩],1) = some (.ex 2 ([⟨0,0,9,9⟩],1)):=by rfl
  unfold polygon_Region
  rw [h0,Option.bind_some,if_neg (by simp),h1,Option.bind_some]
  dsimp only
  rw [h2,Option.bind_some,h3,Option.bind_some,h4,Option.bind_some,show subI (([0,9]:List Int).length:Int) 1 = some 1 from rfl,Option.bind_some]
  have h10:iterL (polygon_Region_L1 [0,9] sqS 1) ((1:Int).toNat + 1) (([]:List Rect),0) = some (.ex 2 ([⟨0,0,9,9⟩],1)):=by
    show iterL _ 2 _ = _
    simp only [iterL,h8,h9,Option.bind_some]
  rw [h10,Option.bind_some]
  rfl
end Go.Proofs.YtegglcdhfnjhcaaGreat

namespace Go.Proofs.YtegglcdhfnjhcaaGreat
open Go.Gb
set_option linter.unusedVariables false
set_option linter.unusedSimpArgs false
set_option linter.unusedSectionVars false
set_option linter.unusedVariables false
set_option linter.unusedSimpArgs false

def cC:Cap:=⟨(⟨#[99]⟩:ByteArray),0,100,sq⟩
def t0:Town:=⟨⟨[],[],[],[],[cC],[],[],0⟩,[],[],[],[],[]⟩
def hmV (x y u:Int):Volume:=⟨⟨⟨x,0,y,1⟩,0,3⟩,0,u,false⟩
def r1:Right:=⟨1,0,⟨0,[⟨[hmV 1 2 60],[]⟩,⟨[],[⟨(⟨#[99]⟩:ByteArray),30⟩]⟩]⟩,0,0,false⟩
def r2 (u:Int):Right:=⟨2,0,⟨1,[⟨[hmV 3 4 u],[]⟩]⟩,0,0,false⟩
theorem example_eq (u:Int):law33_example u = some (t0,[r1,r2 u]):=rfl
theorem t0_S:TownS t0:=⟨⟨by simp [t0],fun t h=>by simp [t0] at h⟩,by simp [t0],fun c h=>by
  have:c = cC:=by simpa [t0] using h
  subst this; simp [cC,sq],by simp [t0],by simp [t0],fun w h=>by simp [t0] at h,by simp [t0]⟩
theorem rt_S (u:Int) : ∀ r ∈ [r1,r2 u],RtS r:=by
  intro r h
  simp only [List.mem_cons,List.not_mem_nil,or_false] at h
  rcases h with rfl | rfl
  · refine ⟨by simp [r1], fun ph hp => ?_⟩
    simp only [r1,List.mem_cons,List.not_mem_nil,or_false] at hp
    rcases hp with rfl | rfl <;> exact ⟨by simp,by simp⟩
  · refine ⟨by simp [r2], fun ph hp => ?_⟩
    simp only [r2,List.mem_cons,List.not_mem_nil,or_false] at hp
    subst hp; exact ⟨by simp,by simp⟩
theorem ld_of {v:Volume} {b:Bool} (h:drawing_RightVolume v = some true) (hc:slices_ContainsFunc_Rect [⟨0,0,9,9⟩] (fun y0=>measure_Load_1 y0 v) = some true):ld t0.Plan cC v = v.Units:=by
  unfold ld measure_Load
  rw [h,Option.bind_some,if_neg (by simp),show cC.Corners = sq from rfl,sq_region,Option.bind_some]
  dsimp only
  rw [hc]
  rfl
theorem ld1:ld t0.Plan cC (hmV 1 2 60) = 60:=ld_of (b:=true) rfl rfl
theorem ld3a:ld t0.Plan cC (hmV 3 4 40) = 40:=ld_of (b:=true) rfl rfl
theorem ld3b:ld t0.Plan cC (hmV 3 4 41) = 41:=ld_of (b:=true) rfl rfl
theorem top1:top t0.Plan cC r1 = 60:=by
  have e1:phL t0.Plan cC ⟨[hmV 1 2 60],[]⟩ = 60:=by simp [phL,nmd,lds,ld1]
  have e2:phL t0.Plan cC ⟨[],[⟨(⟨#[99]⟩:ByteArray),30⟩]⟩ = -30:=by simp [phL,nmd,lds,cC,lmd]; decide
  have:(lft r1).map (phL t0.Plan cC) = [60,-30]:=by
    rw [show lft r1 = [⟨[hmV 1 2 60],[]⟩,⟨[],[⟨(⟨#[99]⟩:ByteArray),30⟩]⟩] from rfl]
    simp [e1,e2]
  unfold top
  rw [this]; rfl
theorem top2 {u:Int} (h:ld t0.Plan cC (hmV 3 4 u) = u) (h0:0 ≤ u):top t0.Plan cC (r2 u) = u:=by
  have e1:phL t0.Plan cC ⟨[hmV 3 4 u],[]⟩ = u:=by simp [phL,nmd,lds,h]
  have:(lft (r2 u)).map (phL t0.Plan cC) = [u]:=by
    rw [show lft (r2 u) = [⟨[hmV 3 4 u],[]⟩] from rfl]
    simp [e1]
  unfold top
  rw [this]
  show max 0 (0 + u) = u
  omega
theorem t0_light (u:Int):LightP (lastT [r1,r2 u] t0):=by
  refine ⟨fun w h=>by simp [(lastT_plan _ _).2,t0] at h,fun w h=>by simp [(lastT_plan _ _).1,t0] at h,?_⟩
  show ([hmV 1 2 60,hmV 3 4 u].Pairwise fun a b=>ovl a b = false)
  simp only [List.pairwise_cons,List.mem_cons,List.not_mem_nil,or_false,forall_eq,List.Pairwise.nil,and_true,false_implies,implies_true]
  rfl
theorem safe40 : ∃ x,vested_Safe t0 [r1,r2 40] = some x∧x.2 = true:=by
  obtain ⟨x,hx,h1,_⟩:=safe_eq (rights:=[r1,r2 40]) t0_S (by simp) (rt_S 40) (by simp [t0]) (by simp [t0])
  refine ⟨x,hx,h1.2 ⟨fun c hc=>?_,t0_light 40⟩⟩
  have:c = cC:=by simpa [t0] using hc
  subst this
  have e:tops t0.Plan cC [r1,r2 40] = 100:=by simp [tops,top1,top2 ld3a (by omega)]
  rw [e]
  show 0 + 0 + 100 ≤ _
  decide
theorem safe41:vested_Safe t0 [r1,r2 41] = some (⟨1,(⟨#[99]⟩:ByteArray),0⟩,false):=by
  obtain ⟨x,hx,_,_,_,h4,_⟩:=safe_eq (rights:=[r1,r2 41]) t0_S (by simp) (rt_S 41) (by simp [t0]) (by simp [t0])
  obtain ⟨c,hc,rfl⟩:=h4 fun h=>by
    have:=h cC (by simp [t0])
    have e:tops t0.Plan cC [r1,r2 41] = 101:=by simp [tops,top1,top2 ld3b (by omega)]
    rw [e] at this
    have e0:loadT t0 cC = 0:=rfl
    rw [e0] at this
    exact absurd this (by decide)
  have:c = cC:=by simpa [t0] using hc
  subst this
  exact hx
end Go.Proofs.YtegglcdhfnjhcaaGreat

namespace Go.Proofs.YtegglcdhfnjhcaaGreat
open Go.Gb
set_option linter.unusedVariables false
set_option linter.unusedSimpArgs false
set_option linter.unusedSectionVars false
set_option linter.unusedVariables false
set_option linter.unusedSimpArgs false

def v2:Volume:=⟨⟨⟨2,0,3,1⟩,0,9⟩,0,0,false⟩
theorem v2_SS:SS (sld v2):=ssB_spec (by decide)
theorem v2_ray:rayV (sld v2) ⟨0,0,0⟩ ⟨1,0,1⟩ = true:=by
  obtain ⟨r,hr,hrs⟩:=Ray_eq (p:=⟨0,0,0⟩) (d:=⟨1,0,1⟩) (sld_thin v2)
  unfold rayV
  rw [hr]
  refine hrs.2 ⟨by decide,by decide,v2_SS,2,1,by omega,by omega,?_⟩
  show scells (sld v2) _ _ _
  decide
end Go.Proofs.YtegglcdhfnjhcaaGreat

namespace Go.Proofs.YtegglcdhfnjhcaaGreat
open Go.Gb
set_option linter.unusedVariables false
set_option linter.unusedSimpArgs false
set_option linter.unusedSectionVars false
set_option linter.unusedVariables false
set_option linter.unusedSimpArgs false

def wT:Town:=⟨⟨[],[],[],[],[],[],[⟨1,0,1⟩],1⟩,[],[],[⟨7,⟨0,0,0⟩⟩],[],[]⟩
def rW:Right:=⟨3,0,⟨1,[⟨[hmV 9 10 0],[]⟩,⟨[v2],[]⟩]⟩,0,0,false⟩
theorem wT_S:TownS wT:=⟨⟨by simp [wT],fun t h=>by simp [wT] at h⟩,by simp [wT],fun c h=>by simp [wT] at h,by simp [wT],by simp [wT],fun w h=>by simp [wT] at h,by simp [wT]⟩
theorem rW_S : ∀ r ∈ [rW],RtS r:=by
  intro r h
  rw [List.mem_singleton.1 h]
  refine ⟨by simp [rW],fun ph hp=>?_⟩
  simp only [rW,List.mem_cons,List.not_mem_nil,or_false] at hp
  rcases hp with rfl | rfl <;> exact ⟨by simp,by simp⟩
theorem safeW:vested_Safe wT [rW] = some (⟨2,(⟨#[]⟩:ByteArray),0⟩,false):=by
  obtain ⟨x,hx,_,_,_,_,h5⟩:=safe_eq (rights:=[rW]) wT_S (by simp) rW_S (by simp [wT]) (by simp [wT])
  obtain ⟨i,hi,rfl⟩:=h5 (fun c hc=>by simp [wT] at hc) fun h=>by
    have:=h ⟨7,⟨0,0,0⟩⟩ (by simp [wT])
    have e:solL (lastT [rW] wT).Built (fun lot=>lot == (7:Int)) = [sld (hmV 9 10 0),sld v2]:=rfl
    have e0:sunN (lastT [rW] wT) ⟨7,⟨0,0,0⟩⟩ = 0:=by
      unfold sunN freeN
      dsimp only
      rw [e,(lastT_plan _ _).1]
      show List.countP _ [(⟨1,0,1⟩:Point3)] = 0
      simp [v2_ray]
    rw [e0] at this
    exact absurd this (by decide)
  have:i = 0:=by simp [wT] at hi; exact hi
  subst this
  exact hx
theorem keepsW : ∃ x,vested_Keeps wT = some x∧x.2 = true:=by
  obtain ⟨x,hx,h1,_⟩:=keeps_eq wT_S (by simp [wT]) (by simp [wT])
  refine ⟨x,hx,h1.2 ⟨fun c hc=>by simp [wT] at hc,fun w hw=>?_,fun w hw=>by simp [wT] at hw,List.Pairwise.nil⟩⟩
  have:w = ⟨7,⟨0,0,0⟩⟩:=by simpa [wT] using hw
  subst this
  show (1:Int) ≤ ((sunN wT ⟨7,⟨0,0,0⟩⟩:Nat):Int)
  have:sunN wT ⟨7,⟨0,0,0⟩⟩ = 1:=rfl
  rw [this]; decide
theorem grant0:vested_Grant t0 [r1] (r2 40) = some 0:=by
  obtain ⟨x,hx,h⟩:=safe40
  unfold vested_Grant
  have h1:option_Living (r2 40) = some true:=rfl
  have h2:slices_ContainsFunc_Right [r1] (fun y0=>vested_Grant_1 y0 (r2 40)) = some false:=rfl
  have h3:slices_Clone_Right [r1] = some [r1]:=rfl
  rw [h1,Option.bind_some,if_neg (by simp),h2,Option.bind_some,if_neg (by simp),h3,Option.bind_some,appI_some (by simp),Option.bind_some]
  show (vested_Safe t0 [r1,r2 40]).bind _ = _
  rw [hx,Option.bind_some,h]; rfl
theorem small33_true:law33_small = some true:=by
  unfold law33_small
  rw [example_eq,Option.bind_some,example_eq,Option.bind_some]
  dsimp only
  obtain ⟨x,hx,hx2⟩:=safe40
  rw [hx,Option.bind_some,safe41,Option.bind_some,show law33_homes 9 0 = some (hmV 9 10 0) from rfl,Option.bind_some]
  have hw:vested_Safe (⟨(⟨[],[],[],[],[],[],[(⟨1,0,1⟩:Point3)],1⟩:Plan),[],[],[(⟨7,(⟨0,0,0⟩:Point3)⟩:Window)],[],[]⟩:Town) ([(⟨3,0,(⟨1,[(⟨[hmV 9 10 0],[]⟩:Phase),(⟨[(⟨(⟨(⟨2,0,3,1⟩:Rect),0,9⟩:Box),0,0,false⟩:Volume)],[]⟩:Phase)]⟩:Drawing),0,0,false⟩:Right)]) = some (⟨2,(⟨#[]⟩:ByteArray),0⟩,false):=safeW
  rw [hw,Option.bind_some]
  obtain ⟨y,hy,hy2⟩:=keepsW
  have hk:vested_Keeps (⟨(⟨[],[],[],[],[],[],[(⟨1,0,1⟩:Point3)],1⟩:Plan),[],[],[(⟨7,(⟨0,0,0⟩:Point3)⟩:Window)],[],[]⟩:Town) = some y:=hy
  rw [hk,Option.bind_some,states_eq (by simp) (rt_S 40) (by simp [t0]) (by simp [t0]),Option.bind_some]
  dsimp only
  rw [hx2,hy2,sts_len]
  have hc:cntR [r1,r2 40] = 6:=rfl
  rw [hc,if_pos (by simp)]
  have h1:sliceI [r1,r2 40] 0 1 = some [r1]:=rfl
  have h2:subI (([r1,r2 40]:List Right).length:Int) 1 = some 1:=rfl
  have h3:getI [r1,r2 40] 1 = some (r2 40):=rfl
  rw [h1,Option.bind_some,h2,Option.bind_some,h3,Option.bind_some,grant0]
  rfl
end Go.Proofs.YtegglcdhfnjhcaaGreat

namespace Go.Proofs.YtegglcdhfnjhcaaGreat
open Go.Gb
set_option linter.unusedVariables false
set_option linter.unusedSimpArgs false
set_option linter.unusedSectionVars false
set_option linter.unusedVariables false
set_option linter.unusedSimpArgs false

theorem sts_bd : ∀ {rights:List Right} {t u:Town},(∀ r ∈ rights,RtS r) → u ∈ sts rights t → u.Built.length ≤ t.Built.length + 8 * rights.length∧u.Base.length ≤ t.Base.length + 12 * rights.length
  | [],t,u,_,h=>by obtain rfl:=List.mem_singleton.1 h; simp
  | r :: rs, t, u, hr, h => by
    unfold sts at h
    obtain ⟨k,hk,hu⟩:=List.mem_flatMap.1 h
    have h4:=lft_len (hr r List.mem_cons_self)
    have h1:=foldA_len (lot:=r.Drawing.Lot) (l:=(lft r).take k) (t:=t) fun ph hp=>(hr r List.mem_cons_self).2 ph (lft_sub (List.mem_of_mem_take hp))
    have ih:=sts_bd (fun q hq=>hr q (List.mem_cons_of_mem _ hq)) hu
    have hk' : ((lft r).take k).length ≤ 4:=by simp; omega
    unfold fA at ih
    rw [List.length_cons]; omega
theorem sts_cnt_le {rights:List Right} {t:Town} (hr : ∀ r ∈ rights,RtS r) (h3:rights.length ≤ 3):(sts rights t).length ≤ 125:=by
  rw [sts_len]
  refine Nat.le_trans (cntR_le hr) (Nat.le_trans (Nat.pow_le_pow_right (by omega) h3) (by decide))
end Go.Proofs.YtegglcdhfnjhcaaGreat

namespace Go.Proofs.YtegglcdhfnjhcaaGreat
open Go.Gb
set_option linter.unusedVariables false
set_option linter.unusedSimpArgs false
set_option linter.unusedSectionVars false
set_option linter.unusedVariables false
set_option linter.unusedSimpArgs false

theorem law_VestedPeaks (t:Town) (rights:List Right):law33_VestedPeaks t rights = some true:=by
  unfold law33_VestedPeaks
  obtain ⟨b,hb,hbs⟩:=few_spec (t:=t) (rights:=rights) (n:=3) (by omega)
  rw [show ((3:Nat):Int) = 3 from rfl] at hb
  rw [small33_true,Option.bind_some,hb,Option.bind_some]
  cases b with
  | false=>rw [if_pos (by simp)]
  | true =>
    have hF:=hbs rfl
    have h8:=hF.built; have h6:=hF.base; have hl3:=hF.len; have hcl:=hF.caps
    have hsl:=sts_cnt_le (t:=t) hF.rts hl3
    obtain ⟨l0,hl0⟩:=sts_head rights t
    have g0:getI (sts rights t) 0 = some t:=by rw [hl0]; exact getI_nat (i:=0) (by simp)
    rw [if_neg (by simp),states_eq hl3 hF.rts (by omega) (by omega),Option.bind_some]
    dsimp only
    rw [if_neg (by rw [hl0]; simp; omega)]
    rcases loop_allQ (body:=law33_VestedPeaks_L0 t rights (sts rights t,0)) (id:=0) t.Plan.Caps.length (fun _=>True) (by omega) (fun i hi _=>by
      refine .inl ⟨trivial,?_⟩
      have hc:=hF.town.cap _ (List.getElem_mem hi)
      have hlb:=loadT_bd (c:=t.Plan.Caps[i]) hF.town.plan hc (by omega) (by omega)
      unfold law33_VestedPeaks_L0
      rw [if_pos (by simpa using hi),getI_nat hi,Option.bind_some,peak_eq hF.town.plan hc (by omega) (by omega) (by omega) hF.rts,Option.bind_some]
      dsimp only
      obtain ⟨f1,a1,a2,a3⟩:=loop_up (body:=law33_VestedPeaks_L1 ⟨t.Plan.Caps[i].Name,loadT t t.Plan.Caps[i],rights.map (top t.Plan t.Plan.Caps[i])⟩) (fun j s=>s.2 = ((j:Nat):Int)∧s.1 = loadT t t.Plan.Caps[i] + tops t.Plan t.Plan.Caps[i] (rights.take j)) rights.length
        (fun f => ∃ n, f = .ex 2 (loadT t t.Plan.Caps[i] + tops t.Plan t.Plan.Caps[i] rights, n)) (fun j s hj ⟨hs', hJ⟩ => by
          have hq:=hF.rts _ (List.getElem_mem hj)
          have ht:=top_bd hF.town.plan hc hq
          have hts:=tops_bd hF.town.plan hc (rights:=rights.take j) fun r hr=>hF.rts r (List.mem_of_mem_take hr)
          have hlt:(rights.take j).length ≤ 10:=by simp; omega
          unfold law33_VestedPeaks_L1
          dsimp only
          rw [hs', if_pos (by simpa using hj), getI_nat (by simpa using hj), Option.bind_some, List.getElem_map, hJ, addI_some (by constructor <;> omega), Option.bind_some, addI_one (by omega)]
          refine .inl ⟨_,rfl,rfl,?_⟩
          rw [List.take_succ_eq_append_getElem hj,tops_snoc]
          dsimp only; omega) (fun s ⟨hs', hJ⟩ => by
          obtain ⟨s1,s2⟩:=s
          unfold law33_VestedPeaks_L1
          dsimp only at hs' hJ ⊢
          rw [hs', if_neg (by simp)]
          rw [List.take_length] at hJ
          exact ⟨_,rfl,trivial,_,by rw [hJ]⟩) (loadT t t.Plan.Caps[i],0) ⟨rfl,by simp [tops]⟩ (rights.length + (sts rights t).length + 1) (by omega)
      obtain ⟨n1,rfl⟩:=a3
      rw [a1,Option.bind_some]
      dsimp only
      rw [g0,Option.bind_some,capLoad_eq hF.town.plan hc (by omega) (by omega),Option.bind_some]
      obtain ⟨f2,c1,c2,c3⟩:=loop_up (body:=law33_VestedPeaks_L2 (sts rights t,0) t.Plan.Caps[i]) (fun j s=>s.2 = ((j:Nat):Int)∧(∃ u ∈ sts rights t,s.1 = loadT u t.Plan.Caps[i])∧∀ m (hm:m < (sts rights t).length),m < j → loadT (sts rights t)[m] t.Plan.Caps[i] ≤ s.1) (sts rights t).length
        (fun f => ∃ n m, f = .ex 4 (m, n) ∧ (∃ u ∈ sts rights t, m = loadT u t.Plan.Caps[i]) ∧ ∀ u ∈ sts rights t, loadT u t.Plan.Caps[i] ≤ m) (fun j s hj ⟨hs', hE, hJ⟩ => by
          have hu:=List.getElem_mem hj
          have hub:=sts_bd hF.rts hu
          obtain ⟨e1,e2,_⟩:=sts_mem (c:=t.Plan.Caps[i]) hu (List.Sublist.refl t.Built)
          unfold law33_VestedPeaks_L2
          dsimp only
          rw [hs', if_pos (by simpa using hj), getI_nat hj, Option.bind_some, capLoad_eq (by rw [e1]; exact hF.town.plan) hc (by omega) (by omega), Option.bind_some, addI_one (by omega)]
          refine .inl ⟨_,rfl,rfl,?_,fun m hm hmj=>?_⟩
          · dsimp only
            rcases Int.le_total s.1 (loadT (sts rights t)[j] t.Plan.Caps[i]) with h | h
            · exact ⟨_,hu,by omega⟩
            · obtain ⟨u, hu', he⟩ := hE
              exact ⟨u, hu', by omega⟩
          · dsimp only
            by_cases e:m = j
            · subst e; omega
            · have := hJ m hm (by omega); omega) (fun s ⟨hs', hE, hJ⟩ => by
          obtain ⟨s1,s2⟩:=s
          unfold law33_VestedPeaks_L2
          dsimp only at hs' hJ hE ⊢
          rw [hs', if_neg (by simp)]
          refine ⟨_,rfl,trivial,_,_,rfl,hE,fun u hu=>?_⟩
          obtain ⟨m,hm,rfl⟩:=List.getElem_of_mem hu
          exact hJ m hm hm) (loadT t t.Plan.Caps[i],0) ⟨rfl,⟨t,by rw [hl0]; simp,rfl⟩,fun m _ h=>by omega⟩ (rights.length + (sts rights t).length + 1) (by omega)
      obtain ⟨n2,m2,rfl,⟨u,hu,hE⟩,hM⟩:=c3
      rw [c1,Option.bind_some]
      dsimp only
      obtain ⟨v,hv,hmost⟩:=sts_most t.Plan.Caps[i] rights t
      have k1:=hM v hv
      obtain ⟨_,_,_,k2⟩:=sts_mem (c:=t.Plan.Caps[i]) hu (List.Sublist.refl t.Built)
      have e:loadT t t.Plan.Caps[i] + tops t.Plan t.Plan.Caps[i] rights = m2:=by omega
      rw [e,if_neg (by simp)]) (by unfold law33_VestedPeaks_L0; rw [if_neg (by simp)]) (fuel:=t.Plan.Caps.length + 1) (by omega) with ⟨_,a2⟩ | ⟨⟨_,_,h⟩,_⟩
    · rw [a2]; rfl
    · exact absurd trivial h
end Go.Proofs.YtegglcdhfnjhcaaGreat

