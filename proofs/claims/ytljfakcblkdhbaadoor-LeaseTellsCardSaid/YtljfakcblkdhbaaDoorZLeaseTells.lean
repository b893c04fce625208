/- For all numbers, lists of leases, lists of messages, names of caps and numbers, whatever they are, the law LeaseTells returns true, and leaves its arguments as they were; the package-level variable zero starts as the text of the program lays it. -/
import Derived.Test.YtljfakcblkdhbaaDoorTie
import Derived.Test.YtljfakcblkdhbaaDoorCards
import Derived.Test.YtljfakcblkdhbaaDoorCLeaseTells
import Derived.Test.YtljfakcblkdhbaaDoorT4
namespace Go.Proofs.YtljfakcblkdhbaaDoor
open Go.Gb
set_option maxRecDepth 100000
set_option linter.unusedVariables false
theorem law46_LeaseTells_ok {k0 : K} {v0 : Value} {x0 : Int} {v1 : Value} {x1 : (List Lease)} {v2 : Value} {x2 : (List Portion)} {v3 : Value} {x3 : ByteArray} {v4 : Value} {x4 : Int} {v5 : Value} {x5 : Int} {r : Bool} (hG : GOk tb k0) (i0 : IsV x0 v0 k0) (i1 : IsV x1 v1 k0) (i2 : IsV x2 v2 k0) (i3 : IsV x3 v3 k0) (i4 : IsV x4 v4 k0) (i5 : IsV x5 v5 k0) (hr : law46_LeaseTells x0 x1 x2 x3 x4 x5 = some r) : Calls Tryd.prog 6 #[v0, v1, v2, v3, v4, v5] k0.w (Ret k0 (IsV r)) := k6.ok.ok k0 [v0, v1, v2, v3, v4, v5] (x0, x1, x2, x3, x4, x5) r hG ⟨i0, i1, i2, i3, i4, i5⟩ hr
theorem rd3 : Rd Tryd.prog 3 Int := rd_int Tryd.underlying3
theorem rd9 : Rd Tryd.prog 9 ByteArray := rd_string Tryd.underlying9
instance : Rg Lease := Rg.ofMap fun x => (x.Cap, x.Counter, x.Held, x.Used)
theorem rd43 : Rd Tryd.prog 43 Lease := rd_struct (f := fun x => (x.Cap, x.Counter, x.Held, x.Used)) (fun y => ⟨y.1, y.2.1, y.2.2.1, y.2.2.2⟩) Tryd.underlying43 (by kernel_rfl) rfl (fun _ _ _ h => h) (fun _ h => h) (RdF.cons rfl (by kernel_rfl) rd9 (RdF.cons rfl (by kernel_rfl) rd3 (RdF.cons rfl (by kernel_rfl) rd3 (RdF.one rfl (by kernel_rfl) rd3)))) (fun _ => rfl)
theorem rd32 : Rd Tryd.prog 32 (List Lease) := rd_slice Tryd.underlying32 (by kernel_rfl) (by decide) (by kernel_rfl) rd43
instance : Rg Portion := Rg.ofMap fun x => (x.Cap, x.From, x.To, x.Number, x.N)
theorem rd47 : Rd Tryd.prog 47 Portion := rd_struct (f := fun x => (x.Cap, x.From, x.To, x.Number, x.N)) (fun y => ⟨y.1, y.2.1, y.2.2.1, y.2.2.2.1, y.2.2.2.2⟩) Tryd.underlying47 (by kernel_rfl) rfl (fun _ _ _ h => h) (fun _ h => h) (RdF.cons rfl (by kernel_rfl) rd9 (RdF.cons rfl (by kernel_rfl) rd3 (RdF.cons rfl (by kernel_rfl) rd3 (RdF.cons rfl (by kernel_rfl) rd3 (RdF.one rfl (by kernel_rfl) rd3))))) (fun _ => rfl)
theorem rd28 : Rd Tryd.prog 28 (List Portion) := rd_slice Tryd.underlying28 (by kernel_rfl) (by decide) (by kernel_rfl) rd47
open Go.ChangeShapes Go.WideShapes Go.ChangeAt Go.WideMaps Go.WideElems Go.RowKit
theorem Tryd.own : ownKnob Tryd.prog.godebug = none := by kernel_rfl
theorem Tryd.laidOut : laidOutB Tryd.prog = true := by kernel_rfl
/-- The door's own heap meets the condition. -/
theorem door_met (os : Os) (args : Array Value) : laidMetH Tryd.prog Rows.leaseTellsRow.laid ((World.doorLaid Tryd.prog 400 os).forCall (fun _ _ => 0) ⟨#[], args, []⟩).memory :=
  laidMetH_of_parts3 (fuel := 8) (laidMet_of_run' 8 (by kernel_rfl) (by kernel_rfl)) (by kernel_rfl) (by kernel_rfl)
/-- What the condition says of the package-level variables. -/
theorem of_laid {W : World} (h : laidMetH Tryd.prog Rows.leaseTellsRow.laid W) : GOk tb (kOf W) := by
  rw [MakeChecks.laidMetH_plain _ _ _ (by kernel_rfl)] at h
  obtain ⟨ps, hL, _, _⟩ := h
  dsimp only [Rows.leaseTellsRow] at hL
  obtain ⟨h0, qs0, hL0⟩ := ref_of_laid (x := (⟨(-1), 0⟩ : LeaseKey)) (show Tryd.prog.globalNamed "greenbelt/lease.zero" = some 0 by kernel_rfl) (show (Tryd.prog.globals[0]?).map (·.type) = some 81 by kernel_rfl) (by kernel_rfl) (ld_struct (σ := LeaseKey) (fun x => (x.from_, x.number)) Tryd.underlying81 (by kernel_rfl) (fun _ _ _ h => h) (LdF.cons rfl (by kernel_rfl) (ld_int Tryd.underlying3) (LdF.one rfl (by kernel_rfl) (ld_int Tryd.underlying3)))) hL
  refine ⟨fun g t x e => ?_, fun g e => by cases e⟩
  cases g with
  | zero =>
    cases (show (some ⟨.st 2, (⟨-1, 0⟩ : LeaseKey)⟩ : Option (Σ t : Tp, t.den tb.S)) = some ⟨t, x⟩ from e)
    exact h0
  | succ g => cases e
set_option maxRecDepth 100000 in
theorem row_lifted (law : ∀ (x0 : Int) (x1 : (List Lease)) (x2 : (List Portion)) (x3 : ByteArray) (x4 : Int) (x5 : Int), Rg.rg x0 → Rg.rg x1 → Rg.rg x2 → Rg.rg x3 → Rg.rg x4 → Rg.rg x5 → law46_LeaseTells x0 x1 x2 x3 x4 x5 = some true) (os : Os) (started : os.Started) (H : Type) (enc : TypeId × Value → H) :
    ReturnsInHanded {} Tryd.checked os 6 .any (fun w args => (Rows.leaseTellsSpec.pre enc Tryd.prog Tryd.f6 [] false w args ∧ laidMetH Tryd.prog Rows.leaseTellsRow.laid w) ∧ sizedMet enc Tryd.prog Tryd.f6 (OpenSpec.ofChange Rows.leaseTellsSpec) false w args) (Rows.leaseTellsSpec.post enc Tryd.prog Tryd.f6 false true false false) := by
  refine returnsInHanded_of_change_and (C := Tryd.checked) (X := fun w _ => laidMetH Tryd.prog Rows.leaseTellsRow.laid w) (fun _ _ _ hh h => h.of_heap hh) Tryd.own started (by kernel_rfl) Tryd.func6
    (ChangeSpec.witness_shaped (enc := enc) (C := Tryd.checked) (os := os) (X := fun w _ => laidMetH Tryd.prog Rows.leaseTellsRow.laid w) false (World.doorLaid Tryd.prog 400 os) #[.int .i64 0, .slice none 0 0, .slice none 0 0, .string ⟨#[]⟩, .int .i64 0, .int .i64 0] 8 rfl (World.shaped_of_RefB (by kernel_rfl) (by kernel_rfl)) (by kernel_rfl) (by kernel_rfl) (by kernel_rfl) (door_met os _)) ?_
  intro W base args ds gs before hval0 hW _ hwt hL _
  have hval : ∀ (j : Nat) t v, Tryd.f6.params[j]? = some t → args[j]? = some v → Value.okWide Tryd.prog W .any base t v := hval0
  have hW' := hW
  obtain ⟨p, q, hA0, hV, rfl, hfz, hnd⟩ := hW
  have hA : DataW.TrodAll enc Tryd.prog W 0 (fun _ => true) true Tryd.f6.params.toList args.toList ds p := hA0
  rw [Tryd.params6] at hA hval
  obtain ⟨args⟩ := args
  obtain ⟨v0, vs0, d0, ds0, p0, q0, hargs0, rfl, rfl, h0, hA0⟩ := trodAll_cons hA
  obtain ⟨v1, vs1, d1, ds1, p1, q1, hargs1, rfl, rfl, h1, hA1⟩ := trodAll_cons hA0
  obtain ⟨v2, vs2, d2, ds2, p2, q2, hargs2, rfl, rfl, h2, hA2⟩ := trodAll_cons hA1
  obtain ⟨v3, vs3, d3, ds3, p3, q3, hargs3, rfl, rfl, h3, hA3⟩ := trodAll_cons hA2
  obtain ⟨v4, vs4, d4, ds4, p4, q4, hargs4, rfl, rfl, h4, hA4⟩ := trodAll_cons hA3
  obtain ⟨v5, vs5, d5, ds5, p5, q5, hargs5, rfl, rfl, h5, hA5⟩ := trodAll_cons hA4
  obtain ⟨hargs6, rfl, rfl⟩ := trodAll_nil hA5
  subst hargs6 hargs5 hargs4 hargs3 hargs2 hargs1 hargs0
  obtain ⟨rfl, rfl⟩ := trodVars_none hV
  obtain ⟨y0, hy0, hr0⟩ := isV_of rd3 h0 (hval 0 3 v0 rfl rfl) fun n hn => of_decide_eq_true (List.all_eq_true.1 hwt n (DataW.weights_mem_each (j := 0) rfl rfl n hn))
  obtain ⟨y1, hy1, hr1⟩ := isV_of rd32 h1 (hval 1 32 v1 rfl rfl) fun n hn => of_decide_eq_true (List.all_eq_true.1 hwt n (DataW.weights_mem_each (j := 1) rfl rfl n hn))
  obtain ⟨y2, hy2, hr2⟩ := isV_of rd28 h2 (hval 2 28 v2 rfl rfl) fun n hn => of_decide_eq_true (List.all_eq_true.1 hwt n (DataW.weights_mem_each (j := 2) rfl rfl n hn))
  obtain ⟨y3, hy3, hr3⟩ := isV_of rd9 h3 (hval 3 9 v3 rfl rfl) fun n hn => of_decide_eq_true (List.all_eq_true.1 hwt n (DataW.weights_mem_each (j := 3) rfl rfl n hn))
  obtain ⟨y4, hy4, hr4⟩ := isV_of rd3 h4 (hval 4 3 v4 rfl rfl) fun n hn => of_decide_eq_true (List.all_eq_true.1 hwt n (DataW.weights_mem_each (j := 4) rfl rfl n hn))
  obtain ⟨y5, hy5, hr5⟩ := isV_of rd3 h5 (hval 5 3 v5 rfl rfl) fun n hn => of_decide_eq_true (List.all_eq_true.1 hwt n (DataW.weights_mem_each (j := 5) rfl rfl n hn))
  refine law_calls (law46_LeaseTells_ok (k0 := kOf W) (of_laid hL) hy0 hy1 hy2 hy3 hy4 hy5 (law y0 y1 y2 y3 y4 y5 hr0 hr1 hr2 hr3 hr4 hr5)) fun k' hg => ?_
  exact ⟨_, rfl, post_law hW' Tryd.laidOut (by kernel_rfl) rfl rfl Tryd.underlying4 rfl hg⟩
theorem row_holds (law : ∀ (x0 : Int) (x1 : (List Lease)) (x2 : (List Portion)) (x3 : ByteArray) (x4 : Int) (x5 : Int), Rg.rg x0 → Rg.rg x1 → Rg.rg x2 → Rg.rg x3 → Rg.rg x4 → Rg.rg x5 → law46_LeaseTells x0 x1 x2 x3 x4 x5 = some true) : Rows.LeaseTellsSaid :=
  OpenClaim.holds_of_wide 6 Tryd.f6 rfl rfl rfl rfl rfl rfl rfl ⟨rfl, rfl, rfl, rfl, rfl⟩ rfl rfl rfl rfl rfl (by kernel_rfl) Tryd.func6 row_closed
    (of_decide_eq_true (by kernel_rfl)) (by unfold Func.isWrapper; first | (rw [if_pos (by decide +kernel)]; kernel_rfl) | (rw [if_neg (by decide +kernel)]; exact ⟨rfl, rfl⟩))
    (fun os started H enc _ => row_lifted law os started H enc)
theorem lease_tells_holds : Rows.LeaseTellsCardSaid :=
  Claim7.holds_tied_plain_at .later [] [.data] true (true, "82aa4a8cc734470c21276c8415f14876de721f1079ec0b1e0d1c3550c24b4331") true
    (row_holds (fun n l m cap to a _ _ _ _ _ _ => law_LeaseTells n l m cap to a)) (fun _ h => by cases h) (by kernel_rfl) (fun _ h => by cases h) leaseTells_row_tie rfl ⟨rfl, rfl⟩ (by kernel_rfl) rfl
    (fun f fn hf hfn => by
      obtain rfl : f = 6 := Option.some.inj ((show Tryd.prog.funcNamed "greenbelt/greenbeltlaw46.LeaseTells" = some 6 by kernel_rfl).symm.trans hf) |>.symm
      obtain rfl : fn = Tryd.f6 := (Option.some.inj (Tryd.func6.symm.trans hfn)).symm
      exact ⟨by kernel_rfl, fun j t ht => by
        rw [Tryd.params6] at ht
        have hm : t ∈ [3, 32, 28, 9, 3, 3] := by simpa using Array.mem_of_getElem? ht
        have hall : ([3, 32, 28, 9, 3, 3].all fun u => !Tryd.prog.wantsStandIn u) = true := by kernel_rfl
        exact (show Tryd.prog.wantsStandIn t = false by simpa using List.all_eq_true.1 hall t hm)⟩)
    (by kernel_rfl)
#print axioms lease_tells_holds
end Go.Proofs.YtljfakcblkdhbaaDoor
