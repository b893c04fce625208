/- For all leases of a counter, two messages and numbers, whatever they are, the law LeaseOnce returns true, and leaves its arguments as they were; the package-level variable zero starts as the text of the program lays it. -/
import Derived.Test.YtljfakcblkdhbaaDoorTie
import Derived.Test.YtljfakcblkdhbaaDoorCards
import Derived.Test.YtljfakcblkdhbaaDoorCLeaseOnce
import Derived.Test.YtljfakcblkdhbaaDoorT2
namespace Go.Proofs.YtljfakcblkdhbaaDoor
open Go.Gb
set_option maxRecDepth 100000
set_option linter.unusedVariables false
theorem law46_LeaseOnce_ok {k0 : K} {v0 : Value} {x0 : ((IK .u8) × (IK .u8) × (IK .u8))} {v1 : Value} {x1 : Portion} {v2 : Value} {x2 : Portion} {v3 : Value} {x3 : Int} {r : Bool} (hG : GOk tb k0) (i0 : IsV x0 v0 k0) (i1 : IsV x1 v1 k0) (i2 : IsV x2 v2 k0) (i3 : IsV x3 v3 k0) (hr : law46_LeaseOnce x0 x1 x2 x3 = some r) : Calls Tryd.prog 5 #[v0, v1, v2, v3] k0.w (Ret k0 (IsV r)) := k5.ok.ok k0 [v0, v1, v2, v3] (x0, x1, x2, x3) r hG ⟨i0, i1, i2, i3⟩ hr
theorem rd5 : Rd Tryd.prog 5 (IK .u8) := rd_ik Tryd.underlying5
theorem rd22 : Rd Tryd.prog 22 ((IK .u8) × (IK .u8) × (IK .u8)) := rd_arr3 Tryd.underlying22 (by kernel_rfl) (by kernel_rfl) rd5
theorem rd9 : Rd Tryd.prog 9 ByteArray := rd_string Tryd.underlying9
theorem rd3 : Rd Tryd.prog 3 Int := rd_int Tryd.underlying3
instance : Rg Portion := Rg.ofMap fun x => (x.Cap, x.From, x.To, x.Number, x.N)
theorem rd47 : Rd Tryd.prog 47 Portion := rd_struct (f := fun x => (x.Cap, x.From, x.To, x.Number, x.N)) (fun y => ⟨y.1, y.2.1, y.2.2.1, y.2.2.2.1, y.2.2.2.2⟩) Tryd.underlying47 (by kernel_rfl) rfl (fun _ _ _ h => h) (fun _ h => h) (RdF.cons rfl (by kernel_rfl) rd9 (RdF.cons rfl (by kernel_rfl) rd3 (RdF.cons rfl (by kernel_rfl) rd3 (RdF.cons rfl (by kernel_rfl) rd3 (RdF.one rfl (by kernel_rfl) rd3))))) (fun _ => rfl)
open Go.ChangeShapes Go.WideShapes Go.ChangeAt Go.WideMaps Go.WideElems Go.RowKit
theorem Tryd.own : ownKnob Tryd.prog.godebug = none := by kernel_rfl
theorem Tryd.laidOut : laidOutB Tryd.prog = true := by kernel_rfl
/-- The door's own heap meets the condition. -/
theorem door_met (os : Os) (args : Array Value) : laidMetH Tryd.prog Rows.leaseOnceRow.laid ((World.doorLaid Tryd.prog 400 os).forCall (fun _ _ => 0) ⟨#[], args, []⟩).memory :=
  laidMetH_of_parts3 (fuel := 8) (laidMet_of_run' 8 (by kernel_rfl) (by kernel_rfl)) (by kernel_rfl) (by kernel_rfl)
/-- What the condition says of the package-level variables. -/
theorem of_laid {W : World} (h : laidMetH Tryd.prog Rows.leaseOnceRow.laid W) : GOk tb (kOf W) := by
  rw [MakeChecks.laidMetH_plain _ _ _ (by kernel_rfl)] at h
  obtain ⟨ps, hL, _, _⟩ := h
  dsimp only [Rows.leaseOnceRow] at hL
  obtain ⟨h0, qs0, hL0⟩ := ref_of_laid (x := (⟨(-1), 0⟩ : LeaseKey)) (show Tryd.prog.globalNamed "greenbelt/lease.zero" = some 0 by kernel_rfl) (show (Tryd.prog.globals[0]?).map (·.type) = some 81 by kernel_rfl) (by kernel_rfl) (ld_struct (σ := LeaseKey) (fun x => (x.from_, x.number)) Tryd.underlying81 (by kernel_rfl) (fun _ _ _ h => h) (LdF.cons rfl (by kernel_rfl) (ld_int Tryd.underlying3) (LdF.one rfl (by kernel_rfl) (ld_int Tryd.underlying3)))) hL
  refine ⟨fun g t x e => ?_, fun g e => by cases e⟩
  cases g with
  | zero =>
    cases (show (some ⟨.st 2, (⟨-1, 0⟩ : LeaseKey)⟩ : Option (Σ t : Tp, t.den tb.S)) = some ⟨t, x⟩ from e)
    exact h0
  | succ g => cases e
set_option maxRecDepth 100000 in
theorem row_lifted (law : ∀ (x0 : ((IK .u8) × (IK .u8) × (IK .u8))) (x1 : Portion) (x2 : Portion) (x3 : Int), Rg.rg x0 → Rg.rg x1 → Rg.rg x2 → Rg.rg x3 → law46_LeaseOnce x0 x1 x2 x3 = some true) (os : Os) (started : os.Started) (H : Type) (enc : TypeId × Value → H) :
    ReturnsInHanded {} Tryd.checked os 5 .any (fun w args => (Rows.leaseOnceSpec.pre enc Tryd.prog Tryd.f5 [] false w args ∧ laidMetH Tryd.prog Rows.leaseOnceRow.laid w) ∧ sizedMet enc Tryd.prog Tryd.f5 (OpenSpec.ofChange Rows.leaseOnceSpec) false w args) (Rows.leaseOnceSpec.post enc Tryd.prog Tryd.f5 false true false false) := by
  refine returnsInHanded_of_change_and (C := Tryd.checked) (X := fun w _ => laidMetH Tryd.prog Rows.leaseOnceRow.laid w) (fun _ _ _ hh h => h.of_heap hh) Tryd.own started (by kernel_rfl) Tryd.func5
    (ChangeSpec.witness_shaped (enc := enc) (C := Tryd.checked) (os := os) (X := fun w _ => laidMetH Tryd.prog Rows.leaseOnceRow.laid w) false (World.doorLaid Tryd.prog 400 os) #[.agg #[.int .u8 0, .int .u8 0, .int .u8 0], .agg #[.string ⟨#[]⟩, .int .i64 0, .int .i64 0, .int .i64 0, .int .i64 0], .agg #[.string ⟨#[]⟩, .int .i64 0, .int .i64 0, .int .i64 0, .int .i64 0], .int .i64 0] 8 rfl (World.shaped_of_RefB (by kernel_rfl) (by kernel_rfl)) (by kernel_rfl) (by kernel_rfl) (by kernel_rfl) (door_met os _)) ?_
  intro W base args ds gs before hval0 hW _ hwt hL _
  have hval : ∀ (j : Nat) t v, Tryd.f5.params[j]? = some t → args[j]? = some v → Value.okWide Tryd.prog W .any base t v := hval0
  have hW' := hW
  obtain ⟨p, q, hA0, hV, rfl, hfz, hnd⟩ := hW
  have hA : DataW.TrodAll enc Tryd.prog W 0 (fun _ => true) true Tryd.f5.params.toList args.toList ds p := hA0
  rw [Tryd.params5] at hA hval
  obtain ⟨args⟩ := args
  obtain ⟨v0, vs0, d0, ds0, p0, q0, hargs0, rfl, rfl, h0, hA0⟩ := trodAll_cons hA
  obtain ⟨v1, vs1, d1, ds1, p1, q1, hargs1, rfl, rfl, h1, hA1⟩ := trodAll_cons hA0
  obtain ⟨v2, vs2, d2, ds2, p2, q2, hargs2, rfl, rfl, h2, hA2⟩ := trodAll_cons hA1
  obtain ⟨v3, vs3, d3, ds3, p3, q3, hargs3, rfl, rfl, h3, hA3⟩ := trodAll_cons hA2
  obtain ⟨hargs4, rfl, rfl⟩ := trodAll_nil hA3
  subst hargs4 hargs3 hargs2 hargs1 hargs0
  obtain ⟨rfl, rfl⟩ := trodVars_none hV
  obtain ⟨y0, hy0, hr0⟩ := isV_of rd22 h0 (hval 0 22 v0 rfl rfl) fun n hn => of_decide_eq_true (List.all_eq_true.1 hwt n (DataW.weights_mem_each (j := 0) rfl rfl n hn))
  obtain ⟨y1, hy1, hr1⟩ := isV_of rd47 h1 (hval 1 47 v1 rfl rfl) fun n hn => of_decide_eq_true (List.all_eq_true.1 hwt n (DataW.weights_mem_each (j := 1) rfl rfl n hn))
  obtain ⟨y2, hy2, hr2⟩ := isV_of rd47 h2 (hval 2 47 v2 rfl rfl) fun n hn => of_decide_eq_true (List.all_eq_true.1 hwt n (DataW.weights_mem_each (j := 2) rfl rfl n hn))
  obtain ⟨y3, hy3, hr3⟩ := isV_of rd3 h3 (hval 3 3 v3 rfl rfl) fun n hn => of_decide_eq_true (List.all_eq_true.1 hwt n (DataW.weights_mem_each (j := 3) rfl rfl n hn))
  refine law_calls (law46_LeaseOnce_ok (k0 := kOf W) (of_laid hL) hy0 hy1 hy2 hy3 (law y0 y1 y2 y3 hr0 hr1 hr2 hr3)) fun k' hg => ?_
  exact ⟨_, rfl, post_law hW' Tryd.laidOut (by kernel_rfl) rfl rfl Tryd.underlying4 rfl hg⟩
theorem row_holds (law : ∀ (x0 : ((IK .u8) × (IK .u8) × (IK .u8))) (x1 : Portion) (x2 : Portion) (x3 : Int), Rg.rg x0 → Rg.rg x1 → Rg.rg x2 → Rg.rg x3 → law46_LeaseOnce x0 x1 x2 x3 = some true) : Rows.LeaseOnceSaid :=
  OpenClaim.holds_of_wide 5 Tryd.f5 rfl rfl rfl rfl rfl rfl rfl ⟨rfl, rfl, rfl, rfl, rfl⟩ rfl rfl rfl rfl rfl (by kernel_rfl) Tryd.func5 row_closed
    (of_decide_eq_true (by kernel_rfl)) (by unfold Func.isWrapper; first | (rw [if_pos (by decide +kernel)]; kernel_rfl) | (rw [if_neg (by decide +kernel)]; exact ⟨rfl, rfl⟩))
    (fun os started H enc _ => row_lifted law os started H enc)
theorem lease_once_holds : Rows.LeaseOnceCardSaid :=
  Claim7.holds_tied_plain_at .later [] [.data] true (true, "82aa4a8cc734470c21276c8415f14876de721f1079ec0b1e0d1c3550c24b4331") true
    (row_holds (fun h p q n hh _ _ _ => law_LeaseOnce h p q n hh)) (fun _ h => by cases h) (by kernel_rfl) (fun _ h => by cases h) leaseOnce_row_tie rfl ⟨rfl, rfl⟩ (by kernel_rfl) rfl
    (fun f fn hf hfn => by
      obtain rfl : f = 5 := Option.some.inj ((show Tryd.prog.funcNamed "greenbelt/greenbeltlaw46.LeaseOnce" = some 5 by kernel_rfl).symm.trans hf) |>.symm
      obtain rfl : fn = Tryd.f5 := (Option.some.inj (Tryd.func5.symm.trans hfn)).symm
      exact ⟨by kernel_rfl, fun j t ht => by
        rw [Tryd.params5] at ht
        have hm : t ∈ [22, 47, 47, 3] := by simpa using Array.mem_of_getElem? ht
        have hall : ([22, 47, 47, 3].all fun u => !Tryd.prog.wantsStandIn u) = true := by kernel_rfl
        exact (show Tryd.prog.wantsStandIn t = false by simpa using List.all_eq_true.1 hall t hm)⟩)
    (by kernel_rfl)
#print axioms lease_once_holds
end Go.Proofs.YtljfakcblkdhbaaDoor
