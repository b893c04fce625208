/- For all leases of three counters and lists of operations, whatever they are, the law LeaseSettles returns true, and leaves its arguments as they were; the package-level variable zero starts as the text of the program lays it. -/
import Derived.Test.YtljfakcblkdhbaaDoorTie
import Derived.Test.YtljfakcblkdhbaaDoorCards
import Derived.Test.YtljfakcblkdhbaaDoorCLeaseSettles
import Derived.Test.YtljfakcblkdhbaaDoorT3
namespace Go.Proofs.YtljfakcblkdhbaaDoor
open Go.Gb
set_option maxRecDepth 100000
set_option linter.unusedVariables false
theorem law46_LeaseSettles_ok {k0 : K} {v0 : Value} {x0 : (((IK .u8) × (IK .u8) × (IK .u8)) × ((IK .u8) × (IK .u8) × (IK .u8)) × ((IK .u8) × (IK .u8) × (IK .u8)))} {v1 : Value} {x1 : (List Ref46Op)} {r : Bool} (hG : GOk tb k0) (i0 : IsV x0 v0 k0) (i1 : IsV x1 v1 k0) (hr : law46_LeaseSettles x0 x1 = some r) : Calls Tryd.prog 4 #[v0, v1] k0.w (Ret k0 (IsV r)) := k4.ok.ok k0 [v0, v1] (x0, x1) r hG ⟨i0, i1⟩ hr
theorem rd5 : Rd Tryd.prog 5 (IK .u8) := rd_ik Tryd.underlying5
theorem rd22 : Rd Tryd.prog 22 ((IK .u8) × (IK .u8) × (IK .u8)) := rd_arr3 Tryd.underlying22 (by kernel_rfl) (by kernel_rfl) rd5
theorem rd23 : Rd Tryd.prog 23 (((IK .u8) × (IK .u8) × (IK .u8)) × ((IK .u8) × (IK .u8) × (IK .u8)) × ((IK .u8) × (IK .u8) × (IK .u8))) := rd_arr3 Tryd.underlying23 (by kernel_rfl) (by kernel_rfl) rd22
theorem rd3 : Rd Tryd.prog 3 Int := rd_int Tryd.underlying3
instance : Rg Ref46Op := Rg.ofMap fun x => (x.Kind, x.Desk, x.Cap, x.To, x.N)
theorem rd31 : Rd Tryd.prog 31 Ref46Op := rd_struct (f := fun x => (x.Kind, x.Desk, x.Cap, x.To, x.N)) (fun y => ⟨y.1, y.2.1, y.2.2.1, y.2.2.2.1, y.2.2.2.2⟩) Tryd.underlying31 (by kernel_rfl) rfl (fun _ _ _ h => h) (fun _ h => h) (RdF.cons rfl (by kernel_rfl) rd3 (RdF.cons rfl (by kernel_rfl) rd3 (RdF.cons rfl (by kernel_rfl) rd3 (RdF.cons rfl (by kernel_rfl) rd3 (RdF.one rfl (by kernel_rfl) rd3))))) (fun _ => rfl)
theorem rd24 : Rd Tryd.prog 24 (List Ref46Op) := rd_slice Tryd.underlying24 (by kernel_rfl) (by decide) (by kernel_rfl) rd31
open Go.ChangeShapes Go.WideShapes Go.ChangeAt Go.WideMaps Go.WideElems Go.RowKit
theorem Tryd.own : ownKnob Tryd.prog.godebug = none := by kernel_rfl
theorem Tryd.laidOut : laidOutB Tryd.prog = true := by kernel_rfl
/-- The door's own heap meets the condition. -/
theorem door_met (os : Os) (args : Array Value) : laidMetH Tryd.prog Rows.leaseSettlesRow.laid ((World.doorLaid Tryd.prog 400 os).forCall (fun _ _ => 0) ⟨#[], args, []⟩).memory :=
  laidMetH_of_parts3 (fuel := 8) (laidMet_of_run' 8 (by kernel_rfl) (by kernel_rfl)) (by kernel_rfl) (by kernel_rfl)
/-- What the condition says of the package-level variables. -/
theorem of_laid {W : World} (h : laidMetH Tryd.prog Rows.leaseSettlesRow.laid W) : GOk tb (kOf W) := by
  rw [MakeChecks.laidMetH_plain _ _ _ (by kernel_rfl)] at h
  obtain ⟨ps, hL, _, _⟩ := h
  dsimp only [Rows.leaseSettlesRow] at hL
  obtain ⟨h0, qs0, hL0⟩ := ref_of_laid (x := (⟨(-1), 0⟩ : LeaseKey)) (show Tryd.prog.globalNamed "greenbelt/lease.zero" = some 0 by kernel_rfl) (show (Tryd.prog.globals[0]?).map (·.type) = some 81 by kernel_rfl) (by kernel_rfl) (ld_struct (σ := LeaseKey) (fun x => (x.from_, x.number)) Tryd.underlying81 (by kernel_rfl) (fun _ _ _ h => h) (LdF.cons rfl (by kernel_rfl) (ld_int Tryd.underlying3) (LdF.one rfl (by kernel_rfl) (ld_int Tryd.underlying3)))) hL
  refine ⟨fun g t x e => ?_, fun g e => by cases e⟩
  cases g with
  | zero =>
    cases (show (some ⟨.st 2, (⟨-1, 0⟩ : LeaseKey)⟩ : Option (Σ t : Tp, t.den tb.S)) = some ⟨t, x⟩ from e)
    exact h0
  | succ g => cases e
set_option maxRecDepth 100000 in
theorem row_lifted (law : ∀ (x0 : (((IK .u8) × (IK .u8) × (IK .u8)) × ((IK .u8) × (IK .u8) × (IK .u8)) × ((IK .u8) × (IK .u8) × (IK .u8)))) (x1 : (List Ref46Op)), Rg.rg x0 → Rg.rg x1 → law46_LeaseSettles x0 x1 = some true) (os : Os) (started : os.Started) (H : Type) (enc : TypeId × Value → H) :
    ReturnsInHanded {} Tryd.checked os 4 .any (fun w args => (Rows.leaseSettlesSpec.pre enc Tryd.prog Tryd.f4 [] false w args ∧ laidMetH Tryd.prog Rows.leaseSettlesRow.laid w) ∧ sizedMet enc Tryd.prog Tryd.f4 (OpenSpec.ofChange Rows.leaseSettlesSpec) false w args) (Rows.leaseSettlesSpec.post enc Tryd.prog Tryd.f4 false true false false) := by
  refine returnsInHanded_of_change_and (C := Tryd.checked) (X := fun w _ => laidMetH Tryd.prog Rows.leaseSettlesRow.laid w) (fun _ _ _ hh h => h.of_heap hh) Tryd.own started (by kernel_rfl) Tryd.func4
    (ChangeSpec.witness_shaped (enc := enc) (C := Tryd.checked) (os := os) (X := fun w _ => laidMetH Tryd.prog Rows.leaseSettlesRow.laid w) false (World.doorLaid Tryd.prog 400 os) #[.agg #[.int .u8 0, .int .u8 0, .int .u8 0, .int .u8 0, .int .u8 0, .int .u8 0, .int .u8 0, .int .u8 0, .int .u8 0], .slice none 0 0] 8 rfl (World.shaped_of_RefB (by kernel_rfl) (by kernel_rfl)) (by kernel_rfl) (by kernel_rfl) (by kernel_rfl) (door_met os _)) ?_
  intro W base args ds gs before hval0 hW _ hwt hL _
  have hval : ∀ (j : Nat) t v, Tryd.f4.params[j]? = some t → args[j]? = some v → Value.okWide Tryd.prog W .any base t v := hval0
  have hW' := hW
  obtain ⟨p, q, hA0, hV, rfl, hfz, hnd⟩ := hW
  have hA : DataW.TrodAll enc Tryd.prog W 0 (fun _ => true) true Tryd.f4.params.toList args.toList ds p := hA0
  rw [Tryd.params4] at hA hval
  obtain ⟨args⟩ := args
  obtain ⟨v0, vs0, d0, ds0, p0, q0, hargs0, rfl, rfl, h0, hA0⟩ := trodAll_cons hA
  obtain ⟨v1, vs1, d1, ds1, p1, q1, hargs1, rfl, rfl, h1, hA1⟩ := trodAll_cons hA0
  obtain ⟨hargs2, rfl, rfl⟩ := trodAll_nil hA1
  subst hargs2 hargs1 hargs0
  obtain ⟨rfl, rfl⟩ := trodVars_none hV
  obtain ⟨y0, hy0, hr0⟩ := isV_of rd23 h0 (hval 0 23 v0 rfl rfl) fun n hn => of_decide_eq_true (List.all_eq_true.1 hwt n (DataW.weights_mem_each (j := 0) rfl rfl n hn))
  obtain ⟨y1, hy1, hr1⟩ := isV_of rd24 h1 (hval 1 24 v1 rfl rfl) fun n hn => of_decide_eq_true (List.all_eq_true.1 hwt n (DataW.weights_mem_each (j := 1) rfl rfl n hn))
  refine law_calls (law46_LeaseSettles_ok (k0 := kOf W) (of_laid hL) hy0 hy1 (law y0 y1 hr0 hr1)) fun k' hg => ?_
  exact ⟨_, rfl, post_law hW' Tryd.laidOut (by kernel_rfl) rfl rfl Tryd.underlying4 rfl hg⟩
theorem row_holds (law : ∀ (x0 : (((IK .u8) × (IK .u8) × (IK .u8)) × ((IK .u8) × (IK .u8) × (IK .u8)) × ((IK .u8) × (IK .u8) × (IK .u8)))) (x1 : (List Ref46Op)), Rg.rg x0 → Rg.rg x1 → law46_LeaseSettles x0 x1 = some true) : Rows.LeaseSettlesSaid :=
  OpenClaim.holds_of_wide 4 Tryd.f4 rfl rfl rfl rfl rfl rfl rfl ⟨rfl, rfl, rfl, rfl, rfl⟩ rfl rfl rfl rfl rfl (by kernel_rfl) Tryd.func4 row_closed
    (of_decide_eq_true (by kernel_rfl)) (by unfold Func.isWrapper; first | (rw [if_pos (by decide +kernel)]; kernel_rfl) | (rw [if_neg (by decide +kernel)]; exact ⟨rfl, rfl⟩))
    (fun os started H enc _ => row_lifted law os started H enc)
theorem lease_settles_holds : Rows.LeaseSettlesCardSaid :=
  Claim7.holds_tied_plain_at .later [] [.data] true (true, "82aa4a8cc734470c21276c8415f14876de721f1079ec0b1e0d1c3550c24b4331") true
    (row_holds (fun h l hh _ => law_LeaseSettles h l hh)) (fun _ h => by cases h) (by kernel_rfl) (fun _ h => by cases h) leaseSettles_row_tie rfl ⟨rfl, rfl⟩ (by kernel_rfl) rfl
    (fun f fn hf hfn => by
      obtain rfl : f = 4 := Option.some.inj ((show Tryd.prog.funcNamed "greenbelt/greenbeltlaw46.LeaseSettles" = some 4 by kernel_rfl).symm.trans hf) |>.symm
      obtain rfl : fn = Tryd.f4 := (Option.some.inj (Tryd.func4.symm.trans hfn)).symm
      exact ⟨by kernel_rfl, fun j t ht => by
        rw [Tryd.params4] at ht
        have hm : t ∈ [23, 24] := by simpa using Array.mem_of_getElem? ht
        have hall : ([23, 24].all fun u => !Tryd.prog.wantsStandIn u) = true := by kernel_rfl
        exact (show Tryd.prog.wantsStandIn t = false by simpa using List.all_eq_true.1 hall t hm)⟩)
    (by kernel_rfl)
#print axioms lease_settles_holds
end Go.Proofs.YtljfakcblkdhbaaDoor
