/- For all plans, lots, drawings and volumes, whatever they are, the law MeasureGrows returns true, and leaves its arguments as they were. -/
import Derived.Test.YtagkmlkhaekldaaGreatCMeasureGrows
import Derived.Test.YtagkmlkhaekldaaGreatP2
namespace Go.Proofs.YtagkmlkhaekldaaGreat
open Go.Gb
set_option maxRecDepth 100000
open Go.ChangeShapes Go.WideShapes Go.ChangeAt Go.RowKit
theorem Tryz.own : ownKnob Tryz.prog.godebug = none := by kernel_rfl
theorem Tryz.laidOut : laidOutB Tryz.prog = true := by kernel_rfl
set_option maxRecDepth 100000 in
theorem row_lifted (law : ∀ (x0 : Plan) (x1 : Lot) (x2 : Drawing) (x3 : Volume), Rg.rg x0 → Rg.rg x1 → Rg.rg x2 → Rg.rg x3 → law20_MeasureGrows x0 x1 x2 x3 = some true) (os : Os) (started : os.Started) (H : Type) (enc : TypeId × Value → H) :
    ReturnsInHanded {} Tryz.checked os 4 .any (Rows.measureGrowsSpec.pre6 enc Tryz.prog Tryz.f4 Rows.measureGrowsRow.domain false) (Rows.measureGrowsSpec.post enc Tryz.prog Tryz.f4 false true false false) := by
  refine returnsInHanded_of_change_sized (C := Tryz.checked) Tryz.own started (by kernel_rfl) Tryz.func4
    (ChangeSpec.witness6 (enc := enc) (C := Tryz.checked) false ⟨#[], #[.agg #[.slice none 0 0, .slice none 0 0, .slice none 0 0, .slice none 0 0, .slice none 0 0, .slice none 0 0, .slice none 0 0, .int .i64 0], .agg #[.int .i64 0, .int .i64 0, .slice none 0 0, .slice none 0 0], .agg #[.int .i64 0, .slice none 0 0], .agg #[.int .i64 0, .int .i64 0, .int .i64 0, .int .i64 0, .int .i64 0, .int .i64 0, .int .i64 0, .int .i64 0, .bool false]], []⟩ 8 (by kernel_rfl) (by kernel_rfl) (by kernel_rfl) (by kernel_rfl)) ?_
  intro W base args ds gs before hval0 hW _ hwt _
  have hval : ∀ (j : Nat) t v, Tryz.f4.params[j]? = some t → args[j]? = some v → Value.okWide Tryz.prog W .any base t v := hval0
  have hW' := hW
  obtain ⟨p, q, hA0, hV, rfl, hfz, hnd⟩ := hW
  have hA : DataW.TrodAll enc Tryz.prog W 0 (fun _ => true) true Tryz.f4.params.toList args.toList ds p := hA0
  rw [Tryz.params4] at hA hval
  obtain ⟨args⟩ := args
  obtain ⟨v0, vs0, d0, ds0, p0, q0, hargs0, rfl, rfl, h0, hA0⟩ := trodAll_cons hA
  obtain ⟨v1, vs1, d1, ds1, p1, q1, hargs1, rfl, rfl, h1, hA1⟩ := trodAll_cons hA0
  obtain ⟨v2, vs2, d2, ds2, p2, q2, hargs2, rfl, rfl, h2, hA2⟩ := trodAll_cons hA1
  obtain ⟨v3, vs3, d3, ds3, p3, q3, hargs3, rfl, rfl, h3, hA3⟩ := trodAll_cons hA2
  obtain ⟨hargs4, rfl, rfl⟩ := trodAll_nil hA3
  subst hargs4 hargs3 hargs2 hargs1 hargs0
  obtain ⟨rfl, rfl⟩ := trodVars_none hV
  obtain ⟨y0, hy0, hr0⟩ := isV_of rd30 h0 (hval 0 30 v0 rfl rfl) fun n hn => of_decide_eq_true (List.all_eq_true.1 hwt n (DataW.weights_mem_each (j := 0) rfl rfl n hn))
  obtain ⟨y1, hy1, hr1⟩ := isV_of rd34 h1 (hval 1 34 v1 rfl rfl) fun n hn => of_decide_eq_true (List.all_eq_true.1 hwt n (DataW.weights_mem_each (j := 1) rfl rfl n hn))
  obtain ⟨y2, hy2, hr2⟩ := isV_of rd37 h2 (hval 2 37 v2 rfl rfl) fun n hn => of_decide_eq_true (List.all_eq_true.1 hwt n (DataW.weights_mem_each (j := 2) rfl rfl n hn))
  obtain ⟨y3, hy3, hr3⟩ := isV_of rd51 h3 (hval 3 51 v3 rfl rfl) fun n hn => of_decide_eq_true (List.all_eq_true.1 hwt n (DataW.weights_mem_each (j := 3) rfl rfl n hn))
  refine law_calls (law20_MeasureGrows_ok (k0 := kOf W) hy0 hy1 hy2 hy3 (law y0 y1 y2 y3 hr0 hr1 hr2 hr3)) fun k' hg => ?_
  exact ⟨_, rfl, post_law hW' Tryz.laidOut (by kernel_rfl) rfl rfl Tryz.underlying4 rfl hg⟩
theorem row_holds (law : ∀ (x0 : Plan) (x1 : Lot) (x2 : Drawing) (x3 : Volume), Rg.rg x0 → Rg.rg x1 → Rg.rg x2 → Rg.rg x3 → law20_MeasureGrows x0 x1 x2 x3 = some true) : Rows.MeasureGrowsSaid :=
  OpenClaim.holds_of_wide 4 Tryz.f4 rfl rfl rfl rfl rfl rfl rfl ⟨rfl, rfl, rfl, rfl, rfl⟩ rfl rfl rfl rfl rfl (by kernel_rfl) Tryz.func4 row_closed
    (of_decide_eq_true (by kernel_rfl)) (by unfold Func.isWrapper; first | (rw [if_pos (by decide +kernel)]; kernel_rfl) | (rw [if_neg (by decide +kernel)]; exact ⟨rfl, rfl⟩))
    (fun os started H enc _ => row_lifted law os started H enc)
theorem measure_grows_holds : Rows.MeasureGrowsSaid := row_holds fun p t d v hp _ hd _ => law_MeasureGrows p t d v hd.2.1 (fun x hx => (hd.2.2 x hx).1.1) hp.2.1.1
#print axioms measure_grows_holds
end Go.Proofs.YtagkmlkhaekldaaGreat
