/- For all plans, lots, drawings and distances that are together of bulk at most 1048576, the law MeasureMoves returns true, and leaves its arguments as they were. -/
import Derived.Deep.CondSized
import Derived.Test.YtagkmlkhaekldaaGreatCMeasureMoves
import Derived.Test.YtagkmlkhaekldaaGreatP2
namespace Go.Proofs.YtagkmlkhaekldaaGreat
open Go.Gb
set_option maxRecDepth 100000
open Go.ChangeShapes Go.WideShapes Go.ChangeAt Go.RowKit
theorem Tryz.own : ownKnob Tryz.prog.godebug = none := by kernel_rfl
theorem Tryz.laidOut : laidOutB Tryz.prog = true := by kernel_rfl
mutual
theorem bulkD_eq {H : Type} : ∀ d : DataW H, bulkD d = Rows.uptoBulk d
  | .lit l => by cases l <;> simp only [bulkD, Rows.uptoBulk]
  | .nil => by simp only [bulkD, Rows.uptoBulk]
  | .ptr d => by simp only [bulkD, Rows.uptoBulk, bulkD_eq d]
  | .slice a b => by simp only [bulkD, Rows.uptoBulk, bulkDs_eq a, bulkDs_eq b]
  | .agg a => by simp only [bulkD, Rows.uptoBulk, bulkDs_eq a]
  | .iface _ d => by simp only [bulkD, Rows.uptoBulk, bulkD_eq d]
  | .map a => by simp only [bulkD, Rows.uptoBulk, bulkEs_eq a]
  | .held _ => by simp only [bulkD, Rows.uptoBulk]
theorem bulkDs_eq {H : Type} : ∀ l : List (DataW H), bulkDs l = Rows.uptoBulkAll l
  | [] => by simp only [bulkDs, Rows.uptoBulkAll]
  | d :: r => by simp only [bulkDs, Rows.uptoBulkAll, bulkD_eq d, bulkDs_eq r]
theorem bulkEs_eq {H : Type} : ∀ l : List (Lit × DataW H), bulkEs l = Rows.uptoBulkEntries l
  | [] => by simp only [bulkEs, Rows.uptoBulkEntries]
  | (k, d) :: r => by cases k <;> simp only [bulkEs, Rows.uptoBulkEntries, bulkEn, Rows.uptoBulkEntry, bulkD_eq d, bulkEs_eq r]
end
set_option maxRecDepth 100000 in
theorem row_lifted (law : ∀ (x0 : Plan) (x1 : Lot) (x2 : Drawing) (x3 : Int) (x4 : Int), Rg.rg x0 → Rg.rg x1 → Rg.rg x2 → Rg.rg x3 → Rg.rg x4 → Rg.bk x0 ≤ 1048576 → Rg.bk x1 ≤ 1048576 → Rg.bk x2 ≤ 1048576 → Rg.bk x3 ≤ 1048576 → Rg.bk x4 ≤ 1048576 → law20_MeasureMoves x0 x1 x2 x3 x4 = some true) (os : Os) (started : os.Started) (H : Type) (enc : TypeId × Value → H) (F : Stop.Interp) :
    ReturnsInHanded {} Tryz.checked os 5 .any ((Rows.OpenSpec.upto Rows.measureMovesSpec).pre6 enc Tryz.prog Tryz.f5 Rows.measureMovesUptoRow.domain false) (((Rows.OpenSpec.upto Rows.measureMovesSpec).at F).post enc Tryz.prog Tryz.f5 false true false false) := by
  refine returnsInHanded_of_cond_sized (C := Tryz.checked) (s := (Rows.OpenSpec.upto Rows.measureMovesSpec)) (k := Rows.uptoSmall) rfl Tryz.own started (by kernel_rfl) Tryz.func5
    (OpenSpec.witness (enc := enc) (C := Tryz.checked) (s := (Rows.OpenSpec.upto Rows.measureMovesSpec)) (k := Rows.uptoSmall) rfl false ⟨#[], #[.agg #[.slice none 0 0, .slice none 0 0, .slice none 0 0, .slice none 0 0, .slice none 0 0, .slice none 0 0, .slice none 0 0, .int .i64 0], .agg #[.int .i64 0, .int .i64 0, .slice none 0 0, .slice none 0 0], .agg #[.int .i64 0, .slice none 0 0], .int .i64 0, .int .i64 0], []⟩ 8 (by kernel_rfl) (by kernel_rfl) (by kernel_rfl) (x := ([.agg [.nil, .nil, .nil, .nil, .nil, .nil, .nil, .lit (.int .i64 0)], .agg [.lit (.int .i64 0), .lit (.int .i64 0), .nil, .nil], .agg [.lit (.int .i64 0), .nil], .lit (.int .i64 0), .lit (.int .i64 0)], [], [])) (by kernel_rfl) rfl (by kernel_rfl)) ?_
  intro W base args ds gs before hval0 hW _ hk hwt _
  have hval : ∀ (j : Nat) t v, Tryz.f5.params[j]? = some t → args[j]? = some v → Value.okWide Tryz.prog W .any base t v := hval0
  have hW' := hW
  obtain ⟨p, q, hA0, hV, rfl, hfz, hnd⟩ := hW
  have hA : DataW.TrodAll enc Tryz.prog W 0 (fun _ => true) true Tryz.f5.params.toList args.toList ds p := hA0
  rw [Tryz.params5] at hA hval
  obtain ⟨args⟩ := args
  obtain ⟨v0, vs0, d0, ds0, p0, q0, hargs0, rfl, rfl, h0, hA0⟩ := trodAll_cons hA
  obtain ⟨v1, vs1, d1, ds1, p1, q1, hargs1, rfl, rfl, h1, hA1⟩ := trodAll_cons hA0
  obtain ⟨v2, vs2, d2, ds2, p2, q2, hargs2, rfl, rfl, h2, hA2⟩ := trodAll_cons hA1
  obtain ⟨v3, vs3, d3, ds3, p3, q3, hargs3, rfl, rfl, h3, hA3⟩ := trodAll_cons hA2
  obtain ⟨v4, vs4, d4, ds4, p4, q4, hargs4, rfl, rfl, h4, hA4⟩ := trodAll_cons hA3
  obtain ⟨hargs5, rfl, rfl⟩ := trodAll_nil hA4
  subst hargs5 hargs4 hargs3 hargs2 hargs1 hargs0
  obtain ⟨rfl, rfl⟩ := trodVars_none hV
  have hb : bulkDs [d0, d1, d2, d3, d4] ≤ 1048576 := by rw [bulkDs_eq]; exact of_decide_eq_true hk
  simp only [bulkDs] at hb
  obtain ⟨y0, hy0, hr0, hb0⟩ := isV_ofB rd30 h0 (hval 0 30 v0 rfl rfl) fun n hn => of_decide_eq_true (List.all_eq_true.1 hwt n (DataW.weights_mem_each (j := 0) rfl rfl n hn))
  obtain ⟨y1, hy1, hr1, hb1⟩ := isV_ofB rd34 h1 (hval 1 34 v1 rfl rfl) fun n hn => of_decide_eq_true (List.all_eq_true.1 hwt n (DataW.weights_mem_each (j := 1) rfl rfl n hn))
  obtain ⟨y2, hy2, hr2, hb2⟩ := isV_ofB rd37 h2 (hval 2 37 v2 rfl rfl) fun n hn => of_decide_eq_true (List.all_eq_true.1 hwt n (DataW.weights_mem_each (j := 2) rfl rfl n hn))
  obtain ⟨y3, hy3, hr3, hb3⟩ := isV_ofB rd3 h3 (hval 3 3 v3 rfl rfl) fun n hn => of_decide_eq_true (List.all_eq_true.1 hwt n (DataW.weights_mem_each (j := 3) rfl rfl n hn))
  obtain ⟨y4, hy4, hr4, hb4⟩ := isV_ofB rd3 h4 (hval 4 3 v4 rfl rfl) fun n hn => of_decide_eq_true (List.all_eq_true.1 hwt n (DataW.weights_mem_each (j := 4) rfl rfl n hn))
  refine law_calls (law20_MeasureMoves_ok (k0 := kOf W) hy0 hy1 hy2 hy3 hy4 (law y0 y1 y2 y3 y4 hr0 hr1 hr2 hr3 hr4 (Nat.le_trans hb0 (by omega)) (Nat.le_trans hb1 (by omega)) (Nat.le_trans hb2 (by omega)) (Nat.le_trans hb3 (by omega)) (Nat.le_trans hb4 (by omega)))) fun k' hg => ?_
  exact ⟨_, rfl, post_law hW' Tryz.laidOut (by kernel_rfl) rfl rfl Tryz.underlying4 rfl hg⟩
theorem row_holds (law : ∀ (x0 : Plan) (x1 : Lot) (x2 : Drawing) (x3 : Int) (x4 : Int), Rg.rg x0 → Rg.rg x1 → Rg.rg x2 → Rg.rg x3 → Rg.rg x4 → Rg.bk x0 ≤ 1048576 → Rg.bk x1 ≤ 1048576 → Rg.bk x2 ≤ 1048576 → Rg.bk x3 ≤ 1048576 → Rg.bk x4 ≤ 1048576 → law20_MeasureMoves x0 x1 x2 x3 x4 = some true) : Rows.MeasureMovesUptoSaid :=
  OpenClaim.holds_of_cond 5 Tryz.f5 rfl rfl rfl rfl rfl rfl rfl ⟨rfl, rfl, rfl, rfl, rfl⟩ rfl rfl rfl rfl rfl (by kernel_rfl) Tryz.func5 row_closed
    (of_decide_eq_true (by kernel_rfl)) (by unfold Func.isWrapper; first | (rw [if_pos (by decide +kernel)]; kernel_rfl) | (rw [if_neg (by decide +kernel)]; exact ⟨rfl, rfl⟩))
    (fun os started H enc _ F => row_lifted law os started H enc F)
theorem measure_moves_holds : Rows.MeasureMovesUptoSaid := row_holds fun p t d dx dy hp _ hd _ _ _ bt bd _ _ => law_MeasureMovesB p t d dx dy hd.2.1 (fun x hx => (hd.2.2 x hx).1.1) hp.2.1.1 (f := Rg.bk) (fun x => Nat.le_trans (bkL_len Rg.bk x.Volumes) (Nat.le_add_right _ _)) (Nat.le_trans (Nat.le_add_left _ _) bd) (Nat.le_trans (Nat.le_trans (bkL_len Rg.bk t.Area) (by show _ ≤ 0 + (0 + (bkL Rg.bk t.Area + _)); omega)) bt)
#print axioms measure_moves_holds
end Go.Proofs.YtagkmlkhaekldaaGreat
