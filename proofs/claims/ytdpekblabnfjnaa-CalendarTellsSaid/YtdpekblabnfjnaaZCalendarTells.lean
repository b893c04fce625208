/- For all lists of holidays and of stays, and numbers, whatever they are, the law CalendarTells returns true, and leaves its arguments as they were. -/
import Derived.Test.YtdpekblabnfjnaaCCalendarTells
import Derived.Test.YtdpekblabnfjnaaP1
namespace Go.Proofs.Ytdpekblabnfjnaa
open Go.Gb
set_option maxRecDepth 100000
open Go.ChangeShapes Go.WideShapes Go.ChangeAt Go.RowKit
theorem Try.own : ownKnob Try.prog.godebug = none := by kernel_rfl
theorem Try.laidOut : laidOutB Try.prog = true := by kernel_rfl
set_option maxRecDepth 100000 in
theorem row_lifted (law : ∀ (x0 : (List Int)) (x1 : (List Stay)) (x2 : Int) (x3 : Int) (x4 : Int), Rg.rg x0 → Rg.rg x1 → Rg.rg x2 → Rg.rg x3 → Rg.rg x4 → lawTells x0 x1 x2 x3 x4 = some true) (os : Os) (started : os.Started) (H : Type) (enc : TypeId × Value → H) :
    ReturnsInHanded {} Try.checked os 3 .any (Rows.calendarTellsSpec.pre6 enc Try.prog Try.f3 Rows.calendarTellsRow.domain false) (Rows.calendarTellsSpec.post enc Try.prog Try.f3 false true false false) := by
  refine returnsInHanded_of_change_sized (C := Try.checked) Try.own started (by kernel_rfl) Try.func3
    (ChangeSpec.witness6 (enc := enc) (C := Try.checked) false ⟨#[], #[.slice none 0 0, .slice none 0 0, .int .i64 0, .int .i64 0, .int .i64 0], []⟩ 8 (by kernel_rfl) (by kernel_rfl) (by kernel_rfl) (by kernel_rfl)) ?_
  intro W base args ds gs before hval0 hW _ hwt _
  have hval : ∀ (j : Nat) t v, Try.f3.params[j]? = some t → args[j]? = some v → Value.okWide Try.prog W .any base t v := hval0
  have hW' := hW
  obtain ⟨p, q, hA0, hV, rfl, hfz, hnd⟩ := hW
  have hA : DataW.TrodAll enc Try.prog W 0 (fun _ => true) true Try.f3.params.toList args.toList ds p := hA0
  rw [Try.params3] at hA hval
  obtain ⟨args⟩ := args
  obtain ⟨v0, vs0, d0, ds0, p0, q0, hargs0, rfl, rfl, h0, hA0⟩ := trodAll_cons hA
  obtain ⟨v1, vs1, d1, ds1, p1, q1, hargs1, rfl, rfl, h1, hA1⟩ := trodAll_cons hA0
  obtain ⟨v2, vs2, d2, ds2, p2, q2, hargs2, rfl, rfl, h2, hA2⟩ := trodAll_cons hA1
  obtain ⟨v3, vs3, d3, ds3, p3, q3, hargs3, rfl, rfl, h3, hA3⟩ := trodAll_cons hA2
  obtain ⟨v4, vs4, d4, ds4, p4, q4, hargs4, rfl, rfl, h4, hA4⟩ := trodAll_cons hA3
  obtain ⟨hargs5, rfl, rfl⟩ := trodAll_nil hA4
  subst hargs5 hargs4 hargs3 hargs2 hargs1 hargs0
  obtain ⟨rfl, rfl⟩ := trodVars_none hV
  obtain ⟨y0, hy0, hr0⟩ := isV_of rd22 h0 (hval 0 22 v0 rfl rfl) fun n hn => of_decide_eq_true (List.all_eq_true.1 hwt n (DataW.weights_mem_each (j := 0) rfl rfl n hn))
  obtain ⟨y1, hy1, hr1⟩ := isV_of rd23 h1 (hval 1 23 v1 rfl rfl) fun n hn => of_decide_eq_true (List.all_eq_true.1 hwt n (DataW.weights_mem_each (j := 1) rfl rfl n hn))
  obtain ⟨y2, hy2, hr2⟩ := isV_of rd3 h2 (hval 2 3 v2 rfl rfl) fun n hn => of_decide_eq_true (List.all_eq_true.1 hwt n (DataW.weights_mem_each (j := 2) rfl rfl n hn))
  obtain ⟨y3, hy3, hr3⟩ := isV_of rd3 h3 (hval 3 3 v3 rfl rfl) fun n hn => of_decide_eq_true (List.all_eq_true.1 hwt n (DataW.weights_mem_each (j := 3) rfl rfl n hn))
  obtain ⟨y4, hy4, hr4⟩ := isV_of rd3 h4 (hval 4 3 v4 rfl rfl) fun n hn => of_decide_eq_true (List.all_eq_true.1 hwt n (DataW.weights_mem_each (j := 4) rfl rfl n hn))
  refine law_calls (lawTells_ok (k0 := kOf W) hy0 hy1 hy2 hy3 hy4 (law y0 y1 y2 y3 y4 hr0 hr1 hr2 hr3 hr4)) fun k' hg => ?_
  exact ⟨_, rfl, post_law hW' Try.laidOut (by kernel_rfl) rfl rfl Try.underlying4 rfl hg⟩
theorem row_holds (law : ∀ (x0 : (List Int)) (x1 : (List Stay)) (x2 : Int) (x3 : Int) (x4 : Int), Rg.rg x0 → Rg.rg x1 → Rg.rg x2 → Rg.rg x3 → Rg.rg x4 → lawTells x0 x1 x2 x3 x4 = some true) : Rows.CalendarTellsSaid :=
  OpenClaim.holds_of_wide 3 Try.f3 rfl rfl rfl rfl rfl rfl rfl ⟨rfl, rfl, rfl, rfl, rfl⟩ rfl rfl rfl rfl rfl (by kernel_rfl) Try.func3 row_closed
    (of_decide_eq_true (by kernel_rfl)) (by unfold Func.isWrapper; first | (rw [if_pos (by decide +kernel)]; kernel_rfl) | (rw [if_neg (by decide +kernel)]; exact ⟨rfl, rfl⟩))
    (fun os started H enc _ => row_lifted law os started H enc)
theorem calendar_tells_holds : Rows.CalendarTellsSaid := row_holds fun h l a b n _ _ _ _ _ => law_tells h l a b n
#print axioms calendar_tells_holds
end Go.Proofs.Ytdpekblabnfjnaa
