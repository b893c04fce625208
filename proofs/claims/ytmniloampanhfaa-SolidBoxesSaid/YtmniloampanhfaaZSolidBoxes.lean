/- For all lists of boxes, whatever they are, the law SolidBoxes returns true, and leaves its argument as it was. -/
import Derived.Test.YtmniloampanhfaaRows
import Derived.Test.YtmniloampanhfaaP14
namespace Go.Proofs.Ytmniloampanhfaa
open Go.Gb
set_option maxRecDepth 100000
open Go.ChangeShapes Go.WideShapes Go.ChangeAt Go.RowKit
theorem Try.own : ownKnob Try.prog.godebug = none := by kernel_rfl
theorem Try.laidOut : laidOutB Try.prog = true := by kernel_rfl
set_option maxRecDepth 100000 in
theorem row_lifted (law : ∀ (x0 : (List Box)), Rg.rg x0 → law09_SolidBoxes x0 = some true) (os : Os) (started : os.Started) (H : Type) (enc : TypeId × Value → H) :
    ReturnsInHanded {} Try.checked os 3 .any (Rows.solidBoxesSpec.pre6 enc Try.prog Try.f3 Rows.solidBoxesRow.domain false) (Rows.solidBoxesSpec.post enc Try.prog Try.f3 false true false false) := by
  refine returnsInHanded_of_change (C := Try.checked) Try.own started (by kernel_rfl) Try.func3
    (ChangeSpec.witness6 (enc := enc) (C := Try.checked) false ⟨#[], #[.slice none 0 0], []⟩ 8 (by kernel_rfl) (by kernel_rfl) (by kernel_rfl) (by kernel_rfl)) ?_
  intro W base args ds gs before hval0 hW _ _
  have hval : ∀ (j : Nat) t v, Try.f3.params[j]? = some t → args[j]? = some v → Value.okWide Try.prog W .any base t v := hval0
  have hW' := hW
  obtain ⟨p, q, hA0, hV, rfl, hfz, hnd⟩ := hW
  have hA : DataW.TrodAll enc Try.prog W 0 (fun _ => true) true Try.f3.params.toList args.toList ds p := hA0
  rw [Try.params3] at hA hval
  obtain ⟨args⟩ := args
  obtain ⟨v0, vs0, d0, ds0, p0, q0, hargs0, rfl, rfl, h0, hA0⟩ := trodAll_cons hA
  obtain ⟨hargs1, rfl, rfl⟩ := trodAll_nil hA0
  subst hargs1 hargs0
  obtain ⟨rfl, rfl⟩ := trodVars_none hV
  obtain ⟨y0, hy0, hr0⟩ := isV_of rd22 h0 (hval 0 22 v0 rfl rfl)
  refine law_calls (law09_SolidBoxes_ok (k0 := kOf W) hy0 (law y0 hr0)) fun k' hg => ?_
  exact ⟨_, rfl, post_law hW' Try.laidOut (by kernel_rfl) rfl rfl Try.underlying4 rfl hg⟩
theorem row_holds (law : ∀ (x0 : (List Box)), Rg.rg x0 → law09_SolidBoxes x0 = some true) : Rows.SolidBoxesSaid :=
  OpenClaim.holds_of_wide 3 Try.f3 rfl rfl rfl rfl rfl rfl rfl ⟨rfl, rfl, rfl, rfl, rfl⟩ rfl rfl rfl rfl rfl (by kernel_rfl) Try.func3 (by kernel_rfl)
    (of_decide_eq_true (by kernel_rfl)) (by unfold Func.isWrapper; first | (rw [if_pos (by decide +kernel)]; kernel_rfl) | (rw [if_neg (by decide +kernel)]; exact ⟨rfl, rfl⟩))
    (fun os started H enc _ => row_lifted law os started H enc)
theorem solid_boxes_holds : Rows.SolidBoxesSaid := row_holds fun l _ => law_SolidBoxes l
#print axioms solid_boxes_holds
end Go.Proofs.Ytmniloampanhfaa
