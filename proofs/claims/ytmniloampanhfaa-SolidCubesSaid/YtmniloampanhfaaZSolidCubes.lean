/- For all two lists of boxes, whatever they are, the law SolidCubes returns true, and leaves its arguments as they were. -/
import Derived.Test.YtmniloampanhfaaRows
import Derived.Test.YtmniloampanhfaaP2
namespace Go.Proofs.Ytmniloampanhfaa
open Go.Gb
set_option maxRecDepth 100000
open Go.ChangeShapes Go.WideShapes Go.ChangeAt Go.RowKit
theorem Try.own : ownKnob Try.prog.godebug = none := by kernel_rfl
theorem Try.laidOut : laidOutB Try.prog = true := by kernel_rfl
set_option maxRecDepth 100000 in
theorem row_lifted (law : ∀ (x0 : (List Box)) (x1 : (List Box)), Rg.rg x0 → Rg.rg x1 → law09_SolidCubes x0 x1 = some true) (os : Os) (started : os.Started) (H : Type) (enc : TypeId × Value → H) :
    ReturnsInHanded {} Try.checked os 4 .any (Rows.solidCubesSpec.pre6 enc Try.prog Try.f4 Rows.solidCubesRow.domain false) (Rows.solidCubesSpec.post enc Try.prog Try.f4 false true false false) := by
  refine returnsInHanded_of_change (C := Try.checked) Try.own started (by kernel_rfl) Try.func4
    (ChangeSpec.witness6 (enc := enc) (C := Try.checked) false ⟨#[], #[.slice none 0 0, .slice none 0 0], []⟩ 8 (by kernel_rfl) (by kernel_rfl) (by kernel_rfl) (by kernel_rfl)) ?_
  intro W base args ds gs before hval0 hW _ _
  have hval : ∀ (j : Nat) t v, Try.f4.params[j]? = some t → args[j]? = some v → Value.okWide Try.prog W .any base t v := hval0
  have hW' := hW
  obtain ⟨p, q, hA0, hV, rfl, hfz, hnd⟩ := hW
  have hA : DataW.TrodAll enc Try.prog W 0 (fun _ => true) true Try.f4.params.toList args.toList ds p := hA0
  rw [Try.params4] at hA hval
  obtain ⟨args⟩ := args
  obtain ⟨v0, vs0, d0, ds0, p0, q0, hargs0, rfl, rfl, h0, hA0⟩ := trodAll_cons hA
  obtain ⟨v1, vs1, d1, ds1, p1, q1, hargs1, rfl, rfl, h1, hA1⟩ := trodAll_cons hA0
  obtain ⟨hargs2, rfl, rfl⟩ := trodAll_nil hA1
  subst hargs2 hargs1 hargs0
  obtain ⟨rfl, rfl⟩ := trodVars_none hV
  obtain ⟨y0, hy0, hr0⟩ := isV_of rd22 h0 (hval 0 22 v0 rfl rfl)
  obtain ⟨y1, hy1, hr1⟩ := isV_of rd22 h1 (hval 1 22 v1 rfl rfl)
  refine law_calls (law09_SolidCubes_ok (k0 := kOf W) hy0 hy1 (law y0 y1 hr0 hr1)) fun k' hg => ?_
  exact ⟨_, rfl, post_law hW' Try.laidOut (by kernel_rfl) rfl rfl Try.underlying4 rfl hg⟩
theorem row_holds (law : ∀ (x0 : (List Box)) (x1 : (List Box)), Rg.rg x0 → Rg.rg x1 → law09_SolidCubes x0 x1 = some true) : Rows.SolidCubesSaid :=
  OpenClaim.holds_of_wide 4 Try.f4 rfl rfl rfl rfl rfl rfl rfl ⟨rfl, rfl, rfl, rfl, rfl⟩ rfl rfl rfl rfl rfl (by kernel_rfl) Try.func4 (by kernel_rfl)
    (of_decide_eq_true (by kernel_rfl)) (by unfold Func.isWrapper; first | (rw [if_pos (by decide +kernel)]; kernel_rfl) | (rw [if_neg (by decide +kernel)]; exact ⟨rfl, rfl⟩))
    (fun os started H enc _ => row_lifted law os started H enc)
theorem solid_cubes_holds : Rows.SolidCubesSaid := row_holds fun a b _ _ => law_SolidCubes a b
#print axioms solid_cubes_holds
end Go.Proofs.Ytmniloampanhfaa
