/- For all rectangles, lists of planes and numbers, whatever they are, the law PlaneRooms returns true, and leaves its arguments as they were; the package-level variable grid starts as the text of the program lays it. -/
import Derived.Test.YtpbeebhapbibfaaDoorTie
import Derived.Test.YtpbeebhapbibfaaDoorCards
import Derived.Test.YtpbeebhapbibfaaDoorP2
namespace Go.Proofs.YtpbeebhapbibfaaDoor
open Go.Gb
set_option maxRecDepth 100000
set_option linter.unusedVariables false
open Go.ChangeShapes Go.WideShapes Go.ChangeAt Go.WideMaps Go.WideElems Go.RowKit
theorem Tryd.own : ownKnob Tryd.prog.godebug = none := by kernel_rfl
theorem Tryd.laidOut : laidOutB Tryd.prog = true := by kernel_rfl
/-- The door's own heap meets the condition. -/
theorem door_met (os : Os) (args : Array Value) : laidMetH Tryd.prog Rows.planeRoomsRow.laid ((World.doorLaid Tryd.prog 400 os).forCall (fun _ _ => 0) ⟨#[], args, []⟩).memory :=
  laidMetH_of_parts3 (fuel := 8) (laidMet_of_run' 8 (by kernel_rfl) (by kernel_rfl)) (by kernel_rfl) (by kernel_rfl)
/-- What the condition says of the package-level variables. -/
theorem of_laid {W : World} (h : laidMetH Tryd.prog Rows.planeRoomsRow.laid W) : GOk tbg (kOf W) := by
  rw [MakeChecks.laidMetH_plain _ _ _ (by kernel_rfl)] at h
  obtain ⟨ps, hL, _, _⟩ := h
  dsimp only [Rows.planeRoomsRow] at hL
  obtain ⟨h0, qs0, hL0⟩ := ref_of_laid (x := (⟨0, 0, 1048576, 1048576⟩ : Rect)) (show Tryd.prog.globalNamed "greenbelt/plane.grid" = some 0 by kernel_rfl) (show (Tryd.prog.globals[0]?).map (·.type) = some 23 by kernel_rfl) (by kernel_rfl) (ld_struct (σ := Rect) (fun x => (x.X0, x.Y0, x.X1, x.Y1)) Tryd.underlying23 (by kernel_rfl) (fun _ _ _ h => h) (LdF.cons rfl (by kernel_rfl) (ld_int Tryd.underlying3) (LdF.cons rfl (by kernel_rfl) (ld_int Tryd.underlying3) (LdF.cons rfl (by kernel_rfl) (ld_int Tryd.underlying3) (LdF.one rfl (by kernel_rfl) (ld_int Tryd.underlying3)))))) hL
  intro g t x e
  unfold tbg Tb.withG glv at e
  dsimp only at e
  split at e
  · cases e; exact h0
  · cases e
set_option maxRecDepth 100000 in
theorem row_lifted (law : ∀ (x0 : Rect) (x1 : (List Plane)) (x2 : Int) (x3 : Int) (x4 : Int) (x5 : Int) (x6 : Int), Rg.rg x0 → Rg.rg x1 → Rg.rg x2 → Rg.rg x3 → Rg.rg x4 → Rg.rg x5 → Rg.rg x6 → law10_PlaneRooms x0 x1 x2 x3 x4 x5 x6 = some true) (os : Os) (started : os.Started) (H : Type) (enc : TypeId × Value → H) :
    ReturnsInHanded {} Tryd.checked os 4 .any (fun w args => (Rows.planeRoomsSpec.pre enc Tryd.prog Tryd.f4 [] false w args ∧ laidMetH Tryd.prog Rows.planeRoomsRow.laid w) ∧ sizedMet enc Tryd.prog Tryd.f4 (OpenSpec.ofChange Rows.planeRoomsSpec) false w args) (Rows.planeRoomsSpec.post enc Tryd.prog Tryd.f4 false true false false) := by
  refine returnsInHanded_of_change_and (C := Tryd.checked) (X := fun w _ => laidMetH Tryd.prog Rows.planeRoomsRow.laid w) (fun _ _ _ hh h => h.of_heap hh) Tryd.own started (by kernel_rfl) Tryd.func4
    (ChangeSpec.witness_shaped (enc := enc) (C := Tryd.checked) (os := os) (X := fun w _ => laidMetH Tryd.prog Rows.planeRoomsRow.laid w) false (World.doorLaid Tryd.prog 400 os) #[.agg #[.int .i64 0, .int .i64 0, .int .i64 0, .int .i64 0], .slice none 0 0, .int .i64 0, .int .i64 0, .int .i64 0, .int .i64 0, .int .i64 0] 8 rfl (World.shaped_of_RefB (by kernel_rfl) (by kernel_rfl)) (by kernel_rfl) (by kernel_rfl) (by kernel_rfl) (door_met os _)) ?_
  intro W base args ds gs before hval0 hW _ _ hL _
  have hval : ∀ (j : Nat) t v, Tryd.f4.params[j]? = some t → args[j]? = some v → Value.okWide Tryd.prog W .any base t v := hval0
  have hW' := hW
  obtain ⟨p, q, hA0, hV, rfl, hfz, hnd⟩ := hW
  have hA : DataW.TrodAll enc Tryd.prog W 0 (fun _ => true) true Tryd.f4.params.toList args.toList ds p := hA0
  rw [Tryd.params4] at hA hval
  obtain ⟨args⟩ := args
  obtain ⟨v0, vs0, d0, ds0, p0, q0, hargs0, rfl, rfl, h0, hA0⟩ := trodAll_cons hA
  obtain ⟨v1, vs1, d1, ds1, p1, q1, hargs1, rfl, rfl, h1, hA1⟩ := trodAll_cons hA0
  obtain ⟨v2, vs2, d2, ds2, p2, q2, hargs2, rfl, rfl, h2, hA2⟩ := trodAll_cons hA1
  obtain ⟨v3, vs3, d3, ds3, p3, q3, hargs3, rfl, rfl, h3, hA3⟩ := trodAll_cons hA2
  obtain ⟨v4, vs4, d4, ds4, p4, q4, hargs4, rfl, rfl, h4, hA4⟩ := trodAll_cons hA3
  obtain ⟨v5, vs5, d5, ds5, p5, q5, hargs5, rfl, rfl, h5, hA5⟩ := trodAll_cons hA4
  obtain ⟨v6, vs6, d6, ds6, p6, q6, hargs6, rfl, rfl, h6, hA6⟩ := trodAll_cons hA5
  obtain ⟨hargs7, rfl, rfl⟩ := trodAll_nil hA6
  subst hargs7 hargs6 hargs5 hargs4 hargs3 hargs2 hargs1 hargs0
  obtain ⟨rfl, rfl⟩ := trodVars_none hV
  obtain ⟨y0, hy0, hr0⟩ := isV_of rd23 h0 (hval 0 23 v0 rfl rfl)
  obtain ⟨y1, hy1, hr1⟩ := isV_of rd24 h1 (hval 1 24 v1 rfl rfl)
  obtain ⟨y2, hy2, hr2⟩ := isV_of rd3 h2 (hval 2 3 v2 rfl rfl)
  obtain ⟨y3, hy3, hr3⟩ := isV_of rd3 h3 (hval 3 3 v3 rfl rfl)
  obtain ⟨y4, hy4, hr4⟩ := isV_of rd3 h4 (hval 4 3 v4 rfl rfl)
  obtain ⟨y5, hy5, hr5⟩ := isV_of rd3 h5 (hval 5 3 v5 rfl rfl)
  obtain ⟨y6, hy6, hr6⟩ := isV_of rd3 h6 (hval 6 3 v6 rfl rfl)
  refine law_calls (law10_PlaneRooms_ok (k0 := kOf W) (of_laid hL) hy0 hy1 hy2 hy3 hy4 hy5 hy6 (law y0 y1 y2 y3 y4 y5 y6 hr0 hr1 hr2 hr3 hr4 hr5 hr6)) fun k' hg => ?_
  exact ⟨_, rfl, post_law hW' Tryd.laidOut (by kernel_rfl) rfl rfl Tryd.underlying4 rfl hg⟩
theorem row_holds (law : ∀ (x0 : Rect) (x1 : (List Plane)) (x2 : Int) (x3 : Int) (x4 : Int) (x5 : Int) (x6 : Int), Rg.rg x0 → Rg.rg x1 → Rg.rg x2 → Rg.rg x3 → Rg.rg x4 → Rg.rg x5 → Rg.rg x6 → law10_PlaneRooms x0 x1 x2 x3 x4 x5 x6 = some true) : Rows.PlaneRoomsSaid :=
  OpenClaim.holds_of_wide 4 Tryd.f4 rfl rfl rfl rfl rfl rfl rfl ⟨rfl, rfl, rfl, rfl, rfl⟩ rfl rfl rfl rfl rfl (by kernel_rfl) Tryd.func4 (by kernel_rfl)
    (of_decide_eq_true (by kernel_rfl)) (by unfold Func.isWrapper; first | (rw [if_pos (by decide +kernel)]; kernel_rfl) | (rw [if_neg (by decide +kernel)]; exact ⟨rfl, rfl⟩))
    (fun os started H enc _ => row_lifted law os started H enc)
theorem plane_rooms_holds : Rows.PlaneRoomsCardSaid :=
  Claim7.holds_tied_plain_at .later [] [.data] true (true, "54192e92a02223c23a34230bc47be1cd6a3f998f134d774a97ebc68ffaddf891") false
    (row_holds (fun b l x y z w m _ _ _ _ _ _ _ => law_PlaneRooms b l x y z w m)) (fun _ h => by cases h) (by kernel_rfl) (fun _ h => by cases h) planeRooms_row_tie rfl ⟨rfl, rfl⟩ (by kernel_rfl) rfl
    (fun f fn hf hfn => by
      obtain rfl : f = 4 := Option.some.inj ((show Tryd.prog.funcNamed "greenbelt/greenbeltlaw10.PlaneRooms" = some 4 by kernel_rfl).symm.trans hf) |>.symm
      obtain rfl : fn = Tryd.f4 := (Option.some.inj (Tryd.func4.symm.trans hfn)).symm
      exact ⟨by kernel_rfl, fun j t ht => by
        rw [Tryd.params4] at ht
        have hm : t ∈ [23, 24, 3, 3, 3, 3, 3] := by simpa using Array.mem_of_getElem? ht
        have hall : ([23, 24, 3, 3, 3, 3, 3].all fun u => !Tryd.prog.wantsStandIn u) = true := by kernel_rfl
        exact (show Tryd.prog.wantsStandIn t = false by simpa using List.all_eq_true.1 hall t hm)⟩)
    (by kernel_rfl)
#print axioms plane_rooms_holds
end Go.Proofs.YtpbeebhapbibfaaDoor
