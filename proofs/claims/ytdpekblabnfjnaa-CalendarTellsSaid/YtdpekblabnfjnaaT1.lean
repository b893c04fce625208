/- What the functions compute that the law reaches, part 1 -/
import Derived.Test.YtdpekblabnfjnaaProg
import Derived.Test.YtdpekblabnfjnaaL4
import Derived.Shelf.SlSortCmp.NoneTotal
import Derived.Deep.LoopGhost
import Derived.Shelf.Small.Bits
namespace Go.Proofs.Ytdpekblabnfjnaa
open Go.Gb
set_option linter.unusedVariables false
set_option linter.unusedSimpArgs false
set_option maxRecDepth 100000
structure Stay where
  From : Int
  To : Int
  deriving DecidableEq, Inhabited
instance : Enc Stay := Enc.ofMap fun x => (x.From, x.To)
theorem hmix : Try.prog.follows .mixedOrders = true := by kernel_rfl
theorem ty38 : Ty Try.prog 38 Stay := ⟨⟨_, Try.underlying38, rfl⟩, by kernel_rfl⟩
theorem szf38 : (Try.prog.info? 38).map (·.size) = some (Enc.sz Stay) := by kernel_rfl
theorem ty3 : Ty Try.prog 3 Int := ⟨⟨_, Try.underlying3, rfl⟩, by kernel_rfl⟩
theorem fo38_0 : FieldOk Try.prog 38 0 0 := ⟨_, _, 0, Try.underlying38, rfl, rfl, by kernel_rfl⟩
theorem at_Stay_0 (y : Stay) (ad : Addr) (k : K) (h : At y ad k) : At y.From (ad.add 0) k :=
  have h0 : At (y.From, y.To) ad k := h
  At.fst (At.zero h0)
theorem fo38_1 : FieldOk Try.prog 38 1 1 := ⟨_, _, 0, Try.underlying38, rfl, rfl, by kernel_rfl⟩
theorem at_Stay_1 (y : Stay) (ad : Addr) (k : K) (h : At y ad k) : At y.To (ad.add 1) k :=
  have h0 : At (y.From, y.To) ad k := h
  At.snd' (At.zero h0)
theorem z38 : Zero Try.prog 38 ((⟨0, 0⟩ : Stay) : Stay) := ⟨_, Try.zeroValue38, fun _ => ⟨_, rfl, ⟨rfl, rfl, rfl⟩⟩⟩
theorem eo38 : ElemOk Try.prog 38 Stay := ⟨_, _, rfl, rfl, rfl, rfl, by decide, by decide⟩
theorem upd_F38_1 : Upd (α := Stay) (β := Int) (0 + 1) (fun x y => { x with To := y }) := fun k cs cy x y hx hy => (Upd.snd Upd.self) k cs cy (x.From, x.To) y hx hy
theorem szf3 : (Try.prog.info? 3).map (·.size) = some (Enc.sz Int) := by kernel_rfl
theorem z23 : Zero Try.prog 23 ([] : (List Stay)) := ⟨_, Try.zeroValue23, fun _ => ⟨_, rfl, ⟨_, rfl, .inl ⟨rfl, rfl⟩⟩⟩⟩
theorem szf23 : (Try.prog.info? 23).map (·.size) = some (Enc.sz (List Stay)) := by kernel_rfl
theorem ty22 : Ty Try.prog 22 (List Int) := ⟨⟨_, Try.underlying22, rfl⟩, by kernel_rfl⟩
theorem ty23 : Ty Try.prog 23 (List Stay) := ⟨⟨_, Try.underlying23, rfl⟩, by kernel_rfl⟩
theorem eo3 : ElemOk Try.prog 3 Int := ⟨_, _, rfl, rfl, rfl, rfl, by decide, by decide⟩
theorem bld38_0_1 {k : K} {v0 v1 : Value} {x0 : Int} {x1 : Int} (h0 : IsV x0 v0 k) (h1 : IsV x1 v1 k) : ∃ v, (∀ w, (Instr.build 38 #[(0, v0), (1, v1)]).run Try.prog w = .ok v w) ∧ IsV (⟨x0, x1⟩ : Stay) v k := by
  obtain ⟨l0, e0, r0, n0⟩ := isV_cellsL h0
  obtain ⟨u0_0, rfl⟩ := len1 n0
  obtain ⟨l1, e1, r1, n1⟩ := isV_cellsL h1
  obtain ⟨u1_0, rfl⟩ := len1 n1
  refine ⟨.agg #[u0_0, u1_0], fun w => ?_, [u0_0, u1_0], rfl, ⟨rfl, r0, r1⟩⟩
  simp [Instr.build, Instr.fill, cells_agg, e0, e1]
theorem rd3 : Rd Try.prog 3 Int := rd_int Try.underlying3
theorem rd22 : Rd Try.prog 22 (List Int) := rd_slice Try.underlying22 (by kernel_rfl) (by decide) (by kernel_rfl) rd3
instance : Rg Stay := Rg.ofMap fun x => (x.From, x.To)
theorem rd38 : Rd Try.prog 38 Stay := rd_struct (f := fun x => (x.From, x.To)) (fun y => ⟨y.1, y.2⟩) Try.underlying38 (by kernel_rfl) rfl (fun _ _ _ h => h) (fun _ h => h) (RdF.cons rfl (by kernel_rfl) rd3 (RdF.one rfl (by kernel_rfl) rd3)) (fun _ => rfl)
theorem rd23 : Rd Try.prog 23 (List Stay) := rd_slice Try.underlying23 (by kernel_rfl) (by decide) (by kernel_rfl) rd38
end Go.Proofs.Ytdpekblabnfjnaa
