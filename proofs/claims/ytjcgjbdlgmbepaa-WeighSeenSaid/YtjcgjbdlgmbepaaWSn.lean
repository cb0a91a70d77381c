/-
  The law WeighSeen returns true and turns nothing that was there.
-/
import Derived.Test.YtjcgjbdlgmbepaaS9
import Derived.Test.YtjcgjbdlgmbepaaRows
import Derived.Test.YtjcgjbdlgmbepaaEN
import Derived.WalkKit
import Derived.ProofKit
import Derived.OpenShut
import Derived.ChangeOld
import Derived.Below
namespace Go.Proofs.Ytjcgjbdlgmbepaa.weighSeen
open Go.RowKit Go.ChangeShapes Go.WideShapes Go.ChangeAt
set_option linter.unusedVariables false
theorem K (y0 : Int × List (List Int) × Unit) (h : DT.wf (.pair (.int .u8) (.pair (.sl (.arr 9 (.int .u8))) .unit)) y0) : FnOk Try.prog 11 (F11 fun c => if c = y0 then some true else none) := KB11 y0 (bounds_u8 (show (Lit.int .u8 y0.1).wf = true ∧ _ from h).1)

set_option maxRecDepth 100000 in
theorem walk (w : World) (vs : List Value) (h : ArgsOk w [.pair (.int .u8) (.pair (.sl (.arr 9 (.int .u8))) .unit)] vs) : Calls Try.prog 11 vs.toArray w fun e w' => e = .returned (.bool true) ∧ Below w.heap.size w w' := by
  obtain ⟨v0, vs0, y0, rfl, w0, h0, k0⟩ := ArgsOk.cons h
  obtain rfl := ArgsOk.nil k0
  exact walkAll (K y0 w0) (xs := [.dv (.pair (.int .u8) (.pair (.sl (.arr 9 (.int .u8))) .unit)) y0]) (r := true) (if_pos rfl) rfl (HoldsAll.cons h0 HoldsAll.nil)

set_option maxRecDepth 100000 in
theorem lifted (os : Os) (started : os.Started) (H : Type) (enc : TypeId × Value → H) :
    ReturnsInHanded {} Try.checked os 11 .any (Rows.weighSeenSpec.pre6 enc Try.prog Try.f11 Rows.weighSeenRow.domain false) (Rows.weighSeenSpec.post enc Try.prog Try.f11 false true false false) :=
  lawShell (fn := Try.f11) (s := Rows.weighSeenSpec) (tb := 4) [.pair (.int .u8) (.pair (.sl (.arr 9 (.int .u8))) .unit)] Try.func11 (by kernel_rfl) (by kernel_rfl) (by kernel_rfl) Try.underlying4 (by kernel_rfl) os started H enc Rows.weighSeenRow.domain
    (fun ds hl => by
      match ds, hl with
      | [d0], _ => rfl)
    (ChangeSpec.witness6 (enc := enc) (C := Try.checked) false ⟨#[], #[.agg #[.int .u8 0, .slice none 0 0]], []⟩ 8 (by kernel_rfl) (by kernel_rfl) (by kernel_rfl) (by kernel_rfl)) walk

theorem over : Rows.weighSeenRow.holds Try.pinned (OpenSpec.ofChange Rows.weighSeenSpec) :=
  OpenClaim.holds_of_wide 11 Try.f11 rfl rfl rfl rfl rfl rfl rfl ⟨rfl, rfl, rfl, rfl, rfl⟩ rfl rfl rfl rfl rfl (by kernel_rfl) Try.func11 (by kernel_rfl)
    (of_decide_eq_true (by kernel_rfl)) (by unfold Func.isWrapper; first | (rw [if_pos (by decide +kernel)]; kernel_rfl) | (rw [if_neg (by decide +kernel)]; exact ⟨rfl, rfl⟩))
    (fun os started H enc _ => lifted os started H enc)

/-- THE STATEMENT. -/
theorem proved : Rows.WeighSeenSaid := over

end Go.Proofs.Ytjcgjbdlgmbepaa.weighSeen
