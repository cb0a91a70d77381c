/-
  The law WeighNames returns true and turns nothing that was there.
-/
import Derived.Test.YtjcgjbdlgmbepaaS10
import Derived.Test.YtjcgjbdlgmbepaaRows
import Derived.Test.YtjcgjbdlgmbepaaEN
import Derived.WalkKit
import Derived.ProofKit
import Derived.OpenShut
import Derived.ChangeOld
import Derived.Below
namespace Go.Proofs.Ytjcgjbdlgmbepaa.weighNames
open Go.RowKit Go.ChangeShapes Go.WideShapes Go.ChangeAt
set_option linter.unusedVariables false
theorem K (y0 : Int × List (List Int) × Unit) (y1 y2 : Int) (y3 : Bool) (h : DT.wf (.pair (.int .u8) (.pair (.sl (.arr 9 (.int .u8))) .unit)) y0) (h1 : DT.wf (.int .u8) y1) (h2 : DT.wf (.int .u8) y2) (_ : DT.wf .bool y3) : FnOk Try.prog 14 (F14 fun c o t v => if c = y0 ∧ o = y1 ∧ t = y2 then some true else none) :=
  KB14 y0 y1 y2 y3 (bounds_u8 (show (Lit.int .u8 y0.1).wf = true ∧ _ from h).1) (bounds_u8 h1) (bounds_u8 h2)

set_option maxRecDepth 100000 in
theorem walk (w : World) (vs : List Value) (h : ArgsOk w [.pair (.int .u8) (.pair (.sl (.arr 9 (.int .u8))) .unit), .int .u8, .int .u8, .bool] vs) : Calls Try.prog 14 vs.toArray w fun e w' => e = .returned (.bool true) ∧ Below w.heap.size w w' := by
  obtain ⟨v0, vs0, y0, rfl, w0, h0, k0⟩ := ArgsOk.cons h
  obtain ⟨v1, vs1, y1, rfl, w1, h1, k1⟩ := ArgsOk.cons k0
  obtain ⟨v2, vs2, y2, rfl, w2, h2, k2⟩ := ArgsOk.cons k1
  obtain ⟨v3, vs3, y3, rfl, w3, h3, k3⟩ := ArgsOk.cons k2
  obtain rfl := ArgsOk.nil k3
  exact walkAll (K y0 y1 y2 y3 w0 w1 w2 w3) (xs := [.dv (.pair (.int .u8) (.pair (.sl (.arr 9 (.int .u8))) .unit)) y0, .dv (.int .u8) y1, .dv (.int .u8) y2, .dv (.bool) y3]) (r := true) (if_pos ⟨rfl, rfl, rfl⟩) rfl (HoldsAll.cons h0 (HoldsAll.cons h1 (HoldsAll.cons h2 (HoldsAll.cons h3 HoldsAll.nil))))

set_option maxRecDepth 100000 in
theorem lifted (os : Os) (started : os.Started) (H : Type) (enc : TypeId × Value → H) :
    ReturnsInHanded {} Try.checked os 14 .any (Rows.weighNamesSpec.pre6 enc Try.prog Try.f14 Rows.weighNamesRow.domain false) (Rows.weighNamesSpec.post enc Try.prog Try.f14 false true false false) :=
  lawShell (fn := Try.f14) (s := Rows.weighNamesSpec) (tb := 4) [.pair (.int .u8) (.pair (.sl (.arr 9 (.int .u8))) .unit), .int .u8, .int .u8, .bool] Try.func14 (by kernel_rfl) (by kernel_rfl) (by kernel_rfl) Try.underlying4 (by kernel_rfl) os started H enc Rows.weighNamesRow.domain
    (fun ds hl => by
      match ds, hl with
      | [d0, d1, d2, d3], _ => rfl)
    (ChangeSpec.witness6 (enc := enc) (C := Try.checked) false ⟨#[], #[.agg #[.int .u8 0, .slice none 0 0], .int .u8 0, .int .u8 0, .bool false], []⟩ 8 (by kernel_rfl) (by kernel_rfl) (by kernel_rfl) (by kernel_rfl)) walk

theorem over : Rows.weighNamesRow.holds Try.pinned (OpenSpec.ofChange Rows.weighNamesSpec) :=
  OpenClaim.holds_of_wide 14 Try.f14 rfl rfl rfl rfl rfl rfl rfl ⟨rfl, rfl, rfl, rfl, rfl⟩ rfl rfl rfl rfl rfl (by kernel_rfl) Try.func14 (by kernel_rfl)
    (of_decide_eq_true (by kernel_rfl)) (by unfold Func.isWrapper; first | (rw [if_pos (by decide +kernel)]; kernel_rfl) | (rw [if_neg (by decide +kernel)]; exact ⟨rfl, rfl⟩))
    (fun os started H enc _ => lifted os started H enc)

/-- THE STATEMENT. -/
theorem proved : Rows.WeighNamesSaid := over

end Go.Proofs.Ytjcgjbdlgmbepaa.weighNames
