/-
  The law WeighTwins returns true and turns nothing that was there.
-/
import Derived.Test.YtjcgjbdlgmbepaaS5
import Derived.Test.YtjcgjbdlgmbepaaRows
import Derived.Test.YtjcgjbdlgmbepaaEN
import Derived.WalkKit
import Derived.ProofKit
import Derived.OpenShut
import Derived.ChangeOld
import Derived.Below
namespace Go.Proofs.Ytjcgjbdlgmbepaa.weighTwins
open Go.RowKit Go.ChangeShapes Go.WideShapes Go.ChangeAt
set_option linter.unusedVariables false
theorem K (y0 : Int) (y1 : List Wg) (y2 : List Int) (_ : DT.wf (.int .i64) y0) (_ : DT.wf (.sl (.pair (.sl (.int .i64)) (.pair (.sl (.int .i64)) .unit))) y1) (_ : DT.wf (.sl (.int .i64)) y2) : FnOk Try.prog 6 (F6 fun _ _ _ => some true) := KB6

set_option maxRecDepth 100000 in
theorem walk (w : World) (vs : List Value) (h : ArgsOk w [.int .i64, .sl (.pair (.sl (.int .i64)) (.pair (.sl (.int .i64)) .unit)), .sl (.int .i64)] vs) : Calls Try.prog 6 vs.toArray w fun e w' => e = .returned (.bool true) ∧ Below w.heap.size w w' := by
  obtain ⟨v0, vs0, y0, rfl, w0, h0, k0⟩ := ArgsOk.cons h
  obtain ⟨v1, vs1, y1, rfl, w1, h1, k1⟩ := ArgsOk.cons k0
  obtain ⟨v2, vs2, y2, rfl, w2, h2, k2⟩ := ArgsOk.cons k1
  obtain rfl := ArgsOk.nil k2
  exact walkAll (K y0 y1 y2 w0 w1 w2) (xs := [.dv (.int .i64) y0, .dv (.sl (.pair (.sl (.int .i64)) (.pair (.sl (.int .i64)) .unit))) y1, .dv (.sl (.int .i64)) y2]) (r := true) rfl rfl (HoldsAll.cons h0 (HoldsAll.cons h1 (HoldsAll.cons h2 HoldsAll.nil)))

set_option maxRecDepth 100000 in
theorem lifted (os : Os) (started : os.Started) (H : Type) (enc : TypeId × Value → H) :
    ReturnsInHanded {} Try.checked os 6 .any (Rows.weighTwinsSpec.pre6 enc Try.prog Try.f6 Rows.weighTwinsRow.domain false) (Rows.weighTwinsSpec.post enc Try.prog Try.f6 false true false false) :=
  lawShell (fn := Try.f6) (s := Rows.weighTwinsSpec) (tb := 4) [.int .i64, .sl (.pair (.sl (.int .i64)) (.pair (.sl (.int .i64)) .unit)), .sl (.int .i64)] Try.func6 (by kernel_rfl) (by kernel_rfl) (by kernel_rfl) Try.underlying4 (by kernel_rfl) os started H enc Rows.weighTwinsRow.domain
    (fun ds hl => by
      match ds, hl with
      | [d0, d1, d2], _ => rfl)
    (ChangeSpec.witness6 (enc := enc) (C := Try.checked) false ⟨#[], #[.int .i64 0, .slice none 0 0, .slice none 0 0], []⟩ 8 (by kernel_rfl) (by kernel_rfl) (by kernel_rfl) (by kernel_rfl)) walk

theorem over : Rows.weighTwinsRow.holds Try.pinned (OpenSpec.ofChange Rows.weighTwinsSpec) :=
  OpenClaim.holds_of_wide 6 Try.f6 rfl rfl rfl rfl rfl rfl rfl ⟨rfl, rfl, rfl, rfl, rfl⟩ rfl rfl rfl rfl rfl (by kernel_rfl) Try.func6 (by kernel_rfl)
    (of_decide_eq_true (by kernel_rfl)) (by unfold Func.isWrapper; first | (rw [if_pos (by decide +kernel)]; kernel_rfl) | (rw [if_neg (by decide +kernel)]; exact ⟨rfl, rfl⟩))
    (fun os started H enc _ => lifted os started H enc)

/-- THE STATEMENT. -/
theorem proved : Rows.WeighTwinsSaid := over

end Go.Proofs.Ytjcgjbdlgmbepaa.weighTwins
