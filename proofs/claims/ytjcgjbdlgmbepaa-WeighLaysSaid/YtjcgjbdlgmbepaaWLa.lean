/-
  The law WeighLays returns true and turns nothing that was there.
-/
import Derived.Test.YtjcgjbdlgmbepaaT6
import Derived.Test.YtjcgjbdlgmbepaaRows
import Derived.Test.YtjcgjbdlgmbepaaEN
import Derived.WalkKit
import Derived.ProofKit
import Derived.OpenShut
import Derived.ChangeOld
import Derived.Below
namespace Go.Proofs.Ytjcgjbdlgmbepaa.weighLays
open Go.RowKit Go.ChangeShapes Go.WideShapes Go.ChangeAt
set_option linter.unusedVariables false
theorem wf_i64 {x : Int} (h : DT.wf (.int .i64) x) : -9223372036854775808 ≤ x ∧ x ≤ 9223372036854775807 := bounds_i64 h
theorem K (y0 : List Int) (y1 : Int) (y2 : List Int) (y3 : Int) (_ : DT.wf (.sl (.int .i64)) y0) (_ : DT.wf (.int .i64) y1) (_ : DT.wf (.sl (.int .i64)) y2) (h : DT.wf (.int .i64) y3) : FnOk Try.prog 4 (F4 fun _ _ _ o => if o = y3 then some true else none) := KB4 y3 (wf_i64 h)

set_option maxRecDepth 100000 in
theorem walk (w : World) (vs : List Value) (h : ArgsOk w [.sl (.int .i64), .int .i64, .sl (.int .i64), .int .i64] vs) : Calls Try.prog 4 vs.toArray w fun e w' => e = .returned (.bool true) ∧ Below w.heap.size w w' := by
  obtain ⟨v0, vs0, y0, rfl, w0, h0, k0⟩ := ArgsOk.cons h
  obtain ⟨v1, vs1, y1, rfl, w1, h1, k1⟩ := ArgsOk.cons k0
  obtain ⟨v2, vs2, y2, rfl, w2, h2, k2⟩ := ArgsOk.cons k1
  obtain ⟨v3, vs3, y3, rfl, w3, h3, k3⟩ := ArgsOk.cons k2
  obtain rfl := ArgsOk.nil k3
  exact walkAll (K y0 y1 y2 y3 w0 w1 w2 w3) (xs := [.dv (.sl (.int .i64)) y0, .dv (.int .i64) y1, .dv (.sl (.int .i64)) y2, .dv (.int .i64) y3]) (r := true) (if_pos rfl) rfl (HoldsAll.cons h0 (HoldsAll.cons h1 (HoldsAll.cons h2 (HoldsAll.cons h3 HoldsAll.nil))))

set_option maxRecDepth 100000 in
theorem lifted (os : Os) (started : os.Started) (H : Type) (enc : TypeId × Value → H) :
    ReturnsInHanded {} Try.checked os 4 .any (Rows.weighLaysSpec.pre6 enc Try.prog Try.f4 Rows.weighLaysRow.domain false) (Rows.weighLaysSpec.post enc Try.prog Try.f4 false true false false) :=
  lawShell (fn := Try.f4) (s := Rows.weighLaysSpec) (tb := 4) [.sl (.int .i64), .int .i64, .sl (.int .i64), .int .i64] Try.func4 (by kernel_rfl) (by kernel_rfl) (by kernel_rfl) Try.underlying4 (by kernel_rfl) os started H enc Rows.weighLaysRow.domain
    (fun ds hl => by
      match ds, hl with
      | [d0, d1, d2, d3], _ => rfl)
    (ChangeSpec.witness6 (enc := enc) (C := Try.checked) false ⟨#[], #[.slice none 0 0, .int .i64 0, .slice none 0 0, .int .i64 0], []⟩ 8 (by kernel_rfl) (by kernel_rfl) (by kernel_rfl) (by kernel_rfl)) walk

theorem over : Rows.weighLaysRow.holds Try.pinned (OpenSpec.ofChange Rows.weighLaysSpec) :=
  OpenClaim.holds_of_wide 4 Try.f4 rfl rfl rfl rfl rfl rfl rfl ⟨rfl, rfl, rfl, rfl, rfl⟩ rfl rfl rfl rfl rfl (by kernel_rfl) Try.func4 (by kernel_rfl)
    (of_decide_eq_true (by kernel_rfl)) (by unfold Func.isWrapper; first | (rw [if_pos (by decide +kernel)]; kernel_rfl) | (rw [if_neg (by decide +kernel)]; exact ⟨rfl, rfl⟩))
    (fun os started H enc _ => lifted os started H enc)

/-- THE STATEMENT. -/
theorem proved : Rows.WeighLaysSaid := over

end Go.Proofs.Ytjcgjbdlgmbepaa.weighLays
