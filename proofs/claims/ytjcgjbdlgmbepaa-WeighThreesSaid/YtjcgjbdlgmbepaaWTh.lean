/-
  The law WeighThrees returns true and turns nothing that was there.
-/
import Derived.Test.YtjcgjbdlgmbepaaT9
import Derived.Test.YtjcgjbdlgmbepaaRows
import Derived.Test.YtjcgjbdlgmbepaaEN
import Derived.WalkKit
import Derived.ProofKit
import Derived.OpenShut
import Derived.ChangeOld
import Derived.Below
namespace Go.Proofs.Ytjcgjbdlgmbepaa.weighThrees
open Go.RowKit Go.ChangeShapes Go.WideShapes Go.ChangeAt
set_option linter.unusedVariables false
theorem wf_bytes {l : List Int} (h : DT.wf (.sl (.int .u8)) l) : bytesOk l := fun i hi => bounds_u8 ((show _ ∧ ∀ i, i < l.length → (Lit.int .u8 (l.getD i 0)).wf = true from h).2 i hi)
theorem K (y0 : List Int) (y1 : Int) (h : DT.wf (.sl (.int .u8)) y0) (h1 : DT.wf (.int .u16) y1) : FnOk Try.prog 8 (F8 fun c m => if c = y0 ∧ m = y1 then some true else none) := KB8 y0 y1 (wf_bytes h) (bounds_u16 h1)

set_option maxRecDepth 100000 in
theorem walk (w : World) (vs : List Value) (h : ArgsOk w [.sl (.int .u8), .int .u16] vs) : Calls Try.prog 8 vs.toArray w fun e w' => e = .returned (.bool true) ∧ Below w.heap.size w w' := by
  obtain ⟨v0, vs0, y0, rfl, w0, h0, k0⟩ := ArgsOk.cons h
  obtain ⟨v1, vs1, y1, rfl, w1, h1, k1⟩ := ArgsOk.cons k0
  obtain rfl := ArgsOk.nil k1
  exact walkAll (K y0 y1 w0 w1) (xs := [.dv (.sl (.int .u8)) y0, .dv (.int .u16) y1]) (r := true) (if_pos ⟨rfl, rfl⟩) rfl (HoldsAll.cons h0 (HoldsAll.cons h1 HoldsAll.nil))

set_option maxRecDepth 100000 in
theorem lifted (os : Os) (started : os.Started) (H : Type) (enc : TypeId × Value → H) :
    ReturnsInHanded {} Try.checked os 8 .any (Rows.weighThreesSpec.pre6 enc Try.prog Try.f8 Rows.weighThreesRow.domain false) (Rows.weighThreesSpec.post enc Try.prog Try.f8 false true false false) :=
  lawShell (fn := Try.f8) (s := Rows.weighThreesSpec) (tb := 4) [.sl (.int .u8), .int .u16] Try.func8 (by kernel_rfl) (by kernel_rfl) (by kernel_rfl) Try.underlying4 (by kernel_rfl) os started H enc Rows.weighThreesRow.domain
    (fun ds hl => by
      match ds, hl with
      | [d0, d1], _ => rfl)
    (ChangeSpec.witness6 (enc := enc) (C := Try.checked) false ⟨#[], #[.slice none 0 0, .int .u16 0], []⟩ 8 (by kernel_rfl) (by kernel_rfl) (by kernel_rfl) (by kernel_rfl)) walk

theorem over : Rows.weighThreesRow.holds Try.pinned (OpenSpec.ofChange Rows.weighThreesSpec) :=
  OpenClaim.holds_of_wide 8 Try.f8 rfl rfl rfl rfl rfl rfl rfl ⟨rfl, rfl, rfl, rfl, rfl⟩ rfl rfl rfl rfl rfl (by kernel_rfl) Try.func8 (by kernel_rfl)
    (of_decide_eq_true (by kernel_rfl)) (by unfold Func.isWrapper; first | (rw [if_pos (by decide +kernel)]; kernel_rfl) | (rw [if_neg (by decide +kernel)]; exact ⟨rfl, rfl⟩))
    (fun os started H enc _ => lifted os started H enc)

/-- THE STATEMENT. -/
theorem proved : Rows.WeighThreesSaid := over

end Go.Proofs.Ytjcgjbdlgmbepaa.weighThrees
