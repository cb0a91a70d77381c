/-
  The law WeighMore returns true and turns nothing that was there.
-/
import Derived.Test.YtjcgjbdlgmbepaaT7
import Derived.Test.YtjcgjbdlgmbepaaRows
import Derived.Test.YtjcgjbdlgmbepaaEN
import Derived.WalkKit
import Derived.ProofKit
import Derived.OpenShut
import Derived.ChangeOld
import Derived.Below
namespace Go.Proofs.Ytjcgjbdlgmbepaa.weighMore
open Go.RowKit Go.ChangeShapes Go.WideShapes Go.ChangeAt
set_option linter.unusedVariables false
theorem wf_bytes {l : List Int} (h : DT.wf (.sl (.int .u8)) l) : bytesOk l := fun i hi => bounds_u8 ((show _ ∧ ∀ i, i < l.length → (Lit.int .u8 (l.getD i 0)).wf = true from h).2 i hi)
theorem K (y0 : List Int) (y1 y2 : Int) (h : DT.wf (.sl (.int .u8)) y0) (h1 : DT.wf (.int .u8) y1) (h2 : DT.wf (.int .u8) y2) : FnOk Try.prog 10 (F10 fun c m t => if c = y0 ∧ m = y1 ∧ t = y2 then some true else none) := KB10 y0 y1 y2 (wf_bytes h) (bounds_u8 h1) (bounds_u8 h2)

set_option maxRecDepth 100000 in
theorem walk (w : World) (vs : List Value) (h : ArgsOk w [.sl (.int .u8), .int .u8, .int .u8] vs) : Calls Try.prog 10 vs.toArray w fun e w' => e = .returned (.bool true) ∧ Below w.heap.size w w' := by
  obtain ⟨v0, vs0, y0, rfl, w0, h0, k0⟩ := ArgsOk.cons h
  obtain ⟨v1, vs1, y1, rfl, w1, h1, k1⟩ := ArgsOk.cons k0
  obtain ⟨v2, vs2, y2, rfl, w2, h2, k2⟩ := ArgsOk.cons k1
  obtain rfl := ArgsOk.nil k2
  exact walkAll (K y0 y1 y2 w0 w1 w2) (xs := [.dv (.sl (.int .u8)) y0, .dv (.int .u8) y1, .dv (.int .u8) y2]) (r := true) (if_pos ⟨rfl, rfl, rfl⟩) rfl (HoldsAll.cons h0 (HoldsAll.cons h1 (HoldsAll.cons h2 HoldsAll.nil)))

set_option maxRecDepth 100000 in
theorem lifted (os : Os) (started : os.Started) (H : Type) (enc : TypeId × Value → H) :
    ReturnsInHanded {} Try.checked os 10 .any (Rows.weighMoreSpec.pre6 enc Try.prog Try.f10 Rows.weighMoreRow.domain false) (Rows.weighMoreSpec.post enc Try.prog Try.f10 false true false false) :=
  lawShell (fn := Try.f10) (s := Rows.weighMoreSpec) (tb := 4) [.sl (.int .u8), .int .u8, .int .u8] Try.func10 (by kernel_rfl) (by kernel_rfl) (by kernel_rfl) Try.underlying4 (by kernel_rfl) os started H enc Rows.weighMoreRow.domain
    (fun ds hl => by
      match ds, hl with
      | [d0, d1, d2], _ => rfl)
    (ChangeSpec.witness6 (enc := enc) (C := Try.checked) false ⟨#[], #[.slice none 0 0, .int .u8 0, .int .u8 0], []⟩ 8 (by kernel_rfl) (by kernel_rfl) (by kernel_rfl) (by kernel_rfl)) walk

theorem over : Rows.weighMoreRow.holds Try.pinned (OpenSpec.ofChange Rows.weighMoreSpec) :=
  OpenClaim.holds_of_wide 10 Try.f10 rfl rfl rfl rfl rfl rfl rfl ⟨rfl, rfl, rfl, rfl, rfl⟩ rfl rfl rfl rfl rfl (by kernel_rfl) Try.func10 (by kernel_rfl)
    (of_decide_eq_true (by kernel_rfl)) (by unfold Func.isWrapper; first | (rw [if_pos (by decide +kernel)]; kernel_rfl) | (rw [if_neg (by decide +kernel)]; exact ⟨rfl, rfl⟩))
    (fun os started H enc _ => lifted os started H enc)

/-- THE STATEMENT. -/
theorem proved : Rows.WeighMoreSaid := over

end Go.Proofs.Ytjcgjbdlgmbepaa.weighMore
