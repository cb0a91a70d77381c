/-
  The law TopBraced returns true and turns nothing that was there.
-/
import Derived.Test.YtplbdongegfdnaaGU
import Derived.Test.YtplbdongegfdnaaWC0
import Derived.Test.YtplbdongegfdnaaRows
import Derived.Test.YtplbdongegfdnaaEN
import Derived.WalkKit
import Derived.ProofKit
import Derived.OpenShut
import Derived.ChangeOld
import Derived.Below
namespace Go.Proofs.Ytplbdongegfdnaa.topBraced
open Go.RowKit Go.ChangeShapes Go.WideShapes Go.ChangeAt
set_option linter.unusedVariables false
theorem b256 {n : Int} (h : (Lit.int .u8 n).wf = true) : 0 ≤ n ∧ n ≤ 255 := by have := bounds_u8 h; omega
theorem wfU {y : Int} (h : DT.wf (.int .u8) y) : 0 ≤ y ∧ y ≤ 255 := b256 h
theorem wfUs {y : List Int} (h : DT.wf (.sl (.int .u8)) y) : bsB y = true := by
  simp only [bsB, List.all_eq_true, decide_eq_true_eq]
  intro x hx
  obtain ⟨_, h2⟩ := (show y.length ≤ maxLen ∧ ∀ i, i < y.length → (Lit.int .u8 (y.getD i (DT.dflt (.int .u8)))).wf = true from h)
  obtain ⟨i, hi, rfl⟩ := List.getElem_of_mem hx
  have := h2 i hi
  rw [List.getD_eq_getElem?_getD, List.getElem?_eq_getElem hi] at this
  exact b256 this
theorem K (y0 : Int) (y1 : List Int) (y2 : List Int) (y3 : Int) (y4 : Int) (_ : DT.wf (.int .u8) y0) (_ : DT.wf (.sl (.int .u8)) y1) (_ : DT.wf (.sl (.int .u8)) y2) (_ : DT.wf (.int .u8) y3) (_ : DT.wf (.int .u8) y4) : FnOk Try.prog 4 (F4 B4) := KB4

theorem glb0 {w : World} {G : Nat → Prop} : GlbOk w G := fun g t x e => by cases e

set_option maxRecDepth 100000 in
theorem walk (w : World) (vs : List Value) (h : ArgsOk w [.int .u8, .sl (.int .u8), .sl (.int .u8), .int .u8, .int .u8] vs) : Calls Try.prog 4 vs.toArray w fun e w' => e = .returned (.bool true) ∧ Below w.heap.size w w' := by
  obtain ⟨v0, vs0, y0, rfl, w0, h0, k0⟩ := ArgsOk.cons h
  obtain ⟨v1, vs1, y1, rfl, w1, h1, k1⟩ := ArgsOk.cons k0
  obtain ⟨v2, vs2, y2, rfl, w2, h2, k2⟩ := ArgsOk.cons k1
  obtain ⟨v3, vs3, y3, rfl, w3, h3, k3⟩ := ArgsOk.cons k2
  obtain ⟨v4, vs4, y4, rfl, w4, h4, k4⟩ := ArgsOk.cons k3
  obtain rfl := ArgsOk.nil k4
  exact walkAll (K y0 y1 y2 y3 y4 w0 w1 w2 w3 w4) (xs := [.dv (.int .u8) y0, .dv (.sl (.int .u8)) y1, .dv (.sl (.int .u8)) y2, .dv (.int .u8) y3, .dv (.int .u8) y4]) (r := true) (if_pos ⟨wfU w0, wfUs w1, wfUs w2, wfU w3, wfU w4⟩) rfl (HoldsAll.cons h0 (HoldsAll.cons h1 (HoldsAll.cons h2 (HoldsAll.cons h3 (HoldsAll.cons h4 HoldsAll.nil))))) glb0

set_option maxRecDepth 100000 in
theorem lifted (os : Os) (started : os.Started) (H : Type) (enc : TypeId × Value → H) :
    ReturnsInHanded {} Try.checked os 4 .any (Rows.topBracedSpec.pre6 enc Try.prog Try.f4 Rows.topBracedRow.domain false) (Rows.topBracedSpec.post enc Try.prog Try.f4 false true false false) :=
  lawShell (fn := Try.f4) (s := Rows.topBracedSpec) (tb := 4) [.int .u8, .sl (.int .u8), .sl (.int .u8), .int .u8, .int .u8] Try.func4 (by kernel_rfl) (by kernel_rfl) (by kernel_rfl) Try.underlying4 (by kernel_rfl) os started H enc Rows.topBracedRow.domain
    (fun ds hl => by
      match ds, hl with
      | [d0, d1, d2, d3, d4], _ => rfl)
    (ChangeSpec.witness6 (enc := enc) (C := Try.checked) false ⟨#[], #[.int .u8 0, .slice none 0 0, .slice none 0 0, .int .u8 0, .int .u8 0], []⟩ 8 (by kernel_rfl) (by kernel_rfl) (by kernel_rfl) (by kernel_rfl)) walk

theorem over : Rows.topBracedRow.holds Try.pinned (OpenSpec.ofChange Rows.topBracedSpec) :=
  OpenClaim.holds_of_wide 4 Try.f4 rfl rfl rfl rfl rfl rfl rfl ⟨rfl, rfl, rfl, rfl, rfl⟩ rfl rfl rfl rfl rfl (by kernel_rfl) Try.func4 (by kernel_rfl)
    (of_decide_eq_true (by kernel_rfl)) (by unfold Func.isWrapper; first | (rw [if_pos (by decide +kernel)]; kernel_rfl) | (rw [if_neg (by decide +kernel)]; exact ⟨rfl, rfl⟩))
    (fun os started H enc _ => lifted os started H enc)

/-- THE STATEMENT. -/
theorem proved : Rows.TopBracedSaid := over

end Go.Proofs.Ytplbdongegfdnaa.topBraced
