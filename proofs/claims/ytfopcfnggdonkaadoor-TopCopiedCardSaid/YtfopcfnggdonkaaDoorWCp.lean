/-
  The law TopCopied returns true and turns nothing that was there; the table count is what the program lays.
-/
import Derived.Test.YtfopcfnggdonkaaDoorCq
import Derived.Test.YtfopcfnggdonkaaDoorRows
import Derived.Test.YtfopcfnggdonkaaDoorLD
import Derived.WalkKit
import Derived.ProofKit
import Derived.OpenShut
import Derived.ChangeOld
import Derived.Below
namespace Go.Proofs.YtfopcfnggdonkaaDoor.topCopied
open Go.RowKit Go.ChangeShapes Go.WideShapes Go.ChangeAt
set_option linter.unusedVariables false
theorem b256 {n : Int} (h : (Lit.int .u8 n).wf = true) : 0 ≤ n ∧ n ≤ 255 := by have := bounds_u8 h; omega
theorem wfW {y : List (List Int)} (h : DT.wf (.arr 3 (.arr 5 (.int .u8))) y) : u35 y := by
  obtain ⟨h1, h2⟩ := (show y.length = 3 ∧ ∀ i, i < y.length → DT.wf (.arr 5 (.int .u8)) (y.getD i (DT.dflt (.arr 5 (.int .u8)))) from h)
  refine ⟨h1, fun l hl => ?_⟩
  obtain ⟨i, hi, rfl⟩ := List.getElem_of_mem hl
  have h3 := h2 i hi
  rw [List.getD_eq_getElem?_getD, List.getElem?_eq_getElem hi] at h3
  obtain ⟨h4, h5⟩ := (show y[i].length = 5 ∧ ∀ k, k < y[i].length → (Lit.int .u8 (y[i].getD k (DT.dflt (.int .u8)))).wf = true from h3)
  refine ⟨h4, fun x hx => ?_⟩
  obtain ⟨k, hk, rfl⟩ := List.getElem_of_mem hx
  have := h5 k hk
  rw [List.getD_eq_getElem?_getD, List.getElem?_eq_getElem hk] at this
  exact b256 this
theorem K (y0 : List (List Int)) (_ : DT.wf (.arr 3 (.arr 5 (.int .u8))) y0) : FnOk Tryd.prog 3 (F3 (B3)) := KB3

set_option maxRecDepth 100000 in
theorem walk (w : World) (vs : List Value) (hgl : GlbOk w (fun b => b < w.heap.size)) (h : ArgsOk w [.arr 3 (.arr 5 (.int .u8))] vs) : Calls Tryd.prog 3 vs.toArray w fun e w' => e = .returned (.bool true) ∧ Below w.heap.size w w' := by
  obtain ⟨v0, vs0, y0, rfl, w0, h0, k0⟩ := ArgsOk.cons h
  obtain rfl := ArgsOk.nil k0
  exact walkAll (K y0 w0) (xs := [.dv (.arr 3 (.arr 5 (.int .u8))) y0]) (r := true) (if_pos (wfW w0)) rfl (HoldsAll.cons h0 HoldsAll.nil) hgl

set_option maxRecDepth 100000 in
theorem lifted (os : Os) (started : os.Started) (H : Type) (enc : TypeId × Value → H) :
    ReturnsInHanded {} Tryd.checked os 3 .any (fun w args => (Rows.topCopiedSpec.pre enc Tryd.prog Tryd.f3 [] false w args ∧ laidMetH Tryd.prog laidL w) ∧ sizedMet enc Tryd.prog Tryd.f3 (OpenSpec.ofChange Rows.topCopiedSpec) false w args) (Rows.topCopiedSpec.post enc Tryd.prog Tryd.f3 false true false false) :=
  lawShellT (fn := Tryd.f3) (s := Rows.topCopiedSpec) (tb := 4) [.arr 3 (.arr 5 (.int .u8))] Tryd.func3 (by kernel_rfl) (by kernel_rfl) (by kernel_rfl) Tryd.underlying4 (by kernel_rfl) os started H enc []
    (fun ds hl => by
      match ds, hl with
      | [d0], _ => rfl)
    (ChangeSpec.witness_shaped (enc := enc) (C := Tryd.checked) (os := os) (X := fun w _ => laidMetH Tryd.prog laidL w) false (laidWorld os) #[.agg #[.int .u8 0, .int .u8 0, .int .u8 0, .int .u8 0, .int .u8 0, .int .u8 0, .int .u8 0, .int .u8 0, .int .u8 0, .int .u8 0, .int .u8 0, .int .u8 0, .int .u8 0, .int .u8 0, .int .u8 0]] 8 rfl (World.shaped_of_RefB (by kernel_rfl) (by kernel_rfl)) (by kernel_rfl) (by kernel_rfl) (by kernel_rfl) (laidWorld_met os _)) walk

theorem over : Rows.TopCopiedSaid :=
  OpenClaim.holds_of_wide 3 Tryd.f3 rfl rfl rfl rfl rfl rfl rfl ⟨rfl, rfl, rfl, rfl, rfl⟩ rfl rfl rfl rfl rfl (by kernel_rfl) Tryd.func3 (by kernel_rfl)
    (of_decide_eq_true (by kernel_rfl)) (by unfold Func.isWrapper; first | (rw [if_pos (by decide +kernel)]; kernel_rfl) | (rw [if_neg (by decide +kernel)]; exact ⟨rfl, rfl⟩))
    (fun os started H enc _ => lifted os started H enc)

set_option maxRecDepth 100000 in
/-- THE STATEMENT. -/
theorem proved : Rows.TopCopiedCardSaid :=
  Claim7.holds_tied_plain_at .later [] [.data] true (true, "37475130d8c6f74d13b2dd20985bc1ca598a63f10d0182e8426955af0e51dba4") true
    over (fun _ h => by cases h) (by kernel_rfl) (fun _ h => by cases h) topCopied_row_tie rfl ⟨rfl, rfl⟩ mainIs0 rfl
    (fun f fn hf hfn => by
      obtain rfl : f = 3 := Option.some.inj ((show Tryd.prog.funcNamed "tusche/tuschetop.TopCopied" = some 3 by kernel_rfl).symm.trans hf) |>.symm
      obtain rfl : fn = Tryd.f3 := (Option.some.inj (Tryd.func3.symm.trans hfn)).symm
      exact ⟨by kernel_rfl, fun j t ht => by
        rw [Tryd.params3] at ht
        have hall : (#[23] : Array TypeId).toList.all (fun t => !Tryd.pinned.checked.prog.wantsStandIn t) = true := by kernel_rfl
        have := List.all_eq_true.1 hall t (Array.mem_toList_iff.2 (Array.mem_of_getElem? ht))
        simpa using this⟩)
    (by kernel_rfl)

end Go.Proofs.YtfopcfnggdonkaaDoor.topCopied
