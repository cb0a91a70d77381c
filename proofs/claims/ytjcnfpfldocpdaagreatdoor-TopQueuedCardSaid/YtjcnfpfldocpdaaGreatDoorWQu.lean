/-
  The law TopQueued returns true and turns nothing that was there; the table count is what the program lays.
-/
import Derived.Test.YtjcnfpfldocpdaaGreatDoorL3
import Derived.Test.YtjcnfpfldocpdaaGreatDoorRows
import Derived.Test.YtjcnfpfldocpdaaGreatDoorLD
import Derived.WalkKit
import Derived.ProofKit
import Derived.OpenShut
import Derived.ChangeOld
import Derived.Below
namespace Go.Proofs.YtjcnfpfldocpdaaGreatDoor.topQueued
open Go.RowKit Go.ChangeShapes Go.WideShapes Go.ChangeAt
set_option linter.unusedVariables false
theorem b256 {n : Int} (h : (Lit.int .u8 n).wf = true) : 0 ≤ n ∧ n ≤ 255 := by have := bounds_u8 h; omega
theorem wfU {y : Int} (h : DT.wf (.int .u8) y) : 0 ≤ y ∧ y ≤ 255 := b256 h
theorem wfUs {y : List Int} (h : DT.wf (.sl (.int .u8)) y) : u8L y := fun x hx => by
  obtain ⟨_, h2⟩ := (show y.length ≤ maxLen ∧ ∀ i, i < y.length → (Lit.int .u8 (y.getD i (DT.dflt (.int .u8)))).wf = true from h)
  obtain ⟨i, hi, rfl⟩ := List.getElem_of_mem hx
  have := h2 i hi
  rw [List.getD_eq_getElem?_getD, List.getElem?_eq_getElem hi] at this
  exact b256 this
theorem K (y0 : List Int) (y1 : List Int) (_ : DT.wf (.sl (.int .u8)) y0) (_ : DT.wf (.sl (.int .u8)) y1) : FnOk Tryz.prog 3 (F3 (B3)) := KB3

set_option maxRecDepth 100000 in
theorem walk (w : World) (vs : List Value) (hgl : GlbOk w (fun b => b < w.heap.size)) (h : ArgsOk w [.sl (.int .u8), .sl (.int .u8)] vs) : Calls Tryz.prog 3 vs.toArray w fun e w' => e = .returned (.bool true) ∧ Below w.heap.size w w' := by
  obtain ⟨v0, vs0, y0, rfl, w0, h0, k0⟩ := ArgsOk.cons h
  obtain ⟨v1, vs1, y1, rfl, w1, h1, k1⟩ := ArgsOk.cons k0
  obtain rfl := ArgsOk.nil k1
  exact walkAll (K y0 y1 w0 w1) (xs := [.dv (.sl (.int .u8)) y0, .dv (.sl (.int .u8)) y1]) (r := true) (if_pos ⟨wfUs w0, wfUs w1⟩) rfl (HoldsAll.cons h0 (HoldsAll.cons h1 HoldsAll.nil)) hgl

set_option maxRecDepth 100000 in
theorem lifted (os : Os) (started : os.Started) (H : Type) (enc : TypeId × Value → H) :
    ReturnsInHanded {} Tryz.checked os 3 .any (fun w args => (Rows.topQueuedSpec.pre enc Tryz.prog Tryz.f3 [] false w args ∧ laidMetH Tryz.prog laidL w) ∧ sizedMet enc Tryz.prog Tryz.f3 (OpenSpec.ofChange Rows.topQueuedSpec) false w args) (Rows.topQueuedSpec.post enc Tryz.prog Tryz.f3 false true false false) :=
  lawShellT (fn := Tryz.f3) (s := Rows.topQueuedSpec) (tb := 4) [.sl (.int .u8), .sl (.int .u8)] Tryz.func3 (by kernel_rfl) (by kernel_rfl) (by kernel_rfl) Tryz.underlying4 (by kernel_rfl) os started H enc []
    (fun ds hl => by
      match ds, hl with
      | [d0, d1], _ => rfl)
    (ChangeSpec.witness_shaped (enc := enc) (C := Tryz.checked) (os := os) (X := fun w _ => laidMetH Tryz.prog laidL w) false (laidWorld os) #[.slice none 0 0, .slice none 0 0] 8 rfl (World.shaped_of_RefB (by kernel_rfl) (by kernel_rfl)) (by kernel_rfl) (by kernel_rfl) (by kernel_rfl) (laidWorld_met os _)) walk

theorem over : Rows.TopQueuedSaid :=
  OpenClaim.holds_of_wide 3 Tryz.f3 rfl rfl rfl rfl rfl rfl rfl ⟨rfl, rfl, rfl, rfl, rfl⟩ rfl rfl rfl rfl rfl (by kernel_rfl) Tryz.func3 (by kernel_rfl)
    (of_decide_eq_true (by kernel_rfl)) (by unfold Func.isWrapper; first | (rw [if_pos (by decide +kernel)]; kernel_rfl) | (rw [if_neg (by decide +kernel)]; exact ⟨rfl, rfl⟩))
    (fun os started H enc _ => lifted os started H enc)

set_option maxRecDepth 100000 in
/-- THE STATEMENT. -/
theorem proved : Rows.TopQueuedCardSaid :=
  Claim7.holds_tied_plain_at .later [] [.data] true (true, "39f172c8ff1af7884556b7223ad623c2a00a7c2e00b93a4f69d836dbaf9171a3") true
    over (fun _ h => by cases h) (by kernel_rfl) (fun _ h => by cases h) topQueued_row_tie rfl ⟨rfl, rfl⟩ mainIs0 rfl
    (fun f fn hf hfn => by
      obtain rfl : f = 3 := Option.some.inj ((show Tryz.prog.funcNamed "tusche/tuschetop.TopQueued" = some 3 by kernel_rfl).symm.trans hf) |>.symm
      obtain rfl : fn = Tryz.f3 := (Option.some.inj (Tryz.func3.symm.trans hfn)).symm
      exact ⟨by kernel_rfl, fun j t ht => by
        rw [Tryz.params3] at ht
        have hall : (#[22, 22] : Array TypeId).toList.all (fun t => !Tryz.pinned.checked.prog.wantsStandIn t) = true := by kernel_rfl
        have := List.all_eq_true.1 hall t (Array.mem_toList_iff.2 (Array.mem_of_getElem? ht))
        simpa using this⟩)
    (by kernel_rfl)

end Go.Proofs.YtjcnfpfldocpdaaGreatDoor.topQueued
