/-
  The law TopMarked returns true and turns nothing that was there; the table count is what the program lays.
-/
import Derived.Test.YtoflclmkfajomaaDoorCD
import Derived.Test.YtoflclmkfajomaaDoorRows
import Derived.Test.YtoflclmkfajomaaDoorLD
import Derived.WalkKit
import Derived.ProofKit
import Derived.OpenShut
import Derived.ChangeOld
import Derived.Below
namespace Go.Proofs.YtoflclmkfajomaaDoor.topMarked
open Go.RowKit Go.ChangeShapes Go.WideShapes Go.ChangeAt
set_option linter.unusedVariables false
theorem b256 {n : Int} (h : (Lit.int .u8 n).wf = true) : 0 ≤ n ∧ n ≤ 255 := by have := bounds_u8 h; omega
theorem wfU {y : Int} (h : DT.wf (.int .u8) y) : 0 ≤ y ∧ y ≤ 255 := b256 h
theorem wfUs {y : List Int} (h : DT.wf (.sl (.int .u8)) y) : u8L y := fun x hx => by
  obtain ⟨_, h2⟩ := (show y.length ≤ maxLen ∧ ∀ i, i < y.length → (Lit.int .u8 (y.getD i (DT.dflt (.int .u8)))).wf = true from h)
  obtain ⟨i, hi, rfl⟩ := List.getElem_of_mem hx
  have := h2 i hi
  rw [List.getD_eq_getElem?_getD, List.getElem?_eq_getElem hi] at this
  exact b256 this
theorem K (y0 : Int) (y1 : List Int) (y2 : List Int) (y3 : Int) (y4 : List Int) (_ : DT.wf (.int .u8) y0) (_ : DT.wf (.sl (.int .u8)) y1) (_ : DT.wf (.sl (.int .u8)) y2) (_ : DT.wf (.int .u8) y3) (_ : DT.wf (.sl (.int .u8)) y4) : FnOk Tryd.prog 3 (F3 (B3)) := KB3

set_option maxRecDepth 100000 in
theorem walk (w : World) (vs : List Value) (hgl : GlbOk w (fun b => b < w.heap.size)) (h : ArgsOk w [.int .u8, .sl (.int .u8), .sl (.int .u8), .int .u8, .sl (.int .u8)] vs) : Calls Tryd.prog 3 vs.toArray w fun e w' => e = .returned (.bool true) ∧ Below w.heap.size w w' := by
  obtain ⟨v0, vs0, y0, rfl, w0, h0, k0⟩ := ArgsOk.cons h
  obtain ⟨v1, vs1, y1, rfl, w1, h1, k1⟩ := ArgsOk.cons k0
  obtain ⟨v2, vs2, y2, rfl, w2, h2, k2⟩ := ArgsOk.cons k1
  obtain ⟨v3, vs3, y3, rfl, w3, h3, k3⟩ := ArgsOk.cons k2
  obtain ⟨v4, vs4, y4, rfl, w4, h4, k4⟩ := ArgsOk.cons k3
  obtain rfl := ArgsOk.nil k4
  exact walkAll (K y0 y1 y2 y3 y4 w0 w1 w2 w3 w4) (xs := [.dv (.int .u8) y0, .dv (.sl (.int .u8)) y1, .dv (.sl (.int .u8)) y2, .dv (.int .u8) y3, .dv (.sl (.int .u8)) y4]) (r := true) (if_pos ⟨wfU w0, wfUs w1, wfUs w2, wfU w3, wfUs w4⟩) rfl (HoldsAll.cons h0 (HoldsAll.cons h1 (HoldsAll.cons h2 (HoldsAll.cons h3 (HoldsAll.cons h4 HoldsAll.nil))))) hgl

set_option maxRecDepth 100000 in
theorem lifted (os : Os) (started : os.Started) (H : Type) (enc : TypeId × Value → H) :
    ReturnsInHanded {} Tryd.checked os 3 .any (fun w args => (Rows.topMarkedSpec.pre enc Tryd.prog Tryd.f3 [] false w args ∧ laidMetH Tryd.prog laidL w) ∧ sizedMet enc Tryd.prog Tryd.f3 (OpenSpec.ofChange Rows.topMarkedSpec) false w args) (Rows.topMarkedSpec.post enc Tryd.prog Tryd.f3 false true false false) :=
  lawShellT (fn := Tryd.f3) (s := Rows.topMarkedSpec) (tb := 4) [.int .u8, .sl (.int .u8), .sl (.int .u8), .int .u8, .sl (.int .u8)] Tryd.func3 (by kernel_rfl) (by kernel_rfl) (by kernel_rfl) Tryd.underlying4 (by kernel_rfl) os started H enc []
    (fun ds hl => by
      match ds, hl with
      | [d0, d1, d2, d3, d4], _ => rfl)
    (ChangeSpec.witness_shaped (enc := enc) (C := Tryd.checked) (os := os) (X := fun w _ => laidMetH Tryd.prog laidL w) false (laidWorld os) #[.int .u8 0, .slice none 0 0, .slice none 0 0, .int .u8 0, .slice none 0 0] 8 rfl (World.shaped_of_RefB (by kernel_rfl) (by kernel_rfl)) (by kernel_rfl) (by kernel_rfl) (by kernel_rfl) (laidWorld_met os _)) walk

theorem over : Rows.TopMarkedSaid :=
  OpenClaim.holds_of_wide 3 Tryd.f3 rfl rfl rfl rfl rfl rfl rfl ⟨rfl, rfl, rfl, rfl, rfl⟩ rfl rfl rfl rfl rfl (by kernel_rfl) Tryd.func3 (by kernel_rfl)
    (of_decide_eq_true (by kernel_rfl)) (by unfold Func.isWrapper; first | (rw [if_pos (by decide +kernel)]; kernel_rfl) | (rw [if_neg (by decide +kernel)]; exact ⟨rfl, rfl⟩))
    (fun os started H enc _ => lifted os started H enc)

set_option maxRecDepth 100000 in
/-- THE STATEMENT. -/
theorem proved : Rows.TopMarkedCardSaid :=
  Claim7.holds_tied_plain_at .later [] [.data] true (true, "62b2e457bc3aeff24a005e6a33b4f4b6a7ceb87ed687c4c684f9548e573e8069") true
    over (fun _ h => by cases h) (by kernel_rfl) (fun _ h => by cases h) topMarked_row_tie rfl ⟨rfl, rfl⟩ mainIs0 rfl
    (fun f fn hf hfn => by
      obtain rfl : f = 3 := Option.some.inj ((show Tryd.prog.funcNamed "tusche/tuschetop.TopMarked" = some 3 by kernel_rfl).symm.trans hf) |>.symm
      obtain rfl : fn = Tryd.f3 := (Option.some.inj (Tryd.func3.symm.trans hfn)).symm
      exact ⟨by kernel_rfl, fun j t ht => by
        rw [Tryd.params3] at ht
        have hall : (#[5, 22, 22, 5, 22] : Array TypeId).toList.all (fun t => !Tryd.pinned.checked.prog.wantsStandIn t) = true := by kernel_rfl
        have := List.all_eq_true.1 hall t (Array.mem_toList_iff.2 (Array.mem_of_getElem? ht))
        simpa using this⟩)
    (by kernel_rfl)

end Go.Proofs.YtoflclmkfajomaaDoor.topMarked
