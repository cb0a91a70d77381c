/-
  The law MarkRenamed returns true and turns nothing that was there; the table count is what the program lays.
-/
import Derived.Test.YtbjfbbfglkmadaaDoorX12
import Derived.Test.YtbjfbbfglkmadaaDoorRows
import Derived.Test.YtbjfbbfglkmadaaDoorLD
import Derived.WalkKit
import Derived.ProofKit
import Derived.OpenShut
import Derived.ChangeOld
import Derived.Below
namespace Go.Proofs.YtbjfbbfglkmadaaDoor.markRenamed
open Go.RowKit Go.ChangeShapes Go.WideShapes Go.ChangeAt
set_option linter.unusedVariables false

theorem b256 {n : Int} (h : (Lit.int .u8 n).wf = true) : 0 ≤ n ∧ n ≤ 255 := by have := bounds_u8 h; omega
theorem wf4 {w : List Int} (h : DT.wf (.arr 4 (.int .u8)) w) : okB4 w = true := by
  obtain ⟨a, b⟩ := (show w.length = 4 ∧ ∀ j, j < w.length → (Lit.int .u8 (w.getD j 0)).wf = true from h)
  simp only [okB4, Bool.and_eq_true, decide_eq_true_eq, List.all_eq_true]
  refine ⟨a, fun m hm => ?_⟩
  obtain ⟨j, hj, rfl⟩ := List.getElem_of_mem hm
  have := b j hj
  rw [List.getD_eq_getElem?_getD, List.getElem?_eq_getElem hj] at this
  exact b256 this
theorem wfSh {s : Sh} (h : DT.wf (.pair (.int .u8) (.pair (.int .u8) (.pair (.sl (.arr 4 (.int .u8))) .unit))) s) : okSh s = true := by
  obtain ⟨h1, h2, ⟨_, h3⟩, _⟩ := (show (Lit.int .u8 s.1).wf = true ∧ (Lit.int .u8 s.2.1).wf = true ∧ (s.2.2.1.length ≤ maxLen ∧ ∀ i, i < s.2.2.1.length → DT.wf (.arr 4 (.int .u8)) (s.2.2.1.getD i (DT.dflt (.arr 4 (.int .u8))))) ∧ DT.wf .unit s.2.2.2 from h)
  simp only [okSh, Bool.and_eq_true, decide_eq_true_eq, List.all_eq_true]
  refine ⟨⟨b256 h1, b256 h2⟩, fun w hw => ?_⟩
  obtain ⟨i, hi, rfl⟩ := List.getElem_of_mem hw
  have := h3 i hi
  rw [List.getD_eq_getElem?_getD, List.getElem?_eq_getElem hi] at this
  exact wf4 this
theorem K (y0 : Int × Int × List (List Int) × Unit) (y1 : List Int) (y2 : List Int) (y3 : Int) (_ : DT.wf (.pair (.int .u8) (.pair (.int .u8) (.pair (.sl (.arr 4 (.int .u8))) .unit))) y0) (_ : DT.wf (.arr 4 (.int .u8)) y1) (_ : DT.wf (.arr 4 (.int .u8)) y2) (_ : DT.wf (.int .u8) y3) : FnOk Tryd.prog 12 (F12 (fun s by1 turns turn => if okSh s = true ∧ okB4 by1 = true ∧ okB4 turns = true ∧ (0 ≤ turn ∧ turn ≤ 255) then some true else none)) := KB12

set_option maxRecDepth 100000 in
theorem walk (w : World) (vs : List Value) (hgl : GlbOk w (fun b => b < w.heap.size)) (h : ArgsOk w [.pair (.int .u8) (.pair (.int .u8) (.pair (.sl (.arr 4 (.int .u8))) .unit)), .arr 4 (.int .u8), .arr 4 (.int .u8), .int .u8] vs) : Calls Tryd.prog 12 vs.toArray w fun e w' => e = .returned (.bool true) ∧ Below w.heap.size w w' := by
  obtain ⟨v0, vs0, y0, rfl, w0, h0, k0⟩ := ArgsOk.cons h
  obtain ⟨v1, vs1, y1, rfl, w1, h1, k1⟩ := ArgsOk.cons k0
  obtain ⟨v2, vs2, y2, rfl, w2, h2, k2⟩ := ArgsOk.cons k1
  obtain ⟨v3, vs3, y3, rfl, w3, h3, k3⟩ := ArgsOk.cons k2
  obtain rfl := ArgsOk.nil k3
  exact walkAll (K y0 y1 y2 y3 w0 w1 w2 w3) (xs := [.dv (.pair (.int .u8) (.pair (.int .u8) (.pair (.sl (.arr 4 (.int .u8))) .unit))) y0, .dv (.arr 4 (.int .u8)) y1, .dv (.arr 4 (.int .u8)) y2, .dv (.int .u8) y3]) (r := true) (if_pos ⟨wfSh w0, wf4 w1, wf4 w2, b256 w3⟩) rfl (HoldsAll.cons h0 (HoldsAll.cons h1 (HoldsAll.cons h2 (HoldsAll.cons h3 HoldsAll.nil)))) hgl

set_option maxRecDepth 100000 in
theorem lifted (os : Os) (started : os.Started) (H : Type) (enc : TypeId × Value → H) :
    ReturnsInHanded {} Tryd.checked os 12 .any (fun w args => (Rows.markRenamedSpec.pre enc Tryd.prog Tryd.f12 [] false w args ∧ laidMetH Tryd.prog laidL w) ∧ sizedMet enc Tryd.prog Tryd.f12 (OpenSpec.ofChange Rows.markRenamedSpec) false w args) (Rows.markRenamedSpec.post enc Tryd.prog Tryd.f12 false true false false) :=
  lawShellT (fn := Tryd.f12) (s := Rows.markRenamedSpec) (tb := 4) [.pair (.int .u8) (.pair (.int .u8) (.pair (.sl (.arr 4 (.int .u8))) .unit)), .arr 4 (.int .u8), .arr 4 (.int .u8), .int .u8] Tryd.func12 (by kernel_rfl) (by kernel_rfl) (by kernel_rfl) Tryd.underlying4 (by kernel_rfl) os started H enc []
    (fun ds hl => by
      match ds, hl with
      | [d0, d1, d2, d3], _ => rfl)
    (ChangeSpec.witness_shaped (enc := enc) (C := Tryd.checked) (os := os) (X := fun w _ => laidMetH Tryd.prog laidL w) false (laidWorld os) #[.agg #[.int .u8 0, .int .u8 0, .slice none 0 0], .agg #[.int .u8 0, .int .u8 0, .int .u8 0, .int .u8 0], .agg #[.int .u8 0, .int .u8 0, .int .u8 0, .int .u8 0], .int .u8 0] 8 rfl (World.shaped_of_RefB (by kernel_rfl) (by kernel_rfl)) (by kernel_rfl) (by kernel_rfl) (by kernel_rfl) (laidWorld_met os _)) walk

theorem over : Rows.MarkRenamedSaid :=
  OpenClaim.holds_of_wide 12 Tryd.f12 rfl rfl rfl rfl rfl rfl rfl ⟨rfl, rfl, rfl, rfl, rfl⟩ rfl rfl rfl rfl rfl (by kernel_rfl) Tryd.func12 (by kernel_rfl)
    (of_decide_eq_true (by kernel_rfl)) (by unfold Func.isWrapper; first | (rw [if_pos (by decide +kernel)]; kernel_rfl) | (rw [if_neg (by decide +kernel)]; exact ⟨rfl, rfl⟩))
    (fun os started H enc _ => lifted os started H enc)

set_option maxRecDepth 100000 in
/-- THE STATEMENT. -/
theorem proved : Rows.MarkRenamedCardSaid :=
  Claim7.holds_tied_plain_at .later [] [.data] true (true, "018cc82852a7e087e6539cfb5cb3f00d3e0f6e4bd9da8bf234baf6754ce1d347") false
    over (fun _ h => by cases h) (by kernel_rfl) (fun _ h => by cases h) markRenamed_row_tie rfl ⟨rfl, rfl⟩ mainIs0 rfl
    (fun f fn hf hfn => by
      obtain rfl : f = 12 := Option.some.inj ((show Tryd.prog.funcNamed "tusche/tuschelaw09.MarkRenamed" = some 12 by kernel_rfl).symm.trans hf) |>.symm
      obtain rfl : fn = Tryd.f12 := (Option.some.inj (Tryd.func12.symm.trans hfn)).symm
      exact ⟨by kernel_rfl, fun j t ht => by
        rw [Tryd.params12] at ht
        have hall : (#[65, 74, 74, 5] : Array TypeId).toList.all (fun t => !Tryd.pinned.checked.prog.wantsStandIn t) = true := by kernel_rfl
        have := List.all_eq_true.1 hall t (Array.mem_toList_iff.2 (Array.mem_of_getElem? ht))
        simpa using this⟩)
    (by kernel_rfl)

end Go.Proofs.YtbjfbbfglkmadaaDoor.markRenamed
