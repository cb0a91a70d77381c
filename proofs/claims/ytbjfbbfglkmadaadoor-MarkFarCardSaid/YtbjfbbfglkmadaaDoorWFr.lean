/-
  The law MarkFar returns true and turns nothing that was there; the table count is what the program lays.
-/
import Derived.Test.YtbjfbbfglkmadaaDoorX10
import Derived.Test.YtbjfbbfglkmadaaDoorWC0
import Derived.Test.YtbjfbbfglkmadaaDoorRows
import Derived.Test.YtbjfbbfglkmadaaDoorLD
import Derived.WalkKit
import Derived.ProofKit
import Derived.OpenShut
import Derived.ChangeOld
import Derived.Below
namespace Go.Proofs.YtbjfbbfglkmadaaDoor.markFar
open Go.RowKit Go.ChangeShapes Go.WideShapes Go.ChangeAt
set_option linter.unusedVariables false

theorem b256 {n : Int} (h : (Lit.int .u8 n).wf = true) : 0 ≤ n ∧ n ≤ 255 := by have := bounds_u8 h; omega
theorem wf4 {w : List Int} (h : DT.wf (.arr 4 (.int .u8)) w) : okB4 w = true := by
  obtain ⟨a, b⟩ := (show w.length = 4 ∧ ∀ j, j < w.length → (Lit.int .u8 (w.getD j 0)).wf = true from h)
  simp only [okB4, bae, dtq, List.all_eq_true]
  refine ⟨a, fun m hm => ?_⟩
  obtain ⟨j, hj, rfl⟩ := List.getElem_of_mem hm
  have := b j hj
  rw [List.getD_eq_getElem?_getD, List.getElem?_eq_getElem hj] at this
  exact b256 this
theorem wfSh {s : Sh} (h : DT.wf (.pair (.int .u8) (.pair (.int .u8) (.pair (.sl (.arr 4 (.int .u8))) .unit))) s) : okSh s = true := by
  obtain ⟨h1, h2, ⟨_, h3⟩, _⟩ := (show (Lit.int .u8 s.1).wf = true ∧ (Lit.int .u8 s.2.1).wf = true ∧ (s.2.2.1.length ≤ maxLen ∧ ∀ i, i < s.2.2.1.length → DT.wf (.arr 4 (.int .u8)) (s.2.2.1.getD i (DT.dflt (.arr 4 (.int .u8))))) ∧ DT.wf .unit s.2.2.2 from h)
  simp only [okSh, bae, dtq, List.all_eq_true]
  refine ⟨⟨b256 h1, b256 h2⟩, fun w hw => ?_⟩
  obtain ⟨i, hi, rfl⟩ := List.getElem_of_mem hw
  have := h3 i hi
  rw [List.getD_eq_getElem?_getD, List.getElem?_eq_getElem hi] at this
  exact wf4 this
theorem K (y0 : Int × Int × List (List Int) × Unit) (y1 : Int) (y2 : Int) (y3 : Int) (_ : DT.wf (.pair (.int .u8) (.pair (.int .u8) (.pair (.sl (.arr 4 (.int .u8))) .unit))) y0) (_ : DT.wf (.int .u8) y1) (_ : DT.wf (.int .u8) y2) (_ : DT.wf (.int .u8) y3) : FnOk Tryd.prog 10 (F10 (B10)) := KB10

set_option maxRecDepth 100000 in
theorem walk (w : World) (vs : List Value) (hgl : GlbOk w (fun b => b < w.heap.size)) (h : ArgsOk w [.pair (.int .u8) (.pair (.int .u8) (.pair (.sl (.arr 4 (.int .u8))) .unit)), .int .u8, .int .u8, .int .u8] vs) : Calls Tryd.prog 10 vs.toArray w fun e w' => e = .returned (.bool true) ∧ Below w.heap.size w w' := by
  obtain ⟨v0, vs0, y0, rfl, w0, h0, k0⟩ := ArgsOk.cons h
  obtain ⟨v1, vs1, y1, rfl, w1, h1, k1⟩ := ArgsOk.cons k0
  obtain ⟨v2, vs2, y2, rfl, w2, h2, k2⟩ := ArgsOk.cons k1
  obtain ⟨v3, vs3, y3, rfl, w3, h3, k3⟩ := ArgsOk.cons k2
  obtain rfl := ArgsOk.nil k3
  exact walkAll (K y0 y1 y2 y3 w0 w1 w2 w3) (xs := [.dv (.pair (.int .u8) (.pair (.int .u8) (.pair (.sl (.arr 4 (.int .u8))) .unit))) y0, .dv (.int .u8) y1, .dv (.int .u8) y2, .dv (.int .u8) y3]) (r := true) (if_pos ⟨wfSh w0, b256 w1, b256 w2⟩) rfl (HoldsAll.cons h0 (HoldsAll.cons h1 (HoldsAll.cons h2 (HoldsAll.cons h3 HoldsAll.nil)))) hgl

set_option maxRecDepth 100000 in
theorem lifted (os : Os) (started : os.Started) (H : Type) (enc : TypeId × Value → H) :
    ReturnsInHanded {} Tryd.checked os 10 .any (fun w args => (Rows.markFarSpec.pre enc Tryd.prog Tryd.f10 [] false w args ∧ laidMetH Tryd.prog laidL w) ∧ sizedMet enc Tryd.prog Tryd.f10 (OpenSpec.ofChange Rows.markFarSpec) false w args) (Rows.markFarSpec.post enc Tryd.prog Tryd.f10 false true false false) :=
  lawShellT (fn := Tryd.f10) (s := Rows.markFarSpec) (tb := 4) [.pair (.int .u8) (.pair (.int .u8) (.pair (.sl (.arr 4 (.int .u8))) .unit)), .int .u8, .int .u8, .int .u8] Tryd.func10 (by kernel_rfl) (by kernel_rfl) (by kernel_rfl) Tryd.underlying4 (by kernel_rfl) os started H enc []
    (fun ds hl => by
      match ds, hl with
      | [d0, d1, d2, d3], _ => rfl)
    (ChangeSpec.witness_shaped (enc := enc) (C := Tryd.checked) (os := os) (X := fun w _ => laidMetH Tryd.prog laidL w) false (laidWorld os) #[.agg #[.int .u8 0, .int .u8 0, .slice none 0 0], .int .u8 0, .int .u8 0, .int .u8 0] 8 rfl (World.shaped_of_RefB (by kernel_rfl) (by kernel_rfl)) (by kernel_rfl) (by kernel_rfl) (by kernel_rfl) (laidWorld_met os _)) walk

theorem over : Rows.MarkFarSaid :=
  OpenClaim.holds_of_wide 10 Tryd.f10 rfl rfl rfl rfl rfl rfl rfl ⟨rfl, rfl, rfl, rfl, rfl⟩ rfl rfl rfl rfl rfl (by kernel_rfl) Tryd.func10 (by kernel_rfl)
    (of_decide_eq_true (by kernel_rfl)) (by unfold Func.isWrapper; first | (rw [if_pos (by decide +kernel)]; kernel_rfl) | (rw [if_neg (by decide +kernel)]; exact ⟨rfl, rfl⟩))
    (fun os started H enc _ => lifted os started H enc)

set_option maxRecDepth 100000 in
/-- THE STATEMENT. -/
theorem proved : Rows.MarkFarCardSaid :=
  Claim7.holds_tied_plain_at .later [] [.data] true (true, "018cc82852a7e087e6539cfb5cb3f00d3e0f6e4bd9da8bf234baf6754ce1d347") false
    over (fun _ h => by cases h) (by kernel_rfl) (fun _ h => by cases h) markFar_row_tie rfl ⟨rfl, rfl⟩ mainIs0 rfl
    (fun f fn hf hfn => by
      obtain rfl : f = 10 := oij ((show Tryd.prog.funcNamed "tusche/tuschelaw09.MarkFar" = some 10 by kernel_rfl).symm.trans hf) |>.symm
      obtain rfl : fn = Tryd.f10 := (oij (Tryd.func10.symm.trans hfn)).symm
      exact ⟨by kernel_rfl, fun j t ht => by
        rw [Tryd.params10] at ht
        have hall : (#[65, 5, 5, 5] : Array TypeId).toList.all (fun t => !Tryd.pinned.checked.prog.wantsStandIn t) = true := by kernel_rfl
        have := List.all_eq_true.1 hall t (Array.mem_toList_iff.2 (Array.mem_of_getElem? ht))
        simpa using this⟩)
    (by kernel_rfl)

end Go.Proofs.YtbjfbbfglkmadaaDoor.markFar
