/-
  The law TopCommuted returns true and turns nothing that was there; the table count is what the program lays.
-/
import Derived.Test.YtfopcfnggdonkaaGreatDoorCm4
import Derived.Test.YtfopcfnggdonkaaGreatDoorRows
import Derived.Test.YtfopcfnggdonkaaGreatDoorLD
import Derived.WalkKit
import Derived.ProofKit
import Derived.OpenShut
import Derived.ChangeOld
import Derived.Below
namespace Go.Proofs.YtfopcfnggdonkaaGreatDoor.topCommuted
open Go.RowKit Go.ChangeShapes Go.WideShapes Go.ChangeAt
set_option linter.unusedVariables false
theorem Vr {z : Int} (h : DT.wf (.int .u8) z) : zW z := by
  have := bounds_u8 (show (Lit.int .u8 z).wf = true from h)
  unfold zW; omega
theorem akN {y : List Int} (h : DT.wf (.sl (.int .u8)) y) : zV y := by
  obtain ⟨h1, h2⟩ := (show y.length <= maxLen /\ ∀ j, j < y.length -> (Lit.int .u8 (y.getD j 0)).wf = true from h)
  refine ⟨fun z hz => ?_, h1⟩
  obtain ⟨j, hj, rfl⟩ := List.getElem_of_mem hz
  have := Vr (show DT.wf (.int .u8) _ from h2 j hj)
  rw [List.getD_eq_getElem?_getD, List.getElem?_eq_getElem hj] at this
  exact this
theorem aGB {y : List (List Int)} (h : DT.wf (.sl (.arr 6 (.int .u8))) y) : MJ y := by
  obtain ⟨h1, h2⟩ := (show y.length <= maxLen /\ ∀ i, i < y.length -> DT.wf (.arr 6 (.int .u8)) (y.getD i (DT.dflt (.arr 6 (.int .u8)))) from h)
  refine ⟨fun p hp => ?_, h1⟩
  obtain ⟨i, hi, rfl⟩ := List.getElem_of_mem hp
  have := h2 i hi
  rw [List.getD_eq_getElem?_getD, List.getElem?_eq_getElem hi] at this
  obtain ⟨a, b⟩ := (show (y[i]).length = 6 /\ ∀ j, j < (y[i]).length -> (Lit.int .u8 ((y[i]).getD j 0)).wf = true from this)
  refine ⟨a, fun x hx => ?_⟩
  obtain ⟨j, hj, rfl⟩ := List.getElem_of_mem hx
  have := Vr (show DT.wf (.int .u8) _ from b j hj)
  rw [List.getD_eq_getElem?_getD, List.getElem?_eq_getElem hj] at this
  exact this
theorem K (y0 : Int) (y1 : List (List Int)) (y2 : List Int) (y3 : List Int) (_ : DT.wf (.int .u8) y0) (_ : DT.wf (.sl (.arr 6 (.int .u8))) y1) (_ : DT.wf (.sl (.int .u8)) y2) (_ : DT.wf (.sl (.int .u8)) y3) : aC Tryz.prog 3 (F3 (C3)) := KC3
set_option maxRecDepth 100000 in
theorem walk (w : World) (vs : List Value) (hgl : nZ w (fun b => b < w.heap.size)) (h : oU w [.int .u8, .sl (.arr 6 (.int .u8)), .sl (.int .u8), .sl (.int .u8)] vs) : Calls Tryz.prog 3 vs.toArray w fun e w' => e = .returned (.bool true) /\ Below w.heap.size w w' := by
  obtain ⟨v0, vs0, y0, rfl, w0, h0, k0⟩ := oU.cons h
  obtain ⟨v1, vs1, y1, rfl, w1, h1, k1⟩ := oU.cons k0
  obtain ⟨v2, vs2, y2, rfl, w2, h2, k2⟩ := oU.cons k1
  obtain ⟨v3, vs3, y3, rfl, w3, h3, k3⟩ := oU.cons k2
  obtain rfl := oU.nil k3
  exact aF9 (K y0 y1 y2 y3 w0 w1 w2 w3) (xs := [.dv (.int .u8) y0, .dv (.sl (.arr 6 (.int .u8))) y1, .dv (.sl (.int .u8)) y2, .dv (.sl (.int .u8)) y3]) (r := true) (if_pos ⟨Vr w0, aGB w1, akN w2, akN w3⟩) rfl (oC.cons h0 (oC.cons h1 (oC.cons h2 (oC.cons h3 oC.nil)))) hgl
set_option maxRecDepth 100000 in
theorem lifted (os : Os) (started : os.Started) (H : Type) (enc : TypeId × Value -> H) :
    ReturnsInHanded {} Tryz.checked os 3 .any (fun w args => (Rows.topCommutedSpec.pre enc Tryz.prog Tryz.f3 [] false w args /\ laidMetH Tryz.prog D9 w) /\ sizedMet enc Tryz.prog Tryz.f3 (OpenSpec.ofChange Rows.topCommutedSpec) false w args) (Rows.topCommutedSpec.post enc Tryz.prog Tryz.f3 false true false false) :=
  axQ (fn := Tryz.f3) (s := Rows.topCommutedSpec) (tb := 4) [.int .u8, .sl (.arr 6 (.int .u8)), .sl (.int .u8), .sl (.int .u8)] Tryz.func3 (by kernel_rfl) (by kernel_rfl) (by kernel_rfl) Tryz.underlying4 (by kernel_rfl) os started H enc []
    (fun ds hl => by
      match ds, hl with
      | [d0, d1, d2, d3], _ => rfl)
    (ChangeSpec.witness_shaped (enc := enc) (C := Tryz.checked) (os := os) (X := fun w _ => laidMetH Tryz.prog D9 w) false (laidWorld os) #[.int .u8 0, .slice none 0 0, .slice none 0 0, .slice none 0 0] 8 rfl (World.shaped_of_RefB (by kernel_rfl) (by kernel_rfl)) (by kernel_rfl) (by kernel_rfl) (by kernel_rfl) (laidWorld_met os _)) walk
theorem over : Rows.TopCommutedSaid :=
  OpenClaim.holds_of_wide 3 Tryz.f3 rfl rfl rfl rfl rfl rfl rfl ⟨rfl, rfl, rfl, rfl, rfl⟩ rfl rfl rfl rfl rfl (by kernel_rfl) Tryz.func3 (by kernel_rfl)
    (of_decide_eq_true (by kernel_rfl)) (by unfold Func.isWrapper; first | (rw [if_pos (by decide +kernel)]; kernel_rfl) | (rw [if_neg (by decide +kernel)]; exact ⟨rfl, rfl⟩))
    (fun os started H enc _ => lifted os started H enc)
set_option maxRecDepth 100000 in
/-- THE STATEMENT. -/
theorem proved : Rows.TopCommutedCardSaid :=
  Claim7.holds_tied_plain_at .later [] [.data, .pinned] true (true, "8eca92490ef2875c309c1d626cc6b1668343fa11f971891b1da5bd0a691c8ca7") true
    over (fun _ h => by cases h) (by kernel_rfl) (fun _ h => by cases h) topCommuted_row_tie rfl ⟨rfl, rfl⟩ ay0 rfl
    (fun f fn hf hfn => by
      obtain rfl : f = 3 := Option.some.inj ((show Tryz.prog.funcNamed "tusche/tuschetop.TopCommuted" = some 3 by kernel_rfl).symm.trans hf) |>.symm
      obtain rfl : fn = Tryz.f3 := (Option.some.inj (Tryz.func3.symm.trans hfn)).symm
      exact ⟨by kernel_rfl, fun j t ht => by
        rw [Tryz.params3] at ht
        have hall : (#[5, 22, 23, 23] : Array TypeId).toList.all (fun t => !Tryz.pinned.checked.prog.wantsStandIn t) = true := by kernel_rfl
        have := List.all_eq_true.1 hall t (Array.mem_toList_iff.2 (Array.mem_of_getElem? ht))
        simpa using this⟩)
    (by kernel_rfl)
end Go.Proofs.YtfopcfnggdonkaaGreatDoor.topCommuted
