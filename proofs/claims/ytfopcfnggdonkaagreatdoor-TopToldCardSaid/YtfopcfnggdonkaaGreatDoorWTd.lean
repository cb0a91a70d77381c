/-
  The law TopTold returns true and turns nothing that was there; the table count is what the program lays.
-/
import Derived.Test.YtfopcfnggdonkaaGreatDoorT3
import Derived.Test.YtfopcfnggdonkaaGreatDoorRows
import Derived.Test.YtfopcfnggdonkaaGreatDoorLD
import Derived.WalkKit
import Derived.ProofKit
import Derived.OpenShut
import Derived.ChangeOld
import Derived.Below
namespace Go.Proofs.YtfopcfnggdonkaaGreatDoor.topTold
open Go.RowKit Go.ChangeShapes Go.WideShapes Go.ChangeAt
set_option linter.unusedVariables false
theorem Zp {z : Int} (h : DT.wf (.int .u8) z) : zU z := by
  have := bounds_u8 (show (Lit.int .u8 z).wf = true from h)
  unfold zU; omega
theorem aHE {y : List (List Int)} (h : DT.wf (.sl (.arr 4 (.int .u8))) y) : Kz y := by
  obtain ⟨h1, h2⟩ := (show y.length <= maxLen /\ ∀ i, i < y.length -> DT.wf (.arr 4 (.int .u8)) (y.getD i (DT.dflt (.arr 4 (.int .u8)))) from h)
  refine ⟨fun p hp => ?_, h1⟩
  obtain ⟨i, hi, rfl⟩ := List.getElem_of_mem hp
  have := h2 i hi
  rw [List.getD_eq_getElem?_getD, List.getElem?_eq_getElem hi] at this
  obtain ⟨a, b⟩ := (show (y[i]).length = 4 /\ ∀ j, j < (y[i]).length -> (Lit.int .u8 ((y[i]).getD j 0)).wf = true from this)
  refine ⟨a, fun x hx => ?_⟩
  obtain ⟨j, hj, rfl⟩ := List.getElem_of_mem hx
  have := Zp (show DT.wf (.int .u8) _ from b j hj)
  rw [List.getD_eq_getElem?_getD, List.getElem?_eq_getElem hj] at this
  exact this
theorem K (y0 : Int) (y1 : List (List Int)) (y2 : Int) (_ : DT.wf (.int .u8) y0) (_ : DT.wf (.sl (.arr 4 (.int .u8))) y1) (_ : DT.wf (.int .u8) y2) : aF Tryz.prog 4 (F4 (C4)) := KC4
set_option maxRecDepth 100000 in
theorem walk (w : World) (vs : List Value) (hgl : wF w (fun b => b < w.heap.size)) (h : sN w [.int .u8, .sl (.arr 4 (.int .u8)), .int .u8] vs) : Calls Tryz.prog 4 vs.toArray w fun e w' => e = .returned (.bool true) /\ Below w.heap.size w w' := by
  obtain ⟨v0, vs0, y0, rfl, w0, h0, k0⟩ := sN.cons h
  obtain ⟨v1, vs1, y1, rfl, w1, h1, k1⟩ := sN.cons k0
  obtain ⟨v2, vs2, y2, rfl, w2, h2, k2⟩ := sN.cons k1
  obtain rfl := sN.nil k2
  exact aHB (K y0 y1 y2 w0 w1 w2) (xs := [.dv (.int .u8) y0, .dv (.sl (.arr 4 (.int .u8))) y1, .dv (.int .u8) y2]) (r := true) (if_pos ⟨Zp w0, aHE w1, Zp w2⟩) rfl (rM.cons h0 (rM.cons h1 (rM.cons h2 rM.nil))) hgl
set_option maxRecDepth 100000 in
theorem lifted (os : Os) (started : os.Started) (H : Type) (enc : TypeId × Value -> H) :
    ReturnsInHanded {} Tryz.checked os 4 .any (fun w args => (Rows.topToldSpec.pre enc Tryz.prog Tryz.f4 [] false w args /\ laidMetH Tryz.prog GG w) /\ sizedMet enc Tryz.prog Tryz.f4 (OpenSpec.ofChange Rows.topToldSpec) false w args) (Rows.topToldSpec.post enc Tryz.prog Tryz.f4 false true false false) :=
  ayA (fn := Tryz.f4) (s := Rows.topToldSpec) (tb := 4) [.int .u8, .sl (.arr 4 (.int .u8)), .int .u8] Tryz.func4 (by kernel_rfl) (by kernel_rfl) (by kernel_rfl) Tryz.underlying4 (by kernel_rfl) os started H enc []
    (fun ds hl => by
      match ds, hl with
      | [d0, d1, d2], _ => rfl)
    (ChangeSpec.witness_shaped (enc := enc) (C := Tryz.checked) (os := os) (X := fun w _ => laidMetH Tryz.prog GG w) false (laidWorld os) #[.int .u8 0, .slice none 0 0, .int .u8 0] 8 rfl (World.shaped_of_RefB (by kernel_rfl) (by kernel_rfl)) (by kernel_rfl) (by kernel_rfl) (by kernel_rfl) (laidWorld_met os _)) walk
theorem over : Rows.TopToldSaid :=
  OpenClaim.holds_of_wide 4 Tryz.f4 rfl rfl rfl rfl rfl rfl rfl ⟨rfl, rfl, rfl, rfl, rfl⟩ rfl rfl rfl rfl rfl (by kernel_rfl) Tryz.func4 (by kernel_rfl)
    (of_decide_eq_true (by kernel_rfl)) (by unfold Func.isWrapper; first | (rw [if_pos (by decide +kernel)]; kernel_rfl) | (rw [if_neg (by decide +kernel)]; exact ⟨rfl, rfl⟩))
    (fun os started H enc _ => lifted os started H enc)
set_option maxRecDepth 100000 in
/-- THE STATEMENT. -/
theorem proved : Rows.TopToldCardSaid :=
  Claim7.holds_tied_plain_at .later [] [.data, .pinned] true (true, "8eca92490ef2875c309c1d626cc6b1668343fa11f971891b1da5bd0a691c8ca7") true
    over (fun _ h => by cases h) (by kernel_rfl) (fun _ h => by cases h) topTold_row_tie rfl ⟨rfl, rfl⟩ azP rfl
    (fun f fn hf hfn => by
      obtain rfl : f = 4 := Option.some.inj ((show Tryz.prog.funcNamed "tusche/tuschetop.TopTold" = some 4 by kernel_rfl).symm.trans hf) |>.symm
      obtain rfl : fn = Tryz.f4 := (Option.some.inj (Tryz.func4.symm.trans hfn)).symm
      exact ⟨by kernel_rfl, fun j t ht => by
        rw [Tryz.params4] at ht
        have hall : (#[5, 50, 5] : Array TypeId).toList.all (fun t => !Tryz.pinned.checked.prog.wantsStandIn t) = true := by kernel_rfl
        have := List.all_eq_true.1 hall t (Array.mem_toList_iff.2 (Array.mem_of_getElem? ht))
        simpa using this⟩)
    (by kernel_rfl)
end Go.Proofs.YtfopcfnggdonkaaGreatDoor.topTold
