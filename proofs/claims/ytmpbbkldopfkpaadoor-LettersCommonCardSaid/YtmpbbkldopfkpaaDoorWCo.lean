/-
  The law LettersCommon returns true and turns nothing that was there; the tables are what the program lays.
-/
import Derived.Test.YtmpbbkldopfkpaaDoorL18
import Derived.Test.YtmpbbkldopfkpaaDoorRows
import Derived.Test.YtmpbbkldopfkpaaDoorLD
import Derived.WalkKit
import Derived.ProofKit
import Derived.OpenShut
import Derived.ChangeOld
import Derived.Below
namespace Go.Proofs.YtmpbbkldopfkpaaDoor.lettersCommon
open Go.RowKit Go.ChangeShapes Go.WideShapes Go.ChangeAt
set_option linter.unusedVariables false
theorem wfU {z : Int} (h : DT.wf (.int .u8) z) : u8z z := by
  have := bounds_u8 (show (Lit.int .u8 z).wf = true from h)
  unfold u8z; omega
theorem wfLs {y : List Int} (h : DT.wf (.sl (.int .u8)) y) : u8l y := by
  obtain ⟨h1, h2⟩ := (show y.length ≤ maxLen ∧ ∀ j, j < y.length → (Lit.int .u8 (y.getD j 0)).wf = true from h)
  refine ⟨fun z hz => ?_, h1⟩
  obtain ⟨j, hj, rfl⟩ := List.getElem_of_mem hz
  have := wfU (show DT.wf (.int .u8) _ from h2 j hj)
  rw [List.getD_eq_getElem?_getD, List.getElem?_eq_getElem hj] at this
  exact this
theorem wfDq {y : Int × Int × Unit} (h : DT.wf (.pair (.int .u8) (.pair (.int .u8) .unit)) y) : u8z y.1 ∧ u8z y.2.1 := by
  obtain ⟨h1, h2, _⟩ := (show DT.wf (.int .u8) y.1 ∧ DT.wf (.int .u8) y.2.1 ∧ True from h)
  exact ⟨wfU h1, wfU h2⟩

theorem K (y0 : Int × Int × Unit) (y1 : List Int) (y2 : List Int) (_ : DT.wf (.pair (.int .u8) (.pair (.int .u8) .unit)) y0) (_ : DT.wf (.sl (.int .u8)) y1) (_ : DT.wf (.sl (.int .u8)) y2) : FnOk Tryd.prog 8 (F8 (fun d p q => if u8z d.1 ∧ u8z d.2.1 ∧ u8l p ∧ u8l q then some true else none)) := KB8

set_option maxRecDepth 100000 in
theorem walk (w : World) (vs : List Value) (hgl : GlbOk w (fun b => b < w.heap.size)) (h : ArgsOk w [.pair (.int .u8) (.pair (.int .u8) .unit), .sl (.int .u8), .sl (.int .u8)] vs) : Calls Tryd.prog 8 vs.toArray w fun e w' => e = .returned (.bool true) ∧ Below w.heap.size w w' := by
  obtain ⟨v0, vs0, y0, rfl, w0, h0, k0⟩ := ArgsOk.cons h
  obtain ⟨v1, vs1, y1, rfl, w1, h1, k1⟩ := ArgsOk.cons k0
  obtain ⟨v2, vs2, y2, rfl, w2, h2, k2⟩ := ArgsOk.cons k1
  obtain rfl := ArgsOk.nil k2
  exact walkAll (K y0 y1 y2 w0 w1 w2) (xs := [.dv (.pair (.int .u8) (.pair (.int .u8) .unit)) y0, .dv (.sl (.int .u8)) y1, .dv (.sl (.int .u8)) y2]) (r := true) (if_pos ⟨(wfDq w0).1, (wfDq w0).2, wfLs w1, wfLs w2⟩) rfl (HoldsAll.cons h0 (HoldsAll.cons h1 (HoldsAll.cons h2 HoldsAll.nil))) hgl

set_option maxRecDepth 100000 in
theorem lifted (os : Os) (started : os.Started) (H : Type) (enc : TypeId × Value → H) :
    ReturnsInHanded {} Tryd.checked os 8 .any (fun w args => (Rows.lettersCommonSpec.pre enc Tryd.prog Tryd.f8 [] false w args ∧ laidMetH Tryd.prog laidL w) ∧ sizedMet enc Tryd.prog Tryd.f8 (OpenSpec.ofChange Rows.lettersCommonSpec) false w args) (Rows.lettersCommonSpec.post enc Tryd.prog Tryd.f8 false true false false) :=
  lawShellT (fn := Tryd.f8) (s := Rows.lettersCommonSpec) (tb := 4) [.pair (.int .u8) (.pair (.int .u8) .unit), .sl (.int .u8), .sl (.int .u8)] Tryd.func8 (by kernel_rfl) (by kernel_rfl) (by kernel_rfl) Tryd.underlying4 (by kernel_rfl) os started H enc []
    (fun ds hl => by
      match ds, hl with
      | [d0, d1, d2], _ => rfl)
    (ChangeSpec.witness_shaped (enc := enc) (C := Tryd.checked) (os := os) (X := fun w _ => laidMetH Tryd.prog laidL w) false (laidWorld os) #[.agg #[.int .u8 0, .int .u8 0], .slice none 0 0, .slice none 0 0] 8 rfl (World.shaped_of_RefB (by kernel_rfl) (by kernel_rfl)) (by kernel_rfl) (by kernel_rfl) (by kernel_rfl) (laidWorld_met os _)) walk

theorem over : Rows.LettersCommonSaid :=
  OpenClaim.holds_of_wide 8 Tryd.f8 rfl rfl rfl rfl rfl rfl rfl ⟨rfl, rfl, rfl, rfl, rfl⟩ rfl rfl rfl rfl rfl (by kernel_rfl) Tryd.func8 (by kernel_rfl)
    (of_decide_eq_true (by kernel_rfl)) (by unfold Func.isWrapper; first | (rw [if_pos (by decide +kernel)]; kernel_rfl) | (rw [if_neg (by decide +kernel)]; exact ⟨rfl, rfl⟩))
    (fun os started H enc _ => lifted os started H enc)

set_option maxRecDepth 100000 in
/-- THE STATEMENT. -/
theorem proved : Rows.LettersCommonCardSaid :=
  Claim7.holds_tied_plain_at .later [] [.data, .data, .data, .pinned] true (true, "319dfa66b581b5b6d08f6f2fb949c4fc49c9104c5b2ccc686a739ed36fa85254") false
    over (fun _ h => by cases h) (by kernel_rfl) (fun _ h => by cases h) lettersCommon_row_tie rfl ⟨rfl, rfl⟩ mainIs0 rfl
    (fun f fn hf hfn => by
      obtain rfl : f = 8 := Option.some.inj ((show Tryd.prog.funcNamed "tusche/tuschelaw10.LettersCommon" = some 8 by kernel_rfl).symm.trans hf) |>.symm
      obtain rfl : fn = Tryd.f8 := (Option.some.inj (Tryd.func8.symm.trans hfn)).symm
      exact ⟨by kernel_rfl, fun j t ht => by
        rw [Tryd.params8] at ht
        have hall : (#[48, 50, 50] : Array TypeId).toList.all (fun t => !Tryd.pinned.checked.prog.wantsStandIn t) = true := by kernel_rfl
        have := List.all_eq_true.1 hall t (Array.mem_toList_iff.2 (Array.mem_of_getElem? ht))
        simpa using this⟩)
    (by kernel_rfl)

end Go.Proofs.YtmpbbkldopfkpaaDoor.lettersCommon
