/-
  The law PressPlans returns true and turns nothing that was there.
-/
import Derived.Test.YtbblnbolabpfmaaP8
import Derived.Test.YtbblnbolabpfmaaQM4
import Derived.Test.YtbblnbolabpfmaaRows
import Derived.Test.YtbblnbolabpfmaaEN
import Derived.WalkKit
import Derived.ProofKit
import Derived.OpenShut
import Derived.ChangeOld
import Derived.Below
namespace Go.Proofs.Ytbblnbolabpfmaa.pressPlans
open Go.RowKit Go.ChangeShapes Go.WideShapes Go.ChangeAt
set_option linter.unusedVariables false
theorem KB4 : FnOk Try.prog 4 (F4 fun _ _ => some true) := ok4 (some true) B15 B23 B25 B26 B26 B28 B28 K14t KB15 KB24 KB25 KB26 KB27 KB28 KB29 (fun _ _ => some true) fun l s r h => ⟨0, by
  rw [← h, m4]
  by_cases h1 : (l.length : Int) > 40
  · rw [decide_eq_true h1]; rfl
  · rw [decide_eq_false h1, cond_false]
    by_cases h2 : (s.length : Int) > 40
    · rw [decide_eq_true h2]; rfl
    · rw [decide_eq_false h2, cond_false]
      have hl : l.length ≤ 1000 := by omega
      have hb : ∀ x : Int, (x != x) = false := fun x => by simp
      simp only [B15, B23, B25, B26, B28, if_pos hl, Option.bind_some, hb, cond_false]
      by_cases hc : ckO l = 0
      · have hp : plnO l = (planO l, 0) := by rw [plnO, if_pos hc]
        simp only [hp, hc, hb, cond_false, verP_plan hc, beq_self_eq_true, cond_true]
      · have hp : plnO l = ([], ckO l) := by rw [plnO, if_neg hc]
        simp only [hp, hb, cond_false, bne_T hc, cond_true]
        rfl⟩
theorem K (y0 : List Od) (y1 : List Int) (_ : DT.wf (.sl (.pair (.int .i64) (.pair (.int .i64) .unit))) y0) (_ : DT.wf (.sl (.int .i64)) y1) : FnOk Try.prog 4 (F4 (fun _ _ => some true)) := KB4

set_option maxRecDepth 100000 in
theorem walk (w : World) (vs : List Value) (h : ArgsOk w [.sl (.pair (.int .i64) (.pair (.int .i64) .unit)), .sl (.int .i64)] vs) : Calls Try.prog 4 vs.toArray w fun e w' => e = .returned (.bool true) ∧ Below w.heap.size w w' := by
  obtain ⟨v0, vs0, y0, rfl, w0, h0, k0⟩ := ArgsOk.cons h
  obtain ⟨v1, vs1, y1, rfl, w1, h1, k1⟩ := ArgsOk.cons k0
  obtain rfl := ArgsOk.nil k1
  exact walkAll (K y0 y1 w0 w1) (xs := [.dv (.sl (.pair (.int .i64) (.pair (.int .i64) .unit))) y0, .dv (.sl (.int .i64)) y1]) (r := true) rfl rfl (HoldsAll.cons h0 (HoldsAll.cons h1 HoldsAll.nil))

set_option maxRecDepth 100000 in
theorem lifted (os : Os) (started : os.Started) (H : Type) (enc : TypeId × Value → H) :
    ReturnsInHanded {} Try.checked os 4 .any (Rows.pressPlansSpec.pre6 enc Try.prog Try.f4 Rows.pressPlansRow.domain false) (Rows.pressPlansSpec.post enc Try.prog Try.f4 false true false false) :=
  lawShell (fn := Try.f4) (s := Rows.pressPlansSpec) (tb := 4) [.sl (.pair (.int .i64) (.pair (.int .i64) .unit)), .sl (.int .i64)] Try.func4 (by kernel_rfl) (by kernel_rfl) (by kernel_rfl) Try.underlying4 (by kernel_rfl) os started H enc Rows.pressPlansRow.domain
    (fun ds hl => by
      match ds, hl with
      | [d0, d1], _ => rfl)
    (ChangeSpec.witness6 (enc := enc) (C := Try.checked) false ⟨#[], #[.slice none 0 0, .slice none 0 0], []⟩ 8 (by kernel_rfl) (by kernel_rfl) (by kernel_rfl) (by kernel_rfl)) walk

theorem over : Rows.pressPlansRow.holds Try.pinned (OpenSpec.ofChange Rows.pressPlansSpec) :=
  OpenClaim.holds_of_wide 4 Try.f4 rfl rfl rfl rfl rfl rfl rfl ⟨rfl, rfl, rfl, rfl, rfl⟩ rfl rfl rfl rfl rfl (by kernel_rfl) Try.func4 (by kernel_rfl)
    (of_decide_eq_true (by kernel_rfl)) (by unfold Func.isWrapper; first | (rw [if_pos (by decide +kernel)]; kernel_rfl) | (rw [if_neg (by decide +kernel)]; exact ⟨rfl, rfl⟩))
    (fun os started H enc _ => lifted os started H enc)

/-- THE STATEMENT. -/
theorem proved : Rows.PressPlansSaid := over

end Go.Proofs.Ytbblnbolabpfmaa.pressPlans
