/-
  The law PressCounts returns true and turns nothing that was there.
-/
import Derived.Test.YtbblnbolabpfmaaP11
import Derived.Test.YtbblnbolabpfmaaQM6
import Derived.Test.YtbblnbolabpfmaaRows
import Derived.Test.YtbblnbolabpfmaaEN
import Derived.WalkKit
import Derived.ProofKit
import Derived.OpenShut
import Derived.ChangeOld
import Derived.Below
namespace Go.Proofs.Ytbblnbolabpfmaa.pressCounts
open Go.RowKit Go.ChangeShapes Go.WideShapes Go.ChangeAt
set_option linter.unusedVariables false
theorem KB6 : FnOk Try.prog 6 (F6 fun _ _ _ _ => some true) := ok6 (some true) B15 B34 B34 B36 B36 B38 B38 K14t KB15 KB34 KB35 KB36 KB37 KB38 KB39 (fun _ _ _ _ => some true) fun l a b c r h => ⟨0, by
  rw [← h, m6]
  by_cases h1 : (l.length : Int) > 40
  · rw [decide_eq_true h1]; rfl
  · rw [decide_eq_false h1, cond_false]
    have hl : l.length ≤ 1000 := by omega
    simp only [B15, B34, B36, B38, if_pos hl, Option.bind_some, cond_true, beq_self_eq_true]⟩
theorem K (y0 : List Od) (y1 : Int) (y2 : Int) (y3 : Int) (_ : DT.wf (.sl (.pair (.int .i64) (.pair (.int .i64) .unit))) y0) (_ : DT.wf (.int .i64) y1) (_ : DT.wf (.int .i64) y2) (_ : DT.wf (.int .i64) y3) : FnOk Try.prog 6 (F6 (fun _ _ _ _ => some true)) := KB6

set_option maxRecDepth 100000 in
theorem walk (w : World) (vs : List Value) (h : ArgsOk w [.sl (.pair (.int .i64) (.pair (.int .i64) .unit)), .int .i64, .int .i64, .int .i64] vs) : Calls Try.prog 6 vs.toArray w fun e w' => e = .returned (.bool true) ∧ Below w.heap.size w w' := by
  obtain ⟨v0, vs0, y0, rfl, w0, h0, k0⟩ := ArgsOk.cons h
  obtain ⟨v1, vs1, y1, rfl, w1, h1, k1⟩ := ArgsOk.cons k0
  obtain ⟨v2, vs2, y2, rfl, w2, h2, k2⟩ := ArgsOk.cons k1
  obtain ⟨v3, vs3, y3, rfl, w3, h3, k3⟩ := ArgsOk.cons k2
  obtain rfl := ArgsOk.nil k3
  exact walkAll (K y0 y1 y2 y3 w0 w1 w2 w3) (xs := [.dv (.sl (.pair (.int .i64) (.pair (.int .i64) .unit))) y0, .dv (.int .i64) y1, .dv (.int .i64) y2, .dv (.int .i64) y3]) (r := true) rfl rfl (HoldsAll.cons h0 (HoldsAll.cons h1 (HoldsAll.cons h2 (HoldsAll.cons h3 HoldsAll.nil))))

set_option maxRecDepth 100000 in
theorem lifted (os : Os) (started : os.Started) (H : Type) (enc : TypeId × Value → H) :
    ReturnsInHanded {} Try.checked os 6 .any (Rows.pressCountsSpec.pre6 enc Try.prog Try.f6 Rows.pressCountsRow.domain false) (Rows.pressCountsSpec.post enc Try.prog Try.f6 false true false false) :=
  lawShell (fn := Try.f6) (s := Rows.pressCountsSpec) (tb := 4) [.sl (.pair (.int .i64) (.pair (.int .i64) .unit)), .int .i64, .int .i64, .int .i64] Try.func6 (by kernel_rfl) (by kernel_rfl) (by kernel_rfl) Try.underlying4 (by kernel_rfl) os started H enc Rows.pressCountsRow.domain
    (fun ds hl => by
      match ds, hl with
      | [d0, d1, d2, d3], _ => rfl)
    (ChangeSpec.witness6 (enc := enc) (C := Try.checked) false ⟨#[], #[.slice none 0 0, .int .i64 0, .int .i64 0, .int .i64 0], []⟩ 8 (by kernel_rfl) (by kernel_rfl) (by kernel_rfl) (by kernel_rfl)) walk

theorem over : Rows.pressCountsRow.holds Try.pinned (OpenSpec.ofChange Rows.pressCountsSpec) :=
  OpenClaim.holds_of_wide 6 Try.f6 rfl rfl rfl rfl rfl rfl rfl ⟨rfl, rfl, rfl, rfl, rfl⟩ rfl rfl rfl rfl rfl (by kernel_rfl) Try.func6 (by kernel_rfl)
    (of_decide_eq_true (by kernel_rfl)) (by unfold Func.isWrapper; first | (rw [if_pos (by decide +kernel)]; kernel_rfl) | (rw [if_neg (by decide +kernel)]; exact ⟨rfl, rfl⟩))
    (fun os started H enc _ => lifted os started H enc)

/-- THE STATEMENT. -/
theorem proved : Rows.PressCountsSaid := over

end Go.Proofs.Ytbblnbolabpfmaa.pressCounts
