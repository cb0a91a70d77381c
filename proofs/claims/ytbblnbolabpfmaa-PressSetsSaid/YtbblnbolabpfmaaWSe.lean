/-
  The law PressSets returns true and turns nothing that was there.
-/
import Derived.Test.YtbblnbolabpfmaaP7
import Derived.Test.YtbblnbolabpfmaaQM3
import Derived.Test.YtbblnbolabpfmaaRows
import Derived.Test.YtbblnbolabpfmaaEN
import Derived.WalkKit
import Derived.ProofKit
import Derived.OpenShut
import Derived.ChangeOld
import Derived.Below
namespace Go.Proofs.Ytbblnbolabpfmaa.pressSets
open Go.RowKit Go.ChangeShapes Go.WideShapes Go.ChangeAt
set_option linter.unusedVariables false
theorem eqs22 {a : List Int} (h : a.length ≤ 1000) : B22 a a = some true := by rw [B22, if_pos h, decide_eq_true rfl]
theorem sto_len (l : List Od) : (stO l).1.length ≤ 1000 := by
  unfold stO
  split
  · rename_i hc
    have := cnt_len (greedy_gr (okO_of hc)).1
    have h2 := cnt_le_n (mem (greedy l [])) l.length
    have := (okO_of hc).len
    show (greedy l []).length ≤ 1000
    omega
  · show (0 : Nat) ≤ 1000
    omega
theorem KB3 : FnOk Try.prog 3 (F3 fun _ _ => some true) := ok3 (some true) B15 B16 B16 B18 B18 B20 B20 B22 B23 B23 K14t KB15 KB16 KB17 KB18 KB19 KB20 KB21 KB22 KB23 KB24 (fun _ _ => some true) fun l s r h => ⟨0, by
  rw [← h, m3]
  by_cases h1 : (l.length : Int) > 40
  · rw [decide_eq_true h1]; rfl
  · rw [decide_eq_false h1, cond_false]
    by_cases h2 : (s.length : Int) > 40
    · rw [decide_eq_true h2]; rfl
    · rw [decide_eq_false h2, cond_false]
      have hl : l.length ≤ 1000 := by omega
      simp only [B15, B16, B18, B20, B23, if_pos hl, if_pos (show l.length ≤ 1000 ∧ s.length ≤ 1000 by omega), Option.bind_some, eqs22 (sto_len l), cond_true, beq_self_eq_true]⟩
theorem K (y0 : List Od) (y1 : List Int) (_ : DT.wf (.sl (.pair (.int .i64) (.pair (.int .i64) .unit))) y0) (_ : DT.wf (.sl (.int .i64)) y1) : FnOk Try.prog 3 (F3 (fun _ _ => some true)) := KB3

set_option maxRecDepth 100000 in
theorem walk (w : World) (vs : List Value) (h : ArgsOk w [.sl (.pair (.int .i64) (.pair (.int .i64) .unit)), .sl (.int .i64)] vs) : Calls Try.prog 3 vs.toArray w fun e w' => e = .returned (.bool true) ∧ Below w.heap.size w w' := by
  obtain ⟨v0, vs0, y0, rfl, w0, h0, k0⟩ := ArgsOk.cons h
  obtain ⟨v1, vs1, y1, rfl, w1, h1, k1⟩ := ArgsOk.cons k0
  obtain rfl := ArgsOk.nil k1
  exact walkAll (K y0 y1 w0 w1) (xs := [.dv (.sl (.pair (.int .i64) (.pair (.int .i64) .unit))) y0, .dv (.sl (.int .i64)) y1]) (r := true) rfl rfl (HoldsAll.cons h0 (HoldsAll.cons h1 HoldsAll.nil))

set_option maxRecDepth 100000 in
theorem lifted (os : Os) (started : os.Started) (H : Type) (enc : TypeId × Value → H) :
    ReturnsInHanded {} Try.checked os 3 .any (Rows.pressSetsSpec.pre6 enc Try.prog Try.f3 Rows.pressSetsRow.domain false) (Rows.pressSetsSpec.post enc Try.prog Try.f3 false true false false) :=
  lawShell (fn := Try.f3) (s := Rows.pressSetsSpec) (tb := 4) [.sl (.pair (.int .i64) (.pair (.int .i64) .unit)), .sl (.int .i64)] Try.func3 (by kernel_rfl) (by kernel_rfl) (by kernel_rfl) Try.underlying4 (by kernel_rfl) os started H enc Rows.pressSetsRow.domain
    (fun ds hl => by
      match ds, hl with
      | [d0, d1], _ => rfl)
    (ChangeSpec.witness6 (enc := enc) (C := Try.checked) false ⟨#[], #[.slice none 0 0, .slice none 0 0], []⟩ 8 (by kernel_rfl) (by kernel_rfl) (by kernel_rfl) (by kernel_rfl)) walk

theorem over : Rows.pressSetsRow.holds Try.pinned (OpenSpec.ofChange Rows.pressSetsSpec) :=
  OpenClaim.holds_of_wide 3 Try.f3 rfl rfl rfl rfl rfl rfl rfl ⟨rfl, rfl, rfl, rfl, rfl⟩ rfl rfl rfl rfl rfl (by kernel_rfl) Try.func3 (by kernel_rfl)
    (of_decide_eq_true (by kernel_rfl)) (by unfold Func.isWrapper; first | (rw [if_pos (by decide +kernel)]; kernel_rfl) | (rw [if_neg (by decide +kernel)]; exact ⟨rfl, rfl⟩))
    (fun os started H enc _ => lifted os started H enc)

/-- THE STATEMENT. -/
theorem proved : Rows.PressSetsSaid := over

end Go.Proofs.Ytbblnbolabpfmaa.pressSets
