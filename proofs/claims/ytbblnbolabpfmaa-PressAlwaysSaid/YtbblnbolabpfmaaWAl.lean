/-
  The law PressAlways returns true and turns nothing that was there.
-/
import Derived.Test.YtbblnbolabpfmaaP9b
import Derived.Test.YtbblnbolabpfmaaQM5
import Derived.Test.YtbblnbolabpfmaaRows
import Derived.Test.YtbblnbolabpfmaaEN
import Derived.WalkKit
import Derived.ProofKit
import Derived.OpenShut
import Derived.ChangeOld
import Derived.Below
namespace Go.Proofs.Ytbblnbolabpfmaa.pressAlways
open Go.RowKit Go.ChangeShapes Go.WideShapes Go.ChangeAt
set_option linter.unusedVariables false
theorem eqs22 {a : List Int} (h : a.length ≤ 1000) : B22 a a = some true := by rw [B22, if_pos h, decide_eq_true rfl]
theorem alw_len {l : List Od} (hl : l.length ≤ 40) : (alwO l).1.length ≤ 1000 := by
  unfold alwO
  split
  · have := lstF_len (alwP l) l.length 0
    show (lstF (alwP l) l.length 0).length ≤ 1000
    omega
  · exact Nat.zero_le _
theorem nev_len {l : List Od} (hl : l.length ≤ 40) : (nevO l).1.length ≤ 1000 := by
  unfold nevO
  split
  · have := lstF_len (nevP l) l.length 0
    show (lstF (nevP l) l.length 0).length ≤ 1000
    omega
  · exact Nat.zero_le _
theorem KB5 : FnOk Try.prog 5 (F5 fun _ => some true) := ok5 (some true) B15 B22 B30 B30 B32 B32 K14t KB15 KB22 KB30 KB31 KB32 KB33 (fun _ => some true) fun l r h => ⟨0, by
  rw [← h, m5]
  by_cases h1 : (l.length : Int) > 40
  · rw [decide_eq_true h1]; rfl
  · rw [decide_eq_false h1, cond_false]
    have hl : l.length ≤ 1000 := by omega
    simp only [B15, B30, B32, if_pos hl, Option.bind_some, eqs22 (alw_len (l := l) (by omega)), eqs22 (nev_len (l := l) (by omega)), cond_true, beq_self_eq_true]⟩
theorem K (y0 : List Od) (_ : DT.wf (.sl (.pair (.int .i64) (.pair (.int .i64) .unit))) y0) : FnOk Try.prog 5 (F5 (fun _ => some true)) := KB5

set_option maxRecDepth 100000 in
theorem walk (w : World) (vs : List Value) (h : ArgsOk w [.sl (.pair (.int .i64) (.pair (.int .i64) .unit))] vs) : Calls Try.prog 5 vs.toArray w fun e w' => e = .returned (.bool true) ∧ Below w.heap.size w w' := by
  obtain ⟨v0, vs0, y0, rfl, w0, h0, k0⟩ := ArgsOk.cons h
  obtain rfl := ArgsOk.nil k0
  exact walkAll (K y0 w0) (xs := [.dv (.sl (.pair (.int .i64) (.pair (.int .i64) .unit))) y0]) (r := true) rfl rfl (HoldsAll.cons h0 HoldsAll.nil)

set_option maxRecDepth 100000 in
theorem lifted (os : Os) (started : os.Started) (H : Type) (enc : TypeId × Value → H) :
    ReturnsInHanded {} Try.checked os 5 .any (Rows.pressAlwaysSpec.pre6 enc Try.prog Try.f5 Rows.pressAlwaysRow.domain false) (Rows.pressAlwaysSpec.post enc Try.prog Try.f5 false true false false) :=
  lawShell (fn := Try.f5) (s := Rows.pressAlwaysSpec) (tb := 4) [.sl (.pair (.int .i64) (.pair (.int .i64) .unit))] Try.func5 (by kernel_rfl) (by kernel_rfl) (by kernel_rfl) Try.underlying4 (by kernel_rfl) os started H enc Rows.pressAlwaysRow.domain
    (fun ds hl => by
      match ds, hl with
      | [d0], _ => rfl)
    (ChangeSpec.witness6 (enc := enc) (C := Try.checked) false ⟨#[], #[.slice none 0 0], []⟩ 8 (by kernel_rfl) (by kernel_rfl) (by kernel_rfl) (by kernel_rfl)) walk

theorem over : Rows.pressAlwaysRow.holds Try.pinned (OpenSpec.ofChange Rows.pressAlwaysSpec) :=
  OpenClaim.holds_of_wide 5 Try.f5 rfl rfl rfl rfl rfl rfl rfl ⟨rfl, rfl, rfl, rfl, rfl⟩ rfl rfl rfl rfl rfl (by kernel_rfl) Try.func5 (by kernel_rfl)
    (of_decide_eq_true (by kernel_rfl)) (by unfold Func.isWrapper; first | (rw [if_pos (by decide +kernel)]; kernel_rfl) | (rw [if_neg (by decide +kernel)]; exact ⟨rfl, rfl⟩))
    (fun os started H enc _ => lifted os started H enc)

/-- THE STATEMENT. -/
theorem proved : Rows.PressAlwaysSaid := over

end Go.Proofs.Ytbblnbolabpfmaa.pressAlways
