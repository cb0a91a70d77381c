/-
  The law InkNever returns true and turns nothing that was there.
-/
import Derived.Test.YtaioadjcdjmkdaaI6
import Derived.Test.YtaioadjcdjmkdaaQM5
import Derived.Test.YtaioadjcdjmkdaaRows
import Derived.Test.YtaioadjcdjmkdaaEN
import Derived.WalkKit
import Derived.ProofKit
import Derived.OpenShut
import Derived.ChangeOld
import Derived.Below
namespace Go.Proofs.Ytaioadjcdjmkdaa.inkNever
open Go.RowKit Go.ChangeShapes Go.WideShapes Go.ChangeAt
set_option linter.unusedVariables false
theorem KB5 : FnOk Try.prog 5 (F5 fun _ _ _ => some true) := ok5 (fun p => some (larI p)) (some true) Beq B29 B29 B31 B31 KB15 K16t KB23 KB29 KB30 KB31 KB32 (fun _ _ _ => some true) fun p l c r h => ⟨0, by
  rw [← h, m5, Option.bind_some]
  cases hL : larI p with
  | true => rfl
  | false =>
    rw [cond_false]
    by_cases h1 : (l.length : Int) > 40
    · rw [decide_eq_true h1]; rfl
    · rw [decide_eq_false h1, cond_false]
      have hf : fitP p = true ∧ l.length ≤ 1000 := ⟨larI_fit hL, by omega⟩
      have hg : (evI p).1.length ≤ 1000 := by
        simp only [evI]; split
        · have := colsI_len (itI p p.1.toNat); simp only; omega
        · simp
      simp only [B29, B31, if_pos hf, if_pos hf.1, Option.bind_some, Beq_self hg, cond_true, beq_self_eq_true]⟩

theorem K (y0 : Pal) (y1 : List Int) (y2 : Int) (_ : DT.wf (.pair (.int .i64) (.pair (.sl (.sl (.int .i64))) .unit)) y0) (_ : DT.wf (.sl (.int .i64)) y1) (_ : DT.wf (.int .i64) y2) : FnOk Try.prog 5 (F5 fun _ _ _ => some true) := KB5

set_option maxRecDepth 100000 in
theorem walk (w : World) (vs : List Value) (h : ArgsOk w [.pair (.int .i64) (.pair (.sl (.sl (.int .i64))) .unit), .sl (.int .i64), .int .i64] vs) : Calls Try.prog 5 vs.toArray w fun e w' => e = .returned (.bool true) ∧ Below w.heap.size w w' := by
  obtain ⟨v0, vs0, y0, rfl, w0, h0, k0⟩ := ArgsOk.cons h
  obtain ⟨v1, vs1, y1, rfl, w1, h1, k1⟩ := ArgsOk.cons k0
  obtain ⟨v2, vs2, y2, rfl, w2, h2, k2⟩ := ArgsOk.cons k1
  obtain rfl := ArgsOk.nil k2
  exact walkAll (K y0 y1 y2 w0 w1 w2) (xs := [.dv (.pair (.int .i64) (.pair (.sl (.sl (.int .i64))) .unit)) y0, .dv (.sl (.int .i64)) y1, .dv (.int .i64) y2]) (r := true) rfl rfl (HoldsAll.cons h0 (HoldsAll.cons h1 (HoldsAll.cons h2 HoldsAll.nil)))

set_option maxRecDepth 100000 in
theorem lifted (os : Os) (started : os.Started) (H : Type) (enc : TypeId × Value → H) :
    ReturnsInHanded {} Try.checked os 5 .any (Rows.inkNeverSpec.pre6 enc Try.prog Try.f5 Rows.inkNeverRow.domain false) (Rows.inkNeverSpec.post enc Try.prog Try.f5 false true false false) :=
  lawShell (fn := Try.f5) (s := Rows.inkNeverSpec) (tb := 4) [.pair (.int .i64) (.pair (.sl (.sl (.int .i64))) .unit), .sl (.int .i64), .int .i64] Try.func5 (by kernel_rfl) (by kernel_rfl) (by kernel_rfl) Try.underlying4 (by kernel_rfl) os started H enc Rows.inkNeverRow.domain
    (fun ds hl => by
      match ds, hl with
      | [d0, d1, d2], _ => rfl)
    (ChangeSpec.witness6 (enc := enc) (C := Try.checked) false ⟨#[], #[.agg #[.int .i64 0, .slice none 0 0], .slice none 0 0, .int .i64 0], []⟩ 8 (by kernel_rfl) (by kernel_rfl) (by kernel_rfl) (by kernel_rfl)) walk

theorem over : Rows.inkNeverRow.holds Try.pinned (OpenSpec.ofChange Rows.inkNeverSpec) :=
  OpenClaim.holds_of_wide 5 Try.f5 rfl rfl rfl rfl rfl rfl rfl ⟨rfl, rfl, rfl, rfl, rfl⟩ rfl rfl rfl rfl rfl (by kernel_rfl) Try.func5 (by kernel_rfl)
    (of_decide_eq_true (by kernel_rfl)) (by unfold Func.isWrapper; first | (rw [if_pos (by decide +kernel)]; kernel_rfl) | (rw [if_neg (by decide +kernel)]; exact ⟨rfl, rfl⟩))
    (fun os started H enc _ => lifted os started H enc)

/-- THE STATEMENT. -/
theorem proved : Rows.InkNeverSaid := over

end Go.Proofs.Ytaioadjcdjmkdaa.inkNever
