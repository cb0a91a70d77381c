/-
  The law InkChoices returns true and turns nothing that was there.
-/
import Derived.Test.YtaioadjcdjmkdaaI5
import Derived.Test.YtaioadjcdjmkdaaQM4
import Derived.Test.YtaioadjcdjmkdaaRows
import Derived.Test.YtaioadjcdjmkdaaEN
import Derived.WalkKit
import Derived.ProofKit
import Derived.OpenShut
import Derived.ChangeOld
import Derived.Below
namespace Go.Proofs.Ytaioadjcdjmkdaa.inkChoices
open Go.RowKit Go.ChangeShapes Go.WideShapes Go.ChangeAt
set_option linter.unusedVariables false
theorem KB4 : FnOk Try.prog 4 (F4 fun _ _ _ => some true) := ok4 (fun p => some (larI p)) (some true) B19 B26 B27 B28 KB15 K16t KB20 KB26 KB27 KB28 (fun _ _ _ => some true) fun p l c r h => ⟨0, by
  rw [← h, m4, Option.bind_some]
  cases hL : larI p with
  | true => rfl
  | false =>
    rw [cond_false]
    by_cases h1 : (l.length : Int) > 40
    · rw [decide_eq_true h1]; rfl
    · rw [decide_eq_false h1, cond_false]
      have hf : fitP p = true ∧ l.length ≤ 1000 := ⟨larI_fit hL, by omega⟩
      obtain ⟨q1, q2, q3⟩ := ch_ls (p := p) (l := l) (c := c)
      have n1 : ((chI p l c).2 != (lsI p l c).2) = false := by rw [bne_eq_false_iff_eq]; exact q1
      simp only [B26, B27, if_pos hf, Option.bind_some, n1, cond_false]
      by_cases e : (lsI p l c).2 = 0
      · obtain ⟨s1, s2, s3, s4⟩ := q3 e
        have n2 : ((lsI p l c).2 != 0) = false := by rw [bne_eq_false_iff_eq]; exact e
        have co : coI p l (chI p l c).1 = (c, 0) := by rw [coI, if_pos s1, if_pos s2, s3]
        simp only [n2, cond_false, B19, if_pos hf, Option.bind_some, co, beq_self_eq_true, cond_true, B28]
        rw [if_pos (by omega), Option.bind_some, s4]; simp
      · have n2 : ((lsI p l c).2 != 0) = true := by rw [bne_iff_ne]; exact e
        simp only [n2, cond_true, q2 e]; rfl⟩

theorem K (y0 : Pal) (y1 : List Int) (y2 : Int) (_ : DT.wf (.pair (.int .i64) (.pair (.sl (.sl (.int .i64))) .unit)) y0) (_ : DT.wf (.sl (.int .i64)) y1) (_ : DT.wf (.int .i64) y2) : FnOk Try.prog 4 (F4 fun _ _ _ => some true) := KB4

set_option maxRecDepth 100000 in
theorem walk (w : World) (vs : List Value) (h : ArgsOk w [.pair (.int .i64) (.pair (.sl (.sl (.int .i64))) .unit), .sl (.int .i64), .int .i64] vs) : Calls Try.prog 4 vs.toArray w fun e w' => e = .returned (.bool true) ∧ Below w.heap.size w w' := by
  obtain ⟨v0, vs0, y0, rfl, w0, h0, k0⟩ := ArgsOk.cons h
  obtain ⟨v1, vs1, y1, rfl, w1, h1, k1⟩ := ArgsOk.cons k0
  obtain ⟨v2, vs2, y2, rfl, w2, h2, k2⟩ := ArgsOk.cons k1
  obtain rfl := ArgsOk.nil k2
  exact walkAll (K y0 y1 y2 w0 w1 w2) (xs := [.dv (.pair (.int .i64) (.pair (.sl (.sl (.int .i64))) .unit)) y0, .dv (.sl (.int .i64)) y1, .dv (.int .i64) y2]) (r := true) rfl rfl (HoldsAll.cons h0 (HoldsAll.cons h1 (HoldsAll.cons h2 HoldsAll.nil)))

set_option maxRecDepth 100000 in
theorem lifted (os : Os) (started : os.Started) (H : Type) (enc : TypeId × Value → H) :
    ReturnsInHanded {} Try.checked os 4 .any (Rows.inkChoicesSpec.pre6 enc Try.prog Try.f4 Rows.inkChoicesRow.domain false) (Rows.inkChoicesSpec.post enc Try.prog Try.f4 false true false false) :=
  lawShell (fn := Try.f4) (s := Rows.inkChoicesSpec) (tb := 4) [.pair (.int .i64) (.pair (.sl (.sl (.int .i64))) .unit), .sl (.int .i64), .int .i64] Try.func4 (by kernel_rfl) (by kernel_rfl) (by kernel_rfl) Try.underlying4 (by kernel_rfl) os started H enc Rows.inkChoicesRow.domain
    (fun ds hl => by
      match ds, hl with
      | [d0, d1, d2], _ => rfl)
    (ChangeSpec.witness6 (enc := enc) (C := Try.checked) false ⟨#[], #[.agg #[.int .i64 0, .slice none 0 0], .slice none 0 0, .int .i64 0], []⟩ 8 (by kernel_rfl) (by kernel_rfl) (by kernel_rfl) (by kernel_rfl)) walk

theorem over : Rows.inkChoicesRow.holds Try.pinned (OpenSpec.ofChange Rows.inkChoicesSpec) :=
  OpenClaim.holds_of_wide 4 Try.f4 rfl rfl rfl rfl rfl rfl rfl ⟨rfl, rfl, rfl, rfl, rfl⟩ rfl rfl rfl rfl rfl (by kernel_rfl) Try.func4 (by kernel_rfl)
    (of_decide_eq_true (by kernel_rfl)) (by unfold Func.isWrapper; first | (rw [if_pos (by decide +kernel)]; kernel_rfl) | (rw [if_neg (by decide +kernel)]; exact ⟨rfl, rfl⟩))
    (fun os started H enc _ => lifted os started H enc)

/-- THE STATEMENT. -/
theorem proved : Rows.InkChoicesSaid := over

end Go.Proofs.Ytaioadjcdjmkdaa.inkChoices
