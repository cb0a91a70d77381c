/-
  The law InkGives returns true and turns nothing that was there.
-/
import Derived.Test.YtaioadjcdjmkdaaI3
import Derived.Test.YtaioadjcdjmkdaaQM3
import Derived.Test.YtaioadjcdjmkdaaRows
import Derived.Test.YtaioadjcdjmkdaaEN
import Derived.WalkKit
import Derived.ProofKit
import Derived.OpenShut
import Derived.ChangeOld
import Derived.Below
namespace Go.Proofs.Ytaioadjcdjmkdaa.inkGives
open Go.RowKit Go.ChangeShapes Go.WideShapes Go.ChangeAt
set_option linter.unusedVariables false
theorem KB3 : FnOk Try.prog 3 (F3 fun _ _ _ => some true) := ok3 (fun p => some (larI p)) (some true) B17 B17 B19 B19 B21 B21 Beq B24 B24 KB15 K16t KB17 KB18 KB19 KB20 KB21 KB22 KB23 KB24 KB25 (fun _ _ _ => some true) fun p l ch r h => ⟨0, by
  rw [← h, m3, Option.bind_some]
  cases hL : larI p with
  | true => rfl
  | false =>
    rw [cond_false]
    by_cases h1 : (l.length : Int) > 40
    · rw [decide_eq_true h1]; rfl
    · rw [decide_eq_false h1, cond_false]
      by_cases h2 : (ch.length : Int) > 40
      · rw [decide_eq_true h2]; rfl
      · rw [decide_eq_false h2, cond_false]
        have hf : fitP p = true ∧ l.length ≤ 1000 := ⟨larI_fit hL, by omega⟩
        have hg : (gvI p l).1.length ≤ 1000 := by
          simp only [gvI]; split
          · have := colsI_len (givI p l); simp only; omega
          · simp
        have hsp : (saI p l).1.length ≤ 1000 := by
          simp only [saI]; split
          · simp only [spI, List.length_map]
            exact Nat.le_trans (List.length_filter_le _ _) (by simp; omega)
          · simp
        simp only [B17, B19, B21, B24, if_pos hf, if_pos hf.1, Option.bind_some, Beq_self hg, Beq_self hsp, cond_true, beq_self_eq_true]⟩

theorem K (y0 : Pal) (y1 : List Int) (y2 : List Bool) (_ : DT.wf (.pair (.int .i64) (.pair (.sl (.sl (.int .i64))) .unit)) y0) (_ : DT.wf (.sl (.int .i64)) y1) (_ : DT.wf (.sl .bool) y2) : FnOk Try.prog 3 (F3 fun _ _ _ => some true) := KB3

set_option maxRecDepth 100000 in
theorem walk (w : World) (vs : List Value) (h : ArgsOk w [.pair (.int .i64) (.pair (.sl (.sl (.int .i64))) .unit), .sl (.int .i64), .sl .bool] vs) : Calls Try.prog 3 vs.toArray w fun e w' => e = .returned (.bool true) ∧ Below w.heap.size w w' := by
  obtain ⟨v0, vs0, y0, rfl, w0, h0, k0⟩ := ArgsOk.cons h
  obtain ⟨v1, vs1, y1, rfl, w1, h1, k1⟩ := ArgsOk.cons k0
  obtain ⟨v2, vs2, y2, rfl, w2, h2, k2⟩ := ArgsOk.cons k1
  obtain rfl := ArgsOk.nil k2
  exact walkAll (K y0 y1 y2 w0 w1 w2) (xs := [.dv (.pair (.int .i64) (.pair (.sl (.sl (.int .i64))) .unit)) y0, .dv (.sl (.int .i64)) y1, .dv (.sl .bool) y2]) (r := true) rfl rfl (HoldsAll.cons h0 (HoldsAll.cons h1 (HoldsAll.cons h2 HoldsAll.nil)))

set_option maxRecDepth 100000 in
theorem lifted (os : Os) (started : os.Started) (H : Type) (enc : TypeId × Value → H) :
    ReturnsInHanded {} Try.checked os 3 .any (Rows.inkGivesSpec.pre6 enc Try.prog Try.f3 Rows.inkGivesRow.domain false) (Rows.inkGivesSpec.post enc Try.prog Try.f3 false true false false) :=
  lawShell (fn := Try.f3) (s := Rows.inkGivesSpec) (tb := 4) [.pair (.int .i64) (.pair (.sl (.sl (.int .i64))) .unit), .sl (.int .i64), .sl .bool] Try.func3 (by kernel_rfl) (by kernel_rfl) (by kernel_rfl) Try.underlying4 (by kernel_rfl) os started H enc Rows.inkGivesRow.domain
    (fun ds hl => by
      match ds, hl with
      | [d0, d1, d2], _ => rfl)
    (ChangeSpec.witness6 (enc := enc) (C := Try.checked) false ⟨#[], #[.agg #[.int .i64 0, .slice none 0 0], .slice none 0 0, .slice none 0 0], []⟩ 8 (by kernel_rfl) (by kernel_rfl) (by kernel_rfl) (by kernel_rfl)) walk

theorem over : Rows.inkGivesRow.holds Try.pinned (OpenSpec.ofChange Rows.inkGivesSpec) :=
  OpenClaim.holds_of_wide 3 Try.f3 rfl rfl rfl rfl rfl rfl rfl ⟨rfl, rfl, rfl, rfl, rfl⟩ rfl rfl rfl rfl rfl (by kernel_rfl) Try.func3 (by kernel_rfl)
    (of_decide_eq_true (by kernel_rfl)) (by unfold Func.isWrapper; first | (rw [if_pos (by decide +kernel)]; kernel_rfl) | (rw [if_neg (by decide +kernel)]; exact ⟨rfl, rfl⟩))
    (fun os started H enc _ => lifted os started H enc)

/-- THE STATEMENT. -/
theorem proved : Rows.InkGivesSaid := over

end Go.Proofs.Ytaioadjcdjmkdaa.inkGives
