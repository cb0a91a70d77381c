/-
  The law InkOrders returns true and turns nothing that was there.
-/
import Derived.Test.YtaioadjcdjmkdaaI10
import Derived.Test.YtaioadjcdjmkdaaQM7
import Derived.Test.YtaioadjcdjmkdaaRows
import Derived.Test.YtaioadjcdjmkdaaEN
import Derived.WalkKit
import Derived.ProofKit
import Derived.OpenShut
import Derived.ChangeOld
import Derived.Below
namespace Go.Proofs.Ytaioadjcdjmkdaa.inkOrders
open Go.RowKit Go.ChangeShapes Go.WideShapes Go.ChangeAt
set_option linter.unusedVariables false
theorem ord_len {p : Pal} {l : List Int} (hl : l.length ≤ 40) : (ordI p l).1.length ≤ 1000 := by
  simp only [ordI]
  split
  · have main : ∀ (T : List (List Int)) (s : Int × List Int), (∀ q ∈ T, q.length ≤ 40) → s.2.length ≤ 40 → (T.foldl (stp p) s).2.length ≤ 40 := by
      intro T
      induction T with
      | nil => intro s _ h; exact h
      | cons q T ih =>
        intro s h1 h2
        rw [List.foldl_cons]
        refine ih _ (fun x hx => h1 x (by simp [hx])) ?_
        rw [stp]
        cases decide ((cnt p q : Int) > s.1) with
        | true => exact h1 q (by simp)
        | false => exact h2
    have all : ∀ n M, M.length = n → ∀ q ∈ pm n M, q.length = n := by
      intro n
      induction n with
      | zero => intro M _ q hq; simp [pm] at hq; subst hq; rfl
      | succ n ih =>
        intro M hM q hq
        simp only [pm, List.mem_flatMap, List.mem_range] at hq
        obtain ⟨t, ht, hq⟩ := hq
        cases e : isNew M t with
        | false => rw [e] at hq; cases hq
        | true =>
          rw [e, cond_true, List.mem_map] at hq
          obtain ⟨q', hq', rfl⟩ := hq
          have := ih (wo M t) (by have := wo_len ht; omega) q' hq'
          simp; omega
    have := main (pm l.length (srt l)) (0, []) (fun q hq => by rw [all _ _ (srt_len l) q hq]; omega) (by simp)
    show ((pm l.length (srt l)).foldl (stp p) (0, [])).2.length ≤ 1000
    omega
  · simp
theorem KB7 : FnOk Try.prog 7 (F7 fun _ _ => some true) := ok7 (fun p => some (larI p)) (some true) Beq B39 B39 KB15 K16t KB23 KB39 KB40 (fun _ _ => some true) fun p l r h => ⟨0, by
  rw [← h, m7, Option.bind_some]
  cases hL : larI p with
  | true => rfl
  | false =>
    rw [cond_false]
    by_cases h1 : (l.length : Int) > 40
    · rw [decide_eq_true h1]; rfl
    · rw [decide_eq_false h1, cond_false]
      have hf : fitP p = true ∧ l.length ≤ 1000 := ⟨larI_fit hL, by omega⟩
      simp only [B39, if_pos hf, Option.bind_some, Beq_self (ord_len (p := p) (l := l) (by omega)), cond_true, beq_self_eq_true]⟩

theorem K (y0 : Pal) (y1 : List Int) (_ : DT.wf (.pair (.int .i64) (.pair (.sl (.sl (.int .i64))) .unit)) y0) (_ : DT.wf (.sl (.int .i64)) y1) : FnOk Try.prog 7 (F7 fun _ _ => some true) := KB7

set_option maxRecDepth 100000 in
theorem walk (w : World) (vs : List Value) (h : ArgsOk w [.pair (.int .i64) (.pair (.sl (.sl (.int .i64))) .unit), .sl (.int .i64)] vs) : Calls Try.prog 7 vs.toArray w fun e w' => e = .returned (.bool true) ∧ Below w.heap.size w w' := by
  obtain ⟨v0, vs0, y0, rfl, w0, h0, k0⟩ := ArgsOk.cons h
  obtain ⟨v1, vs1, y1, rfl, w1, h1, k1⟩ := ArgsOk.cons k0
  obtain rfl := ArgsOk.nil k1
  exact walkAll (K y0 y1 w0 w1) (xs := [.dv (.pair (.int .i64) (.pair (.sl (.sl (.int .i64))) .unit)) y0, .dv (.sl (.int .i64)) y1]) (r := true) rfl rfl (HoldsAll.cons h0 (HoldsAll.cons h1 HoldsAll.nil))

set_option maxRecDepth 100000 in
theorem lifted (os : Os) (started : os.Started) (H : Type) (enc : TypeId × Value → H) :
    ReturnsInHanded {} Try.checked os 7 .any (Rows.inkOrdersSpec.pre6 enc Try.prog Try.f7 Rows.inkOrdersRow.domain false) (Rows.inkOrdersSpec.post enc Try.prog Try.f7 false true false false) :=
  lawShell (fn := Try.f7) (s := Rows.inkOrdersSpec) (tb := 4) [.pair (.int .i64) (.pair (.sl (.sl (.int .i64))) .unit), .sl (.int .i64)] Try.func7 (by kernel_rfl) (by kernel_rfl) (by kernel_rfl) Try.underlying4 (by kernel_rfl) os started H enc Rows.inkOrdersRow.domain
    (fun ds hl => by
      match ds, hl with
      | [d0, d1], _ => rfl)
    (ChangeSpec.witness6 (enc := enc) (C := Try.checked) false ⟨#[], #[.agg #[.int .i64 0, .slice none 0 0], .slice none 0 0], []⟩ 8 (by kernel_rfl) (by kernel_rfl) (by kernel_rfl) (by kernel_rfl)) walk

theorem over : Rows.inkOrdersRow.holds Try.pinned (OpenSpec.ofChange Rows.inkOrdersSpec) :=
  OpenClaim.holds_of_wide 7 Try.f7 rfl rfl rfl rfl rfl rfl rfl ⟨rfl, rfl, rfl, rfl, rfl⟩ rfl rfl rfl rfl rfl (by kernel_rfl) Try.func7 (by kernel_rfl)
    (of_decide_eq_true (by kernel_rfl)) (by unfold Func.isWrapper; first | (rw [if_pos (by decide +kernel)]; kernel_rfl) | (rw [if_neg (by decide +kernel)]; exact ⟨rfl, rfl⟩))
    (fun os started H enc _ => lifted os started H enc)

/-- THE STATEMENT. -/
theorem proved : Rows.InkOrdersSaid := over

end Go.Proofs.Ytaioadjcdjmkdaa.inkOrders
