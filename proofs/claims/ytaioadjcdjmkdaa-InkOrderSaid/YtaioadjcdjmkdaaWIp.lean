/-
  The law InkOrder returns true and turns nothing that was there.
-/
import Derived.Test.YtaioadjcdjmkdaaJ14
import Derived.Test.YtaioadjcdjmkdaaQM12
import Derived.Test.YtaioadjcdjmkdaaRows
import Derived.Test.YtaioadjcdjmkdaaEN
import Derived.WalkKit
import Derived.ProofKit
import Derived.OpenShut
import Derived.ChangeOld
import Derived.Below
namespace Go.Proofs.Ytaioadjcdjmkdaa.inkOrder
open Go.RowKit Go.ChangeShapes Go.WideShapes Go.ChangeAt
set_option linter.unusedVariables false
def B12 (e : Pal) (by_ : List Int) : Option Bool := if okE e = true ∧ okB by_ = true then some true else none
theorem KB12 : FnOk Try.prog 12 (F12 B12) := ok12 (some true) Beq B39 B41 B42 (B50 6) K16t KB23 KB39 KB41 KB42 (KB50 6) B12 fun e by_ r h => ⟨0, by
  simp only [B12] at h
  split at h
  · rename_i hf
    obtain ⟨he, hb⟩ := hf
    have hb' : ∀ b ∈ by_, 0 ≤ b ∧ b < 256 := by simpa [okB] using hb
    have e42 := B42_ok (e := e) hb' (k := 5) (by omega)
    have hp := mkP_ok e
    rw [← h, m12]
    rw [show ((5 : Nat) : Int) = 5 from rfl] at e42
    rw [B41, if_pos he, Option.bind_some, e42, Option.bind_some]
    obtain ⟨hs, hl5⟩ := sqB_ok hp by_ 5
    generalize sqB (mkP e) by_ 5 = l at *
    generalize mkP e = p at *
    have hg : ([p] : List Pal).getD 0 dP = p := rfl
    have hg' : ([p] : List Pal).getD 0 ((0 : Int), ([] : List (List Int)), ()) = p := rfl
    have e1 : B50 6 [] l [p] 0 [] = some ([p], ((ap l.length l).foldl (stq p) (0, [])).1, ((ap l.length l).foldl (stq p) (0, [])).2) := by
      rw [B50, hg, List.nil_append, if_pos ⟨by omega, okS_ok.2 ⟨hp, by omega, hs⟩, by simp; omega, by simp⟩, tryQ, hg]
      have : (ap l.length l).map (([] : List Int) ++ ·) = ap l.length l := by simp
      rw [this]
    have e2 : B39 p l = some (((ap l.length l).foldl (stq p) (0, [])).2, ((ap l.length l).foldl (stq p) (0, [])).1, 0) := by
      rw [B39, if_pos ⟨hp.fit, by omega⟩, ordI, if_pos (sq_ok.2 ⟨hp, by omega, hs⟩), same_best hp hs]
    have hlen : ((ap l.length l).foldl (stq p) (0, [])).2.length ≤ 1000 := stq_len _ _ (fun q hq => by
      have := ap_len _ _ _ rfl hq; omega) (by simp)
    simp only [e1, Option.bind_some, hg', e2, beq_self_eq_true, cond_true, Beq_self hlen]
  · cases h⟩

theorem b256 {n : Int} (h : (Lit.int .u8 n).wf = true) : 0 ≤ n ∧ n < 256 := by have := bounds_u8 h; omega
theorem wfE {y : Pal} (h : DT.wf (.pair (.int .u8) (.pair (.sl (.arr 5 (.int .u8))) .unit)) y) : okE y = true := by
  obtain ⟨h1, ⟨_, h2⟩, _⟩ := (show (Lit.int .u8 y.1).wf = true ∧ (y.2.1.length ≤ maxLen ∧ ∀ i, i < y.2.1.length → DT.wf (.arr 5 (.int .u8)) (y.2.1.getD i (DT.dflt (.arr 5 (.int .u8))))) ∧ True from h)
  refine okE_ok.2 ⟨b256 h1, fun l hl => ?_⟩
  obtain ⟨i, hi, rfl⟩ := List.getElem_of_mem hl
  have := h2 i hi
  rw [List.getD_eq_getElem?_getD, List.getElem?_eq_getElem hi] at this
  obtain ⟨a, b⟩ := (show (y.2.1[i]).length = 5 ∧ ∀ j, j < (y.2.1[i]).length → (Lit.int .u8 ((y.2.1[i]).getD j 0)).wf = true from this)
  refine ⟨a, fun x hx => ?_⟩
  obtain ⟨j, hj, rfl⟩ := List.getElem_of_mem hx
  have := b256 (b j hj)
  rw [List.getD_eq_getElem?_getD, List.getElem?_eq_getElem hj] at this
  exact this
theorem okB_of {y : List Int} (h2 : ∀ i, i < y.length → (Lit.int .u8 (y.getD i 0)).wf = true) : okB y = true := by
  simp only [okB, List.all_eq_true, decide_eq_true_eq]
  intro x hx
  obtain ⟨j, hj, rfl⟩ := List.getElem_of_mem hx
  have := b256 (h2 j hj)
  rw [List.getD_eq_getElem?_getD, List.getElem?_eq_getElem hj] at this
  exact this
theorem wfB {y : List Int} (h : DT.wf (.sl (.int .u8)) y) : okB y = true := okB_of (show y.length ≤ maxLen ∧ ∀ i, i < y.length → (Lit.int .u8 (y.getD i 0)).wf = true from h).2
theorem wfA {n : Nat} {y : List Int} (h : DT.wf (.arr n (.int .u8)) y) : y.length = n ∧ okB y = true := by
  obtain ⟨h1, h2⟩ := (show y.length = n ∧ ∀ i, i < y.length → (Lit.int .u8 (y.getD i 0)).wf = true from h)
  exact ⟨h1, okB_of h2⟩
theorem K (y0 : Pal) (y1 : List Int) (_ : DT.wf (.pair (.int .u8) (.pair (.sl (.arr 5 (.int .u8))) .unit)) y0) (_ : DT.wf (.sl (.int .u8)) y1) : FnOk Try.prog 12 (F12 B12) := KB12

set_option maxRecDepth 100000 in
theorem walk (w : World) (vs : List Value) (h : ArgsOk w [.pair (.int .u8) (.pair (.sl (.arr 5 (.int .u8))) .unit), .sl (.int .u8)] vs) : Calls Try.prog 12 vs.toArray w fun e w' => e = .returned (.bool true) ∧ Below w.heap.size w w' := by
  obtain ⟨v0, vs0, y0, rfl, w0, h0, k0⟩ := ArgsOk.cons h
  obtain ⟨v1, vs1, y1, rfl, w1, h1, k1⟩ := ArgsOk.cons k0
  obtain rfl := ArgsOk.nil k1
  exact walkAll (K y0 y1 w0 w1) (xs := [.dv (.pair (.int .u8) (.pair (.sl (.arr 5 (.int .u8))) .unit)) y0, .dv (.sl (.int .u8)) y1]) (r := true) (if_pos ⟨wfE w0, wfB w1⟩) rfl (HoldsAll.cons h0 (HoldsAll.cons h1 HoldsAll.nil))

set_option maxRecDepth 100000 in
theorem lifted (os : Os) (started : os.Started) (H : Type) (enc : TypeId × Value → H) :
    ReturnsInHanded {} Try.checked os 12 .any (Rows.inkOrderSpec.pre6 enc Try.prog Try.f12 Rows.inkOrderRow.domain false) (Rows.inkOrderSpec.post enc Try.prog Try.f12 false true false false) :=
  lawShell (fn := Try.f12) (s := Rows.inkOrderSpec) (tb := 4) [.pair (.int .u8) (.pair (.sl (.arr 5 (.int .u8))) .unit), .sl (.int .u8)] Try.func12 (by kernel_rfl) (by kernel_rfl) (by kernel_rfl) Try.underlying4 (by kernel_rfl) os started H enc Rows.inkOrderRow.domain
    (fun ds hl => by
      match ds, hl with
      | [d0, d1], _ => rfl)
    (ChangeSpec.witness6 (enc := enc) (C := Try.checked) false ⟨#[], #[.agg #[.int .u8 0, .slice none 0 0], .slice none 0 0], []⟩ 8 (by kernel_rfl) (by kernel_rfl) (by kernel_rfl) (by kernel_rfl)) walk

theorem over : Rows.inkOrderRow.holds Try.pinned (OpenSpec.ofChange Rows.inkOrderSpec) :=
  OpenClaim.holds_of_wide 12 Try.f12 rfl rfl rfl rfl rfl rfl rfl ⟨rfl, rfl, rfl, rfl, rfl⟩ rfl rfl rfl rfl rfl (by kernel_rfl) Try.func12 (by kernel_rfl)
    (of_decide_eq_true (by kernel_rfl)) (by unfold Func.isWrapper; first | (rw [if_pos (by decide +kernel)]; kernel_rfl) | (rw [if_neg (by decide +kernel)]; exact ⟨rfl, rfl⟩))
    (fun os started H enc _ => lifted os started H enc)

/-- THE STATEMENT. -/
theorem proved : Rows.InkOrderSaid := over

end Go.Proofs.Ytaioadjcdjmkdaa.inkOrder
