/-
 The smallest coalition, lean coalitions and the guilty, told by what they have.
-/
import Derived.Test.YtbjfbbfglkmadaaDoorM10
namespace Go.Proofs.YtbjfbbfglkmadaaDoor
open Go.RowKit
set_option linter.unusedVariables false

theorem isCo_ne {N k : Nat} {x : List Int} (h : isCo N k x) : 0 < x.length := by
 have := h.1
 cases x with
 | nil => exact absurd rfl this
 | cons _ _ => simp
theorem mk_nil {c : Cd} {w : List Int} (h : 0 < w.length) : mk c [] w = false := by
 rw [mk, List.all_eq_false]
 exact ⟨0, List.mem_range.2 h, by simp⟩
theorem er_erase (x : List Int) (k : Nat) : er x k = x.eraseIdx k := (List.eraseIdx_eq_take_drop_succ x k).symm
theorem er_rise {x : List Int} (h : x.Pairwise (· < ·)) (k : Nat) : (er x k).Pairwise (· < ·) := by
 rw [er_erase]; exact h.sublist (List.eraseIdx_sublist x k)
theorem er_lt {x : List Int} {k : Nat} (h : k < x.length) : (er x k).length + 1 = x.length := by
 rw [er_erase, List.length_eraseIdx_of_lt h]; omega
theorem ln_mk {c : Cd} {x w : List Int} (h : ln c x w = true) : mk c x w = true := by
 rw [ln, bae] at h; exact h.2
theorem lean_below {c : Cd} {w : List Int} {N z : Nat} (hw : 0 < w.length) : ∀ (m : Nat) (x : List Int), x.length = m → isCo N z x → mk c x w = true → ∃ y, isCo N z y ∧ ln c y w = true ∧ ∀ i ∈ y, i ∈ x
 | 0, x, hm, hx, _ => absurd (isCo_ne hx) (by omega)
 | m + 1, x, hm, hx, hmk => by
  cases e : ln c x w with
  | true => exact ⟨x, hx, e, fun i hi => hi⟩
  | false =>
   rw [ln, hmk, Bool.and_true, List.all_eq_false] at e
   obtain ⟨k, hk, hmk'⟩ := e
   have hk : k < x.length := by rw [List.mem_range'_1] at hk; omega
   have hmk' : mk c (er x k) w = true := by simpa using hmk'
   have hl := er_lt hk
   have hne : er x k ≠ [] := fun q => by rw [q, mk_nil hw] at hmk'; cases hmk'
   obtain ⟨y, h1, h2, h3⟩ := lean_below (N := N) (z := z) hw m (er x k) (by omega) ⟨hne, by have := hx.2.1; omega, er_rise hx.2.2.1 k, fun i hi => hx.2.2.2 i (er_mem hi)⟩ hmk'
   exact ⟨y, h1, h2, fun i hi => er_mem (h3 i hi)⟩
theorem lnL_iff {c : Cd} {w x : List Int} {z : Int} : x ∈ lnL c w z ↔ isCo c.2.1.length z.toNat x ∧ ln c x w = true := by
 rw [lnL, List.mem_filter, co_mem]
theorem lnL_ne {c : Cd} {w : List Int} {z : Int} (hw : 0 < w.length) : (lnL c w z).length ≠ 0 ↔ ∃ x, isCo c.2.1.length z.toNat x ∧ mk c x w = true := by
 constructor
 ·intro h
  have hm := getD_mem (l := lnL c w z) (d := []) (i := 0) (by omega)
  exact ⟨_, (lnL_iff.1 hm).1, ln_mk (lnL_iff.1 hm).2⟩
 ·rintro ⟨x, hx, hmk⟩ h0
  obtain ⟨y, h1, h2, _⟩ := lean_below hw x.length x rfl hx hmk
  have := List.length_pos_of_mem (lnL_iff.2 ⟨h1, h2⟩)
  omega
theorem gl_mem {c : Cd} {w : List Int} {z : Int} {i : Int} (hw : 0 < w.length) : i ∈ gl c w z ↔ (0 ≤ i ∧ i < (c.2.1.length : Int)) ∧ ∀ x, isCo c.2.1.length z.toNat x → mk c x w = true → i ∈ x := by
 rw [gl, glF_mem, (cnt_all i fun l hl => (lnL_mem hl).2.2.1).2]
 refine and_congr_right fun _ => ⟨fun h x hx hmk => ?_, fun h l hl => h l (lnL_mem hl) (ln_mk (lnL_iff.1 hl).2)⟩
 obtain ⟨y, h1, h2, h3⟩ := lean_below hw x.length x rfl hx hmk
 exact h3 i (h y (lnL_iff.2 ⟨h1, h2⟩))
theorem gl_rise (c : Cd) (w : List Int) (z : Int) : (gl c w z).Pairwise (· < ·) := glF_rise _ _ _ _
end Go.Proofs.YtbjfbbfglkmadaaDoor
