/-
  The smallest coalition, lean coalitions and the guilty, told by what they have.
-/
import Derived.Test.YtbjfbbfglkmadaaDoorM10
namespace Go.Proofs.YtbjfbbfglkmadaaDoor
open Go.RowKit
set_option linter.unusedVariables false

theorem isCo_ne {N k : Nat} {x : List Int} (h : isCo N k x) : 0 < x.length := by
  have := h.1
  cases x with
  | nil => exact absurd rfl this
  | cons _ _ => simp
def Bst (c : Cd) (w : List Int) (P : List (List Int)) (b : List Int) : Prop :=
  (b = [] ∧ ∀ x ∈ P, mk c x w = false) ∨ (b ∈ P ∧ mk c b w = true ∧ ∀ x ∈ P, mk c x w = true → b.length < x.length ∨ (b.length = x.length ∧ (x = b ∨ bf b x = true)))
theorem Bst.uniq {c : Cd} {w : List Int} {P : List (List Int)} {b b' : List Int} (h : Bst c w P b) (h' : Bst c w P b') : b = b' := by
  rcases h with ⟨h1, h2⟩ | ⟨h1, h2, h3⟩ <;> rcases h' with ⟨g1, g2⟩ | ⟨g1, g2, g3⟩
  · rw [h1, g1]
  · rw [h2 b' g1] at g2; cases g2
  · rw [g2 b h1] at h2; cases h2
  · rcases h3 b' g1 g2 with q1 | ⟨q1, q2⟩ <;> rcases g3 b h1 h2 with p1 | ⟨p1, p2⟩
    · omega
    · omega
    · omega
    · rcases q2 with q2 | q2
      · exact q2.symm
      · rcases p2 with p2 | p2
        · exact p2
        · rw [bf_asym q2] at p2; cases p2
theorem find_first {p : List Int → Bool} {l : List Int} : ∀ {L : List (List Int)}, L.Pairwise (fun a b => bf a b = true) → L.find? p = some l → l ∈ L ∧ p l = true ∧ ∀ x ∈ L, p x = true → x = l ∨ bf l x = true
  | [], _, h => by cases h
  | a :: r, hs, h => by
    obtain ⟨h1, h2⟩ := List.pairwise_cons.1 hs
    rw [List.find?_cons] at h
    cases e : p a with
    | true =>
      rw [e] at h
      obtain rfl := Option.some.inj h
      exact ⟨by simp, e, fun x hx _ => (List.mem_cons.1 hx).imp id fun hx => h1 x hx⟩
    | false =>
      rw [e] at h
      obtain ⟨a1, a2, a3⟩ := find_first h2 h
      refine ⟨by simp [a1], a2, fun x hx hp => ?_⟩
      rcases List.mem_cons.1 hx with rfl | hx
      · rw [e] at hp; cases hp
      · exact a3 x hx hp
theorem isCo_up {N k k' : Nat} {x : List Int} (h : isCo N k x) (hk : x.length ≤ k') : isCo N k' x := ⟨h.1, hk, h.2.2⟩
theorem fwF_best {c : Cd} {w : List Int} (hn : c.2.1.length ≤ 10) : ∀ (n s : Nat), n + s = c.2.1.length + 1 → (∀ x ∈ co c.2.1.length 10, mk c x w = true → s ≤ x.length) →
    ∃ b, Bst c w (co c.2.1.length 10) b ∧ fwF c w n s = cond (decide (b.length = 0)) ([], 14) (b, 0)
  | 0, s, h, hs => ⟨[], .inl ⟨rfl, fun x hx => by
      cases e : mk c x w with
      | false => rfl
      | true =>
        have := hs x hx e
        have := isCo_len (co_mem.1 hx)
        omega⟩, rfl⟩
  | n + 1, s, h, hs => by
    rw [fwF]
    cases hf : fwP c w s with
    | some l =>
      obtain ⟨h1, h2, h3⟩ := find_first (co_sorted _ _) hf
      simp only [Bool.and_eq_true, decide_eq_true_eq] at h2 h3
      have hl := co_mem.1 h1
      have hll := isCo_len hl
      refine ⟨l, .inr ⟨co_mem.2 (isCo_up hl (by omega)), h2.2, fun x hx hm => ?_⟩, ?_⟩
      · have hx1 := hs x hx hm
        by_cases e : x.length = s
        · exact .inr ⟨by omega, h3 x (co_mem.2 (isCo_up (co_mem.1 hx) (by omega))) ⟨e, hm⟩⟩
        · exact .inl (by omega)
      · have := isCo_ne hl
        simp only
        rw [decide_eq_false (by omega), cond_false]
    | none =>
      refine fwF_best hn n (s + 1) (by omega) fun x hx hm => ?_
      have h1 := hs x hx hm
      have h2 := List.find?_eq_none.1 hf
      by_cases e : x.length = s
      · have := h2 x (co_mem.2 (isCo_up (co_mem.1 hx) (by omega)))
        simp only [Bool.and_eq_true, decide_eq_true_eq, not_and] at this
        exact absurd hm (this e)
      · omega
theorem mE_of {n : Int} : ∀ {l : List Int} {last : Int}, (∀ x ∈ l, 0 ≤ x ∧ x ≤ n ∧ last < x) → l.Pairwise (· < ·) → mE n last l = 0
  | [], _, _, _ => rfl
  | x :: r, last, h, hp => by
    obtain ⟨h1, h2⟩ := List.pairwise_cons.1 hp
    have hx := h x (by simp)
    rw [mE, decide_eq_true (show 0 ≤ x ∧ x ≤ n from ⟨hx.1, hx.2.1⟩), decide_eq_false (show ¬ x ≤ last by omega), cond_true, cond_false]
    exact mE_of (fun y hy => ⟨(h y (by simp [hy])).1, (h y (by simp [hy])).2.1, h1 y hy⟩) h2
theorem coE_of {c : Cd} {k : Nat} {x : List Int} (h : isCo c.2.1.length k x) : coE c x = 0 := by
  have h0 : 0 < x.length := by
    have := h.1
    cases x with
    | nil => exact absurd rfl this
    | cons _ _ => simp
  rw [coE, decide_eq_false (by omega), cond_false]
  exact mE_of (fun i hi => by have := h.2.2.2 i hi; omega) h.2.2.1
theorem mk_nil {c : Cd} {w : List Int} (h : 0 < w.length) : mk c [] w = false := by
  rw [mk, List.all_eq_false]
  exact ⟨0, List.mem_range.2 h, by simp⟩
theorem er_erase (x : List Int) (k : Nat) : er x k = x.eraseIdx k := (List.eraseIdx_eq_take_drop_succ x k).symm
theorem er_rise {x : List Int} (h : x.Pairwise (· < ·)) (k : Nat) : (er x k).Pairwise (· < ·) := by
  rw [er_erase]; exact h.sublist (List.eraseIdx_sublist x k)
theorem er_lt {x : List Int} {k : Nat} (h : k < x.length) : (er x k).length + 1 = x.length := by
  rw [er_erase, List.length_eraseIdx_of_lt h]; omega
theorem ln_mk {c : Cd} {x w : List Int} (h : ln c x w = true) : mk c x w = true := by
  rw [ln, Bool.and_eq_true] at h; exact h.2
theorem lean_below {c : Cd} {w : List Int} {N z : Nat} (hw : 0 < w.length) : ∀ (m : Nat) (x : List Int), x.length = m → isCo N z x → mk c x w = true → ∃ y, isCo N z y ∧ ln c y w = true ∧ ∀ i ∈ y, i ∈ x
  | 0, x, hm, hx, _ => absurd (isCo_ne hx) (by omega)
  | m + 1, x, hm, hx, hmk => by
    cases e : ln c x w with
    | true => exact ⟨x, hx, e, fun i hi => hi⟩
    | false =>
      rw [ln, hmk, Bool.and_true, List.all_eq_false] at e
      obtain ⟨k, hk, hmk'⟩ := e
      have hk : k < x.length := by rw [List.mem_range'_1] at hk; omega
      have hmk' : mk c (er x k) w = true := by simpa using hmk'
      have hl := er_lt hk
      have hne : er x k ≠ [] := fun q => by rw [q, mk_nil hw] at hmk'; cases hmk'
      obtain ⟨y, h1, h2, h3⟩ := lean_below (N := N) (z := z) hw m (er x k) (by omega) ⟨hne, by have := hx.2.1; omega, er_rise hx.2.2.1 k, fun i hi => hx.2.2.2 i (er_mem hi)⟩ hmk'
      exact ⟨y, h1, h2, fun i hi => er_mem (h3 i hi)⟩
theorem lnL_iff {c : Cd} {w x : List Int} {z : Int} : x ∈ lnL c w z ↔ isCo c.2.1.length z.toNat x ∧ ln c x w = true := by
  rw [lnL, List.mem_filter, co_mem]
theorem lnL_ne {c : Cd} {w : List Int} {z : Int} (hw : 0 < w.length) : (lnL c w z).length ≠ 0 ↔ ∃ x, isCo c.2.1.length z.toNat x ∧ mk c x w = true := by
  constructor
  · intro h
    have hm := getD_mem (l := lnL c w z) (d := []) (i := 0) (by omega)
    exact ⟨_, (lnL_iff.1 hm).1, ln_mk (lnL_iff.1 hm).2⟩
  · rintro ⟨x, hx, hmk⟩ h0
    obtain ⟨y, h1, h2, _⟩ := lean_below hw x.length x rfl hx hmk
    have := List.length_pos_of_mem (lnL_iff.2 ⟨h1, h2⟩)
    omega
theorem gl_mem {c : Cd} {w : List Int} {z : Int} {i : Int} (hw : 0 < w.length) : i ∈ gl c w z ↔ (0 ≤ i ∧ i < (c.2.1.length : Int)) ∧ ∀ x, isCo c.2.1.length z.toNat x → mk c x w = true → i ∈ x := by
  rw [gl, glF_mem, (cnt_all i fun l hl => (lnL_mem hl).2.2.1).2]
  refine and_congr_right fun _ => ⟨fun h x hx hmk => ?_, fun h l hl => h l (lnL_mem hl) (ln_mk (lnL_iff.1 hl).2)⟩
  obtain ⟨y, h1, h2, h3⟩ := lean_below hw x.length x rfl hx hmk
  exact h3 i (h y (lnL_iff.2 ⟨h1, h2⟩))
theorem gl_rise (c : Cd) (w : List Int) (z : Int) : (gl c w z).Pairwise (· < ·) := glF_rise _ _ _ _
end Go.Proofs.YtbjfbbfglkmadaaDoor
