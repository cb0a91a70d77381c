/-
  Lean coalitions, the smallest one, the nearest customers: what the program computes.
-/
import Derived.Test.YtbjfbbfglkmadaaDoorM4
namespace Go.Proofs.YtbjfbbfglkmadaaDoor
open Go.RowKit
set_option linter.unusedVariables false

def B32 (a b : List Int) : Option Bool := if a.length ≤ 10000 then some (decide (a = b)) else none
theorem eqL_cons {α : Type} [DecidableEq α] (x y : α) (a b : List α) : decide (x :: a = y :: b) = (decide (x = y) && decide (a = b)) := by
  by_cases h : x = y <;> by_cases h2 : a = b <;> simp [h, h2]
theorem drop_cons' {α : Type} {b : List α} {t : Nat} {d : α} (h : t < b.length) : b.drop t = b.getD t d :: b.drop (t + 1) := by
  rw [List.drop_eq_getElem_cons h, List.getD_eq_getElem?_getD, List.getElem?_eq_getElem h]; rfl
theorem KB32 : FnOk Tryd.prog 32 (F32 B32) := ok32 B32 fun a b r h => ⟨10001, by
  simp only [B32] at h
  split at h
  · rename_i hl
    rw [← h, m32, lenNe]
    cases e : decide (a.length = b.length) with
    | false =>
      have := of_decide_eq_false e
      rw [decide_eq_false (show ¬ a = b from fun q => this (by rw [q]))]; rfl
    | true =>
      have hab := of_decide_eq_true e
      rw [Bool.not_true, cond_false]
      refine (rangeIx a 0 (fun n (_ : Unit) t => l32a 10001 a b n t) (fun _ _ _ => True) (fun t xs _ => some (decide (xs = b.drop t))) (fun n _ t x rest ht hx _ ih => ?_)
        (fun n _ _ => by simp only [l32a, ixE, cond_false]; rw [hab, List.drop_length]; rfl) 10001 () (by omega) trivial).trans (by rw [List.drop_zero])
      have htb : t < b.length := by omega
      simp only [l32a, ixA ht, ixB ht, ixB htb, cond_true, chk_true, Int.toNat_natCast, ixW ht (by omega), hx, ih () trivial, bneDec]
      rw [drop_cons' (d := 0) htb, eqL_cons]
      cases decide (x = b.getD t 0) <;> rfl
  · cases h⟩
def B67 (c : Cd) (s : Int) : Option (Int × Int × List (List Int) × Unit) := some (s, c)
theorem KB67 : FnOk Tryd.prog 67 (F67 B67) := ok67 B67 fun c s r h => ⟨0, by rw [← h]; rfl⟩
def B68 (s : Option (List Int)) : Option (List Int) := match s with
  | none => some []
  | some l => if l.length ≤ 1000 then some l else none
theorem KB68 : FnOk Tryd.prog 68 (F68 B68) := ok68 B68 fun s r h => ⟨0, by
  cases s with
  | none => rw [← h]; rfl
  | some l =>
    simp only [B68] at h
    split at h
    · rename_i hl
      rw [← h, m68]
      simp only [Option.isNone_some, cond_false, Option.getD_some, List.nil_append]
      rw [chk_of (small_of (by omega) (by decide))]
    · cases h⟩
def B90c (n : Int) : Option (List Int) := if 0 ≤ n ∧ n ≤ 10000000 then some [] else none
theorem KB90c : FnOk Tryd.prog 90 (F90c B90c) := ok90c B90c fun n r h => ⟨0, by
  simp only [B90c] at h
  split at h
  · rename_i hl
    rw [← h, m90c, decide_eq_false (show ¬ n < 0 by omega), cond_false, Int.sub_zero, w64_small (by omega)]
    cases e : decide (n > 0) with
    | false => rfl
    | true =>
      have hn := of_decide_eq_true e
      rw [cond_true, chk_of (by simp only [mkOk, Bool.and_eq_true, decide_eq_true_eq]; exact ⟨trivial, ⟨by omega, Int.le_refl _⟩, (show n * 8 ≤ 140737488355328 by omega), by omega⟩), chk_dec (by omega)]
      rfl
  · cases h⟩
def B73 (ws : List (List Int)) : Option (List Int) := if ws.length ≤ 2000 ∧ ∀ w ∈ ws, w.length ≤ 1000 then some ws.flatten else none
theorem KB73 : FnOk Tryd.prog 73 (F73 B73) := ok73 B90c KB90c B73 fun ws r h => ⟨2001, by
  simp only [B73] at h
  split at h
  · rename_i hl
    obtain ⟨hl, hw⟩ := hl
    rw [← h, m73]
    refine rangeP ws [] (fun n s t => l73a B90c 2001 ws n s t) (fun t rest s => (0 ≤ s ∧ s ≤ 1000 * t) ∧ ∀ w ∈ rest, w.length ≤ 1000) (fun r => r = some ws.flatten) (fun n s t x rest ht hx hd hI ih => ?_) (fun n s hI => ?_) 2001 0 (by omega) ⟨by omega, hw⟩
    · have hxl := hI.2 x (by simp)
      simp only [l73a, ixA ht, ixB ht, cond_true, chk_true, Int.toNat_natCast, hx, ixW ht (by omega)]
      rw [w64_small (by omega), decide_eq_false (show ¬ s + (x.length : Int) < 0 by omega), cond_false]
      exact ih _ ⟨by omega, fun w hw' => hI.2 w (by simp [hw'])⟩
    · simp only [l73a, ixE, cond_false]
      rw [B90c, if_pos (by omega), Option.bind_some]
      exact (rangeIx ws [] (fun n s t => l73b B90c 2001 ws n t s) (fun t rest s => s.length ≤ 1000 * t ∧ ∀ w ∈ rest, w.length ≤ 1000) (fun _ xs s => some (s ++ xs.flatten))
        (fun n s t x rest ht hx hI ih => by
          have hxl := hI.2 x (by simp)
          have e := ih (s ++ x) ⟨by rw [List.length_append]; omega, fun w hw' => hI.2 w (by simp [hw'])⟩
          simp only [l73b, ixA ht, ixB ht, cond_true, chk_true, Int.toNat_natCast, hx, ixW ht (by omega)]
          rw [chk_of (small_of (by omega) (by decide)), e, List.flatten_cons, List.append_assoc])
        (fun n s _ => by simp only [l73b, ixE, cond_false, List.flatten_nil, List.append_nil]) 2001 [] (by omega) ⟨by simp, hw⟩).trans (by rw [List.nil_append])
  · cases h⟩
def er (l : List Int) (k : Nat) : List Int := l.take k ++ l.drop (k + 1)
def ln (c : Cd) (l w : List Int) : Bool := (List.range' 0 l.length).all (fun k => !mk c (er l k) w) && mk c l w
theorem er_mem {l : List Int} {k : Nat} {e : Int} (h : e ∈ er l k) : e ∈ l := by
  rcases List.mem_append.1 h with h | h
  · exact List.mem_of_mem_take h
  · exact List.mem_of_mem_drop h
theorem er_len {l : List Int} {k : Nat} : (er l k).length ≤ l.length := by simp [er]; omega
theorem okC_er {c : Cd} {l w : List Int} (h : okC c l w = true) (k : Nat) : okC c (er l k) w = true := by
  obtain ⟨h1, h2, h3, h4⟩ := okC_at h
  simp only [okC, Bool.and_eq_true, decide_eq_true_eq]
  refine ⟨⟨⟨h1, ?_⟩, Nat.le_trans er_len h3⟩, h4⟩
  simp only [okCo, List.all_eq_true, decide_eq_true_eq]
  exact fun i hi => okCo_at h2 i (er_mem hi)
def B70 (c : Cd) (l w : List Int) : Option Bool := if okC c l w = true then some (ln c l w) else none
theorem KB70 : FnOk Tryd.prog 70 (F70 B70) := ok70 B59 B73 KB59 KB73 B70 fun c l w r h => ⟨1001, by
  simp only [B70] at h
  split at h
  · rename_i ho
    obtain ⟨h1, h2, h3, h4⟩ := okC_at ho
    have e59 : B59 c l w = some (mk c l w) := if_pos ho
    rw [← h, m70]
    refine (rangeIx l 0 (fun n (_ : Unit) t => l70a B59 B73 1001 c l w n t) (fun t rest _ => rest.length = l.length - t) (fun t xs _ => some ((List.range' t xs.length).all (fun k => !mk c (er l k) w) && mk c l w)) (fun n _ t x rest ht hx hI ih => ?_)
      (fun n _ _ => by simp only [l70a, ixE, cond_false, e59, Option.bind_some]; rfl) 1001 () (by omega) rfl).trans rfl
    have e73 : B73 [l.take t, l.drop (t + 1)] = some (er l t) := (if_pos ⟨by simp, fun v hv => by
      simp only [List.mem_cons, List.not_mem_nil, or_false] at hv
      rcases hv with rfl | rfl <;> simp <;> omega⟩).trans (by simp [er])
    have e59' : B59 c (er l t) w = some (mk c (er l t) w) := if_pos (okC_er ho t)
    simp only [l70a, ixA ht, cond_true, ixW ht (by omega), Int.toNat_natCast]
    rw [chk_dec (by omega), chk_dec (by omega), e73, Option.bind_some, e59', Option.bind_some, ih () (by simp only [List.length_cons] at hI; omega), List.length_cons, List.range'_succ, List.all_cons]
    cases mk c (er l t) w <;> rfl
  · cases h⟩
theorem gs_len (N : Nat) : ∀ (m k i : Nat), N - i = m → (gs N k i).length + 1 ≤ 2 ^ m
  | m, 0, i, _ => by simp only [gs, List.length_nil]; exact Nat.one_le_two_pow
  | 0, k + 1, i, h => by
    rw [gs, h]; simp
  | m + 1, k + 1, i, h => by
    have e : gs N (k + 1) i = ([(i : Int)] :: (gs N k (i + 1)).map fun x => (i : Int) :: x) ++ gs N (k + 1) (i + 1) := by
      rw [gs, gs, h, List.range'_succ, List.flatMap_cons, show N - (i + 1) = m by omega]
    have h1 := gs_len N m k (i + 1) (by omega)
    have h2 := gs_len N m (k + 1) (i + 1) (by omega)
    rw [e, List.length_append, List.length_cons, List.length_map, Nat.pow_succ]; omega
theorem co_len {N k : Nat} (h : N ≤ 10) : (co N k).length ≤ 1024 := by
  have h1 := gs_len N N k 0 (by omega)
  have : 2 ^ N ≤ 2 ^ 10 := Nat.pow_le_pow_right (by decide) h
  unfold co; omega
def cwE (c : Cd) (w : List Int) : Int := cond (decide (cdE c = 0)) (wE c w) (cdE c)
theorem cwE_ok {c : Cd} {w : List Int} (h : cwE c w = 0) : cdE c = 0 ∧ wE c w = 0 := by
  unfold cwE at h
  cases e : decide (cdE c = 0) with
  | false => rw [e, cond_false] at h; exact absurd h (of_decide_eq_false e)
  | true => rw [e, cond_true] at h; exact ⟨of_decide_eq_true e, h⟩
theorem okC_co {c : Cd} {w x : List Int} {k : Nat} (h : cwE c w = 0) (hx : isCo c.2.1.length k x) : okC c x w = true := by
  obtain ⟨h1, h2⟩ := cwE_ok h
  have hn := (cdE_ok h1).2.1
  have := isCo_len hx
  simp only [okC, Bool.and_eq_true, decide_eq_true_eq]
  refine ⟨⟨⟨h1, ?_⟩, by omega⟩, h2⟩
  simp only [okCo, List.all_eq_true, decide_eq_true_eq]
  exact fun i hi => hx.2.2.2 i hi
def lnL (c : Cd) (w : List Int) (size : Int) : List (List Int) := (co c.2.1.length size.toNat).filter fun l => ln c l w
theorem B66_of {c : Cd} {w : List Int} (h : smB c = true ∧ w.length ≤ 1000) : B66 c w = some (cwE c w) := if_pos h
end Go.Proofs.YtbjfbbfglkmadaaDoor
