/-
 Lean coalitions, the smallest one, the nearest customers: what the program computes.
-/
import Derived.Test.YtbjfbbfglkmadaaDoorM4
namespace Go.Proofs.YtbjfbbfglkmadaaDoor
open Go.RowKit
set_option linter.unusedVariables false

theorem drop_cons' {α : Type} {b : List α} {t : Nat} {d : α} (h : t < b.length) : b.drop t = b.getD t d :: b.drop (t + 1) := by
 rw [List.drop_eq_getElem_cons h, List.getD_eq_getElem?_getD, List.getElem?_eq_getElem h]; rfl
def B67 (c : Cd) (s : Int) : Option (Int × Int × List (List Int) × Unit) := some (s, c)
theorem KB67 : FnOk Tryd.prog 67 (F67 B67) := ok67 B67 fun c s r h => ⟨0, by rw [← h]; rfl⟩
def B68 (s : Option (List Int)) : Option (List Int) := match s with
 | none => some []
 | some l => if l.length ≤ 1000 then some l else none
theorem KB68 : FnOk Tryd.prog 68 (F68 B68) := ok68 B68 fun s r h => ⟨0, by
 cases s with
 | none => rw [← h]; rfl
 | some l =>
  simp only [B68] at h
  split at h
  ·rename_i hl
   rw [← h, m68]
   simp only [Option.isNone_some, cond_false, Option.getD_some, List.nil_append]
   rw [chk_of (small_of (by omega) (by decide))]
  ·cases h⟩
def B90c (n : Int) : Option (List Int) := if 0 ≤ n ∧ n ≤ 10000000 then some [] else none
theorem KB90c : FnOk Tryd.prog 90 (F90c B90c) := ok90c B90c fun n r h => ⟨0, by
 simp only [B90c] at h
 split at h
 ·rename_i hl
  rw [← h, m90c, decide_eq_false (show ¬ n < 0 by omega), cond_false, Int.sub_zero, w64_small (by omega)]
  cases e : decide (n > 0) with
  | false => rfl
  | true =>
   have hn := of_decide_eq_true e
   rw [cond_true, chk_of (by simp only [mkOk, bae, dtq]; exact ⟨trivial, ⟨by omega, Int.le_refl _⟩, (show n * 8 ≤ 140737488355328 by omega), by omega⟩), chk_dec (by omega)]
   rfl
 ·cases h⟩
def B73 (ws : List (List Int)) : Option (List Int) := if ws.length ≤ 2000 ∧ ∀ w ∈ ws, w.length ≤ 1000 then some ws.flatten else none
theorem KB73 : FnOk Tryd.prog 73 (F73 B73) := ok73 B90c KB90c B73 fun ws r h => ⟨2001, by
 simp only [B73] at h
 split at h
 ·rename_i hl
  obtain ⟨hl, hw⟩ := hl
  rw [← h, m73]
  refine rangeP ws [] (fun n s t => l73a B90c 2001 ws n s t) (fun t rest s => (0 ≤ s ∧ s ≤ 1000 * t) ∧ ∀ w ∈ rest, w.length ≤ 1000) (fun r => r = some ws.flatten) (fun n s t x rest ht hx hd hI ih => ?_) (fun n s hI => ?_) 2001 0 (by omega) ⟨by omega, hw⟩
  ·have hxl := hI.2 x (by simp)
   simp only [l73a, ixA ht, ixB ht, cond_true, chk_true, Int.toNat_natCast, hx, ixW ht (by omega)]
   rw [w64_small (by omega), decide_eq_false (show ¬ s + (x.length : Int) < 0 by omega), cond_false]
   exact ih _ ⟨by omega, fun w hw' => hI.2 w (by simp [hw'])⟩
  ·simp only [l73a, ixE, cond_false]
   rw [B90c, if_pos (by omega), Option.bind_some]
   exact (rangeIx ws [] (fun n s t => l73b B90c 2001 ws n t s) (fun t rest s => s.length ≤ 1000 * t ∧ ∀ w ∈ rest, w.length ≤ 1000) (fun _ xs s => some (s ++ xs.flatten))
    (fun n s t x rest ht hx hI ih => by
     have hxl := hI.2 x (by simp)
     have e := ih (s ++ x) ⟨by rw [List.length_append]; omega, fun w hw' => hI.2 w (by simp [hw'])⟩
     simp only [l73b, ixA ht, ixB ht, cond_true, chk_true, Int.toNat_natCast, hx, ixW ht (by omega)]
     rw [chk_of (small_of (by omega) (by decide)), e, List.flatten_cons, List.append_assoc])
    (fun n s _ => by simp only [l73b, ixE, cond_false, List.flatten_nil, List.append_nil]) 2001 [] (by omega) ⟨by simp, hw⟩).trans (by rw [List.nil_append])
 ·cases h⟩
def er (l : List Int) (k : Nat) : List Int := l.take k ++ l.drop (k + 1)
def ln (c : Cd) (l w : List Int) : Bool := (List.range' 0 l.length).all (fun k => !mk c (er l k) w) && mk c l w
theorem er_mem {l : List Int} {k : Nat} {e : Int} (h : e ∈ er l k) : e ∈ l := by
 rcases List.mem_append.1 h with h | h
 ·exact List.mem_of_mem_take h
 ·exact List.mem_of_mem_drop h
theorem er_len {l : List Int} {k : Nat} : (er l k).length ≤ l.length := by simp [er]; omega
theorem okC_er {c : Cd} {l w : List Int} (h : okC c l w = true) (k : Nat) : okC c (er l k) w = true := by
 obtain ⟨h1, h2, h3, h4⟩ := okC_at h
 simp only [okC, bae, dtq]
 refine ⟨⟨⟨h1, ?_⟩, Nat.le_trans er_len h3⟩, h4⟩
 simp only [okCo, List.all_eq_true, dtq]
 exact fun i hi => okCo_at h2 i (er_mem hi)
def B70 (c : Cd) (l w : List Int) : Option Bool := if okC c l w = true then some (ln c l w) else none
theorem KB70 : FnOk Tryd.prog 70 (F70 B70) := ok70 B59 B73 KB59 KB73 B70 fun c l w r h => ⟨1001, by
 simp only [B70] at h
 split at h
 ·rename_i ho
  obtain ⟨h1, h2, h3, h4⟩ := okC_at ho
  have e59 : B59 c l w = some (mk c l w) := if_pos ho
  rw [← h, m70]
  refine (rangeIx l 0 (fun n (_ : Unit) t => l70a B59 B73 1001 c l w n t) (fun t rest _ => rest.length = l.length - t) (fun t xs _ => some ((List.range' t xs.length).all (fun k => !mk c (er l k) w) && mk c l w)) (fun n _ t x rest ht hx hI ih => ?_)
   (fun n _ _ => by simp only [l70a, ixE, cond_false, e59, Option.bind_some]; rfl) 1001 () (by omega) rfl).trans rfl
  have e73 : B73 [l.take t, l.drop (t + 1)] = some (er l t) := (if_pos ⟨by simp, fun v hv => by
   simp only [List.mem_cons, List.not_mem_nil, or_false] at hv
   rcases hv with rfl | rfl <;> simp <;> omega⟩).trans (by simp [er])
  have e59' : B59 c (er l t) w = some (mk c (er l t) w) := if_pos (okC_er ho t)
  simp only [l70a, ixA ht, cond_true, ixW ht (by omega), Int.toNat_natCast]
  rw [chk_dec (by omega), chk_dec (by omega), e73, Option.bind_some, e59', Option.bind_some, ih () (by simp only [List.length_cons] at hI; omega), List.length_cons, List.range'_succ, List.all_cons]
  cases mk c (er l t) w <;> rfl
 ·cases h⟩
theorem gs_len (N : Nat) : ∀ (m k i : Nat), N - i = m → (gs N k i).length + 1 ≤ 2 ^ m
 | m, 0, i, _ => by simp only [gs, List.length_nil]; exact Nat.one_le_two_pow
 | 0, k + 1, i, h => by
  rw [gs, h]; simp
 | m + 1, k + 1, i, h => by
  have e : gs N (k + 1) i = ([(i : Int)] :: (gs N k (i + 1)).map fun x => (i : Int) :: x) ++ gs N (k + 1) (i + 1) := by
   rw [gs, gs, h, List.range'_succ, List.flatMap_cons, show N - (i + 1) = m by omega]
  have h1 := gs_len N m k (i + 1) (by omega)
  have h2 := gs_len N m (k + 1) (i + 1) (by omega)
  rw [e, List.length_append, List.length_cons, List.length_map, Nat.pow_succ]; omega
theorem co_len {N k : Nat} (h : N ≤ 10) : (co N k).length ≤ 1024 := by
 have h1 := gs_len N N k 0 (by omega)
 have : 2 ^ N ≤ 2 ^ 10 := Nat.pow_le_pow_right (by decide) h
 unfold co; omega
def cwE (c : Cd) (w : List Int) : Int := cond (decide (cdE c = 0)) (wE c w) (cdE c)
theorem cwE_ok {c : Cd} {w : List Int} (h : cwE c w = 0) : cdE c = 0 ∧ wE c w = 0 := by
 unfold cwE at h
 cases e : decide (cdE c = 0) with
 | false => rw [e, cond_false] at h; exact absurd h (of_decide_eq_false e)
 | true => rw [e, cond_true] at h; exact ⟨of_decide_eq_true e, h⟩
theorem okC_co {c : Cd} {w x : List Int} {k : Nat} (h : cwE c w = 0) (hx : isCo c.2.1.length k x) : okC c x w = true := by
 obtain ⟨h1, h2⟩ := cwE_ok h
 have hn := (cdE_ok h1).2.1
 have := isCo_len hx
 simp only [okC, bae, dtq]
 refine ⟨⟨⟨h1, ?_⟩, by omega⟩, h2⟩
 simp only [okCo, List.all_eq_true, dtq]
 exact fun i hi => hx.2.2.2 i hi
def lnL (c : Cd) (w : List Int) (size : Int) : List (List Int) := (co c.2.1.length size.toNat).filter fun l => ln c l w
def B26 (c : Cd) (w : List Int) (size : Int) : Option (List (List Int) × Int) :=
 if smB c = true ∧ w.length ≤ 1000 then some (cond (decide (cwE c w = 0)) (cond (decide (1 ≤ size ∧ size ≤ 10)) (lnL c w size, 0) ([], 4)) ([], cwE c w)) else none
theorem B66_of {c : Cd} {w : List Int} (h : smB c = true ∧ w.length ≤ 1000) : B66 c w = some (cwE c w) := if_pos h
theorem KB26 : FnOk Tryd.prog 26 (F26 B26) := ok26 B62 B66 B67 B68 B70 KB62 KB66 KB67 KB68 KB70 B26 fun c w z r h => ⟨0, by
 simp only [B26] at h
 split at h
 ·rename_i hs
  rw [← h, m26, B66_of hs, Option.bind_some, bneDec]
  cases e : decide (cwE c w = 0) with
  | false => rfl
  | true =>
   have h0 := of_decide_eq_true e
   have hn := (cdE_ok (cwE_ok h0).1).2.1
   simp only [Bool.not_true, cond_false, cond_true, B62, Option.bind_some]
   cases e2 : decide (1 ≤ z ∧ z ≤ 10) with
   | false => rfl
   | true =>
    have hz := of_decide_eq_true e2
    simp only [Bool.not_true, cond_false, cond_true, B67, Option.bind_some]
    rw [chk_dec (by omega), gr_co]
    have key : ∀ (l o : List (List Int)), (∀ x ∈ l, isCo c.2.1.length z.toNat x) → o.length + l.length ≤ 2000 → l26a B62 B66 B67 B68 B70 0 c w (z, c) l o = some (o ++ l.filter (fun l => ln c l w), 0) := by
     intro l
     induction l with
     | nil => intro o _ _; simp [l26a]
     | cons x r ih =>
      intro o hl ho
      have hx := hl x (by simp)
      have hxl := isCo_len hx
      have e70 : B70 c x w = some (ln c x w) := if_pos (okC_co h0 hx)
      simp only [List.length_cons] at ho
      rw [l26a, e70, Option.bind_some, List.filter_cons]
      cases ln c x w with
      | false =>
       simp only [cond_false, Bool.false_eq_true, if_false]
       exact ih o (fun y hy => hl y (by simp [hy])) (by omega)
      | true =>
       have hpos : 0 < x.length := by
        have := hx.1
        cases x with
        | nil => exact absurd rfl this
        | cons _ _ => simp
       rw [cond_true, chk_of (by simp only [Bool.and_true, dtq]; exact hpos)]
       simp only [B68, if_pos (show x.length ≤ 1000 by omega), Option.bind_some, if_true]
       rw [chk_of (small_of (by omega) (by decide)), ih (o ++ [x]) (fun y hy => hl y (by simp [hy])) (by simp; omega), List.append_assoc]
       rfl
    rw [key _ [] (fun x hx => co_mem.1 hx) (by have := co_len (k := z.toNat) hn.2; simp only [List.length_nil]; omega), List.nil_append]; rfl
 ·cases h⟩
end Go.Proofs.YtbjfbbfglkmadaaDoor
