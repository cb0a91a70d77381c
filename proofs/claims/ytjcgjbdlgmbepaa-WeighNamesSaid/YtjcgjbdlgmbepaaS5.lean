/-
  Left of both, and the law WeighTwins, as plain functions.
-/
import Derived.Test.YtjcgjbdlgmbepaaS4
namespace Go.Proofs.Ytjcgjbdlgmbepaa
open Go.RowKit
set_option linter.unusedVariables false

/-- Is some number no way? -/
def badWay (n : Int) : Bool := !(decide (-1 ≤ n ∧ n ≤ 1))
theorem KB74 : FnOk Try.prog 74 (F74 fun n => some (badWay n)) := ok74 B57 KB57 _ fun n r h => ⟨0, by rw [← h, m74]; rfl⟩
def ixP (q : Int → Bool) : Int → List Int → Int
  | _, [] => -1
  | t, x :: xs => cond (q x) t (ixP q (t + 1) xs)
theorem ixP_ge (q : Int → Bool) : ∀ (xs : List Int) (t : Int), 0 ≤ t → decide (ixP q t xs ≥ 0) = xs.any q
  | [], t, h => rfl
  | x :: xs, t, h => by
    rw [ixP, List.any_cons]
    cases q x with
    | true => simp [h]
    | false => rw [cond_false, ixP_ge q xs (t + 1) (by omega), Bool.false_or]
def B80 (xs : List Int) : Option Int := if xs.length ≤ 1000 then some (ixP badWay 0 xs) else none
theorem KB80 : FnOk Try.prog 80 (F80c74 B80) := ok80c74 _ KB74 B80 fun xs r h => ⟨1001, by
  simp only [B80] at h
  split at h
  · rename_i hl
    rw [← h, m80c74]
    exact rangeIx xs 0 (fun n (_ : Unit) t => l80c74a (fun n => some (badWay n)) 1001 xs n t) (fun _ _ _ => True) (fun t xs _ => some (ixP badWay t xs))
      (fun n _ t x rest ht hx _ ih => by
        simp only [l80c74a, ixA ht, ixB ht, cond_true, chk_true, Int.toNat_natCast, ixW ht (by omega), hx, ih () trivial, ixP, Option.bind_some]
        cases badWay x <;> rfl)
      (fun n _ _ => by simp only [l80c74a, ixE, cond_false]; rfl) 1001 () (by omega) trivial
  · cases h⟩
def B64 (xs : List Int) : Option Bool := if xs.length ≤ 1000 then some (xs.any badWay) else none
theorem KB64 : FnOk Try.prog 64 (F64c74 B64) := ok64c74 B80 KB80 B64 fun xs r h => ⟨0, by
  simp only [B64] at h
  split at h
  · rename_i hl
    rw [← h, m64c74, B80, if_pos hl, Option.bind_some, ixP_ge badWay xs 0 (by omega)]
  · cases h⟩

/-- Left. -/
def leftL (st : Int) (p : List Wg) (sh : List Int) : List (List Int) := (cs st).filter fun c => decide (shC p c = sh)
def leftS (st : Int) (p : List Wg) (sh : List Int) : List (List Int) × Int := cond (planE st p == 0) (cond (sh.length != p.length) ([], 9) (cond (sh.any badWay) ([], 9) (leftL st p sh, 0))) ([], planE st p)
def B39 (st : Int) (p : List Wg) (sh : List Int) : Option (List (List Int) × Int) := if fair p ∧ sh.length ≤ 1000 then some (leftS st p sh) else none
theorem len_bne (a b : Nat) : ((a : Int) != (b : Int)) = (a != b) := by
  by_cases c : a = b
  · simp [c]
  · rw [show ((a : Int) != (b : Int)) = true by rw [bne_iff_ne]; omega, show (a != b) = true by rw [bne_iff_ne]; exact c]
theorem KB39 : FnOk Try.prog 39 (F39 B39) := ok39 B36 B64 B66 (fun n => some (num n)) Beq KB35 KB64 KB66 KB70 KB71 B39 fun st p sh r h => ⟨1001, by
  simp only [B39] at h
  split at h
  · rename_i hf
    obtain ⟨hf, hsh⟩ := hf
    rw [← h, m39, B36, if_pos hf, Option.bind_some, leftS]
    cases e : planE st p == 0 with
    | false => simp only [bne, e, Bool.not_false, cond_true, cond_false]
    | true =>
      have e0 : planE st p = 0 := by simpa using e
      have hst := (planE_zero e0).1
      have hp := (planE_zero e0).2.1
      have hlen : (cs st).length ≤ 27 := by rw [cs_len]; omega
      simp only [bne, e, Bool.not_true, cond_true, cond_false]
      have lb := len_bne sh.length p.length
      simp only [bne] at lb
      rw [lb]
      cases (!(sh.length == p.length)) with
      | true => rfl
      | false =>
        rw [cond_false, cond_false, B64, if_pos hsh, Option.bind_some]
        cases sh.any badWay with
        | true => rfl
        | false =>
          rw [cond_false, cond_false]
          have main := rangeInv (cs st) [0, 0] (fun n (o : List (List Int)) t => l39a B36 B64 B66 (fun n => some (num n)) Beq 1001 st p sh n t o) (fun xs o => o.length + xs.length ≤ 27 ∧ ∀ c ∈ xs, c ∈ cs st)
            (fun xs o => some (o ++ xs.filter (fun c => decide (shC p c = sh)), 0))
            (fun n o t x rest ht hx hI ih => by
              obtain ⟨h1, h2⟩ := hI
              simp only [List.length_cons] at h1
              have hxn : x = num t := by rw [← hx]; exact cs_get st ht
              have hxm : x ∈ cs st := h2 x (List.mem_cons_self ..)
              have hs : small (o.length + 1) 16 = true := small_of (by omega) (by omega)
              have h2' : ∀ c ∈ rest, c ∈ cs st := fun c hc => h2 c (List.mem_cons_of_mem _ hc)
              simp only [l39a, w64_cases hst, ixA ht, cond_true, Option.bind_some, ← hxn, B66_c hf e0 hxm, Beq, if_pos (show (shC p x).length ≤ 1000 by rw [shC_len]; omega), hs, chk_true, ixW ht (by omega)]
              by_cases q : shC p x = sh
              · rw [decide_eq_true q, cond_true, ih (o ++ [x]) ⟨by simp; omega, h2'⟩, List.filter_cons, if_pos (decide_eq_true q)]; simp
              · rw [decide_eq_false q, cond_false, ih o ⟨by omega, h2'⟩, List.filter_cons, if_neg (by rw [decide_eq_false q]; exact Bool.false_ne_true)])
            (fun n o _ => by simp only [l39a, w64_cases hst, ixE, cond_false, List.filter_nil, List.append_nil]) 1001 [] (by omega) ⟨by simpa using hlen, fun c hc => hc⟩
          simpa [leftL] using main
  · cases h⟩
theorem KB40 : FnOk Try.prog 40 (F40 B39) := ok40 B36 B58 B67 B72 Beq KB36 KB58 KB67 KB72 KB73 B39 fun st p sh r h => ⟨1001, by
  simp only [B39] at h
  split at h
  · rename_i hf
    obtain ⟨hf, hsh⟩ := hf
    rw [← h, m40, B36, if_pos hf, Option.bind_some]
    -- the loop over what is shown
    have loop1 : ∀ e8 : Int, l40a B36 B58 B67 B72 Beq 1001 st p sh 1001 e8 0 = (fun e => cond (e != 0) (some ([], e)) ((B72 st).bind fun r3 => l40b B36 B58 B67 B72 Beq 1001 p sh r3 1001 0 [])) (cond (e8 == 0) (cond (sh.any badWay) 9 e8) e8) := by
      intro e8
      exact rangeInd sh 0 (fun n (e : Int) t => l40a B36 B58 B67 B72 Beq 1001 st p sh n e t) (fun xs e8 => (fun e => cond (e != 0) (some ([], e)) ((B72 st).bind fun r3 => l40b B36 B58 B67 B72 Beq 1001 p sh r3 1001 0 [])) (cond (e8 == 0) (cond (xs.any badWay) 9 e8) e8))
        (fun n e t x rest ht hx ih => by
          simp only [l40a, ixA ht, ixB ht, cond_true, chk_true, Int.toNat_natCast, hx, B58, Option.bind_some, ixW ht (by omega), ih, List.any_cons]
          cases he : e == 0 with
          | false => simp only [cond_false]
          | true =>
            simp only [cond_true]
            cases hb : decide (-1 ≤ x ∧ x ≤ 1) with
            | false => simp only [badWay, hb, Bool.not_false, cond_true, Bool.true_or]; rfl
            | true => simp only [badWay, hb, Bool.not_true, cond_false, Bool.false_or])
        (fun n e => by
          simp only [l40a, ixE, cond_false, List.any_nil]
          cases e == 0 <;> rfl) 1001 e8 (by omega)
    rw [loop1, loop1, leftS]
    cases e : planE st p == 0 with
    | false => simp only [bne, e, Bool.not_false, cond_true, cond_false]
    | true =>
      have e0 : planE st p = 0 := by simpa using e
      have hst := (planE_zero e0).1
      have hp := (planE_zero e0).2.1
      have hlen : (cs st).length ≤ 27 := by rw [cs_len]; omega
      simp only [cond_true]
      rw [len_bne]
      cases sh.length != p.length with
      | true => rfl
      | false =>
        simp only [cond_false]
        cases sh.any badWay with
        | true => rfl
        | false =>
          simp only [cond_false, bne, e, Bool.not_true]
          rw [B72, if_pos (by omega), Option.bind_some]
          have main := rangeInv (cs st) [0, 0] (fun n (o : List (List Int)) t => l40b B36 B58 B67 B72 Beq 1001 p sh (cs st) n t o) (fun xs o => o.length + xs.length ≤ 27 ∧ ∀ c ∈ xs, c ∈ cs st)
            (fun xs o => some (o ++ xs.filter (fun c => decide (shC p c = sh)), 0))
            (fun n o t x rest ht hx hI ih => by
              obtain ⟨h1, h2⟩ := hI
              simp only [List.length_cons] at h1
              have hxm : x ∈ cs st := h2 x (List.mem_cons_self ..)
              have hs : small (o.length + 1) 16 = true := small_of (by omega) (by omega)
              have h2' : ∀ c ∈ rest, c ∈ cs st := fun c hc => h2 c (List.mem_cons_of_mem _ hc)
              simp only [l40b, ixA ht, ixB ht, cond_true, chk_true, Int.toNat_natCast, hx, Option.bind_some, B67_c hf e0 hxm, Beq, if_pos (show (shC p x).length ≤ 1000 by rw [shC_len]; omega), hs, ixW ht (by omega)]
              by_cases q : shC p x = sh
              · rw [decide_eq_true q, cond_true, ih (o ++ [x]) ⟨by simp; omega, h2'⟩, List.filter_cons, if_pos (decide_eq_true q)]; simp
              · rw [decide_eq_false q, cond_false, ih o ⟨by omega, h2'⟩, List.filter_cons, if_neg (by rw [decide_eq_false q]; exact Bool.false_ne_true)])
            (fun n o _ => by simp only [l40b, ixE, cond_false, List.filter_nil, List.append_nil]) 1001 [] (by omega) ⟨by simpa using hlen, fun c hc => hc⟩
          simpa [leftL] using main
  · cases h⟩

theorem beq_arr2 (a : List Int) : DT.beq (.arr 2 (.int .i64)) a a = true := by simp [DT.beq]
/-- WeighTwins. -/
theorem KB6 : FnOk Try.prog 6 (F6 fun _ _ _ => some true) := ok6 (some true) (fun p => some (largeL p)) B32 B37 B37 B39 B39 K16t KB31 KB32 KB37 KB38 KB39 KB40 _ fun st p sh r h => ⟨1001, by
  rw [← h, m6, Option.bind_some]
  cases hL : largeL p with
  | true => rfl
  | false =>
    have hf := fair_of_large hL
    by_cases hs : sh.length > 20
    · rw [decide_eq_true (show (sh.length : Int) > 20 by omega)]; rfl
    · rw [decide_eq_false (show ¬ (sh.length : Int) > 20 by omega)]
      have hlen : (leftS st p sh).1.length ≤ 1000 := by
        unfold leftS
        cases e : planE st p == 0 with
        | false => exact Nat.zero_le _
        | true =>
          have e0 : planE st p = 0 := by simpa using e
          have hst := (planE_zero e0).1
          cases sh.length != p.length with
          | true => exact Nat.zero_le _
          | false =>
            cases sh.any badWay with
            | true => exact Nat.zero_le _
            | false =>
              show (leftL st p sh).length ≤ 1000
              have := List.length_filter_le (fun c => decide (shC p c = sh)) (cs st)
              rw [cs_len] at this
              unfold leftL
              omega
      simp only [cond_false, B32, if_pos hf.1, Option.bind_some, B37, if_pos hf, B39, if_pos (show fair p ∧ sh.length ≤ 1000 from ⟨hf, by omega⟩), beq_arr2, Bool.not_true, bne_self_eq_false]
      exact rangeInd (leftS st p sh).1 [0, 0] (fun n (_ : Unit) t => l6a (some true) (fun p => some (largeL p)) B32 B37 B37 B39 B39 1001 (leftS st p sh) (leftS st p sh) n t) (fun _ _ => some true)
        (fun n _ t x rest ht hx ih => by
          simp only [l6a, ixA ht, ixB ht, cond_true, chk_true, beq_arr2, Bool.not_true, cond_false, ixW ht (by omega)]
          exact ih ())
        (fun n _ => by simp only [l6a, ixE, cond_false]; rfl) 1001 () (by omega)⟩
end Go.Proofs.Ytjcgjbdlgmbepaa
