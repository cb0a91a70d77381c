/-
  Lay and Balances of both; the law WeighLays.
-/
import Derived.Test.YtjcgjbdlgmbepaaT4
namespace Go.Proofs.Ytjcgjbdlgmbepaa
open Go.RowKit
set_option linter.unusedVariables false

theorem len_bne2 (a b : Nat) : ((a : Int) != (b : Int)) = (a != b) := by
  by_cases c : a = b
  · simp [c]
  · rw [show ((a : Int) != (b : Int)) = true by rw [bne_iff_ne]; omega, show (a != b) = true by rw [bne_iff_ne]; exact c]
/-! ### Balances -/
def balE (ws l : List Int) (load : Int) : Int := cond (wE ws == 0) (cond (l.length != ws.length) 9 (cond (!okLay l) 9 (cond (bal ws l != load) 13 0))) (wE ws)
def B29 (ws l : List Int) (load : Int) : Option Int := if l.length ≤ 1000 ∧ -9223372036854775808 ≤ load ∧ load ≤ 9223372036854775807 then some (balE ws l load) else none
def bad (n : Int) : Bool := !(decide (-1 ≤ n ∧ n ≤ 1))
theorem KB65 : FnOk Try.prog 65 (F65 fun n => some (bad n)) := ok65 B57 KB57 _ fun n r h => ⟨0, by rw [← h, m65]; rfl⟩
def ixB' (q : Int → Bool) : Int → List Int → Int
  | _, [] => -1
  | t, x :: xs => cond (q x) t (ixB' q (t + 1) xs)
theorem ixB_ge (q : Int → Bool) : ∀ (xs : List Int) (t : Int), 0 ≤ t → decide (ixB' q t xs ≥ 0) = xs.any q
  | [], t, h => rfl
  | x :: xs, t, h => by
    rw [ixB', List.any_cons]
    cases q x with
    | true => simp [h]
    | false => rw [cond_false, ixB_ge q xs (t + 1) (by omega), Bool.false_or]
def B80c65 (xs : List Int) : Option Int := if xs.length ≤ 1000 then some (ixB' bad 0 xs) else none
theorem KB80c65 : FnOk Try.prog 80 (F80c65 B80c65) := ok80c65 _ KB65 B80c65 fun xs r h => ⟨1001, by
  simp only [B80c65] at h
  split at h
  · rename_i hl
    rw [← h, m80c65]
    exact rangeIx xs 0 (fun n (_ : Unit) t => l80c65a (fun n => some (bad n)) 1001 xs n t) (fun _ _ _ => True) (fun t xs _ => some (ixB' bad t xs))
      (fun n _ t x rest ht hx _ ih => by
        simp only [l80c65a, ixA ht, ixB ht, cond_true, chk_true, Int.toNat_natCast, ixW ht (by omega), hx, ih () trivial, ixB', Option.bind_some]
        cases bad x <;> rfl)
      (fun n _ _ => by simp only [l80c65a, ixE, cond_false]; rfl) 1001 () (by omega) trivial
  · cases h⟩
def B64c65 (xs : List Int) : Option Bool := if xs.length ≤ 1000 then some (!okLay xs) else none
theorem any_bad (xs : List Int) : xs.any bad = !okLay xs := by
  unfold okLay
  induction xs with
  | nil => rfl
  | cons x xs ih =>
    rw [List.any_cons, ih, List.all_cons, bad]
    cases decide (-1 ≤ x ∧ x ≤ 1) <;> simp
theorem KB64c65 : FnOk Try.prog 64 (F64c65 B64c65) := ok64c65 B80c65 KB80c65 B64c65 fun xs r h => ⟨0, by
  simp only [B64c65] at h
  split at h
  · rename_i hl
    rw [← h, m64c65, B80c65, if_pos hl, Option.bind_some, ixB_ge bad xs 0 (by omega), any_bad]
  · cases h⟩
theorem wrap_sub (a b c : Int) : w64 (w64 (a - b) - c) = w64 (a - (b + c)) := by
  simp only [w64, IntKind.wrap, IntKind.bits, IntKind.signed]; simp; omega
theorem w64_in (a : Int) : -9223372036854775808 ≤ w64 a ∧ w64 a ≤ 9223372036854775807 := by
  simp [w64, IntKind.wrap, IntKind.bits, IntKind.signed]; omega
theorem bal_bound {ws l : List Int} (h : Pos ws) (hl : l.length = ws.length) (ho : okLay l = true) : -ws.sum ≤ bal ws l ∧ bal ws l ≤ ws.sum :=
  R_le h.nonneg ⟨l, hl, okLay_iff.1 ho, rfl⟩
theorem KB29 : FnOk Try.prog 29 (F29 B29) := ok29 B22 B64c65 KB22 KB64c65 B29 fun ws l load r h => ⟨1001, by
  simp only [B29] at h
  split at h
  · rename_i hl
    obtain ⟨hl, hb0, hb1⟩ := hl
    rw [← h, m29, B22, Option.bind_some, balE, len_bne2]
    cases e : wE ws == 0 with
    | false => simp only [bne, e, Bool.not_false, cond_true, cond_false]
    | true =>
      have h0 : wE ws = 0 := by simpa using e
      obtain ⟨h7, hp, _⟩ := wE_zero h0
      rw [show (wE ws != 0) = false by simp [bne, e], cond_false, cond_true]
      cases e2 : l.length != ws.length with
      | true => rfl
      | false =>
        have hlen : l.length = ws.length := by simpa using e2
        rw [cond_false, cond_false, B64c65, if_pos hl, Option.bind_some]
        cases e3 : okLay l with
        | false => rfl
        | true =>
          rw [Bool.not_true, cond_false, cond_false]
          have ho := okLay_iff.1 e3
          have hsum := hp.sum
          have main := rangeIx l 0 (fun n (s : Int) t => l29a B22 B64c65 1001 ws l n s t) (fun t xs s => ∃ d, -2000 * (t : Int) ≤ d ∧ d ≤ 2000 * (t : Int) ∧ s = w64 (load - d) ∧ d + bal (ws.drop t) xs = bal ws l) (fun t xs s => some (cond (bal ws l != load) 13 0))
            (fun n s t x rest ht hx hI ih => by
              obtain ⟨d, d1, d2, d3, d4⟩ := hI
              have htw : t < ws.length := by omega
              have hxw := ho x (getD_mem ht hx)
              have e : ws.drop t = ws.getD t 0 :: ws.drop (t + 1) := by
                rw [List.drop_eq_getElem_cons htw, List.getD_eq_getElem?_getD, List.getElem?_eq_getElem htw]; rfl
              have hw := hp (ws.getD t 0) (getD_mem htw rfl)
              have hb : -2000 ≤ x * ws.getD t 0 ∧ x * ws.getD t 0 ≤ 2000 := by rcases hxw with rfl | rfl | rfl <;> omega
              rw [e, bal] at d4
              simp only [l29a, ixA ht, ixB ht, ixB htw, cond_true, chk_true, Int.toNat_natCast, hx, ixW ht (by omega), w64_small (show -4611686018427387904 ≤ x * ws.getD t 0 ∧ x * ws.getD t 0 ≤ 4611686018427387904 by omega), d3, wrap_sub]
              refine ih _ ⟨d + x * ws.getD t 0, by omega, by omega, rfl, ?_⟩
              rw [Int.mul_comm x]; omega)
            (fun n s hI => by
              obtain ⟨d, d1, d2, d3, d4⟩ := hI
              simp only [l29a, ixE, cond_false]
              rw [hlen, List.drop_length] at d4
              have e4 : (s != 0) = (bal ws l != load) := by
                have hd : d = bal ws l := by rw [← d4]; simp [bal]
                rw [hd] at d3
                have hbb := bal_bound hp hlen e3
                by_cases c : bal ws l = load
                · have : s = 0 := by rw [d3, c, Int.sub_self]; rfl
                  rw [this, c]; simp
                · have : s ≠ 0 := by
                    rw [d3]
                    simp only [w64, IntKind.wrap, IntKind.bits, IntKind.signed]; simp; omega
                  rw [show (s != 0) = true by rw [bne_iff_ne]; exact this, show (bal ws l != load) = true by rw [bne_iff_ne]; exact c]
              rw [e4]
              cases bal ws l != load <;> rfl) 1001 load (by omega) ⟨0, by omega, by omega, by rw [Int.sub_zero, w64_eq (by omega) (by omega)], by rw [List.drop_zero, Int.zero_add]⟩
          exact main
  · cases h⟩
end Go.Proofs.Ytjcgjbdlgmbepaa
