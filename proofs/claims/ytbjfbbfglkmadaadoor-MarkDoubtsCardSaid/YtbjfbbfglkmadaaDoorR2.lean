/-
  The reference: checks, distances, who makes a copy.
-/
import Derived.Test.YtbjfbbfglkmadaaDoorMP
import Derived.Test.YtbjfbbfglkmadaaDoorRA
namespace Go.Proofs.YtbjfbbfglkmadaaDoor
open Go.RowKit
set_option linter.unusedVariables false

def B65 (n lo hi : Int) : Option Bool := some (decide (lo ≤ n ∧ n ≤ hi))
theorem KB86 : FnOk Tryd.prog 86 (F86 B65) := ok86 B65 fun n lo hi r h => ⟨0, by
  rw [← h]; simp only [m86, B65]
  by_cases a : lo ≤ n <;> simp [a]⟩
theorem KB65 : FnOk Tryd.prog 65 (F65 B65) := ok65 B65 KB86 B65 fun n lo hi r h => ⟨0, by
  rw [← h]; simp only [m65, B65, Option.bind_some]⟩
theorem KB23 : FnOk Tryd.prog 23 (F23 B22) := ok23 B65 KB65 B22 fun c r h => ⟨1001, by
  simp only [B22] at h
  split at h
  · rename_i hs
    obtain ⟨h1, h2⟩ := smB_at hs
    rw [← h, m23]
    simp only [B65, Option.bind_some, cdE, lenEq0]
    cases eM : decide (2 ≤ c.1 ∧ c.1 ≤ 4) with
    | false => rfl
    | true =>
      have hM := of_decide_eq_true eM
      simp only [Bool.not_true, cond_true, cond_false]
      cases e0 : decide (c.2.1.length = 0) with
      | true => rfl
      | false =>
        have h0 : 0 < c.2.1.length := by have := of_decide_eq_false e0; omega
        simp only [cond_false]
        rw [show decide ((c.2.1.length : Int) > 10) = decide (10 < c.2.1.length) from lenGt _ 10]
        cases decide (10 < c.2.1.length) with
        | true => rfl
        | false =>
          simp only [cond_false]
          -- bounds
          have hB : (∀ w ∈ c.2.1, w.length = sz c) → l23b B65 1001 c 1001 0 = some (cond (c.2.1.any fun w => w.any (outM c.1)) 4 0) := fun hall => by
            refine rangeInv c.2.1 [] (fun n (_ : Unit) t => l23b B65 1001 c n t) (fun xs _ => ∀ w ∈ xs, w.length ≤ 1000) (fun xs _ => some (cond (xs.any fun w => w.any (outM c.1)) 4 0)) (fun n _ t x rest ht hx hI ih => ?_)
              (fun n _ _ => by simp only [l23b, ixE, cond_false]; rfl) 1001 () (by omega) h2
            simp only [l23b, ixA ht, cond_true]
            refine (rangeInd x 0 (fun n' (_ : Unit) k => l23c B65 1001 c (t : Int) (fun y0 => l23b B65 1001 c n y0) n' k) (fun ys _ => cond (ys.any (outM c.1)) (some 4) (l23b B65 1001 c n ((t + 1 : Nat) : Int))) (fun n' _ k y ys hk hy ih' => ?_)
              (fun n' _ => by simp only [l23c, ixB ht, chk_true, Int.toNat_natCast, hx, ixE, cond_false, ixW ht (by omega)]; rfl) 1001 () (by have := hI x (by simp); omega)).trans ?_
            · simp only [l23c, ixB ht, chk_true, Int.toNat_natCast, hx, ixA hk, ixB hk, cond_true, hy, B65, Option.bind_some, ixW hk (by have := hI x (by simp); omega), ih' ()]
              show cond (outM c.1 y) _ _ = _
              rw [List.any_cons]
              cases outM c.1 y <;> rfl
            · rw [ih () fun w hw => hI w (by simp [hw]), List.any_cons]
              cases x.any (outM c.1) <;> rfl
          cases e4 : decide (1 ≤ sz c ∧ sz c ≤ 8) with
          | false =>
            have := of_decide_eq_false e4
            have hd : decide ((1 : Int) ≤ (((c.2.1.getD 0 []).length : Nat) : Int) ∧ (((c.2.1.getD 0 []).length : Nat) : Int) ≤ 8) = false := decide_eq_false (by unfold sz at this; omega)
            have : ∀ n, l23a B65 1001 c (n + 1) 0 = some 3 := fun n => by
              simp only [l23a, show decide ((0 : Int) < (c.2.1.length : Int)) = true from decide_eq_true (by omega), cond_true, chk_dec (show 0 ≤ (0 : Int) ∧ (0 : Int) < (c.2.1.length : Int) by omega), B65, Option.bind_some, hd, Bool.not_false]
            rw [cond_false]; exact this 1000
          | true =>
            have h4 := of_decide_eq_true e4
            have hd : decide ((1 : Int) ≤ (((c.2.1.getD 0 []).length : Nat) : Int) ∧ (((c.2.1.getD 0 []).length : Nat) : Int) ≤ 8) = true := decide_eq_true (by unfold sz at h4; omega)
            rw [cond_true]
            refine (rangeInd c.2.1 [] (fun n (_ : Unit) t => l23a B65 1001 c n t) (fun xs _ => cond (xs.any fun w => !decide (w.length = sz c)) (some 3) (l23b B65 1001 c 1001 0)) (fun n _ t x rest ht hx ih => ?_)
              (fun n _ => by simp only [l23a, ixE, cond_false]; rfl) 1001 () (by omega)).trans ?_
            · simp only [l23a, ixA ht, ixB ht, cond_true, chk_true, Int.toNat_natCast, chk_dec (show 0 ≤ (0 : Int) ∧ (0 : Int) < (c.2.1.length : Int) by omega), B65, hd, Option.bind_some, Bool.not_true, cond_false, hx, ixW ht (by omega), ih ()]
              rw [show ((x.length : Int) != ((c.2.1.getD 0 []).length : Int)) = !decide (x.length = sz c) from lenNe _ _, List.any_cons]
              cases decide (x.length = sz c) <;> rfl
            · cases ea : c.2.1.any fun w => !decide (w.length = sz c) with
              | true => rfl
              | false =>
                rw [cond_false, cond_false]
                exact hB fun w hw => by simpa using List.any_eq_false.1 ea w hw
  · cases h⟩
theorem KB60 : FnOk Tryd.prog 60 (F60 B58) := ok60 B65 KB65 B58 fun c w r h => ⟨1001, by
  simp only [B58] at h
  split at h
  · rename_i hl
    rw [← h, m60, chk_dec (show 0 ≤ (0 : Int) ∧ (0 : Int) < (c.2.1.length : Int) by omega), wE]
    rw [show ((w.length : Int) != ((c.2.1.getD 0 []).length : Int)) = !decide (w.length = sz c) from lenNe _ _]
    cases decide (w.length = sz c) with
    | false => rfl
    | true =>
      rw [Bool.not_true, cond_false, cond_true]
      exact rangeInd w 0 (fun n (_ : Unit) t => l60a B65 1001 c w n t) (fun xs _ => some (cond (xs.any (outM c.1)) 4 0))
        (fun n s t x rest ht hx ih => by
          simp only [l60a, ixA ht, ixB ht, cond_true, chk_true, Int.toNat_natCast, ixW ht (by omega), hx, ih (), B65, Option.bind_some]
          show cond (outM c.1 x) _ _ = _
          rw [List.any_cons]
          cases outM c.1 x <;> rfl)
        (fun n s => by simp only [l60a, ixE, cond_false]; rfl) 1001 () (by omega)
  · cases h⟩
theorem mk_from {c : Cd} {l w : List Int} : mk c l w = (List.range' 0 w.length).all fun k => l.any fun i => decide ((c.2.1.getD i.toNat []).getD k 0 = w.getD k 0) := by
  rw [mk, List.range_eq_range']
theorem KB61 : FnOk Tryd.prog 61 (F61 B59) := ok61 B59 fun c l w r h => ⟨1001, by
  simp only [B59] at h
  split at h
  · rename_i ho
    obtain ⟨hc, hL, hl, hw⟩ := okC_at ho
    obtain ⟨hm, hn, hz, hlen, hb⟩ := cdE_ok hc
    obtain ⟨w1, w2⟩ := wE_ok hw hc
    have hin := okCo_at hL
    rw [← h, m61, mk_from]
    refine (rangeIx w 0 (fun n (_ : Unit) t => l61a 1001 c l w n t) (fun t xs _ => xs.length = w.length - t) (fun t xs _ => some ((List.range' t xs.length).all fun k => l.any fun i => decide ((c.2.1.getD i.toNat []).getD k 0 = w.getD k 0))) (fun n _ t x rest ht hx hI ih => ?_)
      (fun n _ _ => by simp only [l61a, ixE, cond_false]; rfl) 1001 () (by omega) (by simp)).trans rfl
    simp only [l61a, ixA ht, cond_true, List.length_cons, List.range'_succ, List.all_cons]
    have inner := rangeInv l 0 (fun n' (s : Bool) k => l61b 1001 c l w (t : Int) (fun y0 => l61a 1001 c l w n y0) n' s k) (fun ys _ => ∀ i ∈ ys, 0 ≤ i ∧ i < (c.2.1.length : Int))
      (fun ys s => cond (s || ys.any fun i => decide ((c.2.1.getD i.toNat []).getD t 0 = w.getD t 0)) (l61a 1001 c l w n ((t + 1 : Nat) : Int)) (some false))
      (fun n' s k y ys hk hy hI' ih' => by
        have hyi := hI' y (by simp)
        have hyw : c.2.1.getD y.toNat [] ∈ c.2.1 := getD_mem (by omega)
        have htl : t < (c.2.1.getD y.toNat []).length := by rw [hlen _ hyw]; omega
        cases s with
        | true => simp only [l61b, ixA hk, cond_true, ixW hk (by omega), ih' true (fun i hi => hI' i (by simp [hi])), Bool.true_or]
        | false =>
          simp only [l61b, ixA hk, ixB hk, cond_true, cond_false, chk_true, Int.toNat_natCast, hy, chk_dec hyi, ixB htl, ixB ht, ixW hk (by omega), beqDec, ih' _ (fun i hi => hI' i (by simp [hi])), Bool.false_or, List.any_cons])
      (fun n' s _ => by
        simp only [l61b, ixE, cond_false, ixW ht (by omega), List.any_nil, Bool.or_false]
        cases s <;> rfl) 1001 false (by omega) hin
    refine inner.trans ?_
    rw [Bool.false_or, ih () (by simp only [List.length_cons] at hI; omega)]
    cases l.any fun i => decide ((c.2.1.getD i.toNat []).getD t 0 = w.getD t 0) <;> rfl
  · cases h⟩
theorem KB57 : FnOk Tryd.prog 57 (F57 B55) := ok57 B65 KB65 B55 fun c l r h => ⟨1001, by
  simp only [B55] at h
  split at h
  · rename_i hl
    rw [← h, m57, lenEq0, coE]
    cases decide (l.length = 0) with
    | true => rfl
    | false =>
      simp only [cond_false]
      exact rangeIx l 0 (fun n (_ : Unit) t => l57a B65 1001 c l n t) (fun _ _ _ => True) (fun t xs _ => some (mE ((c.2.1.length : Int) - 1) (if t = 0 then -1 else l.getD (t - 1) 0) xs))
        (fun n s t x rest ht hx _ ih => by
          have ih' := ih () trivial
          rw [if_neg (Nat.succ_ne_zero t), Nat.add_sub_cancel, hx] at ih'
          simp only [l57a, ixA ht, ixB ht, cond_true, chk_true, Int.toNat_natCast, ixW ht (by omega), hx, ih', B65, Option.bind_some, mE]
          rw [w64_small (x := (c.2.1.length : Int) - 1) (by omega)]
          cases eb : decide (0 ≤ x ∧ x ≤ (c.2.1.length : Int) - 1) with
          | false => rfl
          | true =>
            have := of_decide_eq_true eb
            simp only [Bool.not_true, cond_false, cond_true]
            by_cases h0 : t = 0
            · subst h0
              rw [if_pos rfl, decide_eq_false (show ¬ x ≤ -1 by omega)]
              rfl
            · rw [if_neg h0, decide_eq_true (show ((t : Nat) : Int) > 0 by omega), cond_true, w64_small (x := (t : Int) - 1) (by omega), chk_dec (by omega), show ((t : Int) - 1).toNat = t - 1 by omega]
              cases decide (x ≤ l.getD (t - 1) 0) <;> rfl)
        (fun n s _ => by simp only [l57a, ixE, cond_false]; rfl) 1001 () (by omega) trivial
  · cases h⟩
end Go.Proofs.YtbjfbbfglkmadaaDoor
