/-
  What the functions on plans answer, as plain functions.
-/
import Derived.Test.YtjcgjbdlgmbepaaP0
import Derived.Test.YtjcgjbdlgmbepaaWC0
import Derived.Test.YtjcgjbdlgmbepaaWRM
namespace Go.Proofs.Ytjcgjbdlgmbepaa
open Go.RowKit
set_option linter.unusedVariables false

abbrev Wg := List Int × List Int × Unit

/-- between, and the reference's is. -/
def B57 (lo n hi : Int) : Option Bool := some (decide (lo ≤ n ∧ n ≤ hi))
theorem KB57 : FnOk Try.prog 57 (F57 B57) := ok57 B57 fun lo n hi r h => ⟨0, by
  rw [← h]; simp only [m57, B57]
  by_cases a : lo ≤ n <;> simp [a]⟩
def B58 (n lo hi : Int) : Option Bool := some (decide (lo ≤ n ∧ n ≤ hi))
theorem KB79 : FnOk Try.prog 79 (F79 B58) := ok79 B58 fun n lo hi r h => ⟨0, by
  rw [← h]; simp only [m79, B58]
  by_cases a : lo ≤ n <;> simp [a]⟩
theorem KB58 : FnOk Try.prog 58 (F58 B58) := ok58 B58 KB79 B58 fun n lo hi r h => ⟨0, by
  rw [← h]; simp only [m58, B58, Option.bind_some]⟩

/-- Equality of lists: three functions. -/
theorem eqLoop (a b : List Int) (L : Nat → Int → Option Bool) (hl : a.length = b.length)
    (h0 : ∀ n (t : Nat), t < a.length → a.length ≤ 1000 → L (n + 1) t = cond (a.getD t 0 != b.getD t 0) (some false) (L n ((t + 1 : Nat) : Int))) (he : ∀ n, L (n + 1) a.length = some true) (h : a.length ≤ 1000) (n : Nat) (hn : a.length < n) : L n 0 = some (decide (a = b)) := by
  have := rangeIx a 0 (fun n (_ : Unit) t => L n t) (fun _ _ _ => True) (fun t xs _ => some (decide (xs = b.drop t)))
    (fun n s t x rest ht hx _ ih => by
      have hb : t < b.length := by omega
      have e : b.drop t = b.getD t 0 :: b.drop (t + 1) := by
        rw [List.drop_eq_getElem_cons hb, List.getD_eq_getElem?_getD, List.getElem?_eq_getElem hb]; rfl
      show L (n + 1) t = _
      rw [h0 n t ht h, hx, ih () trivial, e]
      by_cases q : x = b.getD t 0
      · simp [q]
      · have e1 : (x != b.getD t 0) = true := by rw [bne_iff_ne]; exact q
        have e2 : decide (x :: rest = b.getD t 0 :: b.drop (t + 1)) = false := decide_eq_false fun h => q (List.cons.inj h).1
        rw [e1, e2]; rfl)
    (fun n s _ => by rw [he]; simp [hl]) n () hn trivial
  simpa using this
def Beq (a b : List Int) : Option Bool := if a.length ≤ 1000 then some (decide (a = b)) else none
theorem neq_len {a b : List Int} (h : ¬ a.length = b.length) : ((a.length : Int) != (b.length : Int)) = true ∧ decide (a = b) = false :=
  ⟨by simp only [bne_iff_ne, ne_eq]; omega, decide_eq_false fun e => h (by rw [e])⟩
theorem eq_len {a b : List Int} (h : a.length = b.length) : ((a.length : Int) != (b.length : Int)) = false := by simp [h]
theorem KB21 : FnOk Try.prog 21 (F21 Beq) := ok21 Beq fun a b r h => ⟨1001, by
  simp only [Beq] at h
  split at h
  · rename_i hl
    rw [← h, m21]
    by_cases e : a.length = b.length
    · rw [eq_len e, cond_false]
      exact eqLoop a b (l21a 1001 a b) e (fun n t ht hl => by simp only [l21a, ixA ht, ixB ht, ixB (e ▸ ht : t < b.length), cond_true, chk_true, Int.toNat_natCast, ixW ht (by omega)]) (fun n => by simp only [l21a, ixE, cond_false]) hl 1001 (by omega)
    · rw [(neq_len e).1, (neq_len e).2]; rfl
  · cases h⟩
theorem KB73 : FnOk Try.prog 73 (F73 Beq) := ok73 Beq fun a b r h => ⟨1001, by
  simp only [Beq] at h
  split at h
  · rename_i hl
    rw [← h, m73]
    by_cases e : a.length = b.length
    · rw [eq_len e, cond_false]
      exact eqLoop a b (l73a 1001 a b) e (fun n t ht hl => by simp only [l73a, ixA ht, ixB ht, ixB (e ▸ ht : t < b.length), cond_true, chk_true, Int.toNat_natCast, ixW ht (by omega)]) (fun n => by simp only [l73a, ixE, cond_false]) hl 1001 (by omega)
    · rw [(neq_len e).1, (neq_len e).2]; rfl
  · cases h⟩
theorem KB71 : FnOk Try.prog 71 (F71 Beq) := ok71 Beq fun a b r h => ⟨1001, by
  simp only [Beq] at h
  split at h
  · rename_i hl
    rw [← h, m71]
    by_cases e : a.length = b.length
    · rw [eq_len e, cond_false]
      exact eqLoop a b (l71a 1001 a b) e (fun n t ht hl => by simp only [l71a, ixA ht, ixB ht, ixB (e ▸ ht : t < b.length), cond_true, chk_true, Int.toNat_natCast, ixW ht (by omega)]) (fun n => by simp only [l71a, ixE, cond_false]) hl 1001 (by omega)
    · rw [(neq_len e).1, (neq_len e).2]; rfl
  · cases h⟩

/-- Is a stone on a pan? -/
def Bon (pan : List Int) (s : Int) : Option Bool := if pan.length ≤ 1000 then some (pan.contains s) else none
theorem KB81 : FnOk Try.prog 81 (F81 Bon) := ok81 Bon fun pan s r h => ⟨1001, by
  simp only [Bon] at h
  split at h
  · rename_i hl
    rw [← h, m81]
    exact rangeInd pan 0 (fun n (_ : Unit) t => l81a 1001 pan s n t) (fun xs _ => some (xs.contains s))
      (fun n _ t x rest ht hx ih => by
        simp only [l81a, ixA ht, ixB ht, cond_true, chk_true, Int.toNat_natCast, ixW ht (by omega), hx, ih ()]
        rw [List.contains_cons, BEq.comm (a := s)]
        cases hq : x == s <;> simp)
      (fun n _ => by simp only [l81a, ixE, cond_false]; rfl) 1001 () (by omega)
  · cases h⟩
/-- Where is an element? -/
def ixGo (v : Int) : Int → List Int → Int
  | _, [] => -1
  | t, x :: xs => if v = x then t else ixGo v (t + 1) xs
theorem ixGo_ge (v : Int) : ∀ (xs : List Int) (t : Int), 0 ≤ t → decide (ixGo v t xs ≥ 0) = xs.contains v
  | [], t, h => rfl
  | x :: xs, t, h => by
    rw [ixGo, List.contains_cons]
    by_cases e : v = x
    · simp [e, h]
    · rw [if_neg e, ixGo_ge v xs (t + 1) (by omega)]; simp [e]
def B85 (xs : List Int) (v : Int) : Option Int := if xs.length ≤ 1000 then some (ixGo v 0 xs) else none
theorem KB85 : FnOk Try.prog 85 (F85 B85) := ok85 B85 fun xs v r h => ⟨1001, by
  simp only [B85] at h
  split at h
  · rename_i hl
    rw [← h, m85]
    exact rangeIx xs 0 (fun n (_ : Unit) t => l85a 1001 xs v n t) (fun _ _ _ => True) (fun t xs _ => some (ixGo v t xs))
      (fun n _ t x rest ht hx _ ih => by
        simp only [l85a, ixA ht, ixB ht, cond_true, chk_true, Int.toNat_natCast, ixW ht (by omega), hx, ih () trivial, ixGo]
        by_cases e : v = x
        · simp [e]
        · rw [beq_false_of_ne e, if_neg e]; rfl)
      (fun n _ _ => by simp only [l85a, ixE, cond_false]; rfl) 1001 () (by omega) trivial
  · cases h⟩
theorem KB82 : FnOk Try.prog 82 (F82 Bon) := ok82 B85 KB85 Bon fun xs v r h => ⟨0, by
  simp only [Bon] at h
  split at h
  · rename_i hl
    rw [← h, m82, B85, if_pos hl, Option.bind_some, ixGo_ge v xs 0 (by omega)]
  · cases h⟩
/-- In how many lists is a stone? -/
def cnt (s : Int) (ls : List (List Int)) : Int := ((ls.filter fun l => l.contains s).length : Int)
def B68 (s : Int) (ls : List (List Int)) : Option Int := if ls.length ≤ 1000 ∧ ∀ l ∈ ls, l.length ≤ 1000 then some (cnt s ls) else none
theorem KB68 : FnOk Try.prog 68 (F68 B68) := ok68 Bon KB82 B68 fun s ls r h => ⟨1001, by
  simp only [B68] at h
  split at h
  · rename_i hl
    obtain ⟨hl, hm⟩ := hl
    rw [← h, m68]
    have main := rangeInv ls [] (fun n (c : Int) t => l68a Bon 1001 s ls n c t) (fun xs c => (∀ l ∈ xs, l.length ≤ 1000) ∧ 0 ≤ c ∧ c + xs.length ≤ 1000) (fun xs c => some (c + cnt s xs))
      (fun n c t x rest ht hx hI ih => by
        obtain ⟨h1, h2, h3⟩ := hI
        simp only [List.length_cons] at h3
        simp only [l68a, ixA ht, ixB ht, cond_true, chk_true, Int.toNat_natCast, ixW ht (by omega), hx, Bon, if_pos (h1 x (List.mem_cons_self ..)), Option.bind_some]
        have hr : ∀ l ∈ rest, l.length ≤ 1000 := fun l hl => h1 l (List.mem_cons_of_mem _ hl)
        have hw : w64 (c + 1) = c + 1 := w64_small (by omega)
        rw [hw]
        by_cases e : x.contains s = true
        · rw [e, cond_true, ih (c + 1) ⟨hr, by omega, by omega⟩]
          simp only [cnt, List.filter_cons, e, if_true, List.length_cons]; congr 1; omega
        · have e' : x.contains s = false := by simpa using e
          rw [e', cond_false, ih c ⟨hr, by omega, by omega⟩]
          simp only [cnt, List.filter_cons, e', Bool.false_eq_true, if_false])
      (fun n c _ => by simp only [l68a, ixE, cond_false, cnt]; simp) 1001 0 (by omega) ⟨hm, by omega, by omega⟩
    rw [main]; simp
  · cases h⟩
end Go.Proofs.Ytjcgjbdlgmbepaa
