/-
  How many copies: the marks at the places.
-/
import Derived.Test.YtbjfbbfglkmadaaDoorM3
namespace Go.Proofs.YtbjfbbfglkmadaaDoor
open Go.RowKit
set_option linter.unusedVariables false

def hasM (c : Cd) (l : List Int) (k : Nat) (m : Int) : Bool := l.any fun i => decide ((c.2.1.getD i.toNat []).getD k 0 = m)
def cntF (p : Int → Bool) : Nat → Int → Int
  | 0, _ => 0
  | n + 1, m => cond (p m) (cntF p n (m + 1) + 1) (cntF p n (m + 1))
def cpR (c : Cd) (l : List Int) (k : Nat) : Int := cntF (hasM c l k) c.1.toNat 0
theorem prF_congr {f g : Nat → Int} : ∀ (n t : Nat) (s : Int), (∀ k, t ≤ k → k < t + n → f k = g k) → prF f t n s = prF g t n s
  | 0, t, s, _ => rfl
  | n + 1, t, s, h => by rw [prF_succ, prF_succ, h t (Nat.le_refl _) (by omega), prF_congr n (t + 1) _ fun k h1 h2 => h k (by omega) (by omega)]
theorem prF_add (f : Nat → Int) : ∀ (a b t : Nat) (s : Int), prF f t (a + b) s = prF f (t + a) b (prF f t a s)
  | 0, b, t, s => by simp [prF_zero]
  | a + 1, b, t, s => by rw [show a + 1 + b = (a + b) + 1 by omega, prF_succ, prF_add f a b (t + 1), prF_succ, show t + 1 + a = t + (a + 1) by omega]
theorem prF_one {f : Nat → Int} : ∀ (n t : Nat) (s : Int), (∀ k, t ≤ k → k < t + n → f k = 1) → prF f t n s = s
  | 0, t, s, _ => rfl
  | n + 1, t, s, h => by rw [prF_succ, h t (Nat.le_refl _) (by omega), Int.mul_one, prF_one n (t + 1) s fun k h1 h2 => h k (by omega) (by omega)]
theorem pcN_eq (n : Nat) : (pcN n : Int) = cntF (fun m => n.testBit m.toNat) 4 0 := by
  simp only [pcN, show List.range 4 = [0, 1, 2, 3] from rfl, cntF, List.filter_cons, List.filter_nil, show Int.toNat 0 = 0 from rfl, show Int.toNat (0 + 1) = 1 from rfl, show Int.toNat (0 + 1 + 1) = 2 from rfl, show Int.toNat (0 + 1 + 1 + 1) = 3 from rfl]
  cases n.testBit 0 <;> cases n.testBit 1 <;> cases n.testBit 2 <;> cases n.testBit 3 <;> rfl
theorem cntF_cut {p q : Int → Bool} : ∀ (a b : Nat) (m : Int), (∀ x, m ≤ x → x < m + a → p x = q x) → (∀ x, m + a ≤ x → p x = false) → cntF p (a + b) m = cntF q a m
  | 0, 0, m, _, _ => rfl
  | 0, b + 1, m, h1, h2 => by
    show cond (p m) (cntF p (0 + b) (m + 1) + 1) (cntF p (0 + b) (m + 1)) = 0
    rw [h2 m (by omega), cond_false]
    exact cntF_cut (q := q) 0 b (m + 1) (fun x hx hx' => by omega) fun x hx => h2 x (by omega)
  | a + 1, b, m, h1, h2 => by
    rw [show a + 1 + b = (a + b) + 1 by omega, cntF, cntF, h1 m (by omega) (by omega), cntF_cut (q := q) a b (m + 1) (fun x hx hx' => h1 x (by omega) (by omega)) fun x hx => h2 x (by omega)]
theorem cp_eq {c : Cd} {l : List Int} (hc : cdE c = 0) (hco : coE c l = 0) : cpN c l = prF (cpR c l) 0 (sz c) 1 := by
  obtain ⟨hm, hn, hz, hlen, hb⟩ := cdE_ok hc
  obtain ⟨hne, hin0, _⟩ := coE_ok hco
  have hin : ∀ i ∈ l, 0 ≤ i ∧ i < (c.2.1.length : Int) := fun i hi => by have := hin0 i hi; omega
  unfold cpN
  rw [show (8 : Nat) = sz c + (8 - sz c) by omega, prF_add, prF_one (8 - sz c) (0 + sz c) _ fun k h1 h2 => ?_]
  · refine prF_congr (sz c) 0 1 fun k h1 h2 => ?_
    have hk : ∀ w ∈ c.2.1, k < w.length := fun w hw => by rw [hlen w hw]; omega
    have hbit : ∀ j : Nat, (mkN c l k).testBit j = hasM c l k j := fun j => mkN_bit hk (fun w hw m hmm => (hb w hw m hmm).1) hin
    have e1 : (pcN (mkN c l k) : Int) = cpR c l k := by
      rw [pcN_eq, cpR, show (4 : Nat) = c.1.toNat + (4 - c.1.toNat) by omega]
      refine cntF_cut _ _ 0 (fun x h0 hx => ?_) fun x hx => ?_
      · rw [hbit, show ((x.toNat : Nat) : Int) = x by omega]
      · rw [hbit, show ((x.toNat : Nat) : Int) = x by omega]
        refine List.any_eq_false.2 fun i hi => ?_
        have hi' := hin i hi
        have hw : c.2.1.getD i.toNat [] ∈ c.2.1 := getD_mem (by omega)
        have := hb _ hw ((c.2.1.getD i.toNat []).getD k 0) (getD_mem (hk _ hw))
        simp only [decide_eq_true_eq]; omega
    have pos : 1 ≤ (pcN (mkN c l k) : Int) := by
      match l, hne with
      | i :: r, _ =>
        have hi' := hin i (by simp)
        have hw : c.2.1.getD i.toNat [] ∈ c.2.1 := getD_mem (by omega)
        have hv := hb _ hw ((c.2.1.getD i.toNat []).getD k 0) (getD_mem (hk _ hw))
        have hbv : (mkN c (i :: r) k).testBit ((c.2.1.getD i.toNat []).getD k 0).toNat = true := by
          rw [hbit, hasM, List.any_cons, decide_eq_true (by omega), Bool.true_or]
        have : 0 < ((List.range 4).filter fun j => (mkN c (i :: r) k).testBit j).length := List.length_pos_of_mem (List.mem_filter.2 ⟨List.mem_range.2 (by omega), hbv⟩)
        unfold pcN; omega
    unfold cpK imax
    rw [← e1]
    split <;> omega
  · rw [cpK, mkN_none (fun w hw => by rw [hlen w hw]; omega) hin]; rfl
end Go.Proofs.YtbjfbbfglkmadaaDoor
