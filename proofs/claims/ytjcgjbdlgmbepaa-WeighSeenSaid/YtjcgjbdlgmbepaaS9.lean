/-
  The law WeighSeen.
-/
import Derived.Test.YtjcgjbdlgmbepaaS8
namespace Go.Proofs.Ytjcgjbdlgmbepaa
open Go.RowKit
set_option linter.unusedVariables false

/-- The first twins, by their numbers. -/
def kIx (f : List Int → List Int) (x : List Int) : Nat → List (List Int) → Option Nat
  | _, [] => none
  | k, y :: ys => cond (decide (f x = f y)) (some k) (kIx f x (k + 1) ys)
def twI (f : List Int → List Int) : Nat → List (List Int) → Option (Nat × Nat)
  | _, [] => none
  | t, x :: xs => match kIx f x (t + 1) xs with
    | some k => some (t, k)
    | none => twI f (t + 1) xs
theorem kIx_link (f : List Int → List Int) (x : List Int) (all : List (List Int)) : ∀ (xs : List (List Int)) (k : Nat), all.drop k = xs →
    (kIx f x k xs = none → xs.find? (fun y => decide (f x = f y)) = none) ∧ ∀ j, kIx f x k xs = some j → j < all.length ∧ xs.find? (fun y => decide (f x = f y)) = some (all.getD j [0, 0])
  | [], k, h => ⟨fun _ => rfl, fun j hj => by simp [kIx] at hj⟩
  | y :: ys, k, h => by
    obtain ⟨a, b, c⟩ := getD_drop (d := [0, 0]) h
    rw [kIx, List.find?_cons]
    cases decide (f x = f y) with
    | true => exact ⟨fun h' => (by cases h'), fun j hj => (by cases hj; exact ⟨a, by rw [b]⟩)⟩
    | false => exact kIx_link f x all ys (k + 1) c
theorem twI_link (f : List Int → List Int) (all : List (List Int)) : ∀ (xs : List (List Int)) (t : Nat), all.drop t = xs →
    (twI f t xs = none → twGo f xs = ([0, 0], [0, 0], 14)) ∧ ∀ i k, twI f t xs = some (i, k) → i < all.length ∧ k < all.length ∧ twGo f xs = (all.getD i [0, 0], all.getD k [0, 0], 0)
  | [], t, h => ⟨fun _ => rfl, fun i k hj => by simp [twI] at hj⟩
  | x :: xs, t, h => by
    obtain ⟨a, b, c⟩ := getD_drop (d := [0, 0]) h
    obtain ⟨l1, l2⟩ := kIx_link f x all xs (t + 1) c
    rw [twI, twGo]
    cases e : kIx f x (t + 1) xs with
    | none => rw [l1 e]; exact twI_link f all xs (t + 1) c
    | some j =>
      obtain ⟨m1, m2⟩ := l2 j e
      rw [m2]
      exact ⟨fun h' => (by cases h'), fun i k hj => (by cases hj; exact ⟨a, m1, by rw [b]⟩)⟩
def encT : Option (Nat × Nat) → List (List Int)
  | none => [[-1, -1]]
  | some (i, k) => [[(i : Int), (k : Int)]]
def orT (a b : Option (Nat × Nat)) : Option (Nat × Nat) := match a with | some v => some v | none => b

def wfB (b : Int × List (List Int) × Unit) : Prop := 0 ≤ b.1 ∧ b.1 ≤ 255
theorem B48_some {b : Int × List (List Int) × Unit} {r : Int × List Wg} (hb : wfB b) (h : B48 b = some r) : VPlan r.1 r.2 := by
  obtain ⟨p, h1, h2, h3⟩ := made_ok b hb
  have := h1.symm.trans h
  simp only [Option.some.injEq] at this
  subst this
  have := nS_bound hb
  exact ⟨by show 1 ≤ nS b; omega, by show nS b ≤ 13; omega, h2, h3⟩
theorem B48_is {b : Int × List (List Int) × Unit} (hb : wfB b) : ∃ r, B48 b = some r ∧ VPlan r.1 r.2 := by
  obtain ⟨p, h1, h2, h3⟩ := made_ok b hb
  exact ⟨_, h1, B48_some hb h1⟩

abbrev ll11a := l11a (some true) Beq B33 B37 (B44 10) B48 B49 1001
abbrev ll11b := l11b (some true) Beq B33 B37 (B44 10) B48 B49 1001
abbrev ll11c := l11c (some true) Beq B33 B37 (B44 10) B48 B49 1001
theorem seen_law (b : Int × List (List Int) × Unit) (hb : wfB b) : m11 (some true) Beq B33 B37 (B44 10) B48 B49 1001 b = some true := by
  obtain ⟨⟨n, p⟩, e48, V⟩ := B48_is hb
  have n0 : 1 ≤ n := V.n0
  have n1 : n ≤ 13 := V.n1
  have hpl : p.length ≤ 3 := V.len
  have hcl : (cs n).length ≤ 27 := by rw [cs_len]; omega
  have V' : VPlan n p := V
  have hsh : ∀ c, (shC p c).length ≤ 1000 := fun c => by rw [shC_len]; omega
  rw [m11, e48, Option.bind_some]
  -- the end
  have fin : ∀ m, ll11b (n, p) (cs n) (m + 1) (((cs n).length : Nat) : Int) (encT (twI (shC p) 0 (cs n))) = some true := by
    intro m
    obtain ⟨t1, t2⟩ := twI_link (shC p) (cs n) (cs n) 0 rfl
    have e37 : B37 n p = some (twGo (shC p) (cs n)) := by rw [B37, if_pos V'.fair, twinsS, V'.ok]; rfl
    have e44 : B44 10 (p.length : Int) [] n p true 0 (cs n) = some (n, p, true, ((cs n).length : Int), cs n) := by
      rw [B44, if_pos ⟨by omega, by omega, by simp, rfl, V'.ok, rfl, by omega, by rw [preN_nil]; omega⟩, preN_nil, Int.zero_add]
    simp only [ll11b, l11b, ixE, cond_false, e37, Option.bind_some, e44, cond_true, beq_self_eq_true]
    cases e : twI (shC p) 0 (cs n) with
    | none =>
      rw [t1 e]
      rfl
    | some v =>
      obtain ⟨i, k⟩ := v
      obtain ⟨hi, hk, ht⟩ := t2 i k e
      rw [ht]
      have g0 : (([[(i : Int), (k : Int)]] : List (List Int)).getD 0 [0, 0]).getD 0 0 = (i : Int) := rfl
      have g1 : (([[(i : Int), (k : Int)]] : List (List Int)).getD 0 [0, 0]).getD 1 0 = (k : Int) := rfl
      simp only [encT, g0, g1, decide_eq_false (show ¬ (i : Int) < 0 by omega), decide_eq_true (show (i : Int) ≥ 0 by omega), cond_false, cond_true, ixB hi, ixB hk, chk_true, Int.toNat_natCast, beq_arr2, Bool.not_true]
      rfl
  -- the rounds
  have rounds := rangeFrom (cs n) [0, 0] (fun m (s : Option (Nat × Nat)) t => ll11b (n, p) (cs n) m t (encT s)) (fun t xs s => ll11b (n, p) (cs n) 1 (((cs n).length : Nat) : Int) (encT (orT s (twI (shC p) t xs))))
    (fun m s t x rest ht hx hd hr ih => by
      have hxm : x ∈ cs n := getD_mem ht hx
      simp only [ll11b, l11b, ixA ht, ixB ht, cond_true, chk_true, Int.toNat_natCast, hx, V'.showsC hxm, V'.seenC hxm, Option.bind_some, Beq, if_pos (hsh x), decide_true, Bool.not_true, cond_false, bne_self_eq_false, ixW ht (by omega)]
      have inner := rangeFrom (cs n) [0, 0] (fun m' (s : Option (Nat × Nat)) k => ll11c (n, p) (cs n) (t : Int) (shC p x) (fun y0 y1 => ll11b (n, p) (cs n) m y0 y1) m' k (encT s))
        (fun k xs s => ll11b (n, p) (cs n) m ((t + 1 : Nat) : Int) (encT (orT s ((kIx (shC p) x k xs).map fun k => (t, k)))))
        (fun m' s k y rest' hk hy hd' hr' ih' => by
          have hym : y ∈ cs n := getD_mem hk hy
          simp only [ll11c, l11c, ixA hk, ixB hk, cond_true, chk_true, Int.toNat_natCast, hy, V'.seenC hym, Option.bind_some, Beq, if_pos (hsh x), ixW hk (by omega)]
          cases s with
          | some v =>
            obtain ⟨i, j⟩ := v
            have g0 : ((encT (some (i, j))).getD 0 [0, 0]).getD 0 0 = (i : Int) := rfl
            rw [g0, decide_eq_false (show ¬ (i : Int) < 0 by omega), cond_false]
            exact ih' (some (i, j))
          | none =>
            have g0 : decide (((encT none).getD 0 [0, 0]).getD 0 0 < 0) = true := rfl
            rw [g0, cond_true]
            by_cases q : shC p x = shC p y
            · rw [decide_eq_true q, cond_true, kIx, decide_eq_true q]
              exact ih' (some (t, k))
            · rw [decide_eq_false q, cond_false, kIx, decide_eq_false q]
              exact ih' none)
        (fun m' s => by
          simp only [ll11c, l11c, ixE, cond_false, ixW ht (by omega)]
          cases s <;> rfl) 1001 s (t + 1) (by omega) (by omega)
      refine Eq.trans inner ?_
      rw [hr, ih, twI]
      cases s with
      | some v => rfl
      | none =>
        cases kIx (shC p) x (t + 1) rest <;> rfl)
    (fun m s => by
      cases s with
      | some v => simp only [ll11b, l11b, ixE, cond_false]; rfl
      | none => simp only [ll11b, l11b, ixE, cond_false]; rfl) 1001 none 0 (by omega) (by omega)
  have rounds' : ll11b (n, p) (cs n) 1001 0 [[-1, -1]] = some true := by
    refine Eq.trans rounds ?_
    rw [List.drop_zero]
    exact fin 0
  exact countUp 0 n (by omega) (fun m (o : List (List Int)) t => ll11a (n, p) m t o) (fun t o => o = cs t) (fun t o => some true)
    (fun m o t h0 h1 hI ih => by
      subst hI
      have hlen : (cs t).length ≤ 27 := by rw [cs_len]; omega
      have hs : small ((cs t).length + 2) 16 = true := small_of (by omega) (by omega)
      have hw : w64 (t + 1) = t + 1 := w64_small (by omega)
      simp only [ll11a, l11a, decide_eq_true (show t < n from h1), cond_true, hs, chk_true, hw]
      refine ih _ ?_
      have := cs_next t.toNat (List.mem_range.2 (by omega))
      rwa [show ((t.toNat : Nat) : Int) = t by omega] at this)
    (fun m o hI => by
      subst hI
      simp only [ll11a, l11a, decide_eq_false (show ¬ n < n by omega), cond_false]
      exact rounds') 1001 [[0, 0]] (by omega) rfl
theorem KB11 (b : Int × List (List Int) × Unit) (hb : wfB b) : FnOk Try.prog 11 (F11 fun c => if c = b then some true else none) :=
  ok11 (some true) Beq B33 B37 (B44 10) B48 B49 K16t KB21 KB33 KB37 (KB44 10) KB48 KB49 _ fun c r h => ⟨1001, by
    split at h
    · rename_i hc
      rw [← h, hc]; exact seen_law b hb
    · cases h⟩
end Go.Proofs.Ytjcgjbdlgmbepaa
