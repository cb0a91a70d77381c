/-
 Loops of mirrors, told as recursions over lists.
-/
import Derived.Test.YtfopcfnggdonkaaGreatDoorYD
namespace Go.Proofs.YtfopcfnggdonkaaGreatDoor
open Go.RowKit
set_option linter.unusedVariables false
theorem al5 {n : Int} (h0 : -9223372036854775808 <= n) (h1 : n < 9223372036854775808) : aB n = n := by
 simp [aB, IntKind.wrap, IntKind.bits, IntKind.signed]; omega
theorem PG {t : Nat} (h : t < 4611686018427387904) : aB ((t : Int) + 1) = ((t + 1 : Nat) : Int) := by
 rw [al5 (by omega) (by omega)]; omega
theorem kV {α : Type} (x : Option α) : chk true x = x := rfl
theorem wJ {α : Type} {b : Bool} {x : Option α} (h : b = true) : chk b x = x := by rw [h]; rfl
theorem pW {α : Type} {p : Prop} [Decidable p] {x : Option α} (h : p) : chk (decide p) x = x := by rw [decide_eq_true h]; rfl
theorem ET {n eb : Nat} (h : n * eb <= 140737488355328) (hb : 0 < eb) : small n eb = true := by
 have : n <= n * eb := Nat.le_mul_of_pos_right n hb
 simp [small, h]; omega
theorem getD_drop {α : Type} {xs rest : List α} {t : Nat} {x d : α} (h : xs.drop t = x :: rest) : t < xs.length /\ xs.getD t d = x /\ xs.drop (t + 1) = rest := by
 have hl : t < xs.length := by
  have := congrArg List.length h
  simp only [List.length_drop, List.length_cons] at this; omega
 refine ⟨hl, ?_, ?_⟩
 ·have h2 := congrArg List.head? h
  rw [List.head?_drop] at h2
  rw [List.getD_eq_getElem?_getD, h2]; rfl
 ·have h2 := congrArg List.tail h
  rw [List.tail_drop] at h2; exact h2
theorem wZ {α σ ρ : Type} (xs : List α) (d : α) (L : Nat -> σ -> Int -> Option ρ) (I : Nat -> List α -> σ -> Prop) (S : Nat -> List α -> σ -> Option ρ)
  (hs : ∀ (n : Nat) (s : σ) (t : Nat) (x : α) (rest : List α), t < xs.length -> xs.getD t d = x -> I t (x :: rest) s ->
   (∀ s', I (t + 1) rest s' -> L n s' ((t + 1 : Nat) : Int) = S (t + 1) rest s') -> L (n + 1) s (t : Int) = S t (x :: rest) s)
  (he : ∀ (n : Nat) (s : σ), I xs.length [] s -> L (n + 1) s (xs.length : Int) = S xs.length [] s)
  (n : Nat) (s : σ) (hn : xs.length < n) (hI : I 0 xs s) : L n s 0 = S 0 xs s := by
 have main : ∀ (k t n : Nat) (s : σ), t + k = xs.length -> k < n -> I t (xs.drop t) s -> L n s (t : Int) = S t (xs.drop t) s := by
  intro k
  induction k with
  | zero =>
   intro t n s h1 h2 h3
   obtain ⟨m, rfl⟩ : ∃ m, n = m + 1 := ⟨n - 1, by omega⟩
   have : t = xs.length := by omega
   subst this
   rw [List.drop_length] at h3 ⊢
   exact he m s h3
  | succ k ih =>
   intro t n s h1 h2 h3
   obtain ⟨m, rfl⟩ : ∃ m, n = m + 1 := ⟨n - 1, by omega⟩
   cases hd : xs.drop t with
   | nil => have := congrArg List.length hd; simp only [List.length_drop, List.length_nil] at this; omega
   | cons x rest =>
    obtain ⟨a, b, c⟩ := getD_drop (d := d) hd
    rw [hd] at h3
    refine hs m s t x rest a b h3 fun s' hI' => ?_
    rw [<- c] at hI' ⊢
    exact ih (t + 1) m s' (by omega) (by omega) hI'
 have := main xs.length 0 n s (by omega) hn (by simpa using hI)
 simpa using this
theorem Yq {α σ ρ : Type} (xs : List α) (d : α) (L : Nat -> σ -> Int -> Option ρ) (S : List α -> σ -> Option ρ)
  (hs : ∀ (n : Nat) (s : σ) (t : Nat) (x : α) (rest : List α), t < xs.length -> xs.getD t d = x ->
   (∀ s', L n s' ((t + 1 : Nat) : Int) = S rest s') -> L (n + 1) s (t : Int) = S (x :: rest) s)
  (he : ∀ (n : Nat) (s : σ), L (n + 1) s (xs.length : Int) = S [] s)
  (n : Nat) (s : σ) (hn : xs.length < n) : L n s 0 = S xs s :=
 wZ xs d L (fun _ _ _ => True) (fun _ => S) (fun n s t x rest h1 h2 _ h => hs n s t x rest h1 h2 fun s' => h s' trivial) (fun n s _ => he n s) n s hn trivial
theorem U2 {α σ ρ : Type} (xs : List α) (d : α) (L : Nat -> σ -> Int -> Option ρ) (I : List α -> σ -> Prop) (S : List α -> σ -> Option ρ)
  (hs : ∀ (n : Nat) (s : σ) (t : Nat) (x : α) (rest : List α), t < xs.length -> xs.getD t d = x -> I (x :: rest) s ->
   (∀ s', I rest s' -> L n s' ((t + 1 : Nat) : Int) = S rest s') -> L (n + 1) s (t : Int) = S (x :: rest) s)
  (he : ∀ (n : Nat) (s : σ), I [] s -> L (n + 1) s (xs.length : Int) = S [] s)
  (n : Nat) (s : σ) (hn : xs.length < n) (hI : I xs s) : L n s 0 = S xs s :=
 wZ xs d L (fun _ => I) (fun _ => S) (fun n s t x rest h1 h2 h3 h => hs n s t x rest h1 h2 h3 fun s' => h s') (fun n s h => he n s h) n s hn hI
theorem akO {α σ ρ : Type} (xs : List α) (d : α) (L : Nat -> σ -> Int -> Option ρ) (S : Nat -> List α -> σ -> Option ρ)
  (hs : ∀ (n : Nat) (s : σ) (t : Nat) (x : α) (rest : List α), t < xs.length -> xs.getD t d = x -> xs.drop t = x :: rest -> xs.drop (t + 1) = rest ->
   (∀ s', L n s' ((t + 1 : Nat) : Int) = S (t + 1) rest s') -> L (n + 1) s (t : Int) = S t (x :: rest) s)
  (he : ∀ (n : Nat) (s : σ), L (n + 1) s (xs.length : Int) = S xs.length [] s)
  (n : Nat) (s : σ) (t0 : Nat) (h0 : t0 <= xs.length) (hn : xs.length < n + t0) : L n s (t0 : Int) = S t0 (xs.drop t0) s := by
 have main : ∀ (k t n : Nat) (s : σ), t + k = xs.length -> k < n -> L n s (t : Int) = S t (xs.drop t) s := by
  intro k
  induction k with
  | zero =>
   intro t n s h1 h2
   obtain ⟨m, rfl⟩ : ∃ m, n = m + 1 := ⟨n - 1, by omega⟩
   have : t = xs.length := by omega
   subst this
   rw [List.drop_length]
   exact he m s
  | succ k ih =>
   intro t n s h1 h2
   obtain ⟨m, rfl⟩ : ∃ m, n = m + 1 := ⟨n - 1, by omega⟩
   cases hd : xs.drop t with
   | nil => have := congrArg List.length hd; simp only [List.length_drop, List.length_nil] at this; omega
   | cons x rest =>
    obtain ⟨a, b, c⟩ := getD_drop (d := d) hd
    refine hs m s t x rest a b hd c fun s' => ?_
    rw [<- c]
    exact ih (t + 1) m s' (by omega) (by omega)
 exact main (xs.length - t0) t0 n s (by omega) (by omega)
theorem Yr {α σ ρ : Type} (xs : List α) (d : α) (L : Nat -> σ -> Int -> Option ρ) (I : Nat -> List α -> σ -> Prop) (Q : Option ρ -> Prop)
  (hs : ∀ (n : Nat) (s : σ) (t : Nat) (x : α) (rest : List α), t < xs.length -> xs.getD t d = x -> xs.drop (t + 1) = rest -> I t (x :: rest) s ->
   (∀ s', I (t + 1) rest s' -> Q (L n s' ((t + 1 : Nat) : Int))) -> Q (L (n + 1) s (t : Int)))
  (he : ∀ (n : Nat) (s : σ), I xs.length [] s -> Q (L (n + 1) s (xs.length : Int)))
  (n : Nat) (s : σ) (hn : xs.length < n) (hI : I 0 xs s) : Q (L n s 0) := by
 have main : ∀ (k t n : Nat) (s : σ), t + k = xs.length -> k < n -> I t (xs.drop t) s -> Q (L n s (t : Int)) := by
  intro k
  induction k with
  | zero =>
   intro t n s h1 h2 h3
   obtain ⟨m, rfl⟩ : ∃ m, n = m + 1 := ⟨n - 1, by omega⟩
   have : t = xs.length := by omega
   subst this
   rw [List.drop_length] at h3
   exact he m s h3
  | succ k ih =>
   intro t n s h1 h2 h3
   obtain ⟨m, rfl⟩ : ∃ m, n = m + 1 := ⟨n - 1, by omega⟩
   cases hd : xs.drop t with
   | nil => have := congrArg List.length hd; simp only [List.length_drop, List.length_nil] at this; omega
   | cons x rest =>
    obtain ⟨a, b, c⟩ := getD_drop (d := d) hd
    rw [hd] at h3
    refine hs m s t x rest a b c h3 fun s' hI' => ?_
    rw [<- c] at hI'
    exact ih (t + 1) m s' (by omega) (by omega) hI'
 have := main xs.length 0 n s (by omega) hn (by simpa using hI)
 simpa using this
theorem ac5 {σ ρ : Type} (lo hi : Int) (hle : lo <= hi) (L : Nat -> σ -> Int -> Option ρ) (I : Int -> σ -> Prop) (Q : Option ρ -> Prop)
  (hs : ∀ (n : Nat) (s : σ) (t : Int), lo <= t -> t < hi -> I t s -> (∀ s', I (t + 1) s' -> Q (L n s' (t + 1))) -> Q (L (n + 1) s t))
  (he : ∀ (n : Nat) (s : σ), I hi s -> Q (L (n + 1) s hi))
  (n : Nat) (s : σ) (hn : (hi - lo).toNat < n) (hI : I lo s) : Q (L n s lo) := by
 have main : ∀ (k n : Nat) (t : Int) (s : σ), lo <= t -> t + k = hi -> k < n -> I t s -> Q (L n s t) := by
  intro k
  induction k with
  | zero =>
   intro n t s h0 h1 h2 h3
   obtain ⟨m, rfl⟩ : ∃ m, n = m + 1 := ⟨n - 1, by omega⟩
   have : t = hi := by omega
   subst this; exact he m s h3
  | succ k ih =>
   intro n t s h0 h1 h2 h3
   obtain ⟨m, rfl⟩ : ∃ m, n = m + 1 := ⟨n - 1, by omega⟩
   exact hs m s t h0 (by omega) h3 fun s' h' => ih m (t + 1) s' (by omega) (by omega) (by omega) h'
 exact main (hi - lo).toNat n lo s (by omega) (by omega) hn hI
theorem mM {t n : Nat} (h : t < n) : decide ((t : Int) < (n : Int)) = true := decide_eq_true (by omega)
theorem lZ {t n : Nat} (h : t < n) : decide (0 <= (t : Int) /\ (t : Int) < (n : Int)) = true := decide_eq_true (by omega)
theorem nM (n : Nat) : decide ((n : Int) < (n : Int)) = false := decide_eq_false (by omega)
theorem nV {t n : Nat} (h : t < n) (hn : n <= 4611686018427387904) : aB ((t : Int) + 1) = ((t + 1 : Nat) : Int) := PG (by omega)
theorem oH {x : Int} (h : -4611686018427387904 <= x /\ x <= 4611686018427387904) : aB x = x := al5 (by omega) (by omega)
end Go.Proofs.YtfopcfnggdonkaaGreatDoor
