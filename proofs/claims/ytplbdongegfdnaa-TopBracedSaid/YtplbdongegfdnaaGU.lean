/-
 Loops of mirrors, told as recursions over lists. Lists, and what turned answers. Tables whose sums are all alike: a square that alone joins two parts takes its row and its column whole. Sets of bits: rounds along arrows, until nothing more is reached. Racks of rods alone, as many rows as columns: Check. What is reached along arrows: sets of bits in sixteen. Arrows of rods; is a rack stiff, and which rods does it need? Tables of hours whose rows and columns all have the same sum; one more order; what its rods join. Racks that are handed on with their rods as they are; the rods that are missing. What keeps together: how many pieces; a rod that joins two of them. A way of other rods: the search finds one where there is one. Tables for check digits: Check accepts those with each number once in each row and column; tables by numbers are such. Rods at two numbers of a table make rings: their pieces, detours, and the number of rings. The law of rods at two numbers of a table. TopBraced: the contract.
-/
import Derived.Test.YtplbdongegfdnaaYD
import Derived.Test.YtplbdongegfdnaaWC0
import Derived.Test.YtplbdongegfdnaaRGM
namespace Go.Proofs.Ytplbdongegfdnaa
open Go.RowKit
set_option linter.unusedVariables false
theorem qN0 (n : Nat) : ((n : Int)).toNat = n := rfl
theorem qB0.{u, v} {α : Type u} {β : Type v} (a : α) (f : α → Option β) : (some a).bind f = f a := rfl
theorem qL1.{u} {α : Type u} {a b : List α} : (a ++ b).length = a.length + b.length := List.length_append
theorem qD1 {p : Prop} [h : Decidable p] (q : p) : decide p = true := decide_eq_true q
theorem qD0 {p : Prop} [h : Decidable p] (q : ¬ p) : decide p = false := decide_eq_false q
theorem qM1.{u} {α : Type u} {x : α} {a b : List α} : x ∈ a ++ b ↔ x ∈ a ∨ x ∈ b := List.mem_append
theorem qM2.{u} {α : Type u} {x y : α} : x ∈ [y] ↔ x = y := List.mem_singleton
theorem qG1.{u} {α : Type u} {l : List α} {i : Nat} {a : α} : l.getD i a = (l[i]?).getD a := List.getD_eq_getElem?_getD
theorem qZ0 : ((0 : Int) != 0) = false := rfl
theorem w64_eq {n : Int} (h0 : -9223372036854775808 ≤ n) (h1 : n < 9223372036854775808) : w64 n = n := by
 simp [w64, IntKind.wrap, IntKind.bits, IntKind.signed]; omega
theorem w64_succ {t : Nat} (h : t < 4611686018427387904) : w64 ((t : Int) + 1) = ((t + 1 : Nat) : Int) := by
 rw [w64_eq (by omega) (by omega)]; omega
theorem chk_true {α : Type} (x : Option α) : chk true x = x := rfl
theorem chk_of {α : Type} {b : Bool} {x : Option α} (h : b = true) : chk b x = x := by rw [h]; rfl
theorem chk_dec {α : Type} {p : Prop} [Decidable p] {x : Option α} (h : p) : chk (decide p) x = x := by rw [qD1 h]; rfl
theorem small_of {n eb : Nat} (h : n * eb ≤ 140737488355328) (hb : 0 < eb) : small n eb = true := by
 have : n ≤ n * eb := Nat.le_mul_of_pos_right n hb
 simp [small, h]; omega
theorem getD_drop {α : Type} {xs rest : List α} {t : Nat} {x d : α} (h : xs.drop t = x :: rest) : t < xs.length ∧ xs.getD t d = x ∧ xs.drop (t + 1) = rest := by
 have hl : t < xs.length := by
  have := congrArg List.length h
  simp only [List.length_drop, List.length_cons] at this; omega
 refine ⟨hl, ?_, ?_⟩
 ·have h2 := congrArg List.head? h
  rw [List.head?_drop] at h2
  rw [qG1, h2]; rfl
 ·have h2 := congrArg List.tail h
  rw [List.tail_drop] at h2; exact h2
theorem rangeIx {α σ ρ : Type} (xs : List α) (d : α) (L : Nat → σ → Int → Option ρ) (I : Nat → List α → σ → Prop) (S : Nat → List α → σ → Option ρ)
  (hs : ∀ (n : Nat) (s : σ) (t : Nat) (x : α) (rest : List α), t < xs.length → xs.getD t d = x → I t (x :: rest) s →
   (∀ s', I (t + 1) rest s' → L n s' ((t + 1 : Nat) : Int) = S (t + 1) rest s') → L (n + 1) s (t : Int) = S t (x :: rest) s)
  (he : ∀ (n : Nat) (s : σ), I xs.length [] s → L (n + 1) s (xs.length : Int) = S xs.length [] s)
  (n : Nat) (s : σ) (hn : xs.length < n) (hI : I 0 xs s) : L n s 0 = S 0 xs s := by
 have main : ∀ (k t n : Nat) (s : σ), t + k = xs.length → k < n → I t (xs.drop t) s → L n s (t : Int) = S t (xs.drop t) s := by
  intro k
  induction k with
  | zero =>
   intro t n s h1 h2 h3
   obtain ⟨m, rfl⟩ : ∃ m, n = m + 1 := ⟨n - 1, by omega⟩
   have : t = xs.length := by omega
   subst this
   rw [List.drop_length] at h3 ⊢
   exact he m s h3
  | succ k ih =>
   intro t n s h1 h2 h3
   obtain ⟨m, rfl⟩ : ∃ m, n = m + 1 := ⟨n - 1, by omega⟩
   cases hd : xs.drop t with
   | nil => have := congrArg List.length hd; simp only [List.length_drop, List.length_nil] at this; omega
   | cons x rest =>
    obtain ⟨a, b, c⟩ := getD_drop (d := d) hd
    rw [hd] at h3
    refine hs m s t x rest a b h3 fun s' hI' => ?_
    rw [← c] at hI' ⊢
    exact ih (t + 1) m s' (by omega) (by omega) hI'
 have := main xs.length 0 n s (by omega) hn (by simpa using hI)
 simpa using this
theorem countUp {σ ρ : Type} (lo hi : Int) (hle : lo ≤ hi) (L : Nat → σ → Int → Option ρ) (I : Int → σ → Prop) (S : Int → σ → Option ρ)
  (hs : ∀ (n : Nat) (s : σ) (t : Int), lo ≤ t → t < hi → I t s → (∀ s', I (t + 1) s' → L n s' (t + 1) = S (t + 1) s') → L (n + 1) s t = S t s)
  (he : ∀ (n : Nat) (s : σ), I hi s → L (n + 1) s hi = S hi s)
  (n : Nat) (s : σ) (hn : (hi - lo).toNat < n) (hI : I lo s) : L n s lo = S lo s := by
 have main : ∀ (k n : Nat) (t : Int) (s : σ), lo ≤ t → t + k = hi → k < n → I t s → L n s t = S t s := by
  intro k
  induction k with
  | zero =>
   intro n t s h0 h1 h2 h3
   obtain ⟨m, rfl⟩ : ∃ m, n = m + 1 := ⟨n - 1, by omega⟩
   have : t = hi := by omega
   subst this; exact he m s h3
  | succ k ih =>
   intro n t s h0 h1 h2 h3
   obtain ⟨m, rfl⟩ : ∃ m, n = m + 1 := ⟨n - 1, by omega⟩
   exact hs m s t h0 (by omega) h3 fun s' h' => ih m (t + 1) s' (by omega) (by omega) (by omega) h'
 exact main (hi - lo).toNat n lo s (by omega) (by omega) hn hI
theorem countP' {σ ρ : Type} (lo hi : Int) (hle : lo ≤ hi) (L : Nat → σ → Int → Option ρ) (I : Int → σ → Prop) (Q : Option ρ → Prop)
  (hs : ∀ (n : Nat) (s : σ) (t : Int), lo ≤ t → t < hi → I t s → (∀ s', I (t + 1) s' → Q (L n s' (t + 1))) → Q (L (n + 1) s t))
  (he : ∀ (n : Nat) (s : σ), I hi s → Q (L (n + 1) s hi))
  (n : Nat) (s : σ) (hn : (hi - lo).toNat < n) (hI : I lo s) : Q (L n s lo) := by
 have main : ∀ (k n : Nat) (t : Int) (s : σ), lo ≤ t → t + k = hi → k < n → I t s → Q (L n s t) := by
  intro k
  induction k with
  | zero =>
   intro n t s h0 h1 h2 h3
   obtain ⟨m, rfl⟩ : ∃ m, n = m + 1 := ⟨n - 1, by omega⟩
   have : t = hi := by omega
   subst this; exact he m s h3
  | succ k ih =>
   intro n t s h0 h1 h2 h3
   obtain ⟨m, rfl⟩ : ∃ m, n = m + 1 := ⟨n - 1, by omega⟩
   exact hs m s t h0 (by omega) h3 fun s' h' => ih m (t + 1) s' (by omega) (by omega) (by omega) h'
 exact main (hi - lo).toNat n lo s (by omega) (by omega) hn hI
theorem ixA {t n : Nat} (h : t < n) : decide ((t : Int) < (n : Int)) = true := qD1 (by omega)
theorem ixB {t n : Nat} (h : t < n) : decide (0 ≤ (t : Int) ∧ (t : Int) < (n : Int)) = true := qD1 (by omega)
theorem ixE (n : Nat) : decide ((n : Int) < (n : Int)) = false := qD0 (by omega)
theorem ixW {t n : Nat} (h : t < n) (hn : n ≤ 4611686018427387904) : w64 ((t : Int) + 1) = ((t + 1 : Nat) : Int) := w64_succ (by omega)
theorem w64_small {x : Int} (h : -4611686018427387904 ≤ x ∧ x ≤ 4611686018427387904) : w64 x = x := w64_eq (by omega) (by omega)
theorem getD_at {α : Type} {l : List α} {i : Nat} {d : α} (h : i < l.length) : l.getD i d = l[i] := by
 rw [qG1, List.getElem?_eq_getElem h]; rfl
theorem getD_mem {α : Type} {l : List α} {i : Nat} {d : α} (h : i < l.length) : l.getD i d ∈ l := by
 rw [getD_at h]; exact List.getElem_mem _
theorem take_succ' {α : Type} {l : List α} {t : Nat} {d x : α} (h : t < l.length) (hx : l.getD t d = x) : l.take (t + 1) = l.take t ++ [x] := by
 rw [List.take_add_one, List.getElem?_eq_getElem h, ← hx, getD_at h]; rfl
theorem KB41 : FnOk Try.prog 41 (F41 fun lo n hi => some (decide (lo ≤ n ∧ n ≤ hi))) := ok41 _ fun lo n hi r h => ⟨0, by
 rw [← h, m41]
 by_cases e : lo ≤ n
 ·rw [qD1 e, cond_true]; simp [e]
 ·rw [qD0 e, cond_false]; simp [e]⟩
theorem rangeE (s n : Nat) : List.range' s (n + 1) = List.range' s n ++ [s + n] := by rw [List.range'_concat]; simp
def allI (k : Nat) : List Int := (List.range' 0 k).map fun i => ((i : Nat) : Int)
theorem tmod_emod {a b : Int} (ha : 0 ≤ a) : Int.tmod a b = a % b := Int.tmod_eq_emod_of_nonneg ha
theorem rm_perm {l out : List Int} {i : Nat} (hi : i < l.length) : (out ++ [l.getD i 0] ++ (l.take i ++ l.drop (i + 1))).Perm (out ++ l) := by
 rw [List.append_assoc]
 refine List.Perm.append_left out ?_
 have e : l = l.take i ++ l.getD i 0 :: l.drop (i + 1) := by
  rw [getD_at hi, ← List.drop_eq_getElem_cons hi, List.take_append_drop]
 conv => rhs; rw [e]
 show (l.getD i 0 :: (l.take i ++ l.drop (i + 1))).Perm _
 exact List.perm_middle.symm
theorem l6b_ok {q base : List Int} (hq : True ∧ ∀ x ∈ q, 0 ≤ x ∧ x ≤ 255) (hbase : base.length ≤ 100) : ∀ (m fuel k : Nat) (left out : List Int), left.length = m → m < fuel → k + m ≤ 200 → (out ++ left).Perm base →
  ∃ p, l6b 60 q fuel (k : Int) left out = some p ∧ p.Perm base
 | 0, fuel + 1, k, left, out, hl, _, _, hp => by
  obtain rfl := List.eq_nil_of_length_eq_zero hl
  rw [List.append_nil] at hp
  exact ⟨out, rfl, hp⟩
 | m + 1, fuel + 1, k, left, out, hl, hf, hkm, hp => by
  have hlen : out.length + left.length ≤ 100 := by have := hp.length_eq; rw [qL1] at this; omega
  have key : ∀ i, i < left.length → ∃ p, l6b 60 q fuel ((k : Int) + 1) (left.take i ++ left.drop (i + 1)) (out ++ [left.getD i 0]) = some p ∧ p.Perm base := fun i hi => by
   have := l6b_ok hq hbase m fuel (k + 1) (left.take i ++ left.drop (i + 1)) (out ++ [left.getD i 0]) (by rw [qL1, List.length_take, List.length_drop]; omega) (by omega) (by omega) ((rm_perm hi).trans hp)
   rwa [show ((k + 1 : Nat) : Int) = (k : Int) + 1 by omega] at this
  rw [l6b, qD1 (show (left.length : Int) > 0 by omega), cond_true]
  by_cases hk : k < q.length
  ·have hx := hq.2 _ (getD_mem (d := 0) hk)
   have hpos : (0 : Int) < (left.length : Int) := by omega
   obtain ⟨i, hi, eI⟩ : ∃ i : Nat, i < left.length ∧ Int.tmod (w64 (q.getD k 0)) (left.length : Int) = (i : Int) := by
    refine ⟨(q.getD k 0 % (left.length : Int)).toNat, ?_, ?_⟩
    ·have := Int.emod_lt_of_pos (q.getD k 0) hpos; omega
    ·rw [w64_small (by omega), tmod_emod hx.1]
     have := Int.emod_nonneg (q.getD k 0) (show (left.length : Int) ≠ 0 by omega); omega
   have hw : w64 ((i : Int) + 1) = (i : Int) + 1 := w64_small (by omega)
   simp only [ixA hk, ixB hk, cond_true, chk_true, qN0, eI, hw, show ((i : Int) + 1).toNat = i + 1 by omega, List.drop_zero, List.nil_append, List.take_length]
   rw [chk_dec (by omega), chk_dec (by omega), chk_of (small_of (by omega) (by decide)), chk_dec (by omega), chk_of (small_of (by rw [List.length_take]; omega) (by decide)), chk_dec (by omega), chk_of (small_of (by rw [List.length_take, List.length_drop]; omega) (by decide)), w64_small (x := (k : Int) + 1) (by omega)]
   exact key i hi
  ·have h0 := key 0 (by omega)
   rw [qD0 (show ¬ (k : Int) < (q.length : Int) by omega), cond_false]
   simp only [List.drop_zero, List.nil_append, List.take_length, List.take_zero, List.length_nil] at h0 ⊢
   rw [chk_dec (by omega), chk_of (small_of (by omega) (by decide)), chk_dec (by omega), chk_of (small_of (by omega) (by decide)), chk_dec (by omega), chk_of (small_of (by rw [List.length_drop]; omega) (by decide)), w64_small (x := (k : Int) + 1) (by omega)]
   exact h0
def B6 (n : Int) (q : List Int) : Option (List Int) := m6 60 n q
theorem KB6 : FnOk Try.prog 6 (F6 B6) := ok6 B6 fun n q r h => ⟨60, h⟩
theorem B6_ok {n : Nat} {q : List Int} (hn : n ≤ 6) (hq : True ∧ ∀ x ∈ q, 0 ≤ x ∧ x ≤ 255) : ∃ p, B6 n q = some p ∧ p.Perm (allI n) := by
 rw [B6, m6]
 refine countP' 0 (n : Int) (by omega) (fun n' z t => l6a 60 (n : Int) q n' t z) (fun t z => z = allI t.toNat) (fun r => ∃ p, r = some p ∧ p.Perm (allI n)) (fun n' z t a b hI ih => ?_) (fun n' z hI => ?_) 60 [] (by omega) rfl
 ·subst hI
  obtain ⟨k, rfl⟩ : ∃ q : Nat, t = q := ⟨t.toNat, by omega⟩
  have hk : k < n := by omega
  have e := ih _ rfl
  rw [show ((k : Int) + 1).toNat = k + 1 by omega, allI, rangeE, List.map_append, Nat.zero_add, List.map_cons, List.map_nil] at e
  simp only [l6a, ixA hk, cond_true, qN0]
  rw [chk_of (small_of (by rw [allI, List.length_map, List.length_range']; omega) (by decide)), w64_small (x := (k : Int) + 1) (by omega)]
  exact e
 ·subst hI
  simp only [l6a, ixE, cond_false, qN0]
  have hl : (allI n).length = n := by simp [allI]
  exact l6b_ok hq (by omega) n 60 0 (allI n) [] hl (by omega) (by omega) (.refl _)
def sm : Nat → (Nat → Int) → Int
 | 0, _ => 0
 | n + 1, f => sm n f + f n
theorem sm_congr : ∀ {n : Nat} {f g : Nat → Int}, (∀ i, i < n → f i = g i) → sm n f = sm n g
 | 0, _, _, _ => rfl
 | n + 1, f, g, h => by rw [sm, sm, sm_congr fun i hi => h i (by omega), h n (by omega)]
theorem sm_add (f g : Nat → Int) : ∀ n, sm n (fun i => f i + g i) = sm n f + sm n g
 | 0 => rfl
 | n + 1 => by simp only [sm]; rw [sm_add f g n]; omega
theorem sm_zero : ∀ n, sm n (fun _ => 0) = 0
 | 0 => rfl
 | n + 1 => by simp only [sm]; rw [sm_zero n]; omega
theorem sm_swap (f : Nat → Nat → Int) (m : Nat) : ∀ n, sm n (fun i => sm m fun j => f i j) = sm m fun j => sm n fun i => f i j
 | 0 => (sm_zero m).symm
 | n + 1 => by simp only [sm]; rw [sm_swap f m n, sm_add]
theorem sm_mul (s : Int) (f : Nat → Int) : ∀ n, sm n (fun i => s * f i) = s * sm n f
 | 0 => by simp [sm]
 | n + 1 => by simp only [sm]; rw [sm_mul s f n, Int.mul_add]
theorem sm_nn : ∀ {n : Nat} {f : Nat → Int}, (∀ i, i < n → 0 ≤ f i) → 0 ≤ sm n f
 | 0, _, _ => Int.le_refl _
 | n + 1, f, h => by have := sm_nn (n := n) fun i hi => h i (by omega); have := h n (by omega); simp only [sm]; omega
theorem sm_le : ∀ {n : Nat} {f : Nat → Int}, (∀ i, i < n → 0 ≤ f i) → ∀ i, i < n → f i ≤ sm n f
 | 0, _, _, i, hi => by omega
 | n + 1, f, h, i, hi => by
  have a := sm_nn (n := n) fun i hi => h i (by omega)
  have b := h n (by omega)
  simp only [sm]
  by_cases e : i = n
  ·subst e; omega
  ·have := sm_le (n := n) (fun i hi => h i (by omega)) i (by omega); omega
theorem sm_two {n : Nat} {f : Nat → Int} (h : ∀ i, i < n → 0 ≤ f i) : ∀ {i j : Nat}, i < n → j < n → i ≠ j → f i + f j ≤ sm n f := by
 induction n with
 | zero => intro i j hi; omega
 | succ n ih =>
  intro i j hi hj hne
  have b := h n (by omega)
  simp only [sm]
  by_cases e : i = n
  ·subst e; have := sm_le (n := i) (fun k hk => h k (by omega)) j (by omega); omega
  ·by_cases e2 : j = n
   ·subst e2; have := sm_le (n := j) (fun k hk => h k (by omega)) i (by omega); omega
   ·have := ih (fun k hk => h k (by omega)) (i := i) (j := j) (by omega) (by omega) hne; omega
theorem sm_one {n : Nat} (x : Int) {k : Nat} : sm n (fun i => if i = k then x else 0) = if k < n then x else 0 := by
 induction n with
 | zero => rfl
 | succ n ih =>
  simp only [sm, ih]
  by_cases e : n = k
  ·subst e; simp
  ·rw [if_neg e]
   by_cases q : k < n
   ·rw [if_pos q, if_pos (by omega)]; omega
   ·rw [if_neg q, if_neg (by omega)]; omega
def ind (b : Bool) : Int := cond b 1 0
theorem bridge {n : Nat} {h : Nat → Nat → Int} {s : Int} (hnn : ∀ r c, r < n → c < n → 0 ≤ h r c) (hr : ∀ r, r < n → sm n (h r) = s) (hc : ∀ c, c < n → sm n (fun r => h r c) = s) {R C : Nat → Bool} {r0 c0 : Nat} (hr0 : r0 < n) (hc0 : c0 < n)
  (hR : R r0 = true) (hC : C c0 = false) (hpos : 0 < h r0 c0) (hin : ∀ r c, r < n → c < n → ¬ (r = r0 ∧ c = c0) → h r c ≠ 0 → R r = C c) : h r0 c0 = s := by
 have e1 : sm n (fun r => sm n fun c => ind (R r) * h r c) = s * sm n fun r => ind (R r) := by
  rw [← sm_mul]
  refine sm_congr fun r h1 => ?_
  rw [sm_mul, show sm n (fun c => h r c) = s from hr r h1, Int.mul_comm]
 have e2 : sm n (fun r => sm n fun c => ind (C c) * h r c) = s * sm n fun c => ind (C c) := by
  rw [sm_swap, ← sm_mul]
  refine sm_congr fun c h1 => ?_
  rw [sm_mul, hc c h1, Int.mul_comm]
 have e3 : sm n (fun r => sm n fun c => ind (R r) * h r c) = sm n (fun r => sm n fun c => ind (C c) * h r c) + h r0 c0 := by
  have : sm n (fun r => sm n fun c => ind (R r) * h r c) = sm n (fun r => sm n (fun c => ind (C c) * h r c) + if r = r0 then h r0 c0 else 0) := sm_congr fun r h1 => by
   have key : sm n (fun c => ind (R r) * h r c) = sm n (fun c => ind (C c) * h r c + if c = c0 then (if r = r0 then h r0 c0 else 0) else 0) := sm_congr fun c h2 => by
    by_cases q : r = r0 ∧ c = c0
    ·obtain ⟨rfl, rfl⟩ := q
     rw [if_pos rfl, if_pos rfl, hR, hC]; simp [ind]
    ·have z : (if c = c0 then (if r = r0 then h r0 c0 else 0) else 0) = 0 := by
      by_cases a : c = c0
      ·rw [if_pos a, if_neg (fun b => q ⟨b, a⟩)]
      ·rw [if_neg a]
     rw [z, Int.add_zero]
     by_cases y : h r c = 0
     ·rw [y, Int.mul_zero, Int.mul_zero]
     ·rw [hin r c h1 h2 q y]
   rw [key, sm_add, sm_one, if_pos hc0]
  rw [this, sm_add, sm_one, if_pos hr0]
 have hle : h r0 c0 ≤ s := by rw [← hr r0 hr0]; exact sm_le (fun c h1 => hnn r0 c hr0 h1) c0 hc0
 rw [e1, e2] at e3
 have e4 : s * (sm n (fun r => ind (R r)) - sm n fun c => ind (C c)) = h r0 c0 := by rw [Int.mul_sub]; omega
 generalize sm n (fun r => ind (R r)) - sm n (fun c => ind (C c)) = d at e4
 have hs : 0 < s := by omega
 have hd : 0 < d := by
  by_cases q : 0 < d
  ·exact q
  ·have := Int.mul_nonpos_of_nonneg_of_nonpos (a := s) (b := d) (by omega) (by omega); omega
 have : s * 1 ≤ s * d := Int.mul_le_mul_of_nonneg_left (by omega) (by omega)
 omega
theorem alone {n : Nat} {h : Nat → Nat → Int} {s : Int} (hnn : ∀ r c, r < n → c < n → 0 ≤ h r c) (hr : ∀ r, r < n → sm n (h r) = s) (hc : ∀ c, c < n → sm n (fun r => h r c) = s) {r0 c0 : Nat} (hr0 : r0 < n) (hc0 : c0 < n) (h0 : h r0 c0 = s) :
  (∀ c, c < n → c ≠ c0 → h r0 c = 0) ∧ ∀ r, r < n → r ≠ r0 → h r c0 = 0 := by
 refine ⟨fun c h1 h2 => ?_, fun r h1 h2 => ?_⟩
 ·have a := sm_two (n := n) (f := h r0) (fun c hc' => hnn r0 c hr0 hc') hc0 h1 (Ne.symm h2)
  rw [hr r0 hr0] at a
  have := hnn r0 c hr0 h1; omega
 ·have a := sm_two (n := n) (f := fun r => h r c0) (fun r hr' => hnn r c0 hr' hc0) hr0 h1 (Ne.symm h2)
  rw [hc c0 hc0] at a
  have := hnn r c0 h1 hc0
  omega
def psF : Nat → List Nat → Nat → Nat
 | _, [], s => s
 | k, a :: r, s => psF (k + 1) r (cond (s.testBit k) (s ||| a) s)
def itr (ar : List Nat) : Nat → Nat → Nat
 | 0, s => s
 | n + 1, s => itr ar n (psF 0 ar s)
def frN (ar : List Nat) (i : Nat) : Nat := itr ar ar.length (2 ^ i)
abbrev Sub (s t : Nat) : Prop := ∀ j, s.testBit j = true → t.testBit j = true
theorem sub_or (s a : Nat) : Sub s (s ||| a) := fun j h => by rw [Nat.testBit_or, h, Bool.true_or]
theorem psF_sub : ∀ (r : List Nat) (k s : Nat), Sub s (psF k r s)
 | [], _, _, _, h => h
 | a :: r, k, s, j, h => by
  rw [psF]
  refine psF_sub r (k + 1) _ j ?_
  cases s.testBit k with
  | true => exact sub_or s a j h
  | false => exact h
theorem psF_min {T : Nat → Prop} : ∀ (r : List Nat) (k s : Nat), (∀ i, i < r.length → T (k + i) → ∀ j, (r.getD i 0).testBit j = true → T j) → (∀ j, s.testBit j = true → T j) → ∀ j, (psF k r s).testBit j = true → T j
 | [], _, _, _, hs, j, h => hs j h
 | a :: r, k, s, hc, hs, j, h => by
  rw [psF] at h
  refine psF_min r (k + 1) _ (fun i hi ht => ?_) ?_ j h
  ·have := hc (i + 1) (by simp only [List.length_cons]; omega) (by rwa [show k + (i + 1) = k + 1 + i by omega])
   simpa using this
  ·intro j hj
   cases e : s.testBit k with
   | false => rw [e, cond_false] at hj; exact hs j hj
   | true =>
    rw [e, cond_true, Nat.testBit_or, Bool.or_eq_true] at hj
    rcases hj with hj | hj
    ·exact hs j hj
    ·have := hc 0 (by simp) (hs k e)
     exact this j (by simpa using hj)
theorem psF_step : ∀ (r : List Nat) (k s i : Nat), i < r.length → s.testBit (k + i) = true → Sub (r.getD i 0) (psF k r s)
 | a :: r, k, s, 0, _, h, j, hj => by
  rw [psF]
  refine psF_sub r (k + 1) _ j ?_
  have h : s.testBit k = true := h
  rw [h, cond_true, Nat.testBit_or]
  have hj : a.testBit j = true := by simpa using hj
  rw [hj, Bool.or_true]
 | a :: r, k, s, i + 1, hi, h, j, hj => by
  rw [psF]
  refine psF_step r (k + 1) _ i (by simp only [List.length_cons] at hi; omega) ?_ j (by simpa using hj)
  rw [show k + 1 + i = k + (i + 1) by omega]
  cases s.testBit k with
  | true => exact sub_or s a _ h
  | false => exact h
theorem psF_lt {m : Nat} : ∀ (r : List Nat) (k s : Nat), (∀ a ∈ r, a < 2 ^ m) → s < 2 ^ m → psF k r s < 2 ^ m
 | [], _, _, _, h => h
 | a :: r, k, s, hr, h => by
  rw [psF]
  refine psF_lt r (k + 1) _ (fun b hb => hr b (by simp [hb])) ?_
  cases s.testBit k with
  | true => exact Nat.or_lt_two_pow h (hr a (by simp))
  | false => exact h
def cnt : Nat → Nat → Nat
 | 0, _ => 0
 | m + 1, s => cnt m s + (s.testBit m).toNat
theorem cnt_le : ∀ (m s : Nat), cnt m s ≤ m
  | 0, _ => Nat.le_refl _
  | m + 1, s => by have := cnt_le m s; have : (s.testBit m).toNat ≤ 1 := by cases s.testBit m <;> decide
                   simp only [cnt]; omega
theorem bit_sub {s t : Nat} (h : Sub s t) (m : Nat) : (s.testBit m).toNat ≤ (t.testBit m).toNat := by
 cases e : s.testBit m with
 | false => exact Nat.zero_le _
 | true => rw [h m e]; exact Nat.le_refl _
theorem cnt_mono {s t : Nat} (h : Sub s t) : ∀ m, cnt m s ≤ cnt m t
 | 0 => Nat.le_refl _
 | m + 1 => by have := cnt_mono h m; have := bit_sub h m; simp only [cnt]; omega
theorem cnt_more {s t : Nat} (h : Sub s t) {j : Nat} (h1 : s.testBit j = false) (h2 : t.testBit j = true) : ∀ m, j < m → cnt m s < cnt m t
 | 0, hj => by omega
 | m + 1, hj => by
  simp only [cnt]
  by_cases e : j = m
  ·subst e
   have := cnt_mono h j
   rw [h1, h2]; simp only [Bool.toNat_false, Bool.toNat_true]; omega
  ·have := cnt_more h h1 h2 m (by omega); have := bit_sub h m; omega
theorem sub_more {s t m : Nat} (h : Sub s t) (ht : t < 2 ^ m) (hne : t ≠ s) : cnt m s < cnt m t := by
 obtain ⟨j, hj⟩ : ∃ j, s.testBit j ≠ t.testBit j := by
  apply Classical.byContradiction
  intro hc
  refine hne (Nat.eq_of_testBit_eq fun j => ?_)
  apply Classical.byContradiction
  intro hj
  exact hc ⟨j, Ne.symm hj⟩
 have h1 : s.testBit j = false := by
  cases e : s.testBit j with
  | false => rfl
  | true => rw [e, h j e] at hj; exact absurd rfl hj
 have h2 : t.testBit j = true := by
  cases e : t.testBit j with
  | true => rfl
  | false => rw [e, h1] at hj; exact absurd rfl hj
 refine cnt_more h h1 h2 m ?_
 apply Classical.byContradiction
 intro hm
 have := Nat.testBit_lt_two_pow (x := t) (i := j) (Nat.lt_of_lt_of_le ht (Nat.pow_le_pow_right (by decide) (by omega)))
 rw [this] at h2; cases h2
theorem itr_fix (ar : List Nat) : ∀ (n s : Nat), psF 0 ar s = s → itr ar n s = s
 | 0, _, _ => rfl
 | n + 1, s, h => by rw [itr, h]; exact itr_fix ar n s h
theorem itr_ok {ar : List Nat} {m : Nat} (hb : ∀ a ∈ ar, a < 2 ^ m) : ∀ (n s : Nat), s < 2 ^ m → m ≤ n + cnt m s → psF 0 ar (itr ar n s) = itr ar n s
 | 0, s, hs, hn => by
  rw [itr]
  apply Classical.byContradiction
  intro hne
  have := sub_more (psF_sub ar 0 s) (psF_lt ar 0 s hb hs) hne
  have := cnt_le m (psF 0 ar s)
  omega
 | n + 1, s, hs, hn => by
  rw [itr]
  by_cases e : psF 0 ar s = s
  ·rw [e, itr_fix ar n s e, e]
  ·have := sub_more (psF_sub ar 0 s) (psF_lt ar 0 s hb hs) e
   exact itr_ok hb n _ (psF_lt ar 0 s hb hs) (by omega)
theorem itr_sub (ar : List Nat) : ∀ (n s : Nat), Sub s (itr ar n s)
 | 0, _, _, h => h
 | n + 1, s, j, h => itr_sub ar n _ j (psF_sub ar 0 s j h)
theorem itr_lt {ar : List Nat} {m : Nat} (hb : ∀ a ∈ ar, a < 2 ^ m) : ∀ (n s : Nat), s < 2 ^ m → itr ar n s < 2 ^ m
 | 0, _, h => h
 | n + 1, s, h => itr_lt hb n _ (psF_lt ar 0 s hb h)
theorem itr_min {T : Nat → Prop} {ar : List Nat} (hc : ∀ i, i < ar.length → T i → ∀ j, (ar.getD i 0).testBit j = true → T j) : ∀ (n s : Nat), (∀ j, s.testBit j = true → T j) → ∀ j, (itr ar n s).testBit j = true → T j
 | 0, _, hs, j, h => hs j h
 | n + 1, s, hs, j, h => itr_min hc n _ (psF_min ar 0 s (fun i hi ht => hc i hi (by rwa [Nat.zero_add] at ht)) hs) j h
def okA (ar : List Nat) : Prop := ∀ a ∈ ar, a < 2 ^ ar.length
theorem fr_lt {ar : List Nat} (h : okA ar) {i : Nat} (hi : i < ar.length) : frN ar i < 2 ^ ar.length := itr_lt h _ _ (Nat.pow_lt_pow_right (by decide) hi)
theorem fr_self (ar : List Nat) (i : Nat) : (frN ar i).testBit i = true := itr_sub ar _ _ i (Nat.testBit_two_pow_self)
theorem fr_closed {ar : List Nat} (h : okA ar) {i k j : Nat} (hi : i < ar.length) (hk : k < ar.length) (h1 : (frN ar i).testBit k = true) (h2 : (ar.getD k 0).testBit j = true) : (frN ar i).testBit j = true := by
 have e := itr_ok h ar.length (2 ^ i) (Nat.pow_lt_pow_right (by decide) hi) (by omega)
 rw [frN, ← e]
 exact psF_step ar 0 _ k hk (by rw [Nat.zero_add]; exact h1) j h2
theorem fr_min {T : Nat → Prop} {ar : List Nat} {i : Nat} (hc : ∀ i, i < ar.length → T i → ∀ j, (ar.getD i 0).testBit j = true → T j) (hi : T i) {j : Nat} (h : (frN ar i).testBit j = true) : T j :=
 itr_min hc _ _ (fun k hk => by rw [Nat.testBit_two_pow, dtq] at hk; rwa [← hk]) j h
theorem bit_lt {s m j : Nat} (h : s < 2 ^ m) (hj : s.testBit j = true) : j < m := by
 apply Classical.byContradiction
 intro hm
 have := Nat.testBit_lt_two_pow (x := s) (i := j) (Nat.lt_of_lt_of_le h (Nat.pow_le_pow_right (by decide) (by omega)))
 rw [this] at hj; cases hj
theorem fr_in {ar : List Nat} (h : okA ar) {i j : Nat} (hi : i < ar.length) (hj : (frN ar i).testBit j = true) : j < ar.length := bit_lt (fr_lt h hi) hj
def symA (ar : List Nat) : Prop := ∀ k, k < ar.length → ∀ j, j < ar.length → (ar.getD k 0).testBit j = (ar.getD j 0).testBit k
theorem fr_sym {ar : List Nat} (h : okA ar) (hs : symA ar) {i j : Nat} (hi : i < ar.length) (hj : (frN ar i).testBit j = true) : (frN ar j).testBit i = true := by
 have key : j < ar.length ∧ (frN ar j).testBit i = true := fr_min (T := fun x => x < ar.length ∧ (frN ar x).testBit i = true) (fun k hk hT l hl => by
  have hl2 : l < ar.length := bit_lt (h _ (List.getElem_mem hk)) (by rwa [qG1, List.getElem?_eq_getElem hk] at hl)
  refine ⟨hl2, ?_⟩
  have b : (ar.getD l 0).testBit k = true := by rw [← hs k hk l hl2]; exact hl
  have c : (frN ar l).testBit k = true := fr_closed h hl2 hl2 (fr_self ar l) b
  exact fr_min (T := fun x => (frN ar l).testBit x = true) (fun q hq hT' z hz => fr_closed h hl2 hq hT' hz) c hT.2) ⟨hi, fr_self ar i⟩ hj
 exact key.2
theorem fr_trans {ar : List Nat} (h : okA ar) {i j k : Nat} (hi : i < ar.length) (h1 : (frN ar i).testBit j = true) (h2 : (frN ar j).testBit k = true) : (frN ar i).testBit k = true :=
 fr_min (T := fun x => (frN ar i).testBit x = true) (fun q hq hT' z hz => fr_closed h hi hq hT' hz) h1 h2
theorem all_bits {s m : Nat} (hs : s < 2 ^ m) : s = 2 ^ m - 1 ↔ ∀ j, j < m → s.testBit j = true := by
 constructor
 ·intro h j hj; rw [h, Nat.testBit_two_pow_sub_one, qD1 hj]
 ·intro h
  refine Nat.eq_of_testBit_eq fun j => ?_
  rw [Nat.testBit_two_pow_sub_one]
  by_cases hj : j < m
  ·rw [h j hj, qD1 hj]
  ·rw [qD0 hj]
   cases e : s.testBit j with
   | false => rfl
   | true => exact absurd (bit_lt hs e) hj
abbrev Bz := Int × Int × Int × Unit
abbrev Rk := Int × Int × List Bz × Unit
def okB (n : Int) (b : Bz) : Bool := decide (0 ≤ b.1 ∧ b.1 < n) && decide (0 ≤ b.2.1 ∧ b.2.1 < n) && decide (b.2.2.1 = 0)
theorem okB_at {n : Int} {b : Bz} (h : okB n b = true) : (0 ≤ b.1 ∧ b.1 < n) ∧ (0 ≤ b.2.1 ∧ b.2.1 < n) ∧ b.2.2.1 = 0 := by
 simp only [okB, bae, dtq] at h; exact ⟨h.1.1, h.1.2, h.2⟩
def okR (r : Rk) : Bool := decide (1 ≤ r.1 ∧ r.1 ≤ 6) && decide (r.2.1 = r.1) && decide (r.2.2.1.length ≤ 24) && r.2.2.1.all (okB r.1)
theorem okR_at {r : Rk} (h : okR r = true) : (1 ≤ r.1 ∧ r.1 ≤ 6) ∧ r.2.1 = r.1 ∧ r.2.2.1.length ≤ 24 ∧ ∀ b ∈ r.2.2.1, okB r.1 b = true := by
 simp only [okR, bae, dtq, List.all_eq_true] at h; exact ⟨h.1.1.1, h.1.1.2, h.1.2, h.2⟩
def B27 (r : Rk) : Option Int := if okR r = true then some 0 else none
theorem KB27 : FnOk Try.prog 27 (F27 B27) := ok27 _ KB41 B27 fun r x h => ⟨25, by
 simp only [B27] at h
 split at h
 ·rename_i hs
  obtain ⟨h1, h2, h3, h4⟩ := okR_at hs
  rw [← h, m27]
  simp only [qB0, h2]
  rw [qD1 (show (1 : Int) ≤ r.1 ∧ r.1 ≤ 6 from h1), Bool.not_true, cond_false, qD0 (show ¬ (r.2.2.1.length : Int) > 24 by omega)]
  simp only [cond_false]
  refine countP' 0 (r.2.2.1.length : Int) (by omega) (fun n (_ : Unit) t => l27a (fun lo n hi => some (decide (lo ≤ n ∧ n ≤ hi))) 25 r n t) (fun _ _ => True) (fun x => x = some 0) (fun n o t a b hI ih => ?_) (fun n o hI => ?_) 25 () (by omega) trivial
  ·obtain ⟨k, rfl⟩ : ∃ q : Nat, t = q := ⟨t.toNat, by omega⟩
   have hk : k < r.2.2.1.length := by omega
   have e := ih () trivial
   obtain ⟨b1, b2, b3⟩ := okB_at (h4 _ (getD_mem (d := (0, 0, 0, ())) hk))
   have hw : w64 (r.1 - 1) = r.1 - 1 := w64_small (by omega)
   simp only [l27a, ixA hk, ixB hk, cond_true, chk_true, qN0, qB0, h2, hw, b3]
   rw [qD1 (show (0 : Int) ≤ (r.2.2.1.getD k (0, 0, 0, ())).1 ∧ (r.2.2.1.getD k (0, 0, 0, ())).1 ≤ r.1 - 1 by omega), qD1 (show (0 : Int) ≤ (r.2.2.1.getD k (0, 0, 0, ())).2.1 ∧ (r.2.2.1.getD k (0, 0, 0, ())).2.1 ≤ r.1 - 1 by omega), w64_small (x := (k : Int) + 1) (by omega)]
   exact e
  ·simp only [l27a, ixE, cond_false]
 ·cases h⟩
theorem wrap_u16 {n : Nat} (h : n < 65536) : IntKind.wrap .u16 (n : Int) = n := by simp [IntKind.wrap, IntKind.bits, IntKind.signed]; omega
theorem or_bits (k a b : Nat) (ha : a < 2 ^ k) (hb : b < 2 ^ k) : ((BitVec.ofInt k (a : Int)) ||| (BitVec.ofInt k (b : Int))).toNat = a ||| b := by
 rw [BitVec.ofInt_natCast, BitVec.ofInt_natCast, BitVec.toNat_or, BitVec.toNat_ofNat, BitVec.toNat_ofNat, Nat.mod_eq_of_lt ha, Nat.mod_eq_of_lt hb]
theorem and_bits (k a b : Nat) (ha : a < 2 ^ k) (hb : b < 2 ^ k) : ((BitVec.ofInt k (a : Int)) &&& (BitVec.ofInt k (b : Int))).toNat = a &&& b := by
 rw [BitVec.ofInt_natCast, BitVec.ofInt_natCast, BitVec.toNat_and, BitVec.toNat_ofNat, BitVec.toNat_ofNat, Nat.mod_eq_of_lt ha, Nat.mod_eq_of_lt hb]
theorem bOr_u16 {a b : Nat} (ha : a < 65536) (hb : b < 65536) : bOr .u16 (a : Int) (b : Int) = ((a ||| b : Nat) : Int) := by
 have h : a ||| b < 65536 := Nat.or_lt_two_pow (n := 16) ha hb
 have e := or_bits 16 a b ha hb
 show IntKind.wrap .u16 ((((BitVec.ofInt 16 (a : Int)) ||| (BitVec.ofInt 16 (b : Int))).toNat : Nat) : Int) = _
 rw [e]
 exact wrap_u16 h
theorem bAnd_u16 {a b : Nat} (ha : a < 65536) (hb : b < 65536) : bAnd .u16 (a : Int) (b : Int) = ((a &&& b : Nat) : Int) := by
 have h : a &&& b < 65536 := Nat.and_lt_two_pow (n := 16) a hb
 have e := and_bits 16 a b ha hb
 show IntKind.wrap .u16 ((((BitVec.ofInt 16 (a : Int)) &&& (BitVec.ofInt 16 (b : Int))).toNat : Nat) : Int) = _
 rw [e]
 exact wrap_u16 h
theorem pow_cast (c : Nat) : ((2 : Int) ^ c) = ((2 ^ c : Nat) : Int) := by simp
theorem fdiv_pow (s c : Nat) : Int.fdiv (s : Int) ((2 : Int) ^ c) = ((s / 2 ^ c : Nat) : Int) := by
 rw [pow_cast, Int.fdiv_eq_ediv_of_nonneg _ (Int.natCast_nonneg _), Int.natCast_ediv]
theorem bit_of (s c : Nat) : ((((s / 2 ^ c &&& 1 : Nat)) : Int) == 1) = s.testBit c := by
 rw [Nat.and_one_is_mod, Nat.testBit_eq_decide_div_mod_eq]
 by_cases h : s / 2 ^ c % 2 = 1
 ·simp [h]
 ·have : s / 2 ^ c % 2 = 0 := by omega
  simp [this]
theorem bit_u16 {s c : Nat} (hs : s < 65536) (hc : c ≤ 16) : ((bAnd .u16 (Int.fdiv (s : Int) (2 ^ min (Int.toNat (c : Int)) 16)) 1) == 1) = s.testBit c := by
 rw [qN0, Nat.min_eq_left hc, fdiv_pow]
 have h := bAnd_u16 (a := s / 2 ^ c) (b := 1) (Nat.lt_of_le_of_lt (Nat.div_le_self _ _) hs) (by decide)
 rw [show ((1 : Nat) : Int) = 1 from rfl] at h
 rw [h]; exact bit_of s c
theorem p16 {c : Nat} (hc : c < 16) : 2 ^ c < 65536 := by
 have e := Nat.pow_lt_pow_right (show 1 < 2 by decide) hc
 rwa [show (2 : Nat) ^ 16 = 65536 by decide] at e
theorem lt16 {x m : Nat} (h : x < 2 ^ m) (hm : m ≤ 16) : x < 65536 := by
 have e := Nat.pow_le_pow_right (show 0 < 2 by decide) hm
 rw [show (2 : Nat) ^ 16 = 65536 by decide] at e
 exact Nat.lt_of_lt_of_le h e
theorem one_u16 {c : Nat} (hc : c < 16) : IntKind.wrap .u16 (1 * 2 ^ min (Int.toNat (c : Int)) 16) = ((2 ^ c : Nat) : Int) := by
 rw [qN0, Nat.min_eq_left (by omega), Int.one_mul, pow_cast]
 exact wrap_u16 (p16 hc)
abbrev Fr := Rk × List Int × Unit
def aN (f : Fr) : List Nat := f.2.1.map Int.toNat
theorem aN_len (f : Fr) : (aN f).length = f.2.1.length := by simp [aN]
def okF (f : Fr) : Bool := decide (f.2.1.length ≤ 12) && f.2.1.all fun x => decide (0 ≤ x ∧ x.toNat < 2 ^ f.2.1.length)
theorem okF_at {f : Fr} (h : okF f = true) : f.2.1.length ≤ 12 ∧ okA (aN f) ∧ ∀ k : Nat, k < f.2.1.length → f.2.1.getD k 0 = (((aN f).getD k 0 : Nat) : Int) ∧ (aN f).getD k 0 < 65536 := by
 simp only [okF, bae, dtq, List.all_eq_true] at h
 refine ⟨h.1, fun a ha => ?_, fun k hk => ?_⟩
 ·obtain ⟨x, hx, rfl⟩ := List.mem_map.1 ha
  rw [aN_len]; exact (h.2 x hx).2
 ·have := h.2 _ (getD_mem (d := 0) hk)
  have e : (aN f).getD k 0 = (f.2.1.getD k 0).toNat := by
   rw [getD_at (by rw [aN_len]; exact hk), getD_at hk]; simp [aN]
  refine ⟨by rw [e]; omega, ?_⟩
  rw [e]
  exact lt16 this.2 (by omega)
def okSet (s i : Int) : Prop := (0 ≤ s ∧ s < 65536) ∧ (0 ≤ i ∧ i ≤ 16)
noncomputable def B38 (s i : Int) : Option Bool := @ite _ (okSet s i) (Classical.propDecidable _) (some (s.toNat.testBit i.toNat)) none
theorem KB38 : FnOk Try.prog 38 (F38 B38) := ok38 B38 fun s i r h => ⟨0, by
 simp only [B38] at h
 split at h
 ·rename_i hh
  unfold okSet at hh
  obtain ⟨a, rfl⟩ : ∃ q : Nat, s = q := ⟨s.toNat, by omega⟩
  obtain ⟨b, rfl⟩ : ∃ q : Nat, i = q := ⟨i.toNat, by omega⟩
  rw [← h, m38, chk_dec (by omega), bit_u16 (by omega) (by omega)]
  simp
 ·cases h⟩
theorem B38_at {s i : Nat} (hs : s < 65536) (hi : i ≤ 16) : B38 (s : Int) (i : Int) = some (s.testBit i) := by
 rw [B38, if_pos (show okSet _ _ from ⟨by omega, by omega⟩)]; simp
def B66 (f : Fr) : Option Int := if (1 ≤ f.1.1 ∧ f.1.1 ≤ 6) ∧ f.1.2.1 = f.1.1 then some ((2 ^ (2 * f.1.1.toNat) - 1 : Nat) : Int) else none
theorem KB66 : FnOk Try.prog 66 (F66 B66) := ok66 B66 fun f r h => ⟨0, by
 simp only [B66] at h
 split at h
 ·rename_i hh
  obtain ⟨⟨h1, h2⟩, h3⟩ := hh
  rw [← h, m66, h3]
  obtain ⟨n, hn⟩ : ∃ q : Nat, f.1.1 = q := ⟨f.1.1.toNat, by omega⟩
  rw [hn] at h1 h2 ⊢
  rw [w64_small (by omega), chk_dec (by omega), show (n : Int) + (n : Int) = ((2 * n : Nat) : Int) by omega, one_u16 (by omega), qN0]
  have hp : 0 < 2 ^ (2 * n) := Nat.pow_pos (by decide)
  have hq := p16 (c := 2 * n) (by omega)
  rw [show (((2 ^ (2 * n) : Nat) : Int) - 1) = ((2 ^ (2 * n) - 1 : Nat) : Int) by omega, wrap_u16 (by omega)]
 ·cases h⟩
def B72 (f : Fr) (i : Int) : Option Int := if okF f = true ∧ (0 ≤ i ∧ i < f.2.1.length) then some ((frN (aN f) i.toNat : Nat) : Int) else none
theorem l72b_ok {f : Fr} (hf : okF f = true) (t13 : Int) (rec : Int → Int → Option Int) (s : Nat) (hs : s < 2 ^ f.2.1.length) :
  l72b B38 20 f t13 rec 20 (s : Int) 0 = rec ((psF 0 (aN f) s : Nat) : Int) (w64 (t13 + 1)) := by
 obtain ⟨h1, h2, h3⟩ := okF_at hf
 have h16 : ∀ {x : Nat}, x < 2 ^ f.2.1.length → x < 65536 := fun hx => lt16 hx (by omega)
 refine rangeIx (aN f) 0 (fun n (s : Nat) t => l72b B38 20 f t13 rec n (s : Int) t) (fun _ r s => s < 2 ^ f.2.1.length ∧ ∀ a ∈ r, a < 2 ^ f.2.1.length) (fun t r s => rec ((psF t r s : Nat) : Int) (w64 (t13 + 1)))
  (fun n s t x rest ht hx hI ih => ?_) (fun n s hI => ?_) 20 s (by rw [aN_len]; omega) ⟨hs, fun a ha => by have := h2 a ha; rwa [aN_len] at this⟩
 ·rw [aN_len] at ht
  obtain ⟨i1, i2⟩ := hI
  obtain ⟨e1, e2⟩ := h3 t ht
  rw [hx] at e1 e2
  have hx2 := i2 x (by simp)
  simp only [l72b, ixA ht, ixB ht, cond_true, chk_true, qN0, ixW ht (by omega)]
  rw [B38_at (h16 i1) (by omega), qB0, e1, bOr_u16 (h16 i1) e2, psF]
  cases s.testBit t with
  | true => exact ih _ ⟨Nat.or_lt_two_pow i1 hx2, fun a ha => i2 a (by simp [ha])⟩
  | false => exact ih _ ⟨i1, fun a ha => i2 a (by simp [ha])⟩
 ·simp only [aN_len, l72b, ixE, cond_false, psF]
theorem KB72 : FnOk Try.prog 72 (F72 B72) := ok72 B38 KB38 B72 fun f i r h => ⟨20, by
 simp only [B72] at h
 split at h
 ·rename_i hh
  obtain ⟨hf, hi⟩ := hh
  obtain ⟨h1, h2, h3⟩ := okF_at hf
  obtain ⟨i, rfl⟩ : ∃ q : Nat, i = q := ⟨i.toNat, by omega⟩
  rw [← h, m72, chk_dec (by omega), one_u16 (by omega), qN0]
  refine (rangeIx (aN f) 0 (fun n (s : Nat) t => l72a B38 20 f n (s : Int) t) (fun _ _ s => s < 2 ^ f.2.1.length) (fun t r s => some ((itr (aN f) r.length s : Nat) : Int))
   (fun n s t x rest ht hx hI ih => ?_) (fun n s hI => ?_) 20 (2 ^ i) (by rw [aN_len]; omega) (Nat.pow_lt_pow_right (by decide) (by omega))).trans rfl
  ·rw [aN_len] at ht
   simp only [l72a, ixA ht, cond_true]
   rw [l72b_ok hf _ _ s hI, ixW ht (by omega)]
   exact ih _ (psF_lt _ _ _ (fun a ha => by have := h2 a ha; rwa [aN_len] at this) hI)
  ·simp only [aN_len, l72a, ixE, cond_false, List.length_nil, itr]
 ·cases h⟩
theorem or_low (s t : Nat) : (s % 2 ^ t) ||| 2 ^ t = if s.testBit t then s % 2 ^ (t + 1) else (s % 2 ^ t) ||| 2 ^ t := by
 split
 ·rename_i h
  refine Nat.eq_of_testBit_eq fun j => ?_
  rw [Nat.testBit_or, Nat.testBit_mod_two_pow, Nat.testBit_mod_two_pow, Nat.testBit_two_pow]
  by_cases e : t = j
  ·subst e; simp [h]
  ·by_cases q : j < t
   ·simp [q, e, show j < t + 1 by omega]
   ·simp [q, e, show ¬ j < t + 1 by omega]
 ·rfl
theorem low_same {s t : Nat} (h : s.testBit t = false) : s % 2 ^ (t + 1) = s % 2 ^ t := by
 refine Nat.eq_of_testBit_eq fun j => ?_
 rw [Nat.testBit_mod_two_pow, Nat.testBit_mod_two_pow]
 by_cases e : t = j
 ·subst e; simp [h]
 ·by_cases q : j < t
  ·simp [q, show j < t + 1 by omega]
  ·simp [q, show ¬ j < t + 1 by omega]
instance (ar : List Nat) : Decidable (symA ar) := inferInstanceAs (Decidable (∀ k, k < ar.length → ∀ j, j < ar.length → (ar.getD k 0).testBit j = (ar.getD j 0).testBit k))
def B39 (f : Fr) (i : Int) : Option Int := if (okF f = true ∧ symA (aN f)) ∧ (0 ≤ i ∧ i < f.2.1.length) then some ((frN (aN f) i.toNat : Nat) : Int) else none
theorem KB39 : FnOk Try.prog 39 (F39 B39) := ok39 B38 B72 KB38 KB72 B39 fun f i r h => ⟨20, by
 simp only [B39] at h
 split at h
 ·rename_i hh
  obtain ⟨⟨hf, hs⟩, hi⟩ := hh
  obtain ⟨h1, h2, h3⟩ := okF_at hf
  obtain ⟨i, rfl⟩ : ∃ q : Nat, i = q := ⟨i.toNat, by omega⟩
  have hil : i < (aN f).length := by rw [aN_len]; omega
  have fl : ∀ {k : Nat}, k < f.2.1.length → frN (aN f) k < 65536 := fun {k} hk => by
   have := fr_lt h2 (i := k) (by rw [aN_len]; exact hk)
   rw [aN_len] at this
   exact lt16 this (by omega)
  rw [← h, m39, B72, if_pos ⟨hf, hi⟩, qB0, qN0]
  refine countP' 0 (f.2.1.length : Int) (by omega) (fun n (s : Int) t => l39a B38 B72 20 f (i : Int) ((frN (aN f) i : Nat) : Int) n s t) (fun t s => s = ((frN (aN f) i % 2 ^ t.toNat : Nat) : Int)) (fun r => r = some ((frN (aN f) i : Nat) : Int)) (fun n s t a b hI ih => ?_) (fun n s hI => ?_) 20 0 (by omega) (by simp [Nat.mod_one])
  ·subst hI
   obtain ⟨k, rfl⟩ : ∃ q : Nat, t = q := ⟨t.toNat, by omega⟩
   have hk : k < f.2.1.length := by omega
   have e := ih _ rfl
   rw [show ((k : Int) + 1).toNat = k + 1 by omega] at e
   simp only [l39a, ixA hk, cond_true, qN0]
   rw [B38_at (fl (by omega)) (by omega), qB0, w64_small (x := (k : Int) + 1) (by omega)]
   cases ek : (frN (aN f) i).testBit k with
   | false => rw [low_same ek] at e; exact e
   | true =>
    have eb := fr_sym h2 hs hil ek
    rw [cond_true, B72, if_pos ⟨hf, by omega⟩, qB0, qN0, B38_at (fl hk) (by omega), qB0, eb, cond_true, chk_dec (by omega), show IntKind.wrap .u16 (1 * 2 ^ min k 16) = ((2 ^ k : Nat) : Int) by have := one_u16 (c := k) (by omega); rwa [qN0] at this]
    have hm : frN (aN f) i % 2 ^ k < 65536 := Nat.lt_of_lt_of_le (Nat.mod_lt _ (Nat.pow_pos (by decide))) (Nat.le_of_lt (p16 (by omega)))
    rw [bOr_u16 hm (p16 (by omega)), or_low, if_pos ek]
    exact e
  ·subst hI
   have : frN (aN f) i % 2 ^ f.2.1.length = frN (aN f) i := Nat.mod_eq_of_lt (by have := fr_lt h2 hil; rwa [aN_len] at this)
   simp only [l39a, ixE, cond_false, qN0, this]
 ·cases h⟩
def stfA (ar : List Nat) : Bool := decide (frN ar 0 = 2 ^ ar.length - 1)
def B29 (f : Fr) : Option Bool := if (okF f = true ∧ symA (aN f)) ∧ ((1 ≤ f.1.1 ∧ f.1.1 ≤ 6) ∧ f.1.2.1 = f.1.1) ∧ f.2.1.length = 2 * f.1.1.toNat then some (stfA (aN f)) else none
theorem KB29 : FnOk Try.prog 29 (F29 B29) := ok29 B39 B66 KB39 KB66 B29 fun f r h => ⟨0, by
 simp only [B29] at h
 split at h
 ·rename_i hh
  obtain ⟨hf, h6, hl⟩ := hh
  rw [← h, m29, B39, if_pos ⟨hf, by omega⟩, qB0, B66, if_pos h6, qB0, stfA, aN_len, hl]
  congr 1
  rw [show (0 : Int).toNat = 0 from rfl]
  generalize frN (aN f) 0 = x
  generalize 2 ^ (2 * f.1.1.toNat) - 1 = y
  by_cases e : x = y
  ·subst e; simp
  ·rw [qD0 e, beq_eq_false_iff_ne]; omega
 ·cases h⟩
def upA (n : Nat) (b : Bz) (o : List Nat) : List Nat :=
 (o.set b.1.toNat (o.getD b.1.toNat 0 ||| 2 ^ (n + b.2.1.toNat))).set (n + b.2.1.toNat) ((o.set b.1.toNat (o.getD b.1.toNat 0 ||| 2 ^ (n + b.2.1.toNat))).getD (n + b.2.1.toNat) 0 ||| 2 ^ b.1.toNat)
def arF (n : Nat) (w : Int) : Nat → List Bz → List Nat → List Nat
 | _, [], o => o
 | t, b :: bs, o => arF n w (t + 1) bs (cond (decide ((t : Int) = w)) o (upA n b o))
def arr (n : Nat) (w : Int) (bs : List Bz) : List Nat := arF n w 0 bs (List.replicate (2 * n) 0)
def edge (n : Nat) (b : Bz) (k j : Nat) : Prop := (k = b.1.toNat ∧ j = n + b.2.1.toNat) ∨ (k = n + b.2.1.toNat ∧ j = b.1.toNat)
theorem upA_len (n : Nat) (b : Bz) (o : List Nat) : (upA n b o).length = o.length := by simp [upA]
theorem arF_len (n : Nat) (w : Int) : ∀ (bs : List Bz) (t : Nat) (o : List Nat), (arF n w t bs o).length = o.length
 | [], _, _ => rfl
 | b :: bs, t, o => by
  rw [arF, arF_len n w bs]
  cases decide ((t : Int) = w) with
  | true => rfl
  | false => exact upA_len n b o
theorem arr_len (n : Nat) (w : Int) (bs : List Bz) : (arr n w bs).length = 2 * n := by rw [arr, arF_len, List.length_replicate]
theorem getD_set {l : List Nat} {i j x : Nat} (hi : i < l.length) : (l.set i x).getD j 0 = if i = j then x else l.getD j 0 := by
 rw [qG1, List.getElem?_set, qG1]
 by_cases e : i = j
 ·subst e; simp [hi]
 ·simp [e]
theorem upA_bit {n : Nat} {b : Bz} (hb : okB n b = true) {o : List Nat} (ho : o.length = 2 * n) (k j : Nat) : ((upA n b o).getD k 0).testBit j = true ↔ (o.getD k 0).testBit j = true ∨ edge n b k j := by
 obtain ⟨b1, b2, b3⟩ := okB_at hb
 have h1 : b.1.toNat < n := by omega
 have h2 : n + b.2.1.toNat < 2 * n := by omega
 generalize hr : b.1.toNat = r at *
 generalize hc : n + b.2.1.toNat = c at *
 have hcn : n ≤ c := by omega
 rw [upA, edge, hr, hc, getD_set (by rw [List.length_set]; omega), getD_set (by omega), getD_set (by omega)]
 by_cases e1 : c = k
 ·subst e1
  rw [if_pos rfl, if_neg (by omega), Nat.testBit_or, Bool.or_eq_true, Nat.testBit_two_pow, dtq]
  constructor
  ·rintro (h | h)
   ·exact .inl h
   ·exact .inr (.inr ⟨rfl, h.symm⟩)
  ·rintro (h | h | h)
   ·exact .inl h
   ·omega
   ·exact .inr h.2.symm
 ·rw [if_neg e1]
  by_cases e2 : r = k
  ·subst e2
   rw [if_pos rfl, Nat.testBit_or, Bool.or_eq_true, Nat.testBit_two_pow, dtq]
   constructor
   ·rintro (h | h)
    ·exact .inl h
    ·exact .inr (.inl ⟨rfl, h.symm⟩)
   ·rintro (h | h | h)
    ·exact .inl h
    ·exact .inr h.2.symm
    ·omega
  ·rw [if_neg e2]
   constructor
   ·exact .inl
   ·rintro (h | h | h)
    ·exact h
    ·omega
    ·omega
theorem arF_bit {n : Nat} (w : Int) : ∀ (bs : List Bz) (t : Nat) (o : List Nat), (∀ b ∈ bs, okB n b = true) → o.length = 2 * n → ∀ k j, ((arF n w t bs o).getD k 0).testBit j = true ↔
  (o.getD k 0).testBit j = true ∨ ∃ i, i < bs.length ∧ ((t + i : Nat) : Int) ≠ w ∧ edge n (bs.getD i (0, 0, 0, ())) k j
 | [], t, o, _, _, k, j => by simp [arF]
 | b :: bs, t, o, hb, ho, k, j => by
  have hb' : ∀ b ∈ bs, okB n b = true := fun c hc => hb c (by simp [hc])
  have tail : (∃ i, i < (b :: bs).length ∧ ((t + i : Nat) : Int) ≠ w ∧ edge n ((b :: bs).getD i (0, 0, 0, ())) k j) ↔ ((t : Int) ≠ w ∧ edge n b k j) ∨ ∃ i, i < bs.length ∧ ((t + 1 + i : Nat) : Int) ≠ w ∧ edge n (bs.getD i (0, 0, 0, ())) k j := by
   constructor
   ·rintro ⟨i, h1, h2, h3⟩
    cases i with
    | zero => exact .inl ⟨h2, h3⟩
    | succ i => exact .inr ⟨i, by simpa using h1, by rwa [show t + 1 + i = t + (i + 1) by omega], by simpa using h3⟩
   ·rintro (⟨h2, h3⟩ | ⟨i, h1, h2, h3⟩)
    ·exact ⟨0, by simp, h2, h3⟩
    ·exact ⟨i + 1, by simpa using h1, by rwa [show t + (i + 1) = t + 1 + i by omega], by simpa using h3⟩
  rw [arF, tail]
  by_cases e : (t : Int) = w
  ·rw [qD1 e, cond_true, arF_bit w bs (t + 1) o hb' ho]
   simp [e]
  ·rw [qD0 e, cond_false, arF_bit w bs (t + 1) _ hb' (by rw [upA_len]; exact ho), upA_bit (hb b (by simp)) ho]
   simp only [ne_eq, e, not_false_eq_true, true_and, or_assoc]
theorem arr_bit {n : Nat} {w : Int} {bs : List Bz} (hb : ∀ b ∈ bs, okB n b = true) (k j : Nat) : ((arr n w bs).getD k 0).testBit j = true ↔ ∃ i, i < bs.length ∧ (i : Int) ≠ w ∧ edge n (bs.getD i (0, 0, 0, ())) k j := by
 rw [arr, arF_bit w bs 0 _ hb (by simp)]
 have : ((List.replicate (2 * n) 0).getD k 0).testBit j = false := by
  rw [qG1, List.getElem?_replicate]; split <;> simp
 rw [this]
 simp
theorem edge_comm {n : Nat} {b : Bz} {k j : Nat} : edge n b k j ↔ edge n b j k := by
 unfold edge
 constructor
 ·rintro (h | h)
  ·exact .inr ⟨h.2, h.1⟩
  ·exact .inl ⟨h.2, h.1⟩
 ·rintro (h | h)
  ·exact .inr ⟨h.2, h.1⟩
  ·exact .inl ⟨h.2, h.1⟩
theorem edge_lt {n : Nat} {b : Bz} (hb : okB n b = true) {k j : Nat} (h : edge n b k j) : k < 2 * n ∧ j < 2 * n := by
 obtain ⟨b1, b2, b3⟩ := okB_at hb
 unfold edge at h; omega
theorem arr_sym {n : Nat} {w : Int} {bs : List Bz} (hb : ∀ b ∈ bs, okB n b = true) : symA (arr n w bs) := fun k _ j _ => by
 rw [Bool.eq_iff_iff, arr_bit hb, arr_bit hb]
 constructor
 ·rintro ⟨i, h1, h2, h3⟩; exact ⟨i, h1, h2, edge_comm.1 h3⟩
 ·rintro ⟨i, h1, h2, h3⟩; exact ⟨i, h1, h2, edge_comm.1 h3⟩
theorem arr_ok {n : Nat} {w : Int} {bs : List Bz} (hb : ∀ b ∈ bs, okB n b = true) : okA (arr n w bs) := fun a ha => by
 rw [arr_len]
 obtain ⟨k, hk, rfl⟩ := List.getElem_of_mem ha
 refine Nat.lt_pow_two_of_testBit _ fun j hj => ?_
 cases e : ((arr n w bs)[k]).testBit j with
 | false => rfl
 | true =>
  have : ((arr n w bs).getD k 0).testBit j = true := by rw [getD_at hk]; exact e
  obtain ⟨i, h1, h2, h3⟩ := (arr_bit hb k j).1 this
  have := edge_lt (hb _ (getD_mem h1)) h3
  omega
def cI (l : List Nat) : List Int := l.map fun x : Nat => (x : Int)
theorem one_u16' {c : Nat} (hc : c < 16) : IntKind.wrap .u16 (1 * 2 ^ min c 16) = ((2 ^ c : Nat) : Int) := by have := one_u16 hc; rwa [qN0] at this
theorem cI_len (l : List Nat) : (cI l).length = l.length := by simp [cI]
theorem cI_getD (l : List Nat) (k : Nat) : (cI l).getD k 0 = ((l.getD k 0 : Nat) : Int) := by
 rw [cI, qG1, qG1, List.getElem?_map]
 cases l[k]? <;> rfl
theorem cI_set (l : List Nat) (k x : Nat) : (cI l).set k (x : Int) = cI (l.set k x) := by rw [cI, cI, List.map_set]
def frm (r : Rk) (w : Int) : Fr := (r, cI (arr r.1.toNat w r.2.2.1), ())
theorem aN_frm (r : Rk) (w : Int) : aN (frm r w) = arr r.1.toNat w r.2.2.1 := by
 show (cI _).map Int.toNat = _
 rw [cI, List.map_map]
 exact (List.map_congr_left (g := id) fun x _ => qN0 x).trans (List.map_id _)
theorem okF_frm {r : Rk} (h : okR r = true) (w : Int) : (okF (frm r w) = true ∧ symA (aN (frm r w))) ∧ ((1 ≤ (frm r w).1.1 ∧ (frm r w).1.1 ≤ 6) ∧ (frm r w).1.2.1 = (frm r w).1.1) ∧ (frm r w).2.1.length = 2 * (frm r w).1.1.toNat := by
 obtain ⟨h1, h2, h3, h4⟩ := okR_at h
 have hn : ((r.1.toNat : Nat) : Int) = r.1 := by omega
 have hb : ∀ b ∈ r.2.2.1, okB (r.1.toNat : Nat) b = true := fun b hb => by rw [hn]; exact h4 b hb
 have hl : (frm r w).2.1.length = 2 * r.1.toNat := by rw [frm, cI_len, arr_len]
 refine ⟨⟨?_, by rw [aN_frm]; exact arr_sym hb⟩, ⟨h1, h2⟩, hl⟩
 simp only [okF, bae, dtq, List.all_eq_true]
 refine ⟨by rw [hl]; omega, fun x hx => ?_⟩
 obtain ⟨a, ha, rfl⟩ := List.mem_map.1 hx
 have := arr_ok hb a ha
 rw [arr_len] at this
 rw [hl, qN0]
 exact ⟨by omega, this⟩
def B28 (r : Rk) (w : Int) : Option Fr := if okR r = true then some (frm r w) else none
theorem arr_u16 {n : Nat} (hn : n ≤ 6) {o : List Nat} (ho : ∀ a ∈ o, a < 65536) {b : Bz} (hb : okB n b = true) (hl : o.length = 2 * n) : ∀ a ∈ upA n b o, a < 65536 := fun a ha => by
 obtain ⟨b1, b2, b3⟩ := okB_at hb
 have g : ∀ {l : List Nat} {k c : Nat}, (∀ a ∈ l, a < 65536) → c < 16 → l.getD k 0 ||| 2 ^ c < 65536 := fun {l k c} hl hc => by
  refine Nat.or_lt_two_pow (n := 16) ?_ (p16 hc)
  by_cases q : k < l.length
  ·exact hl _ (getD_mem q)
  ·rw [qG1, List.getElem?_eq_none (by omega)]; decide
 have s1 : ∀ a ∈ o.set b.1.toNat (o.getD b.1.toNat 0 ||| 2 ^ (n + b.2.1.toNat)), a < 65536 := fun a ha => by
  rcases List.mem_or_eq_of_mem_set ha with h | h
  ·exact ho a h
  ·rw [h]; exact g ho (by omega)
 rcases List.mem_or_eq_of_mem_set ha with h | h
 ·exact s1 a h
 ·rw [h]; exact g s1 (by omega)
theorem KB28 : FnOk Try.prog 28 (F28 B28) := ok28 B28 fun r w x h => ⟨40, by
 simp only [B28] at h
 split at h
 ·rename_i hr
  obtain ⟨h1, h2, h3, h4⟩ := okR_at hr
  obtain ⟨n, hn⟩ : ∃ q : Nat, r.1 = q := ⟨r.1.toNat, by omega⟩
  rw [hn] at h1 h4
  have e0 : w64 (r.1 + r.2.1) = ((2 * n : Nat) : Int) := by rw [h2, hn, w64_small (by omega)]; omega
  rw [← h, m28, e0, chk_of (by simp [mkOk]; omega), qN0, frm, hn, qN0, arr]
  have c0 : List.replicate (2 * n) (0 : Int) = cI (List.replicate (2 * n) 0) := by simp [cI]
  rw [c0]
  refine rangeIx r.2.2.1 (0, 0, 0, ()) (fun m (o : List Nat) t => l28a 40 r w m t (cI o)) (fun t rest o => o.length = 2 * n ∧ (∀ a ∈ o, a < 65536) ∧ ∀ b ∈ rest, okB n b = true) (fun t rest o => some (r, cI (arF n w t rest o), ()))
   (fun m o t b rest ht hx hI ih => ?_) (fun m o hI => ?_) 40 (List.replicate (2 * n) 0) (by omega) ⟨by simp, fun a ha => by rw [(List.mem_replicate.1 ha).2]; decide, h4⟩
  ·obtain ⟨i1, i2, i3⟩ := hI
   have hb := i3 b (by simp)
   obtain ⟨b1, b2, b3⟩ := okB_at hb
   have i3' : ∀ b ∈ rest, okB n b = true := fun c hc => i3 c (by simp [hc])
   obtain ⟨rr, hrr⟩ : ∃ q : Nat, b.1 = q := ⟨b.1.toNat, by omega⟩
   obtain ⟨c, hc⟩ : ∃ q : Nat, b.2.1 = q := ⟨b.2.1.toNat, by omega⟩
   rw [hrr] at b1; rw [hc] at b2
   have ew : w64 (r.1 + b.2.1) = ((n + c : Nat) : Int) := by rw [hn, hc, w64_small (by omega)]; omega
   simp only [l28a, ixA ht, ixB ht, cond_true, chk_true, qN0, hx, ew, hrr, b3, ixW ht (by omega), show ((0 : Int) != 2) = true from rfl, show ((0 : Int) != 1) = true from rfl, cI_len, List.length_set, i1]
   by_cases e : (t : Int) = w
   ·rw [show ((t : Int) != w) = false by simp [e]]
    simp only [cond_false]
    have := ih o ⟨i1, i2, i3'⟩
    rw [arF, qD1 e, cond_true]
    exact this
   ·rw [show ((t : Int) != w) = true by simp [e]]
    simp only [cond_true]
    have := ih (upA n b o) ⟨by rw [upA_len]; exact i1, arr_u16 (by omega) i2 hb i1, i3'⟩
    rw [arF, qD0 e, cond_false, ← this, upA, hrr, hc, qN0, qN0]
    have g : ∀ {l : List Nat} (k : Nat), (∀ a ∈ l, a < 65536) → l.getD k 0 < 65536 := fun {l} k hl => by
     by_cases q : k < l.length
     ·exact hl _ (getD_mem q)
     ·rw [qG1, List.getElem?_eq_none (by omega)]; decide
    have s1 : ∀ a ∈ o.set rr (o.getD rr 0 ||| 2 ^ (n + c)), a < 65536 := fun a ha => by
     rcases List.mem_or_eq_of_mem_set ha with h | h
     ·exact i2 a h
     ·rw [h]; exact Nat.or_lt_two_pow (n := 16) (g rr i2) (p16 (by omega))
    rw [one_u16' (by omega), one_u16' (by omega), cI_getD, bOr_u16 (g rr i2) (p16 (by omega)), cI_set, cI_getD, bOr_u16 (g _ s1) (p16 (by omega)), cI_set]
    rw [chk_dec (by omega), chk_dec (by omega), chk_dec (by omega), chk_dec (by omega), chk_dec (by omega), chk_dec (by omega)]
  ·simp only [l28a, ixE, cond_false, arF]
 ·cases h⟩
def stf (r : Rk) (w : Int) : Bool := stfA (arr r.1.toNat w r.2.2.1)
theorem B29_frm {r : Rk} (h : okR r = true) (w : Int) : B29 (frm r w) = some (stf r w) := by
 rw [B29, if_pos (okF_frm h w), aN_frm, stf]
def B10 (r : Rk) : Option (Bool × Int) := if okR r = true then some (stf r (-1), 0) else none
theorem KB10 : FnOk Try.prog 10 (F10 B10) := ok10 B27 B28 B29 KB27 KB28 KB29 B10 fun r x h => ⟨0, by
 simp only [B10] at h
 split at h
 ·rename_i hr
  rw [← h, m10, B27, if_pos hr, qB0]
  simp only [qZ0, cond_false]
  rw [B28, if_pos hr, qB0, B29_frm hr, qB0]
 ·cases h⟩
def ndF (r : Rk) : Nat → Nat → List Int
 | _, 0 => []
 | t, k + 1 => cond (stf r (t : Int)) (ndF r (t + 1) k) ((t : Int) :: ndF r (t + 1) k)
def B11 (r : Rk) : Option (List Int × Int) := if okR r = true then some (cond (stf r (-1)) (ndF r 0 r.2.2.1.length, 0) ([], 22)) else none
theorem KB11 : FnOk Try.prog 11 (F11 B11) := ok11 B10 B28 B29 KB10 KB28 KB29 B11 fun r x h => ⟨40, by
 simp only [B11] at h
 split at h
 ·rename_i hr
  obtain ⟨h1, h2, h3, h4⟩ := okR_at hr
  rw [← h, m11, B10, if_pos hr, qB0]
  simp only [qZ0, cond_false]
  cases hs : stf r (-1) with
  | false => rfl
  | true =>
   simp only [Bool.not_true, cond_false, cond_true]
   refine (countUp 0 (r.2.2.1.length : Int) (by omega) (fun n (o : List Int) t => l11a B10 B28 B29 40 r n t o) (fun t o => o.length ≤ t.toNat) (fun t o => some (o ++ ndF r t.toNat (r.2.2.1.length - t.toNat), 0)) (fun n o t a b hI ih => ?_) (fun n o hI => ?_) 40 [] (by omega) (by simp)).trans (by simp)
   ·obtain ⟨k, rfl⟩ : ∃ q : Nat, t = q := ⟨t.toNat, by omega⟩
    have hk : k < r.2.2.1.length := by omega
    rw [qN0] at hI
    obtain ⟨m, hm⟩ : ∃ m, r.2.2.1.length - k = m + 1 := ⟨r.2.2.1.length - k - 1, by omega⟩
    have ih' : ∀ s' : List Int, s'.length ≤ k + 1 → l11a B10 B28 B29 40 r n ((k : Int) + 1) s' = some (s' ++ ndF r (k + 1) m, 0) := fun s' h' => by
     have := ih s' (by rw [show ((k : Int) + 1).toNat = k + 1 by omega]; exact h')
     rwa [show ((k : Int) + 1).toNat = k + 1 by omega, show r.2.2.1.length - (k + 1) = m by omega] at this
    simp only [l11a, ixA hk, cond_true, qN0]
    rw [B28, if_pos hr, qB0, B29_frm hr, qB0, w64_small (x := (k : Int) + 1) (by omega), chk_of (small_of (by omega) (by decide)), hm, ndF]
    cases stf r (k : Int) with
    | true => exact ih' o (by omega)
    | false =>
     have := ih' (o ++ [(k : Int)]) (by simp; omega)
     simp only [Bool.not_false, cond_true, cond_false]
     rw [this, List.append_assoc]; rfl
   ·simp only [l11a, ixE, cond_false, qN0, Nat.sub_self, ndF, List.append_nil]
 ·cases h⟩
def enT (ws : List (List Int)) (r c : Nat) : Int := (ws.getD r []).getD c 0
theorem getD_map {α β : Type} (f : α → β) (l : List α) {i : Nat} (h : i < l.length) (d : α) (e : β) : (l.map f).getD i e = f (l.getD i d) := by
 rw [getD_at (by simpa using h), getD_at h, List.getElem_map]
def Mx (n : Nat) (s : Int) (ws : List (List Int)) : Prop :=
 ws.length = n ∧ (∀ r, r < n → (ws.getD r []).length = n) ∧ (∀ r c, r < n → c < n → 0 ≤ enT ws r c) ∧ (∀ r, r < n → sm n (enT ws r) = s) ∧ ∀ c, c < n → sm n (fun r => enT ws r c) = s
theorem mem_getD {α : Type} {l : List α} {x : α} (h : x ∈ l) (d : α) : ∃ i, i < l.length ∧ l.getD i d = x := by
 obtain ⟨i, hi, rfl⟩ := List.getElem_of_mem h
 exact ⟨i, hi, getD_at hi⟩
theorem rods {n : Nat} {s : Int} {ws : List (List Int)} (h : Mx n s ws) (hn : 2 ≤ n) {bs : List Bz} (hb : ∀ b ∈ bs, okB n b = true ∧ 0 < enT ws b.1.toNat b.2.1.toNat)
  (hall : ∀ r c, r < n → c < n → 0 < enT ws r c → ∃ i, i < bs.length ∧ (bs.getD i (0, 0, 0, ())).1.toNat = r ∧ (bs.getD i (0, 0, 0, ())).2.1.toNat = c)
  (hst : stfA (arr n (-1) bs) = true) {e : Nat} (he : e < bs.length) : stfA (arr n (e : Int) bs) = true := by
 have hok : ∀ b ∈ bs, okB n b = true := fun b hm => (hb b hm).1
 have lt0 : 0 < 2 * n := by omega
 have stf_iff : ∀ w, stfA (arr n w bs) = true ↔ ∀ j, j < 2 * n → (frN (arr n w bs) 0).testBit j = true := fun w => by
  have hl : frN (arr n w bs) 0 < 2 ^ (arr n w bs).length := fr_lt (arr_ok hok) (by rw [arr_len]; exact lt0)
  rw [stfA, dtq, all_bits hl, arr_len]
 have full := (stf_iff (-1)).1 hst
 have oke := arr_ok (w := (e : Int)) hok
 rw [stf_iff]
 intro j0 hj0
 apply Classical.byContradiction
 intro hj
 obtain ⟨S, hS⟩ : ∃ S, S = frN (arr n (e : Int) bs) 0 := ⟨_, rfl⟩
 rw [← hS] at hj
 have S0 : S.testBit 0 = true := by rw [hS]; exact fr_self _ 0
 -- closed under all rods but e
 have hcl : ∀ i, i < bs.length → i ≠ e → ∀ k j, edge n (bs.getD i (0, 0, 0, ())) k j → S.testBit k = true → S.testBit j = true := fun i hi hne k j hed hk => by
  have hkl := (edge_lt (hok _ (getD_mem hi)) hed).1
  rw [hS] at hk ⊢
  exact fr_closed oke (by rw [arr_len]; exact lt0) (by rw [arr_len]; exact hkl) hk ((arr_bit hok k j).2 ⟨i, hi, by omega, hed⟩)
 have hiff : ∀ i, i < bs.length → i ≠ e → S.testBit (bs.getD i (0, 0, 0, ())).1.toNat = S.testBit (n + (bs.getD i (0, 0, 0, ())).2.1.toNat) := fun i hi hne => by
  rw [Bool.eq_iff_iff]
  exact ⟨hcl i hi hne _ _ (.inl ⟨rfl, rfl⟩), hcl i hi hne _ _ (.inr ⟨rfl, rfl⟩)⟩
 -- the rod e itself joins S and what is not in S
 obtain ⟨be, hbe⟩ : ∃ b, b = bs.getD e (0, 0, 0, ()) := ⟨_, rfl⟩
 have hbm : be ∈ bs := by rw [hbe]; exact getD_mem he
 obtain ⟨b1, b2, b3⟩ := okB_at (hok be hbm)
 obtain ⟨r0, hr0⟩ : ∃ r, r = be.1.toNat := ⟨_, rfl⟩
 obtain ⟨c0, hc0⟩ : ∃ c, c = be.2.1.toNat := ⟨_, rfl⟩
 have hpos : 0 < enT ws r0 c0 := by rw [hr0, hc0]; exact (hb be hbm).2
 have lr : r0 < n := by omega
 have lc : c0 < n := by omega
 have hdiff : S.testBit r0 ≠ S.testBit (n + c0) := fun heq => hj (by
  refine fr_min (T := fun x => S.testBit x = true) (fun k hk hT j hb' => ?_) S0 (full j0 hj0)
  obtain ⟨i, hi, hne, hed⟩ := (arr_bit hok k j).1 hb'
  by_cases q : i = e
  ·rw [q, ← hbe] at hed
   rcases hed with ⟨a, b⟩ | ⟨a, b⟩
   ·rw [← hr0] at a; rw [← hc0] at b; rw [b, ← heq, ← a]; exact hT
   ·rw [← hc0] at a; rw [← hr0] at b; rw [b, heq, ← a]; exact hT
  ·exact hcl i hi q k j hed hT)
 have hin : ∀ r c, r < n → c < n → ¬ (r = r0 ∧ c = c0) → enT ws r c ≠ 0 → S.testBit r = S.testBit (n + c) := fun r c hr hc hne hz => by
  obtain ⟨i, hi, e1, e2⟩ := hall r c hr hc (by have := h.2.2.1 r c hr hc; omega)
  have := hiff i hi fun q => hne ⟨by rw [← e1, q, ← hbe, hr0], by rw [← e2, q, ← hbe, hc0]⟩
  rwa [e1, e2] at this
 have hs : enT ws r0 c0 = s := by
  cases e1 : S.testBit r0 with
  | true =>
   have e2 : S.testBit (n + c0) = false := by
    cases q : S.testBit (n + c0) with
    | false => rfl
    | true => rw [e1, q] at hdiff; exact absurd rfl hdiff
   exact bridge h.2.2.1 h.2.2.2.1 h.2.2.2.2 (R := fun r => S.testBit r) (C := fun c => S.testBit (n + c)) lr lc e1 e2 hpos hin
  | false =>
   have e2 : S.testBit (n + c0) = true := by
    cases q : S.testBit (n + c0) with
    | true => rfl
    | false => rw [e1, q] at hdiff; exact absurd rfl hdiff
   exact bridge h.2.2.1 h.2.2.2.1 h.2.2.2.2 (R := fun r => !S.testBit r) (C := fun c => !S.testBit (n + c)) lr lc (by rw [e1]; rfl) (by rw [e2]; rfl) hpos (fun r c a b d z => by rw [hin r c a b d z])
 obtain ⟨a1, a2⟩ := alone h.2.2.1 h.2.2.2.1 h.2.2.2.2 lr lc hs
 -- row r0 and column c0 reach only each other
 have only : ∀ i, i < bs.length → ∀ k j, edge n (bs.getD i (0, 0, 0, ())) k j → ((k = r0 ∨ k = n + c0) ↔ (j = r0 ∨ j = n + c0)) := fun i hi k j hed => by
  obtain ⟨g1, g2⟩ := hb _ (getD_mem (d := (0, 0, 0, ())) hi)
  obtain ⟨d1, d2, d3⟩ := okB_at g1
  generalize hbb : bs.getD i (0, 0, 0, ()) = b at *
  have key : b.1.toNat = r0 ↔ b.2.1.toNat = c0 := by
   constructor
   ·intro q
    apply Classical.byContradiction
    intro z
    have := a1 b.2.1.toNat (by omega) z
    rw [← q] at this; omega
   ·intro q
    apply Classical.byContradiction
    intro z
    have := a2 b.1.toNat (by omega) z
    rw [← q] at this; omega
  unfold edge at hed
  omega
 by_cases q : (0 : Nat) = r0 ∨ 0 = n + c0
 ·-- from 0 only r0 and c0 are reached
  have := fr_min (ar := arr n (-1) bs) (i := 0) (T := fun x => x = r0 ∨ x = n + c0) (fun k hk hT j hb' => by
   obtain ⟨i, hi, hne, hed⟩ := (arr_bit hok k j).1 hb'
   exact (only i hi k j hed).1 hT) q (full (if r0 = 0 then 1 else 0) (by split <;> omega))
  split at this <;> omega
 ·have := fr_min (ar := arr n (-1) bs) (i := 0) (T := fun x => ¬ (x = r0 ∨ x = n + c0)) (fun k hk hT j hb' => by
   obtain ⟨i, hi, hne, hed⟩ := (arr_bit hok k j).1 hb'
   exact fun z => hT ((only i hi k j hed).2 z)) q (full r0 (by omega))
  exact this (.inl rfl)
def B28c (p0 p1 w : Int) (p3 : List Bz) : Option (Int × Int × List Bz × List Int) := if (1 ≤ p0 ∧ p0 ≤ 6) ∧ p1 = p0 ∧ p3.length ≤ 100 ∧ p3.all (okB p0) = true then some (p0, p1, p3, cI (arr p0.toNat w p3)) else none
theorem KB28c : FnOk Try.prog 28 (F28c B28c) := ok28c B28c fun p0 p1 w p3 x h => ⟨101, by
 simp only [B28c] at h
 split at h
 ·rename_i hr
  obtain ⟨h1, h2, h3, h4⟩ := hr
  obtain ⟨n, hn⟩ : ∃ q : Nat, p0 = q := ⟨p0.toNat, by omega⟩
  rw [List.all_eq_true] at h4
  rw [hn] at h1 h4
  have e0 : w64 (p0 + p1) = ((2 * n : Nat) : Int) := by rw [h2, hn, w64_small (by omega)]; omega
  rw [← h, m28c, e0, chk_of (by simp [mkOk]; omega), qN0, hn, qN0, arr]
  have c0 : List.replicate (2 * n) (0 : Int) = cI (List.replicate (2 * n) 0) := by simp [cI]
  rw [c0]
  refine rangeIx p3 (0, 0, 0, ()) (fun m (o : List Nat) t => l28ca 101 (n : Int) p1 w p3 m t (cI o)) (fun t rest o => o.length = 2 * n ∧ (∀ a ∈ o, a < 65536) ∧ ∀ b ∈ rest, okB n b = true) (fun t rest o => some ((n : Int), p1, p3, cI (arF n w t rest o)))
   (fun m o t b rest ht hx hI ih => ?_) (fun m o hI => ?_) 101 (List.replicate (2 * n) 0) (by omega) ⟨by simp, fun a ha => by rw [(List.mem_replicate.1 ha).2]; decide, h4⟩
  ·obtain ⟨i1, i2, i3⟩ := hI
   have hb := i3 b (by simp)
   obtain ⟨b1, b2, b3⟩ := okB_at hb
   have i3' : ∀ b ∈ rest, okB n b = true := fun c hc => i3 c (by simp [hc])
   obtain ⟨rr, hrr⟩ : ∃ q : Nat, b.1 = q := ⟨b.1.toNat, by omega⟩
   obtain ⟨c, hc⟩ : ∃ q : Nat, b.2.1 = q := ⟨b.2.1.toNat, by omega⟩
   rw [hrr] at b1; rw [hc] at b2
   have ew : w64 ((n : Int) + b.2.1) = ((n + c : Nat) : Int) := by rw [hc, w64_small (by omega)]; omega
   simp only [l28ca, ixA ht, ixB ht, cond_true, chk_true, qN0, hx, ew, hrr, b3, ixW ht (by omega), show ((0 : Int) != 2) = true from rfl, show ((0 : Int) != 1) = true from rfl, cI_len, List.length_set, i1]
   by_cases e : (t : Int) = w
   ·rw [show ((t : Int) != w) = false by simp [e]]
    simp only [cond_false]
    have := ih o ⟨i1, i2, i3'⟩
    rw [arF, qD1 e, cond_true]
    exact this
   ·rw [show ((t : Int) != w) = true by simp [e]]
    simp only [cond_true]
    have := ih (upA n b o) ⟨by rw [upA_len]; exact i1, arr_u16 (by omega) i2 hb i1, i3'⟩
    rw [arF, qD0 e, cond_false, ← this, upA, hrr, hc, qN0, qN0]
    have g : ∀ {l : List Nat} (k : Nat), (∀ a ∈ l, a < 65536) → l.getD k 0 < 65536 := fun {l} k hl => by
     by_cases q : k < l.length
     ·exact hl _ (getD_mem q)
     ·rw [qG1, List.getElem?_eq_none (by omega)]; decide
    have s1 : ∀ a ∈ o.set rr (o.getD rr 0 ||| 2 ^ (n + c)), a < 65536 := fun a ha => by
     rcases List.mem_or_eq_of_mem_set ha with h | h
     ·exact i2 a h
     ·rw [h]; exact Nat.or_lt_two_pow (n := 16) (g rr i2) (p16 (by omega))
    rw [one_u16' (by omega), one_u16' (by omega), cI_getD, bOr_u16 (g rr i2) (p16 (by omega)), cI_set, cI_getD, bOr_u16 (g _ s1) (p16 (by omega)), cI_set]
    rw [chk_dec (by omega), chk_dec (by omega), chk_dec (by omega), chk_dec (by omega), chk_dec (by omega), chk_dec (by omega)]
  ·simp only [l28ca, ixE, cond_false, arF]
 ·cases h⟩
def fr0 (p4 : List Int) : Fr := ((0, 0, [], ()), p4, ())
theorem aN0_len (p4 : List Int) : (aN (fr0 p4)).length = p4.length := aN_len (fr0 p4)
def B72c (p0 p1 i : Int) (p3 : List Bz) (p4 : List Int) : Option (Int × List Bz × List Int) := if okF (fr0 p4) = true ∧ (0 ≤ i ∧ i < p4.length) then some (((frN (aN (fr0 p4)) i.toNat : Nat) : Int), p3, p4) else none
theorem l72cb_ok (p0 p1 : Int) (p3 : List Bz) {p4 : List Int} (hf : okF (fr0 p4) = true) (t13 : Int) (rec : Int → Int → Option (Int × List Bz × List Int)) (s : Nat) (hs : s < 2 ^ p4.length) :
  l72cb B38 20 p0 p1 p3 p4 t13 rec 20 (s : Int) 0 = rec ((psF 0 (aN (fr0 p4)) s : Nat) : Int) (w64 (t13 + 1)) := by
 obtain ⟨h1, h2, h3⟩ := okF_at hf
 simp only [show (fr0 p4).2.1 = p4 from rfl] at h1 h2 h3
 have h16 : ∀ {x : Nat}, x < 2 ^ p4.length → x < 65536 := fun hx => lt16 hx (by omega)
 refine rangeIx (aN (fr0 p4)) 0 (fun n (s : Nat) t => l72cb B38 20 p0 p1 p3 p4 t13 rec n (s : Int) t) (fun _ r s => s < 2 ^ p4.length ∧ ∀ a ∈ r, a < 2 ^ p4.length) (fun t r s => rec ((psF t r s : Nat) : Int) (w64 (t13 + 1)))
  (fun n s t x rest ht hx hI ih => ?_) (fun n s hI => ?_) 20 s (by rw [aN0_len]; omega) ⟨hs, fun a ha => by have := h2 a ha; rwa [aN0_len] at this⟩
 ·rw [aN0_len] at ht
  obtain ⟨i1, i2⟩ := hI
  obtain ⟨e1, e2⟩ := h3 t ht
  rw [hx] at e1 e2
  have hx2 := i2 x (by simp)
  simp only [l72cb, ixA ht, ixB ht, cond_true, chk_true, qN0, ixW ht (by omega)]
  rw [B38_at (h16 i1) (by omega), qB0, e1, bOr_u16 (h16 i1) e2, psF]
  cases s.testBit t with
  | true => exact ih _ ⟨Nat.or_lt_two_pow i1 hx2, fun a ha => i2 a (by simp [ha])⟩
  | false => exact ih _ ⟨i1, fun a ha => i2 a (by simp [ha])⟩
 ·simp only [aN0_len, l72cb, ixE, cond_false, psF]
theorem KB72c : FnOk Try.prog 72 (F72c B72c) := ok72c B38 KB38 B72c fun p0 p1 i p3 p4 r h => ⟨20, by
 simp only [B72c] at h
 split at h
 ·rename_i hh
  obtain ⟨hf, hi⟩ := hh
  obtain ⟨h1, h2, h3⟩ := okF_at hf
  simp only [show (fr0 p4).2.1 = p4 from rfl] at h1 h2 h3
  obtain ⟨i, rfl⟩ : ∃ q : Nat, i = q := ⟨i.toNat, by omega⟩
  rw [← h, m72c, chk_dec (by omega), one_u16 (by omega), qN0]
  refine (rangeIx (aN (fr0 p4)) 0 (fun n (s : Nat) t => l72ca B38 20 p0 p1 p3 p4 n (s : Int) t) (fun _ _ s => s < 2 ^ p4.length) (fun t r s => some (((itr (aN (fr0 p4)) r.length s : Nat) : Int), p3, p4))
   (fun n s t x rest ht hx hI ih => ?_) (fun n s hI => ?_) 20 (2 ^ i) (by rw [aN0_len]; omega) (Nat.pow_lt_pow_right (by decide) (by omega))).trans rfl
  ·rw [aN0_len] at ht
   simp only [l72ca, ixA ht, cond_true]
   rw [l72cb_ok p0 p1 p3 hf _ _ s hI, ixW ht (by omega)]
   exact ih _ (psF_lt _ _ _ (fun a ha => by have := h2 a ha; rwa [aN0_len] at this) hI)
  ·simp only [aN0_len, l72ca, ixE, cond_false, List.length_nil, itr]
 ·cases h⟩
def B39c (p0 p1 i : Int) (p3 : List Bz) (p4 : List Int) : Option (Int × List Bz × List Int) := if (okF (fr0 p4) = true ∧ symA (aN (fr0 p4))) ∧ (0 ≤ i ∧ i < p4.length) then some (((frN (aN (fr0 p4)) i.toNat : Nat) : Int), p3, p4) else none
theorem KB39c : FnOk Try.prog 39 (F39c B39c) := ok39c B38 B72c KB38 KB72c B39c fun p0 p1 i p3 p4 r h => ⟨20, by
 simp only [B39c] at h
 split at h
 ·rename_i hh
  obtain ⟨⟨hf, hs⟩, hi⟩ := hh
  obtain ⟨h1, h2, h3⟩ := okF_at hf
  simp only [show (fr0 p4).2.1 = p4 from rfl] at h1 h2 h3
  obtain ⟨i, rfl⟩ : ∃ q : Nat, i = q := ⟨i.toNat, by omega⟩
  have hil : i < (aN (fr0 p4)).length := by rw [aN0_len]; omega
  have fl : ∀ {k : Nat}, k < p4.length → frN (aN (fr0 p4)) k < 65536 := fun {k} hk => by
   have := fr_lt h2 (i := k) (by rw [aN0_len]; exact hk)
   rw [aN0_len] at this
   exact lt16 this (by omega)
  rw [← h, m39c, B72c, if_pos ⟨hf, hi⟩, qB0, qN0]
  refine countP' 0 (p4.length : Int) (by omega) (fun n (s : Int) t => l39ca B38 B72c 20 p0 p1 (i : Int) (((frN (aN (fr0 p4)) i : Nat) : Int), p3, p4) n s t p3 p4) (fun t s => s = ((frN (aN (fr0 p4)) i % 2 ^ t.toNat : Nat) : Int)) (fun r => r = some (((frN (aN (fr0 p4)) i : Nat) : Int), p3, p4)) (fun n s t a b hI ih => ?_) (fun n s hI => ?_) 20 0 (by omega) (by simp [Nat.mod_one])
  ·subst hI
   obtain ⟨k, rfl⟩ : ∃ q : Nat, t = q := ⟨t.toNat, by omega⟩
   have hk : k < p4.length := by omega
   have e := ih _ rfl
   rw [show ((k : Int) + 1).toNat = k + 1 by omega] at e
   simp only [l39ca, ixA hk, cond_true, qN0]
   rw [B38_at (fl (by omega)) (by omega), qB0, w64_small (x := (k : Int) + 1) (by omega)]
   cases ek : (frN (aN (fr0 p4)) i).testBit k with
   | false => rw [low_same ek] at e; exact e
   | true =>
    have eb := fr_sym h2 hs hil ek
    rw [cond_true, B72c, if_pos ⟨hf, by omega⟩, qB0, qN0, B38_at (fl hk) (by omega), qB0, eb, cond_true, chk_dec (by omega), show IntKind.wrap .u16 (1 * 2 ^ min k 16) = ((2 ^ k : Nat) : Int) by have := one_u16 (c := k) (by omega); rwa [qN0] at this]
    have hm : frN (aN (fr0 p4)) i % 2 ^ k < 65536 := Nat.lt_of_lt_of_le (Nat.mod_lt _ (Nat.pow_pos (by decide))) (Nat.le_of_lt (p16 (by omega)))
    rw [bOr_u16 hm (p16 (by omega)), or_low, if_pos ek]
    exact e
  ·subst hI
   have : frN (aN (fr0 p4)) i % 2 ^ p4.length = frN (aN (fr0 p4)) i := Nat.mod_eq_of_lt (by have := fr_lt h2 hil; rwa [aN0_len] at this)
   simp only [l39ca, ixE, cond_false, qN0, this]
 ·cases h⟩
def B74 (b : Bz) : Option Bool := some (b.2.2.1 != 0)
theorem KB74 : FnOk Try.prog 74 (F74 B74) := ok74 B74 fun b r h => ⟨0, h⟩
def rodsB (l : List Bz) : Bool := l.all fun b => decide (b.2.2.1 = 0)
def B90c74 (l : List Bz) : Option Int := if l.length ≤ 100 ∧ rodsB l = true then some (-1) else none
theorem KB90c74 : FnOk Try.prog 90 (F90c74 B90c74) := ok90c74 B74 KB74 B90c74 fun l r h => ⟨101, by
 simp only [B90c74] at h
 split at h
 ·rename_i hh
  obtain ⟨h1, h2⟩ := hh
  simp only [rodsB, List.all_eq_true, dtq] at h2
  rw [← h, m90c74]
  refine rangeIx l (0, 0, 0, ()) (fun n (_ : Unit) t => l90c74a B74 101 l n t) (fun _ rest _ => ∀ b ∈ rest, b.2.2.1 = 0) (fun _ _ _ => some (-1)) (fun n z t b rest ht hx hI ih => ?_) (fun n z hI => ?_) 101 () (by omega) h2
  ·have hb := hI b (by simp)
   simp only [l90c74a, ixA ht, ixB ht, cond_true, chk_true, qN0, hx, ixW ht (by omega), B74, qB0, hb]
   exact ih () fun e he => hI e (by simp [he])
  ·simp only [l90c74a, ixE, cond_false]
 ·cases h⟩
def B73c74 (l : List Bz) : Option Bool := if l.length ≤ 100 ∧ rodsB l = true then some false else none
theorem KB73c74 : FnOk Try.prog 73 (F73c74 B73c74) := ok73c74 B90c74 KB90c74 B73c74 fun l r h => ⟨0, by
 simp only [B73c74] at h
 split at h
 ·rename_i hh; rw [← h, m73c74, B90c74, if_pos hh]; rfl
 ·cases h⟩
def B40 (r : Rk) : Option Int := if okR r = true then some 0 else none
theorem KB40 : FnOk Try.prog 40 (F40 B40) := ok40 B27 B73c74 KB27 KB73c74 B40 fun r x h => ⟨0, by
 simp only [B40] at h
 split at h
 ·rename_i hh
  obtain ⟨h1, h2, h3, h4⟩ := okR_at hh
  rw [← h, m40, B27, if_pos hh, qB0, show ((0 : Int) == 0) = true from rfl, cond_true, B73c74, if_pos ⟨by omega, by
   simp only [rodsB, List.all_eq_true, dtq]; exact fun b hb => (okB_at (h4 b hb)).2.2⟩, qB0]
  rfl
 ·cases h⟩
def B70 (s : Option (List Bz)) : Option (List Bz) := if s.isSome ∧ (s.getD []).length ≤ 1000 then some (s.getD []) else none
theorem KB70 : FnOk Try.prog 70 (F70 B70) := ok70 B70 fun s r h => ⟨0, by
 simp only [B70] at h
 split at h
 ·rename_i hh
  cases s with
  | none => simp at hh
  | some l =>
   simp only [Option.getD_some] at hh h
   rw [← h, m70]
   simp only [Option.isNone_some, cond_false, Option.getD_some]
   rw [chk_of (small_of (by omega) (by decide))]; rfl
 ·cases h⟩
def conn (n : Nat) (bs : List Bz) (b : Bz) : Bool := (frN (arr n (-1) bs) b.1.toNat).testBit (n + b.2.1.toNat)
theorem fr0_ok {n : Nat} (hn : 1 ≤ n ∧ n ≤ 6) {w : Int} {bs : List Bz} (hb : ∀ b ∈ bs, okB n b = true) : (okF (fr0 (cI (arr n w bs))) = true ∧ symA (aN (fr0 (cI (arr n w bs))))) ∧ aN (fr0 (cI (arr n w bs))) = arr n w bs := by
 have e : aN (fr0 (cI (arr n w bs))) = arr n w bs := by
  show (cI _).map Int.toNat = _
  rw [cI, List.map_map]
  exact (List.map_congr_left (g := id) fun x _ => qN0 x).trans (List.map_id _)
 refine ⟨⟨?_, by rw [e]; exact arr_sym hb⟩, e⟩
 have hl : (fr0 (cI (arr n w bs))).2.1.length = 2 * n := by show (cI _).length = _; rw [cI_len, arr_len]
 simp only [okF, bae, dtq, List.all_eq_true]
 refine ⟨by rw [hl]; omega, fun x hx => ?_⟩
 obtain ⟨a, ha, rfl⟩ := List.mem_map.1 (show x ∈ cI _ from hx)
 have := arr_ok hb a ha
 rw [arr_len] at this
 rw [hl, qN0]
 exact ⟨by omega, this⟩
def B71c (b : Bz) (p1 p2 : Int) (p3 : List Rk) (p4 p5 : List Bz) : Option (List Bz × List Bz × Int × Int × List Rk) :=
 if (1 ≤ p1 ∧ p1 ≤ 6) ∧ p2 = p1 ∧ (p3.getD 0 (0, 0, [], ())).1 = p1 ∧ (p4.length ≤ 99 ∧ p5.length ≤ 99) ∧ p4.all (okB p1) = true ∧ okB p1 b = true then
  some (cond (conn p1.toNat p4 b) (p4, p5, p1, p2, p3) (p4 ++ [b], p5 ++ [b], p1, p2, p3)) else none
theorem KB71c : FnOk Try.prog 71 (F71c B71c) := ok71c B28c B38 B39c KB28c KB38 KB39c B71c fun b p1 p2 p3 p4 p5 r h => ⟨0, by
 simp only [B71c] at h
 split at h
 ·rename_i hh
  obtain ⟨h1, h2, h3, h4, h5, h6⟩ := hh
  obtain ⟨n, hn⟩ : ∃ q : Nat, p1 = q := ⟨p1.toNat, by omega⟩
  have hb : ∀ b ∈ p4, okB n b = true := by rw [hn, List.all_eq_true] at h5; exact h5
  obtain ⟨f1, f2⟩ := fr0_ok (n := n) (by omega) (w := -1) hb
  have hb6 := h6
  rw [hn] at hb6
  obtain ⟨b1, b2, b3⟩ := okB_at hb6
  have hlt : frN (arr n (-1) p4) b.1.toNat < 65536 := by
   have := fr_lt (arr_ok (w := -1) hb) (i := b.1.toNat) (by rw [arr_len]; omega)
   rw [arr_len] at this
   exact lt16 this (by omega)
  rw [← h, m71c, B28c, if_pos ⟨h1, h2, by omega, h5⟩, qB0]
  simp only [hn, qN0]
  rw [B39c, if_pos ⟨f1, by rw [cI_len, arr_len]; omega⟩, qB0]
  simp only [f2]
  rw [h3, hn, w64_small (by omega), show (n : Int) + b.2.1 = ((n + b.2.1.toNat : Nat) : Int) by omega, B38_at hlt (by omega), qB0, conn]
  cases (frN (arr n (-1) p4) b.1.toNat).testBit (n + b.2.1.toNat) with
  | true => rfl
  | false =>
   simp only [Bool.not_false, cond_true, cond_false]
   rw [chk_of (small_of (by omega) (by decide)), chk_of (small_of (by omega) (by decide))]
 ·cases h⟩
def addF (n : Nat) : List Bz → List Bz × List Bz → List Bz × List Bz
 | [], z => z
 | b :: r, z => addF n r (cond (conn n z.1 b) z (z.1 ++ [b], z.2 ++ [b]))
def colL : Nat → Nat → List Bz
 | _, 0 => []
 | t, k + 1 => (0, (t : Int), 0, ()) :: colL (t + 1) k
def rowL : Nat → Nat → List Bz
 | _, 0 => []
 | t, k + 1 => ((t : Int), 0, 0, ()) :: rowL (t + 1) k
def misL (n : Nat) (bs : List Bz) : List Bz := (addF n (colL 0 n ++ rowL 0 n) (bs, [])).2
def B37 (r : Rk) : Option (List Bz × Int) := if okR r = true ∧ 0 < r.2.2.1.length then some (misL r.1.toNat r.2.2.1, 0) else none
theorem KB37 : FnOk Try.prog 37 (F37 B37) := ok37 B40 B70 B71c KB40 KB70 KB71c B37 fun r x h => ⟨20, by
 simp only [B37] at h
 split at h
 ·rename_i hh
  obtain ⟨hr, hpos⟩ := hh
  obtain ⟨h1, h2, h3, h4⟩ := okR_at hr
  obtain ⟨n, hn⟩ : ∃ q : Nat, r.1 = q := ⟨r.1.toNat, by omega⟩
  rw [hn] at h1 h2 h4
  rw [← h, m37, B40, if_pos hr, qB0, qZ0, cond_false, chk_of (by simp [hpos]), B70, if_pos ⟨rfl, by simp; omega⟩, qB0, Option.getD_some, misL, hn, h2, qN0]
  -- one rod
  have one : ∀ {b : Bz} {z : List Bz × List Bz}, okB n b = true → (∀ b ∈ z.1, okB n b = true) → z.1.length ≤ 99 → z.2.length ≤ 99 → B71c b n n [r] z.1 z.2 = some ((cond (conn n z.1 b) z (z.1 ++ [b], z.2 ++ [b])).1, (cond (conn n z.1 b) z (z.1 ++ [b], z.2 ++ [b])).2, (n : Int), (n : Int), [r]) := fun {b z} hb hz l1 l2 => by
   rw [B71c, if_pos ⟨h1, rfl, hn, ⟨l1, l2⟩, List.all_eq_true.2 hz, hb⟩, qN0]
   cases conn n z.1 b <;> rfl
  have inv : ∀ {b : Bz} {z : List Bz × List Bz}, okB n b = true → (∀ b ∈ z.1, okB n b = true) → (∀ b' ∈ (cond (conn n z.1 b) z (z.1 ++ [b], z.2 ++ [b])).1, okB n b' = true) ∧ (cond (conn n z.1 b) z (z.1 ++ [b], z.2 ++ [b])).1.length ≤ z.1.length + 1 ∧ (cond (conn n z.1 b) z (z.1 ++ [b], z.2 ++ [b])).2.length ≤ z.2.length + 1 := fun {b z} hb hz => by
   cases conn n z.1 b with
   | true => exact ⟨hz, by simp, by simp⟩
   | false => exact ⟨fun b' hb' => by
     rcases List.mem_append.1 hb' with q | q
     ·exact hz b' q
     ·rw [List.mem_singleton.1 q]; exact hb, by simp, by simp⟩
  refine countP' 0 (n : Int) (by omega) (fun m (z : List Bz × List Bz) t => l37a B40 B70 B71c 20 r m t z.1 z.2 [r] n n)
   (fun t z => addF n (colL 0 n ++ rowL 0 n) (r.2.2.1, []) = addF n (colL t.toNat (n - t.toNat) ++ rowL 0 n) z ∧ (∀ b ∈ z.1, okB n b = true) ∧ z.1.length ≤ 24 + t.toNat ∧ z.2.length ≤ t.toNat)
   (fun x => x = some ((addF n (colL 0 n ++ rowL 0 n) (r.2.2.1, [])).2, 0)) (fun m z t a b hI ih => ?_) (fun m z hI => ?_) 20 (r.2.2.1, []) (by omega) ⟨rfl, h4, by simpa using h3, by simp⟩
  ·obtain ⟨k, rfl⟩ : ∃ q : Nat, t = q := ⟨t.toNat, by omega⟩
   have hk : k < n := by omega
   obtain ⟨i1, i2, i3, i4⟩ := hI
   rw [qN0] at i1 i3 i4
   obtain ⟨j, hj⟩ : ∃ j, n - k = j + 1 := ⟨n - k - 1, by omega⟩
   have hb : okB n (0, (k : Int), 0, ()) = true := by simp [okB]; omega
   obtain ⟨v1, v2, v3⟩ := inv hb i2
   have e := ih _ ⟨by rw [i1, hj, show ((k : Int) + 1).toNat = k + 1 by omega, show n - (k + 1) = j by omega]; rfl, v1, by omega, by omega⟩
   simp only [l37a, h2]
   rw [qD1 (show (k : Int) < n by omega), cond_true, one hb i2 (by omega) (by omega), qB0, w64_small (x := (k : Int) + 1) (by omega)]
   exact e
  ·obtain ⟨i1, i2, i3, i4⟩ := hI
   rw [qN0] at i1 i3 i4
   rw [Nat.sub_self] at i1
   simp only [l37a, h2]
   rw [qD0 (show ¬ (n : Int) < n by omega), cond_false]
   refine countP' 0 (n : Int) (by omega) (fun m (z : List Bz × List Bz) t => l37b B40 B70 B71c 20 [r] m t z.1 z.2 n n [r])
    (fun t z => addF n (colL 0 n ++ rowL 0 n) (r.2.2.1, []) = addF n (rowL t.toNat (n - t.toNat)) z ∧ (∀ b ∈ z.1, okB n b = true) ∧ z.1.length ≤ 24 + n + t.toNat ∧ z.2.length ≤ n + t.toNat)
    (fun x => x = some ((addF n (colL 0 n ++ rowL 0 n) (r.2.2.1, [])).2, 0)) (fun m z t a b hI ih => ?_) (fun m z hI => ?_) 20 z (by omega) ⟨i1, i2, by simpa using i3, by simpa using i4⟩
   ·obtain ⟨k, rfl⟩ : ∃ q : Nat, t = q := ⟨t.toNat, by omega⟩
    have hk : k < n := by omega
    obtain ⟨i1, i2, i3, i4⟩ := hI
    rw [qN0] at i1 i3 i4
    obtain ⟨j, hj⟩ : ∃ j, n - k = j + 1 := ⟨n - k - 1, by omega⟩
    have hb : okB n ((k : Int), 0, 0, ()) = true := by simp [okB]; omega
    obtain ⟨v1, v2, v3⟩ := inv hb i2
    have e := ih _ ⟨by rw [i1, hj, show ((k : Int) + 1).toNat = k + 1 by omega, show n - (k + 1) = j by omega]; rfl, v1, by omega, by omega⟩
    simp only [l37b, List.getD_cons_zero, hn]
    rw [qD1 (show (k : Int) < n by omega), cond_true, one hb i2 (by omega) (by omega), qB0, w64_small (x := (k : Int) + 1) (by omega)]
    exact e
   ·obtain ⟨i1, i2, i3, i4⟩ := hI
    rw [qN0, Nat.sub_self] at i1
    simp only [l37b, List.getD_cons_zero, hn]
    rw [qD0 (show ¬ (n : Int) < n by omega), cond_false, i1]
    rfl
 ·cases h⟩
def B14 (r : Rk) : Option (Int × Int) := if okR r = true ∧ 0 < r.2.2.1.length then some (((misL r.1.toNat r.2.2.1).length : Int), 0) else none
theorem KB14 : FnOk Try.prog 14 (F14 B14) := ok14 B37 KB37 B14 fun r x h => ⟨0, by
 simp only [B14] at h
 split at h
 ·rename_i hh; rw [← h, m14, B37, if_pos hh, qB0]
 ·cases h⟩
theorem mem_getD' {α : Type} {l : List α} {x d : α} (h : x ∈ l) : ∃ i, i < l.length ∧ l.getD i d = x := by
 obtain ⟨i, hi, rfl⟩ := List.getElem_of_mem h
 exact ⟨i, hi, getD_at hi⟩
def rch (n : Nat) (bs : List Bz) (i k : Nat) : Bool := (frN (arr n (-1) bs) i).testBit k
abbrev okBs (n : Nat) (bs : List Bz) : Prop := ∀ b ∈ bs, okB n b = true
section
variable {n : Nat} {bs : List Bz}
theorem rch_self (i : Nat) : rch n bs i i = true := fr_self _ i
theorem rch_in (hb : okBs n bs) {i k : Nat} (hi : i < 2 * n) (h : rch n bs i k = true) : k < 2 * n := by
 have := fr_in (arr_ok (w := -1) hb) (i := i) (j := k) (by rw [arr_len]; exact hi) h
 rwa [arr_len] at this
theorem rch_sym (hb : okBs n bs) {i k : Nat} (hi : i < 2 * n) (h : rch n bs i k = true) : rch n bs k i = true :=
 fr_sym (arr_ok (w := -1) hb) (arr_sym hb) (by rw [arr_len]; exact hi) h
theorem rch_trans (hb : okBs n bs) {i j k : Nat} (hi : i < 2 * n) (h : rch n bs i j = true) (g : rch n bs j k = true) : rch n bs i k = true :=
 fr_trans (arr_ok (w := -1) hb) (by rw [arr_len]; exact hi) h g
theorem rch_min (hb : okBs n bs) {T : Nat → Prop} (hT : ∀ b ∈ bs, ∀ k j, edge n b k j → T k → T j) {i k : Nat} (hi : T i) (h : rch n bs i k = true) : T k :=
 fr_min (fun x _ hx j hj => by
  obtain ⟨q, h1, _, h3⟩ := (arr_bit hb x j).1 hj
  exact hT _ (getD_mem h1) x j h3 hx) hi h
theorem rch_edge (hb : okBs n bs) {b : Bz} (hm : b ∈ bs) {k j : Nat} (h : edge n b k j) : rch n bs k j = true := by
 obtain ⟨i, hi, e⟩ := mem_getD' hm
 have hk := (edge_lt (hb b hm) h).1
 exact fr_closed (arr_ok (w := -1) hb) (by rw [arr_len]; exact hk) (by rw [arr_len]; exact hk) (fr_self _ k) ((arr_bit hb k j).2 ⟨i, hi, by omega, by rw [e]; exact h⟩)
theorem rch_closed (hb : okBs n bs) {b : Bz} (hm : b ∈ bs) {i k j : Nat} (hi : i < 2 * n) (h : edge n b k j) (hk : rch n bs i k = true) : rch n bs i j = true :=
 rch_trans hb hi hk (rch_edge hb hm h)
end
def rep (n : Nat) (bs : List Bz) (k : Nat) : Bool := (List.range k).all fun j => !rch n bs j k
theorem rep_iff {n : Nat} {bs : List Bz} {k : Nat} : rep n bs k = true ↔ ∀ j, j < k → rch n bs j k = false := by
 simp [rep]
def cmp (n : Nat) (bs : List Bz) : Nat := (List.range (2 * n)).countP (rep n bs)
theorem least {p : Nat → Prop} : ∀ (k : Nat), p k → ∃ m, m ≤ k ∧ p m ∧ ∀ j, j < m → ¬ p j := by
 intro k
 induction k using Nat.strongRecOn with
 | ind k ih =>
  intro h
  by_cases q : ∃ j, j < k ∧ p j
  ·obtain ⟨j, hj, hp⟩ := q
   obtain ⟨m, a, b, c⟩ := ih j hj hp
   exact ⟨m, by omega, b, c⟩
  ·exact ⟨k, Nat.le_refl _, h, fun j hj hp => q ⟨j, hj, hp⟩⟩
theorem count_less {p q : Nat → Bool} {m : Nat} (hpm : p m = true) (h : ∀ k, q k = true ↔ p k = true ∧ k ≠ m) : ∀ n, m < n → (List.range n).countP q + 1 = (List.range n).countP p
 | 0, hm => by omega
 | n + 1, hm => by
  rw [List.range_succ, List.countP_append, List.countP_append, List.countP_singleton, List.countP_singleton]
  by_cases e : m = n
  ·subst e
   have h1 : q m = false := by
    cases x : q m with
    | false => rfl
    | true => exact absurd rfl ((h m).1 x).2
   have h2 : (List.range m).countP q = (List.range m).countP p := List.countP_congr fun k hk => by
    rw [List.mem_range] at hk
    rw [h k]
    exact ⟨fun x => x.1, fun x => ⟨x, by omega⟩⟩
   rw [h1, hpm, h2]; simp
  ·have ih := count_less hpm h n (by omega)
   have h1 : q n = p n := by
    rw [Bool.eq_iff_iff, h n]
    exact ⟨fun x => x.1, fun x => ⟨x, Ne.symm e⟩⟩
   rw [h1]; omega
theorem rch_add {n : Nat} {bs : List Bz} (hb : okBs n bs) {b : Bz} (hb1 : okB n b = true) {x y : Nat} (hx : x < 2 * n) : rch n (bs ++ [b]) x y = true ↔
  rch n bs x y = true ∨ (rch n bs x b.1.toNat = true ∧ rch n bs (n + b.2.1.toNat) y = true) ∨ (rch n bs x (n + b.2.1.toNat) = true ∧ rch n bs b.1.toNat y = true) := by
 have hb2 : okBs n (bs ++ [b]) := fun c hc => by
  rcases List.mem_append.1 hc with q | q
  ·exact hb c q
  ·rw [List.mem_singleton.1 q]; exact hb1
 have hab := edge_lt hb1 (n := n) (b := b) (.inl ⟨rfl, rfl⟩)
 have up : ∀ {i k : Nat}, i < 2 * n → rch n bs i k = true → rch n (bs ++ [b]) i k = true := fun {i k} hi h =>
  rch_min hb (T := fun z => rch n (bs ++ [b]) i z = true) (fun c hc k j he hk => rch_closed hb2 (by simp [hc]) hi he hk) (rch_self i) h
 have hedge : rch n (bs ++ [b]) b.1.toNat (n + b.2.1.toNat) = true := rch_edge hb2 (by simp) (.inl ⟨rfl, rfl⟩)
 have hedge2 : rch n (bs ++ [b]) (n + b.2.1.toNat) b.1.toNat = true := rch_edge hb2 (by simp) (.inr ⟨rfl, rfl⟩)
 constructor
 ·intro h
  refine rch_min hb2 (T := fun z => rch n bs x z = true ∨ (rch n bs x b.1.toNat = true ∧ rch n bs (n + b.2.1.toNat) z = true) ∨ (rch n bs x (n + b.2.1.toNat) = true ∧ rch n bs b.1.toNat z = true)) (fun c hc k j he hk => ?_) (.inl (rch_self x)) h
  rcases List.mem_append.1 hc with q | q
  ·rcases hk with hk | ⟨h1, hk⟩ | ⟨h1, hk⟩
   ·exact .inl (rch_closed hb q hx he hk)
   ·exact .inr (.inl ⟨h1, rch_closed hb q hab.2 he hk⟩)
   ·exact .inr (.inr ⟨h1, rch_closed hb q hab.1 he hk⟩)
  ·rw [List.mem_singleton.1 q] at he
   rcases he with ⟨rfl, rfl⟩ | ⟨rfl, rfl⟩
   ·rcases hk with hk | ⟨h1, hk⟩ | ⟨h1, hk⟩
    ·exact .inr (.inl ⟨hk, rch_self _⟩)
    ·exact .inr (.inl ⟨h1, rch_self _⟩)
    ·exact .inl h1
   ·rcases hk with hk | ⟨h1, hk⟩ | ⟨h1, hk⟩
    ·exact .inr (.inr ⟨hk, rch_self _⟩)
    ·exact .inl h1
    ·exact .inr (.inr ⟨h1, rch_self _⟩)
 ·rintro (h | ⟨h1, h2⟩ | ⟨h1, h2⟩)
  ·exact up hx h
  ·exact rch_trans hb2 hx (rch_trans hb2 hx (up hx h1) hedge) (up hab.2 h2)
  ·exact rch_trans hb2 hx (rch_trans hb2 hx (up hx h1) hedge2) (up hab.1 h2)
theorem cmp_add {n : Nat} {bs : List Bz} (hb : okBs n bs) {b : Bz} (hb1 : okB n b = true) (hc : conn n bs b = false) : cmp n (bs ++ [b]) + 1 = cmp n bs := by
 have hab := edge_lt hb1 (n := n) (b := b) (.inl ⟨rfl, rfl⟩)
 have hadd := fun (x y : Nat) (hx : x < 2 * n) => rch_add (y := y) hb hb1 hx
 have hne : rch n bs b.1.toNat (n + b.2.1.toNat) = false := hc
 revert hadd hne hab
 generalize b.1.toNat = r
 generalize n + b.2.1.toNat = d
 intro hab hadd hne
 obtain ⟨ma, a1, a2, a3⟩ := least (p := fun k => rch n bs r k = true) r (rch_self r)
 obtain ⟨md, d1, d2, d3⟩ := least (p := fun k => rch n bs d k = true) d (rch_self d)
 have hma : ma < 2 * n := rch_in hb hab.1 a2
 have hmd : md < 2 * n := rch_in hb hab.2 d2
 have hmm : ma ≠ md := fun e => by
  rw [← e] at d2
  have := rch_trans hb hab.1 a2 (rch_sym hb hab.2 d2)
  rw [hne] at this; cases this
 have repa : rep n bs ma = true := rep_iff.2 fun j hj => by
  cases e : rch n bs j ma with
  | false => rfl
  | true => exact absurd (rch_trans hb hab.1 a2 (rch_sym hb (by omega) e)) (a3 j hj)
 have repd : rep n bs md = true := rep_iff.2 fun j hj => by
  cases e : rch n bs j md with
  | false => rfl
  | true => exact absurd (rch_trans hb hab.2 d2 (rch_sym hb (by omega) e)) (d3 j hj)
 -- the first of a piece, if it is r's or d's
 have isa : ∀ k, k < 2 * n → rep n bs k = true → rch n bs r k = true → k = ma := fun k hk hr h => by
  have h1 : ¬ k < ma := fun q => a3 k q h
  have h2 : ¬ ma < k := fun q => by
   have := rep_iff.1 hr ma q
   rw [rch_trans hb hma (rch_sym hb hab.1 a2) h] at this; cases this
  omega
 have isd : ∀ k, k < 2 * n → rep n bs k = true → rch n bs d k = true → k = md := fun k hk hr h => by
  have h1 : ¬ k < md := fun q => d3 k q h
  have h2 : ¬ md < k := fun q => by
   have := rep_iff.1 hr md q
   rw [rch_trans hb hmd (rch_sym hb hab.2 d2) h] at this; cases this
  omega
 have sub : ∀ {k : Nat}, k < 2 * n → rep n (bs ++ [b]) k = true → rep n bs k = true := fun {k} hk h => rep_iff.2 fun j hj => by
  cases e : rch n bs j k with
  | false => rfl
  | true => have := rep_iff.1 h j hj; rw [(hadd j k (by omega)).2 (.inl e)] at this; cases this
 have key : ∀ k, k < 2 * n → (rep n (bs ++ [b]) k = true ↔ rep n bs k = true ∧ k ≠ max ma md) := fun k hk => by
  constructor
  ·intro h
   refine ⟨sub hk h, fun e => ?_⟩
   by_cases q : ma < md
   ·have ek : k = md := by omega
    have := rep_iff.1 h ma (by omega)
    rw [(hadd ma k hma).2 (.inr (.inl ⟨rch_sym hb hab.1 a2, by rw [ek]; exact d2⟩))] at this; cases this
   ·have ek : k = ma := by omega
    have := rep_iff.1 h md (by omega)
    rw [(hadd md k hmd).2 (.inr (.inr ⟨rch_sym hb hab.2 d2, by rw [ek]; exact a2⟩))] at this; cases this
  ·rintro ⟨h, hM⟩
   refine rep_iff.2 fun j hj => ?_
   cases e : rch n (bs ++ [b]) j k with
   | false => rfl
   | true =>
    rcases (hadd j k (by omega)).1 e with g | ⟨g1, g2⟩ | ⟨g1, g2⟩
    ·have := rep_iff.1 h j hj; rw [g] at this; cases this
    ·have ek := isd k hk h g2
     have : ¬ j < ma := fun q => a3 j q (rch_sym hb (by omega) g1)
     omega
    ·have ek := isa k hk h g2
     have : ¬ j < md := fun q => d3 j q (rch_sym hb (by omega) g1)
     omega
 have hM : max ma md < 2 * n := by omega
 have hrM : rep n bs (max ma md) = true := by
  by_cases q : ma < md
  ·rw [show max ma md = md by omega]; exact repd
  ·rw [show max ma md = ma by omega]; exact repa
 have e : (List.range (2 * n)).countP (rep n (bs ++ [b])) = (List.range (2 * n)).countP fun k => rep n bs k && decide (k ≠ max ma md) := List.countP_congr fun k hk => by
  rw [key k (List.mem_range.1 hk)]; simp
 rw [cmp, cmp, e]
 exact count_less hrM (fun k => by simp) _ hM
theorem addF_ok {n : Nat} : ∀ (l : List Bz) (z : List Bz × List Bz), okBs n l → okBs n z.1 → okBs n (addF n l z).1 ∧ (addF n l z).2.length + cmp n (addF n l z).1 = z.2.length + cmp n z.1 ∧
  (∀ x y, x < 2 * n → rch n z.1 x y = true → rch n (addF n l z).1 x y = true) ∧ ∀ b ∈ l, conn n (addF n l z).1 b = true
 | [], z, _, hz => ⟨hz, rfl, fun _ _ _ h => h, by simp⟩
 | b :: r, z, hl, hz => by
  have hb1 := hl b (by simp)
  have hab := edge_lt hb1 (n := n) (b := b) (.inl ⟨rfl, rfl⟩)
  rw [addF]
  cases hc : conn n z.1 b with
  | true =>
   obtain ⟨i1, i2, i3, i4⟩ := addF_ok r z (fun c h => hl c (by simp [h])) hz
   rw [cond_true]
   refine ⟨i1, i2, i3, fun c h => ?_⟩
   rcases List.mem_cons.1 h with q | q
   ·rw [q]; exact i3 _ _ hab.1 hc
   ·exact i4 c q
  | false =>
   have hz2 : okBs n (z.1 ++ [b]) := fun c h => by
    rcases List.mem_append.1 h with q | q
    ·exact hz c q
    ·rw [List.mem_singleton.1 q]; exact hb1
   obtain ⟨i1, i2, i3, i4⟩ := addF_ok r (z.1 ++ [b], z.2 ++ [b]) (fun c h => hl c (by simp [h])) hz2
   have hca := cmp_add hz hb1 hc
   simp only [qL1, List.length_singleton] at i2
   rw [cond_false]
   refine ⟨i1, by omega, fun x y hx h => i3 x y hx ((rch_add hz hb1 hx).2 (.inl h)), fun c h => ?_⟩
   rcases List.mem_cons.1 h with q | q
   ·rw [q]; exact i3 _ _ hab.1 ((rch_add hz hb1 hab.1).2 (.inr (.inl ⟨rch_self _, rch_self _⟩)))
   ·exact i4 c q
theorem colL_mem : ∀ {k t : Nat} {b : Bz}, b ∈ colL t k ↔ ∃ c, t ≤ c ∧ c < t + k ∧ b = (0, (c : Int), 0, ())
 | 0, t, b => by simp [colL]; omega
 | k + 1, t, b => by
  rw [colL, List.mem_cons, colL_mem (k := k)]
  constructor
  ·rintro (h | ⟨c, h1, h2, h3⟩)
   ·exact ⟨t, by omega, by omega, h⟩
   ·exact ⟨c, by omega, by omega, h3⟩
  ·rintro ⟨c, h1, h2, h3⟩
   by_cases e : c = t
   ·exact .inl (by rw [h3, e])
   ·exact .inr ⟨c, by omega, by omega, h3⟩
theorem rowL_mem : ∀ {k t : Nat} {b : Bz}, b ∈ rowL t k ↔ ∃ c, t ≤ c ∧ c < t + k ∧ b = ((c : Int), 0, 0, ())
 | 0, t, b => by simp [rowL]; omega
 | k + 1, t, b => by
  rw [rowL, List.mem_cons, rowL_mem (k := k)]
  constructor
  ·rintro (h | ⟨c, h1, h2, h3⟩)
   ·exact ⟨t, by omega, by omega, h⟩
   ·exact ⟨c, by omega, by omega, h3⟩
  ·rintro ⟨c, h1, h2, h3⟩
   by_cases e : c = t
   ·exact .inl (by rw [h3, e])
   ·exact .inr ⟨c, by omega, by omega, h3⟩
theorem cmp_one {n : Nat} {bs : List Bz} (hn : 1 ≤ n) (h : ∀ k, k < 2 * n → rch n bs 0 k = true) : cmp n bs = 1 := by
 have h0 : rep n bs 0 = true := by simp [rep]
 have e : (List.range (2 * n)).countP (rep n bs) = (List.range (2 * n)).countP fun k => decide (k = 0) := List.countP_congr fun k hk => by
  rw [List.mem_range] at hk
  rw [dtq]
  constructor
  ·intro hr
   apply Classical.byContradiction
   intro q
   have := rep_iff.1 hr 0 (by omega)
   rw [h k hk] at this; cases this
  ·intro q; rw [q]; exact h0
 have := count_less (p := fun k => decide (k = 0)) (q := fun _ => false) (m := 0) rfl (fun k => by simp) (2 * n) (by omega)
 simp only [List.countP_false] at this
 rw [cmp, e]; simpa using this.symm
theorem cmp_all {n : Nat} {bs : List Bz} (hb : okBs n bs) (hn : 1 ≤ n) (h : cmp n bs = 1) {k : Nat} (hk : k < 2 * n) : rch n bs 0 k = true := by
 obtain ⟨m, h1, h2, h3⟩ := least (p := fun j => rch n bs k j = true) k (rch_self k)
 have hm : rep n bs m = true := rep_iff.2 fun j hj => by
  cases e : rch n bs j m with
  | false => rfl
  | true => exact absurd (rch_trans hb hk h2 (rch_sym hb (by omega) e)) (h3 j hj)
 by_cases q : m = 0
 ·rw [q] at h2; exact rch_sym hb hk h2
 ·-- two pieces at least
  have h0 : rep n bs 0 = true := by simp [rep]
  have e1 := count_less (p := rep n bs) (q := fun j => rep n bs j && decide (j ≠ 0)) (m := 0) h0 (fun j => by simp) (2 * n) (by omega)
  have e2 : 0 < (List.range (2 * n)).countP fun j => rep n bs j && decide (j ≠ 0) := List.countP_pos_iff.2 ⟨m, List.mem_range.2 (by omega), by simp [hm, q]⟩
  unfold cmp at h; omega
theorem misL_len {n : Nat} {bs : List Bz} (hn : 1 ≤ n) (hb : okBs n bs) : (misL n bs).length + 1 = cmp n bs := by
 have hl : okBs n (colL 0 n ++ rowL 0 n) := fun b h => by
  rcases List.mem_append.1 h with q | q
  ·obtain ⟨c, h1, h2, rfl⟩ := colL_mem.1 q; simp [okB]; omega
  ·obtain ⟨c, h1, h2, rfl⟩ := rowL_mem.1 q; simp [okB]; omega
 obtain ⟨i1, i2, i3, i4⟩ := addF_ok (colL 0 n ++ rowL 0 n) (bs, []) hl hb
 have hcol : ∀ c, c < n → rch n (addF n (colL 0 n ++ rowL 0 n) (bs, [])).1 0 (n + c) = true := fun c hc => by
  have := i4 (0, (c : Int), 0, ()) (List.mem_append.2 (.inl (colL_mem.2 ⟨c, by omega, by omega, rfl⟩)))
  simpa [conn, rch] using this
 have hrow : ∀ r, r < n → rch n (addF n (colL 0 n ++ rowL 0 n) (bs, [])).1 0 r = true := fun r hr => by
  have := i4 ((r : Int), 0, 0, ()) (List.mem_append.2 (.inr (rowL_mem.2 ⟨r, by omega, by omega, rfl⟩)))
  have h2 : rch n (addF n (colL 0 n ++ rowL 0 n) (bs, [])).1 r n = true := by simpa [conn, rch] using this
  have h3 := hcol 0 (by omega)
  rw [Nat.add_zero] at h3
  exact rch_trans i1 (by omega) h3 (rch_sym i1 (by omega) h2)
 have h1 := cmp_one hn fun k hk => by
  by_cases q : k < n
  ·exact hrow k q
  ·have := hcol (k - n) (by omega)
   rwa [show n + (k - n) = k by omega] at this
 rw [h1] at i2
 simp only [List.length_nil] at i2
 unfold misL; omega
noncomputable def B15 (r : Rk) : Option (List (List Int × List Int × Unit) × Int) := m15 B27 B28 B38 B39 40 r
theorem KB15 : FnOk Try.prog 15 (F15 B15) := ok15 B27 B28 B38 B39 KB27 KB28 KB38 KB39 B15 fun r x h => ⟨40, h⟩
theorem l15b_ok {n : Nat} {bs : List Bz} (hn : 1 ≤ n ∧ n ≤ 6) (f2 : Fr) (h2 : f2.2.1.length = 2 * n) (h1 : f2.1.1 = n) {S : Nat} (hS : S < 65536) (done i : Int) (out : List (List Int × List Int × Unit)) (hl : out.length ≤ 100) {P : Option (List (List Int × List Int × Unit) × Int) → Prop}
  (rec : Int → Int → List (List Int × List Int × Unit) → Option (List (List Int × List Int × Unit) × Int)) (hrec : ∀ g, P (rec (bOr .u16 done (S : Int)) (w64 (i + 1)) (out ++ [g]))) :
  P (l15b B27 B28 B38 B39 40 f2 done i out (S : Int) rec 40 0 [] []) := by
 refine countP' 0 ((2 * n : Nat) : Int) (by omega) (fun m (z : List Int × List Int) t => l15b B27 B28 B38 B39 40 f2 done i out (S : Int) rec m t z.1 z.2) (fun t z => z.1.length ≤ t.toNat ∧ z.2.length ≤ t.toNat) P (fun m z t a b hI ih => ?_) (fun m z hI => ?_) 40 ([], []) (by omega) ⟨by simp, by simp⟩
 ·obtain ⟨k, rfl⟩ : ∃ q : Nat, t = q := ⟨t.toNat, by omega⟩
  have hk : k < 2 * n := by omega
  obtain ⟨i1, i2⟩ := hI
  rw [qN0] at i1 i2
  simp only [l15b, h2, ixA hk, cond_true, h1]
  rw [B38_at hS (by omega), qB0, w64_small (x := (k : Int) + 1) (by omega)]
  cases S.testBit k with
  | false => exact ih z ⟨by omega, by omega⟩
  | true =>
   by_cases q : (k : Int) < n
   ·rw [qD1 q]
    simp only [Bool.not_true, cond_false, cond_true]
    rw [chk_of (small_of (by omega) (by decide))]
    exact ih (z.1 ++ [(k : Int)], z.2) ⟨by simp; omega, by simp; omega⟩
   ·rw [qD0 q]
    simp only [Bool.not_true, cond_false]
    rw [chk_of (small_of (by omega) (by decide))]
    exact ih (z.1, z.2 ++ [w64 ((k : Int) - n)]) ⟨by simp; omega, by simp; omega⟩
 ·simp only [l15b, h2, ixE, cond_false]
  rw [chk_of (small_of (by omega) (by decide))]
  exact hrec _
theorem B15_ok {r : Rk} (hr : okR r = true) : ∃ out, B15 r = some (out, 0) ∧ out.length = cmp r.1.toNat r.2.2.1 := by
 obtain ⟨h1, h2, h3, h4⟩ := okR_at hr
 obtain ⟨n, hn⟩ : ∃ q : Nat, r.1 = q := ⟨r.1.toNat, by omega⟩
 have hn6 : 1 ≤ n ∧ n ≤ 6 := by omega
 have hb : okBs n r.2.2.1 := by rw [hn] at h4; exact h4
 have hlen : (frm r (-1)).2.1.length = 2 * n := by rw [frm, cI_len, arr_len, hn, qN0]
 have har : aN (frm r (-1)) = arr n (-1) r.2.2.1 := by rw [aN_frm, hn, qN0]
 have bd : ∀ {i : Nat}, i < 2 * n → frN (arr n (-1) r.2.2.1) i < 2 ^ (2 * n) := fun {i} hi => by
  have := fr_lt (arr_ok (w := -1) hb) (i := i) (by rw [arr_len]; exact hi)
  rwa [arr_len] at this
 rw [B15, m15, B27, if_pos hr, qB0, qZ0, cond_false, B28, if_pos hr, qB0, hn, qN0]
 refine countP' 0 ((2 * n : Nat) : Int) (by omega) (fun m (z : Nat × List (List Int × List Int × Unit)) t => l15a B27 B28 B38 B39 40 (frm r (-1)) m (z.1 : Int) t z.2)
  (fun t z => z.1 < 2 ^ (2 * n) ∧ (∀ x, z.1.testBit x = true ↔ ∃ j, j < t.toNat ∧ rch n r.2.2.1 j x = true) ∧ z.2.length = (List.range t.toNat).countP (rep n r.2.2.1)) (fun x => ∃ out, x = some (out, 0) ∧ out.length = cmp n r.2.2.1) (fun m z t a b hI ih => ?_) (fun m z hI => ?_) 40 (0, []) (by omega) ⟨Nat.pow_pos (by decide), fun x => by simp, by simp⟩
 ·obtain ⟨k, rfl⟩ : ∃ q : Nat, t = q := ⟨t.toNat, by omega⟩
  have hk : k < 2 * n := by omega
  obtain ⟨i1, i2, i3⟩ := hI
  rw [qN0] at i2 i3
  rw [show ((k : Int) + 1).toNat = k + 1 by omega] at ih
  have hrange : (List.range (k + 1)).countP (rep n r.2.2.1) = (List.range k).countP (rep n r.2.2.1) + if rep n r.2.2.1 k = true then 1 else 0 := by
   rw [List.range_succ, List.countP_append, List.countP_singleton]
  have hrep : rep n r.2.2.1 k = true ↔ z.1.testBit k = false := by
   rw [rep_iff]
   constructor
   ·intro h
    cases e : z.1.testBit k with
    | false => rfl
    | true =>
     obtain ⟨j, hj, hj2⟩ := (i2 k).1 e
     rw [h j hj] at hj2; cases hj2
   ·intro h j hj
    cases e : rch n r.2.2.1 j k with
    | false => rfl
    | true => rw [(i2 k).2 ⟨j, hj, e⟩] at h; cases h
  simp only [l15a, hlen, ixA hk, cond_true]
  rw [B38_at (lt16 i1 (by omega)) (by omega), qB0, w64_small (x := (k : Int) + 1) (by omega)]
  cases e : z.1.testBit k with
  | true =>
   rw [cond_true]
   refine ih z ⟨i1, fun x => ?_, ?_⟩
   ·rw [i2 x]
    constructor
    ·rintro ⟨j, h1, h2⟩; exact ⟨j, by omega, h2⟩
    ·rintro ⟨j, h1, h2⟩
     by_cases q : j = k
     ·obtain ⟨j0, g1, g2⟩ := (i2 k).1 e
      exact ⟨j0, g1, rch_trans hb (by omega) g2 (by rw [← q]; exact h2)⟩
     ·exact ⟨j, by omega, h2⟩
   ·rw [hrange, if_neg (by rw [hrep, e]; simp), i3, Nat.add_zero]
  | false =>
   rw [cond_false, B39, if_pos ⟨(okF_frm hr (-1)).1, by rw [hlen]; omega⟩, qB0, har, qN0]
   have hl100 : z.2.length ≤ 100 := by
    rw [i3]; have := List.countP_le_length (p := rep n r.2.2.1) (l := List.range k); simp at this; omega
   refine l15b_ok (P := fun x => ∃ out, x = some (out, 0) ∧ out.length = cmp n r.2.2.1) (bs := r.2.2.1) hn6 _ hlen (by show r.1 = n; exact hn) (lt16 (bd hk) (by omega)) _ _ _ hl100 _ fun g => ?_
   rw [bOr_u16 (lt16 i1 (by omega)) (lt16 (bd hk) (by omega)), w64_small (x := (k : Int) + 1) (by omega)]
   refine ih (z.1 ||| frN (arr n (-1) r.2.2.1) k, z.2 ++ [g]) ⟨Nat.or_lt_two_pow i1 (bd hk), fun x => ?_, ?_⟩
   ·rw [Nat.testBit_or, Bool.or_eq_true, i2 x]
    constructor
    ·rintro (⟨j, h1, h2⟩ | h)
     ·exact ⟨j, by omega, h2⟩
     ·exact ⟨k, by omega, h⟩
    ·rintro ⟨j, h1, h2⟩
     by_cases q : j = k
     ·exact .inr (by rw [← q]; exact h2)
     ·exact .inl ⟨j, by omega, h2⟩
   ·rw [qL1, List.length_singleton, hrange, if_pos (hrep.2 e), i3]
 ·obtain ⟨i1, i2, i3⟩ := hI
  simp only [l15a, hlen, ixE, cond_false]
  exact ⟨z.2, rfl, by rw [i3, qN0, cmp]⟩
theorem stf_cmp {r : Rk} (hr : okR r = true) : stf r (-1) = decide (cmp r.1.toNat r.2.2.1 = 1) := by
 obtain ⟨h1, h2, h3, h4⟩ := okR_at hr
 obtain ⟨n, hn⟩ : ∃ q : Nat, r.1 = q := ⟨r.1.toNat, by omega⟩
 have hb : okBs n r.2.2.1 := by rw [hn] at h4; exact h4
 have hl : frN (arr n (-1) r.2.2.1) 0 < 2 ^ (arr n (-1) r.2.2.1).length := fr_lt (arr_ok hb) (by rw [arr_len]; omega)
 rw [stf, stfA, hn, qN0]
 refine decide_eq_decide.2 ?_
 rw [all_bits hl, arr_len]
 constructor
 ·intro h; exact cmp_one (by omega) h
 ·intro h k hk; exact cmp_all hb (by omega) h hk
def B43 (s : Option (List Int)) : Option (List Int) := if (s.getD []).length ≤ 1000 then some (s.getD []) else none
theorem KB43 : FnOk Try.prog 43 (F43n B43) := ok43n B43 fun s r h => ⟨0, by
 simp only [B43] at h
 split at h
 ·rw [← h, m43n, chk_of (by simp)]; simp
 ·cases h⟩
abbrev T42 := Int → Option (List Int) → List (List Bool) → List Rk → Int → List (List (List Bool)) → List (List Bool) → Int → Option (Option (List Int) × List (List Bool) × List Rk × Int × List (List (List Bool)) × List (List Bool) × Int)
abbrev T44 := Int → Option (List Int) → List (List Bool) → Int → List Rk → Int → List (List Bool) → List (List (List Bool)) → Option (Option (List Int) × List (List Bool) × Int × List Rk × Int × List (List Bool) × List (List (List Bool)))
def PR : Nat → T42 × T44
 | 0 => (fun _ _ _ _ _ _ _ _ => none, fun _ _ _ _ _ _ _ _ => none)
 | k + 1 => (fun a0 w p2 p3 p4 p5 p6 p7 => m42c B43 (PR k).2 40 a0 w p2 p3 p4 p5 p6 p7, fun a0 w p2 p3 p4 p5 p6 p7 => m44c (PR k).1 B43 40 a0 w p2 p3 p4 p5 p6 p7)
theorem KPR : ∀ k, FnOk Try.prog 42 (F42c (PR k).1) ∧ FnOk Try.prog 44 (F44c (PR k).2)
 | 0 => by
  constructor
  ·intro args Of x hx
   simp only [F42c, PR] at hx
   split at hx
   ·split at hx
    ·split at hx <;> cases hx
    ·cases hx
   ·cases hx
  ·intro args Of x hx
   simp only [F44c, PR] at hx
   split at hx
   ·split at hx
    ·split at hx <;> cases hx
    ·cases hx
   ·cases hx
 | k + 1 => ⟨ok42c B43 (PR k).2 KB43 (KPR k).2 _ (fun a0 w p2 p3 p4 p5 p6 p7 r h => ⟨40, h⟩), ok44c (PR k).1 B43 (KPR k).1 KB43 _ (fun a0 w p2 p3 p4 p5 p6 p7 r h => ⟨40, h⟩)⟩
def fls (l : List Bool) : Nat := l.countP fun b => !b
theorem set_get {l : List Bool} {i j : Nat} (hi : i < l.length) : (l.set i true).getD j false = true ↔ j = i ∨ l.getD j false = true := by
 rw [qG1, List.getElem?_set, qG1]
 by_cases e : i = j
 ·subst e; simp [hi]
 ·simp [e, Ne.symm e]
theorem fls_set : ∀ {l : List Bool} {i : Nat}, i < l.length → l.getD i false = false → fls (l.set i true) + 1 = fls l
 | x :: r, 0, _, h => by
  have h : x = false := by simpa using h
  subst h; simp [fls]
 | x :: r, i + 1, hi, h => by
  have := fls_set (l := r) (i := i) (by simpa using hi) (by simpa using h)
  simp only [fls, List.set_cons_succ, List.countP_cons] at this ⊢; omega
theorem fls_mono : ∀ {l m : List Bool}, l.length = m.length → (∀ i, l.getD i false = true → m.getD i false = true) → fls m ≤ fls l
 | [], [], _, _ => Nat.le_refl _
 | x :: r, y :: s, hl, h => by
  have h1 := fls_mono (l := r) (m := s) (by simpa using hl) fun i hi => by simpa using h (i + 1) (by simpa using hi)
  have h0 := h 0
  simp only [List.getD_cons_zero] at h0
  simp only [fls, List.countP_cons] at h1 ⊢
  cases x with
  | true => rw [h0 rfl]; simpa using h1
  | false => cases y <;> simp <;> omega
 | [], _ :: _, hl, _ => by simp at hl
 | _ :: _, [], hl, _ => by simp at hl
abbrev dT : List (List Bool) := [[false, false, false, false, false, false], [false, false, false, false, false, false], [false, false, false, false, false, false], [false, false, false, false, false, false], [false, false, false, false, false, false], [false, false, false, false, false, false]]
abbrev dR : List Bool := [false, false, false, false, false, false]
def tt (T : List (List Bool)) (a b : Nat) : Prop := (T.getD a dR).getD b false = true
structure Szz (R C : List Bool) (T : List (List Bool)) : Prop where
 r : R.length = 6
 c : C.length = 6
 t : T.length = 6
 u : ∀ i, i < 6 → (T.getD i dR).length = 6
abbrev mLe (R R' : List Bool) : Prop := ∀ i, R.getD i false = true → R'.getD i false = true
section
variable (r : Rk) (e to : Int)
abbrev rw_ (i : Nat) : Nat := (r.2.2.1.getD i (0, 0, 0, ())).1.toNat
abbrev cl_ (i : Nat) : Nat := (r.2.2.1.getD i (0, 0, 0, ())).2.1.toNat
structure mCls (R C R' C' : List Bool) : Prop where
 row : ∀ i, i < r.2.2.1.length → (i : Int) ≠ e → R'.getD (rw_ r i) false = true → R.getD (rw_ r i) false = false → C'.getD (cl_ r i) false = true
 goal : ∀ y : Nat, C'.getD y false = true → C.getD y false = false → (y : Int) ≠ to
 col : ∀ i, i < r.2.2.1.length → (i : Int) ≠ e → C'.getD (cl_ r i) false = true → C.getD (cl_ r i) false = false → R'.getD (rw_ r i) false = true
structure mPost (R C R' C' : List Bool) (T' : List (List Bool)) : Prop where
 sz : Szz R' C' T'
 lr : mLe R R'
 lc : mLe C C'
 tc : ∀ a b, tt T' a b → C'.getD b false = true
 cls : mCls r e to R C R' C'
def Spec42 (n k : Nat) : Prop := ∀ (a0 : Nat) (way : Option (List Int)) (R C : List Bool) (T : List (List Bool)), a0 < n → R.getD a0 false = false → Szz R C T → fls R + fls C ≤ k → (way.getD []).length + (fls R + fls C) ≤ 12 → (∀ a b, tt T a b → C.getD b false = true) →
 ∃ way' R' C' T', (PR k).1 (a0 : Int) way [R] [r] e [T] [C] to = some (way', [R'], [r], e, [T'], [C'], to) ∧ (∀ w, way' = some w → w ≠ []) ∧ (way' = none → mPost r e to R C R' C' T' ∧ R'.getD a0 false = true)
def Spec44 (n k : Nat) : Prop := ∀ (a0 : Nat) (way : List Int) (R C : List Bool) (T : List (List Bool)), a0 < n → C.getD a0 false = false → way ≠ [] → Szz R C T → fls R + fls C ≤ k → way.length + (fls R + fls C) ≤ 12 → (∀ a b, tt T a b → C.getD b false = true ∨ b = a0) →
 ∃ way' R' C' T', (PR k).2 (a0 : Int) (some way) [C] to [r] e [R] [T] = some (way', [C'], to, [r], e, [R'], [T']) ∧ (∀ w, way' = some w → w ≠ []) ∧ (way' = none → mPost r e to R C R' C' T' ∧ C'.getD a0 false = true)
end
theorem Szz.setR {R C : List Bool} {T : List (List Bool)} (h : Szz R C T) (i : Nat) : Szz (R.set i true) C T := ⟨by rw [List.length_set]; exact h.r, h.c, h.t, h.u⟩
theorem Szz.setC {R C : List Bool} {T : List (List Bool)} (h : Szz R C T) (i : Nat) : Szz R (C.set i true) T := ⟨h.r, by rw [List.length_set]; exact h.c, h.t, h.u⟩
theorem tget {T : List (List Bool)} {a b : Nat} {x : List Bool} (ha : a < T.length) : (T.set a x).getD b dR = if a = b then x else T.getD b dR := by
 rw [qG1, List.getElem?_set, qG1]
 by_cases e : a = b
 ·subst e; simp [ha]
 ·simp [e]
theorem Szz.setT {R C : List Bool} {T : List (List Bool)} (h : Szz R C T) {a : Nat} (ha : a < 6) (b : Nat) : Szz R C (T.set a ((T.getD a dR).set b true)) := ⟨h.r, h.c, by rw [List.length_set]; exact h.t, fun i hi => by
 rw [tget (by rw [h.t]; exact ha)]
 split
 ·rw [List.length_set]; exact h.u a ha
 ·exact h.u i hi⟩
theorem tt_set {R C : List Bool} {T : List (List Bool)} (h : Szz R C T) {a b : Nat} (ha : a < 6) (hb : b < 6) {x y : Nat} (ht : tt (T.set a ((T.getD a dR).set b true)) x y) : tt T x y ∨ y = b := by
 unfold tt at *
 rw [tget (by rw [h.t]; exact ha)] at ht
 split at ht
 ·rename_i e
  subst e
  rcases (set_get (by rw [h.u a ha]; exact hb)).1 ht with q | q
  ·exact .inr q
  ·exact .inl q
 ·exact .inl ht
theorem dfs {r : Rk} {n : Nat} (hr : okR r = true) (hn : r.1 = n) (e to : Int) : ∀ k, Spec42 r e to n k ∧ Spec44 r e to n k
 | 0 => ⟨fun a0 way R C T ha hR hz hk => by
   have := fls_set (l := R) (i := a0) (by
    obtain ⟨h1, _⟩ := okR_at hr
    rw [hz.r]; omega) hR
   omega, fun a0 way R C T ha hC _ hz hk => by
   have := fls_set (l := C) (i := a0) (by
    obtain ⟨h1, _⟩ := okR_at hr
    rw [hz.c]; omega) hC
   omega⟩
 | k + 1 => by
  obtain ⟨ih42, ih44⟩ := dfs hr hn e to k
  obtain ⟨h1, h2, h3, h4⟩ := okR_at hr
  rw [hn] at h1 h4
  have hlt : ∀ i, i < r.2.2.1.length → (0 ≤ (r.2.2.1.getD i (0, 0, 0, ())).1 ∧ (r.2.2.1.getD i (0, 0, 0, ())).1 < n) ∧ (0 ≤ (r.2.2.1.getD i (0, 0, 0, ())).2.1 ∧ (r.2.2.1.getD i (0, 0, 0, ())).2.1 < n) := fun i hi => by
   obtain ⟨a, b, _⟩ := okB_at (h4 _ (getD_mem (d := (0, 0, 0, ())) hi)); exact ⟨a, b⟩
  refine ⟨fun a0 way R C T ha hR hz hk hw htc => ?_, fun a0 way R C T ha hC hne hz hk hw htc => ?_⟩
  ·have ha6 : a0 < 6 := by omega
   have hset := fls_set (l := R) (i := a0) (by rw [hz.r]; exact ha6) hR
   have hR0 : ∀ j, (R.set a0 true).getD j false = true ↔ j = a0 ∨ R.getD j false = true := fun j => set_get (by rw [hz.r]; exact ha6)
   show ∃ way' R' C' T', m42c B43 (PR k).2 40 (a0 : Int) way [R] [r] e [T] [C] to = _ ∧ _
   rw [m42c, chk_dec (by omega)]
   simp only [List.getD_cons_zero, List.set_cons_zero, qN0]
   rw [chk_of (by simp [hz.r, ha6])]
   refine countP' 0 (r.2.2.1.length : Int) (by omega) (fun m (z : List Bool × List Bool × List (List Bool)) t => l42ca B43 (PR k).2 40 (a0 : Int) way [r] m t e [z.2.2] [z.2.1] [z.1] [r] to)
    (fun t z => Szz z.1 z.2.1 z.2.2 ∧ mLe (R.set a0 true) z.1 ∧ mLe C z.2.1 ∧ (∀ a b, tt z.2.2 a b → z.2.1.getD b false = true) ∧ mCls r e to (R.set a0 true) C z.1 z.2.1 ∧ ∀ i, i < t.toNat → i < r.2.2.1.length → (i : Int) ≠ e → rw_ r i = a0 → z.2.1.getD (cl_ r i) false = true)
    (fun x => ∃ way' R' C' T', x = some (way', [R'], [r], e, [T'], [C'], to) ∧ (∀ w, way' = some w → w ≠ []) ∧ (way' = none → mPost r e to R C R' C' T' ∧ R'.getD a0 false = true))
    (fun m z t a b hI ih => ?_) (fun m z hI => ?_) 40 (R.set a0 true, C, T) (by omega) ⟨hz.setR a0, fun _ h => h, fun _ h => h, htc, ⟨fun i _ _ x y => (by rw [x] at y; cases y), fun y p q => (by rw [p] at q; cases q), fun i _ _ x y => (by rw [x] at y; cases y)⟩, fun i hi => by simp at hi⟩
   ·obtain ⟨j, rfl⟩ : ∃ q : Nat, t = q := ⟨t.toNat, by omega⟩
    have hj : j < r.2.2.1.length := by omega
    obtain ⟨R1, C1, T1⟩ := z
    obtain ⟨i1, i2, i3, i4, i5, i6⟩ := hI
    simp only at i1 i2 i3 i4 i5 i6
    rw [qN0] at i6
    rw [show ((j : Int) + 1).toNat = j + 1 by omega] at ih
    obtain ⟨q1, q2⟩ := hlt j hj
    obtain ⟨c, hc⟩ : ∃ q : Nat, (r.2.2.1.getD j (0, 0, 0, ())).2.1 = q := ⟨cl_ r j, by show _ = ((Int.toNat _ : Nat) : Int); omega⟩
    have hcl : cl_ r j = c := by show Int.toNat _ = c; rw [hc]; rfl
    have hc6 : c < 6 := by omega
    have skip : ((j : Int) ≠ e → rw_ r j = a0 → C1.getD (cl_ r j) false = true) → _ := fun h => ih (R1, C1, T1) ⟨i1, i2, i3, i4, i5, fun i hi hi2 h3 h4 => by
     by_cases q : i = j
     ·subst q; exact h h3 h4
     ·exact i6 i (by omega) hi2 h3 h4⟩
    simp only [l42ca, List.getD_cons_zero, ixA hj, ixB hj, cond_true, chk_true, qN0, hc]
    rw [w64_small (x := (j : Int) + 1) (by omega)]
    by_cases e1 : (j : Int) = e
    ·rw [show ((j : Int) == e) = true by simp [e1], cond_true]
     exact skip fun h => absurd e1 h
    rw [show ((j : Int) == e) = false by simp [e1], cond_false]
    by_cases e2 : (r.2.2.1.getD j (0, 0, 0, ())).1 = (a0 : Int)
    rotate_left
    ·rw [show ((r.2.2.1.getD j (0, 0, 0, ())).1 != (a0 : Int)) = true by simp only [bne_iff_ne, ne_eq]; exact e2, cond_true]
     exact skip fun _ h => absurd (by show _ = _; have : (Int.toNat _ : Nat) = a0 := h; omega) e2
    rw [show ((r.2.2.1.getD j (0, 0, 0, ())).1 != (a0 : Int)) = false by rw [e2]; simp, cond_false, chk_dec (by omega), chk_dec (by omega)]
    cases e3 : (T1.getD a0 dR).getD c false with
    | true =>
     rw [cond_true]
     exact skip fun _ _ => by rw [hcl]; exact i4 a0 c e3
    | false =>
     rw [cond_false, chk_dec (by omega)]
     cases e4 : C1.getD c false with
     | true =>
      rw [cond_true]
      exact skip fun _ _ => by rw [hcl]; exact e4
     | false =>
      have m1 := fls_mono (l := R.set a0 true) (m := R1) (by rw [List.length_set, hz.r, i1.r]) i2
      have m2 := fls_mono (l := C) (m := C1) (by rw [hz.c, i1.c]) i3
      rw [cond_false, chk_dec (by omega), chk_dec (by omega), chk_of (by simp only [bae, dtq, and_true]; exact ⟨by rw [i1.t]; exact ha6, by rw [i1.u a0 ha6]; exact hc6⟩), B43, if_pos (by omega), qB0]
      simp only [List.set_cons_zero]
      rw [chk_of (small_of (by omega) (by decide)), chk_of (by simp)]
      obtain ⟨way', R2, C2, T2, s1, s2, s3⟩ := ih44 c (way.getD [] ++ [(j : Int)]) R1 C1 (T1.set a0 ((T1.getD a0 dR).set c true)) (by omega) e4 (by simp) (i1.setT ha6 c) (by omega) (by rw [qL1, List.length_singleton]; omega) (fun a b h => by
       rcases tt_set i1 ha6 hc6 h with q | q
       ·exact .inl (i4 a b q)
       ·exact .inr q)
      rw [s1, qB0]
      cases way' with
      | some w =>
       simp only [Option.isNone_some, Bool.not_false, cond_true]
       exact ⟨some w, R2, C2, T2, rfl, s2, fun h => by cases h⟩
      | none =>
       obtain ⟨p, pc⟩ := s3 rfl
       simp only [Option.isNone_none, Bool.not_true, cond_false]
       refine ih (R2, C2, T2) ⟨p.sz, fun i h => p.lr i (i2 i h), fun i h => p.lc i (i3 i h), p.tc, ⟨fun i hi hne h5 h6 => ?_, fun y h5 h6 => ?_, fun i hi hne h5 h6 => ?_⟩, fun i hi hi2 h5 h6 => ?_⟩
       ·cases q : R1.getD (rw_ r i) false with
        | true => exact p.lc _ (i5.row i hi hne q h6)
        | false => exact p.cls.row i hi hne h5 q
       ·cases q : C1.getD y false with
        | true => exact i5.goal y q h6
        | false => exact p.cls.goal y h5 q
       ·cases q : C1.getD (cl_ r i) false with
        | true => exact p.lr _ (i5.col i hi hne q h6)
        | false => exact p.cls.col i hi hne h5 q
       ·by_cases q : i = j
        ·rw [q, hcl]; exact pc
        ·exact p.lc _ (i6 i (by omega) hi2 h5 h6)
   ·obtain ⟨R1, C1, T1⟩ := z
    obtain ⟨i1, i2, i3, i4, i5, i6⟩ := hI
    simp only at i1 i2 i3 i4 i5 i6
    rw [qN0] at i6
    simp only [l42ca, List.getD_cons_zero, ixE, cond_false]
    refine ⟨none, R1, C1, T1, rfl, (fun w h => by cases h), fun _ => ⟨⟨i1, fun i h => i2 i ((hR0 i).2 (.inr h)), i3, i4, ⟨fun i hi hne h5 h6 => ?_, i5.goal, i5.col⟩⟩, i2 a0 ((hR0 a0).2 (.inl rfl))⟩⟩
    by_cases q : rw_ r i = a0
    ·exact i6 i hi hi hne q
    ·refine i5.row i hi hne h5 ?_
     cases x : (R.set a0 true).getD (rw_ r i) false with
     | false => rfl
     | true =>
      rcases (hR0 _).1 x with y | y
      ·exact absurd y q
      ·rw [h6] at y; cases y
  ·have ha6 : a0 < 6 := by omega
   have hset := fls_set (l := C) (i := a0) (by rw [hz.c]; exact ha6) hC
   have hC0 : ∀ j, (C.set a0 true).getD j false = true ↔ j = a0 ∨ C.getD j false = true := fun j => set_get (by rw [hz.c]; exact ha6)
   show ∃ way' R' C' T', m44c (PR k).1 B43 40 (a0 : Int) (some way) [C] to [r] e [R] [T] = _ ∧ _
   rw [m44c, chk_dec (by omega)]
   simp only [List.getD_cons_zero, List.set_cons_zero, qN0]
   rw [chk_of (by simp [hz.c, ha6])]
   by_cases eg : (a0 : Int) = to
   ·rw [show ((a0 : Int) == to) = true by simp [eg], cond_true]
    exact ⟨some way, R, C.set a0 true, T, rfl, fun w h => by rw [← oij h]; exact hne, fun h => by cases h⟩
   rw [show ((a0 : Int) == to) = false by simp [eg], cond_false]
   refine countP' 0 (r.2.2.1.length : Int) (by omega) (fun m (z : List Bool × List Bool × List (List Bool)) t => l44ca (PR k).1 B43 40 (a0 : Int) (some way) [r] m t e [z.1] [z.2.1] to [r] [z.2.2])
    (fun t z => Szz z.1 z.2.1 z.2.2 ∧ mLe R z.1 ∧ mLe (C.set a0 true) z.2.1 ∧ (∀ a b, tt z.2.2 a b → z.2.1.getD b false = true) ∧ mCls r e to R (C.set a0 true) z.1 z.2.1 ∧ ∀ i, i < t.toNat → i < r.2.2.1.length → (i : Int) ≠ e → cl_ r i = a0 → z.1.getD (rw_ r i) false = true)
    (fun x => ∃ way' R' C' T', x = some (way', [C'], to, [r], e, [R'], [T']) ∧ (∀ w, way' = some w → w ≠ []) ∧ (way' = none → mPost r e to R C R' C' T' ∧ C'.getD a0 false = true))
    (fun m z t a b hI ih => ?_) (fun m z hI => ?_) 40 (R, C.set a0 true, T) (by omega) ⟨hz.setC a0, fun _ h => h, fun _ h => h, fun a b h => by
     rcases htc a b h with q | q
     ·exact (hC0 b).2 (.inr q)
     ·exact (hC0 b).2 (.inl q), ⟨fun i _ _ x y => (by rw [x] at y; cases y), fun y p q => (by rw [p] at q; cases q), fun i _ _ x y => (by rw [x] at y; cases y)⟩, fun i hi => by simp at hi⟩
   ·obtain ⟨j, rfl⟩ : ∃ q : Nat, t = q := ⟨t.toNat, by omega⟩
    have hj : j < r.2.2.1.length := by omega
    obtain ⟨R1, C1, T1⟩ := z
    obtain ⟨i1, i2, i3, i4, i5, i6⟩ := hI
    simp only at i1 i2 i3 i4 i5 i6
    rw [qN0] at i6
    rw [show ((j : Int) + 1).toNat = j + 1 by omega] at ih
    obtain ⟨q1, q2⟩ := hlt j hj
    obtain ⟨c, hc⟩ : ∃ q : Nat, (r.2.2.1.getD j (0, 0, 0, ())).1 = q := ⟨rw_ r j, by show _ = ((Int.toNat _ : Nat) : Int); omega⟩
    have hcl : rw_ r j = c := by show Int.toNat _ = c; rw [hc]; rfl
    have hc6 : c < 6 := by omega
    have skip : ((j : Int) ≠ e → cl_ r j = a0 → R1.getD (rw_ r j) false = true) → _ := fun h => ih (R1, C1, T1) ⟨i1, i2, i3, i4, i5, fun i hi hi2 h3 h4 => by
     by_cases q : i = j
     ·subst q; exact h h3 h4
     ·exact i6 i (by omega) hi2 h3 h4⟩
    simp only [l44ca, List.getD_cons_zero, ixA hj, ixB hj, cond_true, chk_true, qN0, hc]
    rw [w64_small (x := (j : Int) + 1) (by omega)]
    by_cases e1 : (j : Int) = e
    ·rw [show ((j : Int) != e) = false by simp [e1], cond_false]
     exact skip fun h => absurd e1 h
    rw [show ((j : Int) != e) = true by simp [e1], cond_true]
    by_cases e2 : (r.2.2.1.getD j (0, 0, 0, ())).2.1 = (a0 : Int)
    rotate_left
    ·rw [show ((r.2.2.1.getD j (0, 0, 0, ())).2.1 == (a0 : Int)) = false by rw [beq_eq_false_iff_ne]; exact e2, cond_false]
     exact skip fun _ h => absurd (by show _ = _; have : (Int.toNat _ : Nat) = a0 := h; omega) e2
    rw [show ((r.2.2.1.getD j (0, 0, 0, ())).2.1 == (a0 : Int)) = true by rw [e2]; simp, cond_true, chk_dec (by omega)]
    cases e4 : R1.getD c false with
    | true =>
     simp only [Bool.not_true, cond_false]
     exact skip fun _ _ => by rw [hcl]; exact e4
    | false =>
     have m1 := fls_mono (l := C.set a0 true) (m := C1) (by rw [List.length_set, hz.c, i1.c]) i3
     have m2 := fls_mono (l := R) (m := R1) (by rw [hz.r, i1.r]) i2
     simp only [Bool.not_false, cond_true]
     rw [B43, if_pos (by rw [Option.getD_some]; omega), qB0, Option.getD_some, chk_of (small_of (by omega) (by decide)), chk_of (by simp)]
     obtain ⟨way', R2, C2, T2, s1, s2, s3⟩ := ih42 c (some (way ++ [(j : Int)])) R1 C1 T1 (by omega) e4 i1 (by omega) (by rw [Option.getD_some, qL1, List.length_singleton]; omega) i4
     rw [s1, qB0]
     cases way' with
     | some w =>
      simp only [Option.isNone_some, Bool.not_false, cond_true]
      exact ⟨some w, R2, C2, T2, rfl, s2, fun h => by cases h⟩
     | none =>
      obtain ⟨p, pc⟩ := s3 rfl
      simp only [Option.isNone_none, Bool.not_true, cond_false]
      refine ih (R2, C2, T2) ⟨p.sz, fun i h => p.lr i (i2 i h), fun i h => p.lc i (i3 i h), p.tc, ⟨fun i hi hne h5 h6 => ?_, fun y h5 h6 => ?_, fun i hi hne h5 h6 => ?_⟩, fun i hi hi2 h5 h6 => ?_⟩
      ·cases q : R1.getD (rw_ r i) false with
       | true => exact p.lc _ (i5.row i hi hne q h6)
       | false => exact p.cls.row i hi hne h5 q
      ·cases q : C1.getD y false with
       | true => exact i5.goal y q h6
       | false => exact p.cls.goal y h5 q
      ·cases q : C1.getD (cl_ r i) false with
       | true => exact p.lr _ (i5.col i hi hne q h6)
       | false => exact p.cls.col i hi hne h5 q
      ·by_cases q : i = j
       ·rw [q, hcl]; exact pc
       ·exact p.lr _ (i6 i (by omega) hi2 h5 h6)
   ·obtain ⟨R1, C1, T1⟩ := z
    obtain ⟨i1, i2, i3, i4, i5, i6⟩ := hI
    simp only at i1 i2 i3 i4 i5 i6
    rw [qN0] at i6
    simp only [l44ca, List.getD_cons_zero, ixE, cond_false]
    refine ⟨none, R1, C1, T1, rfl, (fun w h => by cases h), fun _ => ⟨⟨i1, i2, fun i h => i3 i ((hC0 i).2 (.inr h)), i4, ⟨i5.row, fun y h5 h6 => ?_, fun i hi hne h5 h6 => ?_⟩⟩, i3 a0 ((hC0 a0).2 (.inl rfl))⟩⟩
    ·by_cases q : y = a0
     ·rw [q]; exact eg
     ·refine i5.goal y h5 ?_
      cases x : (C.set a0 true).getD y false with
      | false => rfl
      | true =>
       rcases (hC0 _).1 x with z | z
       ·exact absurd z q
       ·rw [h6] at z; cases z
    ·by_cases q : cl_ r i = a0
     ·exact i6 i hi hi hne q
     ·refine i5.col i hi hne h5 ?_
      cases x : (C.set a0 true).getD (cl_ r i) false with
      | false => rfl
      | true =>
       rcases (hC0 _).1 x with y | y
       ·exact absurd y q
       ·rw [h6] at y; cases y
def B16 (r : Rk) (e : Int) : Option (List Int × Int) := m16 B40 (fun lo n hi => some (decide (lo ≤ n ∧ n ≤ hi))) (PR 12).1 40 r e
theorem KB16 : FnOk Try.prog 16 (F16 B16) := ok16 B40 _ (PR 12).1 KB40 KB41 (KPR 12).1 B16 fun r e x h => ⟨40, h⟩
theorem B16_ok {r : Rk} {n : Nat} (hr : okR r = true) (hn : r.1 = n) {e : Nat} (he : e < r.2.2.1.length) (hre : (frN (arr n (e : Int) r.2.2.1) (rw_ r e)).testBit (n + cl_ r e) = true) : ∃ w, B16 r (e : Int) = some (w, 0) ∧ w ≠ [] := by
 obtain ⟨h1, h2, h3, h4⟩ := okR_at hr
 rw [hn] at h1 h4
 have hb : okBs n r.2.2.1 := h4
 obtain ⟨q1, q2, _⟩ := okB_at (h4 _ (getD_mem (d := (0, 0, 0, ())) he))
 obtain ⟨way', R', C', T', s1, s2, s3⟩ := (dfs hr hn (e : Int) ((r.2.2.1.getD e (0, 0, 0, ())).2.1) 12).1 (rw_ r e) none dR dR dT (by show Int.toNat _ < n; omega) (by simp [List.getD]; rcases (rw_ r e) with _ | _ | _ | _ | _ | _ | _ <;> rfl) ⟨rfl, rfl, rfl, fun i hi => by
   rcases i with _ | _ | _ | _ | _ | _ | _ <;> first | rfl | omega⟩ (by decide) (by decide) (fun a b h => by
   exfalso
   unfold tt at h
   have : ∀ a, dT.getD a dR = dR := fun a => by rcases a with _ | _ | _ | _ | _ | _ | _ <;> rfl
   rw [this] at h
   rcases b with _ | _ | _ | _ | _ | _ | _ <;> cases h)
 rw [B16, m16, B40, if_pos hr, qB0, qZ0, cond_false, qB0]
 rw [qD1 (show (0 : Int) ≤ e ∧ (e : Int) ≤ w64 ((r.2.2.1.length : Int) - 1) by rw [w64_small (by omega)]; omega)]
 simp only [Bool.not_true, cond_false]
 rw [chk_dec (by omega), chk_dec (by omega), qN0]
 have er : (((rw_ r e : Nat)) : Int) = (r.2.2.1.getD e (0, 0, 0, ())).1 := by show ((Int.toNat _ : Nat) : Int) = _; omega
 rw [er] at s1
 rw [s1, qB0]
 cases way' with
 | some w =>
  refine ⟨w, by simp, s2 w rfl⟩
 | none =>
  exfalso
  obtain ⟨p, pc⟩ := s3 rfl
  have f6 : ∀ i, dR.getD i false = false := fun i => by rcases i with _ | _ | _ | _ | _ | _ | _ <;> rfl
  -- what was met is closed
  have key := fr_min (ar := arr n (e : Int) r.2.2.1) (i := rw_ r e) (T := fun x => (x < n ∧ R'.getD x false = true) ∨ (n ≤ x ∧ C'.getD (x - n) false = true)) (fun k hk hT j hj => by
   obtain ⟨i, hi, hne, hed⟩ := (arr_bit hb k j).1 hj
   obtain ⟨b1, b2, _⟩ := okB_at (h4 _ (getD_mem (d := (0, 0, 0, ())) hi))
   rcases hed with ⟨a, b⟩ | ⟨a, b⟩
   ·rcases hT with ⟨_, t2⟩ | ⟨t1, _⟩
    ·refine .inr ⟨by omega, ?_⟩
     rw [b, Nat.add_sub_cancel_left]
     exact p.cls.row i hi hne (by rw [a] at t2; exact t2) (f6 _)
    ·omega
   ·rcases hT with ⟨t1, _⟩ | ⟨_, t2⟩
    ·omega
    ·refine .inl ⟨by omega, ?_⟩
     rw [a, Nat.add_sub_cancel_left] at t2
     rw [b]
     exact p.cls.col i hi hne t2 (f6 _)) (.inl ⟨by show Int.toNat _ < n; omega, pc⟩) hre
  rcases key with ⟨t1, _⟩ | ⟨_, t2⟩
  ·omega
  ·rw [Nat.add_sub_cancel_left] at t2
   exact p.cls.goal _ t2 (f6 _) (by show ((Int.toNat _ : Nat) : Int) = _; omega)
def B69 (n : Int) : Option (List Int) := if 0 ≤ n ∧ n ≤ 100000 then some [] else none
theorem KB69 : FnOk Try.prog 69 (F69c B69) := ok69c B69 fun n r h => ⟨0, by
 simp only [B69] at h
 split at h
 ·rename_i hn
  rw [← h, m69c, qD0 (show ¬ n < 0 by omega), cond_false, w64_small (by omega)]
  by_cases e : n - 0 > 0
  ·rw [qD1 e, cond_true, chk_of (by simp [mkOk]; omega), chk_dec (by omega)]; rfl
  ·rw [qD0 e, cond_false]
 ·cases h⟩
def okLs (s : List (List Int)) : Bool := decide (s.length ≤ 100) && s.all fun l => decide (l.length ≤ 100)
theorem okLs_at {s : List (List Int)} (h : okLs s = true) : s.length ≤ 100 ∧ ∀ l ∈ s, l.length ≤ 100 := by simpa [okLs] using h
theorem flat_len : ∀ {s : List (List Int)}, (∀ l ∈ s, l.length ≤ 100) → s.flatten.length ≤ 100 * s.length
 | [], _ => by simp
 | x :: r, h => by
  have h1 := h x (by simp)
  have h2 := flat_len (s := r) fun y hy => h y (by simp [hy])
  simp only [List.flatten_cons, qL1, List.length_cons]
  omega
def B34 (s : List (List Int)) : Option (List Int) := if okLs s = true then some s.flatten else none
theorem KB34 : FnOk Try.prog 34 (F34 B34) := ok34 B69 KB69 B34 fun s r h => ⟨101, by
 simp only [B34] at h
 split at h
 ·rename_i hs
  obtain ⟨h1, h2⟩ := okLs_at hs
  rw [← h, m34]
  have tk : ∀ k, k < s.length → (s.take (k + 1)).flatten = (s.take k).flatten ++ s.getD k [] := fun k hk => by
   rw [take_succ' hk rfl, List.flatten_append, List.flatten_cons, List.flatten_nil, List.append_nil]
  have bd : ∀ k, k ≤ s.length → (s.take k).flatten.length ≤ 10000 := fun k hk => by
   have := flat_len (s := s.take k) fun l hl => h2 l (List.mem_of_mem_take hl)
   rw [List.length_take] at this; omega
  refine countP' 0 (s.length : Int) (by omega) (fun n z t => l34a B69 101 s n z t) (fun t z => z = ((s.take t.toNat).flatten.length : Int)) (fun r => r = some s.flatten) (fun n z t a b hI ih => ?_) (fun n z hI => ?_) 101 0 (by omega) rfl
  ·subst hI
   obtain ⟨k, rfl⟩ : ∃ q : Nat, t = q := ⟨t.toNat, by omega⟩
   have hk : k < s.length := by omega
   have e := ih _ rfl
   have b1 := bd (k + 1) hk
   rw [tk k hk, qL1] at b1
   rw [show ((k : Int) + 1).toNat = k + 1 by omega, tk k hk, qL1, Int.natCast_add] at e
   simp only [l34a, ixA hk, ixB hk, cond_true, chk_true, qN0]
   have hw : w64 (((s.take k).flatten.length : Int) + ((s.getD k []).length : Int)) = ((s.take k).flatten.length : Int) + ((s.getD k []).length : Int) := w64_small (by omega)
   simp only [hw]
   rw [qD0 (show ¬ ((s.take k).flatten.length : Int) + ((s.getD k []).length : Int) < 0 by omega), cond_false, w64_small (x := (k : Int) + 1) (by omega)]
   exact e
  ·subst hI
   simp only [l34a, ixE, cond_false, qN0, List.take_length]
   have b1 := bd s.length (Nat.le_refl _)
   rw [List.take_length] at b1
   rw [B69, if_pos (by omega), qB0]
   refine countP' 0 (s.length : Int) (by omega) (fun n z t => l34b B69 101 s n t z) (fun t z => z = (s.take t.toNat).flatten) (fun r => r = some s.flatten) (fun n z t a b hI ih => ?_) (fun n z hI => ?_) 101 [] (by omega) rfl
   ·subst hI
    obtain ⟨k, rfl⟩ : ∃ q : Nat, t = q := ⟨t.toNat, by omega⟩
    have hk : k < s.length := by omega
    have e := ih _ rfl
    have b2 := bd (k + 1) hk
    rw [tk k hk, qL1] at b2
    rw [show ((k : Int) + 1).toNat = k + 1 by omega, tk k hk] at e
    simp only [l34b, ixA hk, ixB hk, cond_true, chk_true, qN0]
    rw [chk_of (small_of (by omega) (by decide)), w64_small (x := (k : Int) + 1) (by omega)]
    exact e
   ·subst hI
    simp only [l34b, ixE, cond_false, qN0, List.take_length]
 ·cases h⟩
theorem memG {α : Type} {l : List α} {x : α} (h : x ∈ l) (d : α) : ∃ i, i < l.length ∧ l.getD i d = x := by
 obtain ⟨i, hi, rfl⟩ := List.getElem_of_mem h
 exact ⟨i, hi, getD_at hi⟩
def tb (t : List (List Int)) (s d : Int) : Int := (t.getD s.toNat []).getD d.toNat 0
def latB (t : List (List Int)) : Bool :=
 decide (2 ≤ t.length ∧ t.length ≤ 10) && t.all (fun r => decide (r.length = t.length) && r.all fun x => decide (0 ≤ x ∧ x < t.length)) &&
  (List.range t.length).all fun s => (List.range t.length).all fun d => (List.range t.length).all fun e =>
   (decide ((t.getD s []).getD d 0 ≠ (t.getD s []).getD e 0) || decide (d = e)) && (decide ((t.getD d []).getD s 0 ≠ (t.getD e []).getD s 0) || decide (d = e))
def rg (t : List (List Int)) (x : Int) : Prop := 0 ≤ x ∧ x < t.length
structure Lat (t : List (List Int)) : Prop where
 len : 2 ≤ t.length ∧ t.length ≤ 10
 row : ∀ k : Nat, k < t.length → (t.getD k []).length = t.length
 bd : ∀ {s d : Int}, rg t s → rg t d → rg t (tb t s d)
 ri : ∀ {s d e : Int}, rg t s → rg t d → rg t e → tb t s d = tb t s e → d = e
 ci : ∀ {s d e : Int}, rg t s → rg t d → rg t e → tb t d s = tb t e s → d = e
theorem lat_of {t : List (List Int)} (h : latB t = true) : Lat t := by
 simp only [latB, bae, dtq, List.all_eq_true, List.mem_range, Bool.or_eq_true] at h
 obtain ⟨⟨h1, h2⟩, h3⟩ := h
 have row : ∀ k : Nat, k < t.length → (t.getD k []).length = t.length := fun k hk => (h2 _ (getD_mem hk)).1
 refine ⟨h1, row, fun {s d} hs hd => ?_, fun {s d e} hs hd he hh => ?_, fun {s d e} hs hd he hh => ?_⟩
 ·unfold rg at *
  have hk : s.toNat < t.length := by omega
  exact (h2 _ (getD_mem (d := []) hk)).2 _ (getD_mem (by rw [row _ hk]; omega))
 ·unfold rg at *
  rcases (h3 s.toNat (by omega) d.toNat (by omega) e.toNat (by omega)).1 with q | q
  ·exact absurd hh q
  ·omega
 ·unfold rg at *
  rcases (h3 s.toNat (by omega) d.toNat (by omega) e.toNat (by omega)).2 with q | q
  ·exact absurd hh q
  ·omega
theorem lat_has {t : List (List Int)} (h : Lat t) {s : Int} (hs : rg t s) {x : Int} (hx : rg t x) : x ∈ t.getD s.toNat [] := by
 have hk : s.toNat < t.length := by unfold rg at hs; omega
 have hlen := h.row _ hk
 have hin : ∀ y ∈ t.getD s.toNat [], rg t y := fun y hy => by
  obtain ⟨i, hi, e⟩ := memG hy 0
  have := h.bd hs (d := (i : Int)) ⟨by omega, by omega⟩
  rw [tb, qN0, e] at this
  exact this
 have hnd : (t.getD s.toNat []).Nodup := List.pairwise_iff_getElem.2 fun i j hi hj hij hh => by
  have := h.ri hs (d := (i : Int)) (e := (j : Int)) ⟨by omega, by omega⟩ ⟨by omega, by omega⟩ (by
   simp only [tb, qN0]; rw [getD_at hi, getD_at hj]; exact hh)
  omega
 apply Classical.byContradiction
 intro hc
 have hnd2 : (x :: t.getD s.toNat []).Nodup := List.nodup_cons.2 ⟨hc, hnd⟩
 have hsub : ∀ y ∈ x :: t.getD s.toNat [], y ∈ (List.range t.length).map fun i : Nat => (i : Int) := fun y hy => by
  have hy' : rg t y := by
   rcases List.mem_cons.1 hy with e | e
   ·rw [e]; exact hx
   ·exact hin y e
  unfold rg at hy'
  exact List.mem_map.2 ⟨y.toNat, List.mem_range.2 (by omega), by omega⟩
 have := hnd2.length_le_of_subset hsub
 simp only [List.length_cons, List.length_map, List.length_range] at this; omega
def B30 (lo n hi : Int) : Option Bool := some (decide (lo ≤ n ∧ n ≤ hi))
theorem KB30 : FnOk Try.prog 30 (F30 B30) := ok30 B30 fun lo n hi r h => ⟨0, by
 rw [← h, m30, B30]
 by_cases e : lo ≤ n
 ·rw [qD1 e, cond_true]; simp [e]
 ·rw [qD0 e, cond_false]; simp [e]⟩
def B32c (l : List Int) (p : Int) : Option (Bool × Int) := some ((l.length : Int) != p, p)
theorem KB32c : FnOk Try.prog 32 (F32c B32c) := ok32c B32c fun l p r h => ⟨0, h⟩
def eqL (s : List (List Int)) (p : Int) : Bool := decide (s.length ≤ 100) && s.all fun l => decide ((l.length : Int) = p)
def B67c32 (s : List (List Int)) (p : Int) : Option (Int × Int) := if eqL s p = true then some (-1, p) else none
theorem KB67c32 : FnOk Try.prog 67 (F67c32 B67c32) := ok67c32 B32c KB32c B67c32 fun s p r h => ⟨101, by
 simp only [B67c32] at h
 split at h
 ·rename_i hh
  simp only [eqL, bae, dtq, List.all_eq_true] at hh
  obtain ⟨h1, h2⟩ := hh
  rw [← h, m67c32]
  refine rangeIx s [] (fun n (_ : Unit) i => l67c32a B32c 101 s n i p) (fun _ rest _ => ∀ l ∈ rest, (l.length : Int) = p) (fun _ _ _ => some (-1, p)) (fun n z i d rest hi hx hI ih => ?_) (fun n z hI => ?_) 101 () (by omega) h2
  ·have hd := hI d (by simp)
   simp only [l67c32a, ixA hi, ixB hi, cond_true, chk_true, qN0, hx, ixW hi (by omega), B32c, qB0, hd, bne_self_eq_false, cond_false]
   exact ih () fun e he => hI e (by simp [he])
  ·simp only [l67c32a, ixE, cond_false]
 ·cases h⟩
def B31c32 (s : List (List Int)) (p : Int) : Option (Bool × Int) := if eqL s p = true then some (false, p) else none
theorem KB31c32 : FnOk Try.prog 31 (F31c32 B31c32) := ok31c32 B67c32 KB67c32 B31c32 fun s p r h => ⟨0, by
 simp only [B31c32] at h
 split at h
 ·rename_i hh; rw [← h, m31c32, B67c32, if_pos hh, qB0]; rfl
 ·cases h⟩
def B35c (x p : Int) : Option (Bool × Int) := if 0 ≤ p ∧ p ≤ 100 then some (!decide (0 ≤ x ∧ x ≤ p - 1), p) else none
theorem KB35c : FnOk Try.prog 35 (F35c B35c) := ok35c B30 KB30 B35c fun x p r h => ⟨0, by
 simp only [B35c] at h
 split at h
 ·rename_i hh; rw [← h, m35c, B30, qB0, w64_small (by omega)]
 ·cases h⟩
def insL (s : List Int) (p : Int) : Bool := decide (s.length ≤ 100) && s.all fun x => decide (0 ≤ x ∧ x ≤ p - 1)
def B68c35 (s : List Int) (p : Int) : Option (Int × Int) := if (0 ≤ p ∧ p ≤ 100) ∧ insL s p = true then some (-1, p) else none
theorem KB68c35 : FnOk Try.prog 68 (F68c35 B68c35) := ok68c35 B35c KB35c B68c35 fun s p r h => ⟨101, by
 simp only [B68c35] at h
 split at h
 ·rename_i hh
  obtain ⟨h0, hh⟩ := hh
  simp only [insL, bae, dtq, List.all_eq_true] at hh
  obtain ⟨h1, h2⟩ := hh
  rw [← h, m68c35]
  refine rangeIx s 0 (fun n (_ : Unit) i => l68c35a B35c 101 s n i p) (fun _ rest _ => ∀ x ∈ rest, 0 ≤ x ∧ x ≤ p - 1) (fun _ _ _ => some (-1, p)) (fun n z i d rest hi hx hI ih => ?_) (fun n z hI => ?_) 101 () (by omega) h2
  ·have hd := hI d (by simp)
   simp only [l68c35a, ixA hi, ixB hi, cond_true, chk_true, qN0, hx, ixW hi (by omega)]
   rw [B35c, if_pos h0, qB0, qD1 hd]
   exact ih () fun e he => hI e (by simp [he])
  ·simp only [l68c35a, ixE, cond_false]
 ·cases h⟩
def B33c35 (s : List Int) (p : Int) : Option (Bool × Int) := if (0 ≤ p ∧ p ≤ 100) ∧ insL s p = true then some (false, p) else none
theorem KB33c35 : FnOk Try.prog 33 (F33c35 B33c35) := ok33c35 B68c35 KB68c35 B33c35 fun s p r h => ⟨0, by
 simp only [B33c35] at h
 split at h
 ·rename_i hh; rw [← h, m33c35, B68c35, if_pos hh, qB0]; rfl
 ·cases h⟩
theorem mset {l : List Bool} {i j : Nat} (hi : i < l.length) (h : (l.set i true).getD j false = true) : j = i ∨ l.getD j false = true := by
 by_cases e : i = j
 ·exact .inl e.symm
 ·rw [qG1, List.getElem?_set, if_neg e, ← qG1] at h
  exact .inr h
def B36 (t : List (List Int)) : Option Bool := if latB t = true then some false else none
theorem KB36 : FnOk Try.prog 36 (F36 B36) := ok36 B36 fun t r h => ⟨20, by
 simp only [B36] at h
 split at h
 ·rename_i hh
  have hL := lat_of hh
  have hlen := hL.len
  rw [← h, m36]
  refine countP' 0 (t.length : Int) (by omega) (fun n (z : Bool) i => l36a 20 t n z i) (fun _ z => z = false) (fun x => x = some false) (fun n z i a b hI ih => ?_) (fun n z hI => ?_) 20 false (by omega) rfl
  ·subst hI
   obtain ⟨s, rfl⟩ : ∃ q : Nat, i = q := ⟨i.toNat, by omega⟩
   have hs : s < t.length := by omega
   have hrow := hL.row s hs
   simp only [l36a, ixA hs, cond_true]
   have ent : ∀ d, d < t.length → (0 ≤ (t.getD s []).getD d 0 ∧ (t.getD s []).getD d 0 < t.length) ∧ (0 ≤ (t.getD d []).getD s 0 ∧ (t.getD d []).getD s 0 < t.length) := fun d hd => by
    have e1 := hL.bd (s := (s : Int)) (d := (d : Int)) ⟨by omega, by omega⟩ ⟨by omega, by omega⟩
    have e2 := hL.bd (s := (d : Int)) (d := (s : Int)) ⟨by omega, by omega⟩ ⟨by omega, by omega⟩
    exact ⟨e1, e2⟩
   refine countP' 0 (t.length : Int) (by omega) (fun m (z : List Bool × List Bool) j => l36b 20 t (s : Int) (fun y0 y1 => l36a 20 t n y0 y1) m false j [z.1] [z.2])
    (fun j z => (z.1.length = 10 ∧ z.2.length = 10) ∧ (∀ x, z.1.getD x false = true → ∃ d, d < j.toNat ∧ d < t.length ∧ ((t.getD s []).getD d 0).toNat = x) ∧ ∀ x, z.2.getD x false = true → ∃ d, d < j.toNat ∧ d < t.length ∧ ((t.getD d []).getD s 0).toNat = x) (fun x => x = some false)
    (fun m z j a b hI ih2 => ?_) (fun m z hI => ?_) 20 ([false, false, false, false, false, false, false, false, false, false], [false, false, false, false, false, false, false, false, false, false]) (by omega) ⟨⟨rfl, rfl⟩, (fun x hx => by
     rcases x with _ | _ | _ | _ | _ | _ | _ | _ | _ | _ | _ <;> cases hx), fun x hx => by
     rcases x with _ | _ | _ | _ | _ | _ | _ | _ | _ | _ | _ <;> cases hx⟩
   ·obtain ⟨d, rfl⟩ : ∃ q : Nat, j = q := ⟨j.toNat, by omega⟩
    have hd : d < t.length := by omega
    obtain ⟨R, C⟩ := z
    obtain ⟨⟨i1, i2⟩, i3, i4⟩ := hI
    simp only at i1 i2 i3 i4
    rw [qN0] at i3 i4
    rw [show ((d : Int) + 1).toNat = d + 1 by omega] at ih2
    have hrd := hL.row d hd
    obtain ⟨e1, e2⟩ := ent d hd
    have hs' : s < (t.getD d []).length := by rw [hrd]; exact hs
    have hd' : d < (t.getD s []).length := by rw [hrow]; exact hd
    simp only [l36b, ixA hd, ixB hd, ixB hs, ixB hs', ixB hd', cond_true, chk_true, qN0, List.getD_cons_zero, List.set_cons_zero]
    rw [chk_dec (by omega), chk_dec (by omega), chk_dec (by omega), chk_dec (by omega)]
    have c1 : R.getD ((t.getD s []).getD d 0).toNat false = false := by
     cases q : R.getD ((t.getD s []).getD d 0).toNat false with
     | false => rfl
     | true =>
      obtain ⟨d', g1, g2, g3⟩ := i3 _ q
      have e3 := (ent d' g2).1
      have := hL.ri (s := (s : Int)) (d := (d : Int)) (e := (d' : Int)) ⟨by omega, by omega⟩ ⟨by omega, by omega⟩ ⟨by omega, by omega⟩ (by
       simp only [tb, qN0]; omega)
      omega
    have c2 : C.getD ((t.getD d []).getD s 0).toNat false = false := by
     cases q : C.getD ((t.getD d []).getD s 0).toNat false with
     | false => rfl
     | true =>
      obtain ⟨d', g1, g2, g3⟩ := i4 _ q
      have e3 := (ent d' g2).2
      have := hL.ci (s := (s : Int)) (d := (d : Int)) (e := (d' : Int)) ⟨by omega, by omega⟩ ⟨by omega, by omega⟩ ⟨by omega, by omega⟩ (by
       simp only [tb, qN0]; omega)
      omega
    rw [c1, cond_false, c2, cond_false, chk_of (by simp only [bae, dtq, and_true]; omega), chk_of (by simp only [bae, dtq, and_true]; omega), w64_small (x := (d : Int) + 1) (by omega)]
    refine ih2 (R.set _ true, C.set _ true) ⟨⟨by rw [List.length_set]; exact i1, by rw [List.length_set]; exact i2⟩, fun x hx => ?_, fun x hx => ?_⟩
    ·rcases mset (by rw [i1]; omega) hx with q | q
     ·exact ⟨d, by omega, hd, q.symm⟩
     ·obtain ⟨d', g1, g2, g3⟩ := i3 x q; exact ⟨d', by omega, g2, g3⟩
    ·rcases mset (by rw [i2]; omega) hx with q | q
     ·exact ⟨d, by omega, hd, q.symm⟩
     ·obtain ⟨d', g1, g2, g3⟩ := i4 x q; exact ⟨d', by omega, g2, g3⟩
   ·simp only [l36b, ixE, cond_false]
    rw [w64_small (by omega)]
    exact ih false rfl
  ·subst hI
   simp only [l36a, ixE, cond_false]
 ·cases h⟩
def B13 (t : List (List Int)) : Option Int := if latB t = true then some 0 else none
theorem KB13 : FnOk Try.prog 13 (F13 B13) := ok13 B30 B31c32 B33c35 B34 B36 KB30 KB31c32 KB33c35 KB34 KB36 B13 fun t r h => ⟨0, by
 simp only [B13] at h
 split at h
 ·rename_i hh
  have hL := lat_of hh
  have hlen := hL.len
  have hrow : ∀ l ∈ t, l.length = t.length := fun l hl => by
   obtain ⟨i, hi, rfl⟩ := memG hl []
   exact hL.row i hi
  have h34 : okLs t = true := by
   simp only [okLs, bae, dtq, List.all_eq_true]
   exact ⟨by omega, fun l hl => by rw [hrow l hl]; omega⟩
  have hfl : t.flatten.length ≤ 100 := by
   have : ∀ {s : List (List Int)} {k : Nat}, (∀ l ∈ s, l.length = k) → s.flatten.length = k * s.length := fun {s k} => by
    induction s with
    | nil => simp
    | cons x r ih =>
     intro hh
     rw [List.flatten_cons, qL1, ih fun l hl => hh l (by simp [hl]), hh x (by simp), List.length_cons, Nat.mul_add]; omega
   rw [this hrow]
   have := Nat.mul_le_mul hlen.2 hlen.2
   omega
  have h33 : (0 ≤ (t.length : Int) ∧ (t.length : Int) ≤ 100) ∧ insL t.flatten (t.length : Int) = true := by
   refine ⟨by omega, ?_⟩
   simp only [insL, bae, dtq, List.all_eq_true]
   refine ⟨hfl, fun x hx => ?_⟩
   obtain ⟨l, hl, hx⟩ := List.mem_flatten.1 hx
   obtain ⟨i, hi, rfl⟩ := memG hl []
   obtain ⟨j, hj, rfl⟩ := memG hx 0
   rw [hL.row i hi] at hj
   have := hL.bd (s := (i : Int)) (d := (j : Int)) ⟨by omega, by omega⟩ ⟨by omega, by omega⟩
   simp only [rg, tb, qN0] at this
   omega
  rw [← h, m13, B30, qB0, qD1 (show (2 : Int) ≤ t.length ∧ (t.length : Int) ≤ 10 by omega)]
  simp only [Bool.not_true, cond_false]
  rw [B31c32, if_pos (by simp only [eqL, bae, dtq, List.all_eq_true]; exact ⟨by omega, fun l hl => by rw [hrow l hl]⟩), qB0]
  simp only [cond_false]
  rw [B34, if_pos h34, qB0, B33c35, if_pos h33, qB0]
  simp only [cond_false]
  rw [B36, if_pos hh, qB0, cond_false]
 ·cases h⟩
def rowF (n : Nat) (p m : List Int) (s k : Nat) : List Int := (List.range k).map fun d : Nat => m.getD (((p.getD s 0 + (d : Int)) % (n : Int)).toNat) 0
theorem rowF_succ (n : Nat) (p m : List Int) (s k : Nat) : rowF n p m s (k + 1) = rowF n p m s k ++ [m.getD (((p.getD s 0 + (k : Int)) % (n : Int)).toNat) 0] := by
 rw [rowF, List.range_succ, List.map_append]; rfl
theorem rowF_at {n : Nat} {p m : List Int} {s d k : Nat} (h : d < k) : (rowF n p m s k).getD d 0 = m.getD (((p.getD s 0 + (d : Int)) % (n : Int)).toNat) 0 := by
 rw [getD_at (by simpa [rowF] using h)]; simp [rowF]
def tabF (n : Nat) (p m : List Int) : List (List Int) := (List.range n).map fun s => rowF n p m s n
def B12 (n : Int) (q1 q2 : List Int) : Option (List (List Int)) := m12 B6 60 n q1 q2
theorem KB12 : FnOk Try.prog 12 (F12 B12) := ok12 B6 KB6 B12 fun n q1 q2 r h => ⟨60, h⟩
theorem sget {l : List (List Int)} {i j : Nat} {x : List Int} (hi : i < l.length) : (l.set i x).getD j [] = if i = j then x else l.getD j [] := by
 rw [qG1, List.getElem?_set, qG1]
 by_cases e : i = j
 ·subst e; simp [hi]
 ·simp [e]
theorem pnd {n : Nat} {p : List Int} (hp : p.Perm (allI n)) : p.length = n ∧ (∀ k, k < n → 0 ≤ p.getD k 0 ∧ p.getD k 0 < n) ∧ ∀ i j, i < n → j < n → p.getD i 0 = p.getD j 0 → i = j := by
 have hl : p.length = n := by rw [hp.length_eq]; simp [allI]
 have hnd : p.Nodup := hp.nodup_iff.2 (List.pairwise_iff_getElem.2 fun i j hi hj hij => by simp [allI]; omega)
 refine ⟨hl, fun k hk => ?_, fun i j hi hj h => ?_⟩
 ·have hm : p.getD k 0 ∈ allI n := hp.mem_iff.1 (getD_mem (by omega))
  simp only [allI, List.mem_map, List.mem_range'] at hm
  obtain ⟨x, ⟨y, h1, h2⟩, h3⟩ := hm
  omega
 ·rw [getD_at (by omega), getD_at (by omega)] at h
  rcases Nat.lt_trichotomy i j with q | q | q
  ·exact absurd h (List.pairwise_iff_getElem.1 hnd i j (by omega) (by omega) q)
  ·exact q
  ·exact absurd h.symm (List.pairwise_iff_getElem.1 hnd j i (by omega) (by omega) q)
theorem lat_tabF {n : Nat} (hn : 2 ≤ n ∧ n ≤ 10) {p m : List Int} (hp : p.Perm (allI n)) (hm : m.Perm (allI n)) : (tabF n p m).length = n ∧ latB (tabF n p m) = true := by
 have hl : (tabF n p m).length = n := by simp [tabF]
 obtain ⟨p1, p2, p3⟩ := pnd hp
 obtain ⟨m1, m2, m3⟩ := pnd hm
 have hrow : ∀ s, s < n → (tabF n p m).getD s [] = rowF n p m s n := fun s hs => by
  rw [getD_at (by rw [hl]; exact hs)]; simp [tabF]
 have hix : ∀ s d, s < n → ((p.getD s 0 + (d : Int)) % (n : Int)).toNat < n := fun s d hs => by
  have := Int.emod_lt_of_pos (p.getD s 0 + (d : Int)) (show (0 : Int) < n by omega)
  have := Int.emod_nonneg (p.getD s 0 + (d : Int)) (show (n : Int) ≠ 0 by omega)
  omega
 have hent : ∀ s d, s < n → d < n → ((tabF n p m).getD s []).getD d 0 = m.getD (((p.getD s 0 + (d : Int)) % (n : Int)).toNat) 0 := fun s d hs hd => by rw [hrow s hs, rowF_at hd]
 -- equal numbers stand at equal places
 have key : ∀ s s' d d', s < n → s' < n → m.getD (((p.getD s 0 + (d : Int)) % (n : Int)).toNat) 0 = m.getD (((p.getD s' 0 + (d' : Int)) % (n : Int)).toNat) 0 → (p.getD s 0 + (d : Int)) % (n : Int) = (p.getD s' 0 + (d' : Int)) % (n : Int) := fun s s' d d' hs hs' h => by
  have h1 := m3 _ _ (hix s d hs) (hix s' d' hs') h
  have := Int.emod_nonneg (p.getD s 0 + (d : Int)) (show (n : Int) ≠ 0 by omega)
  have := Int.emod_nonneg (p.getD s' 0 + (d' : Int)) (show (n : Int) ≠ 0 by omega)
  omega
 -- two small numbers that are equal but for whole turns
 have turn : ∀ x a b : Int, 0 ≤ a → a < n → 0 ≤ b → b < n → (x + a) % (n : Int) = (x + b) % (n : Int) → a = b := fun x a b a0 a1 b0 b1 h => by
  have h2 : (a - b) % (n : Int) = 0 := by
   have := Int.emod_emod_of_dvd
   have e : a - b = (x + a) - (x + b) := by omega
   rw [e, Int.sub_emod, h, Int.sub_self, Int.zero_emod]
  obtain ⟨c, hc⟩ := Int.dvd_of_emod_eq_zero h2
  have hc0 : c = 0 := by
   rcases Int.lt_trichotomy c 0 with q | q | q
   ·have : (n : Int) * c ≤ (n : Int) * (-1) := Int.mul_le_mul_of_nonneg_left (by omega) (by omega)
    omega
   ·exact q
   ·have : (n : Int) * 1 ≤ (n : Int) * c := Int.mul_le_mul_of_nonneg_left (by omega) (by omega)
    omega
  rw [hc0, Int.mul_zero] at hc; omega
 refine ⟨hl, ?_⟩
 simp only [latB, hl, bae, dtq, List.all_eq_true, List.mem_range, Bool.or_eq_true]
 refine ⟨⟨hn, fun r hr => ?_⟩, fun s hs d hd e he => ⟨?_, ?_⟩⟩
 ·simp only [tabF, List.mem_map, List.mem_range] at hr
  obtain ⟨s, hs, rfl⟩ := hr
  refine ⟨by simp [rowF], fun x hx => ?_⟩
  simp only [rowF, List.mem_map, List.mem_range] at hx
  obtain ⟨d, hd, rfl⟩ := hx
  exact m2 _ (hix s d hs)
 ·rw [hent s d hs hd, hent s e hs he]
  by_cases q : d = e
  ·exact .inr q
  ·exact .inl fun h => q (by have := turn _ _ _ (by omega) (by omega) (by omega) (by omega) (key s s d e hs hs h); omega)
 ·rw [hent d s hd hs, hent e s he hs]
  by_cases q : d = e
  ·exact .inr q
  ·refine .inl fun h => q (p3 d e hd he ?_)
   have h2 := key d e s s hd he h
   rw [Int.add_comm (p.getD d 0), Int.add_comm (p.getD e 0)] at h2
   exact turn _ _ _ (p2 d hd).1 (p2 d hd).2 (p2 e he).1 (p2 e he).2 h2
theorem B12_ok {n : Nat} (hn : 2 ≤ n ∧ n ≤ 6) {q1 q2 : List Int} (h1 : True ∧ ∀ x ∈ q1, 0 ≤ x ∧ x ≤ 255) (h2 : True ∧ ∀ x ∈ q2, 0 ≤ x ∧ x ≤ 255) : ∃ t, B12 n q1 q2 = some t ∧ t.length = n ∧ latB t = true := by
 obtain ⟨p, hp, pp⟩ := B6_ok (n := n) (by omega) h1
 obtain ⟨m, hm, mm⟩ := B6_ok (n := n) (by omega) h2
 obtain ⟨p1, p2, p3⟩ := pnd pp
 obtain ⟨m1, m2, m3⟩ := pnd mm
 obtain ⟨l1, l2⟩ := lat_tabF (n := n) (by omega) pp mm
 refine ⟨tabF n p m, ?_, l1, l2⟩
 rw [B12, m12, hp, qB0, hm, qB0, chk_of (by simp [mkOk]; omega)]
 refine countP' 0 (n : Int) (by omega) (fun k (z : List (List Int)) i => l12a B6 60 (n : Int) p m k i z) (fun i z => z = (List.range i.toNat).map (fun s => rowF n p m s n) ++ List.replicate (n - i.toNat) []) (fun x => x = some (tabF n p m)) (fun k z i a b hI ih => ?_) (fun k z hI => ?_) 60 _ (by omega) (by simp)
 ·obtain ⟨s, rfl⟩ : ∃ q : Nat, i = q := ⟨i.toNat, by omega⟩
  have hs : s < n := by omega
  rw [qN0] at hI
  rw [show ((s : Int) + 1).toNat = s + 1 by omega] at ih
  have hz : z.length = n := by rw [hI]; simp; omega
  have hz0 : z.getD s [] = [] := by
   rw [hI, qG1, List.getElem?_append_right (by simp)]
   obtain ⟨j, hj⟩ : ∃ j, n - s = j + 1 := ⟨n - s - 1, by omega⟩
   rw [hj, List.replicate_succ]; simp
  have hfin : z.set s (rowF n p m s n) = (List.range (s + 1)).map (fun s => rowF n p m s n) ++ List.replicate (n - (s + 1)) [] := by
   rw [hI, List.set_append_right _ _ (by simp)]
   obtain ⟨j, hj⟩ : ∃ j, n - s = j + 1 := ⟨n - s - 1, by omega⟩
   rw [hj, show n - (s + 1) = j by omega, List.length_map, List.length_range, Nat.sub_self, List.replicate_succ, List.set_cons_zero, List.range_succ, List.map_append, List.append_assoc]; rfl
  simp only [l12a, qN0, List.length_replicate, ixA hs, cond_true]
  refine countP' 0 (n : Int) (by omega) (fun k2 (z2 : List (List Int)) d => l12b B6 60 (n : Int) p m (s : Int) (fun y0 y1 => l12a B6 60 (n : Int) p m k y0 y1) k2 d z2) (fun d z2 => z2 = z.set s (rowF n p m s d.toNat)) (fun x => x = some (tabF n p m)) (fun k2 z2 d a b hI2 ih2 => ?_) (fun k2 z2 hI2 => ?_) 60 z (by omega) (by
   simp only [rowF, Int.toNat_zero, List.range_zero, List.map_nil]
   have : z.set s (z.getD s []) = z := by rw [getD_at (by omega), List.set_getElem_self]
   rw [hz0] at this; exact this.symm)
  ·obtain ⟨c, rfl⟩ : ∃ q : Nat, d = q := ⟨d.toNat, by omega⟩
   have hc : c < n := by omega
   rw [qN0] at hI2
   rw [show ((c : Int) + 1).toNat = c + 1 by omega] at ih2
   subst hI2
   have hps := p2 s hs
   have hw : w64 (p.getD s 0 + (c : Int)) = p.getD s 0 + (c : Int) := w64_small (by omega)
   have hnn := Int.emod_nonneg (p.getD s 0 + (c : Int)) (show (n : Int) ≠ 0 by omega)
   have hlt := Int.emod_lt_of_pos (p.getD s 0 + (c : Int)) (show (0 : Int) < n by omega)
   have hsz : s < (z.set s (rowF n p m s c)).length := by rw [List.length_set]; omega
   have hsp : s < p.length := by omega
   simp only [l12b, ixA hc, cond_true, ixB hsz, ixB hsp, chk_true, qN0, hw]
   rw [tmod_emod (by omega), chk_dec (by omega), chk_dec (by omega), sget (by omega), if_pos rfl, chk_of (small_of (by simp [rowF]; omega) (by decide)), chk_of (by simp), List.set_set, ← rowF_succ, w64_small (x := (c : Int) + 1) (by omega)]
   exact ih2 _ rfl
  ·subst hI2
   rw [qN0]
   simp only [l12b, ixE, cond_false]
   rw [w64_small (by omega), hfin]
   exact ih _ rfl
 ·rw [qN0, Nat.sub_self, List.replicate_zero, List.append_nil] at hI
  subst hI
  simp only [l12a, qN0, List.length_replicate, ixE, cond_false]
  rfl
structure Two (t : List (List Int)) (n a b : Nat) : Prop where
 lat : Lat t
 len : t.length = n
 an : a < n
 bn : b < n
 ne : a ≠ b
def eT4 (t : List (List Int)) (r c : Nat) : Int := (t.getD r []).getD c 0
section
variable {t : List (List Int)} {n a b : Nat}
theorem Two.rgn (h : Two t n a b) {k : Nat} (hk : k < n) : rg t (k : Int) := ⟨by omega, by rw [h.len]; omega⟩
theorem Two.tbe (t : List (List Int)) (r c : Nat) : tb t (r : Int) (c : Int) = eT4 t r c := by simp [tb, eT4]
theorem Two.bd (h : Two t n a b) {r c : Nat} (hr : r < n) (hc : c < n) : 0 ≤ eT4 t r c ∧ eT4 t r c < n := by
 have := h.lat.bd (h.rgn hr) (h.rgn hc)
 rw [Two.tbe] at this
 unfold rg at this; rw [h.len] at this; exact this
theorem Two.ri (h : Two t n a b) {r c d : Nat} (hr : r < n) (hc : c < n) (hd : d < n) (e : eT4 t r c = eT4 t r d) : c = d := by
 have := h.lat.ri (h.rgn hr) (h.rgn hc) (h.rgn hd) (by rw [Two.tbe, Two.tbe]; exact e)
 omega
theorem Two.ci (h : Two t n a b) {r c d : Nat} (hr : r < n) (hc : c < n) (hd : d < n) (e : eT4 t c r = eT4 t d r) : c = d := by
 have := h.lat.ci (h.rgn hr) (h.rgn hc) (h.rgn hd) (by rw [Two.tbe, Two.tbe]; exact e)
 omega
theorem Two.col (h : Two t n a b) {v : Nat} (hv : v < n) {r : Nat} (hr : r < n) : ∃ c, c < n ∧ eT4 t r c = v := by
 have hm := lat_has h.lat (h.rgn hr) (h.rgn hv)
 rw [qN0] at hm
 obtain ⟨i, hi, e⟩ := memG hm 0
 rw [h.lat.row r (by rw [h.len]; exact hr), h.len] at hi
 exact ⟨i, hi, e⟩
theorem Two.row (h : Two t n a b) {v : Nat} (hv : v < n) {c : Nat} (hc : c < n) : ∃ r, r < n ∧ eT4 t r c = v := by
 apply Classical.byContradiction
 intro hno
 have hnd : ((v : Int) :: (List.range n).map fun r => eT4 t r c).Nodup := by
  refine List.nodup_cons.2 ⟨fun hm => ?_, List.pairwise_iff_getElem.2 fun i j hi hj hij => ?_⟩
  ·obtain ⟨r, hr, e⟩ := List.mem_map.1 hm
   exact hno ⟨r, List.mem_range.1 hr, e⟩
  ·simp only [List.length_map, List.length_range] at hi hj
   simp only [List.getElem_map, List.getElem_range]
   intro e
   have := h.ci hc hi hj e; omega
 have hsub : ∀ y ∈ (v : Int) :: (List.range n).map (fun r => eT4 t r c), y ∈ (List.range n).map fun i : Nat => (i : Int) := fun y hy => by
  rcases List.mem_cons.1 hy with q | q
  ·rw [q]; exact List.mem_map.2 ⟨v, List.mem_range.2 hv, rfl⟩
  ·obtain ⟨r, hr, rfl⟩ := List.mem_map.1 q
   have := h.bd (List.mem_range.1 hr) hc
   exact List.mem_map.2 ⟨(eT4 t r c).toNat, List.mem_range.2 (by omega), by omega⟩
 have := hnd.length_le_of_subset hsub
 simp at this; omega
noncomputable def Two.ca (h : Two t n a b) (r : Nat) : Nat := if hr : r < n then Classical.choose (h.col h.an hr) else 0
theorem Two.ca_ok (h : Two t n a b) {r : Nat} (hr : r < n) : h.ca r < n ∧ eT4 t r (h.ca r) = a := by
 unfold Two.ca; rw [dif_pos hr]; exact Classical.choose_spec (h.col h.an hr)
noncomputable def Two.cb (h : Two t n a b) (r : Nat) : Nat := if hr : r < n then Classical.choose (h.col h.bn hr) else 0
theorem Two.cb_ok (h : Two t n a b) {r : Nat} (hr : r < n) : h.cb r < n ∧ eT4 t r (h.cb r) = b := by
 unfold Two.cb; rw [dif_pos hr]; exact Classical.choose_spec (h.col h.bn hr)
noncomputable def Two.rb (h : Two t n a b) (c : Nat) : Nat := if hc : c < n then Classical.choose (h.row h.bn hc) else 0
theorem Two.rb_ok (h : Two t n a b) {c : Nat} (hc : c < n) : h.rb c < n ∧ eT4 t (h.rb c) c = b := by
 unfold Two.rb; rw [dif_pos hc]; exact Classical.choose_spec (h.row h.bn hc)
noncomputable def Two.nx (h : Two t n a b) (r : Nat) : Nat := h.rb (h.ca r)
theorem Two.nx_lt (h : Two t n a b) {r : Nat} (hr : r < n) : h.nx r < n := (h.rb_ok (h.ca_ok hr).1).1
theorem Two.nx_inj (h : Two t n a b) {r s : Nat} (hr : r < n) (hs : s < n) (e : h.nx r = h.nx s) : r = s := by
 obtain ⟨a1, a2⟩ := h.ca_ok hr
 obtain ⟨b1, b2⟩ := h.ca_ok hs
 obtain ⟨c1, c2⟩ := h.rb_ok a1
 obtain ⟨d1, d2⟩ := h.rb_ok b1
 have e' : h.rb (h.ca r) = h.rb (h.ca s) := e
 rw [e'] at c2
 have ec := h.ri d1 a1 b1 (c2.trans d2.symm)
 rw [ec] at a2
 exact h.ci b1 hr hs (a2.trans b2.symm)
structure Rds (t : List (List Int)) (n a b : Nat) (bs : List Bz) : Prop where
 ok : ∀ x ∈ bs, okB n x = true ∧ (eT4 t x.1.toNat x.2.1.toNat = a ∨ eT4 t x.1.toNat x.2.1.toNat = b)
 all : ∀ r c, r < n → c < n → (eT4 t r c = a ∨ eT4 t r c = b) → ∃ x ∈ bs, x.1.toNat = r ∧ x.2.1.toNat = c
theorem Rds.okBs {bs : List Bz} (h : Rds t n a b bs) : okBs n bs := fun x hx => (h.ok x hx).1
theorem Rds.edge {bs : List Bz} (h : Rds t n a b bs) {r c : Nat} (hr : r < n) (hc : c < n) (e : eT4 t r c = a ∨ eT4 t r c = b) : rch n bs r (n + c) = true ∧ rch n bs (n + c) r = true := by
 obtain ⟨x, hx, h1, h2⟩ := h.all r c hr hc e
 exact ⟨rch_edge h.okBs hx (.inl ⟨h1.symm, by rw [h2]⟩), rch_edge h.okBs hx (.inr ⟨by rw [h2], h1.symm⟩)⟩
noncomputable def Two.it (h : Two t n a b) : Nat → Nat → Nat
 | 0, s => s
 | k + 1, s => h.nx (Two.it h k s)
theorem Two.it_lt (h : Two t n a b) {s : Nat} (hs : s < n) : ∀ k, h.it k s < n
 | 0 => hs
 | k + 1 => h.nx_lt (h.it_lt hs k)
theorem Two.it_rch (h : Two t n a b) {bs : List Bz} (hb : Rds t n a b bs) {s : Nat} (hs : s < n) : ∀ k, rch n bs s (h.it k s) = true
 | 0 => rch_self s
 | k + 1 => by
  have hk := h.it_lt hs k
  obtain ⟨a1, a2⟩ := h.ca_ok hk
  obtain ⟨c1, c2⟩ := h.rb_ok a1
  exact rch_trans hb.okBs (by omega) (h.it_rch hb hs k) (rch_trans hb.okBs (by omega) (hb.edge hk a1 (.inl a2)).1 (hb.edge c1 a1 (.inr c2)).2)
theorem Two.it_all (h : Two t n a b) {bs : List Bz} (hb : Rds t n a b bs) {s k : Nat} (hs : s < n) (hk : 0 < k) (he : h.it k s = s) {y : Nat} (hy : y < n) (hr : rch n bs s y = true) : ∃ j, j < k ∧ h.it j s = y := by
 have key := rch_min hb.okBs (T := fun z => (z < n ∧ ∃ j, j < k ∧ h.it j s = z) ∨ (n ≤ z ∧ ∃ j, j < k ∧ h.ca (h.it j s) = z - n)) (fun x hx p q hed hT => by
  obtain ⟨o1, o2⟩ := hb.ok x hx
  obtain ⟨x1, x2, _⟩ := okB_at o1
  have r1 : x.1.toNat < n := by omega
  have r2 : x.2.1.toNat < n := by omega
  unfold Go.Proofs.Ytplbdongegfdnaa.edge at hed
  revert o2 r1 r2 hed
  generalize x.1.toNat = r
  generalize x.2.1.toNat = c
  intro hed o2 r1 r2
  replace hT := (show (p < n ∧ ∃ j, j < k ∧ h.it j s = p) ∨ (n ≤ p ∧ ∃ j, j < k ∧ h.ca (h.it j s) = p - n) from hT)
  show (q < n ∧ ∃ j, j < k ∧ h.it j s = q) ∨ (n ≤ q ∧ ∃ j, j < k ∧ h.ca (h.it j s) = q - n)
  rcases hed with ⟨ep, eq⟩ | ⟨ep, eq⟩ <;> (rw [ep] at hT; rw [eq]; clear ep eq)
  ·refine .inr ⟨by omega, ?_⟩
   rw [Nat.add_sub_cancel_left]
   obtain ⟨j, hj, e⟩ : ∃ j, j < k ∧ h.it j s = r := by
    rcases hT with ⟨_, g⟩ | ⟨g, _⟩
    ·exact g
    ·omega
   rcases o2 with o | o
   ·exact ⟨j, hj, by rw [e]; exact h.ri r1 (h.ca_ok r1).1 r2 ((h.ca_ok r1).2.trans o.symm)⟩
   ·-- the row whose next one is p
    have pre : ∃ i, i < k ∧ h.it (i + 1) s = r := by
     cases j with
     | zero => exact ⟨k - 1, by omega, by rw [show k - 1 + 1 = k by omega, he]; exact e⟩
     | succ j => exact ⟨j, by omega, e⟩
    obtain ⟨i, hi, ei⟩ := pre
    refine ⟨i, hi, ?_⟩
    have hil := h.it_lt hs i
    obtain ⟨a1, a2⟩ := h.ca_ok hil
    obtain ⟨c1, c2⟩ := h.rb_ok a1
    have e2 : h.rb (h.ca (h.it i s)) = r := ei
    rw [e2] at c2
    exact h.ri r1 a1 r2 (c2.trans o.symm)
  ·refine .inl ⟨r1, ?_⟩
   obtain ⟨j, hj, e⟩ : ∃ j, j < k ∧ h.ca (h.it j s) = c := by
    rcases hT with ⟨g, _⟩ | ⟨_, g⟩
    ·omega
    ·rwa [Nat.add_sub_cancel_left] at g
   have hjl := h.it_lt hs j
   obtain ⟨a1, a2⟩ := h.ca_ok hjl
   rw [e] at a2
   rcases o2 with o | o
   ·exact ⟨j, hj, h.ci r2 hjl r1 (a2.trans o.symm)⟩
   ·have e3 : h.it (j + 1) s = r := by
     show h.rb (h.ca (h.it j s)) = r
     rw [e]
     obtain ⟨c1, c2⟩ := h.rb_ok r2
     exact h.ci r2 c1 r1 (c2.trans o.symm)
    by_cases l : j + 1 < k
    ·exact ⟨j + 1, l, e3⟩
    ·exact ⟨0, hk, by rw [← e3, show j + 1 = k by omega, he]; rfl⟩) (.inl ⟨hs, 0, hk, rfl⟩) hr
 rcases key with ⟨_, g⟩ | ⟨g, _⟩
 ·exact g
 ·omega
theorem rep_row (h : Two t n a b) {bs : List Bz} (hb : Rds t n a b bs) {k : Nat} (hk : n ≤ k) (hk2 : k < 2 * n) : rep n bs k = false := by
 cases e : rep n bs k with
 | false => rfl
 | true =>
  obtain ⟨c1, c2⟩ := h.rb_ok (c := k - n) (by omega)
  have := (hb.edge c1 (show k - n < n by omega) (.inr c2)).1
  rw [show n + (k - n) = k by omega] at this
  rw [rep_iff.1 e _ (by omega)] at this; cases this
theorem cmp_rows (h : Two t n a b) {bs : List Bz} (hb : Rds t n a b bs) : cmp n bs = (List.range n).countP (rep n bs) := by
 have e : List.range (2 * n) = List.range n ++ (List.range n).map (n + ·) := by rw [show 2 * n = n + n by omega, List.range_add]
 rw [cmp, e, List.countP_append]
 have : ((List.range n).map (n + ·)).countP (rep n bs) = 0 := List.countP_eq_zero.2 fun x hx => by
  obtain ⟨c, hc, rfl⟩ := List.mem_map.1 hx
  rw [List.mem_range] at hc
  rw [rep_row h hb (by omega) (by omega)]; simp
 omega
def ws4 (t : List (List Int)) (a b : Nat) : List (List Int) := t.map fun l => l.map fun x : Int => if x = (a : Int) ∨ x = (b : Int) then (1 : Int) else 0
theorem ws4_at (h : Two t n a b) {r c : Nat} (hr : r < n) (hc : c < n) : enT (ws4 t a b) r c = if eT4 t r c = a ∨ eT4 t r c = b then 1 else 0 := by
 have hlr : r < t.length := by rw [h.len]; exact hr
 rw [enT, ws4, getD_map _ t hlr [] [], getD_map _ _ (by rw [h.lat.row r hlr, h.len]; exact hc) 0 0]; rfl
theorem ws4_mx (h : Two t n a b) : Mx n 2 (ws4 t a b) := by
 have two : ∀ (x y : Nat), x < n → y < n → x ≠ y → sm n (fun c => (if c = x then (1 : Int) else 0) + if c = y then (1 : Int) else 0) = 2 := fun x y hx hy _ => by
  rw [sm_add, sm_one, sm_one, if_pos hx, if_pos hy]; rfl
 refine ⟨by simp [ws4, h.len], fun r hr => ?_, fun r c hr hc => ?_, fun r hr => ?_, fun c hc => ?_⟩
 ·have hlr : r < t.length := by rw [h.len]; exact hr
  rw [ws4, getD_map _ t hlr [] [], List.length_map, h.lat.row r hlr, h.len]
 ·rw [ws4_at h hr hc]; split <;> omega
 ·obtain ⟨a1, a2⟩ := h.ca_ok hr
  obtain ⟨b1, b2⟩ := h.cb_ok hr
  have hne : h.ca r ≠ h.cb r := fun e => by rw [e] at a2; have := h.ne; omega
  rw [sm_congr (g := fun c => (if c = h.ca r then (1 : Int) else 0) + if c = h.cb r then (1 : Int) else 0) fun c hc => ?_, two _ _ a1 b1 hne]
  rw [ws4_at h hr hc]
  by_cases q1 : c = h.ca r
  ·rw [if_pos (.inl (by rw [q1]; exact a2)), if_pos q1, if_neg (by rw [q1]; exact hne)]; rfl
  ·by_cases q2 : c = h.cb r
   ·rw [if_pos (.inr (by rw [q2]; exact b2)), if_neg q1, if_pos q2]; rfl
   ·rw [if_neg (fun q => by
     rcases q with q | q
     ·exact q1 (h.ri hr hc a1 (q.trans a2.symm))
     ·exact q2 (h.ri hr hc b1 (q.trans b2.symm))), if_neg q1, if_neg q2]; rfl
 ·obtain ⟨x, a1, a2⟩ := h.row h.an hc
  obtain ⟨y, b1, b2⟩ := h.row h.bn hc
  have hne : x ≠ y := fun e => by rw [e] at a2; have := h.ne; omega
  rw [sm_congr (g := fun r => (if r = x then (1 : Int) else 0) + if r = y then (1 : Int) else 0) fun r hr => ?_, two _ _ a1 b1 hne]
  rw [ws4_at h hr hc]
  by_cases q1 : r = x
  ·rw [if_pos (.inl (by rw [q1]; exact a2)), if_pos q1, if_neg (by rw [q1]; exact hne)]; rfl
  ·by_cases q2 : r = y
   ·rw [if_pos (.inr (by rw [q2]; exact b2)), if_neg q1, if_pos q2]; rfl
   ·rw [if_neg (fun q => by
     rcases q with q | q
     ·exact q1 (h.ci hc hr a1 (q.trans a2.symm))
     ·exact q2 (h.ci hc hr b1 (q.trans b2.symm))), if_neg q1, if_neg q2]; rfl
theorem Rds.hall (h : Two t n a b) {bs : List Bz} (hb : Rds t n a b bs) : (∀ x ∈ bs, okB n x = true ∧ 0 < enT (ws4 t a b) x.1.toNat x.2.1.toNat) ∧
  ∀ r c, r < n → c < n → 0 < enT (ws4 t a b) r c → ∃ i, i < bs.length ∧ (bs.getD i (0, 0, 0, ())).1.toNat = r ∧ (bs.getD i (0, 0, 0, ())).2.1.toNat = c := by
 refine ⟨fun x hx => ?_, fun r c hr hc hp => ?_⟩
 ·obtain ⟨o1, o2⟩ := hb.ok x hx
  obtain ⟨x1, x2, _⟩ := okB_at o1
  exact ⟨o1, by rw [ws4_at h (by omega) (by omega), if_pos o2]; decide⟩
 ·rw [ws4_at h hr hc] at hp
  split at hp
  ·rename_i o
   obtain ⟨x, hx, e1, e2⟩ := hb.all r c hr hc o
   obtain ⟨i, hi, e⟩ := mem_getD hx (0, 0, 0, ())
   exact ⟨i, hi, by rw [e]; exact e1, by rw [e]; exact e2⟩
  ·omega
theorem detour (h : Two t n a b) {bs : List Bz} (hb : Rds t n a b bs) {e : Nat} (he : e < bs.length) : (frN (arr n (e : Int) bs) (bs.getD e (0, 0, 0, ())).1.toNat).testBit (n + (bs.getD e (0, 0, 0, ())).2.1.toNat) = true := by
 obtain ⟨hb1, hall⟩ := hb.hall h
 have hm := ws4_mx h
 have hok := hb.okBs
 have oke := arr_ok (w := (e : Int)) hok
 obtain ⟨be, hbe⟩ : ∃ x, x = bs.getD e (0, 0, 0, ()) := ⟨_, rfl⟩
 have hbm : be ∈ bs := by rw [hbe]; exact getD_mem he
 obtain ⟨x1, x2, _⟩ := okB_at (hok be hbm)
 rw [← hbe]
 obtain ⟨r0, hr0⟩ : ∃ r, r = be.1.toNat := ⟨_, rfl⟩
 obtain ⟨c0, hc0⟩ : ∃ c, c = be.2.1.toNat := ⟨_, rfl⟩
 rw [← hr0, ← hc0]
 have lr : r0 < n := by omega
 have lc : c0 < n := by omega
 apply Classical.byContradiction
 intro hno
 obtain ⟨S, hS⟩ : ∃ S, S = frN (arr n (e : Int) bs) r0 := ⟨_, rfl⟩
 rw [← hS] at hno
 have hcl : ∀ i, i < bs.length → i ≠ e → ∀ k j, Go.Proofs.Ytplbdongegfdnaa.edge n (bs.getD i (0, 0, 0, ())) k j → S.testBit k = true → S.testBit j = true := fun i hi hne k j hed hk => by
  have hkl := (edge_lt (hok _ (getD_mem hi)) hed).1
  rw [hS] at hk ⊢
  exact fr_closed oke (by rw [arr_len]; omega) (by rw [arr_len]; exact hkl) hk ((arr_bit hok k j).2 ⟨i, hi, by omega, hed⟩)
 have h2 := bridge hm.2.2.1 hm.2.2.2.1 hm.2.2.2.2 (R := fun r => S.testBit r) (C := fun c => S.testBit (n + c)) lr lc (by rw [hS]; exact fr_self _ r0) (by
   cases q : S.testBit (n + c0) with
   | false => rfl
   | true => exact absurd q hno) (by rw [hr0, hc0]; exact (hb1 be hbm).2) (fun r c hr hc hne hz => by
  obtain ⟨i, hi, e1, e2⟩ := hall r c hr hc (by have := hm.2.2.1 r c hr hc; omega)
  have hie : i ≠ e := fun q => hne ⟨by rw [← e1, q, ← hbe, hr0], by rw [← e2, q, ← hbe, hc0]⟩
  rw [Bool.eq_iff_iff]
  exact ⟨hcl i hi hie _ _ (.inl ⟨e1.symm, by rw [e2]⟩), hcl i hi hie _ _ (.inr ⟨by rw [e2], e1.symm⟩)⟩)
 rw [ws4_at h lr lc] at h2
 split at h2 <;> omega
end
theorem works17 : A17 = some true := by kernel_rfl
theorem K17t : FnOk Try.prog 17 (F17 (some true)) := works17 ▸ K17
structure Prm (base one3 two4 : Int) (n a b : Nat) : Prop where
 n6 : 2 ≤ n ∧ n ≤ 6
 hN : w64 (2 + Int.tmod (w64 base) 5) = (n : Int)
 hA : Int.tmod (w64 one3) (n : Int) = (a : Int)
 hB : Int.tmod (w64 (w64 ((a : Int) + 1) + Int.tmod (w64 two4) (w64 ((n : Int) - 1)))) (n : Int) = (b : Int)
section
variable {t : List (List Int)} {n a b : Nat} {base one3 two4 : Int}
theorem l4c_ok (h : Two t n a b) (hp : Prm base one3 two4 n a b) {s d : Nat} (hs : s < n) (hd : d < n) (bs : List Bz) {nx : List Int} (hl : nx.length = n) (rec : Int → List Bz → List Int → Option Bool) :
  l4c B10 B11 B12 B13 B14 B15 B16 (some true) 60 base one3 two4 t (s : Int) (d : Int) bs rec 60 0 nx = rec (w64 ((d : Int) + 1)) (bs ++ [((s : Int), ((d : Int), ((0 : Int), ())))]) (nx.set s (h.rb d : Int)) := by
 have n6 := hp.n6
 obtain ⟨r1, r2⟩ := h.rb_ok hd
 refine countP' 0 (n : Int) (by omega) (fun m (z : List Int) i => l4c B10 B11 B12 B13 B14 B15 B16 (some true) 60 base one3 two4 t (s : Int) (d : Int) bs rec m i z) (fun i z => z = if h.rb d < i.toNat then nx.set s (h.rb d : Int) else nx) (fun x => x = rec (w64 ((d : Int) + 1)) (bs ++ [((s : Int), ((d : Int), ((0 : Int), ())))]) (nx.set s (h.rb d : Int))) (fun m z i a' b' hI ih => ?_) (fun m z hI => ?_) 60 nx (by omega) (by simp)
 ·obtain ⟨o, rfl⟩ : ∃ q : Nat, i = q := ⟨i.toNat, by omega⟩
  have ho : o < n := by omega
  have ho' : o < t.length := by rw [h.len]; exact ho
  have hd' : d < (t.getD o []).length := by rw [h.lat.row o ho', h.len]; exact hd
  rw [qN0] at hI
  have hzl : z.length = n := by rw [hI]; split <;> simp [hl]
  simp only [l4c, ixA ho', ixB ho', ixB hd', cond_true, chk_true, qN0, hp.hN, hp.hA, hp.hB]
  rw [w64_small (x := (o : Int) + 1) (by omega), show (t.getD o []).getD d 0 = eT4 t o d from rfl]
  by_cases q : o = h.rb d
  ·rw [q, r2]
   simp only [beq_self_eq_true, cond_true]
   rw [chk_dec (by omega)]
   have e := ih (nx.set s (h.rb d : Int)) (by rw [if_pos (by omega)])
   rw [q] at e hI
   rw [hI, if_neg (by omega)]
   exact e
  ·rw [show (eT4 t o d == (b : Int)) = false by rw [beq_eq_false_iff_ne]; exact fun e => q (h.ci hd ho r1 (e.trans r2.symm)), cond_false]
   refine ih z ?_
   rw [hI]
   by_cases q2 : h.rb d < o
   ·rw [if_pos q2, if_pos (by omega)]
   ·rw [if_neg q2, if_neg (by omega)]
 ·rw [qN0, if_pos r1] at hI
  subst hI
  simp only [l4c, h.len, ixE, cond_false]
structure Jv (h : Two t n a b) (s d : Nat) (bs : List Bz) (nx : List Int) : Prop where
 ok : ∀ x ∈ bs, okB n x = true ∧ (eT4 t x.1.toNat x.2.1.toNat = a ∨ eT4 t x.1.toNat x.2.1.toNat = b)
 all : ∀ r c, r < n → c < n → (r < s ∨ (r = s ∧ c < d)) → (eT4 t r c = a ∨ eT4 t r c = b) → ∃ x ∈ bs, x.1.toNat = r ∧ x.2.1.toNat = c
 len : bs.length = 2 * s + (if h.ca s < d then 1 else 0) + (if h.cb s < d then 1 else 0)
 nl : nx.length = n
 nv : ∀ r, r < n → (r < s ∨ (r = s ∧ h.ca s < d)) → nx.getD r 0 = (h.nx r : Int)
theorem iget {l : List Int} {i j : Nat} {x : Int} (hi : i < l.length) : (l.set i x).getD j 0 = if i = j then x else l.getD j 0 := by
 rw [qG1, List.getElem?_set, qG1]
 by_cases e : i = j
 ·subst e; simp [hi]
 ·simp [e]
theorem Jv.step (h : Two t n a b) {s d : Nat} {bs : List Bz} {nx : List Int} (j : Jv h s d bs nx) (hs : s < n) (hd : d < n) :
  (eT4 t s d = a → Jv h s (d + 1) (bs ++ [((s : Int), ((d : Int), ((0 : Int), ())))]) (nx.set s (h.rb d : Int))) ∧ (eT4 t s d = b → Jv h s (d + 1) (bs ++ [((s : Int), ((d : Int), ((0 : Int), ())))]) nx) ∧
  (eT4 t s d ≠ a → eT4 t s d ≠ b → Jv h s (d + 1) bs nx) := by
 obtain ⟨a1, a2⟩ := h.ca_ok hs
 obtain ⟨b1, b2⟩ := h.cb_ok hs
 have hab := h.ne
 have ia : eT4 t s d = a ↔ h.ca s = d := ⟨fun e => h.ri hs a1 hd (a2.trans e.symm), fun e => by rw [← e]; exact a2⟩
 have ib : eT4 t s d = b ↔ h.cb s = d := ⟨fun e => h.ri hs b1 hd (b2.trans e.symm), fun e => by rw [← e]; exact b2⟩
 have okx : ∀ x ∈ bs ++ [((s : Int), ((d : Int), ((0 : Int), ())))], (eT4 t s d = a ∨ eT4 t s d = b) → okB n x = true ∧ (eT4 t x.1.toNat x.2.1.toNat = a ∨ eT4 t x.1.toNat x.2.1.toNat = b) := fun x hx o => by
  rcases List.mem_append.1 hx with q | q
  ·exact j.ok x q
  ·rw [List.mem_singleton.1 q]
   exact ⟨by simp [okB]; omega, by simpa using o⟩
 have allx : ∀ r c, r < n → c < n → (r < s ∨ (r = s ∧ c < d + 1)) → (eT4 t r c = a ∨ eT4 t r c = b) → ∃ x ∈ bs ++ [((s : Int), ((d : Int), ((0 : Int), ())))], x.1.toNat = r ∧ x.2.1.toNat = c := fun r c hr hc q o => by
  by_cases e : r = s ∧ c = d
  ·exact ⟨((s : Int), ((d : Int), ((0 : Int), ()))), by simp, by simp [e.1], by simp [e.2]⟩
  ·obtain ⟨x, hx, e1⟩ := j.all r c hr hc (by omega) o
   exact ⟨x, by simp [hx], e1⟩
 refine ⟨fun e => ?_, fun e => ?_, fun e1 e2 => ?_⟩
 ·have ed := ia.1 e
  have nb : h.cb s ≠ d := fun q => by have := ib.2 q; omega
  refine ⟨fun x hx => okx x hx (.inl e), allx, ?_, by rw [List.length_set]; exact j.nl, fun r hr q => ?_⟩
  ·rw [qL1, List.length_singleton, j.len, if_neg (show ¬ h.ca s < d by omega), if_pos (show h.ca s < d + 1 by omega)]
   by_cases q : h.cb s < d
   ·rw [if_pos q, if_pos (by omega)]
   ·rw [if_neg q, if_neg (by omega)]
  ·rw [iget (by rw [j.nl]; exact hs)]
   by_cases q2 : s = r
   ·rw [if_pos q2, ← q2]; show _ = ((h.rb (h.ca s) : Nat) : Int); rw [ed]
   ·rw [if_neg q2]; exact j.nv r hr (.inl (by omega))
 ·have ed := ib.1 e
  have na : h.ca s ≠ d := fun q => by have := ia.2 q; omega
  refine ⟨fun x hx => okx x hx (.inr e), allx, ?_, j.nl, fun r hr q => j.nv r hr (by omega)⟩
  rw [qL1, List.length_singleton, j.len, if_neg (show ¬ h.cb s < d by omega), if_pos (show h.cb s < d + 1 by omega)]
  by_cases q : h.ca s < d
  ·rw [if_pos q, if_pos (by omega)]
  ·rw [if_neg q, if_neg (by omega)]
 ·have na : h.ca s ≠ d := fun q => e1 (ia.2 q)
  have nb : h.cb s ≠ d := fun q => e2 (ib.2 q)
  refine ⟨j.ok, fun r c hr hc q o => j.all r c hr hc ?_ o, ?_, j.nl, fun r hr q => j.nv r hr (by omega)⟩
  ·rcases q with q | ⟨q1, q2⟩
   ·exact .inl q
   ·refine .inr ⟨q1, ?_⟩
    have : c ≠ d := fun z => by rw [q1, z] at o; rcases o with o | o <;> contradiction
    omega
  ·rw [j.len]
   congr 1
   ·congr 1
    by_cases q : h.ca s < d
    ·rw [if_pos q, if_pos (by omega)]
    ·rw [if_neg q, if_neg (by omega)]
   ·by_cases q : h.cb s < d
    ·rw [if_pos q, if_pos (by omega)]
    ·rw [if_neg q, if_neg (by omega)]
theorem l4b_ok (h : Two t n a b) (hp : Prm base one3 two4 n a b) {s : Nat} (hs : s < n) (rec : Int → List Bz → List Int → Option Bool) (hrec : ∀ bs nx, Jv h (s + 1) 0 bs nx → rec (w64 ((s : Int) + 1)) bs nx = some true) {bs : List Bz} {nx : List Int} (j : Jv h s 0 bs nx) :
  l4b B10 B11 B12 B13 B14 B15 B16 (some true) 60 base one3 two4 t (s : Int) rec 60 0 bs nx = some true := by
 have n6 := hp.n6
 have hs' : s < t.length := by rw [h.len]; exact hs
 have hrow : (t.getD s []).length = n := by rw [h.lat.row s hs', h.len]
 have hab := h.ne
 refine countP' 0 (n : Int) (by omega) (fun m (z : List Bz × List Int) i => l4b B10 B11 B12 B13 B14 B15 B16 (some true) 60 base one3 two4 t (s : Int) rec m i z.1 z.2) (fun i z => Jv h s i.toNat z.1 z.2) (fun x => x = some true) (fun m z i a' b' hI ih => ?_) (fun m z hI => ?_) 60 (bs, nx) (by omega) j
 ·obtain ⟨d, rfl⟩ : ∃ q : Nat, i = q := ⟨i.toNat, by omega⟩
  have hd : d < n := by omega
  have hd' : d < (t.getD s []).length := by rw [hrow]; exact hd
  rw [qN0] at hI
  rw [show ((d : Int) + 1).toNat = d + 1 by omega] at ih
  obtain ⟨s1, s2, s3⟩ := hI.step h hs hd
  have hbl : z.1.length ≤ 100 := by rw [hI.len]; split <;> split <;> omega
  have hc := l4c_ok h hp hs hd z.1 hI.nl (fun y0 y1 y2 => l4b B10 B11 B12 B13 B14 B15 B16 (some true) 60 base one3 two4 t (s : Int) rec m y0 y1 y2)
  have hw : w64 ((d : Int) + 1) = (d : Int) + 1 := w64_small (by omega)
  simp only [l4b, qN0, ixA hd', ixB hd', cond_true, chk_true, hp.hN, hp.hA, hp.hB, hw]
  rw [show (t.getD s []).getD d 0 = eT4 t s d from rfl]
  by_cases e1 : eT4 t s d = a
  ·rw [show (eT4 t s d != (a : Int)) = false by rw [e1]; simp, cond_false, chk_of (small_of (by omega) (by decide)), show (eT4 t s d == (a : Int)) = true by rw [e1]; simp, cond_true]
   refine hc.trans ?_
   simp only [hw]
   exact ih (z.1 ++ [((s : Int), ((d : Int), ((0 : Int), ())))], z.2.set s (h.rb d : Int)) (s1 e1)
  ·rw [show (eT4 t s d != (a : Int)) = true by simp only [bne_iff_ne, ne_eq]; exact e1, cond_true]
   by_cases e2 : eT4 t s d = b
   ·rw [show (eT4 t s d != (b : Int)) = false by rw [e2]; simp, cond_false, chk_of (small_of (by omega) (by decide)), show (eT4 t s d == (a : Int)) = false by rw [beq_eq_false_iff_ne]; exact e1, cond_false]
    exact ih (z.1 ++ [((s : Int), ((d : Int), ((0 : Int), ())))], z.2) (s2 e2)
   ·rw [show (eT4 t s d != (b : Int)) = true by simp only [bne_iff_ne, ne_eq]; exact e2, cond_true]
    exact ih z (s3 e1 e2)
 ·rw [qN0] at hI
  simp only [l4b, qN0, hrow, ixE, cond_false]
  obtain ⟨a1, a2⟩ := h.ca_ok hs
  obtain ⟨b1, b2⟩ := h.cb_ok hs
  refine hrec z.1 z.2 ⟨hI.ok, fun r c hr hc q o => hI.all r c hr hc (by omega) o, ?_, hI.nl, fun r hr q => hI.nv r hr (by omega)⟩
  rw [hI.len, if_pos a1, if_pos b1, if_neg (by omega), if_neg (by omega)]; omega
theorem l4e_ok (h : Two t n a b) (n6 : n ≤ 6) {bs : List Bz} (hb : Rds t n a b bs) {nx : List Int} (hnl : nx.length = n) (hnv : ∀ r, r < n → nx.getD r 0 = (h.nx r : Int)) {s : Nat} (hs : s < n) {met : List Bool} (hm0 : met.getD s false = false) (hcl : ∀ y, y < n → met.getD y false = true → rch n bs s y = false)
  (rings : Int) (rec : Int → Int → List Bool → Option Bool) : ∀ (f k : Nat) (mk : List Bool), n < f + k → mk.length = n → (∀ y, y < n → (mk.getD y false = true ↔ met.getD y false = true ∨ ∃ j, j < k ∧ h.it j s = y)) → (∀ i j, i < j → j < k → h.it i s ≠ h.it j s) →
  ∃ m', m'.length = n ∧ (∀ y, y < n → (m'.getD y false = true ↔ met.getD y false = true ∨ rch n bs s y = true)) ∧ l4e B10 B11 B12 B13 B14 B15 B16 (some true) 60 base t bs nx (s : Int) rec f rings (h.it k s : Int) mk = rec rings (w64 ((s : Int) + 1)) m'
 | 0, k, mk, hf, _, _, hdis => by
  exfalso
  have hnd : ((List.range k).map fun j => h.it j s).Nodup := List.pairwise_iff_getElem.2 fun i j hi hj hij => by
   simp only [List.length_map, List.length_range] at hi hj
   simp only [List.getElem_map, List.getElem_range]
   exact hdis i j hij hj
  have := hnd.length_le_of_subset (l₂ := List.range n) fun y hy => by
   obtain ⟨j, _, rfl⟩ := List.mem_map.1 hy
   exact List.mem_range.2 (h.it_lt hs j)
  simp at this; omega
 | f + 1, k, mk, hf, hl, hmk, hdis => by
  have hx := h.it_lt hs k
  have hx' : h.it k s < mk.length := by omega
  have hx2 : h.it k s < nx.length := by omega
  rw [l4e]
  simp only [ixB hx', ixB hx2, chk_true, qN0]
  cases e : mk.getD (h.it k s) false with
  | true =>
   simp only [Bool.not_true, cond_false]
   refine ⟨mk, hl, fun y hy => ?_, rfl⟩
   rw [hmk y hy]
   have hk : 0 < k ∧ h.it k s = s := by
    rcases (hmk _ hx).1 e with q | ⟨j, hj, ej⟩
    ·have := h.it_rch hb hs k
     rw [hcl _ hx q] at this; cases this
    ·refine ⟨by omega, ?_⟩
     cases j with
     | zero => exact ej.symm
     | succ j =>
      obtain ⟨k', rfl⟩ : ∃ k', k = k' + 1 := ⟨k - 1, by omega⟩
      have := h.nx_inj (h.it_lt hs j) (h.it_lt hs k') ej
      exact absurd this (hdis j k' (by omega) (by omega))
   constructor
   ·rintro (q | ⟨j, hj, ej⟩)
    ·exact .inl q
    ·exact .inr (by rw [← ej]; exact h.it_rch hb hs j)
   ·rintro (q | q)
    ·exact .inl q
    ·exact .inr (h.it_all hb hs hk.1 hk.2 hy q)
  | false =>
   simp only [Bool.not_false, cond_true]
   rw [hnv _ hx]
   refine l4e_ok h n6 hb hnl hnv hs hm0 hcl rings rec f (k + 1) (mk.set (h.it k s) true) (by omega) (by rw [List.length_set]; exact hl) (fun y hy => ?_) (fun i j hij hj => ?_)
   ·rw [set_get hx', hmk y hy]
    constructor
    ·rintro (q | q | ⟨j, hj, ej⟩)
     ·exact .inr ⟨k, by omega, q.symm⟩
     ·exact .inl q
     ·exact .inr ⟨j, by omega, ej⟩
    ·rintro (q | ⟨j, hj, ej⟩)
     ·exact .inr (.inl q)
     ·by_cases z : j = k
      ·exact .inl (by rw [← ej, z])
      ·exact .inr (.inr ⟨j, by omega, ej⟩)
   ·by_cases z : j = k
    ·intro q
     rw [z] at q
     have := (hmk _ hx).2 (.inr ⟨i, by omega, q⟩)
     rw [e] at this; cases this
    ·exact hdis i j hij (by omega)
theorem ndF_none {r : Rk} : ∀ (k t : Nat), (∀ i, t ≤ i → i < t + k → stf r (i : Int) = true) → ndF r t k = []
 | 0, _, _ => rfl
 | k + 1, t, h => by
  rw [ndF, h t (by omega) (by omega), cond_true]
  exact ndF_none k (t + 1) fun i a b => h i (by omega) (by omega)
theorem l4d_ok (h : Two t n a b) (hp : Prm base one3 two4 n a b) {bs : List Bz} {nx : List Int} (j : Jv h n 0 bs nx) :
  l4d B10 B11 B12 B13 B14 B15 B16 (some true) 60 base t bs nx 60 0 0 (List.replicate n false) = some true := by
 have n6 := hp.n6
 have hb : Rds t n a b bs := ⟨j.ok, fun r c hr hc o => j.all r c hr hc (.inl hr) o⟩
 have hok := hb.okBs
 have hlen : bs.length = 2 * n := by rw [j.len, if_neg (by omega), if_neg (by omega)]; rfl
 have hnv : ∀ r, r < n → nx.getD r 0 = (h.nx r : Int) := fun r hr => j.nv r hr (.inl hr)
 have hr : okR ((n : Int), (n : Int), bs, ()) = true := by
  simp only [okR, bae, dtq, List.all_eq_true]
  exact ⟨⟨⟨by omega, trivial⟩, by omega⟩, hok⟩
 refine countP' 0 (n : Int) (by omega) (fun m (z : Int × List Bool) i => l4d B10 B11 B12 B13 B14 B15 B16 (some true) 60 base t bs nx m z.1 i z.2)
  (fun i z => z.2.length = n ∧ (∀ y, y < n → (z.2.getD y false = true ↔ ∃ s, s < i.toNat ∧ rch n bs s y = true)) ∧ z.1 = ((List.range i.toNat).countP (rep n bs) : Int)) (fun x => x = some true) (fun m z i a' b' hI ih => ?_) (fun m z hI => ?_) 60 (0, List.replicate n false) (by omega) ⟨by simp, fun y hy => by simp [List.getD, hy], by simp⟩
 ·obtain ⟨s, rfl⟩ : ∃ q : Nat, i = q := ⟨i.toNat, by omega⟩
  have hs : s < n := by omega
  have hs' : s < t.length := by rw [h.len]; exact hs
  obtain ⟨rg_, met⟩ := z
  obtain ⟨i1, i2, i3⟩ := hI
  simp only at i1 i2 i3
  rw [qN0] at i2 i3
  rw [show ((s : Int) + 1).toNat = s + 1 by omega] at ih
  have hsm : s < met.length := by omega
  have hrange : (List.range (s + 1)).countP (rep n bs) = (List.range s).countP (rep n bs) + if rep n bs s = true then 1 else 0 := by
   rw [List.range_succ, List.countP_append, List.countP_singleton]
  have hcb : (List.range s).countP (rep n bs) ≤ s := by have := List.countP_le_length (p := rep n bs) (l := List.range s); simpa using this
  have hrep : rep n bs s = true ↔ met.getD s false = false := by
   rw [rep_iff]
   constructor
   ·intro g
    cases e : met.getD s false with
    | false => rfl
    | true =>
     obtain ⟨s', h1, h2⟩ := (i2 s hs).1 e
     rw [g s' h1] at h2; cases h2
   ·intro g s' h1
    cases e : rch n bs s' s with
    | false => rfl
    | true => rw [(i2 s hs).2 ⟨s', h1, e⟩] at g; cases g
  simp only [l4d, ixA hs', ixB hsm, cond_true, chk_true, qN0]
  cases e : met.getD s false with
  | true =>
   simp only [Bool.not_true, cond_false]
   -- met before: nothing is done
   have e60 : l4e B10 B11 B12 B13 B14 B15 B16 (some true) 60 base t bs nx (s : Int) (fun y0 y1 y2 => l4d B10 B11 B12 B13 B14 B15 B16 (some true) 60 base t bs nx m y0 y1 y2) 60 rg_ (s : Int) met = l4d B10 B11 B12 B13 B14 B15 B16 (some true) 60 base t bs nx m rg_ (w64 ((s : Int) + 1)) met := by
    rw [l4e]
    simp only [ixB hsm, chk_true, qN0, e, Bool.not_true, cond_false]
   rw [e60, w64_small (x := (s : Int) + 1) (by omega)]
   refine ih (rg_, met) ⟨i1, fun y hy => ?_, ?_⟩
   ·rw [i2 y hy]
    constructor
    ·rintro ⟨s', h1, h2⟩; exact ⟨s', by omega, h2⟩
    ·rintro ⟨s', h1, h2⟩
     by_cases q : s' = s
     ·obtain ⟨s0, g1, g2⟩ := (i2 s hs).1 e
      exact ⟨s0, g1, rch_trans hok (by omega) g2 (by rw [← q]; exact h2)⟩
     ·exact ⟨s', by omega, h2⟩
   ·rw [hrange, if_neg (by rw [hrep, e]; simp), i3, Nat.add_zero]
  | false =>
   simp only [Bool.not_false, cond_true]
   have hcl : ∀ y, y < n → met.getD y false = true → rch n bs s y = false := fun y hy g => by
    cases q : rch n bs s y with
    | false => rfl
    | true =>
     obtain ⟨s', h1, h2⟩ := (i2 y hy).1 g
     have := (i2 s hs).2 ⟨s', h1, rch_trans hok (by omega) h2 (rch_sym hok (by omega) q)⟩
     rw [e] at this; cases this
   obtain ⟨m', g1, g2, g3⟩ := l4e_ok (base := base) h n6.2 hb j.nl hnv hs e hcl (w64 (rg_ + 1)) (fun y0 y1 y2 => l4d B10 B11 B12 B13 B14 B15 B16 (some true) 60 base t bs nx m y0 y1 y2) 60 0 met (by omega) i1 (fun y hy => by simp) (fun i j hij hj => by omega)
   refine g3.trans ?_
   simp only [w64_small (x := (s : Int) + 1) (by omega)]
   refine ih (w64 (rg_ + 1), m') ⟨g1, fun y hy => ?_, ?_⟩
   ·rw [g2 y hy, i2 y hy]
    constructor
    ·rintro (⟨s', h1, h2⟩ | q)
     ·exact ⟨s', by omega, h2⟩
     ·exact ⟨s, by omega, q⟩
    ·rintro ⟨s', h1, h2⟩
     by_cases q : s' = s
     ·exact .inr (by rw [← q]; exact h2)
     ·exact .inl ⟨s', by omega, h2⟩
   ·rw [hrange, if_pos (hrep.2 e)]
    simp only
    rw [i3, w64_small (by omega)]; omega
 ·obtain ⟨rg_, met⟩ := z
  obtain ⟨i1, i2, i3⟩ := hI
  simp only at i1 i2 i3
  rw [qN0] at i3
  rw [← cmp_rows h hb] at i3
  have hmis := misL_len (n := n) (bs := bs) (by omega) hok
  obtain ⟨out, o1, o2⟩ := B15_ok hr
  have hc12 : cmp n bs ≤ 2 * n := by have := List.countP_le_length (p := rep n bs) (l := List.range (2 * n)); simpa [cmp] using this
  have hst := stf_cmp hr
  simp only [qN0] at o2 hst
  simp only [l4d, h.len, ixE, cond_false, hp.hN]
  rw [B14, if_pos ⟨hr, by show 0 < bs.length; omega⟩, qB0, o1, qB0, B10, if_pos hr, qB0]
  simp only [qZ0, cond_false, qN0]
  rw [show (((misL n bs).length : Int) != w64 (rg_ - 1)) = false by rw [w64_small (by omega), bne_eq_false_iff_eq]; omega, cond_false, o2, show (((cmp n bs : Nat) : Int) != rg_) = false by rw [bne_eq_false_iff_eq]; omega, cond_false, hst, i3]
  have hbool : (decide (cmp n bs = 1) != (((cmp n bs : Nat) : Int) == 1)) = false := by
   by_cases q : cmp n bs = 1
   ·simp [q]
   ·have : ¬ ((cmp n bs : Nat) : Int) = 1 := by omega
    simp [q, this]
  rw [hbool, cond_false]
  -- detours
  refine countP' 0 (bs.length : Int) (by omega) (fun m (_ : Unit) i => l4f B10 B11 B12 B13 B14 B15 B16 (some true) 60 base bs ((cmp n bs : Nat) : Int) m i) (fun _ _ => True) (fun x => x = some true) (fun m _ i a' b' _ ih => ?_) (fun m _ _ => ?_) 60 () (by omega) trivial
  ·obtain ⟨e, rfl⟩ : ∃ q : Nat, i = q := ⟨i.toNat, by omega⟩
   have he : e < bs.length := by omega
   obtain ⟨w, w1, w2⟩ := B16_ok (r := ((n : Int), (n : Int), bs, ())) hr rfl he (detour h hb he)
   simp only [l4f, ixA he, cond_true, hp.hN]
   rw [w1, qB0]
   simp only [qZ0, cond_false]
   rw [show ((w.length : Int) == 0) = false by rw [beq_eq_false_iff_ne]; have := List.length_pos_iff.2 w2; omega, cond_false, w64_small (x := (e : Int) + 1) (by omega)]
   exact ih () trivial
  ·simp only [l4f, ixE, cond_false, hp.hN]
   rw [B11, if_pos hr, qB0, hst]
   by_cases q : cmp n bs = 1
   ·have hnd : ndF ((n : Int), (n : Int), bs, ()) 0 bs.length = [] := ndF_none _ _ fun i _ hi => by
     obtain ⟨hb1, hall⟩ := hb.hall h
     have hs1 : stf ((n : Int), (n : Int), bs, ()) (-1) = true := by rw [hst]; exact qD1 q
     rw [stf, qN0] at hs1 ⊢
     exact rods (ws4_mx h) (by omega) hb1 hall hs1 (by omega)
    rw [qD1 q, cond_true, q]
    simp only [hnd]
    rfl
   ·have hge : 1 ≤ cmp n bs := by omega
    rw [qD0 q, cond_false, qD1 (show ((cmp n bs : Nat) : Int) > 1 by omega)]
    rfl
theorem l4a_ok (h : Two t n a b) (hp : Prm base one3 two4 n a b) : l4a B10 B11 B12 B13 B14 B15 B16 (some true) 60 base one3 two4 t 60 0 [] (List.replicate n 0) = some true := by
 have n6 := hp.n6
 refine countP' 0 (n : Int) (by omega) (fun m (z : List Bz × List Int) i => l4a B10 B11 B12 B13 B14 B15 B16 (some true) 60 base one3 two4 t m i z.1 z.2) (fun i z => Jv h i.toNat 0 z.1 z.2) (fun x => x = some true) (fun m z i a' b' hI ih => ?_) (fun m z hI => ?_) 60 ([], List.replicate n 0) (by omega) ⟨by simp, fun r c _ _ q => by simp at q, by simp, by simp, fun r _ q => by simp at q⟩
 ·obtain ⟨s, rfl⟩ : ∃ q : Nat, i = q := ⟨i.toNat, by omega⟩
  have hs : s < n := by omega
  have hs' : s < t.length := by rw [h.len]; exact hs
  rw [show ((s : Int) + 1).toNat = s + 1 by omega] at ih
  simp only [l4a, ixA hs', ixB hs', cond_true, chk_true]
  exact l4b_ok h hp hs _ (fun bs nx j => by rw [w64_small (by omega)]; exact ih (bs, nx) j) hI
 ·rw [qN0] at hI
  simp only [l4a, h.len, ixE, cond_false, hp.hN, qN0]
  rw [chk_of (by simp [mkOk]; omega)]
  exact l4d_ok h hp hI
end
def okU (l : List Int) : Prop := ∀ x ∈ l, 0 ≤ x ∧ x ≤ 255
theorem m4_ok {base : Int} {rows numbers : List Int} {one two : Int} (h0 : 0 ≤ base ∧ base ≤ 255) (h1 : okU rows) (h2 : okU numbers) (h3 : 0 ≤ one ∧ one ≤ 255) (h4 : 0 ≤ two ∧ two ≤ 255) (hB : ∃ t, B12 (((2 + base % 5).toNat : Nat) : Int) rows numbers = some t ∧ t.length = (2 + base % 5).toNat ∧ latB t = true) : m4 B10 B11 B12 B13 B14 B15 B16 (some true) 60 base rows numbers one two = some true := by
 obtain ⟨n, hn⟩ : ∃ n : Nat, n = (2 + base % 5).toNat := ⟨_, rfl⟩
 rw [← hn] at hB
 obtain ⟨t, t1, t2, t3⟩ := hB
 have n6 : 2 ≤ n ∧ n ≤ 6 := by omega
 have hN : w64 (2 + Int.tmod (w64 base) 5) = (n : Int) := by rw [w64_small (x := base) (by omega), tmod_emod h0.1, w64_small (by omega)]; omega
 obtain ⟨a, ha⟩ : ∃ a : Nat, one % (n : Int) = a := ⟨(one % (n : Int)).toNat, by have := Int.emod_nonneg one (show (n : Int) ≠ 0 by omega); omega⟩
 have han : a < n := by have := Int.emod_lt_of_pos one (show (0 : Int) < n by omega); omega
 have hA : Int.tmod (w64 one) (n : Int) = (a : Int) := by rw [w64_small (by omega), tmod_emod h3.1, ha]
 obtain ⟨c, hc⟩ : ∃ c : Nat, two % ((n : Int) - 1) = c := ⟨(two % ((n : Int) - 1)).toNat, by have := Int.emod_nonneg two (show (n : Int) - 1 ≠ 0 by omega); omega⟩
 have hcn : (c : Int) < (n : Int) - 1 := by have := Int.emod_lt_of_pos two (show (0 : Int) < (n : Int) - 1 by omega); omega
 obtain ⟨b, hb⟩ : ∃ b : Nat, ((a : Int) + 1 + c) % (n : Int) = b := ⟨(((a : Int) + 1 + c) % (n : Int)).toNat, by have := Int.emod_nonneg ((a : Int) + 1 + c) (show (n : Int) ≠ 0 by omega); omega⟩
 have hbn : b < n := by have := Int.emod_lt_of_pos ((a : Int) + 1 + c) (show (0 : Int) < n by omega); omega
 have hne : a ≠ b := fun e => by
  rw [← e] at hb
  by_cases q : (a : Int) + 1 + c < n
  ·rw [Int.emod_eq_of_lt (by omega) q] at hb; omega
  ·have e2 : ((a : Int) + 1 + c) % (n : Int) = (a : Int) + 1 + c - n := by
    rw [show (a : Int) + 1 + c = ((a : Int) + 1 + c - n) + n by omega, Int.add_emod_right, Int.emod_eq_of_lt (by omega) (by omega)]; omega
   omega
 have hBB : Int.tmod (w64 (w64 ((a : Int) + 1) + Int.tmod (w64 two) (w64 ((n : Int) - 1)))) (n : Int) = (b : Int) := by
  rw [w64_small (x := (a : Int) + 1) (by omega), w64_small (x := two) (by omega), w64_small (x := (n : Int) - 1) (by omega), tmod_emod h4.1, hc, w64_small (by omega), tmod_emod (by omega), hb]
 have hT : Two t n a b := ⟨lat_of t3, t2, han, hbn, hne⟩
 rw [m4]
 simp only [hN]
 rw [t1, qB0, B13, if_pos t3, qB0]
 simp only [qZ0, cond_false, qN0]
 rw [w64_small (x := (n : Int) - 1) (by omega), chk_dec (by omega), chk_dec (by omega), chk_dec (by omega), chk_of (by simp [mkOk]; omega)]
 exact l4a_ok hT ⟨n6, hN, hA, hBB⟩
def bsB (l : List Int) : Bool := l.all fun x => decide (0 ≤ x ∧ x ≤ 255)
def B4 (base : Int) (rows numbers : List Int) (one two : Int) : Option Bool := if (0 ≤ base ∧ base ≤ 255) ∧ bsB rows = true ∧ bsB numbers = true ∧ (0 ≤ one ∧ one ≤ 255) ∧ (0 ≤ two ∧ two ≤ 255) then some true else none
theorem KB4 : FnOk Try.prog 4 (F4 B4) := ok4 B10 B11 B12 B13 B14 B15 B16 (some true) KB10 KB11 KB12 KB13 KB14 KB15 KB16 K17t B4 fun base rows numbers one two r h => ⟨60, by
 simp only [B4] at h
 split at h
 ·rename_i hh
  obtain ⟨h0, h1, h2, h3, h4⟩ := hh
  simp only [bsB, List.all_eq_true, dtq] at h1 h2
  rw [← h]
  exact m4_ok h0 h1 h2 h3 h4 (B12_ok (by omega) ⟨trivial, h1⟩ ⟨trivial, h2⟩)
 ·cases h⟩
end Go.Proofs.Ytplbdongegfdnaa
