/-
 Before: which letters come after another one always.
-/
import Derived.Test.YtmpbbkldopfkpaaDoorL5
import Derived.Test.YtmpbbkldopfkpaaDoorQM21
namespace Go.Proofs.YtmpbbkldopfkpaaDoor
open Go.RowKit
set_option linter.unusedVariables false

section
variable (D : UInt8 → UInt8 → Bool) (log : Wd) (i : Nat)

def hit (l : List Nat) (n : Nat) : Bool := l.any fun y => D (log.getD y 0) (log.getD n 0)
def lat : Nat → List Nat
 | 0 => [i]
 | m + 1 => lat m ++ (if hit D log (lat m) (i + 1 + m) = true then [i + 1 + m] else [])
def bfr (k : Nat) : Bool := decide (i < k) && hit D log (lat D log i (k - i - 1)) k
end

theorem lat_lt {D : UInt8 → UInt8 → Bool} {log : Wd} {i : Nat} : ∀ (m : Nat), ∀ y ∈ lat D log i m, i ≤ y ∧ y ≤ i + m
 | 0, y, h => by
  have := List.mem_singleton.1 h
  omega
 | m + 1, y, h => by
  rcases List.mem_append.1 h with h | h
  ·have := lat_lt m y h; omega
  ·split at h
   ·have := List.mem_singleton.1 h; omega
   ·cases h
def B20 : Of → Wd → Int → Int → Option (Bool × Int) := fun o l i k => some (if errA o [l] = 0 then (if ¬ (0 ≤ i ∧ i ≤ (l.length : Int) - 1) ∨ ¬ (0 ≤ k ∧ k ≤ (l.length : Int) - 1) then (false, 5) else if i = k then (false, 20) else (bfr (Do o) l i.toNat k.toNat, 0)) else (false, errA o [l]))
theorem kinds_and {o : Of} (h0 : errO o = 0) {l : Wd} (hw : Ls o l) {S : List Nat} (hS : ∀ y ∈ S, y < l.length) {a : Nat} (ha : a < 64) (hbit : ∀ c, a.testBit c = S.any fun y => decide ((l.getD y 0).toNat = 97 + c)) {n : Nat} (hn : n < l.length) :
  ((bAnd .u64 ((deskO o).getD ((l.getD n 0).toNat - 97) 0) (a : Int)) != 0) = hit (Do o) l S n := by
 have hk := (errO_zero h0).1
 have hx := hw _ (getD_mem (d := 0) hn)
 have hd : Dsk (bits o.1 o.2.1) (deskO o) := deskF_ok fun i j hj => by
  unfold bits
  rw [decide_eq_false (show ¬ (j : Int) < o.1 by omega), Bool.and_false, Bool.false_and]
 obtain ⟨m, h1, h2, h3⟩ := hd.2 ((l.getD n 0).toNat - 97) (by omega)
 rw [h2, bAnd_u64 (by omega) (by omega)]
 have hDk : ∀ y ∈ S, Do o (l.getD y 0) (l.getD n 0) = m.testBit ((l.getD y 0).toNat - 97) := fun y hy => by
  have hyl := hw _ (getD_mem (d := 0) (hS y hy))
  rw [h3]
  unfold bits
  rw [(Do_bnd h0).symm, decide_eq_true (by omega), decide_eq_true (by omega), Bool.true_and, Bool.true_and]
  unfold Do
  rw [show (((l.getD n 0).toNat - 97 : Nat) : Int) = ((l.getD n 0).toNat : Int) - 97 by omega, show (((l.getD y 0).toNat - 97 : Nat) : Int) = ((l.getD y 0).toNat : Int) - 97 by omega]
 have e1 : (((m &&& a : Nat) : Int) != 0) = !decide (m &&& a = 0) := by
  rw [Bool.eq_iff_iff]
  simp
 rw [e1, Bool.eq_iff_iff]
 simp only [Bool.not_eq_true', decide_eq_false_iff_not]
 unfold hit
 rw [List.any_eq_true]
 constructor
 ·intro hne
  have : ∃ c, (m &&& a).testBit c = true := Nat.exists_testBit_of_ne_zero hne
  obtain ⟨c, hc⟩ := this
  rw [Nat.testBit_and, Bool.and_eq_true, hbit, List.any_eq_true] at hc
  obtain ⟨hc1, y, hy, hyc⟩ := hc
  refine ⟨y, hy, ?_⟩
  rw [hDk y hy, of_decide_eq_true hyc, show 97 + c - 97 = c by omega]
  exact hc1
 ·rintro ⟨y, hy, hD⟩ hz
  have hyl := hw _ (getD_mem (d := 0) (hS y hy))
  rw [hDk y hy] at hD
  have : (m &&& a).testBit ((l.getD y 0).toNat - 97) = true := by
   rw [Nat.testBit_and, hD, Bool.true_and, hbit, List.any_eq_true]
   exact ⟨y, hy, decide_eq_true (by omega)⟩
  rw [hz, Nat.zero_testBit] at this
  cases this
theorem wrapL {b : UInt8} (h : 97 ≤ (b.toNat : Int)) : IntKind.wrap .u8 ((b.toNat : Int) - 97) = ((b.toNat - 97 : Nat) : Int) := by
 have := b.toNat_lt
 rw [wrap_u8 (by omega) (by omega)]; omega
theorem shl6 {c : Nat} (h : c < 6) : IntKind.wrap .u64 (1 * 2 ^ min (Int.toNat (c : Int)) 64) = ((2 ^ c : Nat) : Int) := by
 have := pw_lt h
 rw [Int.toNat_natCast, Nat.min_eq_left (by omega), Int.one_mul, pow_cast, wrap_u64 (by omega)]
theorem kb20 : FnOk Tryd.prog 20 (F20 B20) := ok20 C41 B51 kc41 kb51 B20 fun o l i k r h => ⟨20, by
 obtain rfl := Option.some.inj h
 unfold m20
 by_cases he : errA o [l] = 0
 ·obtain ⟨h1, h2⟩ := errA_word he (l := l) (by simp)
  have h0 := (errA_zero he).1
  have hk := (errO_zero h0).1
  rw [C41_good (by simp) he, if_pos he, Option.bind_some]
  show cond false _ _ = _
  rw [cond_false, w64_eq (by omega) (by omega)]
  unfold B51
  rw [Option.bind_some]
  by_cases hi : 0 ≤ i ∧ i ≤ (l.length : Int) - 1
  ·rw [decide_eq_true hi, Bool.not_true, cond_false, Option.bind_some]
   by_cases hkk : 0 ≤ k ∧ k ≤ (l.length : Int) - 1
   ·rw [decide_eq_true hkk, Bool.not_true, cond_false, if_neg (by omega)]
    by_cases hik : i = k
    ·rw [if_pos hik, beq_iff_eq.2 hik, cond_true]
    ·rw [if_neg hik, beq_eq_false_iff_ne.2 hik, cond_false]
     obtain ⟨i, rfl⟩ : ∃ z : Nat, i = (z : Int) := ⟨i.toNat, by omega⟩
     obtain ⟨k, rfl⟩ : ∃ z : Nat, k = (z : Int) := ⟨k.toNat, by omega⟩
     rw [Int.toNat_natCast, Int.toNat_natCast, chk_dec (by omega)]
     have hil := h2 _ (getD_mem (d := 0) (show i < l.length by omega))
     rw [wrapL (by omega), chk_dec (by omega), shl6 (by omega), w64_succ (by omega)]
     have main : ∀ (n m : Nat) (a : Nat), 20 < n + m + 6 → i + 1 + m ≤ l.length → (i < k → i + 1 + m ≤ k) → a < 64 → (∀ c, a.testBit c = (lat (Do o) l i m).any fun y => decide ((l.getD y 0).toNat = 97 + c)) →
       l20a C41 B51 20 l (k : Int) (deskO o, 0) n (a : Int) ((i + 1 + m : Nat) : Int) = some (bfr (Do o) l i k, 0) := by
      intro n
      induction n with
      | zero => intro m a q1 q2 q3 q4 q5; omega
      | succ n ih =>
       intro m a q1 q2 q3 q4 q5
       rw [l20a]
       by_cases hmk : i + 1 + m ≤ k
       ·have hlt : i + 1 + m < l.length := by omega
        have hxl := h2 _ (getD_mem (d := 0) hlt)
        have hS : ∀ y ∈ lat (Do o) l i m, y < l.length := fun y hy => by have := lat_lt m y hy; omega
        have hand := kinds_and h0 h2 hS q4 q5 hlt
        rw [decide_eq_true (by omega), cond_true, chk_dec (by omega), Int.toNat_natCast, wrapL (by omega), chk_dec (by omega), Int.toNat_natCast, hand]
        by_cases hend : i + 1 + m = k
        ·have hb : bfr (Do o) l i k = hit (Do o) l (lat (Do o) l i m) k := by
          unfold bfr
          rw [decide_eq_true (by omega), Bool.true_and, show k - i - 1 = m by omega]
         rw [hb, ← hend]
         cases hh : hit (Do o) l (lat (Do o) l i m) (i + 1 + m) with
         | true => rw [cond_true, beq_self_eq_true, cond_true]
         | false =>
          rw [cond_false, w64_succ (by omega)]
          cases n with
          | zero => omega
          | succ n => rw [l20a, decide_eq_false (by omega), cond_false]
        ·cases hh : hit (Do o) l (lat (Do o) l i m) (i + 1 + m) with
         | true =>
          have hp := pw_lt (y := (l.getD (i + 1 + m) 0).toNat - 97) (by omega)
          rw [cond_true, beq_eq_false_iff_ne.2 (by omega), cond_false, chk_dec (by omega), chk_dec (by omega), w64_succ (by omega)]
          have e := shl6 (c := (l.getD (i + 1 + m) 0).toNat - 97) (by omega)
          rw [Int.toNat_natCast] at e
          rw [e, bOr_u64 (by omega) (by omega)]
          refine ih (m + 1) _ (by omega) (by omega) (by omega) (Nat.or_lt_two_pow (n := 6) q4 hp) fun c => ?_
          rw [lat, if_pos hh, List.any_append, Nat.testBit_or, q5, Nat.testBit_two_pow]
          congr 1
          rw [List.any_cons, List.any_nil, Bool.or_false]
          exact decide_eq_decide.2 (by omega)
         | false =>
          rw [cond_false, w64_succ (by omega)]
          refine ih (m + 1) a (by omega) (by omega) (by omega) q4 fun c => ?_
          rw [lat, if_neg (by rw [hh]; simp), List.append_nil]
          exact q5 c
       ·rw [decide_eq_false (by omega), cond_false]
        unfold bfr
        rw [decide_eq_false (by omega), Bool.false_and]
     have := main 20 0 (2 ^ ((l.getD i 0).toNat - 97)) (by omega) (by omega) (by omega) (pw_lt (by omega)) fun c => by
      rw [Nat.testBit_two_pow]
      show _ = (decide ((l.getD i 0).toNat = 97 + c) || false)
      rw [Bool.or_false]
      exact decide_eq_decide.2 (by omega)
     exact this
   ·rw [decide_eq_false hkk, if_pos (.inr hkk)]; rfl
  ·rw [decide_eq_false hi, if_pos (.inl hi)]; rfl
 ·obtain ⟨d, hd⟩ := C41_bad (ls := [l]) (by simp) he
  rw [hd, if_neg he, Option.bind_some]
  have : (errA o [l] != 0) = true := by simpa using he
  simp only [this, cond_true]⟩
theorem getD_setb {a : List Bool} {x z : Nat} {b : Bool} (hx : x < a.length) : (a.set x b).getD z false = if z = x then b else a.getD z false := by
 rw [List.getD_eq_getElem?_getD, List.getElem?_set, List.getD_eq_getElem?_getD]
 by_cases h : z = x
 ·subst h; rw [if_pos rfl, if_pos hx, if_pos rfl]; rfl
 ·rw [if_neg (fun e => h e.symm), if_neg h]
theorem later21 {o : Of} (h0 : errO o = 0) {l : Wd} (hn : l.length ≤ 14) (hw : Ls o l) {i k : Nat} (hi : i < l.length) (hk : k < l.length) (hne : i ≠ k) :
  ∀ (n m : Nat) (arr : List Bool), 20 < n + m + 5 → i + 1 + m ≤ l.length → arr.length = l.length → (∀ z, arr.getD z false = decide (z ∈ lat (Do o) l i m)) →
   l21a B44 B48 B68 20 o l (i : Int) (k : Int) n ((i + 1 + m : Nat) : Int) arr = some (bfr (Do o) l i k, 0)
 | 0, m, arr, h, h1, _, _ => by omega
 | n + 1, m, arr, h, h1, h2, h3 => by
  have hL := hw.isL h0
  rw [l21a]
  by_cases hx : i + 1 + m < l.length
  ·rw [decide_eq_true (by omega), cond_true]
   have key := countUp (i : Int) ((i + 1 + m : Nat) : Int) (by omega) (fun q (s : List Bool) y => l21b B44 B48 B68 20 o l (i : Int) (k : Int) ((i + 1 + m : Nat) : Int) (fun y0 y1 => l21a B44 B48 B68 20 o l (i : Int) (k : Int) n y0 y1) q y s)
    (fun y s => (i : Int) ≤ y ∧ s.length = l.length ∧ (∀ z, z ≠ i + 1 + m → s.getD z false = decide (z ∈ lat (Do o) l i m)) ∧ s.getD (i + 1 + m) false = (lat (Do o) l i m).any fun z => decide ((z : Int) < y) && Do o (l.getD z 0) (l.getD (i + 1 + m) 0))
    (fun _ _ => some (bfr (Do o) l i k, 0)) (fun q s y y0 y1 hI jh => ?_) (fun q s hI => ?_) 20 arr (by omega) ⟨by omega, h2, fun z _ => h3 z, ?_⟩
   ·exact key
   ·obtain ⟨_, s1, s2, s3⟩ := hI
    obtain ⟨y, rfl⟩ : ∃ z : Nat, y = (z : Int) := ⟨y.toNat, by omega⟩
    have hyx : y < i + 1 + m := by omega
    have hsplit : ((lat (Do o) l i m).any fun z => decide ((z : Int) < (y : Int) + 1) && Do o (l.getD z 0) (l.getD (i + 1 + m) 0)) = (((lat (Do o) l i m).any fun z => decide ((z : Int) < (y : Int)) && Do o (l.getD z 0) (l.getD (i + 1 + m) 0)) || (decide (y ∈ lat (Do o) l i m) && Do o (l.getD y 0) (l.getD (i + 1 + m) 0))) := by
     rw [Bool.eq_iff_iff]
     simp only [List.any_eq_true, Bool.or_eq_true, Bool.and_eq_true, decide_eq_true_eq]
     constructor
     ·rintro ⟨z, hz, hz1, hz2⟩
      by_cases e : z = y
      ·subst e; exact .inr ⟨hz, hz2⟩
      ·exact .inl ⟨z, hz, by omega, hz2⟩
     ·rintro (⟨z, hz, hz1, hz2⟩ | ⟨hz, hz2⟩)
      ·exact ⟨z, hz, by omega, hz2⟩
      ·exact ⟨y, hz, by omega, hz2⟩
    show l21b B44 B48 B68 20 o l (i : Int) (k : Int) ((i + 1 + m : Nat) : Int) (fun y0 y1 => l21a B44 B48 B68 20 o l (i : Int) (k : Int) n y0 y1) (q + 1) (y : Int) s = _
    rw [l21b, decide_eq_true y1, cond_true, chk_dec (by omega), Int.toNat_natCast, Int.toNat_natCast, w64_eq (n := (y : Int) + 1) (by omega) (by omega), s3]
    have next : ∀ b : Bool, b = (((lat (Do o) l i m).any fun z => decide ((z : Int) < (y : Int)) && Do o (l.getD z 0) (l.getD (i + 1 + m) 0)) || (decide (y ∈ lat (Do o) l i m) && Do o (l.getD y 0) (l.getD (i + 1 + m) 0))) →
      l21b B44 B48 B68 20 o l (i : Int) (k : Int) ((i + 1 + m : Nat) : Int) (fun y0 y1 => l21a B44 B48 B68 20 o l (i : Int) (k : Int) n y0 y1) q ((y : Int) + 1) (s.set (i + 1 + m) b) = some (bfr (Do o) l i k, 0) := fun b hb => by
     refine jh _ ⟨by omega, by rw [List.length_set]; exact s1, fun z hz => ?_, ?_⟩
     ·rw [getD_setb (by omega), if_neg hz]; exact s2 z hz
     ·rw [getD_setb (by omega), if_pos rfl, hsplit]; exact hb
    cases ha : (lat (Do o) l i m).any fun z => decide ((z : Int) < (y : Int)) && Do o (l.getD z 0) (l.getD (i + 1 + m) 0) with
    | true =>
     rw [cond_true, chk_dec (by omega)]
     exact next true (by rw [ha]; rfl)
    | false =>
     rw [cond_false, chk_dec (by omega), s2 y (by omega)]
     by_cases hy : y ∈ lat (Do o) l i m
     ·rw [decide_eq_true hy, cond_true, chk_dec (by omega), chk_dec (by omega), B48_of h0 (hL _ (getD_mem (by omega))) (hL _ (getD_mem hx)), Option.bind_some, chk_dec (by omega)]
      exact next _ (by rw [ha, decide_eq_true hy]; rfl)
     ·rw [decide_eq_false hy, cond_false, chk_dec (by omega)]
      exact next false (by rw [ha, decide_eq_false hy]; rfl)
   ·obtain ⟨_, s1, s2, s3⟩ := hI
    show l21b B44 B48 B68 20 o l (i : Int) (k : Int) ((i + 1 + m : Nat) : Int) (fun y0 y1 => l21a B44 B48 B68 20 o l (i : Int) (k : Int) n y0 y1) (q + 1) ((i + 1 + m : Nat) : Int) s = _
    rw [l21b, decide_eq_false (by omega), cond_false, w64_succ (by omega)]
    refine later21 h0 hn hw hi hk hne n (m + 1) s (by omega) (by omega) s1 fun z => ?_
    have hh : hit (Do o) l (lat (Do o) l i m) (i + 1 + m) = s.getD (i + 1 + m) false := by
     rw [s3]
     unfold hit
     rw [Bool.eq_iff_iff, List.any_eq_true, List.any_eq_true]
     constructor
     ·rintro ⟨z, hz, h2⟩
      exact ⟨z, hz, by rw [decide_eq_true (by have := lat_lt m z hz; omega), h2]; rfl⟩
     ·rintro ⟨z, hz, h2⟩
      rw [Bool.and_eq_true] at h2
      exact ⟨z, hz, h2.2⟩
    by_cases hz : z = i + 1 + m
    ·subst hz
     rw [← hh, lat]
     have hnot : ¬ i + 1 + m ∈ lat (Do o) l i m := fun hm => by have := lat_lt m _ hm; omega
     cases hit (Do o) l (lat (Do o) l i m) (i + 1 + m) with
     | true => simp
     | false => simp [hnot]
    ·rw [s2 z hz, lat]
     refine decide_eq_decide.2 ⟨fun h => List.mem_append.2 (.inl h), fun h => ?_⟩
     rcases List.mem_append.1 h with h | h
     ·exact h
     ·split at h
      ·exact absurd (List.mem_singleton.1 h) hz
      ·cases h
   ·rw [h3, decide_eq_false fun hm => by have := lat_lt m _ hm; omega]
    refine (List.any_eq_false.2 fun z hz => ?_).symm
    rw [decide_eq_false (by have := lat_lt m z hz; omega)]
    simp
  ·have hm : i + 1 + m = l.length := by omega
   rw [decide_eq_false (by omega), cond_false, chk_dec (by omega), Int.toNat_natCast, h3]
   congr 2
   unfold bfr
   by_cases hik : i < k
   ·rw [decide_eq_true hik, Bool.true_and]
    have main : ∀ m', k - i - 1 < m' → (k ∈ lat (Do o) l i m' ↔ hit (Do o) l (lat (Do o) l i (k - i - 1)) k = true) := by
     intro m'
     induction m' with
     | zero => intro h; omega
     | succ m' ih =>
      intro h
      rw [lat, List.mem_append]
      by_cases e : m' = k - i - 1
      ·subst e
       rw [show i + 1 + (k - i - 1) = k by omega]
       have hnot : ¬ k ∈ lat (Do o) l i (k - i - 1) := fun hm => by have := lat_lt _ _ hm; omega
       cases hit (Do o) l (lat (Do o) l i (k - i - 1)) k with
       | true => simp
       | false => simp [hnot]
      ·have hnk : ¬ i + 1 + m' = k := by omega
       rw [← ih (by omega)]
       refine ⟨fun h => ?_, .inl⟩
       rcases h with h | h
       ·exact h
       ·split at h
        ·have := List.mem_singleton.1 h; omega
        ·cases h
    rw [Bool.eq_iff_iff, decide_eq_true_iff]
    exact main m (by omega)
   ·rw [decide_eq_false hik, Bool.false_and, decide_eq_false fun hm => by have := lat_lt m _ hm; omega]
theorem kb21 : FnOk Tryd.prog 21 (F21 B20) := ok21 B44 B48 B68 kb44 kb48 kb52 B20 fun o l i k r h => ⟨20, by
 obtain rfl := Option.some.inj h
 unfold m21
 show (B44 o l).bind _ = _
 unfold B44
 rw [Option.bind_some]
 by_cases he : errA o [l] = 0
 ·obtain ⟨h1, h2⟩ := errA_word he (l := l) (by simp)
  have h0 := (errA_zero he).1
  rw [he, if_pos rfl, w64_eq (by omega) (by omega)]
  show cond true _ _ = _
  rw [cond_true]
  by_cases hi : 0 ≤ i ∧ i ≤ (l.length : Int) - 1
  ·have e1 : B68 i 0 ((l.length : Int) - 1) = some true := by unfold B68; rw [decide_eq_true hi]
   rw [e1, Option.bind_some, Bool.not_true, cond_false]
   by_cases hkk : 0 ≤ k ∧ k ≤ (l.length : Int) - 1
   ·have e2 : B68 k 0 ((l.length : Int) - 1) = some true := by unfold B68; rw [decide_eq_true hkk]
    rw [e2, Option.bind_some, Bool.not_true, cond_false, if_neg (by omega)]
    show cond true _ _ = _
    rw [cond_true]
    by_cases hik : i = k
    ·rw [if_pos hik, beq_iff_eq.2 hik, cond_true]
    ·rw [if_neg hik, beq_eq_false_iff_ne.2 hik, cond_false]
     show cond false _ _ = _
     rw [cond_false]
     obtain ⟨i, rfl⟩ : ∃ z : Nat, i = (z : Int) := ⟨i.toNat, by omega⟩
     obtain ⟨k, rfl⟩ : ∃ z : Nat, k = (z : Int) := ⟨k.toNat, by omega⟩
     rw [Int.toNat_natCast, Int.toNat_natCast, Int.toNat_natCast, chk_of (by simp [mkOk]; omega), chk_dec (by rw [List.length_replicate]; omega), w64_succ (by omega)]
     refine later21 h0 h1 h2 (by omega) (by omega) (by omega) 20 0 _ (by omega) (by omega) (by simp) fun z => ?_
     rw [getD_setb (by rw [List.length_replicate]; omega)]
     by_cases hz : z = i
     ·subst hz; simp [lat]
     ·rw [if_neg hz]
      have : ¬ z ∈ lat (Do o) l i 0 := fun h => hz (List.mem_singleton.1 h)
      rw [decide_eq_false this]
      simp only [List.getD, List.getElem?_replicate]
      split <;> rfl
   ·have e2 : B68 k 0 ((l.length : Int) - 1) = some false := by unfold B68; rw [decide_eq_false hkk]
    rw [e2, Option.bind_some, if_pos (.inr hkk)]; rfl
  ·have e1 : B68 i 0 ((l.length : Int) - 1) = some false := by unfold B68; rw [decide_eq_false hi]
   rw [e1, Option.bind_some, if_pos (.inl hi)]; rfl
 ·have hb : (errA o [l] == 0) = false := by simpa using he
  have hb2 : (errA o [l] != 0) = true := by simpa using he
  simp only [hb, hb2, cond_false, cond_true, if_neg he]⟩
end Go.Proofs.YtmpbbkldopfkpaaDoor
