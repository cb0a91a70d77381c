/-
  Before: which letters come after another one always.
-/
import Derived.Test.YtmpbbkldopfkpaaDoorL5
import Derived.Test.YtmpbbkldopfkpaaDoorQM21
namespace Go.Proofs.YtmpbbkldopfkpaaDoor
open Go.RowKit
set_option linter.unusedVariables false

section
variable (D : UInt8 → UInt8 → Bool) (log : Wd) (i : Nat)

def hit (l : List Nat) (n : Nat) : Bool := l.any fun y => D (log.getD y 0) (log.getD n 0)
def lat : Nat → List Nat
  | 0 => [i]
  | m + 1 => lat m ++ (if hit D log (lat m) (i + 1 + m) = true then [i + 1 + m] else [])
def bfr (k : Nat) : Bool := decide (i < k) && hit D log (lat D log i (k - i - 1)) k
end

theorem lat_lt {D : UInt8 → UInt8 → Bool} {log : Wd} {i : Nat} : ∀ (m : Nat), ∀ y ∈ lat D log i m, i ≤ y ∧ y ≤ i + m
  | 0, y, h => by
    have := List.mem_singleton.1 h
    omega
  | m + 1, y, h => by
    rcases List.mem_append.1 h with h | h
    · have := lat_lt m y h; omega
    · split at h
      · have := List.mem_singleton.1 h; omega
      · cases h
def B20 : Of → Wd → Int → Int → Option (Bool × Int) := fun o l i k => some (if errA o [l] = 0 then (if ¬ (0 ≤ i ∧ i ≤ (l.length : Int) - 1) ∨ ¬ (0 ≤ k ∧ k ≤ (l.length : Int) - 1) then (false, 5) else if i = k then (false, 20) else (bfr (Do o) l i.toNat k.toNat, 0)) else (false, errA o [l]))
theorem kinds_and {o : Of} (h0 : errO o = 0) {l : Wd} (hw : Ls o l) {S : List Nat} (hS : ∀ y ∈ S, y < l.length) {a : Nat} (ha : a < 64) (hbit : ∀ c, a.testBit c = S.any fun y => decide ((l.getD y 0).toNat = 97 + c)) {n : Nat} (hn : n < l.length) :
    ((bAnd .u64 ((deskO o).getD ((l.getD n 0).toNat - 97) 0) (a : Int)) != 0) = hit (Do o) l S n := by
  have hk := (errO_zero h0).1
  have hx := hw _ (getD_mem (d := 0) hn)
  have hd : Dsk (bits o.1 o.2.1) (deskO o) := deskF_ok fun i j hj => by
    unfold bits
    rw [decide_eq_false (show ¬ (j : Int) < o.1 by omega), Bool.and_false, Bool.false_and]
  obtain ⟨m, h1, h2, h3⟩ := hd.2 ((l.getD n 0).toNat - 97) (by omega)
  rw [h2, bAnd_u64 (by omega) (by omega)]
  have hDk : ∀ y ∈ S, Do o (l.getD y 0) (l.getD n 0) = m.testBit ((l.getD y 0).toNat - 97) := fun y hy => by
    have hyl := hw _ (getD_mem (d := 0) (hS y hy))
    rw [h3]
    unfold bits
    rw [(Do_bnd h0).symm, decide_eq_true (by omega), decide_eq_true (by omega), Bool.true_and, Bool.true_and]
    unfold Do
    rw [show (((l.getD n 0).toNat - 97 : Nat) : Int) = ((l.getD n 0).toNat : Int) - 97 by omega, show (((l.getD y 0).toNat - 97 : Nat) : Int) = ((l.getD y 0).toNat : Int) - 97 by omega]
  have e1 : (((m &&& a : Nat) : Int) != 0) = !decide (m &&& a = 0) := by
    rw [Bool.eq_iff_iff]
    simp
  rw [e1, Bool.eq_iff_iff]
  simp only [Bool.not_eq_true', decide_eq_false_iff_not]
  unfold hit
  rw [List.any_eq_true]
  constructor
  · intro hne
    have : ∃ c, (m &&& a).testBit c = true := Nat.exists_testBit_of_ne_zero hne
    obtain ⟨c, hc⟩ := this
    rw [Nat.testBit_and, Bool.and_eq_true, hbit, List.any_eq_true] at hc
    obtain ⟨hc1, y, hy, hyc⟩ := hc
    refine ⟨y, hy, ?_⟩
    rw [hDk y hy, of_decide_eq_true hyc, show 97 + c - 97 = c by omega]
    exact hc1
  · rintro ⟨y, hy, hD⟩ hz
    have hyl := hw _ (getD_mem (d := 0) (hS y hy))
    rw [hDk y hy] at hD
    have : (m &&& a).testBit ((l.getD y 0).toNat - 97) = true := by
      rw [Nat.testBit_and, hD, Bool.true_and, hbit, List.any_eq_true]
      exact ⟨y, hy, decide_eq_true (by omega)⟩
    rw [hz, Nat.zero_testBit] at this
    cases this
theorem wrapL {b : UInt8} (h : 97 ≤ (b.toNat : Int)) : IntKind.wrap .u8 ((b.toNat : Int) - 97) = ((b.toNat - 97 : Nat) : Int) := by
  have := b.toNat_lt
  rw [wrap_u8 (by omega) (by omega)]; omega
theorem shl6 {c : Nat} (h : c < 6) : IntKind.wrap .u64 (1 * 2 ^ min (Int.toNat (c : Int)) 64) = ((2 ^ c : Nat) : Int) := by
  have := pw_lt h
  rw [Int.toNat_natCast, Nat.min_eq_left (by omega), Int.one_mul, pow_cast, wrap_u64 (by omega)]
theorem kb20 : FnOk Tryd.prog 20 (F20 B20) := ok20 C41 B51 kc41 kb51 B20 fun o l i k r h => ⟨20, by
  obtain rfl := Option.some.inj h
  unfold m20
  by_cases he : errA o [l] = 0
  · obtain ⟨h1, h2⟩ := errA_word he (l := l) (by simp)
    have h0 := (errA_zero he).1
    have hk := (errO_zero h0).1
    rw [C41_good (by simp) he, if_pos he, Option.bind_some]
    show cond false _ _ = _
    rw [cond_false, w64_eq (by omega) (by omega)]
    unfold B51
    rw [Option.bind_some]
    by_cases hi : 0 ≤ i ∧ i ≤ (l.length : Int) - 1
    · rw [decide_eq_true hi, Bool.not_true, cond_false, Option.bind_some]
      by_cases hkk : 0 ≤ k ∧ k ≤ (l.length : Int) - 1
      · rw [decide_eq_true hkk, Bool.not_true, cond_false, if_neg (by omega)]
        by_cases hik : i = k
        · rw [if_pos hik, beq_iff_eq.2 hik, cond_true]
        · rw [if_neg hik, beq_eq_false_iff_ne.2 hik, cond_false]
          obtain ⟨i, rfl⟩ : ∃ z : Nat, i = (z : Int) := ⟨i.toNat, by omega⟩
          obtain ⟨k, rfl⟩ : ∃ z : Nat, k = (z : Int) := ⟨k.toNat, by omega⟩
          rw [Int.toNat_natCast, Int.toNat_natCast, chk_dec (by omega)]
          have hil := h2 _ (getD_mem (d := 0) (show i < l.length by omega))
          rw [wrapL (by omega), chk_dec (by omega), shl6 (by omega), w64_succ (by omega)]
          have main : ∀ (n m : Nat) (a : Nat), 20 < n + m + 6 → i + 1 + m ≤ l.length → (i < k → i + 1 + m ≤ k) → a < 64 → (∀ c, a.testBit c = (lat (Do o) l i m).any fun y => decide ((l.getD y 0).toNat = 97 + c)) →
              l20a C41 B51 20 l (k : Int) (deskO o, 0) n (a : Int) ((i + 1 + m : Nat) : Int) = some (bfr (Do o) l i k, 0) := by
            intro n
            induction n with
            | zero => intro m a q1 q2 q3 q4 q5; omega
            | succ n ih =>
              intro m a q1 q2 q3 q4 q5
              rw [l20a]
              by_cases hmk : i + 1 + m ≤ k
              · have hlt : i + 1 + m < l.length := by omega
                have hxl := h2 _ (getD_mem (d := 0) hlt)
                have hS : ∀ y ∈ lat (Do o) l i m, y < l.length := fun y hy => by have := lat_lt m y hy; omega
                have hand := kinds_and h0 h2 hS q4 q5 hlt
                rw [decide_eq_true (by omega), cond_true, chk_dec (by omega), Int.toNat_natCast, wrapL (by omega), chk_dec (by omega), Int.toNat_natCast, hand]
                by_cases hend : i + 1 + m = k
                · have hb : bfr (Do o) l i k = hit (Do o) l (lat (Do o) l i m) k := by
                    unfold bfr
                    rw [decide_eq_true (by omega), Bool.true_and, show k - i - 1 = m by omega]
                  rw [hb, ← hend]
                  cases hh : hit (Do o) l (lat (Do o) l i m) (i + 1 + m) with
                  | true => rw [cond_true, beq_self_eq_true, cond_true]
                  | false =>
                    rw [cond_false, w64_succ (by omega)]
                    cases n with
                    | zero => omega
                    | succ n => rw [l20a, decide_eq_false (by omega), cond_false]
                · cases hh : hit (Do o) l (lat (Do o) l i m) (i + 1 + m) with
                  | true =>
                    have hp := pw_lt (y := (l.getD (i + 1 + m) 0).toNat - 97) (by omega)
                    rw [cond_true, beq_eq_false_iff_ne.2 (by omega), cond_false, chk_dec (by omega), chk_dec (by omega), w64_succ (by omega)]
                    have e := shl6 (c := (l.getD (i + 1 + m) 0).toNat - 97) (by omega)
                    rw [Int.toNat_natCast] at e
                    rw [e, bOr_u64 (by omega) (by omega)]
                    refine ih (m + 1) _ (by omega) (by omega) (by omega) (Nat.or_lt_two_pow (n := 6) q4 hp) fun c => ?_
                    rw [lat, if_pos hh, List.any_append, Nat.testBit_or, q5, Nat.testBit_two_pow]
                    congr 1
                    rw [List.any_cons, List.any_nil, Bool.or_false]
                    exact decide_eq_decide.2 (by omega)
                  | false =>
                    rw [cond_false, w64_succ (by omega)]
                    refine ih (m + 1) a (by omega) (by omega) (by omega) q4 fun c => ?_
                    rw [lat, if_neg (by rw [hh]; simp), List.append_nil]
                    exact q5 c
              · rw [decide_eq_false (by omega), cond_false]
                unfold bfr
                rw [decide_eq_false (by omega), Bool.false_and]
          have := main 20 0 (2 ^ ((l.getD i 0).toNat - 97)) (by omega) (by omega) (by omega) (pw_lt (by omega)) fun c => by
            rw [Nat.testBit_two_pow]
            show _ = (decide ((l.getD i 0).toNat = 97 + c) || false)
            rw [Bool.or_false]
            exact decide_eq_decide.2 (by omega)
          exact this
      · rw [decide_eq_false hkk, if_pos (.inr hkk)]; rfl
    · rw [decide_eq_false hi, if_pos (.inl hi)]; rfl
  · obtain ⟨d, hd⟩ := C41_bad (ls := [l]) (by simp) he
    rw [hd, if_neg he, Option.bind_some]
    have : (errA o [l] != 0) = true := by simpa using he
    simp only [this, cond_true]⟩
end Go.Proofs.YtmpbbkldopfkpaaDoor
