/-
 Offices: their errors, their desks; the errors of logs.
-/
import Derived.Test.YtfopcfnggdonkaaGreatDoorLLM
import Derived.Test.YtfopcfnggdonkaaGreatDoorFB
import Derived.Test.YtfopcfnggdonkaaGreatDoorL1
namespace Go.Proofs.YtfopcfnggdonkaaGreatDoor
open Go.Proofs.Tryz
open Go.RowKit
set_option linter.unusedVariables false
abbrev Of := Int × List (List Int) × Unit
theorem p64 : (2 : Nat) ^ 64 = 18446744073709551616 := by decide
theorem wrap_u64 {n : Nat} (h : n < 18446744073709551616) : IntKind.wrap .u64 (n : Int) = n := by simp [IntKind.wrap, IntKind.bits, IntKind.signed]; omega
theorem wrap_u8 {n : Int} (h0 : 0 <= n) (h : n < 256) : IntKind.wrap .u8 n = n := by simp [IntKind.wrap, IntKind.bits, IntKind.signed]; omega
theorem Um (c : Nat) : ((2 : Int) ^ c) = ((2 ^ c : Nat) : Int) := by simp
theorem fdiv_pow (s c : Nat) : Int.fdiv (s : Int) ((2 : Int) ^ c) = ((s / 2 ^ c : Nat) : Int) := by
 rw [Um, Int.fdiv_eq_ediv_of_nonneg _ (Int.natCast_nonneg _), Int.natCast_ediv]
theorem ao7 (k a b : Nat) (ha : a < 2 ^ k) (hb : b < 2 ^ k) : ((BitVec.ofInt k (a : Int)) &&& (BitVec.ofInt k (b : Int))).toNat = a &&& b := by
 rw [BitVec.ofInt_natCast, BitVec.ofInt_natCast, BitVec.toNat_and, BitVec.toNat_ofNat, BitVec.toNat_ofNat, Nat.mod_eq_of_lt ha, Nat.mod_eq_of_lt hb]
theorem aaQ {a b : Nat} (ha : a < 18446744073709551616) (hb : b < 18446744073709551616) : yS .u64 (a : Int) (b : Int) = ((a &&& b : Nat) : Int) := by
 have e := ao7 64 a b (by rw [p64]; omega) (by rw [p64]; omega)
 show IntKind.wrap .u64 ((((BitVec.ofInt 64 (a : Int)) &&& (BitVec.ofInt 64 (b : Int))).toNat : Nat) : Int) = _
 rw [e]
 exact wrap_u64 (Nat.lt_of_le_of_lt Nat.and_le_left ha)
theorem ao6 {a b : Nat} (ha : a < 18446744073709551616) (hb : b < 18446744073709551616) : ∃ m : Nat, m <= a /\ rH .u64 (a : Int) (b : Int) = (m : Int) /\ ∀ j, m.testBit j = (a.testBit j && !b.testBit j) := by
 refine ⟨(BitVec.ofNat 64 a &&& ~~~BitVec.ofNat 64 b).toNat, ?_, ?_, fun j => ?_⟩
 ·rw [BitVec.toNat_and, BitVec.toNat_ofNat, Nat.mod_eq_of_lt (show a < 2 ^ 64 by rw [p64]; omega)]
  exact Nat.and_le_left
 ·show IntKind.wrap .u64 ((((BitVec.ofInt 64 (a : Int)) &&& ~~~(BitVec.ofInt 64 (b : Int))).toNat : Nat) : Int) = _
  rw [BitVec.ofInt_natCast, BitVec.ofInt_natCast]
  refine wrap_u64 ?_
  rw [BitVec.toNat_and, BitVec.toNat_ofNat, Nat.mod_eq_of_lt (show a < 2 ^ 64 by rw [p64]; omega)]
  exact Nat.lt_of_le_of_lt Nat.and_le_left (by omega)
 ·rw [BitVec.testBit_toNat, BitVec.getLsbD_and, BitVec.getLsbD_not, BitVec.getLsbD_ofNat, BitVec.getLsbD_ofNat]
  by_cases hj : j < 64
  ·simp [hj]
  ·have h1 : a.testBit j = false := Nat.testBit_lt_two_pow (Nat.lt_of_lt_of_le (show a < 2 ^ 64 by rw [p64]; exact ha) (Nat.pow_le_pow_right (by decide) (by omega)))
   simp [hj, h1]
theorem apU (s c : Nat) : ((((s / 2 ^ c &&& 1 : Nat)) : Int) == 1) = s.testBit c := by
 rw [Nat.and_one_is_mod, Nat.testBit_eq_decide_div_mod_eq]
 by_cases h : s / 2 ^ c % 2 = 1
 ·simp [h]
 ·have : s / 2 ^ c % 2 = 0 := by omega
  simp [this]
theorem apW {s c : Nat} (hs : s < 18446744073709551616) (hc : c <= 64) : ((yS .u64 (Int.fdiv (s : Int) (2 ^ min (Int.toNat (c : Int)) 64)) 1) == 1) = s.testBit c := by
 rw [Int.toNat_natCast, Nat.min_eq_left hc, fdiv_pow]
 have h := aaQ (a := s / 2 ^ c) (b := 1) (Nat.lt_of_le_of_lt (Nat.div_le_self _ _) hs) (by decide)
 rw [show ((1 : Nat) : Int) = 1 from rfl] at h
 rw [h]; exact apU s c
def nM (ps : List (List Int)) (x y : Int) : Bool := ps.any fun p => (decide (p.getD 0 0 = x) && decide (p.getD 1 0 = y)) || (decide (p.getD 0 0 = y) && decide (p.getD 1 0 = x))
theorem atT (ps : List (List Int)) (x y : Int) : nM ps x y = nM ps y x := by
 unfold nM; congr 1; funext p; rw [Bool.or_comm]
def KF (k : Int) : List (List Int) -> List (List Int) -> Int
 | _, [] => 0
 | bf, p :: r => if ¬ (0 <= p.getD 0 0 /\ p.getD 0 0 <= k - 1) \/ ¬ (0 <= p.getD 1 0 /\ p.getD 1 0 <= k - 1) then 5 else if p.getD 0 0 = p.getD 1 0 then 20 else if nM bf (p.getD 0 0) (p.getD 1 0) = true then 6 else KF k (bf ++ [p]) r
def iG (o : Of) : Int := if ¬ (1 <= o.1 /\ o.1 <= 6) then 3 else if 15 < o.2.1.length then 2 else KF o.1 [] o.2.1
theorem acS {k : Int} : ∀ {r bf : List (List Int)}, KF k bf r = 0 -> ∀ p ∈ r, (0 <= p.getD 0 0 /\ p.getD 0 0 <= k - 1) /\ (0 <= p.getD 1 0 /\ p.getD 1 0 <= k - 1) /\ p.getD 0 0 ≠ p.getD 1 0
 | [], bf, h, p, hp => by cases hp
 | q :: r, bf, h, p, hp => by
  simp only [KF] at h
  split at h
  ·cases h
  ·rename_i h1
   split at h
   ·cases h
   ·rename_i h2
    split at h
    ·cases h
    ·rcases List.mem_cons.1 hp with rfl | hp
     ·exact ⟨by omega, by omega, h2⟩
     ·exact acS h p hp
theorem A8 {o : Of} (h : iG o = 0) : (1 <= o.1 /\ o.1 <= 6) /\ o.2.1.length <= 15 /\ ∀ p ∈ o.2.1, (0 <= p.getD 0 0 /\ p.getD 0 0 <= o.1 - 1) /\ (0 <= p.getD 1 0 /\ p.getD 1 0 <= o.1 - 1) /\ p.getD 0 0 ≠ p.getD 1 0 := by
 unfold iG at h
 split at h
 ·cases h
 ·rename_i h1
  split at h
  ·cases h
  ·rename_i h2
   exact ⟨by omega, by omega, acS h⟩
theorem atS {o : Of} (h : iG o = 0) (x : Int) : nM o.2.1 x x = false := by
 cases hf : nM o.2.1 x x with
 | false => rfl
 | true =>
  exfalso
  obtain ⟨p, hp, hx⟩ := List.any_eq_true.1 hf
  have := (A8 h).2.2 p hp
  simp only [Bool.or_eq_true, Bool.and_eq_true, decide_eq_true_eq] at hx
  omega
def iZ : Int -> Int -> Int -> Option Bool := fun lo n hi => some (decide (lo <= n /\ n <= hi))
theorem aeG : aC prog 49 (CY iZ) := ag3 iZ fun lo n hi r h => ⟨0, by
 obtain rfl := Option.some.inj h
 unfold Dp
 by_cases h : lo <= n <;> simp [h]⟩
def DY (v : List Int) : Nat -> List (List Int) -> Int
 | _, [] => -1
 | t, x :: r => if v.getD 0 0 = x.getD 0 0 /\ v.getD 1 0 = x.getD 1 0 then t else DY v (t + 1) r
theorem apL (v x : List Int) : DT.beq (.arr 2 (.int .i64)) v x = decide (v.getD 0 0 = x.getD 0 0 /\ v.getD 1 0 = x.getD 1 0) := by
 show (decide (v.getD 0 0 = x.getD 0 0) && (decide (v.getD 1 0 = x.getD 1 0) && true)) = _
 rw [Bool.and_true, Bool.decide_and]
theorem aeF (v : List Int) : ∀ (r : List (List Int)) (t : Nat), 0 <= DY v t r ↔ (r.any fun x => decide (v.getD 0 0 = x.getD 0 0) && decide (v.getD 1 0 = x.getD 1 0)) = true
 | [], t => by simp [DY]
 | x :: r, t => by
  have ih := aeF v r (t + 1)
  simp only [DY, List.any_cons, Bool.or_eq_true, Bool.and_eq_true, decide_eq_true_eq]
  by_cases h : v.getD 0 0 = x.getD 0 0 /\ v.getD 1 0 = x.getD 1 0
  ·rw [if_pos h]; exact ⟨fun _ => .inl h, fun _ => by omega⟩
  ·rw [if_neg h, ih]; exact ⟨.inr, fun q => q.resolve_left h⟩
theorem awH (v : List Int) (r : List (List Int)) (t : Nat) : decide (DY v t r >= 0) = r.any fun x => decide (v.getD 0 0 = x.getD 0 0) && decide (v.getD 1 0 = x.getD 1 0) := by
 rw [Bool.eq_iff_iff, decide_eq_true_iff]
 exact aeF v r t
def JB : List (List Int) -> List Int -> Option Int := fun s v => if s.length <= 1000 then some (DY v 0 s) else none
theorem axD : aC prog 101 (JL JB) := agZ JB fun s v r h => ⟨1001, by
 unfold JB at h
 split at h
 ·rename_i hl
  obtain rfl := Option.some.inj h
  refine yA s [0, 0] (fun n (_ : Unit) t => l101a 1001 s v n t) (fun _ _ _ => True) (fun t r _ => some (DY v t r)) (fun n _ t x rest h1 h2 _ ih => ?_) (fun n _ _ => ?_) 1001 () (by omega) trivial
  ·show l101a 1001 s v (n + 1) (t : Int) = _
   rw [l101a, XI, rP h1, cond_true, rQ h1, kX, Int.toNat_natCast, h2, apL, qM h1 (by omega), DY]
   by_cases hx : v.getD 0 0 = x.getD 0 0 /\ v.getD 1 0 = x.getD 1 0
   ·rw [decide_eq_true hx, cond_true, if_pos hx]
   ·rw [decide_eq_false hx, cond_false, if_neg hx]
    exact ih () trivial
  ·show l101a 1001 s v (n + 1) (s.length : Int) = _
   rw [l101a, XI, qL, cond_false]; rfl
 ·cases h⟩
def CU : List (List Int) -> List Int -> Option Bool := fun s v => if s.length <= 1000 then some (s.any fun x => decide (v.getD 0 0 = x.getD 0 0) && decide (v.getD 1 0 = x.getD 1 0)) else none
theorem axL : aC prog 81 (JU CU) := ag5 JB axD CU fun s v r h => ⟨0, by
 unfold CU at h
 split at h
 ·rename_i hl
  obtain rfl := Option.some.inj h
  show (JB s v).bind _ = _
  unfold JB
  rw [if_pos hl, Option.bind_some, awH]
 ·cases h⟩
def l7 : Of -> Option Int := fun o => some (iG o)
theorem ao9 (l : List (List Int)) (f g : List Int -> Bool) : (l.any f || l.any g) = l.any fun x => f x || g x := by
 induction l with
 | nil => rfl
 | cons a l ih => simp only [List.any_cons, <- ih]; cases f a <;> cases g a <;> simp
theorem atU (bf : List (List Int)) (x y : Int) (a b : List Int) (ha : a.getD 0 0 = x /\ a.getD 1 0 = y) (hb : b.getD 0 0 = y /\ b.getD 1 0 = x) :
  ((bf.any fun q => decide (a.getD 0 0 = q.getD 0 0) && decide (a.getD 1 0 = q.getD 1 0)) || (bf.any fun q => decide (b.getD 0 0 = q.getD 0 0) && decide (b.getD 1 0 = q.getD 1 0))) = nM bf x y := by
 rw [ao9, ha.1, ha.2, hb.1, hb.2]
 unfold nM
 congr 1
 funext q
 rw [decide_eq_decide.2 (show x = q.getD 0 0 ↔ q.getD 0 0 = x from eq_comm), decide_eq_decide.2 (show y = q.getD 1 0 ↔ q.getD 1 0 = y from eq_comm), decide_eq_decide.2 (show y = q.getD 0 0 ↔ q.getD 0 0 = y from eq_comm), decide_eq_decide.2 (show x = q.getD 1 0 ↔ q.getD 1 0 = x from eq_comm)]
theorem axH : aC prog 48 (JP l7) := ag2 iZ CU aeG axL l7 fun o r h => ⟨20, by
 obtain rfl := Option.some.inj h
 unfold QF iG
 show (iZ 1 o.1 6).bind _ = _
 unfold iZ
 rw [Option.bind_some]
 by_cases h1 : 1 <= o.1 /\ o.1 <= 6
 ·rw [decide_eq_true h1, if_neg (by simpa using h1)]
  simp only [Bool.not_true, cond_false]
  by_cases h2 : 15 < o.2.1.length
  ·rw [decide_eq_true (by omega), if_pos h2]; rfl
  ·rw [decide_eq_false (by omega), if_neg h2, cond_false]
   refine yA o.2.1 [0, 0] (fun n (_ : Unit) t => BM iZ CU 20 o n t) (fun _ _ _ => True) (fun t r _ => some (KF o.1 (o.2.1.take t) r)) (fun n _ t x rest h3 h4 _ ih => ?_) (fun n _ _ => ?_) 20 () (by omega) trivial
   ·show BM iZ CU 20 o (n + 1) (t : Int) = _
    have e1 : aH (o.1 - 1) = o.1 - 1 := yG (by omega) (by omega)
    have e2 : o.2.1.take (t + 1) = o.2.1.take t ++ [x] := by
     rw [List.take_add_one, List.getElem?_eq_getElem h3]
     rw [List.getD_eq_getElem?_getD, List.getElem?_eq_getElem h3] at h4
     simp only [Option.getD_some] at h4
     simp [h4]
    have e3 : (o.2.1.take t).length <= 1000 := by rw [List.length_take]; omega
    have e4 : decide (0 <= (t : Int) /\ (t : Int) <= (o.2.1.length : Int)) = true := decide_eq_true (by omega)
    rw [BM, XR, rP h3, cond_true, rQ h3, kX, Int.toNat_natCast, h4, e1, qM h3 (by omega), e4, KF]
    show (iZ 0 (x.getD 0 0) (o.1 - 1)).bind _ = _
    unfold iZ
    rw [Option.bind_some]
    by_cases a1 : 0 <= x.getD 0 0 /\ x.getD 0 0 <= o.1 - 1
    ·rw [decide_eq_true a1, Bool.not_true, cond_false, Option.bind_some]
     by_cases a2 : 0 <= x.getD 1 0 /\ x.getD 1 0 <= o.1 - 1
     ·rw [decide_eq_true a2, Bool.not_true, cond_false, if_neg (by omega)]
      by_cases a3 : x.getD 0 0 = x.getD 1 0
      ·rw [if_pos a3, beq_iff_eq.2 a3, cond_true]
      ·rw [if_neg a3, beq_eq_false_iff_ne.2 a3, cond_false, kX]
       unfold CU
       rw [if_pos e3, Option.bind_some, kX]
       have hf := atU (o.2.1.take t) (x.getD 0 0) (x.getD 1 0) x [x.getD 1 0, x.getD 0 0] ⟨rfl, rfl⟩ ⟨rfl, rfl⟩
       cases a4 : (List.take t o.2.1).any fun q => decide (x.getD 0 0 = q.getD 0 0) && decide (x.getD 1 0 = q.getD 1 0) with
       | true =>
        rw [a4, Bool.true_or] at hf
        rw [cond_true, <- hf, if_pos rfl]
       | false =>
        rw [a4, Bool.false_or] at hf
        rw [cond_false, if_pos e3, Option.bind_some, hf]
        cases a5 : nM (o.2.1.take t) (x.getD 0 0) (x.getD 1 0) with
        | true => rw [cond_true, if_pos rfl]
        | false =>
         rw [cond_false, if_neg (by simp)]
         have := ih () trivial
         rw [e2] at this
         exact this
     ·rw [decide_eq_false a2, if_pos (.inr a2)]; rfl
    ·rw [decide_eq_false a1, if_pos (.inl a1)]; rfl
   ·show BM iZ CU 20 o (n + 1) (o.2.1.length : Int) = _
    rw [BM, XR, qL, cond_false, List.take_length]; rfl
 ·rw [decide_eq_false h1, if_pos (by simpa using h1)]; rfl⟩
def qB (B : Nat -> Nat -> Bool) (d : List Int) : Prop := d.length = 6 /\ ∀ i, i < 6 -> ∃ m : Nat, m < 64 /\ d.getD i 0 = (m : Int) /\ ∀ j, m.testBit j = B i j
def wJ (f : Nat -> Bool) : Nat := (f 0).toNat + 2 * (f 1).toNat + 4 * (f 2).toNat + 8 * (f 3).toNat + 16 * (f 4).toNat + 32 * (f 5).toNat
def AZ (B : Nat -> Nat -> Bool) : List Int := [(wJ (B 0) : Int), (wJ (B 1) : Int), (wJ (B 2) : Int), (wJ (B 3) : Int), (wJ (B 4) : Int), (wJ (B 5) : Int)]
theorem Uw (f : Nat -> Bool) : wJ f < 64 := by
 unfold wJ
 have h : ∀ b : Bool, b.toNat <= 1 := fun b => by cases b <;> decide
 have := h (f 0); have := h (f 1); have := h (f 2); have := h (f 3); have := h (f 4); have := h (f 5)
 omega
theorem aCB : ∀ (a b c d e f : Bool), [0, 1, 2, 3, 4, 5].map (fun j => (a.toNat + 2 * b.toNat + 4 * c.toNat + 8 * d.toNat + 16 * e.toNat + 32 * f.toNat).testBit j) = [a, b, c, d, e, f] := by decide
theorem ai2 (f : Nat -> Bool) (hf : ∀ j, 6 <= j -> f j = false) (j : Nat) : (wJ f).testBit j = f j := by
 by_cases hj : j < 6
 ·have h := aCB (f 0) (f 1) (f 2) (f 3) (f 4) (f 5)
  simp only [List.map_cons, List.map_nil, List.cons.injEq, and_true] at h
  obtain ⟨h0, h1, h2, h3, h4, h5⟩ := h
  unfold wJ
  match j, hj with
  | 0, _ => exact h0
  | 1, _ => exact h1
  | 2, _ => exact h2
  | 3, _ => exact h3
  | 4, _ => exact h4
  | 5, _ => exact h5
 ·rw [hf j (by omega)]
  exact Nat.testBit_lt_two_pow (Nat.lt_of_lt_of_le (Uw f) (by
   have : 2 ^ 6 <= 2 ^ j := Nat.pow_le_pow_right (by decide) (by omega)
   simpa using this))
theorem qB.eq {B : Nat -> Nat -> Bool} {d : List Int} (h : qB B d) : d = AZ B := by
 obtain ⟨hl, hb⟩ := h
 have hB : ∀ i, i < 6 -> d.getD i 0 = (wJ (B i) : Int) := fun i hi => by
  obtain ⟨m, hm, e, hj⟩ := hb i hi
  have hz : ∀ j, 6 <= j -> B i j = false := fun j h6 => by
   rw [<- hj]
   exact Nat.testBit_lt_two_pow (Nat.lt_of_lt_of_le hm (by
    have : 2 ^ 6 <= 2 ^ j := Nat.pow_le_pow_right (by decide) h6
    simpa using this))
  rw [e, Nat.eq_of_testBit_eq (fun j => (hj j).trans (ai2 (B i) hz j).symm)]
 match d, hl with
 | [a, b, c, e, f, g], _ =>
  have h0 := hB 0 (by decide); have h1 := hB 1 (by decide); have h2 := hB 2 (by decide); have h3 := hB 3 (by decide); have h4 := hB 4 (by decide); have h5 := hB 5 (by decide)
  simp only [List.getD_cons_zero, List.getD_cons_succ] at h0 h1 h2 h3 h4 h5
  rw [h0, h1, h2, h3, h4, h5]; rfl
theorem arE {B : Nat -> Nat -> Bool} (hB : ∀ i j, 6 <= j -> B i j = false) : qB B (AZ B) := by
 refine ⟨rfl, fun i hi => ⟨wJ (B i), Uw _, ?_, ai2 _ (hB i)⟩⟩
 match i, hi with
 | 0, _ => rfl
 | 1, _ => rfl
 | 2, _ => rfl
 | 3, _ => rfl
 | 4, _ => rfl
 | 5, _ => rfl
theorem adA {d : List Int} {x i : Nat} {v : Int} (hl : d.length = 6) (hx : x < 6) : (d.set x v).getD i 0 = if i = x then v else d.getD i 0 := by
 rw [List.getD_eq_getElem?_getD, List.getElem?_set, List.getD_eq_getElem?_getD]
 by_cases h : i = x
 ·subst h; rw [if_pos rfl, if_pos (by omega), if_pos rfl]; rfl
 ·rw [if_neg (fun e => h e.symm), if_neg h]
theorem aB2 {y : Nat} (h : y < 6) : 2 ^ y < 64 := by
 have : 2 ^ y < 2 ^ 6 := Nat.pow_lt_pow_right (by decide) h
 simpa using this
theorem qB.full {B : Nat -> Nat -> Bool} {d : List Int} (h : qB B d) {t k : Nat} (ht : t < 6) (hk : 1 <= k /\ k <= 6) :
  qB (fun i j => if i = t then decide (j < k) else B i j) (d.set t (IntKind.wrap .u64 (IntKind.wrap .u64 (1 * 2 ^ min (Int.toNat (k : Int)) 64) - 1))) := by
 have e : IntKind.wrap .u64 (IntKind.wrap .u64 (1 * 2 ^ min (Int.toNat (k : Int)) 64) - 1) = ((2 ^ k - 1 : Nat) : Int) := by
  have h2 : 2 ^ k <= 64 := by
   have : 2 ^ k <= 2 ^ 6 := Nat.pow_le_pow_right (by decide) hk.2
   simpa using this
  have h3 : 1 <= 2 ^ k := Nat.one_le_two_pow
  rw [Int.toNat_natCast, Nat.min_eq_left (by omega), Int.one_mul, Um, wrap_u64 (by omega), show ((2 ^ k : Nat) : Int) - 1 = ((2 ^ k - 1 : Nat) : Int) by omega, wrap_u64 (by omega)]
 rw [e]
 refine ⟨by rw [List.length_set]; exact h.1, fun i hi => ?_⟩
 rw [adA h.1 ht]
 by_cases hit : i = t
 ·subst hit
  refine ⟨2 ^ k - 1, ?_, by rw [if_pos rfl], fun j => ?_⟩
  ·have h2 : 2 ^ k <= 64 := by
    have : 2 ^ k <= 2 ^ 6 := Nat.pow_le_pow_right (by decide) hk.2
    simpa using this
   have h3 : 1 <= 2 ^ k := Nat.one_le_two_pow
   omega
  ·simp only [if_true]
   exact Nat.testBit_two_pow_sub_one k j
 ·obtain ⟨m, h1, h2, h3⟩ := h.2 i hi
  refine ⟨m, h1, by rw [if_neg hit]; exact h2, fun j => ?_⟩
  simp only [if_neg hit]
  exact h3 j
theorem qB.xK {B : Nat -> Nat -> Bool} {d : List Int} (h : qB B d) {x y : Nat} (hx : x < 6) (hy : y < 6) :
  qB (fun i j => B i j && !(decide (i = x) && decide (j = y))) (d.set x (rH .u64 (d.getD x 0) (IntKind.wrap .u64 (1 * 2 ^ min (Int.toNat (y : Int)) 64)))) := by
 obtain ⟨m, h1, h2, h3⟩ := h.2 x hx
 have hp := aB2 hy
 have e : IntKind.wrap .u64 (1 * 2 ^ min (Int.toNat (y : Int)) 64) = ((2 ^ y : Nat) : Int) := by
  rw [Int.toNat_natCast, Nat.min_eq_left (by omega), Int.one_mul, Um, wrap_u64 (by omega)]
 obtain ⟨q, q1, q2, q3⟩ := ao6 (a := m) (b := 2 ^ y) (by omega) (by omega)
 rw [e, h2, q2]
 refine ⟨by rw [List.length_set]; exact h.1, fun i hi => ?_⟩
 rw [adA h.1 hx]
 by_cases hix : i = x
 ·subst hix
  refine ⟨q, by omega, by rw [if_pos rfl], fun j => ?_⟩
  rw [q3, h3, Nat.testBit_two_pow]
  by_cases Ou : j = y
  ·subst Ou; simp
  ·simp [Ou, show ¬ y = j from fun e => Ou e.symm]
 ·obtain ⟨m', a1, a2, a3⟩ := h.2 i hi
  exact ⟨m', a1, by rw [if_neg hix]; exact a2, fun j => by rw [a3]; simp [hix]⟩
def bits (k : Int) (ps : List (List Int)) (i j : Nat) : Bool := decide ((i : Int) < k) && decide ((j : Int) < k) && !nM ps i j
def jV (o : Of) : List Int := AZ (bits o.1 o.2.1)
def BV (k : Int) (l : Wd) : Bool := l.all fun b => decide (97 <= (b.toNat : Int) /\ (b.toNat : Int) <= 97 + k - 1)
def DN (k : Int) (l : Wd) : Int := if 14 < l.length then 19 else if BV k l = true then 0 else 9
def sW (k : Int) : List Wd -> Int
 | [] => 0
 | l :: r => if DN k l = 0 then sW k r else DN k l
def SH : Of -> List Wd -> Option (List Int × Int) := fun o ls => some (if iG o = 0 then (jV o, sW o.1 ls) else ([0, 0, 0, 0, 0, 0], iG o))
theorem atQ (a b : List (List Int)) (x y : Int) : nM (a ++ b) x y = (nM a x y || nM b x y) := List.any_append
theorem aF7 {k : Int} (h : 1 <= k /\ k <= 6) : aH (aH (97 + k) - 1) = 97 + k - 1 := by
 rw [yG (n := 97 + k) (by omega) (by omega), yG (by omega) (by omega)]
theorem aDB {α : Type} {xs : List α} {t : Nat} {x d : α} (h3 : t < xs.length) (h4 : xs.getD t d = x) : xs.take (t + 1) = xs.take t ++ [x] := by
 rw [List.take_add_one, List.getElem?_eq_getElem h3]
 rw [List.getD_eq_getElem?_getD, List.getElem?_eq_getElem h3] at h4
 simp only [Option.getD_some] at h4
 simp [h4]
theorem ax0 (o : Of) (d : List Int) (ls : List Wd) (hk : 1 <= o.1 /\ o.1 <= 6) (hd : d.length = 6) (N : Nat) (hN : ls.length + 20 <= N) (hl : ls.length < 1000) :
  uV l7 iZ N o ls [d] N 0 = some (d, sW o.1 ls) := by
 refine yA ls [] (fun n (_ : Unit) t => uV l7 iZ N o ls [d] n t) (fun _ _ _ => True) (fun t r _ => some (d, sW o.1 r)) (fun n _ t x rest h3 h4 _ ih => ?_) (fun n _ _ => ?_) N () (by omega) trivial
 ·show uV l7 iZ N o ls [d] (n + 1) (t : Int) = _
  rw [uV, rP h3, cond_true, rQ h3, kX, Int.toNat_natCast, h4, sW]
  unfold DN
  by_cases hx : 14 < x.length
  ·rw [decide_eq_true (by omega), cond_true, if_pos hx]; rfl
  ·rw [decide_eq_false (by omega), cond_false, if_neg hx]
   have := yA x 0 (fun m (_ : Unit) s => BK l7 iZ N o ls [d] (t : Int) (fun y0 => uV l7 iZ N o ls [d] n y0) m s) (fun _ _ _ => True) (fun _ r _ => if BV o.1 r = true then some (d, sW o.1 rest) else some (d, 9)) (fun m _ s b r q1 q2 _ jh => ?_) (fun m _ _ => ?_) N () (by omega) trivial
   ·rw [this]
    by_cases ho : BV o.1 x = true
    ·rw [if_pos ho, if_pos ho, if_pos rfl]
    ·rw [if_neg ho, if_neg ho, if_neg (by decide)]
   ·show BK l7 iZ N o ls [d] (t : Int) (fun y0 => uV l7 iZ N o ls [d] n y0) (m + 1) (s : Int) = _
    rw [BK, XM, Int.toNat_natCast, h4, rP q1, cond_true, rQ q1, kX, Int.toNat_natCast, q2, aF7 hk, qM q1 (by omega)]
    show (iZ 97 _ _).bind _ = _
    have hb := b.toNat_lt
    rw [aF8 (by omega)]
    by_cases hbb : 97 <= (b.toNat : Int) /\ (b.toNat : Int) <= 97 + o.1 - 1
    ·have e : BV o.1 (b :: r) = BV o.1 r := by simp only [BV, List.all_cons, decide_eq_true hbb, Bool.true_and]
     have e2 : iZ 97 (b.toNat : Int) (97 + o.1 - 1) = some true := by unfold iZ; rw [decide_eq_true hbb]
     rw [e2, Option.bind_some, Bool.not_true, cond_false, e]
     exact jh () trivial
    ·have e : BV o.1 (b :: r) = false := by simp only [BV, List.all_cons, decide_eq_false hbb, Bool.false_and]
     have e2 : iZ 97 (b.toNat : Int) (97 + o.1 - 1) = some false := by unfold iZ; rw [decide_eq_false hbb]
     rw [e2, Option.bind_some, Bool.not_false, cond_true, e, if_neg (by simp)]
     rfl
   ·show BK l7 iZ N o ls [d] (t : Int) (fun y0 => uV l7 iZ N o ls [d] n y0) (m + 1) (x.length : Int) = _
    rw [BK, XM, Int.toNat_natCast, h4, qL, cond_false, qM h3 (by omega)]
    exact ih () trivial
 ·show uV l7 iZ N o ls [d] (n + 1) (ls.length : Int) = _
  rw [uV, qL, cond_false]; rfl
theorem apY {k : Int} (pf : List (List Int)) (p : List Int) {x y : Nat} (hx : p.getD 0 0 = (x : Int)) (hy : p.getD 1 0 = (y : Int)) (i j : Nat) :
  bits k (pf ++ [p]) i j = ((bits k pf i j && !(decide (i = x) && decide (j = y))) && !(decide (i = y) && decide (j = x))) := by
 unfold bits
 rw [atQ]
 have e : nM [p] (i : Int) (j : Int) = ((decide (i = x) && decide (j = y)) || (decide (i = y) && decide (j = x))) := by
  unfold nM
  rw [List.any_cons, List.any_nil, Bool.or_false, hx, hy]
  have q : ∀ a b : Nat, decide ((a : Int) = b) = decide (b = a) := fun a b => decide_eq_decide.2 (by omega)
  rw [q, q, q, q, Bool.and_comm (decide (j = x))]
 rw [e]
 cases decide ((i : Int) < k) <;> cases decide ((j : Int) < k) <;> cases nM pf (i : Int) (j : Int) <;> cases decide (i = x) <;> cases decide (j = y) <;> cases decide (i = y) <;> cases decide (j = x) <;> rfl
theorem qB.of {B C : Nat -> Nat -> Bool} {d : List Int} (h : qB B d) (e : ∀ i j, B i j = C i j) : qB C d :=
 ⟨h.1, fun i hi => let ⟨m, a, b, c⟩ := h.2 i hi; ⟨m, a, b, fun j => (c j).trans (e i j)⟩⟩
theorem aBG (o : Of) (ls : List Wd) (ho : iG o = 0) (N : Nat) (hN : ls.length + 20 <= N) (hl : ls.length < 1000) (d : List Int) (hd : qB (bits o.1 []) d) :
  zF l7 iZ N o ls N 0 [d] = some (jV o, sW o.1 ls) := by
 obtain ⟨hk, hlen, hps⟩ := A8 ho
 refine yA o.2.1 [0, 0] (fun n (s : List (List Int)) t => zF l7 iZ N o ls n t s) (fun t r s => ∃ d, s = [d] /\ qB (bits o.1 (o.2.1.take t)) d) (fun t r s => some (jV o, sW o.1 ls)) (fun n s t p rest h3 h4 hI ih => ?_) (fun n s hI => ?_) N [d] (by omega) ⟨d, rfl, hd⟩
 ·show zF l7 iZ N o ls (n + 1) (t : Int) s = _
  obtain ⟨d, rfl, hd⟩ := hI
  obtain ⟨a1, a2, a3⟩ := hps p (by
   rw [<- h4, List.getD_eq_getElem?_getD, List.getElem?_eq_getElem h3]
   exact List.getElem_mem h3)
  obtain ⟨x, hx⟩ : ∃ x : Nat, p.getD 0 0 = (x : Int) := ⟨(p.getD 0 0).toNat, by omega⟩
  obtain ⟨y, hy⟩ : ∃ y : Nat, p.getD 1 0 = (y : Int) := ⟨(p.getD 1 0).toNat, by omega⟩
  have hx6 : x < 6 := by omega
  have Pj : y < 6 := by omega
  have d1 := hd.xK hx6 Pj
  have d2 := d1.xK Pj hx6
  have c1 : decide (0 <= (x : Int) /\ (x : Int) < 6) = true := decide_eq_true (by omega)
  have c2 : decide (0 <= (y : Int)) = true := decide_eq_true (by omega)
  have c3 : decide (0 <= (y : Int) /\ (y : Int) < 6) = true := decide_eq_true (by omega)
  have c4 : decide (0 <= (x : Int)) = true := decide_eq_true (by omega)
  have c5 : decide (x < d.length) = true := decide_eq_true (by rw [hd.1]; exact hx6)
  have c6 : decide (y < (d.set x (rH .u64 (d.getD x 0) (IntKind.wrap .u64 (1 * 2 ^ min (Int.toNat (y : Int)) 64)))).length) = true := decide_eq_true (by rw [d1.1]; exact Pj)
  rw [zF, rP h3, cond_true, rQ h3, kX, Int.toNat_natCast, h4, hx, hy, qM h3 (by omega)]
  simp only [List.set_cons_zero, List.getD_cons_zero, Int.toNat_natCast, c1, c2, c3, c4, Bool.and_true]
  simp only [Int.toNat_natCast] at c6 d1 d2
  rw [c5, c6]
  simp only [kX]
  refine ih _ ⟨_, rfl, ?_⟩
  rw [aDB h3 h4]
  exact d2.of fun i j => (apY _ p hx hy i j).symm
 ·show zF l7 iZ N o ls (n + 1) (o.2.1.length : Int) s = _
  obtain ⟨d, rfl, hd⟩ := hI
  rw [zF, qL, cond_false, ax0 o d ls hk hd.1 N hN hl]
  rw [List.take_length] at hd
  rw [hd.eq]; rfl
theorem axE : aC prog 21 (vM fun o ls => if ls.length < 1000 then SH o ls else none) := ag0 l7 iZ axH aeG _ fun o ls r h => ⟨ls.length + 20, by
 split at h
 ·rename_i hl
  obtain rfl := Option.some.inj h
  unfold m21
  show (l7 o).bind _ = _
  unfold l7
  rw [Option.bind_some]
  by_cases ho : iG o = 0
  ·obtain ⟨hk, _⟩ := A8 ho
   rw [ho, if_pos rfl]
   show cond false _ _ = _
   rw [cond_false]
   obtain ⟨k, hkk⟩ : ∃ k : Nat, o.1 = (k : Int) := ⟨o.1.toNat, by omega⟩
   refine YP 0 o.1 (by omega) (fun n (s : List (List Int)) t => BJ l7 iZ (ls.length + 20) o ls n t s) (fun t s => ∃ d, s = [d] /\ qB (fun i j => if (i : Int) < t then decide (j < k) else false) d) (fun _ _ => some (jV o, sW o.1 ls)) (fun n s t h0 h1 hI ih => ?_) (fun n s hI => ?_) (ls.length + 20) [[0, 0, 0, 0, 0, 0]] (by omega) ⟨_, rfl, ?_⟩
   ·show BJ l7 iZ (ls.length + 20) o ls (n + 1) t s = _
    obtain ⟨d, rfl, hd⟩ := hI
    obtain ⟨x, rfl⟩ : ∃ x : Nat, t = (x : Int) := ⟨t.toNat, by omega⟩
    have hx6 : x < 6 := by omega
    rw [BJ, XL, decide_eq_true h1, cond_true, iU (by omega), iU (by omega), Int.toNat_natCast, List.getD_cons_zero, decide_eq_true (show x < d.length by rw [hd.1]; exact hx6), Bool.true_and, kX, List.set_cons_zero, yG (by omega) (by omega)]
    refine ih _ ⟨_, rfl, ?_⟩
    rw [hkk]
    refine (hd.full hx6 (k := k) (by omega)).of fun i j => ?_
    by_cases hi : i = x
    ·subst hi; rw [if_pos rfl, if_pos (by omega)]
    ·rw [if_neg hi]
     by_cases hj : (i : Int) < x
     ·rw [if_pos hj, if_pos (by omega)]
     ·rw [if_neg hj, if_neg (by omega)]
   ·show BJ l7 iZ (ls.length + 20) o ls (n + 1) o.1 s = _
    obtain ⟨d, rfl, hd⟩ := hI
    rw [BJ, XL, decide_eq_false (by omega), cond_false]
    refine aBG o ls ho _ (Nat.le_refl _) hl d (hd.of fun i j => ?_)
    unfold bits
    have e : nM [] (i : Int) (j : Int) = false := rfl
    rw [e, hkk, Bool.not_false, Bool.and_true]
    by_cases hi : (i : Int) < k
    ·rw [if_pos hi, decide_eq_true hi, Bool.true_and]; exact decide_eq_decide.2 (by omega)
    ·rw [if_neg hi, decide_eq_false hi, Bool.false_and]
   ·refine ⟨rfl, fun i hi => ⟨0, by decide, ?_, fun j => ?_⟩⟩
    ·match i, hi with
     | 0, _ => rfl
     | 1, _ => rfl
     | 2, _ => rfl
     | 3, _ => rfl
     | 4, _ => rfl
     | 5, _ => rfl
    ·show Nat.testBit 0 j = if (i : Int) < 0 then decide (j < k) else false
     rw [if_neg (by omega)]; exact Nat.zero_testBit j
  ·rw [if_neg ho]
   have : (iG o != 0) = true := by simpa using ho
   rw [this, cond_true]
 ·cases h⟩
end Go.Proofs.YtfopcfnggdonkaaGreatDoor
