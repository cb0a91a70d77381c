/-
 Offices and logs by numbers; exchanges; what is left of a log.
-/
import Derived.Test.YtmpbbkldopfkpaaDoorL4
import Derived.Test.YtmpbbkldopfkpaaDoorQM26
import Derived.Test.YtmpbbkldopfkpaaDoorQM27
import Derived.Test.YtmpbbkldopfkpaaDoorQM57
import Derived.Test.YtmpbbkldopfkpaaDoorQM30
import Derived.Test.YtmpbbkldopfkpaaDoorQM28
import Derived.Test.YtmpbbkldopfkpaaDoorQM32
namespace Go.Proofs.YtmpbbkldopfkpaaDoor
open Go.RowKit
set_option linter.unusedVariables false

abbrev Dsq := Int × Int × Unit
def it (K F x y b : Nat) : List (List Int) := if F.testBit b = true then (if K.testBit b = true then [[(y : Int), (x : Int)]] else [[(x : Int), (y : Int)]]) else []
def allP (k K F : Nat) : List (List Int) := match k with
 | 2 => it K F 0 1 0
 | 3 => it K F 0 1 0 ++ (it K F 0 2 1 ++ it K F 1 2 2)
 | 4 => it K F 0 1 0 ++ (it K F 0 2 1 ++ (it K F 0 3 2 ++ (it K F 1 2 3 ++ (it K F 1 3 4 ++ it K F 2 3 5))))
 | _ => []
def kOf (K : Nat) : Nat := 2 + K % 3
def offN (K F : Nat) : Of := ((kOf K : Int), (allP (kOf K) K F, ()))
theorem it_len (K F x y b : Nat) : (it K F x y b).length ≤ 1 := by unfold it; split <;> (try split) <;> simp
theorem bit_u8 {s c : Nat} (hs : s < 256) (hc : c ≤ 8) : ((bAnd .u8 (Int.fdiv (s : Int) (2 ^ min (Int.toNat (c : Int)) 8)) 1) == 1) = s.testBit c := by
 have hlt : s / 2 ^ c < 256 := Nat.lt_of_le_of_lt (Nat.div_le_self _ _) hs
 have e := and_bits 8 (s / 2 ^ c) 1 (by simpa using hlt) (by decide)
 have h : bAnd .u8 ((s / 2 ^ c : Nat) : Int) ((1 : Nat) : Int) = ((s / 2 ^ c &&& 1 : Nat) : Int) := by
  show IntKind.wrap .u8 ((((BitVec.ofInt 8 ((s / 2 ^ c : Nat) : Int)) &&& (BitVec.ofInt 8 ((1 : Nat) : Int))).toNat : Nat) : Int) = _
  rw [e]
  exact wrap_u8 (by omega) (by have : s / 2 ^ c &&& 1 ≤ 1 := Nat.and_le_right; omega)
 rw [show ((1 : Nat) : Int) = 1 from rfl] at h
 rw [Int.toNat_natCast, Nat.min_eq_left hc, fdiv_pow, h]; exact bit_of s c
theorem kinds_mod {K : Nat} (hK : K < 256) : w64 (2 + Int.tmod (w64 (K : Int)) 3) = (kOf K : Int) := by
 unfold kOf
 rw [w64_nat (by omega)]
 have : Int.tmod (K : Int) 3 = ((K % 3 : Nat) : Int) := by
  rw [Int.tmod_eq_emod_of_nonneg (by omega)]; omega
 rw [this, w64_eq (by omega) (by omega)]; omega
theorem step26 {K F : Nat} (hK : K < 256) (hF : F < 256) (N : Nat) (rec : Int → Int → List (List Int) → Option (Int × List (List Int) × Unit)) (n x y b : Nat) (hy : y < kOf K) (hb : b ≤ 8) (acc : List (List Int)) (ha : acc.length ≤ 1000) :
  l26b N ((K : Int), ((F : Int), ())) (x : Int) rec (n + 1) (b : Int) (y : Int) acc = l26b N ((K : Int), ((F : Int), ())) (x : Int) rec n ((b + 1 : Nat) : Int) ((y + 1 : Nat) : Int) (acc ++ it K F x y b) := by
 have hk : kOf K ≤ 4 := by unfold kOf; omega
 rw [l26b, kinds_mod hK, decide_eq_true (by omega), cond_true, chk_dec (by omega), bit_u8 hF hb, bit_u8 hK hb, w64_succ (by omega), w64_succ (by omega)]
 unfold it
 cases F.testBit b with
 | false => rw [cond_false, if_neg (by simp), List.append_nil]
 | true =>
  rw [cond_true, if_pos rfl, chk_dec (by omega)]
  cases K.testBit b with
  | false => rw [cond_false, if_neg (by simp), chk_of (small_of (by omega) (by decide))]
  | true => rw [cond_true, if_pos rfl, chk_of (small_of (by omega) (by decide))]
theorem end26 {K F : Nat} (hK : K < 256) (N : Nat) (rec : Int → Int → List (List Int) → Option (Int × List (List Int) × Unit)) (n x y b : Nat) (hy : ¬ y < kOf K) (acc : List (List Int)) (hx : x < 10) :
  l26b N ((K : Int), ((F : Int), ())) (x : Int) rec (n + 1) (b : Int) (y : Int) acc = rec (b : Int) ((x + 1 : Nat) : Int) acc := by
 have hk : kOf K ≤ 4 := by unfold kOf; omega
 rw [l26b, kinds_mod hK, decide_eq_false (by omega), cond_false, w64_succ (by omega)]
theorem row26 {K F : Nat} (hK : K < 256) (N n x b : Nat) (hx : x < kOf K) (acc : List (List Int)) :
  l26a N ((K : Int), ((F : Int), ())) (n + 1) (b : Int) (x : Int) acc = l26b N ((K : Int), ((F : Int), ())) (x : Int) (fun y0 y1 y2 => l26a N ((K : Int), ((F : Int), ())) n y0 y1 y2) N (b : Int) ((x + 1 : Nat) : Int) acc := by
 have hk : kOf K ≤ 4 := by unfold kOf; omega
 rw [l26a, kinds_mod hK, decide_eq_true (by omega), cond_true, w64_succ (by omega)]
theorem fin26 {K F : Nat} (hK : K < 256) (N n x b : Nat) (hx : ¬ x < kOf K) (acc : List (List Int)) :
  l26a N ((K : Int), ((F : Int), ())) (n + 1) (b : Int) (x : Int) acc = some ((kOf K : Int), (acc, ())) := by
 have hk : kOf K ≤ 4 := by unfold kOf; omega
 rw [l26a, kinds_mod hK, decide_eq_false (by omega), cond_false]
def B26 : Dsq → Option Of := fun d => if (0 ≤ d.1 ∧ d.1 < 256) ∧ 0 ≤ d.2.1 ∧ d.2.1 < 256 then some (offN d.1.toNat d.2.1.toNat) else none
theorem kb26 : FnOk Tryd.prog 26 (F26 B26) := ok26 B26 fun d r h => ⟨10, by
 unfold B26 at h
 split at h
 ·rename_i hq
  obtain ⟨⟨h1, h2⟩, h3, h4⟩ := hq
  obtain ⟨K, F, u⟩ := d
  obtain ⟨K, rfl⟩ : ∃ z : Nat, K = (z : Int) := ⟨K.toNat, by simp only at h1; omega⟩
  obtain ⟨F, rfl⟩ : ∃ z : Nat, F = (z : Int) := ⟨F.toNat, by simp only at h3; omega⟩
  obtain rfl := Option.some.inj h
  simp only at h2 h4
  have hK : K < 256 := by omega
  have hF : F < 256 := by omega
  show l26a 10 ((K : Int), ((F : Int), ())) 10 ((0 : Nat) : Int) ((0 : Nat) : Int) [] = some (offN K F)
  unfold offN
  have i := it_len K F
  have hk : kOf K = 2 ∨ kOf K = 3 ∨ kOf K = 4 := by unfold kOf; omega
  rcases hk with hk | hk | hk
  ·have i0 := i 0 1 0
   rw [row26 hK 10 9 0 0 (by omega), step26 hK hF 10 _ 9 0 1 0 (by omega) (by omega) _ (by simp), end26 hK 10 _ 8 0 2 1 (by omega) _ (by omega)]
   rw [row26 hK 10 8 1 1 (by omega), end26 hK 10 _ 9 1 2 1 (by omega) _ (by omega)]
   rw [fin26 hK 10 7 2 1 (by omega), hk]
   rfl
  ·have i0 := i 0 1 0; have i1 := i 0 2 1; have i2 := i 1 2 2
   rw [row26 hK 10 9 0 0 (by omega), step26 hK hF 10 _ 9 0 1 0 (by omega) (by omega) _ (by simp), step26 hK hF 10 _ 8 0 2 1 (by omega) (by omega) _ (by simp; omega), end26 hK 10 _ 7 0 3 2 (by omega) _ (by omega)]
   rw [row26 hK 10 8 1 2 (by omega), step26 hK hF 10 _ 9 1 2 2 (by omega) (by omega) _ (by simp; omega), end26 hK 10 _ 8 1 3 3 (by omega) _ (by omega)]
   rw [row26 hK 10 7 2 3 (by omega), end26 hK 10 _ 9 2 3 3 (by omega) _ (by omega)]
   rw [fin26 hK 10 6 3 3 (by omega), hk]
   simp only [allP, List.nil_append, List.append_assoc]
  ·have i0 := i 0 1 0; have i1 := i 0 2 1; have i2 := i 0 3 2; have i3 := i 1 2 3; have i4 := i 1 3 4; have i5 := i 2 3 5
   rw [row26 hK 10 9 0 0 (by omega), step26 hK hF 10 _ 9 0 1 0 (by omega) (by omega) _ (by simp), step26 hK hF 10 _ 8 0 2 1 (by omega) (by omega) _ (by simp; omega), step26 hK hF 10 _ 7 0 3 2 (by omega) (by omega) _ (by simp; omega), end26 hK 10 _ 6 0 4 3 (by omega) _ (by omega)]
   rw [row26 hK 10 8 1 3 (by omega), step26 hK hF 10 _ 9 1 2 3 (by omega) (by omega) _ (by simp; omega), step26 hK hF 10 _ 8 1 3 4 (by omega) (by omega) _ (by simp; omega), end26 hK 10 _ 7 1 4 5 (by omega) _ (by omega)]
   rw [row26 hK 10 7 2 5 (by omega), step26 hK hF 10 _ 9 2 3 5 (by omega) (by omega) _ (by simp; omega), end26 hK 10 _ 8 2 4 6 (by omega) _ (by omega)]
   rw [row26 hK 10 6 3 6 (by omega), end26 hK 10 _ 9 3 4 6 (by omega) _ (by omega)]
   rw [fin26 hK 10 5 4 6 (by omega), hk]
   simp only [allP, List.nil_append, List.append_assoc]
 ·cases h⟩
def ixB' (k x y : Nat) : Nat := match k, x, y with
 | 2, 0, 1 => 0
 | 3, 0, 1 => 0
 | 3, 0, 2 => 1
 | 3, 1, 2 => 2
 | 4, 0, 1 => 0
 | 4, 0, 2 => 1
 | 4, 0, 3 => 2
 | 4, 1, 2 => 3
 | 4, 1, 3 => 4
 | 4, 2, 3 => 5
 | _, _, _ => 0
def frB (k F x y : Nat) : Bool := (decide (x < y) && F.testBit (ixB' k x y)) || (decide (y < x) && F.testBit (ixB' k y x))
theorem it_congr {K F K' F' : Nat} {b : Nat} (hK : K.testBit b = K'.testBit b) (hF : F.testBit b = F'.testBit b) (x y : Nat) : it K F x y b = it K' F' x y b := by
 unfold it; rw [hK, hF]
theorem allP_mod (k K F : Nat) : allP k K F = allP k (K % 64) (F % 64) := by
 have h : ∀ (n b : Nat), b < 6 → n.testBit b = (n % 64).testBit b := fun n b hb => by
  rw [show (64 : Nat) = 2 ^ 6 from rfl, Nat.testBit_mod_two_pow, decide_eq_true hb, Bool.true_and]
 unfold allP
 split
 ·rw [it_congr (h K 0 (by omega)) (h F 0 (by omega))]
 ·rw [it_congr (h K 0 (by omega)) (h F 0 (by omega)), it_congr (h K 1 (by omega)) (h F 1 (by omega)), it_congr (h K 2 (by omega)) (h F 2 (by omega))]
 ·rw [it_congr (h K 0 (by omega)) (h F 0 (by omega)), it_congr (h K 1 (by omega)) (h F 1 (by omega)), it_congr (h K 2 (by omega)) (h F 2 (by omega)), it_congr (h K 3 (by omega)) (h F 3 (by omega)), it_congr (h K 4 (by omega)) (h F 4 (by omega)), it_congr (h K 5 (by omega)) (h F 5 (by omega))]
 ·rfl
def chkO (k K F : Nat) : Bool := decide (errO ((k : Int), (allP k K F, ())) = 0) && (List.range k).all fun x => (List.range k).all fun y => frp (allP k K F) (x : Int) (y : Int) == frB k F x y
set_option maxRecDepth 100000 in
theorem all_off : ([2, 3, 4].all fun k => (List.range 64).all fun K => (List.range 64).all fun F => chkO k K F) = true := by kernel_rfl
theorem off_ok {K F : Nat} : errO (offN K F) = 0 ∧ ∀ x y, x < kOf K → y < kOf K → frp (offN K F).2.1 (x : Int) (y : Int) = frB (kOf K) (F % 64) x y := by
  have hk : kOf K ∈ [2, 3, 4] := by unfold kOf; have : K % 3 = 0 ∨ K % 3 = 1 ∨ K % 3 = 2 := by omega
                                    rcases this with h | h | h <;> simp [h]
  have h1 := List.all_eq_true.1 all_off _ hk
  have h2 := List.all_eq_true.1 h1 (K % 64) (List.mem_range.2 (Nat.mod_lt _ (by decide)))
  have h3 := List.all_eq_true.1 h2 (F % 64) (List.mem_range.2 (Nat.mod_lt _ (by decide)))
  unfold chkO at h3
  rw [Bool.and_eq_true, decide_eq_true_iff] at h3
  unfold offN
  rw [allP_mod]
  refine ⟨h3.1, fun x y hx hy => ?_⟩
  have := List.all_eq_true.1 (List.all_eq_true.1 h3.2 x (List.mem_range.2 hx)) y (List.mem_range.2 hy)
  exact beq_iff_eq.1 this
def ltr (k : Nat) (z : Int) : UInt8 := UInt8.ofNat (97 + z.toNat % k)
def pst (k : Nat) (p : List Int) (most : Nat) : Wd := (p.take most).map (ltr k)
def B27 : List Int → Of → Int → Option Wd := fun p o m => if (1 ≤ o.1 ∧ o.1 ≤ 6) ∧ (∀ z ∈ p, 0 ≤ z ∧ z < 256) ∧ (0 ≤ m ∧ m ≤ 1000) ∧ p.length ≤ maxLen then some (pst o.1.toNat p m.toNat) else none
theorem ixW2 {t n : Nat} (h : t < n) (hn : n ≤ 9223372036854775807) : w64 ((t : Int) + 1) = ((t + 1 : Nat) : Int) := by
 rw [w64_eq (by omega) (by omega)]; omega
theorem abcdef_at : ∀ j, j < 6 → (([97, 98, 99, 100, 101, 102] : List UInt8).drop j).take 1 = [UInt8.ofNat (97 + j)] := by decide
theorem pst_cons (k : Nat) (z : Int) (p : List Int) (m : Nat) : pst k (z :: p) (m + 1) = ltr k z :: pst k p m := rfl
theorem kb27 : FnOk Tryd.prog 27 (F27 B27) := ok27 B27 fun p o m r h => ⟨p.length + 2, by
 unfold B27 at h
 split at h
 ·rename_i hq
  obtain ⟨hk, hp, ⟨hm0, hm1⟩, hlen⟩ := hq
  have hmx : maxLen ≤ 9223372036854775807 := by decide
  obtain rfl := Option.some.inj h
  obtain ⟨m, rfl⟩ : ∃ z : Nat, m = (z : Int) := ⟨m.toNat, by omega⟩
  obtain ⟨k, hkk⟩ : ∃ z : Nat, o.1 = (z : Int) := ⟨o.1.toNat, by omega⟩
  rw [hkk, Int.toNat_natCast, Int.toNat_natCast]
  unfold m27
  refine (rangeIx p 0 (fun n (s : Wd) t => l27a (p.length + 2) p o (m : Int) n s t) (fun t r s => s.length ≤ t ∧ t ≤ m ∧ ∀ z ∈ r, 0 ≤ z ∧ z < 256) (fun t r s => some (s ++ pst k r (m - t))) (fun n s t z rest q1 q2 hI ih => ?_) (fun n s hI => ?_) (p.length + 2) [] (by omega) ⟨by simp, by omega, hp⟩)
  ·show l27a (p.length + 2) p o (m : Int) (n + 1) s (t : Int) = _
   obtain ⟨i1, i2, i3⟩ := hI
   obtain ⟨z0, z1⟩ := i3 z (by simp)
   rw [l27a, ixA q1, cond_true]
   by_cases htm : t < m
   ·obtain ⟨z, rfl⟩ : ∃ y : Nat, z = (y : Int) := ⟨z.toNat, by omega⟩
    have hmod : Int.tmod (z : Int) (k : Int) = ((z % k : Nat) : Int) := by
     rw [Int.tmod_eq_emod_of_nonneg (by omega)]; omega
    have hlt : z % k < k := Nat.mod_lt _ (by omega)
    rw [decide_eq_true (by omega), cond_true, ixB q1, chk_true, Int.toNat_natCast, q2, w64_nat (by omega), hkk, hmod, chk_dec (by omega), chk_dec (by omega), Int.toNat_natCast]
    have ha := abcdef_at (z % k) (by omega)
    have hal : (([97, 98, 99, 100, 101, 102] : List UInt8).drop (z % k)).length = 6 - z % k := by rw [List.length_drop]; rfl
    rw [ha, chk_dec (by rw [hal]; omega), chk_dec (by simp only [List.length_cons, List.length_nil]; omega), ixW2 q1 (by omega)]
    have := ih (s ++ [UInt8.ofNat (97 + z % k)]) ⟨by simp only [List.length_append, List.length_cons, List.length_nil]; omega, by omega, fun y hy => i3 y (by simp [hy])⟩
    rw [this, show m - t = (m - (t + 1)) + 1 by omega, pst_cons, List.append_assoc]; rfl
   ·rw [decide_eq_false (by omega), cond_false, show m - t = 0 by omega]
    show some s = some (s ++ (rest.take 0).map _)
    simp
  ·show l27a (p.length + 2) p o (m : Int) (n + 1) s (p.length : Int) = _
   rw [l27a, ixE, cond_false]
   simp [pst]
 ·cases h⟩
def swp (s : Wd) (i : Nat) : Wd := ((s.take i ++ (s.drop (i + 1)).take 1) ++ (s.drop i).take 1) ++ s.drop (i + 2)
def B57 : Wd → Int → Option Wd := fun s i => if 0 ≤ i ∧ i + 1 < s.length ∧ s.length ≤ 1000 then some (swp s i.toNat) else none
theorem kb57 : FnOk Tryd.prog 57 (F57 B57) := ok57 B57 fun s i r h => ⟨0, by
 unfold B57 at h
 split at h
 ·rename_i hq
  obtain ⟨h0, h1, h2⟩ := hq
  obtain rfl := Option.some.inj h
  obtain ⟨i, rfl⟩ : ∃ z : Nat, i = (z : Int) := ⟨i.toNat, by omega⟩
  unfold m57
  have e2 : w64 ((i : Int) + 2) = ((i + 2 : Nat) : Int) := by rw [w64_eq (by omega) (by omega)]; omega
  rw [e2, w64_succ (by omega), Int.toNat_natCast, Int.toNat_natCast, Int.toNat_natCast]
  have l1 : (s.take i).length ≤ 1000 := Nat.le_trans (List.length_take_le _ _) (by omega)
  have l2 : ((s.drop (i + 1)).take 1).length ≤ 1 := List.length_take_le _ _
  have l3 : ((s.drop i).take 1).length ≤ 1 := List.length_take_le _ _
  have l4 : (s.drop (i + 2)).length ≤ 1000 := by rw [List.length_drop]; omega
  have d1 : (s.drop (i + 1)).length = s.length - (i + 1) := List.length_drop
  have d2 : (s.drop i).length = s.length - i := List.length_drop
  rw [chk_dec (by omega), chk_dec (by omega), chk_dec (by rw [d1]; omega), chk_dec (by omega), chk_dec (by omega), chk_dec (by rw [d2]; omega), chk_dec (by rw [List.length_append]; omega), chk_dec (by omega), chk_dec (by rw [List.length_append, List.length_append]; omega)]
  rfl
 ·cases h⟩
theorem swp_eq {s u v : Wd} {x y : UInt8} (h : s = u ++ x :: y :: v) : swp s u.length = u ++ y :: x :: v := by
 subst h
 unfold swp
 rw [List.take_left, List.drop_left, show (u ++ x :: y :: v).drop (u.length + 1) = y :: v by rw [List.drop_append]; simp, show (u ++ x :: y :: v).drop (u.length + 2) = v by rw [List.drop_append]; simp]
 simp
theorem split_two {s : Wd} {i : Nat} (h : i + 1 < s.length) : ∃ u v, s = u ++ s.getD i 0 :: s.getD (i + 1) 0 :: v ∧ u.length = i := by
 refine ⟨s.take i, s.drop (i + 2), ?_, by rw [List.length_take]; omega⟩
 have e1 : s.drop i = s.getD i 0 :: s.drop (i + 1) := by
  rw [List.drop_eq_getElem_cons (by omega), List.getD_eq_getElem?_getD, List.getElem?_eq_getElem (by omega)]; rfl
 have e2 : s.drop (i + 1) = s.getD (i + 1) 0 :: s.drop (i + 2) := by
  rw [List.drop_eq_getElem_cons h, List.getD_eq_getElem?_getD, List.getElem?_eq_getElem h]; rfl
 rw [← e2, ← e1, List.take_append_drop]
theorem swp_eqv {D : UInt8 → UInt8 → Bool} (hB : Bnd D) {u v : Wd} {x y : UInt8} (h : D x y = false) : Eqv D (u ++ x :: y :: v) (u ++ y :: x :: v) := fun a b hab => by
 rw [prj_append, prj_append]
 congr 1
 have hxy : x ≠ y := fun e => by rw [e, hB.refl] at h; cases h
 by_cases hx : x = a ∨ x = b
 ·have hy : ¬ (y = a ∨ y = b) := fun hy => by
   rcases hx with rfl | rfl <;> rcases hy with rfl | rfl
   ·exact hxy rfl
   ·rw [h] at hab; cases hab
   ·rw [hB.symm, h] at hab; cases hab
   ·exact hxy rfl
  have hy1 : y ≠ a := fun e => hy (.inl e)
  have hy2 : y ≠ b := fun e => hy (.inr e)
  rw [prj_cons_in hx, prj_cons_out hy1 hy2, prj_cons_out hy1 hy2, prj_cons_in hx]
 ·have hx1 : x ≠ a := fun e => hx (.inl e)
  have hx2 : x ≠ b := fun e => hx (.inr e)
  rw [prj_cons_out hx1 hx2]
  by_cases hy : y = a ∨ y = b
  ·rw [prj_cons_in hy, prj_cons_in hy, prj_cons_out hx1 hx2]
  ·have hy1 : y ≠ a := fun e => hy (.inl e)
   have hy2 : y ≠ b := fun e => hy (.inr e)
   rw [prj_cons_out hy1 hy2, prj_cons_out hy1 hy2, prj_cons_out hx1 hx2]
theorem swp_at {D : UInt8 → UInt8 → Bool} (hB : Bnd D) {s : Wd} {i : Nat} (h : i + 1 < s.length) (hD : D (s.getD i 0) (s.getD (i + 1) 0) = false) : Eqv D s (swp s i) := by
 obtain ⟨u, v, e, rfl⟩ := split_two h
 generalize s.getD u.length 0 = x at e hD
 generalize s.getD (u.length + 1) 0 = y at e hD
 rw [swp_eq e, e]
 exact swp_eqv hB hD
def B30 : Of → Int → Int → Option Bool := fun o x y => if errO o = 0 ∧ (97 ≤ x ∧ x ≤ 102) ∧ 97 ≤ y ∧ y ≤ 102 then some (frp o.2.1 (x - 97) (y - 97)) else none
theorem kb30 : FnOk Tryd.prog 30 (F30 B30) := ok30 B30 fun o x y r h => ⟨20, by
 unfold B30 at h
 split at h
 ·rename_i hq
  obtain ⟨h0, hx, hy⟩ := hq
  obtain rfl := Option.some.inj h
  obtain ⟨hk, hlen, hps⟩ := errO_zero h0
  unfold m30
  refine rangeIx o.2.1 [0, 0] (fun m (_ : Unit) t => l30a 20 o x y m t) (fun _ r _ => ∀ p ∈ r, p ∈ o.2.1) (fun _ r _ => some (frp r (x - 97) (y - 97))) (fun m _ t p rest h3 h4 hI ih => ?_) (fun m _ _ => ?_) 20 () (by omega) (fun p hp => hp)
  ·show l30a 20 o x y (m + 1) (t : Int) = _
   have ih := ih () fun q hq => hI q (by simp [hq])
   obtain ⟨p0, p1, _⟩ := hps p (hI p (by simp))
   rw [l30a, ixA h3, cond_true, ixB h3, chk_true, Int.toNat_natCast, h4, ixW h3 (by omega)]
   have w0 : IntKind.wrap .u8 (w64 (97 + p.getD 0 0)) = 97 + p.getD 0 0 := by rw [w64_eq (by omega) (by omega), wrap_u8 (by omega) (by omega)]
   have w1 : IntKind.wrap .u8 (w64 (97 + p.getD 1 0)) = 97 + p.getD 1 0 := by rw [w64_eq (by omega) (by omega), wrap_u8 (by omega) (by omega)]
   rw [w0, w1, ih]
   have e : ∀ a b : Int, (97 + a == b) = decide (a = b - 97) := fun a b => by
    rw [Bool.eq_iff_iff, beq_iff_eq, decide_eq_true_iff]; omega
   simp only [e]
   have ec : frp (p :: rest) (x - 97) (y - 97) = (((decide (p.getD 0 0 = x - 97) && decide (p.getD 1 0 = y - 97)) || (decide (p.getD 0 0 = y - 97) && decide (p.getD 1 0 = x - 97))) || frp rest (x - 97) (y - 97)) := rfl
   rw [ec]
   cases decide (p.getD 0 0 = x - 97) <;> cases decide (p.getD 1 0 = y - 97) <;> cases decide (p.getD 0 0 = y - 97) <;> cases decide (p.getD 1 0 = x - 97) <;> rfl
  ·show l30a 20 o x y (m + 1) (o.2.1.length : Int) = _
   rw [l30a, ixE, cond_false]; rfl
 ·cases h⟩
theorem B30_of {o : Of} (h : errO o = 0) {x y : UInt8} (hx : isL x) (hy : isL y) : B30 o (x.toNat : Int) (y.toNat : Int) = some (!Do o x y) := by
 unfold B30 Do
 unfold isL at hx hy
 rw [if_pos ⟨h, by omega, by omega, by omega⟩, Bool.not_not]
theorem Eqv.isL {D : UInt8 → UInt8 → Bool} (hB : Bnd D) {a b : Wd} (h : Eqv D a b) (ha : ∀ x ∈ a, Go.Proofs.YtmpbbkldopfkpaaDoor.isL x) : ∀ x ∈ b, Go.Proofs.YtmpbbkldopfkpaaDoor.isL x := fun x hx => ha x ((h.mem hB).2 hx)
end Go.Proofs.YtmpbbkldopfkpaaDoor
