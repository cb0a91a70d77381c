/-
 The palette, the log and the exchanged log, as the program makes them.
-/
import Derived.Test.YtfopcfnggdonkaaGreatDoorCm1
import Derived.Test.YtfopcfnggdonkaaGreatDoorLCM
namespace Go.Proofs.YtfopcfnggdonkaaGreatDoor
open Go.Proofs.Tryz
open Go.RowKit
set_option linter.unusedVariables false
def zW (z : Int) : Prop := 0 <= z /\ z <= 255
def zV (p : List Int) : Prop := (∀ z ∈ p, zW z) /\ p.length <= maxLen
def MJ (p : List (List Int)) : Prop := (∀ l ∈ p, l.length = 6 /\ ∀ z ∈ l, zW z) /\ p.length <= maxLen
structure AP (n : Nat) (p : dG) : Prop where
 c : p.1 = (n : Int)
 i1 : 1 <= p.2.1.length
 i4 : p.2.1.length <= 4
 GI : ∀ l ∈ p.2.1, lN n l
theorem AP.ok {n : Nat} {p : dG} (h : AP n p) (h2 : 2 <= n) (h7 : n <= 5) : oW p := ⟨by rw [h.c]; omega, by rw [h.c]; omega, h.i1, Nat.le_trans h.i4 (by decide), fun l hl => by rw [h.c, Int.toNat_natCast]; exact h.GI l hl⟩
section
variable {c : Int} {nn : Nat} (hn : aH (2 + Int.tmod (aH c) 4) = (nn : Int)) (h2 : 2 <= nn) (h5 : nn <= 5)
include hn h2 h5
theorem ai4 {jK : List (List Int)} (hi : MJ jK) (N i : Nat) (hl : i < jK.length) (hi4 : i < 4) (o : List (List Int)) (ho : o.length <= 100) (rec : Int -> List (List Int) -> Option (Int × List (List Int) × Unit)) : ∀ (j k m : Nat) (acc : List Int), k + j = nn -> j < m -> acc.length = k -> (∀ x ∈ acc, 0 <= x /\ x < (nn : Int)) ->
  ∃ r, lN nn r /\ GZ N c jK (i : Int) o rec m (k : Int) acc = rec ((i + 1 : Nat) : Int) (o ++ [r])
 | 0, k, m, acc, hk, hm, ha, hx => by
  obtain ⟨m, rfl⟩ : ∃ q, m = q + 1 := ⟨m - 1, by omega⟩
  refine ⟨acc, ⟨by omega, hx⟩, ?_⟩
  simp only [GZ, XX, hn]
  rw [decide_eq_false (show ¬ (k : Int) < (nn : Int) by omega), cond_false, AV (IV (by omega) (by decide)), nG (x := (i : Int) + 1) (by omega), show (i : Int) + 1 = ((i + 1 : Nat) : Int) by omega]
 | j + 1, k, m, acc, hk, hm, ha, hx => by
  obtain ⟨m, rfl⟩ : ∃ q, m = q + 1 := ⟨m - 1, by omega⟩
  have hin : 0 <= (jK.getD i [0, 0, 0, 0, 0, 0]).getD k 0 /\ (jK.getD i [0, 0, 0, 0, 0, 0]).getD k 0 <= 255 := by
   obtain ⟨q1, q2⟩ := hi.1 jK[i] (List.getElem_mem hl)
   have hk' : k < jK[i].length := by omega
   rw [List.getD_eq_getElem?_getD (l := jK), List.getElem?_eq_getElem hl, Option.getD_some, List.getD_eq_getElem?_getD, List.getElem?_eq_getElem hk', Option.getD_some]
   exact q2 _ (List.getElem_mem hk')
  obtain ⟨r, r1, r2⟩ := ai4 hi N i hl hi4 o ho rec j (k + 1) m (acc ++ [Int.tmod (aH ((jK.getD i [0, 0, 0, 0, 0, 0]).getD k 0)) (nn : Int)]) (by omega) (by omega) (by simp [ha]) (fun x hx' => by
   rcases List.mem_append.1 hx' with hx' | hx'
   ·exact hx x hx'
   ·obtain rfl := List.mem_singleton.1 hx'
    rw [nG (by omega), Int.tmod_eq_emod_of_nonneg hin.1]
    exact ⟨Int.emod_nonneg _ (by omega), Int.emod_lt_of_pos _ (by omega)⟩)
  refine ⟨r, r1, ?_⟩
  simp only [GZ, XX, hn]
  rw [decide_eq_true (show (k : Int) < (nn : Int) by omega), cond_true, iU (show 0 <= (i : Int) /\ (i : Int) < (jK.length : Int) by omega), iU (show 0 <= (k : Int) /\ (k : Int) < 6 by omega), iU (show (nn : Int) ≠ 0 by omega), AV (IV (by omega) (by decide)), nG (x := (k : Int) + 1) (by omega), show (k : Int) + 1 = ((k + 1 : Nat) : Int) by omega, Int.toNat_natCast, Int.toNat_natCast]
  exact r2
omit hn in
theorem ahE (o : List (List Int)) (ho : o.length <= 4) (hx : ∀ r ∈ o, lN nn r) : ∃ p, (cond ((o.length : Int) == 0) (chk (rX (nn : Int) (nn : Int) 8) (some ((nn : Int), (([List.replicate ((nn : Int).toNat) (0 : Int)] : List (List Int)), ())))) (some ((nn : Int), (o, ())))) = some p /\ AP nn p := by
 by_cases h0 : o.length = 0
 ·have : ((o.length : Int) == 0) = true := by rw [beq_iff_eq]; omega
  rw [this, cond_true, AV (by unfold rX; rw [Bool.and_eq_true, Bool.and_eq_true, decide_eq_true_eq, decide_eq_true_eq, decide_eq_true_eq]; omega)]
  refine ⟨_, rfl, rfl, by simp, by simp, fun l hl => ?_⟩
  obtain rfl := List.mem_singleton.1 hl
  refine ⟨by simp, fun z hz => ?_⟩
  rw [List.eq_of_mem_replicate hz]; omega
 ·have : ((o.length : Int) == 0) = false := by rw [beq_eq_false_iff_ne]; omega
  rw [this, cond_false]
  exact ⟨_, rfl, rfl, by show 1 <= o.length; omega, ho, hx⟩
theorem ahF {jK : List (List Int)} (hi : MJ jK) (N : Nat) (hN : 5 < N) : ∀ (j i m : Nat) (o : List (List Int)), i + j = 4 -> j < m -> o.length = i -> (∀ r ∈ o, lN nn r) -> ∃ p, BP N c jK m (i : Int) o = some p /\ AP nn p
 | 0, i, m, o, hj, hm, ho, hx => by
  obtain ⟨m, rfl⟩ : ∃ q, m = q + 1 := ⟨m - 1, by omega⟩
  obtain ⟨p, p1, p2⟩ := ahE h2 h5 o (by omega) hx
  refine ⟨p, ?_, p2⟩
  simp only [BP, hn]
  rw [decide_eq_false (show ¬ (i : Int) < 4 by omega), cond_false, p1]
  cases decide ((i : Int) < (jK.length : Int)) <;> rfl
 | j + 1, i, m, o, hj, hm, ho, hx => by
  obtain ⟨m, rfl⟩ : ∃ q, m = q + 1 := ⟨m - 1, by omega⟩
  by_cases hl : i < jK.length
  ·obtain ⟨r, r1, r2⟩ := ai4 hn h2 h5 hi N i hl (by omega) o (by omega) (fun y0 y1 => BP N c jK m y0 y1) nn 0 N [] (by omega) (by omega) rfl (by simp)
   obtain ⟨p, p1, p2⟩ := ahF hi N hN j (i + 1) m (o ++ [r]) (by omega) (by omega) (by simp [ho]) (fun q hq => by
    rcases List.mem_append.1 hq with hq | hq
    ·exact hx q hq
    ·obtain rfl := List.mem_singleton.1 hq; exact r1)
   refine ⟨p, ?_, p2⟩
   simp only [BP, hn]
   rw [decide_eq_true (show (i : Int) < (jK.length : Int) by omega), cond_true, decide_eq_true (show (i : Int) < 4 by omega), cond_true]
   exact r2.trans p1
  ·obtain ⟨p, p1, p2⟩ := ahE h2 h5 o (by omega) hx
   refine ⟨p, ?_, p2⟩
   simp only [BP, hn]
   rw [decide_eq_false (show ¬ (i : Int) < (jK.length : Int) by omega), cond_false, p1]
end
def A5 : Int -> List (List Int) -> Option dG := fun c jK => m5 1001 c jK
theorem KA5 : aC prog 5 (F5 A5) := ok5 A5 fun c jK r h => ⟨1001, h⟩
theorem ak1 {c : Int} (hc : zW c) {jK : List (List Int)} (hi : MJ jK) : ∃ n p, A5 c jK = some p /\ 2 <= n /\ n <= 5 /\ AP n p := by
 unfold zW at hc
 have hn : aH (2 + Int.tmod (aH c) 4) = ((2 + c.toNat % 4 : Nat) : Int) := by
  rw [nG (x := c) (by omega), Int.tmod_eq_emod_of_nonneg hc.1, nG (by omega)]
  omega
 obtain ⟨p, p1, p2⟩ := ahF hn (by omega) (by omega) hi 1001 (by decide) 4 0 1001 [] rfl (by decide) rfl (by simp)
 exact ⟨_, p, p1, by omega, by omega, p2⟩
theorem axY : ∀ k : Nat, k < 6 -> (([97, 98, 99, 100, 101, 102] : List UInt8).drop k).take 1 = [UInt8.ofNat (97 + k)] /\ 1 <= (([97, 98, 99, 100, 101, 102] : List UInt8).drop k).length := by decide
def Lk (K : Nat) (l : Wd) : Prop := ∀ b ∈ l, 97 <= (b.toNat : Int) /\ (b.toNat : Int) <= 97 + (K : Int) - 1
theorem ae2 {K : Nat} (hK : 1 <= K /\ K <= 6) {bs : List Int} (hb : zV bs) (N : Nat) : ∀ (j i m : Nat) (s : Wd), i + j = 8 -> j < m -> s.length = i -> Lk K s -> ∃ r, D8 N (K : Int) bs 8 m s (i : Int) = some r /\ r.length <= 8 /\ Lk K r
 | 0, i, m, s, hj, hm, hs, hx => by
  obtain ⟨m, rfl⟩ : ∃ q, m = q + 1 := ⟨m - 1, by omega⟩
  refine ⟨s, ?_, by omega, hx⟩
  simp only [D8, O0]
  rw [decide_eq_false (show ¬ (i : Int) < 8 by omega), cond_false]
  cases decide ((i : Int) < (bs.length : Int)) <;> rfl
 | j + 1, i, m, s, hj, hm, hs, hx => by
  obtain ⟨m, rfl⟩ : ∃ q, m = q + 1 := ⟨m - 1, by omega⟩
  by_cases hl : i < bs.length
  ·have hz := hb.1 bs[i] (List.getElem_mem hl)
   unfold zW at hz
   have hk : Int.tmod (aH (bs.getD i 0)) (K : Int) = ((bs[i].toNat % K : Nat) : Int) := by
    rw [List.getD_eq_getElem?_getD, List.getElem?_eq_getElem hl, Option.getD_some, nG (by omega), Int.tmod_eq_emod_of_nonneg hz.1, Int.natCast_emod, Int.toNat_of_nonneg hz.1]
   have hlt : bs[i].toNat % K < K := Nat.mod_lt _ (by omega)
   obtain ⟨e1, e2⟩ := axY (bs[i].toNat % K) (by omega)
   obtain ⟨r, r1, r2, r3⟩ := ae2 hK hb N j (i + 1) m (s ++ [UInt8.ofNat (97 + bs[i].toNat % K)]) (by omega) (by omega) (by simp [hs]) (fun b hb' => by
    rcases List.mem_append.1 hb' with hb' | hb'
    ·exact hx b hb'
    ·obtain rfl := List.mem_singleton.1 hb'
     rw [UInt8.toNat_ofNat', Nat.mod_eq_of_lt (by omega)]; omega)
   refine ⟨r, ?_, r2, r3⟩
   simp only [D8, O0, Int.toNat_natCast, hk]
   rw [decide_eq_true (show (i : Int) < (bs.length : Int) by omega), cond_true, decide_eq_true (show (i : Int) < 8 by omega), cond_true, iU (show 0 <= (i : Int) /\ (i : Int) < (bs.length : Int) by omega), iU (show (K : Int) ≠ 0 by omega), iU (by omega), iU (by omega), e1,
    iU (by simp; omega), nG (x := (i : Int) + 1) (by omega), show (i : Int) + 1 = ((i + 1 : Nat) : Int) by omega]
   exact r1
  ·refine ⟨s, ?_, by omega, hx⟩
   simp only [D8, O0]
   rw [decide_eq_false (show ¬ (i : Int) < (bs.length : Int) by omega), cond_false]
def A6 : Int -> List Int -> Int -> Option Wd := fun k bs most => m6 1001 k bs most
theorem KA6 : aC prog 6 (F6 A6) := ok6 A6 fun k bs most r h => ⟨1001, h⟩
theorem ak2 {K : Nat} (hK : 1 <= K /\ K <= 6) {bs : List Int} (hb : zV bs) : ∃ r, A6 (K : Int) bs 8 = some r /\ r.length <= 8 /\ Lk K r :=
 ae2 hK hb 1001 8 0 1001 [] rfl (by decide) rfl (fun b hb => by cases hb)
theorem split2 : ∀ (i : Nat) (s : Wd), i + 1 < s.length -> ∃ u x y v, s = u ++ x :: y :: v /\ u.length = i
 | 0, x :: y :: v, _ => ⟨[], x, y, v, rfl, rfl⟩
 | 0, [], h => by simp at h
 | 0, [x], h => by simp at h
 | i + 1, [], h => by simp at h
 | i + 1, z :: s, h => by
  obtain ⟨u, x, y, v, rfl, hu⟩ := split2 i s (by simp at h; omega)
  exact ⟨z :: u, x, y, v, rfl, by simp [hu]⟩
theorem aeZ {x : UInt8} (h : 97 <= (x.toNat : Int)) : aH (IntKind.wrap .u8 ((x.toNat : Int) - 97)) = (x.toNat : Int) - 97 := by
 have hx := x.toNat_lt
 have e : (x.toNat : Int) - 97 = ((x.toNat - 97 : Nat) : Int) := by omega
 rw [e, Hf (by omega), nG (by omega)]
section
variable {o : Of} (h0 : iG o = 0) {N : Nat} {bs : List Int} {s : Wd} (hs : Ls o s) (h8 : s.length <= 8) (h2 : 2 <= s.length) (h15 : o.2.1.length <= 100) {t : Nat} {rec : Wd -> Int -> Option Wd} {P : Option Wd -> Prop}
include h0 hs h8 h2 h15
theorem akT (hb : zV bs) (ht : t < bs.length) (hrec : ∀ b, dM (Do o) s b -> P (rec b ((t + 1 : Nat) : Int))) : ∀ (j k n : Nat), k + j = o.2.1.length -> j < n -> P (HY N o bs s (t : Int) rec n s (k : Int))
 | 0, k, n, hk, hn => by
  obtain ⟨n, rfl⟩ : ∃ q, n = q + 1 := ⟨n - 1, by omega⟩
  have hm : bs.length <= maxLen := hb.2
  have hM : maxLen <= 9223372036854775807 := by decide
  simp only [HY, X4]
  rw [decide_eq_false (show ¬ (k : Int) < (o.2.1.length : Int) by omega), cond_false, yG (n := (t : Int) + 1) (by omega) (by omega), show (t : Int) + 1 = ((t + 1 : Nat) : Int) by omega]
  exact hrec s (dM.refl s)
 | j + 1, k, n, hk, hn => by
  obtain ⟨n, rfl⟩ : ∃ q, n = q + 1 := ⟨n - 1, by omega⟩
  have ih := akT hb ht hrec j (k + 1) n (by omega) (by omega)
  have hm : bs.length <= maxLen := hb.2
  have hM : maxLen <= 9223372036854775807 := by decide
  have hkl : k < o.2.1.length := by omega
  have hz := hb.1 bs[t] (List.getElem_mem ht)
  unfold zW at hz
  have hi : Int.tmod (aH (bs.getD t 0)) (aH ((s.length : Int) - 1)) = ((bs[t].toNat % (s.length - 1) : Nat) : Int) := by
   rw [List.getD_eq_getElem?_getD, List.getElem?_eq_getElem ht, Option.getD_some, nG (x := bs[t]) (by omega), nG (by omega), Int.tmod_eq_emod_of_nonneg hz.1, Int.natCast_emod, Int.toNat_of_nonneg hz.1, show ((s.length - 1 : Nat) : Int) = (s.length : Int) - 1 by omega]
  have hlt : bs[t].toNat % (s.length - 1) < s.length - 1 := Nat.mod_lt _ (by omega)
  generalize bs[t].toNat % (s.length - 1) = i at hi hlt
  obtain ⟨u, x, y, v, hsu, hu⟩ := split2 i s (by omega)
  have hx := hs x (by rw [hsu]; simp)
  have hy := hs y (by rw [hsu]; simp)
  have hlen : s.length = u.length + 2 + v.length := by rw [hsu]; simp; omega
  have gx : s.getD i 0 = x := by rw [hsu, <- hu]; simp [List.getD_eq_getElem?_getD]
  have gy : s.getD (i + 1) 0 = y := by rw [hsu, <- hu]; simp [List.getD_eq_getElem?_getD]
  have d0 : s.take i = u := by rw [hsu, <- hu]; simp
  have d1 : (s.drop i) = x :: y :: v := by rw [hsu, <- hu]; simp
  have d2 : (s.drop (i + 1)) = y :: v := by rw [<- List.drop_drop, d1]; rfl
  have d3 : (s.drop (i + 2)) = v := by rw [<- List.drop_drop, d1]; rfl
  obtain ⟨f, hf⟩ : ∃ f, o.2.1.getD k [0, 0] = f /\ f ∈ o.2.1 := ⟨o.2.1[k], by rw [List.getD_eq_getElem?_getD, List.getElem?_eq_getElem hkl, Option.getD_some], List.getElem_mem hkl⟩
  have key : ((x.toNat : Int) - 97 = f.getD 0 0 /\ (y.toNat : Int) - 97 = f.getD 1 0) \/ ((x.toNat : Int) - 97 = f.getD 1 0 /\ (y.toNat : Int) - 97 = f.getD 0 0) -> dM (Do o) s (u ++ y :: x :: v) := fun hh => by
   have hD : Do o x y = false := by
    unfold Do nM
    rw [Bool.not_eq_false', List.any_eq_true]
    refine ⟨f, hf.2, ?_⟩
    rw [Bool.or_eq_true, Bool.and_eq_true, Bool.and_eq_true, decide_eq_true_eq, decide_eq_true_eq, decide_eq_true_eq, decide_eq_true_eq]
    rcases hh with hh | hh
    ·exact .inl ⟨hh.1.symm, hh.2.symm⟩
    ·exact .inr ⟨hh.2.symm, hh.1.symm⟩
   have hxy : x ≠ y := fun e => by
    have := (vJ h0).refl y
    rw [e, this] at hD; cases hD
   rw [hsu]
   exact asY (vJ h0) hxy hD u v
  simp only [HY, X4, rO, Gv, Int.toNat_natCast, hi]
  rw [nG (x := (i : Int) + 1) (by omega), nG (x := (i : Int) + 2) (by omega), yG (n := (t : Int) + 1) (by omega) (by omega), nG (x := (k : Int) + 1) (by omega), show (i : Int) + 1 = ((i + 1 : Nat) : Int) by omega, show (i : Int) + 2 = ((i + 2 : Nat) : Int) by omega, show (k : Int) + 1 = ((k + 1 : Nat) : Int) by omega, show (t : Int) + 1 = ((t + 1 : Nat) : Int) by omega]
  simp only [Int.toNat_natCast, gx, gy, d0, d1, d2, d3, hf.1, aeZ hx.1, aeZ hy.1]
  rw [decide_eq_true (show (k : Int) < (o.2.1.length : Int) by omega), cond_true, iU (show 0 <= (k : Int) /\ (k : Int) < (o.2.1.length : Int) by omega), iU (show 0 <= (i : Int) /\ (i : Int) < (s.length : Int) by omega), iU (show 0 <= ((i + 1 : Nat) : Int) /\ ((i + 1 : Nat) : Int) < (s.length : Int) by omega)]
  have c1 : decide (0 <= (i : Int) /\ (i : Int) <= (s.length : Int)) = true := decide_eq_true (by omega)
  have c2 : decide (0 <= ((i + 1 : Nat) : Int) /\ ((i + 1 : Nat) : Int) <= (s.length : Int)) = true := decide_eq_true (by omega)
  have c3 : decide (0 <= (1 : Int) /\ (1 : Int) <= ((y :: v).length : Int)) = true := decide_eq_true (by simp only [List.length_cons]; omega)
  have c4 : decide (u.length + ((y :: v).take 1).length <= 9223372036854775807) = true := decide_eq_true (by simp; omega)
  have c5 : decide (0 <= (1 : Int) /\ (1 : Int) <= ((x :: y :: v).length : Int)) = true := decide_eq_true (by simp only [List.length_cons]; omega)
  have c6 : decide ((u ++ (y :: v).take 1).length + ((x :: y :: v).take 1).length <= 9223372036854775807) = true := decide_eq_true (by simp; omega)
  have c7 : decide (0 <= ((i + 2 : Nat) : Int) /\ ((i + 2 : Nat) : Int) <= (s.length : Int)) = true := decide_eq_true (by omega)
  have c8 : decide ((u ++ (y :: v).take 1 ++ (x :: y :: v).take 1).length + v.length <= 9223372036854775807) = true := decide_eq_true (by simp; omega)
  have e : u ++ (y :: v).take 1 ++ (x :: y :: v).take 1 ++ v = u ++ y :: x :: v := by simp
  rw [c1, c2, c3, c4, c5, c6, c7, c8, e]
  simp only [kX]
  by_cases a1 : (x.toNat : Int) - 97 = f.getD 0 0
  ·rw [beq_iff_eq.2 a1, cond_true]
   by_cases a2 : (y.toNat : Int) - 97 = f.getD 1 0
   ·rw [beq_iff_eq.2 a2, cond_true]; exact hrec _ (key (.inl ⟨a1, a2⟩))
   ·rw [beq_eq_false_iff_ne.2 a2, cond_false]
    by_cases a3 : (x.toNat : Int) - 97 = f.getD 1 0
    ·rw [beq_iff_eq.2 a3, cond_true]
     by_cases a4 : (y.toNat : Int) - 97 = f.getD 0 0
     ·rw [beq_iff_eq.2 a4, cond_true]; exact hrec _ (key (.inr ⟨a3, a4⟩))
     ·rw [beq_eq_false_iff_ne.2 a4, cond_false]; exact ih
    ·rw [beq_eq_false_iff_ne.2 a3, cond_false]; exact ih
  ·rw [beq_eq_false_iff_ne.2 a1, cond_false]
   by_cases a3 : (x.toNat : Int) - 97 = f.getD 1 0
   ·rw [beq_iff_eq.2 a3, cond_true]
    by_cases a4 : (y.toNat : Int) - 97 = f.getD 0 0
    ·rw [beq_iff_eq.2 a4, cond_true]; exact hrec _ (key (.inr ⟨a3, a4⟩))
    ·rw [beq_eq_false_iff_ne.2 a4, cond_false]; exact ih
   ·rw [beq_eq_false_iff_ne.2 a3, cond_false]; exact ih
end
theorem akU {o : Of} (h0 : iG o = 0) (h15 : o.2.1.length <= 100) {bs : List Int} (hb : zV bs) (N : Nat) (hN : 100 < N) : ∀ (j t n : Nat) (s : Wd), t + j = bs.length -> j < n -> Ls o s -> s.length <= 8 -> ∃ b, G9 N o bs n s (t : Int) = some b /\ dM (Do o) s b
 | 0, t, n, s, hk, hn, hs, h8 => by
  obtain ⟨n, rfl⟩ : ∃ q, n = q + 1 := ⟨n - 1, by omega⟩
  refine ⟨s, ?_, dM.refl s⟩
  simp only [G9]
  rw [decide_eq_false (show ¬ (t : Int) < (bs.length : Int) by omega), cond_false]
 | j + 1, t, n, s, hk, hn, hs, h8 => by
  obtain ⟨n, rfl⟩ : ∃ q, n = q + 1 := ⟨n - 1, by omega⟩
  simp only [G9]
  rw [decide_eq_true (show (t : Int) < (bs.length : Int) by omega), cond_true, iU (show 0 <= (t : Int) /\ (t : Int) < (bs.length : Int) by omega)]
  by_cases h2 : 2 <= s.length
  ·rw [decide_eq_false (show ¬ (s.length : Int) < 2 by omega), cond_false, iU (by rw [nG (by omega)]; omega)]
   refine akT (P := fun r => ∃ b, r = some b /\ dM (Do o) s b) h0 hs h8 h2 h15 hb (by omega) (fun b hE => ?_) o.2.1.length 0 N (by omega) (by omega)
   obtain ⟨b', b1, b2⟩ := akU h0 h15 hb N hN j (t + 1) n b (by omega) (by omega) (hE.Ls h0 hs) (by rw [<- hE.length (vJ h0)]; exact h8)
   exact ⟨b', b1, hE.trans b2⟩
  ·rw [decide_eq_true (show (s.length : Int) < 2 by omega), cond_true]
   exact ⟨s, rfl, dM.refl s⟩
def A7 : Of -> Wd -> List Int -> Option Wd := fun o s bs => m7 (bs.length + 1001) o s bs
theorem KA7 : aC prog 7 (F7 A7) := ok7 A7 fun o s bs r h => ⟨_, h⟩
theorem ak3 {o : Of} (h0 : iG o = 0) (h15 : o.2.1.length <= 100) {bs : List Int} (hb : zV bs) {s : Wd} (hs : Ls o s) (h8 : s.length <= 8) : ∃ b, A7 o s bs = some b /\ dM (Do o) s b :=
 akU h0 h15 hb _ (by omega) bs.length 0 _ s (by omega) (by omega) hs h8
end Go.Proofs.YtfopcfnggdonkaaGreatDoor
