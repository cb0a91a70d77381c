/-
 As many copies as transfers double: the plain law.
-/
import Derived.Test.YtfopcfnggdonkaaDoorM2
import Derived.Test.YtfopcfnggdonkaaDoorWFD
import Derived.Test.YtfopcfnggdonkaaDoorWG
namespace Go.Proofs.YtfopcfnggdonkaaDoor
open Go.RowKit
set_option linter.unusedVariables false

theorem K7t : FnOk Tryd.prog 7 (F7 (some true)) := fun args o x h => by
 simp only [F7] at h
 split at h
 ·obtain rfl := Option.some.inj h; exact H7 [] [] _ works7
 ·cases h
def dif (a b : List Int) (k : Nat) : Nat := if a.getD k 0 = b.getD k 0 then 0 else 1
def difs (a b : List Int) : Nat := dif a b 0 + dif a b 1 + dif a b 2 + dif a b 3 + dif a b 4
def w5 (w : List Int) : Prop := w.length = 5 ∧ ∀ k, k < 5 → 0 ≤ w.getD k 0 ∧ w.getD k 0 < 4
theorem pc2 : ∀ a b : Fin 4, pcN ((0 ||| (0 ||| 2 ^ a.1)) ||| (0 ||| 2 ^ b.1)) = if a = b then 1 else 2 := by decide
theorem pc3 : ∀ a b c : Fin 4, pcN ((0 ||| (0 ||| 2 ^ a.1)) ||| (0 ||| 2 ^ b.1)) ≤ pcN (((0 ||| (0 ||| 2 ^ a.1)) ||| (0 ||| 2 ^ b.1)) ||| (0 ||| 2 ^ c.1)) := by decide
theorem fin4 {z : Int} (h : 0 ≤ z ∧ z < 4) : ∃ a : Fin 4, z = ((a.1 : Nat) : Int) := ⟨⟨z.toNat, by omega⟩, by simp; omega⟩
section
variable {r0 r1 r2 : List Int} (h0 : w5 r0) (h1 : w5 r1) (h2 : w5 r2)
abbrev cc (r0 r1 r2 : List Int) : Cd := (4, ([r0, r1, r2], ()))
theorem wbit5 {w : List Int} (h : w5 w) {k : Nat} (hk : k < 5) : wBit w k = 2 ^ (w.getD k 0).toNat := by
 rw [wBit, if_pos (by rw [h.1]; exact hk)]
theorem wbit8 {w : List Int} (h : w5 w) {k : Nat} (hk : 5 ≤ k) : wBit w k = 0 := by
 rw [wBit, if_neg (by rw [h.1]; omega)]
include h0 h1 in
theorem cp2 (k : Nat) : cpK (cc r0 r1 r2) [0, 1] k = if k < 5 then 2 ^ dif r0 r1 k else 1 := by
 unfold cpK mkN ofN
 simp only [List.foldl_cons, List.foldl_nil, show (0 : Int).toNat = 0 from rfl, show (1 : Int).toNat = 1 from rfl, List.getD_cons_zero, List.getD_cons_succ]
 by_cases hk : k < 5
 ·rw [if_pos hk, wbit5 h0 hk, wbit5 h1 hk]
  unfold dif
  obtain ⟨a, ha⟩ := fin4 (h0.2 k hk)
  obtain ⟨b, hb⟩ := fin4 (h1.2 k hk)
  rw [ha, hb, Int.toNat_natCast, Int.toNat_natCast, pc2 a b]
  by_cases e : a = b
  ·rw [if_pos e, if_pos (by rw [e])]; rfl
  ·rw [if_neg e, if_neg (fun q => e (Fin.ext (by omega)))]; rfl
 ·rw [if_neg hk, wbit8 h0 (by omega), wbit8 h1 (by omega)]; decide
include h0 h1 h2 in
theorem cp3 (k : Nat) : cpK (cc r0 r1 r2) [0, 1] k ≤ cpK (cc r0 r1 r2) [0, 1, 2] k := by
 unfold cpK mkN ofN
 simp only [List.foldl_cons, List.foldl_nil, show (0 : Int).toNat = 0 from rfl, show (1 : Int).toNat = 1 from rfl, show (2 : Int).toNat = 2 from rfl, List.getD_cons_zero, List.getD_cons_succ]
 by_cases hk : k < 5
 ·rw [wbit5 h0 hk, wbit5 h1 hk, wbit5 h2 hk]
  obtain ⟨a, ha⟩ := fin4 (h0.2 k hk)
  obtain ⟨b, hb⟩ := fin4 (h1.2 k hk)
  obtain ⟨c, hc⟩ := fin4 (h2.2 k hk)
  rw [ha, hb, hc, Int.toNat_natCast, Int.toNat_natCast, Int.toNat_natCast]
  have := pc3 a b c
  unfold imax
  split <;> split <;> omega
 ·rw [wbit8 h0 (by omega), wbit8 h1 (by omega), wbit8 h2 (by omega)]; decide
include h0 h1 in
theorem cpN2 : cpN (cc r0 r1 r2) [0, 1] = ((2 ^ difs r0 r1 : Nat) : Int) := by
 unfold cpN prF
 simp only [show List.range' 0 8 = [0, 1, 2, 3, 4, 5, 6, 7] from rfl, List.foldl_cons, List.foldl_nil, cp2 h0 h1]
 simp only [show (0 : Nat) < 5 from by decide, show (1 : Nat) < 5 from by decide, show (2 : Nat) < 5 from by decide, show (3 : Nat) < 5 from by decide, show (4 : Nat) < 5 from by decide, show ¬ (5 : Nat) < 5 from by decide, show ¬ (6 : Nat) < 5 from by decide, show ¬ (7 : Nat) < 5 from by decide, if_true, if_false, Int.mul_one, Int.one_mul, ← Int.pow_add]
 unfold difs
 simp
theorem le_mul {a b c d : Int} (h1 : a ≤ b) (h2 : c ≤ d) (ha : 0 ≤ a) (hc : 0 ≤ c) : a * c ≤ b * d := Int.mul_le_mul h1 h2 hc (Int.le_trans ha h1)
theorem fold_le {f g : Nat → Int} (h : ∀ k, 0 ≤ f k ∧ f k ≤ g k) : ∀ (l : List Nat) (s t : Int), 0 ≤ s → s ≤ t → l.foldl (fun a k => a * f k) s ≤ l.foldl (fun a k => a * g k) t
 | [], _, _, _, h => h
 | k :: l, s, t, h0, h1 => fold_le h l _ _ (Int.mul_nonneg h0 (h k).1) (le_mul h1 (h k).2 h0 (h k).1)
include h0 h1 h2 in
theorem cpN3 : cpN (cc r0 r1 r2) [0, 1] ≤ cpN (cc r0 r1 r2) [0, 1, 2] :=
 fold_le (fun k => ⟨by have := (cpK_le (cc r0 r1 r2) [0, 1] k).1; omega, cp3 h0 h1 h2 k⟩) _ 1 1 (by decide) (Int.le_refl _)
theorem w5_any {w : List Int} (h : w5 w) : w.any (outM 4) = false := by
 refine List.any_eq_false.2 fun m hm => ?_
 obtain ⟨i, hi, rfl⟩ := List.getElem_of_mem hm
 have := h.2 i (by rw [← h.1]; exact hi)
 rw [List.getD_eq_getElem?_getD, List.getElem?_eq_getElem hi] at this
 simp only [Option.getD_some] at this
 simp only [outM, Bool.not_eq_true, Bool.not_eq_false', decide_eq_true_eq, show w64 (4 - 1) = 3 from rfl]
 omega
include h0 h1 h2 in
theorem cd_ok : cdE (cc r0 r1 r2) = 0 := by
 unfold cdE sz
 simp only [List.length_cons, List.length_nil, List.getD_cons_zero, h0.1, List.any_cons, List.any_nil, h1.1, h2.1, w5_any h0, w5_any h1, w5_any h2]
 rfl
include h0 h1 h2 in
theorem sm_ok : smB (cc r0 r1 r2) = true := by
 simp [smB, h0.1, h1.1, h2.1]
include h0 h1 h2 in
theorem b4_01 : B4 (cc r0 r1 r2) [0, 1] = some (((2 ^ difs r0 r1 : Nat) : Int), 0) := by
 rw [B4, if_pos ⟨sm_ok h0 h1 h2, by decide⟩, cd_ok h0 h1 h2, cpN2 h0 h1]; rfl
include h0 h1 h2 in
theorem b4_012 : ∃ m : Int, B4 (cc r0 r1 r2) [0, 1, 2] = some (m, 0) ∧ ((2 ^ difs r0 r1 : Nat) : Int) ≤ m := by
 refine ⟨cpN (cc r0 r1 r2) [0, 1, 2], ?_, by rw [← cpN2 (r2 := r2) h0 h1]; exact cpN3 h0 h1 h2⟩
 rw [B4, if_pos ⟨sm_ok h0 h1 h2, by decide⟩, cd_ok h0 h1 h2]; rfl
end

def tlF (d : Nat) : Option Bool := cond (((2 ^ d : Nat) : Int) != IntKind.wrap .i64 (1 * 2 ^ min (Int.toNat ((d : Nat) : Int)) 64)) (some false)
 ((A5 ((2 ^ d : Nat) : Int)).bind fun r3 => (A6 ((2 ^ d : Nat) : Int)).bind fun r4 => cond (r3.2 != 0) (some false) (cond (r4.2 != 0) (some false) (cond (r3.1 != ((d : Nat) : Int)) (some false)
  (cond ((r4.1.length : Int) != w64 (((d : Nat) : Int) + 1)) (some false) (l3d B4 A5 A6 (some true) 1001 r4 1001 0)))))
theorem tl_0 : tlF 0 = some true := by kernel_rfl
theorem tl_1 : tlF 1 = some true := by kernel_rfl
theorem tl_2 : tlF 2 = some true := by kernel_rfl
theorem tl_3 : tlF 3 = some true := by kernel_rfl
theorem tl_4 : tlF 4 = some true := by kernel_rfl
theorem tl_5 : tlF 5 = some true := by kernel_rfl
theorem fin_ok {r0 r1 r2 : List Int} (h0 : w5 r0) (h1 : w5 r1) (h2 : w5 r2) (n : Nat) {t : Int} (ht : t = 5) : l3c B4 A5 A6 (some true) 1001 [r0, r1, r2] (n + 1) ((difs r0 r1 : Nat) : Int) t = some true := by
 subst ht
 obtain ⟨m, e3, hm⟩ := b4_012 h0 h1 h2
 simp only [l3c, List.getD_cons_zero, h0.1]
 rw [show decide ((5 : Int) < ((5 : Nat) : Int)) = false from rfl, cond_false, b4_01 h0 h1 h2, Option.bind_some, e3, Option.bind_some]
 simp only [show ((0 : Int) != 0) = false from rfl, cond_false]
 have hd : difs r0 r1 ≤ 5 := by
  have h : ∀ k, dif r0 r1 k ≤ 1 := fun k => by unfold dif; split <;> omega
  have a0 := h 0; have a1 := h 1; have a2 := h 2; have a3 := h 3; have a4 := h 4
  unfold difs; omega
 rw [chk_dec (by omega)]
 rw [decide_eq_false (show ¬ m < ((2 ^ difs r0 r1 : Nat) : Int) by omega), cond_false]
 clear hm e3
 obtain ⟨d, hd'⟩ : ∃ d, d = difs r0 r1 := ⟨_, rfl⟩
 rw [← hd'] at hd ⊢
 clear hd'
 show tlF d = some true
 have : d = 0 ∨ d = 1 ∨ d = 2 ∨ d = 3 ∨ d = 4 ∨ d = 5 := by omega
 rcases this with rfl | rfl | rfl | rfl | rfl | rfl
 ·exact tl_0
 ·exact tl_1
 ·exact tl_2
 ·exact tl_3
 ·exact tl_4
 ·exact tl_5
theorem loop_c {r0 r1 r2 : List Int} (h0 : w5 r0) (h1 : w5 r1) (h2 : w5 r2) : ∀ (j k n : Nat) (s : Int), k + j = 5 → j < n → s + ((((List.range' k j).map (dif r0 r1)).sum : Nat) : Int) = ((difs r0 r1 : Nat) : Int) → 0 ≤ s → s ≤ k →
  l3c B4 A5 A6 (some true) 1001 [r0, r1, r2] n s (k : Int) = some true
 | 0, k, n, s, hk, hn, hs, _, _ => by
  obtain ⟨n, rfl⟩ : ∃ q, n = q + 1 := ⟨n - 1, by omega⟩
  obtain rfl : s = ((difs r0 r1 : Nat) : Int) := by simpa using hs
  exact fin_ok h0 h1 h2 n (by omega)
 | j + 1, k, n, s, hk, hn, hs, hs0, hsk => by
  obtain ⟨n, rfl⟩ : ∃ q, n = q + 1 := ⟨n - 1, by omega⟩
  rw [List.range'_succ, List.map_cons, List.sum_cons] at hs
  have ih := loop_c h0 h1 h2 j (k + 1) n
  simp only [l3c, List.getD_cons_zero, List.getD_cons_succ, h0.1, h1.1, Int.toNat_natCast]
  have hk5 : k < 5 := by omega
  rw [decide_eq_true (show (k : Int) < ((5 : Nat) : Int) by omega), cond_true, w64_small (x := (k : Int) + 1) (by omega), w64_small (x := s + 1) (by omega)]
  simp only [List.length_cons, List.length_nil]
  rw [chk_dec (show (0 : Int) ≤ 0 ∧ (0 : Int) < ((0 + 1 + 1 + 1 : Nat) : Int) by decide), chk_dec (show 0 ≤ (k : Int) ∧ (k : Int) < ((5 : Nat) : Int) by omega), chk_dec (show (0 : Int) ≤ 1 ∧ (1 : Int) < ((0 + 1 + 1 + 1 : Nat) : Int) by decide), chk_dec (show 0 ≤ (k : Int) ∧ (k : Int) < ((5 : Nat) : Int) by omega)]
  have e : ((k : Int) + 1) = ((k + 1 : Nat) : Int) := by omega
  rw [e]
  by_cases hd : r0.getD k 0 = r1.getD k 0
  ·rw [bneDec, decide_eq_true hd, Bool.not_true, cond_false]
   rw [show dif r0 r1 k = 0 from if_pos hd] at hs
   exact ih s (by omega) (by omega) (by rw [← hs]; omega) hs0 (by omega)
  ·rw [bneDec, decide_eq_false hd, Bool.not_false, cond_true]
   rw [show dif r0 r1 k = 1 from if_neg hd] at hs
   exact ih (s + 1) (by omega) (by omega) (by rw [← hs]; omega) (by omega) (by omega)
def wd (l : List Int) : List Int := l.map fun x => Int.tmod (w64 x) 4
def u5 (l : List Int) : Prop := l.length = 5 ∧ ∀ x ∈ l, 0 ≤ x ∧ x ≤ 255
def u35 (ws : List (List Int)) : Prop := ws.length = 3 ∧ ∀ l ∈ ws, u5 l
theorem wd_w5 {l : List Int} (h : u5 l) : w5 (wd l) := by
 refine ⟨by simp [wd, h.1], fun k hk => ?_⟩
 have hk' : k < l.length := by rw [h.1]; exact hk
 have hx := h.2 l[k] (List.getElem_mem hk')
 have e : (wd l).getD k 0 = Int.tmod (w64 l[k]) 4 := by simp [wd, List.getD_eq_getElem?_getD, hk']
 rw [e, w64_small (by omega), Int.tmod_eq_emod_of_nonneg hx.1]
 omega
abbrev zz : List Int := [0, 0, 0, 0, 0]
theorem row_c {ws : List (List Int)} {l : List Int} (t : Nat) (ht : t < 3) (hl : ws.getD t zz = l) (hu : u5 l) (o : List (List Int)) (ho : o.length ≤ 3) (k0 : Int → List (List Int) → Option Bool) : ∀ (j k n : Nat) (acc : List Int), k + j = 5 → j < n → acc.length = k →
  l3b B4 A5 A6 (some true) 1001 ws (t : Int) o k0 n (k : Int) acc = k0 ((t + 1 : Nat) : Int) (o ++ [acc ++ wd (l.drop k)])
 | 0, k, n, acc, hk, hn, ha => by
  obtain ⟨n, rfl⟩ : ∃ q, n = q + 1 := ⟨n - 1, by omega⟩
  obtain rfl : k = 5 := by omega
  simp only [l3b]
  rw [show decide (((5 : Nat) : Int) < 5) = false from rfl, cond_false, chk_of (small_of (by omega) (by decide)), w64_small (x := (t : Int) + 1) (by omega), List.drop_of_length_le (by rw [hu.1]; exact Nat.le_refl _)]
  simp [wd]
 | j + 1, k, n, acc, hk, hn, ha => by
  obtain ⟨n, rfl⟩ : ∃ q, n = q + 1 := ⟨n - 1, by omega⟩
  have ih := row_c t ht hl hu o ho k0 j (k + 1) n
  have hkl : k < l.length := by rw [hu.1]; omega
  simp only [l3b]
  rw [decide_eq_true (show (k : Int) < 5 by omega), cond_true, chk_dec (show 0 ≤ (k : Int) ∧ (k : Int) < 5 by omega), chk_of (small_of (by omega) (by decide)), w64_small (x := (k : Int) + 1) (by omega), show (k : Int) + 1 = ((k + 1 : Nat) : Int) by omega,
   Int.toNat_natCast, Int.toNat_natCast, hl, ih _ (by omega) (by omega) (by simp [ha])]
  rw [show l.drop k = l[k] :: l.drop (k + 1) from List.drop_eq_getElem_cons hkl, show wd (l[k] :: l.drop (k + 1)) = Int.tmod (w64 l[k]) 4 :: wd (l.drop (k + 1)) from rfl, List.getD_eq_getElem?_getD, List.getElem?_eq_getElem hkl, Option.getD_some, List.append_assoc]
  rfl
theorem all_c {ws : List (List Int)} (h : u35 ws) : m3 B4 A5 A6 (some true) 1001 ws = some true := by
 obtain ⟨l0, l1, l2, rfl⟩ : ∃ a b c, ws = [a, b, c] := by
  match ws, h.1 with
  | [a, b, c], _ => exact ⟨a, b, c, rfl⟩
 have u0 := h.2 l0 (by simp)
 have u1 := h.2 l1 (by simp)
 have u2 := h.2 l2 (by simp)
 have lp : ∀ (n t : Nat) (l : List Int) (o : List (List Int)), t < 3 → [l0, l1, l2].getD t zz = l → u5 l → o.length ≤ 3 → l3a B4 A5 A6 (some true) 1001 [l0, l1, l2] (n + 1) (t : Int) o = l3a B4 A5 A6 (some true) 1001 [l0, l1, l2] n ((t + 1 : Nat) : Int) (o ++ [wd l]) := fun n t l o ht hl hu ho => by
  have := row_c (ws := [l0, l1, l2]) t ht hl hu o ho (fun y0 y1 => l3a B4 A5 A6 (some true) 1001 [l0, l1, l2] n y0 y1) 5 0 1001 [] rfl (by decide) rfl
  simp only [l3a]
  rw [decide_eq_true (show (t : Int) < 3 by omega), cond_true, chk_dec (show 0 ≤ (t : Int) ∧ (t : Int) < 3 by omega)]
  refine this.trans ?_
  simp
 refine (show ∀ n : Nat, l3a B4 A5 A6 (some true) 1001 [l0, l1, l2] (n + 1 + 1 + 1 + 1) ((0 : Nat) : Int) [] = some true from fun n => ?_) 997
 rw [lp _ 0 l0 [] (by decide) rfl u0 (by decide), lp _ 1 l1 _ (by decide) rfl u1 (by simp), lp _ 2 l2 _ (by decide) rfl u2 (by simp)]
 simp only [l3a]
 rw [show decide (((2 + 1 : Nat) : Int) < 3) = false from rfl, cond_false]
 have hd : 0 + ((((List.range' 0 5).map (dif (wd l0) (wd l1))).sum : Nat) : Int) = ((difs (wd l0) (wd l1) : Nat) : Int) := by
  unfold difs
  simp [List.range'_succ]
  omega
 have := loop_c (wd_w5 u0) (wd_w5 u1) (wd_w5 u2) 5 0 1001 0 rfl (by decide) hd (by decide) (by decide)
 rw [show ([] ++ [wd l0] ++ [wd l1] ++ [wd l2] : List (List Int)) = [wd l0, wd l1, wd l2] from rfl, chk_dec (show (0 : Int) ≤ 0 ∧ (0 : Int) < (([wd l0, wd l1, wd l2].length : Nat) : Int) by simp)]
 exact this
open Classical in
noncomputable def B3 (ws : List (List Int)) : Option Bool := if u35 ws then some true else none
theorem KB3 : FnOk Tryd.prog 3 (F3 B3) := ok3 B4 A5 A6 (some true) KB4 K5 K6 K7t B3 fun ws r h => ⟨1001, by
 simp only [B3] at h
 split at h
 ·rename_i hu
  rw [← h]; exact all_c hu
 ·cases h⟩
end Go.Proofs.YtfopcfnggdonkaaDoor
