/-
 What is printed of a log: the closure of the law.
-/
import Derived.Test.YtfopcfnggdonkaaGreatDoorCm2
namespace Go.Proofs.YtfopcfnggdonkaaGreatDoor
open Go.Proofs.Tryz
open Go.RowKit
set_option linter.unusedVariables false
def powS (l : List Int) (s : Int) : Int := l.foldl (fun s x => sQ .i64 s (IntKind.wrap .i64 (1 * 2 ^ min (Int.toNat x) 64))) s
theorem abA (s : Nat) : (qI s).length <= 7 := by
 unfold qI cols
 rw [List.length_map]
 exact Nat.le_trans (List.length_filter_le _ _) (by simp)
section
variable {n : Nat} {p : dG} (hp : AP n p) (h2 : 2 <= n) (h5 : n <= 5)
include hp h2 h5
omit hp h2 h5 in
theorem ajG (N : Nat) (r3 : Int × Int) (e : r3.2 = 0) (l : List Int) (hl : ∀ x ∈ l, 0 <= x /\ x <= 5) (h : l.length <= 1000) : ∀ (xs : List Int) (t m : Nat) (s : Int), l.drop t = xs -> xs.length < m -> D5 B11 yH N [p] r3 (l, 0) m s (t : Int) = some (r3.1, powS xs s, true, [p])
 | [], t, m, s, hx, hm => by
  obtain ⟨m, rfl⟩ : ∃ q, m = q + 1 := ⟨m - 1, by omega⟩
  have : l.length <= t := by
   have := congrArg List.length hx
   rw [List.length_drop, List.length_nil] at this; omega
  simp only [D5, XJ]
  rw [decide_eq_false (show ¬ (t : Int) < (l.length : Int) by omega), cond_false, e]
  rfl
 | x :: xs, t, m, s, hx, hm => by
  obtain ⟨m, rfl⟩ : ∃ q, m = q + 1 := ⟨m - 1, by omega⟩
  obtain ⟨q1, q2, q3⟩ := getD_drop (d := 0) hx
  have hz := hl x (by rw [<- q2, List.getD_eq_getElem?_getD, List.getElem?_eq_getElem q1]; exact List.getElem_mem q1)
  have ih := ajG N r3 e l hl h xs (t + 1) m (sQ .i64 s (IntKind.wrap .i64 (1 * 2 ^ min (Int.toNat x) 64))) q3 (by simp at hm; omega)
  simp only [D5, XJ, Int.toNat_natCast, q2]
  rw [decide_eq_true (show (t : Int) < (l.length : Int) by omega), cond_true, iU (show 0 <= (t : Int) /\ (t : Int) < (l.length : Int) by omega), decide_eq_false (show ¬ x < 0 by omega), cond_false, decide_eq_false (show ¬ x > 5 by omega), cond_false, iU hz.1, nG (x := (t : Int) + 1) (by omega), show (t : Int) + 1 = ((t + 1 : Nat) : Int) by omega]
  exact ih
theorem aCU {s : Wd} (hs : Lk p.2.1.length s) (h8 : s.length <= 8) : sH p (s.map nI) 12 = 0 := by
 refine Gs.2 ⟨hp.ok h2 h5, by simp; omega, fun i hi => ?_⟩
 obtain ⟨b, hb, rfl⟩ := List.mem_map.1 hi
 have := hs b hb
 unfold nI; omega
theorem aDA (N : Nat) (hN : 1000 < N) {s : Wd} (hs : Lk p.2.1.length s) (h8 : s.length <= 8) :
  ((B11 p (s.map nI) (s.map fun _ => true)).bind fun r3 => (yH p (s.map nI)).bind fun r4 => D5 B11 yH N [p] r3 r4 N 0 0) = some (s.foldl (yT p) 0, powS (qI (s.foldl (wK p) 1)) 0, true, [p]) := by
 have hk := hp.ok h2 h5
 have hf : yZ p = true /\ (s.map nI).length <= 1000 := ⟨hk.fit, by simp; omega⟩
 have e := aCU hp h2 h5 hs h8
 unfold B11 yH
 rw [if_pos hf, if_pos hf, Option.bind_some, Option.bind_some]
 unfold Jl ZY
 rw [if_pos e, if_pos e, if_pos (by simp), aa7, adD]
 have hg : s.foldl (wK p) 1 < 2 ^ n := by
  have := (adF hk (Gs.1 e).2.2).2
  rw [adD, hp.c, Int.toNat_natCast] at this
  exact this
 refine ajG N _ rfl _ (fun x hx => ?_) ?_ _ 0 N 0 rfl ?_
 ·obtain ⟨c, hc, rfl⟩ := List.mem_map.1 hx
  have := H6 hg (FT.1 hc).2
  omega
 ·have := abA (s.foldl (wK p) 1); omega
 ·have := abA (s.foldl (wK p) 1)
  omega
theorem ahM (N : Nat) (hN : 1000 < N) {s : Wd} (hs : Lk p.2.1.length s) (h8 : s.length <= 8) : ∀ (r : Wd) (t m : Nat) (u : Wd), s = u ++ r -> u.length = t -> r.length < m ->
  GU B11 yH N s [p] m (u.map nI) (u.map fun _ => true) (CJ t r) = some (s.foldl (yT p) 0, powS (qI (s.foldl (wK p) 1)) 0, true, [p])
 | [], t, m, u, hu, ht, hm => by
  obtain ⟨m, rfl⟩ : ∃ q, m = q + 1 := ⟨m - 1, by omega⟩
  obtain rfl : s = u := by simpa using hu
  simp only [GU, CJ, QR]
  exact aDA hp h2 h5 N hN hs h8
 | b :: r, t, m, u, hu, ht, hm => by
  obtain ⟨m, rfl⟩ : ∃ q, m = q + 1 := ⟨m - 1, by omega⟩
  have hl : s.length = u.length + (r.length + 1) := by rw [hu]; simp
  have ih := ahM N hN hs h8 r (t + 1) m (u ++ [b]) (by rw [hu]; simp) (by simp [ht]) (by simp at hm; omega)
  have hb := b.toNat_lt
  have g : s.getD t 0 = b := by rw [hu, <- ht]; simp [List.getD_eq_getElem?_getD]
  have en : aH (aH ((b.toNat : Nat) : Int) - 97) = nI b := by
   unfold nI
   rw [nG (x := ((b.toNat : Nat) : Int)) (by omega), nG (by omega)]
  simp only [GU, CJ, QR, Int.toNat_natCast, g, en]
  rw [iU (show 0 <= (t : Int) /\ (t : Int) < (s.length : Int) by omega), AV (IV (by simp; omega) (by decide)), AV (IV (by simp; omega) (by decide))]
  simpa using ih
end
def uH : Wd -> List dG -> Option (Int × Int × Bool × List dG) := fun s q => QE B11 yH 1001 s q
theorem aoH : aC prog 10 (MX uH) := azW B11 yH aoI aoJ uH fun s q r h => ⟨1001, h⟩
theorem Hm {n : Nat} {p : dG} (hp : AP n p) (h2 : 2 <= n) (h5 : n <= 5) {s : Wd} (hs : Lk p.2.1.length s) (h8 : s.length <= 8) :
  uH s [p] = some (s.foldl (yT p) 0, powS (qI (s.foldl (wK p) 1)) 0, true, [p]) := by
 have ha : oG s = true := by
  unfold oG
  rw [List.all_eq_true]
  intro b hb
  have := hs b hb
  have := hp.i4
  exact decide_eq_true (by omega)
 unfold uH QE
 rw [AV ha]
 exact ahM hp h2 h5 1001 (by decide) hs h8 s 0 1001 [] rfl rfl (by omega)
end Go.Proofs.YtfopcfnggdonkaaGreatDoor
