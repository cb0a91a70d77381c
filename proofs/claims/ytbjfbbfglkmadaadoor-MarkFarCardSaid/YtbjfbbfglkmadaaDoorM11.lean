/-
 What the program asks of a candidate for a doubt.
-/
import Derived.Test.YtbjfbbfglkmadaaDoorM9
import Derived.Test.YtbjfbbfglkmadaaDoorM10
namespace Go.Proofs.YtbjfbbfglkmadaaDoor
open Go.RowKit
set_option linter.unusedVariables false

def hsM (c : Cd) (l : List Int) (k : Nat) (m : Int) : Bool := l.any fun i => decide ((c.2.1.getD i.toNat []).getD k 0 = m)
def plK (c : Cd) (ls : List (List Int)) (k : Nat) : Bool := (List.range' 0 c.1.toNat).any fun (m : Nat) => ls.all fun l => hsM c l k (m : Int)
def pl (c : Cd) (ls : List (List Int)) : Bool := (List.range' 0 (sz c)).all fun k => plK c ls k
theorem inA_eq : ∀ (r : List (List Int)) (a : List Int), inA r a = a.filter fun x => r.all fun l => decide (x ∈ l)
 | [], a => (List.filter_eq_self.2 fun _ _ => rfl).symm
 | l :: r, a => by
  rw [inA, inA_eq r, fil, List.filter_filter]
  congr 1
  funext x
  rw [List.all_cons, Bool.and_comm]
theorem anA_bit (c : Cd) (k j : Nat) : ∀ (r : List (List Int)) (f : Nat → Nat), (anA c r f k).testBit j = ((f k).testBit j && r.all fun l => (mkN c l k).testBit j)
 | [], f => by simp [anA]
 | l :: r, f => by rw [anA, anA_bit c k j r, Nat.testBit_and, List.all_cons, Bool.and_assoc]
theorem fb_at {n : Nat} (h : 0 ≤ fb n) : ∃ m : Nat, m < 4 ∧ fb n = (m : Int) ∧ n.testBit m = true := by
 rcases fx_cases (fun m : Int => n.testBit m.toNat) 0 [0, 1, 2, 3] 0 (by omega) with ⟨h1, _⟩ | ⟨i, h1, h2, h3, _⟩
 ·unfold fb at h; omega
 ·have hi : i < 4 := h1
  refine ⟨i, hi, by unfold fb; omega, ?_⟩
  match i, hi, h3 with
  | 0, _, h3 => exact h3
  | 1, _, h3 => exact h3
  | 2, _, h3 => exact h3
  | 3, _, h3 => exact h3
theorem fb_of {n m : Nat} (h : m < 4) (hb : n.testBit m = true) : 0 ≤ fb n := by
 have := fx_ge (fun m : Int => n.testBit m.toNat) [0, 1, 2, 3] 0 (by omega)
 have h2 : ([0, 1, 2, 3] : List Int).any (fun m : Int => n.testBit m.toNat) = true := by
  rw [List.any_eq_true]
  refine ⟨(m : Int), ?_, by rw [Int.toNat_natCast]; exact hb⟩
  match m, h with
  | 0, _ => simp
  | 1, _ => simp
  | 2, _ => simp
  | 3, _ => simp
 rw [h2, dtq] at this
 exact this
theorem an_bit {c : Cd} {ls : List (List Int)} {k j : Nat} (hc : cdE c = 0) (h0 : 0 < ls.length) (hok : ∀ l ∈ ls, okS c l = true) (hk : k < sz c) :
  (anA c (ls.drop 1) (mkN c (ls.getD 0 [])) k).testBit j = ls.all fun l => hsM c l k (j : Int) := by
 obtain ⟨_, _, _, hlen, hb⟩ := cdE_ok hc
 have one : ∀ l, okS c l = true → (mkN c l k).testBit j = hsM c l k (j : Int) := fun l h =>
  mkN_bit (fun w hw => by rw [hlen w hw]; exact hk) (fun w hw m hm => (hb w hw m hm).1) (okCo_at (okS_at h).2.1)
 match ls, h0, hok with
 | l :: r, _, hok =>
  rw [anA_bit]
  show ((mkN c l k).testBit j && r.all fun l => (mkN c l k).testBit j) = _
  rw [List.all_cons, one l (hok l (by simp))]
  congr 1
  rw [Bool.eq_iff_iff, List.all_eq_true, List.all_eq_true]
  exact ⟨fun h x hx => by rw [← one x (hok x (by simp [hx]))]; exact h x hx, fun h x hx => by rw [one x (hok x (by simp [hx]))]; exact h x hx⟩
theorem hsM_lt {c : Cd} {l : List Int} {k : Nat} {m : Int} (hc : cdE c = 0) (hl : okCo c l = true) (hk : k < sz c) (h : hsM c l k m = true) : 0 ≤ m ∧ m < c.1 := by
 obtain ⟨_, _, _, hlen, hb⟩ := cdE_ok hc
 obtain ⟨i, hi, he⟩ := List.any_eq_true.1 h
 have hir := okCo_at hl i hi
 have hw := getD_mem (l := c.2.1) (d := []) (show i.toNat < c.2.1.length by omega)
 rw [← of_decide_eq_true he]
 exact hb _ hw _ (getD_mem (by rw [hlen _ hw]; exact hk))
theorem fb_pl {c : Cd} {ls : List (List Int)} {k : Nat} (hc : cdE c = 0) (h0 : 0 < ls.length) (hok : ∀ l ∈ ls, okS c l = true) (hk : k < sz c) :
  decide (0 ≤ fb (anA c (ls.drop 1) (mkN c (ls.getD 0 [])) k)) = plK c ls k := by
 have hm := (cdE_ok hc).1
 rw [Bool.eq_iff_iff, dtq, plK, List.any_eq_true]
 constructor
 ·intro h
  obtain ⟨m, h1, h2, h3⟩ := fb_at h
  rw [an_bit hc h0 hok hk] at h3
  have := hsM_lt hc (okS_at (hok _ (getD_mem (d := []) h0))).2.1 hk (List.all_eq_true.1 h3 _ (getD_mem (d := []) h0))
  exact ⟨m, by rw [List.mem_range'_1]; omega, h3⟩
 ·rintro ⟨m, hmr, h⟩
  rw [List.mem_range'_1] at hmr
  exact fb_of (m := m) (by omega) (by rw [an_bit hc h0 hok hk]; exact h)
theorem dbF_snd {c : Cd} {ls : List (List Int)} (hc : cdE c = 0) (h0 : 0 < ls.length) (hok : ∀ l ∈ ls, okS c l = true) : (dbF c ls).2 = (pl c ls && !cm ls) := by
 have e1 : ((List.range' 0 (sz c)).all fun k => decide (0 ≤ fb (anA c (ls.drop 1) (mkN c (ls.getD 0 [])) k))) = pl c ls := by
  rw [Bool.eq_iff_iff, pl, List.all_eq_true, List.all_eq_true]
  have hx : ∀ k ∈ List.range' 0 (sz c), k < sz c := fun k hk => by rw [List.mem_range'_1] at hk; omega
  exact ⟨fun h k hk => by rw [← fb_pl hc h0 hok (hx k hk)]; exact h k hk, fun h k hk => by rw [fb_pl hc h0 hok (hx k hk)]; exact h k hk⟩
 rw [dbF, fin78, e1]
 have e2 : decide ((inA (ls.drop 1) (ls.getD 0 [])).length = 0) = !cm ls := by
  match ls, h0 with
  | l :: r, _ =>
   rw [inA_eq]
   show decide ((l.filter fun x => r.all fun l => decide (x ∈ l)).length = 0) = !(l.any fun x => (l :: r).all fun l => decide (x ∈ l))
   rw [Bool.eq_iff_iff, dtq, Bool.not_eq_true', List.any_eq_false, List.length_eq_zero_iff, List.filter_eq_nil_iff]
   exact ⟨fun h x hx q => h x hx (by rw [List.all_cons, bae] at q; exact q.2), fun h x hx q => h x hx (by rw [List.all_cons, q, decide_eq_true hx]; rfl)⟩
 rw [e2]
 cases pl c ls <;> rfl
end Go.Proofs.YtbjfbbfglkmadaaDoor
