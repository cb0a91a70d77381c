import Derived.Test.YtmpbbkldopfkpaaDoorQFI
namespace Go.Proofs.YtmpbbkldopfkpaaDoor
open Go.RowKit
set_option linter.unusedVariables false
def E6 (a11 : Option (Bool)) (a20 : (Int × List (List Int) × Unit) → (List UInt8) → Int → Int → Option (Bool × Int)) (a26 : (Int × Int × Unit) → Option (Int × List (List Int) × Unit)) (a27 : (List Int) → (Int × List (List Int) × Unit) → Int → Option (List UInt8)) (a29 : (Int × List (List Int) × Unit) → (List UInt8) → Option (List (List UInt8 × Int))) (a31c : Int → (List UInt8) → Option (Int)) (a33 : (List UInt8) → Int → Int → Option (Int)) (want0 : Bool) : Env := mkEw TI TY [(11, F11 a11), (20, F20 a20), (26, F26 a26), (27, F27 a27), (29, F29 a29), (31, F31c a31c), (33, F33 a33)] nrc nfz (fun i => ([] : List (Nat × Nat)).lookup i)
noncomputable def c6 : Code := bodyOf Tryd.f6
def nm6_0 : Norm := ⟨[9, 10, 13, 14, 15, 16, 17, 65], [65], [], []⟩
def lv6 : Nat → Option Norm := norms [(12, nm6_0), (1000003, ⟨[], [9, 10], [], []⟩)]
def en6 : End := ⟨[], ⟨[135], [], [], []⟩⟩
def dec6 (want0 : Bool) (l : List TV) (o : List (Nat × TO)) : Option Unit := match l, o with | [.dv (.bool) x0], [] => chk (decide (x0 = want0)) (some ()) | _, _ => none
def Sl6a (one2 : Int) (two3 : Int) (r1 : Int × List (List Int) × Unit) (r2 : List UInt8) (always17_a : Bool) (o65_a : List (List UInt8 × Int)) : TS := ⟨slots 135 [(9, .el (.pair (.int .i64) (.pair (.sl (.arr 2 (.int .i64))) (.unit))) r1 []), (10, .el (.str) r2 []), (13, .dv (.int .i64) (Int.tmod (w64 (one2)) (r2.length : Int))), (14, .dv (.int .i64) (Int.tmod (w64 ((w64 ((Int.tmod (w64 (one2)) (r2.length : Int)) + (1 : Int))) + (Int.tmod (w64 (two3)) (w64 ((r2.length : Int) - (1 : Int)))))) (r2.length : Int))), (15, .fn 31 0 1 fun i => ([.el (.str) r2 []] : List TV).getD i .any), (16, .fn 33 0 0 fun i => ([] : List TV).getD i .any), (17, .dv (.bool) always17_a), (65, .row 65)], [(65, .iter (.str) (.int .i64) o65_a none)]⟩
noncomputable def K6_0 (a11 : Option (Bool)) (a20 : (Int × List (List Int) × Unit) → (List UInt8) → Int → Int → Option (Bool × Int)) (a26 : (Int × Int × Unit) → Option (Int × List (List Int) × Unit)) (a27 : (List Int) → (Int × List (List Int) × Unit) → Int → Option (List UInt8)) (a29 : (Int × List (List Int) × Unit) → (List UInt8) → Option (List (List UInt8 × Int))) (a31c : Int → (List UInt8) → Option (Int)) (a33 : (List UInt8) → Int → Int → Option (Int)) (want0 : Bool) (N : Nat) : Kont (Unit) := kont (E6 a11 a20 a26 a27 a29 a31c a33 want0) lv6 N c6 [1, 1, 1, 1, 1, 1, 1, 1, 1, 0, 1, 0] (fin TI en6 (resOf Tryd.f6) (dec6 want0))
noncomputable def R6_0 (a11 : Option (Bool)) (a20 : (Int × List (List Int) × Unit) → (List UInt8) → Int → Int → Option (Bool × Int)) (a26 : (Int × Int × Unit) → Option (Int × List (List Int) × Unit)) (a27 : (List Int) → (Int × List (List Int) × Unit) → Int → Option (List UInt8)) (a29 : (Int × List (List Int) × Unit) → (List UInt8) → Option (List (List UInt8 × Int))) (a31c : Int → (List UInt8) → Option (Int)) (a33 : (List UInt8) → Int → Int → Option (Int)) (want0 : Bool) (N : Nat) (m : Nat) : TS → Option (Unit) := loopK (den (E6 a11 a20 a26 a27 a29 a31c a33 want0) lv6 N (sub c6 [1, 1, 1, 1, 1, 1, 1, 1, 1, 0, 1, 0, 0])) (TS.norm nm6_0) (K6_0 a11 a20 a26 a27 a29 a31c a33 want0 N) m
def l6a (a11 : Option (Bool)) (a20 : (Int × List (List Int) × Unit) → (List UInt8) → Int → Int → Option (Bool × Int)) (a26 : (Int × Int × Unit) → Option (Int × List (List Int) × Unit)) (a27 : (List Int) → (Int × List (List Int) × Unit) → Int → Option (List UInt8)) (a29 : (Int × List (List Int) × Unit) → (List UInt8) → Option (List (List UInt8 × Int))) (a31c : Int → (List UInt8) → Option (Int)) (a33 : (List UInt8) → Int → Int → Option (Int)) (want0 : Bool) (N : Nat) (one2 : Int) (two3 : Int) (r1 : Int × List (List Int) × Unit) (r2 : List UInt8) : Nat → Bool → (List (List UInt8 × Int)) → Option (Unit)
  | 0, _, _ => none
  | n + 1, always17_a, o65_a => eachK o65_a ((a20 r1 r2 (Int.tmod (w64 (one2)) (r2.length : Int)) (Int.tmod (w64 ((w64 ((Int.tmod (w64 (one2)) (r2.length : Int)) + (1 : Int))) + (Int.tmod (w64 (two3)) (w64 ((r2.length : Int) - (1 : Int)))))) (r2.length : Int))).bind fun r8 =>
      (a20 r1 r2 (Int.tmod (w64 (one2)) (r2.length : Int)) (Int.tmod (w64 (one2)) (r2.length : Int))).bind fun r9 =>
      (a20 r1 r2 (Int.tmod (w64 (one2)) (r2.length : Int)) (r2.length : Int)).bind fun r10 =>
      cond (r8.2 == (0 : Int)) (cond (r8.1 == always17_a) (cond (r9.2 == (20 : Int)) (cond (r10.2 == (5 : Int)) ((a11).bind fun r11 =>
      chk (decide (r11 = want0)) (some ()))
      (chk (decide (false = want0)) (some ())))
      (chk (decide (false = want0)) (some ())))
      (chk (decide (false = want0)) (some ())))
      (chk (decide (false = want0)) (some ()))) (fun h6 => fun g7 =>
      cond (always17_a) (chk (decide (0 ≤ Int.tmod (w64 (one2)) (r2.length : Int) ∧ Int.tmod (w64 (one2)) (r2.length : Int) < (r2.length : Int))) ((a31c (Int.tmod (w64 (one2)) (r2.length : Int)) r2).bind fun r12 =>
      (a33 h6.1 (((r2.getD ((Int.tmod (w64 (one2)) (r2.length : Int)).toNat) 0).toNat : Nat) : Int) r12).bind fun r13 =>
      chk (decide (0 ≤ Int.tmod (w64 ((w64 ((Int.tmod (w64 (one2)) (r2.length : Int)) + (1 : Int))) + (Int.tmod (w64 (two3)) (w64 ((r2.length : Int) - (1 : Int)))))) (r2.length : Int) ∧ Int.tmod (w64 ((w64 ((Int.tmod (w64 (one2)) (r2.length : Int)) + (1 : Int))) + (Int.tmod (w64 (two3)) (w64 ((r2.length : Int) - (1 : Int)))))) (r2.length : Int) < (r2.length : Int))) ((a31c (Int.tmod (w64 ((w64 ((Int.tmod (w64 (one2)) (r2.length : Int)) + (1 : Int))) + (Int.tmod (w64 (two3)) (w64 ((r2.length : Int) - (1 : Int)))))) (r2.length : Int)) r2).bind fun r14 =>
      (a33 h6.1 (((r2.getD ((Int.tmod (w64 ((w64 ((Int.tmod (w64 (one2)) (r2.length : Int)) + (1 : Int))) + (Int.tmod (w64 (two3)) (w64 ((r2.length : Int) - (1 : Int)))))) (r2.length : Int)).toNat) 0).toNat : Nat) : Int) r14).bind fun r15 =>
      (l6a a11 a20 a26 a27 a29 a31c a33 want0 N one2 two3 r1 r2 n (decide (r13 < r15)) g7))))
      ((l6a a11 a20 a26 a27 a29 a31c a33 want0 N one2 two3 r1 r2 n false g7)))
theorem wl6a (a11 : Option (Bool)) (a20 : (Int × List (List Int) × Unit) → (List UInt8) → Int → Int → Option (Bool × Int)) (a26 : (Int × Int × Unit) → Option (Int × List (List Int) × Unit)) (a27 : (List Int) → (Int × List (List Int) × Unit) → Int → Option (List UInt8)) (a29 : (Int × List (List Int) × Unit) → (List UInt8) → Option (List (List UInt8 × Int))) (a31c : Int → (List UInt8) → Option (Int)) (a33 : (List UInt8) → Int → Int → Option (Int)) (want0 : Bool) (N : Nat) (one2 : Int) (two3 : Int) (r1 : Int × List (List Int) × Unit) (r2 : List UInt8) (m : Nat) (always17_a : Bool) (o65_a : List (List UInt8 × Int)) : R6_0 a11 a20 a26 a27 a29 a31c a33 want0 N (m + 1) (Sl6a one2 two3 r1 r2 always17_a o65_a) = eachK o65_a ((a20 r1 r2 (Int.tmod (w64 (one2)) (r2.length : Int)) (Int.tmod (w64 ((w64 ((Int.tmod (w64 (one2)) (r2.length : Int)) + (1 : Int))) + (Int.tmod (w64 (two3)) (w64 ((r2.length : Int) - (1 : Int)))))) (r2.length : Int))).bind fun r8 =>
      (a20 r1 r2 (Int.tmod (w64 (one2)) (r2.length : Int)) (Int.tmod (w64 (one2)) (r2.length : Int))).bind fun r9 =>
      (a20 r1 r2 (Int.tmod (w64 (one2)) (r2.length : Int)) (r2.length : Int)).bind fun r10 =>
      cond (r8.2 == (0 : Int)) (cond (r8.1 == always17_a) (cond (r9.2 == (20 : Int)) (cond (r10.2 == (5 : Int)) ((a11).bind fun r11 =>
      chk (decide (r11 = want0)) (some ()))
      (chk (decide (false = want0)) (some ())))
      (chk (decide (false = want0)) (some ())))
      (chk (decide (false = want0)) (some ())))
      (chk (decide (false = want0)) (some ()))) (fun h6 => fun g7 =>
      cond (always17_a) (chk (decide (0 ≤ Int.tmod (w64 (one2)) (r2.length : Int) ∧ Int.tmod (w64 (one2)) (r2.length : Int) < (r2.length : Int))) ((a31c (Int.tmod (w64 (one2)) (r2.length : Int)) r2).bind fun r12 =>
      (a33 h6.1 (((r2.getD ((Int.tmod (w64 (one2)) (r2.length : Int)).toNat) 0).toNat : Nat) : Int) r12).bind fun r13 =>
      chk (decide (0 ≤ Int.tmod (w64 ((w64 ((Int.tmod (w64 (one2)) (r2.length : Int)) + (1 : Int))) + (Int.tmod (w64 (two3)) (w64 ((r2.length : Int) - (1 : Int)))))) (r2.length : Int) ∧ Int.tmod (w64 ((w64 ((Int.tmod (w64 (one2)) (r2.length : Int)) + (1 : Int))) + (Int.tmod (w64 (two3)) (w64 ((r2.length : Int) - (1 : Int)))))) (r2.length : Int) < (r2.length : Int))) ((a31c (Int.tmod (w64 ((w64 ((Int.tmod (w64 (one2)) (r2.length : Int)) + (1 : Int))) + (Int.tmod (w64 (two3)) (w64 ((r2.length : Int) - (1 : Int)))))) (r2.length : Int)) r2).bind fun r14 =>
      (a33 h6.1 (((r2.getD ((Int.tmod (w64 ((w64 ((Int.tmod (w64 (one2)) (r2.length : Int)) + (1 : Int))) + (Int.tmod (w64 (two3)) (w64 ((r2.length : Int) - (1 : Int)))))) (r2.length : Int)).toNat) 0).toNat : Nat) : Int) r14).bind fun r15 =>
      (R6_0 a11 a20 a26 a27 a29 a31c a33 want0 N m (Sl6a one2 two3 r1 r2 (decide (r13 < r15)) g7)))))
      ((R6_0 a11 a20 a26 a27 a29 a31c a33 want0 N m (Sl6a one2 two3 r1 r2 false g7)))) := by kernel_rfl
theorem ql6a (a11 : Option (Bool)) (a20 : (Int × List (List Int) × Unit) → (List UInt8) → Int → Int → Option (Bool × Int)) (a26 : (Int × Int × Unit) → Option (Int × List (List Int) × Unit)) (a27 : (List Int) → (Int × List (List Int) × Unit) → Int → Option (List UInt8)) (a29 : (Int × List (List Int) × Unit) → (List UInt8) → Option (List (List UInt8 × Int))) (a31c : Int → (List UInt8) → Option (Int)) (a33 : (List UInt8) → Int → Int → Option (Int)) (want0 : Bool) (N : Nat) (one2 : Int) (two3 : Int) (r1 : Int × List (List Int) × Unit) (r2 : List UInt8) : ∀ (m : Nat) (always17_a : Bool) (o65_a : List (List UInt8 × Int)), R6_0 a11 a20 a26 a27 a29 a31c a33 want0 N m (Sl6a one2 two3 r1 r2 always17_a o65_a) = l6a a11 a20 a26 a27 a29 a31c a33 want0 N one2 two3 r1 r2 m always17_a o65_a
        | 0, _, _ => rfl
        | m + 1, always17_a, o65_a => by rw [wl6a]; simp only [l6a, ql6a a11 a20 a26 a27 a29 a31c a33 want0 N one2 two3 r1 r2 m]
def m6 (a11 : Option (Bool)) (a20 : (Int × List (List Int) × Unit) → (List UInt8) → Int → Int → Option (Bool × Int)) (a26 : (Int × Int × Unit) → Option (Int × List (List Int) × Unit)) (a27 : (List Int) → (Int × List (List Int) × Unit) → Int → Option (List UInt8)) (a29 : (Int × List (List Int) × Unit) → (List UInt8) → Option (List (List UInt8 × Int))) (a31c : Int → (List UInt8) → Option (Int)) (a33 : (List UInt8) → Int → Int → Option (Int)) (want0 : Bool) (N : Nat) (d0 : Int × Int × Unit) (p1 : List Int) (one2 : Int) (two3 : Int) : Option (Unit) :=
      (a26 d0).bind fun r1 =>
      (a27 p1 r1 (7 : Int)).bind fun r2 =>
      cond (decide ((r2.length : Int) < (2 : Int))) ((a20 r1 r2 (0 : Int) (1 : Int)).bind fun r3 =>
      cond (r3.2 == (5 : Int)) ((a11).bind fun r4 =>
      chk (decide (r4 = want0)) (some ()))
      (chk (decide (false = want0)) (some ())))
      (chk (decide ((r2.length : Int) ≠ (0 : Int))) (chk (decide (w64 ((r2.length : Int) - (1 : Int)) ≠ (0 : Int))) (chk (decide ((r2.length : Int) ≠ (0 : Int))) ((a29 r1 r2).bind fun r5 =>
      (l6a a11 a20 a26 a27 a29 a31c a33 want0 N one2 two3 r1 r2 N true r5)))))
theorem wm6 (a11 : Option (Bool)) (a20 : (Int × List (List Int) × Unit) → (List UInt8) → Int → Int → Option (Bool × Int)) (a26 : (Int × Int × Unit) → Option (Int × List (List Int) × Unit)) (a27 : (List Int) → (Int × List (List Int) × Unit) → Int → Option (List UInt8)) (a29 : (Int × List (List Int) × Unit) → (List UInt8) → Option (List (List UInt8 × Int))) (a31c : Int → (List UInt8) → Option (Int)) (a33 : (List UInt8) → Int → Int → Option (Int)) (want0 : Bool) (N : Nat) (d0 : Int × Int × Unit) (p1 : List Int) (one2 : Int) (two3 : Int) : callF (E6 a11 a20 a26 a27 a29 a31c a33 want0) lv6 N en6 c6 (resOf Tryd.f6) 131 [.dv (.pair (.int .u8) (.pair (.int .u8) (.unit))) d0, .dv (.sl (.int .u8)) p1, .dv (.int .u8) one2, .dv (.int .u8) two3] [] (dec6 want0) = (a26 d0).bind fun r1 =>
      (a27 p1 r1 (7 : Int)).bind fun r2 =>
      cond (decide ((r2.length : Int) < (2 : Int))) ((a20 r1 r2 (0 : Int) (1 : Int)).bind fun r3 =>
      cond (r3.2 == (5 : Int)) ((a11).bind fun r4 =>
      chk (decide (r4 = want0)) (some ()))
      (chk (decide (false = want0)) (some ())))
      (chk (decide ((r2.length : Int) ≠ (0 : Int))) (chk (decide (w64 ((r2.length : Int) - (1 : Int)) ≠ (0 : Int))) (chk (decide ((r2.length : Int) ≠ (0 : Int))) ((a29 r1 r2).bind fun r5 =>
      (R6_0 a11 a20 a26 a27 a29 a31c a33 want0 N N (Sl6a one2 two3 r1 r2 true r5)))))) := by kernel_rfl
theorem k6 (a11 : Option (Bool)) (a20 : (Int × List (List Int) × Unit) → (List UInt8) → Int → Int → Option (Bool × Int)) (a26 : (Int × Int × Unit) → Option (Int × List (List Int) × Unit)) (a27 : (List Int) → (Int × List (List Int) × Unit) → Int → Option (List UInt8)) (a29 : (Int × List (List Int) × Unit) → (List UInt8) → Option (List (List UInt8 × Int))) (a31c : Int → (List UInt8) → Option (Int)) (a33 : (List UInt8) → Int → Int → Option (Int)) (want0 : Bool) (N : Nat) (d0 : Int × Int × Unit) (p1 : List Int) (one2 : Int) (two3 : Int) : callF (E6 a11 a20 a26 a27 a29 a31c a33 want0) lv6 N en6 c6 (resOf Tryd.f6) 131 [.dv (.pair (.int .u8) (.pair (.int .u8) (.unit))) d0, .dv (.sl (.int .u8)) p1, .dv (.int .u8) one2, .dv (.int .u8) two3] [] (dec6 want0) = m6 a11 a20 a26 a27 a29 a31c a33 want0 N d0 p1 one2 two3 := by rw [wm6]; simp only [m6, ql6a]
theorem ok6 (a11 : Option (Bool)) (a20 : (Int × List (List Int) × Unit) → (List UInt8) → Int → Int → Option (Bool × Int)) (a26 : (Int × Int × Unit) → Option (Int × List (List Int) × Unit)) (a27 : (List Int) → (Int × List (List Int) × Unit) → Int → Option (List UInt8)) (a29 : (Int × List (List Int) × Unit) → (List UInt8) → Option (List (List UInt8 × Int))) (a31c : Int → (List UInt8) → Option (Int)) (a33 : (List UInt8) → Int → Int → Option (Int)) (h11 : FnOk Tryd.prog 11 (F11 a11)) (h20 : FnOk Tryd.prog 20 (F20 a20)) (h26 : FnOk Tryd.prog 26 (F26 a26)) (h27 : FnOk Tryd.prog 27 (F27 a27)) (h29 : FnOk Tryd.prog 29 (F29 a29)) (h31c : FnOk Tryd.prog 31 (F31c a31c)) (h33 : FnOk Tryd.prog 33 (F33 a33)) (a : (Int × Int × Unit) → (List Int) → Int → Int → Option (Bool)) (h : ∀ d0 p1 one2 two3 r, a d0 p1 one2 two3 = some r → ∃ N, m6 a11 a20 a26 a27 a29 a31c a33 r N d0 p1 one2 two3 = some ()) : FnOk Tryd.prog 6 (F6 a) := by
  intro args Of r hx
  simp only [F6] at hx
  split at hx
  · rename_i d0 p1 one2 two3
    obtain ⟨N, hN⟩ := h _ _ _ _ _ hx
    refine liftedW (L := [(11, F11 a11), (20, F20 a20), (26, F26 a26), (27, F27 a27), (29, F29 a29), (31, F31c a31c), (33, F33 a33)]) (rc := nrc) (fz := nfz) (tw := fun i => ([] : List (Nat × Nat)).lookup i) (fn := Tryd.f6) (by kernel_rfl) (by kernel_rfl) (by kernel_rfl) (by kernel_rfl) rfl ?_ ((k6 a11 a20 a26 a27 a29 a31c a33 r N _ _ _ _).trans hN) ?_
    · intro p hp; simp only [List.mem_cons, List.not_mem_nil, or_false] at hp; rcases hp with rfl | rfl | rfl | rfl | rfl | rfl | rfl
      · exact h11
      · exact h20
      · exact h26
      · exact h27
      · exact h29
      · exact h31c
      · exact h33
    · intro l o hd
      simp only [dec6] at hd
      split at hd
      · have hq := (chk_some hd).1
        simp only [decide_eq_true_eq] at hq
        subst hq
        exact ⟨rfl, rfl⟩
      · cases hd
  · cases hx
end Go.Proofs.YtmpbbkldopfkpaaDoor
