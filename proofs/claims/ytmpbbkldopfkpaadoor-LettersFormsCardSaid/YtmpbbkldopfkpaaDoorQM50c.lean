import Derived.Test.YtmpbbkldopfkpaaDoorQFI
namespace Go.Proofs.YtmpbbkldopfkpaaDoor
open Go.RowKit
set_option linter.unusedVariables false
abbrev Q50cT0 := (Int × List (List Int) × Unit) → Int → Int → Option (Bool)
abbrev Q50cT1 := (Int × List (List Int) × Unit) → (List UInt8) → Int → (List Int) → Option (Int × List Int)
abbrev Q50cT2 := Int × List (List Int) × Unit
def E50c (a48 : Q50cT0) (a50c : Q50cT1) : Env := mkE TI TY [(48, F48 a48), (50, F50c a50c)] nrc nfz
noncomputable def c50c : Code := bodyOf Tryd.f50
def nm50c_0 : Norm := ⟨[1, 2, 3, 4, 9, 10], [9000, 4], [], []⟩
def nm50c_1 : Norm := ⟨[1, 2, 3, 4, 9, 10, 11, 12], [9000, 4], [], []⟩
def lv50c : Nat → Option Norm := norms [(7, nm50c_0), (12, nm50c_1)]
def en50c : End := ⟨[], ⟨[81], [9000], [], []⟩⟩
def dec50c (l : List TV) (o : List (Nat × TO)) : Option (Int × List Int) := match l, o with | [.dv (.int .i64) x0], [(9000, .row (.int .i64) x1)] => some (x0, x1) | _, _ => none
def Sl50cb (o0 : Q50cT2) (log1 : List UInt8) (gone2 : Int) (out9_a : Int) (i10_a : Int) (o9000_a : List Int) (open11_b : Bool) (k12_b : Int) : TS := ⟨slots 81 [(1, .dv (.str) log1), (2, .dv (.int .i64) gone2), (3, .row 9000), (4, .ptr 4 0 []), (9, .dv (.int .i64) out9_a), (10, .dv (.int .i64) i10_a), (11, .dv (.bool) open11_b), (12, .dv (.int .i64) k12_b)], [(9000, .row (.int .i64) o9000_a), (4, .row (.pair (.int .i64) (.pair (.sl (.arr 2 (.int .i64))) (.unit))) ([o0] : List (Int × List (List Int) × Unit)))]⟩
def Sl50ca (o0 : Q50cT2) (log1 : List UInt8) (gone2 : Int) (out9_a : Int) (i10_a : Int) (o9000_a : List Int) : TS := ⟨slots 81 [(1, .dv (.str) log1), (2, .dv (.int .i64) gone2), (3, .row 9000), (4, .ptr 4 0 []), (9, .dv (.int .i64) out9_a), (10, .dv (.int .i64) i10_a)], [(9000, .row (.int .i64) o9000_a), (4, .row (.pair (.int .i64) (.pair (.sl (.arr 2 (.int .i64))) (.unit))) ([o0] : List (Int × List (List Int) × Unit)))]⟩
noncomputable def K50c_0 (a48 : Q50cT0) (a50c : Q50cT1) (N : Nat) : Kont (Int × List Int) := kont (E50c a48 a50c) lv50c N c50c [1, 1, 1, 1, 0, 1, 0] (fin TI en50c (resOf Tryd.f50) dec50c)
noncomputable def R50c_0 (a48 : Q50cT0) (a50c : Q50cT1) (N : Nat) (m : Nat) : TS → Option (Int × List Int) := loopK (den (E50c a48 a50c) lv50c N (sub c50c [1, 1, 1, 1, 0, 1, 0, 0])) (TS.norm nm50c_0) (K50c_0 a48 a50c N) m
noncomputable def K50c_1 (a48 : Q50cT0) (a50c : Q50cT1) (N : Nat) (T50c_0 : TS → Option (Int × List Int)) : Kont (Int × List Int) := kont (E50c a48 a50c) lv50c N (sub c50c [1, 1, 1, 1, 0, 1, 0, 0]) [1, 0, 0, 1, 1, 0, 1, 0] (kloop (TS.norm nm50c_0) (K50c_0 a48 a50c N) T50c_0)
noncomputable def R50c_1 (a48 : Q50cT0) (a50c : Q50cT1) (N : Nat) (T50c_0 : TS → Option (Int × List Int)) (m : Nat) : TS → Option (Int × List Int) := loopK (den (E50c a48 a50c) lv50c N (sub c50c [1, 1, 1, 1, 0, 1, 0, 0, 1, 0, 0, 1, 1, 0, 1, 0, 0])) (TS.norm nm50c_1) (K50c_1 a48 a50c N T50c_0) m
def l50cb (a48 : Q50cT0) (a50c : Q50cT1) (N : Nat) (o0 : Q50cT2) (log1 : List UInt8) (gone2 : Int) (out9_a : Int) (i10_a : Int) (o9000_a : List Int) (rec_l50ca : Int → Int → (List Int) → Option (Int × List Int)) : Nat → Bool → Int → Option (Int × List Int)
 | 0, _, _ => none
 | n + 1, open11_b, k12_b => cond (decide (k12_b < i10_a)) (cond (open11_b) (chk (decide (0 ≤ k12_b)) (cond ((bAnd .i64 (Int.fdiv gone2 (2 ^ min (Int.toNat k12_b) 64)) (1 : Int)) == (1 : Int)) ((l50cb a48 a50c N o0 log1 gone2 out9_a i10_a o9000_a rec_l50ca n true (w64 (k12_b + (1 : Int)))))
   (chk (decide (0 ≤ k12_b ∧ k12_b < (log1.length : Int))) (chk (decide (0 ≤ i10_a ∧ i10_a < (log1.length : Int))) ((a48 o0 (((log1.getD k12_b.toNat 0).toNat : Nat) : Int) (((log1.getD i10_a.toNat 0).toNat : Nat) : Int)).bind fun r1 =>
   (l50cb a48 a50c N o0 log1 gone2 out9_a i10_a o9000_a rec_l50ca n (!r1) (w64 (k12_b + (1 : Int)))))))))
   ((l50cb a48 a50c N o0 log1 gone2 out9_a i10_a o9000_a rec_l50ca n false (w64 (k12_b + (1 : Int))))))
   (cond (open11_b) (chk (decide (0 ≤ i10_a)) ((a50c o0 log1 (bOr .i64 gone2 (IntKind.wrap .i64 ((1 : Int) * 2 ^ min (Int.toNat i10_a) 64))) o9000_a).bind fun r2 =>
   (rec_l50ca (w64 (out9_a + r2.1)) (w64 (i10_a + (1 : Int))) r2.2)))
   ((rec_l50ca out9_a (w64 (i10_a + (1 : Int))) o9000_a)))
theorem wl50cb (a48 : Q50cT0) (a50c : Q50cT1) (N : Nat) (o0 : Q50cT2) (log1 : List UInt8) (gone2 : Int) (out9_a : Int) (i10_a : Int) (o9000_a : List Int) (T50c_0 : TS → Option (Int × List Int)) (m : Nat) (open11_b : Bool) (k12_b : Int) : R50c_1 a48 a50c N T50c_0 (m + 1) (Sl50cb o0 log1 gone2 out9_a i10_a o9000_a open11_b k12_b) = cond (decide (k12_b < i10_a)) (cond (open11_b) (chk (decide (0 ≤ k12_b)) (cond ((bAnd .i64 (Int.fdiv gone2 (2 ^ min (Int.toNat k12_b) 64)) (1 : Int)) == (1 : Int)) ((R50c_1 a48 a50c N T50c_0 m (Sl50cb o0 log1 gone2 out9_a i10_a o9000_a true (w64 (k12_b + (1 : Int))))))
   (chk (decide (0 ≤ k12_b ∧ k12_b < (log1.length : Int))) (chk (decide (0 ≤ i10_a ∧ i10_a < (log1.length : Int))) ((a48 o0 (((log1.getD k12_b.toNat 0).toNat : Nat) : Int) (((log1.getD i10_a.toNat 0).toNat : Nat) : Int)).bind fun r1 =>
   (R50c_1 a48 a50c N T50c_0 m (Sl50cb o0 log1 gone2 out9_a i10_a o9000_a (!r1) (w64 (k12_b + (1 : Int))))))))))
   ((R50c_1 a48 a50c N T50c_0 m (Sl50cb o0 log1 gone2 out9_a i10_a o9000_a false (w64 (k12_b + (1 : Int)))))))
   (cond (open11_b) (chk (decide (0 ≤ i10_a)) ((a50c o0 log1 (bOr .i64 gone2 (IntKind.wrap .i64 ((1 : Int) * 2 ^ min (Int.toNat i10_a) 64))) o9000_a).bind fun r2 =>
   (T50c_0 (Sl50ca o0 log1 gone2 (w64 (out9_a + r2.1)) (w64 (i10_a + (1 : Int))) r2.2))))
   ((T50c_0 (Sl50ca o0 log1 gone2 out9_a (w64 (i10_a + (1 : Int))) o9000_a)))) := by kernel_rfl
theorem ql50cb (a48 : Q50cT0) (a50c : Q50cT1) (N : Nat) (o0 : Q50cT2) (log1 : List UInt8) (gone2 : Int) (out9_a : Int) (i10_a : Int) (o9000_a : List Int) (T50c_0 : TS → Option (Int × List Int)) : ∀ (m : Nat) (open11_b : Bool) (k12_b : Int), R50c_1 a48 a50c N T50c_0 m (Sl50cb o0 log1 gone2 out9_a i10_a o9000_a open11_b k12_b) = l50cb a48 a50c N o0 log1 gone2 out9_a i10_a o9000_a (fun y0 y1 y2 => T50c_0 (Sl50ca o0 log1 gone2 y0 y1 y2)) m open11_b k12_b
        | 0, _, _ => rfl
        | m + 1, open11_b, k12_b => by rw [wl50cb]; simp only [l50cb, ql50cb a48 a50c N o0 log1 gone2 out9_a i10_a o9000_a T50c_0 m]
def l50ca (a48 : Q50cT0) (a50c : Q50cT1) (N : Nat) (o0 : Q50cT2) (log1 : List UInt8) (gone2 : Int) : Nat → Int → Int → (List Int) → Option (Int × List Int)
 | 0, _, _, _ => none
 | n + 1, out9_a, i10_a, o9000_a => cond (decide (i10_a < (log1.length : Int))) (chk (decide (0 ≤ i10_a)) (cond ((bAnd .i64 (Int.fdiv gone2 (2 ^ min (Int.toNat i10_a) 64)) (1 : Int)) == (1 : Int)) ((l50ca a48 a50c N o0 log1 gone2 n out9_a (w64 (i10_a + (1 : Int))) o9000_a))
   ((l50cb a48 a50c N o0 log1 gone2 out9_a i10_a o9000_a (fun y0 y1 y2 => (l50ca a48 a50c N o0 log1 gone2 n y0 y1 y2)) N true (0 : Int)))))
   (chk (decide (0 ≤ gone2 ∧ gone2 < (o9000_a.length : Int))) (some (out9_a, o9000_a.set gone2.toNat (w64 (out9_a + (1 : Int))))))
theorem wl50ca (a48 : Q50cT0) (a50c : Q50cT1) (N : Nat) (o0 : Q50cT2) (log1 : List UInt8) (gone2 : Int) (m : Nat) (out9_a : Int) (i10_a : Int) (o9000_a : List Int) : R50c_0 a48 a50c N (m + 1) (Sl50ca o0 log1 gone2 out9_a i10_a o9000_a) = cond (decide (i10_a < (log1.length : Int))) (chk (decide (0 ≤ i10_a)) (cond ((bAnd .i64 (Int.fdiv gone2 (2 ^ min (Int.toNat i10_a) 64)) (1 : Int)) == (1 : Int)) ((R50c_0 a48 a50c N m (Sl50ca o0 log1 gone2 out9_a (w64 (i10_a + (1 : Int))) o9000_a)))
   ((R50c_1 a48 a50c N (R50c_0 a48 a50c N m) N (Sl50cb o0 log1 gone2 out9_a i10_a o9000_a true (0 : Int))))))
   (chk (decide (0 ≤ gone2 ∧ gone2 < (o9000_a.length : Int))) (some (out9_a, o9000_a.set gone2.toNat (w64 (out9_a + (1 : Int)))))) := by kernel_rfl
theorem ql50ca (a48 : Q50cT0) (a50c : Q50cT1) (N : Nat) (o0 : Q50cT2) (log1 : List UInt8) (gone2 : Int) : ∀ (m : Nat) (out9_a : Int) (i10_a : Int) (o9000_a : List Int), R50c_0 a48 a50c N m (Sl50ca o0 log1 gone2 out9_a i10_a o9000_a) = l50ca a48 a50c N o0 log1 gone2 m out9_a i10_a o9000_a
        | 0, _, _, _ => rfl
        | m + 1, out9_a, i10_a, o9000_a => by rw [wl50ca]; simp only [l50ca, ql50cb, ql50ca a48 a50c N o0 log1 gone2 m]
def m50c (a48 : Q50cT0) (a50c : Q50cT1) (N : Nat) (o0 : Q50cT2) (log1 : List UInt8) (gone2 : Int) (p3 : List Int) : Option (Int × List Int) :=
   chk (decide (0 ≤ (log1.length : Int))) (cond (gone2 == (w64 ((IntKind.wrap .i64 ((1 : Int) * 2 ^ min (Int.toNat (log1.length : Int)) 64)) - (1 : Int)))) (some ((1 : Int), p3))
   (chk (decide (0 ≤ gone2 ∧ gone2 < (p3.length : Int))) (cond (decide ((p3.getD gone2.toNat (0 : Int)) > (0 : Int))) (chk (decide (0 ≤ gone2 ∧ gone2 < (p3.length : Int))) (some (w64 ((p3.getD gone2.toNat (0 : Int)) - (1 : Int)), p3)))
   ((l50ca a48 a50c N o0 log1 gone2 N (0 : Int) (0 : Int) p3)))))
theorem wm50c (a48 : Q50cT0) (a50c : Q50cT1) (N : Nat) (o0 : Q50cT2) (log1 : List UInt8) (gone2 : Int) (p3 : List Int) : callF (E50c a48 a50c) lv50c N en50c c50c (resOf Tryd.f50) 77 [.dv (.pair (.int .i64) (.pair (.sl (.arr 2 (.int .i64))) (.unit))) o0, .dv (.str) log1, .dv (.int .i64) gone2, .row 9000] [(9000, .row (.int .i64) p3)] dec50c = chk (decide (0 ≤ (log1.length : Int))) (cond (gone2 == (w64 ((IntKind.wrap .i64 ((1 : Int) * 2 ^ min (Int.toNat (log1.length : Int)) 64)) - (1 : Int)))) (some ((1 : Int), p3))
   (chk (decide (0 ≤ gone2 ∧ gone2 < (p3.length : Int))) (cond (decide ((p3.getD gone2.toNat (0 : Int)) > (0 : Int))) (chk (decide (0 ≤ gone2 ∧ gone2 < (p3.length : Int))) (some (w64 ((p3.getD gone2.toNat (0 : Int)) - (1 : Int)), p3)))
   ((R50c_0 a48 a50c N N (Sl50ca o0 log1 gone2 (0 : Int) (0 : Int) p3)))))) := by kernel_rfl
theorem k50c (a48 : Q50cT0) (a50c : Q50cT1) (N : Nat) (o0 : Q50cT2) (log1 : List UInt8) (gone2 : Int) (p3 : List Int) : callF (E50c a48 a50c) lv50c N en50c c50c (resOf Tryd.f50) 77 [.dv (.pair (.int .i64) (.pair (.sl (.arr 2 (.int .i64))) (.unit))) o0, .dv (.str) log1, .dv (.int .i64) gone2, .row 9000] [(9000, .row (.int .i64) p3)] dec50c = m50c a48 a50c N o0 log1 gone2 p3 := by rw [wm50c]; simp only [m50c, ql50ca]
theorem ok50c (a48 : Q50cT0) (a50c : Q50cT1) (h48 : FnOk Tryd.prog 48 (F48 a48)) (h50c : FnOk Tryd.prog 50 (F50c a50c)) (a : (Int × List (List Int) × Unit) → (List UInt8) → Int → (List Int) → Option (Int × List Int)) (h : ∀ o0 log1 gone2 p3 r, a o0 log1 gone2 p3 = some r → (∃ N, m50c a48 a50c N o0 log1 gone2 p3 = some r)) : FnOk Tryd.prog 50 (F50c a) := by
 intro args Of x hx
 simp only [F50c] at hx
 split at hx
 ·rename_i o0 log1 gone2 p3
  obtain ⟨N, hN⟩ := h _ _ _ _ _ hx
  refine lifted (L := [(48, F48 a48), (50, F50c a50c)]) (rc := nrc) (fz := nfz) (fn := Tryd.f50) (by kernel_rfl) (by kernel_rfl) (by kernel_rfl) (by kernel_rfl) rfl ?_ ((k50c a48 a50c N _ _ _ _).trans hN) ?_
  ·intro p hp; simp only [List.mem_cons, List.not_mem_nil, or_false] at hp; rcases hp with rfl | rfl
   ·exact h48
   ·exact h50c
  ·intro l o hd
   simp only [dec50c] at hd
   split at hd
   ·obtain rfl := Option.some.inj hd; exact ⟨rfl, rfl⟩
   ·cases hd
 ·cases hx
end Go.Proofs.YtmpbbkldopfkpaaDoor
