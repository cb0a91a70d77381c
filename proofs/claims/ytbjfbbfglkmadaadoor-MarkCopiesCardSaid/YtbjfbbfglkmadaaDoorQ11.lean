/-
  Functions 47c, 41c47, 11, told as plain functions.
-/
import Derived.Test.YtbjfbbfglkmadaaDoorQFI
namespace Go.Proofs.YtbjfbbfglkmadaaDoor
open Go.RowKit
set_option linter.unusedVariables false
def E47c (a45 : Y45) : Env := mkE TI TY [(45, F45 a45)] nrc nfz
noncomputable def c47c : Code := bodyOf Tryd.f47
def lv47c : Nat → Option Norm := norms []
def en47c : End := ⟨[], ⟨[], [9000, 9001, 9002, 9003, 9004, 9005, 9006, 9007, 9008], [(.fld 9004 0, 2000, .sl (.int .i64)), (.fld 9006 0, 2001, .sl (.int .i64))], []⟩⟩
def dec47c (l : List TV) (o : List (Nat × TO)) : Option (List (List Int) × List (List Int) × List Int × List Cd × Int × Int × Int) := match l, o with | [], [(2000, .row (.sl (.int .i64)) x0), (2001, .row (.sl (.int .i64)) x1), (9000, .row (.int .i64) x2), (9001, .row (.pair (.int .i64) (.pair (.sl (.sl (.int .i64))) (.unit))) x3), (9002, .rcd [.dv (.int .i64) x4]), (9003, .rcd [.dv (.int .i64) x5]), (9004, .rcd [.row 2000]), (9005, .rcd [.dv (.int .i64) x6]), (9006, .rcd [.row 2001]), (9007, .dead), (9008, .dead)] => some (x0, x1, x2, x3, x4, x5, x6) | _, _ => none
def m47c (a45 : Y45) (N : Nat) (p0 : List Int) (p1 : List Cd) (p2 : Int) (p3 : Int) (p4 : Int) (p5 : List (List Int)) (p6 : List (List Int)) : Option (List (List Int) × List (List Int) × List Int × List Cd × Int × Int × Int) :=
      (a45 (p1.getD 0 ((0 : Int), (([] : List (List Int)), ()))) p2 p0).bind fun r1 =>
      cond (r1) (chk (small (0 + p0.length) 8) (chk (small (p5.length + 1) 24) ((a45 (p1.getD 0 ((0 : Int), (([] : List (List Int)), ()))) p4 p0).bind fun r2 =>
      cond (r2) (chk (small (0 + p0.length) 8) (chk (small (p6.length + 1) 24) (some (p5 ++ ([([] : List Int) ++ p0] : List (List Int)), p6 ++ ([([] : List Int) ++ p0] : List (List Int)), p0, p1, p2, w64 (p3 + (1 : Int)), p4))))
      (some (p5 ++ ([([] : List Int) ++ p0] : List (List Int)), p6, p0, p1, p2, w64 (p3 + (1 : Int)), p4)))))
      ((a45 (p1.getD 0 ((0 : Int), (([] : List (List Int)), ()))) p4 p0).bind fun r3 =>
      cond (r3) (chk (small (0 + p0.length) 8) (chk (small (p6.length + 1) 24) (some (p5, p6 ++ ([([] : List Int) ++ p0] : List (List Int)), p0, p1, p2, p3, p4))))
      (some (p5, p6, p0, p1, p2, p3, p4)))
theorem k47c (a45 : Y45) (N : Nat) (p0 : List Int) (p1 : List Cd) (p2 : Int) (p3 : Int) (p4 : Int) (p5 : List (List Int)) (p6 : List (List Int)) : callF (E47c a45) lv47c N en47c c47c (resOf Tryd.f47) 23 [.row 9000, .ptr 9001 0 [], .ptr 9002 0 [0], .ptr 9003 0 [0], .ptr 9004 0 [0], .ptr 9005 0 [0], .ptr 9006 0 [0]] [(9000, .row (.int .i64) p0), (9001, .row (.pair (.int .i64) (.pair (.sl (.sl (.int .i64))) (.unit))) p1), (9002, .rcd [.dv (.int .i64) p2]), (9003, .rcd [.dv (.int .i64) p3]), (9004, .rcd [.row 9007]), (9005, .rcd [.dv (.int .i64) p4]), (9006, .rcd [.row 9008]), (9007, .row (.sl (.int .i64)) p5), (9008, .row (.sl (.int .i64)) p6)] dec47c = m47c a45 N p0 p1 p2 p3 p4 p5 p6 := by kernel_rfl
theorem ok47c (a45 : Y45) (h45 : FnOk Tryd.prog 45 (F45 a45)) (a : Y47c) (h : ∀ p0 p1 p2 p3 p4 p5 p6 r, a p0 p1 p2 p3 p4 p5 p6 = some r → (∃ N, m47c a45 N p0 p1 p2 p3 p4 p5 p6 = some r)) : FnOk Tryd.prog 47 (F47c a) := by
  intro args Of x hx
  simp only [F47c] at hx
  split at hx
  · rename_i p0 p1 p2 p3 p4 p5 p6
    obtain ⟨N, hN⟩ := h _ _ _ _ _ _ _ _ hx
    refine lifted (L := [(45, F45 a45)]) (rc := nrc) (fz := nfz) (fn := Tryd.f47) (by kernel_rfl) (by kernel_rfl) (by kernel_rfl) (by kernel_rfl) rfl ?_ ((k47c a45 N _ _ _ _ _ _ _).trans hN) ?_
    · intro p hp; simp only [List.mem_cons, List.not_mem_nil, or_false] at hp; rcases hp with rfl; exact h45
    · intro l o hd
      simp only [dec47c] at hd
      split at hd
      · obtain rfl := Option.some.inj hd; exact ⟨rfl, rfl⟩
      · cases hd
  · cases hx
def E41c47 (a47c : Y47c) : Env := mkE TI TY [(47, F47c a47c)] nrc nfz
noncomputable def c41c47 : Code := bodyOf Tryd.f41
def nm41c47_0 : Norm := ⟨[1, 2, 4], [9000, 9001, 9002, 9003, 9004, 9005, 2, 11, 9006, 9007], [(.fld 9003 0, 2100, .sl (.int .i64)), (.fld 9005 0, 2101, .sl (.int .i64))], []⟩
def nm41c47_1 : Norm := ⟨[1, 2, 4, 5], [9000, 9001, 9002, 9003, 9004, 9005, 2, 11, 9006, 9007, 1142000, 1142001], [], []⟩
def lv41c47 : Nat → Option Norm := norms [(2, nm41c47_0), (4, nm41c47_1)]
def en41c47 : End := ⟨[], ⟨[], [9000, 9001, 9002, 9003, 9004, 9005, 9006, 9007], [(.fld 9003 0, 2000, .sl (.int .i64)), (.fld 9005 0, 2001, .sl (.int .i64))], []⟩⟩
def dec41c47 (l : List TV) (o : List (Nat × TO)) : Option (List (List Int) × List (List Int) × List Cd × Int × Int × Int) := match l, o with | [], [(2000, .row (.sl (.int .i64)) x0), (2001, .row (.sl (.int .i64)) x1), (9000, .row (.pair (.int .i64) (.pair (.sl (.sl (.int .i64))) (.unit))) x2), (9001, .rcd [.dv (.int .i64) x3]), (9002, .rcd [.dv (.int .i64) x4]), (9003, .rcd [.row 2000]), (9004, .rcd [.dv (.int .i64) x5]), (9005, .rcd [.row 2001]), (9006, .dead), (9007, .dead)] => some (x0, x1, x2, x3, x4, x5) | _, _ => none
def Sl41c47b (c0 : Int × List (List Int) × Unit) (r1 : List (List Int) × List (List Int) × List Int × List Cd × Int × Int × Int) (k5_b : Int) (o11_b : List Int) : TS := ⟨slots 44 [(1, .fn 47 0 6 fun i => ([.ptr 9000 0 [], .ptr 9001 0 [0], .ptr 9002 0 [0], .ptr 9003 0 [0], .ptr 9004 0 [0], .ptr 9005 0 [0]] : List TV).getD i .any), (2, .ptr 2 0 []), (4, .row 11), (5, .dv (.int .i64) k5_b)], [(9000, .row (.pair (.int .i64) (.pair (.sl (.sl (.int .i64))) (.unit))) r1.2.2.2.1), (9001, .rcd [.dv (.int .i64) r1.2.2.2.2.1]), (9002, .rcd [.dv (.int .i64) r1.2.2.2.2.2.1]), (9003, .rcd [.row 1142000]), (9004, .rcd [.dv (.int .i64) r1.2.2.2.2.2.2]), (9005, .rcd [.row 1142001]), (2, .row (.pair (.int .i64) (.pair (.sl (.sl (.int .i64))) (.unit))) ([c0] : List Cd)), (11, .row (.int .i64) o11_b), (9006, .dead), (9007, .dead), (1142000, .row (.sl (.int .i64)) r1.1), (1142001, .row (.sl (.int .i64)) r1.2.1)]⟩
def Sl41c47a (c0 : Int × List (List Int) × Unit) (o2100_a : List (List Int)) (o2101_a : List (List Int)) (o9000_a : List Cd) (o9001_af0 : Int) (o9002_af0 : Int) (o9004_af0 : Int) (o11_a : List Int) : TS := ⟨slots 44 [(1, .fn 47 0 6 fun i => ([.ptr 9000 0 [], .ptr 9001 0 [0], .ptr 9002 0 [0], .ptr 9003 0 [0], .ptr 9004 0 [0], .ptr 9005 0 [0]] : List TV).getD i .any), (2, .ptr 2 0 []), (4, .row 11)], [(2100, .row (.sl (.int .i64)) o2100_a), (2101, .row (.sl (.int .i64)) o2101_a), (9000, .row (.pair (.int .i64) (.pair (.sl (.sl (.int .i64))) (.unit))) o9000_a), (9001, .rcd [.dv (.int .i64) o9001_af0]), (9002, .rcd [.dv (.int .i64) o9002_af0]), (9003, .rcd [.row 2100]), (9004, .rcd [.dv (.int .i64) o9004_af0]), (9005, .rcd [.row 2101]), (2, .row (.pair (.int .i64) (.pair (.sl (.sl (.int .i64))) (.unit))) ([c0] : List Cd)), (11, .row (.int .i64) o11_a), (9006, .dead), (9007, .dead)]⟩
noncomputable def K41c47_0 (a47c : Y47c) (N : Nat) : Kont (List (List Int) × List (List Int) × List Cd × Int × Int × Int) := kont (E41c47 a47c) lv41c47 N c41c47 [1, 1, 0] (fin TI en41c47 (resOf Tryd.f41) dec41c47)
noncomputable def R41c47_0 (a47c : Y47c) (N : Nat) (m : Nat) : TS → Option (List (List Int) × List (List Int) × List Cd × Int × Int × Int) := loopK (den (E41c47 a47c) lv41c47 N (sub c41c47 [1, 1, 0, 0])) (TS.norm nm41c47_0) (K41c47_0 a47c N) m
noncomputable def K41c47_1 (a47c : Y47c) (N : Nat) (T41c47_0 : TS → Option (List (List Int) × List (List Int) × List Cd × Int × Int × Int)) : Kont (List (List Int) × List (List Int) × List Cd × Int × Int × Int) := kont (E41c47 a47c) lv41c47 N (sub c41c47 [1, 1, 0, 0]) [0, 1, 1, 0, 0] (kloop (TS.norm nm41c47_0) (K41c47_0 a47c N) T41c47_0)
noncomputable def R41c47_1 (a47c : Y47c) (N : Nat) (T41c47_0 : TS → Option (List (List Int) × List (List Int) × List Cd × Int × Int × Int)) (m : Nat) : TS → Option (List (List Int) × List (List Int) × List Cd × Int × Int × Int) := loopK (den (E41c47 a47c) lv41c47 N (sub c41c47 [1, 1, 0, 0, 0, 1, 1, 0, 0, 0])) (TS.norm nm41c47_1) (K41c47_1 a47c N T41c47_0) m
def l41c47b (a47c : Y47c) (N : Nat) (c0 : Int × List (List Int) × Unit) (r1 : List (List Int) × List (List Int) × List Int × List Cd × Int × Int × Int) (rec_l41c47a : (List (List Int)) → (List (List Int)) → (List Cd) → Int → Int → Int → (List Int) → Option (List (List Int) × List (List Int) × List Cd × Int × Int × Int)) : Nat → Int → (List Int) → Option (List (List Int) × List (List Int) × List Cd × Int × Int × Int)
  | 0, _, _ => none
  | n + 1, k5_b, o11_b => cond (decide (k5_b < (o11_b.length : Int))) (chk (decide (0 ≤ k5_b ∧ k5_b < (o11_b.length : Int))) (cond ((o11_b.getD k5_b.toNat (0 : Int)) == (w64 (c0.1 - (1 : Int)))) (chk (decide (0 ≤ k5_b ∧ k5_b < (o11_b.length : Int))) ((l41c47b a47c N c0 r1 rec_l41c47a n (w64 (k5_b + (1 : Int))) (o11_b.set k5_b.toNat (0 : Int)))))
      (cond (k5_b == (o11_b.length : Int)) (some (r1.1, r1.2.1, r1.2.2.2.1, r1.2.2.2.2.1, r1.2.2.2.2.2.1, r1.2.2.2.2.2.2))
      (chk (decide (0 ≤ k5_b ∧ k5_b < (o11_b.length : Int))) (chk (decide (0 ≤ k5_b ∧ k5_b < (o11_b.length : Int))) ((rec_l41c47a r1.1 r1.2.1 r1.2.2.2.1 r1.2.2.2.2.1 r1.2.2.2.2.2.1 r1.2.2.2.2.2.2 (o11_b.set k5_b.toNat (w64 ((o11_b.getD k5_b.toNat (0 : Int)) + (1 : Int)))))))))))
      (cond (k5_b == (o11_b.length : Int)) (some (r1.1, r1.2.1, r1.2.2.2.1, r1.2.2.2.2.1, r1.2.2.2.2.2.1, r1.2.2.2.2.2.2))
      (chk (decide (0 ≤ k5_b ∧ k5_b < (o11_b.length : Int))) (chk (decide (0 ≤ k5_b ∧ k5_b < (o11_b.length : Int))) ((rec_l41c47a r1.1 r1.2.1 r1.2.2.2.1 r1.2.2.2.2.1 r1.2.2.2.2.2.1 r1.2.2.2.2.2.2 (o11_b.set k5_b.toNat (w64 ((o11_b.getD k5_b.toNat (0 : Int)) + (1 : Int)))))))))
theorem wl41c47b (a47c : Y47c) (N : Nat) (c0 : Int × List (List Int) × Unit) (r1 : List (List Int) × List (List Int) × List Int × List Cd × Int × Int × Int) (T41c47_0 : TS → Option (List (List Int) × List (List Int) × List Cd × Int × Int × Int)) (m : Nat) (k5_b : Int) (o11_b : List Int) : R41c47_1 a47c N T41c47_0 (m + 1) (Sl41c47b c0 r1 k5_b o11_b) = cond (decide (k5_b < (o11_b.length : Int))) (chk (decide (0 ≤ k5_b ∧ k5_b < (o11_b.length : Int))) (cond ((o11_b.getD k5_b.toNat (0 : Int)) == (w64 (c0.1 - (1 : Int)))) (chk (decide (0 ≤ k5_b ∧ k5_b < (o11_b.length : Int))) ((R41c47_1 a47c N T41c47_0 m (Sl41c47b c0 r1 (w64 (k5_b + (1 : Int))) (o11_b.set k5_b.toNat (0 : Int))))))
      (cond (k5_b == (o11_b.length : Int)) (some (r1.1, r1.2.1, r1.2.2.2.1, r1.2.2.2.2.1, r1.2.2.2.2.2.1, r1.2.2.2.2.2.2))
      (chk (decide (0 ≤ k5_b ∧ k5_b < (o11_b.length : Int))) (chk (decide (0 ≤ k5_b ∧ k5_b < (o11_b.length : Int))) ((T41c47_0 (Sl41c47a c0 r1.1 r1.2.1 r1.2.2.2.1 r1.2.2.2.2.1 r1.2.2.2.2.2.1 r1.2.2.2.2.2.2 (o11_b.set k5_b.toNat (w64 ((o11_b.getD k5_b.toNat (0 : Int)) + (1 : Int))))))))))))
      (cond (k5_b == (o11_b.length : Int)) (some (r1.1, r1.2.1, r1.2.2.2.1, r1.2.2.2.2.1, r1.2.2.2.2.2.1, r1.2.2.2.2.2.2))
      (chk (decide (0 ≤ k5_b ∧ k5_b < (o11_b.length : Int))) (chk (decide (0 ≤ k5_b ∧ k5_b < (o11_b.length : Int))) ((T41c47_0 (Sl41c47a c0 r1.1 r1.2.1 r1.2.2.2.1 r1.2.2.2.2.1 r1.2.2.2.2.2.1 r1.2.2.2.2.2.2 (o11_b.set k5_b.toNat (w64 ((o11_b.getD k5_b.toNat (0 : Int)) + (1 : Int)))))))))) := by kernel_rfl
theorem ql41c47b (a47c : Y47c) (N : Nat) (c0 : Int × List (List Int) × Unit) (r1 : List (List Int) × List (List Int) × List Int × List Cd × Int × Int × Int) (T41c47_0 : TS → Option (List (List Int) × List (List Int) × List Cd × Int × Int × Int)) : ∀ (m : Nat) (k5_b : Int) (o11_b : List Int), R41c47_1 a47c N T41c47_0 m (Sl41c47b c0 r1 k5_b o11_b) = l41c47b a47c N c0 r1 (fun y0 y1 y2 y3 y4 y5 y6 => T41c47_0 (Sl41c47a c0 y0 y1 y2 y3 y4 y5 y6)) m k5_b o11_b
        | 0, _, _ => rfl
        | m + 1, k5_b, o11_b => by rw [wl41c47b]; simp only [l41c47b, ql41c47b a47c N c0 r1 T41c47_0 m]
def l41c47a (a47c : Y47c) (N : Nat) (c0 : Int × List (List Int) × Unit) : Nat → (List (List Int)) → (List (List Int)) → (List Cd) → Int → Int → Int → (List Int) → Option (List (List Int) × List (List Int) × List Cd × Int × Int × Int)
  | 0, _, _, _, _, _, _, _ => none
  | n + 1, o2100_a, o2101_a, o9000_a, o9001_af0, o9002_af0, o9004_af0, o11_a => (a47c o11_a o9000_a o9001_af0 o9002_af0 o9004_af0 o2100_a o2101_a).bind fun r1 =>
      (l41c47b a47c N c0 r1 (fun y0 y1 y2 y3 y4 y5 y6 => (l41c47a a47c N c0 n y0 y1 y2 y3 y4 y5 y6)) N (0 : Int) r1.2.2.1)
theorem wl41c47a (a47c : Y47c) (N : Nat) (c0 : Int × List (List Int) × Unit) (m : Nat) (o2100_a : List (List Int)) (o2101_a : List (List Int)) (o9000_a : List Cd) (o9001_af0 : Int) (o9002_af0 : Int) (o9004_af0 : Int) (o11_a : List Int) : R41c47_0 a47c N (m + 1) (Sl41c47a c0 o2100_a o2101_a o9000_a o9001_af0 o9002_af0 o9004_af0 o11_a) = (a47c o11_a o9000_a o9001_af0 o9002_af0 o9004_af0 o2100_a o2101_a).bind fun r1 =>
      (R41c47_1 a47c N (R41c47_0 a47c N m) N (Sl41c47b c0 r1 (0 : Int) r1.2.2.1)) := by kernel_rfl
theorem ql41c47a (a47c : Y47c) (N : Nat) (c0 : Int × List (List Int) × Unit) : ∀ (m : Nat) (o2100_a : List (List Int)) (o2101_a : List (List Int)) (o9000_a : List Cd) (o9001_af0 : Int) (o9002_af0 : Int) (o9004_af0 : Int) (o11_a : List Int), R41c47_0 a47c N m (Sl41c47a c0 o2100_a o2101_a o9000_a o9001_af0 o9002_af0 o9004_af0 o11_a) = l41c47a a47c N c0 m o2100_a o2101_a o9000_a o9001_af0 o9002_af0 o9004_af0 o11_a
        | 0, _, _, _, _, _, _, _ => rfl
        | m + 1, o2100_a, o2101_a, o9000_a, o9001_af0, o9002_af0, o9004_af0, o11_a => by rw [wl41c47a]; simp only [l41c47a, ql41c47b, ql41c47a a47c N c0 m]
def m41c47 (a47c : Y47c) (N : Nat) (c0 : Int × List (List Int) × Unit) (p1 : List Cd) (p2 : Int) (p3 : Int) (p4 : Int) (p5 : List (List Int)) (p6 : List (List Int)) : Option (List (List Int) × List (List Int) × List Cd × Int × Int × Int) :=
      chk (decide (0 ≤ (0 : Int) ∧ (0 : Int) < (c0.2.1.length : Int))) (chk (mkOk ((c0.2.1.getD 0 ([] : List Int)).length : Int) ((c0.2.1.getD 0 ([] : List Int)).length : Int) 8) ((l41c47a a47c N c0 N p5 p6 p1 p2 p3 p4 (List.replicate (((c0.2.1.getD 0 ([] : List Int)).length : Int).toNat) (0 : Int)))))
theorem wm41c47 (a47c : Y47c) (N : Nat) (c0 : Int × List (List Int) × Unit) (p1 : List Cd) (p2 : Int) (p3 : Int) (p4 : Int) (p5 : List (List Int)) (p6 : List (List Int)) : callF (E41c47 a47c) lv41c47 N en41c47 c41c47 (resOf Tryd.f41) 42 [.dv (.pair (.int .i64) (.pair (.sl (.sl (.int .i64))) (.unit))) c0, .fn 47 0 6 fun i => ([.ptr 9000 0 [], .ptr 9001 0 [0], .ptr 9002 0 [0], .ptr 9003 0 [0], .ptr 9004 0 [0], .ptr 9005 0 [0]] : List TV).getD i .any] [(9000, .row (.pair (.int .i64) (.pair (.sl (.sl (.int .i64))) (.unit))) p1), (9001, .rcd [.dv (.int .i64) p2]), (9002, .rcd [.dv (.int .i64) p3]), (9003, .rcd [.row 9006]), (9004, .rcd [.dv (.int .i64) p4]), (9005, .rcd [.row 9007]), (9006, .row (.sl (.int .i64)) p5), (9007, .row (.sl (.int .i64)) p6)] dec41c47 = chk (decide (0 ≤ (0 : Int) ∧ (0 : Int) < (c0.2.1.length : Int))) (chk (mkOk ((c0.2.1.getD 0 ([] : List Int)).length : Int) ((c0.2.1.getD 0 ([] : List Int)).length : Int) 8) ((R41c47_0 a47c N N (Sl41c47a c0 p5 p6 p1 p2 p3 p4 (List.replicate (((c0.2.1.getD 0 ([] : List Int)).length : Int).toNat) (0 : Int)))))) := by kernel_rfl
theorem k41c47 (a47c : Y47c) (N : Nat) (c0 : Int × List (List Int) × Unit) (p1 : List Cd) (p2 : Int) (p3 : Int) (p4 : Int) (p5 : List (List Int)) (p6 : List (List Int)) : callF (E41c47 a47c) lv41c47 N en41c47 c41c47 (resOf Tryd.f41) 42 [.dv (.pair (.int .i64) (.pair (.sl (.sl (.int .i64))) (.unit))) c0, .fn 47 0 6 fun i => ([.ptr 9000 0 [], .ptr 9001 0 [0], .ptr 9002 0 [0], .ptr 9003 0 [0], .ptr 9004 0 [0], .ptr 9005 0 [0]] : List TV).getD i .any] [(9000, .row (.pair (.int .i64) (.pair (.sl (.sl (.int .i64))) (.unit))) p1), (9001, .rcd [.dv (.int .i64) p2]), (9002, .rcd [.dv (.int .i64) p3]), (9003, .rcd [.row 9006]), (9004, .rcd [.dv (.int .i64) p4]), (9005, .rcd [.row 9007]), (9006, .row (.sl (.int .i64)) p5), (9007, .row (.sl (.int .i64)) p6)] dec41c47 = m41c47 a47c N c0 p1 p2 p3 p4 p5 p6 := by rw [wm41c47]; simp only [m41c47, ql41c47a]
theorem ok41c47 (a47c : Y47c) (h47c : FnOk Tryd.prog 47 (F47c a47c)) (a : Y41c47) (h : ∀ c0 p1 p2 p3 p4 p5 p6 r, a c0 p1 p2 p3 p4 p5 p6 = some r → (∃ N, m41c47 a47c N c0 p1 p2 p3 p4 p5 p6 = some r)) : FnOk Tryd.prog 41 (F41c47 a) := by
  intro args Of x hx
  simp only [F41c47] at hx
  split at hx
  · rename_i c0 f_0 p1 p2 p3 p4 p5 p6 heqc
    have hc0 := congrArg (fun c : List (List TV) => c.getD 0 []) heqc
    obtain ⟨N, hN⟩ := h _ _ _ _ _ _ _ _ hx
    refine HSpec.etaL (args := [.dv (.pair (.int .i64) (.pair (.sl (.sl (.int .i64))) (.unit))) c0, .fn 47 0 6 fun i => ([.ptr 9000 0 [], .ptr 9001 0 [0], .ptr 9002 0 [0], .ptr 9003 0 [0], .ptr 9004 0 [0], .ptr 9005 0 [0]] : List TV).getD i .any]) (O := [(9000, .row (.pair (.int .i64) (.pair (.sl (.sl (.int .i64))) (.unit))) p1), (9001, .rcd [.dv (.int .i64) p2]), (9002, .rcd [.dv (.int .i64) p3]), (9003, .rcd [.row 9006]), (9004, .rcd [.dv (.int .i64) p4]), (9005, .rcd [.row 9007]), (9006, .row (.sl (.int .i64)) p5), (9007, .row (.sl (.int .i64)) p6)]) ⟨TV.sim_refl _, TV.sim_fn hc0, trivial⟩ ⟨rfl, TO.sim_refl _, rfl, TO.sim_refl _, rfl, TO.sim_refl _, rfl, TO.sim_refl _, rfl, TO.sim_refl _, rfl, TO.sim_refl _, rfl, TO.sim_refl _, rfl, TO.sim_refl _, trivial⟩ (lifted (L := [(47, F47c a47c)]) (rc := nrc) (fz := nfz) (fn := Tryd.f41) (by kernel_rfl) (by kernel_rfl) (by kernel_rfl) (by kernel_rfl) rfl ?_ ((k41c47 a47c N _ _ _ _ _ _ _).trans hN) ?_)
    · intro p hp; simp only [List.mem_cons, List.not_mem_nil, or_false] at hp; rcases hp with rfl; exact h47c
    · intro l o hd
      simp only [dec41c47] at hd
      split at hd
      · obtain rfl := Option.some.inj hd; exact ⟨rfl, rfl⟩
      · cases hd
  · cases hx
def E11 (a15 : Y15) (a18 : Y18) (a20 : Y20) (a40 : Y40) (a41c47 : Y41c47) (a44 : Y44) : Env := mkE TI TY [(15, F15 a15), (18, F18 a18), (20, F20 a20), (40, F40 a40), (41, F41c47 a41c47), (44, F44 a44)] (fun i => ([(16, [some (.arr 0 (.sl (.int .i64)))]), (17, [some (.arr 0 (.sl (.int .i64)))])] : List (Nat × List (Option DT))).lookup i) nfz
noncomputable def c11 : Code := bodyOf Tryd.f11
def nm11_0 : Norm := ⟨[3, 11, 13, 14, 23, 24, 102, 103], [11, 13, 14, 100], [], []⟩
def lv11 : Nat → Option Norm := norms [(14, nm11_0)]
def en11 : End := ⟨[], ⟨[130], [], [], []⟩⟩
def dec11 (l : List TV) (o : List (Nat × TO)) : Option (Bool) := match l, o with | [.dv (.bool) x0], [] => some (x0) | _, _ => none
def Sl11a (mix3 : Int) (by4 : List Int) (r2 : List (List Int) × List (List Int) × List Cd × Int × Int × Int) (t103_a : Int) (o100_a : List Int) : TS := ⟨slots 130 [(3, .dv (.int .u8) mix3), (11, .ptr 11 0 []), (13, .ptr 13 0 [0]), (14, .ptr 14 0 [0]), (23, .dv (.sl (.int .i64)) (r2.2.1.getD ((Int.tmod (w64 (by4.getD 1 (0 : Int))) (r2.2.1.length : Int)).toNat) ([] : List Int))), (24, .row 100), (102, .dv (.int .i64) ((([] : List Int) ++ (r2.1.getD ((Int.tmod (w64 (by4.getD 0 (0 : Int))) (r2.1.length : Int)).toNat) ([] : List Int))).length : Int)), (103, .dv (.int .i64) t103_a)], [(11, .row (.pair (.int .i64) (.pair (.sl (.sl (.int .i64))) (.unit))) r2.2.2.1), (13, .rcd [.dv (.int .i64) r2.2.2.2.1]), (14, .rcd [.dv (.int .i64) r2.2.2.2.2.2]), (100, .row (.int .i64) o100_a)]⟩
noncomputable def K11_0 (a15 : Y15) (a18 : Y18) (a20 : Y20) (a40 : Y40) (a41c47 : Y41c47) (a44 : Y44) (N : Nat) : Kont (Bool) := kont (E11 a15 a18 a20 a40 a41c47 a44) lv11 N c11 [1, 1, 1, 1, 1, 1, 1, 1, 1, 1, 1, 1, 0, 1, 0] (fin TI en11 (resOf Tryd.f11) dec11)
noncomputable def R11_0 (a15 : Y15) (a18 : Y18) (a20 : Y20) (a40 : Y40) (a41c47 : Y41c47) (a44 : Y44) (N : Nat) (m : Nat) : TS → Option (Bool) := loopK (den (E11 a15 a18 a20 a40 a41c47 a44) lv11 N (sub c11 [1, 1, 1, 1, 1, 1, 1, 1, 1, 1, 1, 1, 0, 1, 0, 0])) (TS.norm nm11_0) (K11_0 a15 a18 a20 a40 a41c47 a44 N) m
def l11a (a15 : Y15) (a18 : Y18) (a20 : Y20) (a40 : Y40) (a41c47 : Y41c47) (a44 : Y44) (N : Nat) (mix3 : Int) (by4 : List Int) (r2 : List (List Int) × List (List Int) × List Cd × Int × Int × Int) : Nat → Int → (List Int) → Option (Bool)
  | 0, _, _ => none
  | n + 1, t103_a, o100_a => cond (decide (t103_a < ((([] : List Int) ++ (r2.1.getD ((Int.tmod (w64 (by4.getD 0 (0 : Int))) (r2.1.length : Int)).toNat) ([] : List Int))).length : Int))) (chk (decide (0 ≤ t103_a)) (cond ((bAnd .u8 (Int.fdiv mix3 (2 ^ min (Int.toNat t103_a) 8)) (1 : Int)) == (1 : Int)) (chk (decide (0 ≤ t103_a ∧ t103_a < ((r2.2.1.getD ((Int.tmod (w64 (by4.getD 1 (0 : Int))) (r2.2.1.length : Int)).toNat) ([] : List Int)).length : Int))) (chk (decide (0 ≤ t103_a ∧ t103_a < (o100_a.length : Int))) ((l11a a15 a18 a20 a40 a41c47 a44 N mix3 by4 r2 n (w64 (t103_a + (1 : Int))) (o100_a.set t103_a.toNat ((r2.2.1.getD ((Int.tmod (w64 (by4.getD 1 (0 : Int))) (r2.2.1.length : Int)).toNat) ([] : List Int)).getD t103_a.toNat (0 : Int)))))))
      ((l11a a15 a18 a20 a40 a41c47 a44 N mix3 by4 r2 n (w64 (t103_a + (1 : Int))) o100_a))))
      ((a44 (bOr .i64 r2.2.2.2.1 r2.2.2.2.2.2)).bind fun r7 =>
      (a20 (r2.2.2.1.getD 0 ((0 : Int), (([] : List (List Int)), ()))) r7 o100_a).bind fun r8 =>
      cond (r8 == (0 : Int)) ((a15).bind fun r9 =>
      some r9)
      (some false))
theorem wl11a (a15 : Y15) (a18 : Y18) (a20 : Y20) (a40 : Y40) (a41c47 : Y41c47) (a44 : Y44) (N : Nat) (mix3 : Int) (by4 : List Int) (r2 : List (List Int) × List (List Int) × List Cd × Int × Int × Int) (m : Nat) (t103_a : Int) (o100_a : List Int) : R11_0 a15 a18 a20 a40 a41c47 a44 N (m + 1) (Sl11a mix3 by4 r2 t103_a o100_a) = cond (decide (t103_a < ((([] : List Int) ++ (r2.1.getD ((Int.tmod (w64 (by4.getD 0 (0 : Int))) (r2.1.length : Int)).toNat) ([] : List Int))).length : Int))) (chk (decide (0 ≤ t103_a)) (cond ((bAnd .u8 (Int.fdiv mix3 (2 ^ min (Int.toNat t103_a) 8)) (1 : Int)) == (1 : Int)) (chk (decide (0 ≤ t103_a ∧ t103_a < ((r2.2.1.getD ((Int.tmod (w64 (by4.getD 1 (0 : Int))) (r2.2.1.length : Int)).toNat) ([] : List Int)).length : Int))) (chk (decide (0 ≤ t103_a ∧ t103_a < (o100_a.length : Int))) ((R11_0 a15 a18 a20 a40 a41c47 a44 N m (Sl11a mix3 by4 r2 (w64 (t103_a + (1 : Int))) (o100_a.set t103_a.toNat ((r2.2.1.getD ((Int.tmod (w64 (by4.getD 1 (0 : Int))) (r2.2.1.length : Int)).toNat) ([] : List Int)).getD t103_a.toNat (0 : Int))))))))
      ((R11_0 a15 a18 a20 a40 a41c47 a44 N m (Sl11a mix3 by4 r2 (w64 (t103_a + (1 : Int))) o100_a)))))
      ((a44 (bOr .i64 r2.2.2.2.1 r2.2.2.2.2.2)).bind fun r7 =>
      (a20 (r2.2.2.1.getD 0 ((0 : Int), (([] : List (List Int)), ()))) r7 o100_a).bind fun r8 =>
      cond (r8 == (0 : Int)) ((a15).bind fun r9 =>
      some r9)
      (some false)) := by kernel_rfl
theorem ql11a (a15 : Y15) (a18 : Y18) (a20 : Y20) (a40 : Y40) (a41c47 : Y41c47) (a44 : Y44) (N : Nat) (mix3 : Int) (by4 : List Int) (r2 : List (List Int) × List (List Int) × List Cd × Int × Int × Int) : ∀ (m : Nat) (t103_a : Int) (o100_a : List Int), R11_0 a15 a18 a20 a40 a41c47 a44 N m (Sl11a mix3 by4 r2 t103_a o100_a) = l11a a15 a18 a20 a40 a41c47 a44 N mix3 by4 r2 m t103_a o100_a
        | 0, _, _ => rfl
        | m + 1, t103_a, o100_a => by rw [wl11a]; simp only [l11a, ql11a a15 a18 a20 a40 a41c47 a44 N mix3 by4 r2 m]
def m11 (a15 : Y15) (a18 : Y18) (a20 : Y20) (a40 : Y40) (a41c47 : Y41c47) (a44 : Y44) (N : Nat) (s0 : Int × Int × List (List Int) × Unit) (one1 : Int) (two2 : Int) (mix3 : Int) (by4 : List Int) : Option (Bool) :=
      (a40 s0).bind fun r1 =>
      chk (decide (0 ≤ (r1.2.1.length : Int))) (chk (decide (w64 ((IntKind.wrap .i64 ((1 : Int) * 2 ^ min (Int.toNat (r1.2.1.length : Int)) 64)) - (1 : Int)) ≠ (0 : Int))) (chk (decide (0 ≤ (r1.2.1.length : Int))) (chk (decide (w64 ((IntKind.wrap .i64 ((1 : Int) * 2 ^ min (Int.toNat (r1.2.1.length : Int)) 64)) - (1 : Int)) ≠ (0 : Int))) ((a41c47 r1 ([r1] : List Cd) (w64 ((1 : Int) + (Int.tmod (w64 (one1)) (w64 ((IntKind.wrap .i64 ((1 : Int) * 2 ^ min (Int.toNat (r1.2.1.length : Int)) 64)) - (1 : Int)))))) (0 : Int) (w64 ((1 : Int) + (Int.tmod (w64 (two2)) (w64 ((IntKind.wrap .i64 ((1 : Int) * 2 ^ min (Int.toNat (r1.2.1.length : Int)) 64)) - (1 : Int)))))) ([] : List (List Int)) ([] : List (List Int))).bind fun r2 =>
      (a44 r2.2.2.2.1).bind fun r3 =>
      (a18 (r2.2.2.1.getD 0 ((0 : Int), (([] : List (List Int)), ()))) r3).bind fun r4 =>
      (a44 (bOr .i64 r2.2.2.2.1 r2.2.2.2.2.2)).bind fun r5 =>
      (a18 (r2.2.2.1.getD 0 ((0 : Int), (([] : List (List Int)), ()))) r5).bind fun r6 =>
      cond (r4.2 != (0 : Int)) (some false)
      (cond (r6.2 != (0 : Int)) (some false)
      (cond (r4.1 != r2.2.2.2.2.1) (some false)
      (cond (decide (r6.1 < r4.1)) (some false)
      (chk (decide ((r2.1.length : Int) ≠ (0 : Int))) (chk (decide (0 ≤ Int.tmod (w64 (by4.getD 0 (0 : Int))) (r2.1.length : Int) ∧ Int.tmod (w64 (by4.getD 0 (0 : Int))) (r2.1.length : Int) < (r2.1.length : Int))) (chk (decide ((r2.2.1.length : Int) ≠ (0 : Int))) (chk (decide (0 ≤ Int.tmod (w64 (by4.getD 1 (0 : Int))) (r2.2.1.length : Int) ∧ Int.tmod (w64 (by4.getD 1 (0 : Int))) (r2.2.1.length : Int) < (r2.2.1.length : Int))) (chk (small (0 + (r2.1.getD ((Int.tmod (w64 (by4.getD 0 (0 : Int))) (r2.1.length : Int)).toNat) ([] : List Int)).length) 8) ((l11a a15 a18 a20 a40 a41c47 a44 N mix3 by4 r2 N (0 : Int) (([] : List Int) ++ (r2.1.getD ((Int.tmod (w64 (by4.getD 0 (0 : Int))) (r2.1.length : Int)).toNat) ([] : List Int)))))))))))))))))
theorem wm11 (a15 : Y15) (a18 : Y18) (a20 : Y20) (a40 : Y40) (a41c47 : Y41c47) (a44 : Y44) (N : Nat) (s0 : Int × Int × List (List Int) × Unit) (one1 : Int) (two2 : Int) (mix3 : Int) (by4 : List Int) : callF (E11 a15 a18 a20 a40 a41c47 a44) lv11 N en11 c11 (resOf Tryd.f11) 125 [.dv (.pair (.int .u8) (.pair (.int .u8) (.pair (.sl (.arr 4 (.int .u8))) (.unit)))) s0, .dv (.int .u8) one1, .dv (.int .u8) two2, .dv (.int .u8) mix3, .dv (.arr 2 (.int .u8)) by4] [] dec11 = (a40 s0).bind fun r1 =>
      chk (decide (0 ≤ (r1.2.1.length : Int))) (chk (decide (w64 ((IntKind.wrap .i64 ((1 : Int) * 2 ^ min (Int.toNat (r1.2.1.length : Int)) 64)) - (1 : Int)) ≠ (0 : Int))) (chk (decide (0 ≤ (r1.2.1.length : Int))) (chk (decide (w64 ((IntKind.wrap .i64 ((1 : Int) * 2 ^ min (Int.toNat (r1.2.1.length : Int)) 64)) - (1 : Int)) ≠ (0 : Int))) ((a41c47 r1 ([r1] : List Cd) (w64 ((1 : Int) + (Int.tmod (w64 (one1)) (w64 ((IntKind.wrap .i64 ((1 : Int) * 2 ^ min (Int.toNat (r1.2.1.length : Int)) 64)) - (1 : Int)))))) (0 : Int) (w64 ((1 : Int) + (Int.tmod (w64 (two2)) (w64 ((IntKind.wrap .i64 ((1 : Int) * 2 ^ min (Int.toNat (r1.2.1.length : Int)) 64)) - (1 : Int)))))) ([] : List (List Int)) ([] : List (List Int))).bind fun r2 =>
      (a44 r2.2.2.2.1).bind fun r3 =>
      (a18 (r2.2.2.1.getD 0 ((0 : Int), (([] : List (List Int)), ()))) r3).bind fun r4 =>
      (a44 (bOr .i64 r2.2.2.2.1 r2.2.2.2.2.2)).bind fun r5 =>
      (a18 (r2.2.2.1.getD 0 ((0 : Int), (([] : List (List Int)), ()))) r5).bind fun r6 =>
      cond (r4.2 != (0 : Int)) (some false)
      (cond (r6.2 != (0 : Int)) (some false)
      (cond (r4.1 != r2.2.2.2.2.1) (some false)
      (cond (decide (r6.1 < r4.1)) (some false)
      (chk (decide ((r2.1.length : Int) ≠ (0 : Int))) (chk (decide (0 ≤ Int.tmod (w64 (by4.getD 0 (0 : Int))) (r2.1.length : Int) ∧ Int.tmod (w64 (by4.getD 0 (0 : Int))) (r2.1.length : Int) < (r2.1.length : Int))) (chk (decide ((r2.2.1.length : Int) ≠ (0 : Int))) (chk (decide (0 ≤ Int.tmod (w64 (by4.getD 1 (0 : Int))) (r2.2.1.length : Int) ∧ Int.tmod (w64 (by4.getD 1 (0 : Int))) (r2.2.1.length : Int) < (r2.2.1.length : Int))) (chk (small (0 + (r2.1.getD ((Int.tmod (w64 (by4.getD 0 (0 : Int))) (r2.1.length : Int)).toNat) ([] : List Int)).length) 8) ((R11_0 a15 a18 a20 a40 a41c47 a44 N N (Sl11a mix3 by4 r2 (0 : Int) (([] : List Int) ++ (r2.1.getD ((Int.tmod (w64 (by4.getD 0 (0 : Int))) (r2.1.length : Int)).toNat) ([] : List Int)))))))))))))))))) := by kernel_rfl
theorem k11 (a15 : Y15) (a18 : Y18) (a20 : Y20) (a40 : Y40) (a41c47 : Y41c47) (a44 : Y44) (N : Nat) (s0 : Int × Int × List (List Int) × Unit) (one1 : Int) (two2 : Int) (mix3 : Int) (by4 : List Int) : callF (E11 a15 a18 a20 a40 a41c47 a44) lv11 N en11 c11 (resOf Tryd.f11) 125 [.dv (.pair (.int .u8) (.pair (.int .u8) (.pair (.sl (.arr 4 (.int .u8))) (.unit)))) s0, .dv (.int .u8) one1, .dv (.int .u8) two2, .dv (.int .u8) mix3, .dv (.arr 2 (.int .u8)) by4] [] dec11 = m11 a15 a18 a20 a40 a41c47 a44 N s0 one1 two2 mix3 by4 := by rw [wm11]; simp only [m11, ql11a]
theorem ok11 (a15 : Y15) (a18 : Y18) (a20 : Y20) (a40 : Y40) (a41c47 : Y41c47) (a44 : Y44) (h15 : FnOk Tryd.prog 15 (F15 a15)) (h18 : FnOk Tryd.prog 18 (F18 a18)) (h20 : FnOk Tryd.prog 20 (F20 a20)) (h40 : FnOk Tryd.prog 40 (F40 a40)) (h41c47 : FnOk Tryd.prog 41 (F41c47 a41c47)) (h44 : FnOk Tryd.prog 44 (F44 a44)) (a : Y11) (h : ∀ s0 one1 two2 mix3 by4 r, a s0 one1 two2 mix3 by4 = some r → (∃ N, m11 a15 a18 a20 a40 a41c47 a44 N s0 one1 two2 mix3 by4 = some r)) : FnOk Tryd.prog 11 (F11 a) := by
  intro args Of x hx
  simp only [F11] at hx
  split at hx
  · rename_i s0 one1 two2 mix3 by4
    obtain ⟨N, hN⟩ := h _ _ _ _ _ _ hx
    refine lifted (L := [(15, F15 a15), (18, F18 a18), (20, F20 a20), (40, F40 a40), (41, F41c47 a41c47), (44, F44 a44)]) (rc := (fun i => ([(16, [some (.arr 0 (.sl (.int .i64)))]), (17, [some (.arr 0 (.sl (.int .i64)))])] : List (Nat × List (Option DT))).lookup i)) (fz := nfz) (fn := Tryd.f11) (by kernel_rfl) (by kernel_rfl) (by kernel_rfl) (by kernel_rfl) rfl ?_ ((k11 a15 a18 a20 a40 a41c47 a44 N _ _ _ _ _).trans hN) ?_
    · intro p hp; simp only [List.mem_cons, List.not_mem_nil, or_false] at hp; rcases hp with rfl | rfl | rfl | rfl | rfl | rfl
      · exact h15
      · exact h18
      · exact h20
      · exact h40
      · exact h41c47
      · exact h44
    · intro l o hd
      simp only [dec11] at hd
      split at hd
      · obtain rfl := Option.some.inj hd; exact ⟨rfl, rfl⟩
      · cases hd
  · cases hx
end Go.Proofs.YtbjfbbfglkmadaaDoor
