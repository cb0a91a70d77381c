/-
  Functions of the law, told as plain functions.
-/
import Derived.Test.YtbjfbbfglkmadaaDoorQFI
namespace Go.Proofs.YtbjfbbfglkmadaaDoor
open Go.RowKit
set_option linter.unusedVariables false
def E42c (a28c : Y28c) (a32 : Y32) (a43 : Y43) (a44 : Y44) : Env := mkE TI TY [(28, F28c a28c), (32, F32 a32), (43, F43 a43), (44, F44 a44)] nrc nfz
noncomputable def c42c : Code := bodyOf Tryd.f42
def lv42c : Nat → Option Norm := norms []
def en42c : End := ⟨[], ⟨[], [9000, 9001, 9002, 9003], [], []⟩⟩
def dec42c (l : List TV) (o : List (Nat × TO)) : Option (List Int × List Cd × Bool × Bool) := match l, o with | [], [(9000, .row (.int .i64) x0), (9001, .row (.pair (.int .i64) (.pair (.sl (.sl (.int .i64))) (.unit))) x1), (9002, .rcd [.dv (.bool) x2]), (9003, .rcd [.dv (.bool) x3])] => some (x0, x1, x2, x3) | _, _ => none
def m42c (a28c : Y28c) (a32 : Y32) (a43 : Y43) (a44 : Y44) (N : Nat) (p0 : List Int) (p1 : List Cd) (p2 : Bool) (p3 : Bool) : Option (List Int × List Cd × Bool × Bool) :=
      (a43 (p1.getD 0 ((0 : Int), (([] : List (List Int)), ()))) p0 (2 : Int)).bind fun r1 =>
      cond (p2) (cond (!r1.2) ((a28c (p1.getD 0 ((0 : Int), (([] : List (List Int)), ()))) (2 : Int) p0).bind fun r2 =>
      cond (!r1.2) (cond (p3) (cond (r2.2.1 == (14 : Int)) (some (r2.2.2, p1, true, (r2.1.length : Int) == (0 : Int)))
      (some (r2.2.2, p1, true, false)))
      (some (r2.2.2, p1, true, false)))
      (cond (p3) (cond (r2.2.1 == (0 : Int)) ((a44 r1.1).bind fun r3 =>
      (a32 r2.1 r3).bind fun r4 =>
      some (r2.2.2, p1, true, r4))
      (some (r2.2.2, p1, true, false)))
      (some (r2.2.2, p1, true, false))))
      ((a28c (p1.getD 0 ((0 : Int), (([] : List (List Int)), ()))) (2 : Int) p0).bind fun r5 =>
      cond (!r1.2) (cond (p3) (cond (r5.2.1 == (14 : Int)) (some (r5.2.2, p1, decide (r1.1 > (0 : Int)), (r5.1.length : Int) == (0 : Int)))
      (some (r5.2.2, p1, decide (r1.1 > (0 : Int)), false)))
      (some (r5.2.2, p1, decide (r1.1 > (0 : Int)), false)))
      (cond (p3) (cond (r5.2.1 == (0 : Int)) ((a44 r1.1).bind fun r6 =>
      (a32 r5.1 r6).bind fun r7 =>
      some (r5.2.2, p1, decide (r1.1 > (0 : Int)), r7))
      (some (r5.2.2, p1, decide (r1.1 > (0 : Int)), false)))
      (some (r5.2.2, p1, decide (r1.1 > (0 : Int)), false)))))
      ((a28c (p1.getD 0 ((0 : Int), (([] : List (List Int)), ()))) (2 : Int) p0).bind fun r8 =>
      cond (!r1.2) (cond (p3) (cond (r8.2.1 == (14 : Int)) (some (r8.2.2, p1, false, (r8.1.length : Int) == (0 : Int)))
      (some (r8.2.2, p1, false, false)))
      (some (r8.2.2, p1, false, false)))
      (cond (p3) (cond (r8.2.1 == (0 : Int)) ((a44 r1.1).bind fun r9 =>
      (a32 r8.1 r9).bind fun r10 =>
      some (r8.2.2, p1, false, r10))
      (some (r8.2.2, p1, false, false)))
      (some (r8.2.2, p1, false, false))))
theorem k42c (a28c : Y28c) (a32 : Y32) (a43 : Y43) (a44 : Y44) (N : Nat) (p0 : List Int) (p1 : List Cd) (p2 : Bool) (p3 : Bool) : callF (E42c a28c a32 a43 a44) lv42c N en42c c42c (resOf Tryd.f42) 49 [.row 9000, .ptr 9001 0 [], .ptr 9002 0 [0], .ptr 9003 0 [0]] [(9000, .row (.int .i64) p0), (9001, .row (.pair (.int .i64) (.pair (.sl (.sl (.int .i64))) (.unit))) p1), (9002, .rcd [.dv (.bool) p2]), (9003, .rcd [.dv (.bool) p3])] dec42c = m42c a28c a32 a43 a44 N p0 p1 p2 p3 := by kernel_rfl
theorem ok42c (a28c : Y28c) (a32 : Y32) (a43 : Y43) (a44 : Y44) (h28c : FnOk Tryd.prog 28 (F28c a28c)) (h32 : FnOk Tryd.prog 32 (F32 a32)) (h43 : FnOk Tryd.prog 43 (F43 a43)) (h44 : FnOk Tryd.prog 44 (F44 a44)) (a : Y42c) (h : ∀ p0 p1 p2 p3 r, a p0 p1 p2 p3 = some r → (∃ N, m42c a28c a32 a43 a44 N p0 p1 p2 p3 = some r)) : FnOk Tryd.prog 42 (F42c a) := by
  intro args Of x hx
  simp only [F42c] at hx
  split at hx
  · rename_i p0 p1 p2 p3
    obtain ⟨N, hN⟩ := h _ _ _ _ _ hx
    refine lifted (L := [(28, F28c a28c), (32, F32 a32), (43, F43 a43), (44, F44 a44)]) (rc := nrc) (fz := nfz) (fn := Tryd.f42) (by kernel_rfl) (by kernel_rfl) (by kernel_rfl) (by kernel_rfl) rfl ?_ ((k42c a28c a32 a43 a44 N _ _ _ _).trans hN) ?_
    · intro p hp; simp only [List.mem_cons, List.not_mem_nil, or_false] at hp; rcases hp with rfl | rfl | rfl | rfl
      · exact h28c
      · exact h32
      · exact h43
      · exact h44
    · intro l o hd
      simp only [dec42c] at hd
      split at hd
      · obtain rfl := Option.some.inj hd; exact ⟨rfl, rfl⟩
      · cases hd
  · cases hx
def E41c42 (a42c : Y42c) : Env := mkE TI TY [(42, F42c a42c)] nrc nfz
noncomputable def c41c42 : Code := bodyOf Tryd.f41
def nm41c42_0 : Norm := ⟨[1, 2, 4], [9000, 9001, 9002, 2, 11], [], []⟩
def nm41c42_1 : Norm := ⟨[1, 2, 4, 5], [9000, 9001, 9002, 2, 11], [], []⟩
def lv41c42 : Nat → Option Norm := norms [(2, nm41c42_0), (4, nm41c42_1)]
def en41c42 : End := ⟨[], ⟨[], [9000, 9001, 9002], [], []⟩⟩
def dec41c42 (l : List TV) (o : List (Nat × TO)) : Option (List Cd × Bool × Bool) := match l, o with | [], [(9000, .row (.pair (.int .i64) (.pair (.sl (.sl (.int .i64))) (.unit))) x0), (9001, .rcd [.dv (.bool) x1]), (9002, .rcd [.dv (.bool) x2])] => some (x0, x1, x2) | _, _ => none
def Sl41c42b (c0 : Int × List (List Int) × Unit) (r1 : List Int × List Cd × Bool × Bool) (k5_b : Int) (o11_b : List Int) : TS := ⟨slots 44 [(1, .fn 42 0 3 fun i => ([.ptr 9000 0 [], .ptr 9001 0 [0], .ptr 9002 0 [0]] : List TV).getD i .any), (2, .ptr 2 0 []), (4, .row 11), (5, .dv (.int .i64) k5_b)], [(9000, .row (.pair (.int .i64) (.pair (.sl (.sl (.int .i64))) (.unit))) r1.2.1), (9001, .rcd [.dv (.bool) r1.2.2.1]), (9002, .rcd [.dv (.bool) r1.2.2.2]), (2, .row (.pair (.int .i64) (.pair (.sl (.sl (.int .i64))) (.unit))) ([c0] : List Cd)), (11, .row (.int .i64) o11_b)]⟩
def Sl41c42a (c0 : Int × List (List Int) × Unit) (o9000_a : List Cd) (o9001_af0 : Bool) (o9002_af0 : Bool) (o11_a : List Int) : TS := ⟨slots 44 [(1, .fn 42 0 3 fun i => ([.ptr 9000 0 [], .ptr 9001 0 [0], .ptr 9002 0 [0]] : List TV).getD i .any), (2, .ptr 2 0 []), (4, .row 11)], [(9000, .row (.pair (.int .i64) (.pair (.sl (.sl (.int .i64))) (.unit))) o9000_a), (9001, .rcd [.dv (.bool) o9001_af0]), (9002, .rcd [.dv (.bool) o9002_af0]), (2, .row (.pair (.int .i64) (.pair (.sl (.sl (.int .i64))) (.unit))) ([c0] : List Cd)), (11, .row (.int .i64) o11_a)]⟩
noncomputable def K41c42_0 (a42c : Y42c) (N : Nat) : Kont (List Cd × Bool × Bool) := kont (E41c42 a42c) lv41c42 N c41c42 [1, 1, 0] (fin TI en41c42 (resOf Tryd.f41) dec41c42)
noncomputable def R41c42_0 (a42c : Y42c) (N : Nat) (m : Nat) : TS → Option (List Cd × Bool × Bool) := loopK (den (E41c42 a42c) lv41c42 N (sub c41c42 [1, 1, 0, 0])) (TS.norm nm41c42_0) (K41c42_0 a42c N) m
noncomputable def K41c42_1 (a42c : Y42c) (N : Nat) (T41c42_0 : TS → Option (List Cd × Bool × Bool)) : Kont (List Cd × Bool × Bool) := kont (E41c42 a42c) lv41c42 N (sub c41c42 [1, 1, 0, 0]) [0, 1, 1, 0, 0] (kloop (TS.norm nm41c42_0) (K41c42_0 a42c N) T41c42_0)
noncomputable def R41c42_1 (a42c : Y42c) (N : Nat) (T41c42_0 : TS → Option (List Cd × Bool × Bool)) (m : Nat) : TS → Option (List Cd × Bool × Bool) := loopK (den (E41c42 a42c) lv41c42 N (sub c41c42 [1, 1, 0, 0, 0, 1, 1, 0, 0, 0])) (TS.norm nm41c42_1) (K41c42_1 a42c N T41c42_0) m
def l41c42b (a42c : Y42c) (N : Nat) (c0 : Int × List (List Int) × Unit) (r1 : List Int × List Cd × Bool × Bool) (rec_l41c42a : (List Cd) → Bool → Bool → (List Int) → Option (List Cd × Bool × Bool)) : Nat → Int → (List Int) → Option (List Cd × Bool × Bool)
  | 0, _, _ => none
  | n + 1, k5_b, o11_b => cond (decide (k5_b < (o11_b.length : Int))) (chk (decide (0 ≤ k5_b ∧ k5_b < (o11_b.length : Int))) (cond ((o11_b.getD k5_b.toNat (0 : Int)) == (w64 (c0.1 - (1 : Int)))) (chk (decide (0 ≤ k5_b ∧ k5_b < (o11_b.length : Int))) ((l41c42b a42c N c0 r1 rec_l41c42a n (w64 (k5_b + (1 : Int))) (o11_b.set k5_b.toNat (0 : Int)))))
      (cond (k5_b == (o11_b.length : Int)) (some (r1.2.1, r1.2.2.1, r1.2.2.2))
      (chk (decide (0 ≤ k5_b ∧ k5_b < (o11_b.length : Int))) (chk (decide (0 ≤ k5_b ∧ k5_b < (o11_b.length : Int))) ((rec_l41c42a r1.2.1 r1.2.2.1 r1.2.2.2 (o11_b.set k5_b.toNat (w64 ((o11_b.getD k5_b.toNat (0 : Int)) + (1 : Int)))))))))))
      (cond (k5_b == (o11_b.length : Int)) (some (r1.2.1, r1.2.2.1, r1.2.2.2))
      (chk (decide (0 ≤ k5_b ∧ k5_b < (o11_b.length : Int))) (chk (decide (0 ≤ k5_b ∧ k5_b < (o11_b.length : Int))) ((rec_l41c42a r1.2.1 r1.2.2.1 r1.2.2.2 (o11_b.set k5_b.toNat (w64 ((o11_b.getD k5_b.toNat (0 : Int)) + (1 : Int)))))))))
theorem wl41c42b (a42c : Y42c) (N : Nat) (c0 : Int × List (List Int) × Unit) (r1 : List Int × List Cd × Bool × Bool) (T41c42_0 : TS → Option (List Cd × Bool × Bool)) (m : Nat) (k5_b : Int) (o11_b : List Int) : R41c42_1 a42c N T41c42_0 (m + 1) (Sl41c42b c0 r1 k5_b o11_b) = cond (decide (k5_b < (o11_b.length : Int))) (chk (decide (0 ≤ k5_b ∧ k5_b < (o11_b.length : Int))) (cond ((o11_b.getD k5_b.toNat (0 : Int)) == (w64 (c0.1 - (1 : Int)))) (chk (decide (0 ≤ k5_b ∧ k5_b < (o11_b.length : Int))) ((R41c42_1 a42c N T41c42_0 m (Sl41c42b c0 r1 (w64 (k5_b + (1 : Int))) (o11_b.set k5_b.toNat (0 : Int))))))
      (cond (k5_b == (o11_b.length : Int)) (some (r1.2.1, r1.2.2.1, r1.2.2.2))
      (chk (decide (0 ≤ k5_b ∧ k5_b < (o11_b.length : Int))) (chk (decide (0 ≤ k5_b ∧ k5_b < (o11_b.length : Int))) ((T41c42_0 (Sl41c42a c0 r1.2.1 r1.2.2.1 r1.2.2.2 (o11_b.set k5_b.toNat (w64 ((o11_b.getD k5_b.toNat (0 : Int)) + (1 : Int))))))))))))
      (cond (k5_b == (o11_b.length : Int)) (some (r1.2.1, r1.2.2.1, r1.2.2.2))
      (chk (decide (0 ≤ k5_b ∧ k5_b < (o11_b.length : Int))) (chk (decide (0 ≤ k5_b ∧ k5_b < (o11_b.length : Int))) ((T41c42_0 (Sl41c42a c0 r1.2.1 r1.2.2.1 r1.2.2.2 (o11_b.set k5_b.toNat (w64 ((o11_b.getD k5_b.toNat (0 : Int)) + (1 : Int)))))))))) := by kernel_rfl
theorem ql41c42b (a42c : Y42c) (N : Nat) (c0 : Int × List (List Int) × Unit) (r1 : List Int × List Cd × Bool × Bool) (T41c42_0 : TS → Option (List Cd × Bool × Bool)) : ∀ (m : Nat) (k5_b : Int) (o11_b : List Int), R41c42_1 a42c N T41c42_0 m (Sl41c42b c0 r1 k5_b o11_b) = l41c42b a42c N c0 r1 (fun y0 y1 y2 y3 => T41c42_0 (Sl41c42a c0 y0 y1 y2 y3)) m k5_b o11_b
        | 0, _, _ => rfl
        | m + 1, k5_b, o11_b => by rw [wl41c42b]; simp only [l41c42b, ql41c42b a42c N c0 r1 T41c42_0 m]
def l41c42a (a42c : Y42c) (N : Nat) (c0 : Int × List (List Int) × Unit) : Nat → (List Cd) → Bool → Bool → (List Int) → Option (List Cd × Bool × Bool)
  | 0, _, _, _, _ => none
  | n + 1, o9000_a, o9001_af0, o9002_af0, o11_a => (a42c o11_a o9000_a o9001_af0 o9002_af0).bind fun r1 =>
      (l41c42b a42c N c0 r1 (fun y0 y1 y2 y3 => (l41c42a a42c N c0 n y0 y1 y2 y3)) N (0 : Int) r1.1)
theorem wl41c42a (a42c : Y42c) (N : Nat) (c0 : Int × List (List Int) × Unit) (m : Nat) (o9000_a : List Cd) (o9001_af0 : Bool) (o9002_af0 : Bool) (o11_a : List Int) : R41c42_0 a42c N (m + 1) (Sl41c42a c0 o9000_a o9001_af0 o9002_af0 o11_a) = (a42c o11_a o9000_a o9001_af0 o9002_af0).bind fun r1 =>
      (R41c42_1 a42c N (R41c42_0 a42c N m) N (Sl41c42b c0 r1 (0 : Int) r1.1)) := by kernel_rfl
theorem ql41c42a (a42c : Y42c) (N : Nat) (c0 : Int × List (List Int) × Unit) : ∀ (m : Nat) (o9000_a : List Cd) (o9001_af0 : Bool) (o9002_af0 : Bool) (o11_a : List Int), R41c42_0 a42c N m (Sl41c42a c0 o9000_a o9001_af0 o9002_af0 o11_a) = l41c42a a42c N c0 m o9000_a o9001_af0 o9002_af0 o11_a
        | 0, _, _, _, _ => rfl
        | m + 1, o9000_a, o9001_af0, o9002_af0, o11_a => by rw [wl41c42a]; simp only [l41c42a, ql41c42b, ql41c42a a42c N c0 m]
def m41c42 (a42c : Y42c) (N : Nat) (c0 : Int × List (List Int) × Unit) (p1 : List Cd) (p2 : Bool) (p3 : Bool) : Option (List Cd × Bool × Bool) :=
      chk (decide (0 ≤ (0 : Int) ∧ (0 : Int) < (c0.2.1.length : Int))) (chk (mkOk ((c0.2.1.getD 0 ([] : List Int)).length : Int) ((c0.2.1.getD 0 ([] : List Int)).length : Int) 8) ((l41c42a a42c N c0 N p1 p2 p3 (List.replicate (((c0.2.1.getD 0 ([] : List Int)).length : Int).toNat) (0 : Int)))))
theorem wm41c42 (a42c : Y42c) (N : Nat) (c0 : Int × List (List Int) × Unit) (p1 : List Cd) (p2 : Bool) (p3 : Bool) : callF (E41c42 a42c) lv41c42 N en41c42 c41c42 (resOf Tryd.f41) 42 [.dv (.pair (.int .i64) (.pair (.sl (.sl (.int .i64))) (.unit))) c0, .fn 42 0 3 fun i => ([.ptr 9000 0 [], .ptr 9001 0 [0], .ptr 9002 0 [0]] : List TV).getD i .any] [(9000, .row (.pair (.int .i64) (.pair (.sl (.sl (.int .i64))) (.unit))) p1), (9001, .rcd [.dv (.bool) p2]), (9002, .rcd [.dv (.bool) p3])] dec41c42 = chk (decide (0 ≤ (0 : Int) ∧ (0 : Int) < (c0.2.1.length : Int))) (chk (mkOk ((c0.2.1.getD 0 ([] : List Int)).length : Int) ((c0.2.1.getD 0 ([] : List Int)).length : Int) 8) ((R41c42_0 a42c N N (Sl41c42a c0 p1 p2 p3 (List.replicate (((c0.2.1.getD 0 ([] : List Int)).length : Int).toNat) (0 : Int)))))) := by kernel_rfl
theorem k41c42 (a42c : Y42c) (N : Nat) (c0 : Int × List (List Int) × Unit) (p1 : List Cd) (p2 : Bool) (p3 : Bool) : callF (E41c42 a42c) lv41c42 N en41c42 c41c42 (resOf Tryd.f41) 42 [.dv (.pair (.int .i64) (.pair (.sl (.sl (.int .i64))) (.unit))) c0, .fn 42 0 3 fun i => ([.ptr 9000 0 [], .ptr 9001 0 [0], .ptr 9002 0 [0]] : List TV).getD i .any] [(9000, .row (.pair (.int .i64) (.pair (.sl (.sl (.int .i64))) (.unit))) p1), (9001, .rcd [.dv (.bool) p2]), (9002, .rcd [.dv (.bool) p3])] dec41c42 = m41c42 a42c N c0 p1 p2 p3 := by rw [wm41c42]; simp only [m41c42, ql41c42a]
theorem ok41c42 (a42c : Y42c) (h42c : FnOk Tryd.prog 42 (F42c a42c)) (a : Y41c42) (h : ∀ c0 p1 p2 p3 r, a c0 p1 p2 p3 = some r → (∃ N, m41c42 a42c N c0 p1 p2 p3 = some r)) : FnOk Tryd.prog 41 (F41c42 a) := by
  intro args Of x hx
  simp only [F41c42] at hx
  split at hx
  · rename_i c0 f_0 p1 p2 p3 heqc
    have hc0 := congrArg (fun c : List (List TV) => c.getD 0 []) heqc
    obtain ⟨N, hN⟩ := h _ _ _ _ _ hx
    refine HSpec.etaL (args := [.dv (.pair (.int .i64) (.pair (.sl (.sl (.int .i64))) (.unit))) c0, .fn 42 0 3 fun i => ([.ptr 9000 0 [], .ptr 9001 0 [0], .ptr 9002 0 [0]] : List TV).getD i .any]) (O := [(9000, .row (.pair (.int .i64) (.pair (.sl (.sl (.int .i64))) (.unit))) p1), (9001, .rcd [.dv (.bool) p2]), (9002, .rcd [.dv (.bool) p3])]) ⟨TV.sim_refl _, TV.sim_fn hc0, trivial⟩ ⟨rfl, TO.sim_refl _, rfl, TO.sim_refl _, rfl, TO.sim_refl _, trivial⟩ (lifted (L := [(42, F42c a42c)]) (rc := nrc) (fz := nfz) (fn := Tryd.f41) (by kernel_rfl) (by kernel_rfl) (by kernel_rfl) (by kernel_rfl) rfl ?_ ((k41c42 a42c N _ _ _ _).trans hN) ?_)
    · intro p hp; simp only [List.mem_cons, List.not_mem_nil, or_false] at hp; rcases hp with rfl; exact h42c
    · intro l o hd
      simp only [dec41c42] at hd
      split at hd
      · obtain rfl := Option.some.inj hd; exact ⟨rfl, rfl⟩
      · cases hd
  · cases hx
def E7 (a15 : Y15) (a36 : Y36) (a38 : Y38) (a40 : Y40) (a41c42 : Y41c42) (a45 : Y45) : Env := mkE TI TY [(15, F15 a15), (36, F36 a36), (38, F38 a38), (40, F40 a40), (41, F41c42 a41c42), (45, F45 a45)] nrc nfz
noncomputable def c7 : Code := bodyOf Tryd.f7
def nm7_0 : Norm := ⟨[3, 6, 8, 86, 87, 88], [3, 6], [], []⟩
def nm7_1 : Norm := ⟨[3, 6, 8, 10, 11, 86, 87, 88, 92, 93, 94], [3, 6], [], []⟩
def lv7 : Nat → Option Norm := norms [(11, nm7_0), (15, nm7_1)]
def en7 : End := ⟨[], ⟨[137], [], [], []⟩⟩
def dec7 (l : List TV) (o : List (Nat × TO)) : Option (Bool) := match l, o with | [.dv (.bool) x0], [] => some (x0) | _, _ => none
def Sl7b (r2 : List Cd × Bool × Bool) (r3 : Db × Int) (common8_a : Int) (t88_a : Int) (set11_b : Int) (t94_b : Int) : TS := ⟨slots 137 [(3, .ptr 3 0 []), (6, .ptr 6 0 []), (8, .dv (.int .i64) common8_a), (10, .dv (.sl (.int .i64)) (r3.1.2.1.getD t88_a.toNat ([] : List Int))), (11, .dv (.int .i64) set11_b), (86, .dv (.sl (.sl (.int .i64))) r3.1.2.1), (87, .dv (.int .i64) (r3.1.2.1.length : Int)), (88, .dv (.int .i64) t88_a), (92, .dv (.sl (.int .i64)) (r3.1.2.1.getD t88_a.toNat ([] : List Int))), (93, .dv (.int .i64) ((r3.1.2.1.getD t88_a.toNat ([] : List Int)).length : Int)), (94, .dv (.int .i64) t94_b)], [(3, .row (.pair (.int .i64) (.pair (.sl (.sl (.int .i64))) (.unit))) r2.1), (6, .row (.pair (.sl (.int .i64)) (.pair (.sl (.sl (.int .i64))) (.unit))) ([r3.1] : List Db))]⟩
def Sl7a (r2 : List Cd × Bool × Bool) (r3 : Db × Int) (common8_a : Int) (t88_a : Int) : TS := ⟨slots 137 [(3, .ptr 3 0 []), (6, .ptr 6 0 []), (8, .dv (.int .i64) common8_a), (86, .dv (.sl (.sl (.int .i64))) r3.1.2.1), (87, .dv (.int .i64) (r3.1.2.1.length : Int)), (88, .dv (.int .i64) t88_a)], [(3, .row (.pair (.int .i64) (.pair (.sl (.sl (.int .i64))) (.unit))) r2.1), (6, .row (.pair (.sl (.int .i64)) (.pair (.sl (.sl (.int .i64))) (.unit))) ([r3.1] : List Db))]⟩
noncomputable def K7_0 (a15 : Y15) (a36 : Y36) (a38 : Y38) (a40 : Y40) (a41c42 : Y41c42) (a45 : Y45) (N : Nat) : Kont (Bool) := kont (E7 a15 a36 a38 a40 a41c42 a45) lv7 N c7 [1, 1, 1, 1, 1, 1, 1, 1, 0, 1, 0] (fin TI en7 (resOf Tryd.f7) dec7)
noncomputable def R7_0 (a15 : Y15) (a36 : Y36) (a38 : Y38) (a40 : Y40) (a41c42 : Y41c42) (a45 : Y45) (N : Nat) (m : Nat) : TS → Option (Bool) := loopK (den (E7 a15 a36 a38 a40 a41c42 a45) lv7 N (sub c7 [1, 1, 1, 1, 1, 1, 1, 1, 0, 1, 0, 0])) (TS.norm nm7_0) (K7_0 a15 a36 a38 a40 a41c42 a45 N) m
noncomputable def K7_1 (a15 : Y15) (a36 : Y36) (a38 : Y38) (a40 : Y40) (a41c42 : Y41c42) (a45 : Y45) (N : Nat) (T7_0 : TS → Option (Bool)) : Kont (Bool) := kont (E7 a15 a36 a38 a40 a41c42 a45) lv7 N (sub c7 [1, 1, 1, 1, 1, 1, 1, 1, 0, 1, 0, 0]) [1, 1, 0, 0, 1, 1, 0, 1, 0] (kloop (TS.norm nm7_0) (K7_0 a15 a36 a38 a40 a41c42 a45 N) T7_0)
noncomputable def R7_1 (a15 : Y15) (a36 : Y36) (a38 : Y38) (a40 : Y40) (a41c42 : Y41c42) (a45 : Y45) (N : Nat) (T7_0 : TS → Option (Bool)) (m : Nat) : TS → Option (Bool) := loopK (den (E7 a15 a36 a38 a40 a41c42 a45) lv7 N (sub c7 [1, 1, 1, 1, 1, 1, 1, 1, 0, 1, 0, 0, 1, 1, 0, 0, 1, 1, 0, 1, 0, 0])) (TS.norm nm7_1) (K7_1 a15 a36 a38 a40 a41c42 a45 N T7_0) m
def l7b (a15 : Y15) (a36 : Y36) (a38 : Y38) (a40 : Y40) (a41c42 : Y41c42) (a45 : Y45) (N : Nat) (r2 : List Cd × Bool × Bool) (r3 : Db × Int) (common8_a : Int) (t88_a : Int) (rec_l7a : Int → Int → Option (Bool)) : Nat → Int → Int → Option (Bool)
  | 0, _, _ => none
  | n + 1, set11_b, t94_b => cond (decide (t94_b < ((r3.1.2.1.getD t88_a.toNat ([] : List Int)).length : Int))) (chk (decide (0 ≤ t94_b ∧ t94_b < ((r3.1.2.1.getD t88_a.toNat ([] : List Int)).length : Int))) (cond (decide (((r3.1.2.1.getD t88_a.toNat ([] : List Int)).getD t94_b.toNat (0 : Int)) < (0 : Int))) (some false)
      (cond (decide (((r3.1.2.1.getD t88_a.toNat ([] : List Int)).getD t94_b.toNat (0 : Int)) ≥ ((((r2.1.getD 0 ((0 : Int), (([] : List (List Int)), ()))).2).1).length : Int))) (some false)
      (chk (decide (0 ≤ (r3.1.2.1.getD t88_a.toNat ([] : List Int)).getD t94_b.toNat (0 : Int))) ((l7b a15 a36 a38 a40 a41c42 a45 N r2 r3 common8_a t88_a rec_l7a n (bOr .i64 set11_b (IntKind.wrap .i64 ((1 : Int) * 2 ^ min (Int.toNat ((r3.1.2.1.getD t88_a.toNat ([] : List Int)).getD t94_b.toNat (0 : Int))) 64))) (w64 (t94_b + (1 : Int)))))))))
      (cond (decide (((r3.1.2.1.getD t88_a.toNat ([] : List Int)).length : Int) < (1 : Int))) (some false)
      (cond (decide (((r3.1.2.1.getD t88_a.toNat ([] : List Int)).length : Int) > (2 : Int))) (some false)
      ((a45 (r2.1.getD 0 ((0 : Int), (([] : List (List Int)), ()))) set11_b r3.1.1).bind fun r6 =>
      cond (!r6) (some false)
      ((rec_l7a (bAnd .i64 common8_a set11_b) (w64 (t88_a + (1 : Int))))))))
theorem wl7b (a15 : Y15) (a36 : Y36) (a38 : Y38) (a40 : Y40) (a41c42 : Y41c42) (a45 : Y45) (N : Nat) (r2 : List Cd × Bool × Bool) (r3 : Db × Int) (common8_a : Int) (t88_a : Int) (T7_0 : TS → Option (Bool)) (m : Nat) (set11_b : Int) (t94_b : Int) : R7_1 a15 a36 a38 a40 a41c42 a45 N T7_0 (m + 1) (Sl7b r2 r3 common8_a t88_a set11_b t94_b) = cond (decide (t94_b < ((r3.1.2.1.getD t88_a.toNat ([] : List Int)).length : Int))) (chk (decide (0 ≤ t94_b ∧ t94_b < ((r3.1.2.1.getD t88_a.toNat ([] : List Int)).length : Int))) (cond (decide (((r3.1.2.1.getD t88_a.toNat ([] : List Int)).getD t94_b.toNat (0 : Int)) < (0 : Int))) (some false)
      (cond (decide (((r3.1.2.1.getD t88_a.toNat ([] : List Int)).getD t94_b.toNat (0 : Int)) ≥ ((((r2.1.getD 0 ((0 : Int), (([] : List (List Int)), ()))).2).1).length : Int))) (some false)
      (chk (decide (0 ≤ (r3.1.2.1.getD t88_a.toNat ([] : List Int)).getD t94_b.toNat (0 : Int))) ((R7_1 a15 a36 a38 a40 a41c42 a45 N T7_0 m (Sl7b r2 r3 common8_a t88_a (bOr .i64 set11_b (IntKind.wrap .i64 ((1 : Int) * 2 ^ min (Int.toNat ((r3.1.2.1.getD t88_a.toNat ([] : List Int)).getD t94_b.toNat (0 : Int))) 64))) (w64 (t94_b + (1 : Int))))))))))
      (cond (decide (((r3.1.2.1.getD t88_a.toNat ([] : List Int)).length : Int) < (1 : Int))) (some false)
      (cond (decide (((r3.1.2.1.getD t88_a.toNat ([] : List Int)).length : Int) > (2 : Int))) (some false)
      ((a45 (r2.1.getD 0 ((0 : Int), (([] : List (List Int)), ()))) set11_b r3.1.1).bind fun r6 =>
      cond (!r6) (some false)
      ((T7_0 (Sl7a r2 r3 (bAnd .i64 common8_a set11_b) (w64 (t88_a + (1 : Int))))))))) := by kernel_rfl
theorem ql7b (a15 : Y15) (a36 : Y36) (a38 : Y38) (a40 : Y40) (a41c42 : Y41c42) (a45 : Y45) (N : Nat) (r2 : List Cd × Bool × Bool) (r3 : Db × Int) (common8_a : Int) (t88_a : Int) (T7_0 : TS → Option (Bool)) : ∀ (m : Nat) (set11_b : Int) (t94_b : Int), R7_1 a15 a36 a38 a40 a41c42 a45 N T7_0 m (Sl7b r2 r3 common8_a t88_a set11_b t94_b) = l7b a15 a36 a38 a40 a41c42 a45 N r2 r3 common8_a t88_a (fun y0 y1 => T7_0 (Sl7a r2 r3 y0 y1)) m set11_b t94_b
        | 0, _, _ => rfl
        | m + 1, set11_b, t94_b => by rw [wl7b]; simp only [l7b, ql7b a15 a36 a38 a40 a41c42 a45 N r2 r3 common8_a t88_a T7_0 m]
def l7a (a15 : Y15) (a36 : Y36) (a38 : Y38) (a40 : Y40) (a41c42 : Y41c42) (a45 : Y45) (N : Nat) (r2 : List Cd × Bool × Bool) (r3 : Db × Int) : Nat → Int → Int → Option (Bool)
  | 0, _, _ => none
  | n + 1, common8_a, t88_a => cond (decide (t88_a < (r3.1.2.1.length : Int))) (chk (decide (0 ≤ t88_a ∧ t88_a < (r3.1.2.1.length : Int))) ((l7b a15 a36 a38 a40 a41c42 a45 N r2 r3 common8_a t88_a (fun y0 y1 => (l7a a15 a36 a38 a40 a41c42 a45 N r2 r3 n y0 y1)) N (0 : Int) (0 : Int))))
      (cond (common8_a == (0 : Int)) ((a15).bind fun r7 =>
      some r7)
      (some false))
theorem wl7a (a15 : Y15) (a36 : Y36) (a38 : Y38) (a40 : Y40) (a41c42 : Y41c42) (a45 : Y45) (N : Nat) (r2 : List Cd × Bool × Bool) (r3 : Db × Int) (m : Nat) (common8_a : Int) (t88_a : Int) : R7_0 a15 a36 a38 a40 a41c42 a45 N (m + 1) (Sl7a r2 r3 common8_a t88_a) = cond (decide (t88_a < (r3.1.2.1.length : Int))) (chk (decide (0 ≤ t88_a ∧ t88_a < (r3.1.2.1.length : Int))) ((R7_1 a15 a36 a38 a40 a41c42 a45 N (R7_0 a15 a36 a38 a40 a41c42 a45 N m) N (Sl7b r2 r3 common8_a t88_a (0 : Int) (0 : Int)))))
      (cond (common8_a == (0 : Int)) ((a15).bind fun r7 =>
      some r7)
      (some false)) := by kernel_rfl
theorem ql7a (a15 : Y15) (a36 : Y36) (a38 : Y38) (a40 : Y40) (a41c42 : Y41c42) (a45 : Y45) (N : Nat) (r2 : List Cd × Bool × Bool) (r3 : Db × Int) : ∀ (m : Nat) (common8_a : Int) (t88_a : Int), R7_0 a15 a36 a38 a40 a41c42 a45 N m (Sl7a r2 r3 common8_a t88_a) = l7a a15 a36 a38 a40 a41c42 a45 N r2 r3 m common8_a t88_a
        | 0, _, _ => rfl
        | m + 1, common8_a, t88_a => by rw [wl7a]; simp only [l7a, ql7b, ql7a a15 a36 a38 a40 a41c42 a45 N r2 r3 m]
def m7 (a15 : Y15) (a36 : Y36) (a38 : Y38) (a40 : Y40) (a41c42 : Y41c42) (a45 : Y45) (N : Nat) (s0 : Int × Int × List (List Int) × Unit) : Option (Bool) :=
      (a40 s0).bind fun r1 =>
      (a41c42 r1 ([r1] : List Cd) true true).bind fun r2 =>
      (a36 (r2.1.getD 0 ((0 : Int), (([] : List (List Int)), ())))).bind fun r3 =>
      cond (r2.2.1) (cond (r2.2.2) (cond (r3.2 == (14 : Int)) (cond ((r3.1.1.length : Int) == (0 : Int)) (cond ((r3.1.2.1.length : Int) == (0 : Int)) ((a15).bind fun r4 =>
      some r4)
      (some false))
      (some false))
      (some false))
      (some false))
      (cond (!r2.2.2) (some false)
      (cond (r3.2 != (0 : Int)) (some false)
      (chk (decide (0 ≤ (0 : Int) ∧ (0 : Int) < ((((r2.1.getD 0 ((0 : Int), (([] : List (List Int)), ()))).2).1).length : Int))) (cond ((r3.1.1.length : Int) != (((((r2.1.getD 0 ((0 : Int), (([] : List (List Int)), ()))).2).1).getD 0 ([] : List Int)).length : Int)) (some false)
      (cond (decide ((r3.1.2.1.length : Int) < (2 : Int))) (some false)
      (cond (decide ((r3.1.2.1.length : Int) > (10 : Int))) (some false)
      ((a38 (r2.1.getD 0 ((0 : Int), (([] : List (List Int)), ()))) r3.1).bind fun r5 =>
      cond (r5 != (0 : Int)) (some false)
      (chk (decide (0 ≤ ((((r2.1.getD 0 ((0 : Int), (([] : List (List Int)), ()))).2).1).length : Int))) ((l7a a15 a36 a38 a40 a41c42 a45 N r2 r3 N (w64 ((IntKind.wrap .i64 ((1 : Int) * 2 ^ min (Int.toNat ((((r2.1.getD 0 ((0 : Int), (([] : List (List Int)), ()))).2).1).length : Int)) 64)) - (1 : Int))) (0 : Int)))))))))))
theorem wm7 (a15 : Y15) (a36 : Y36) (a38 : Y38) (a40 : Y40) (a41c42 : Y41c42) (a45 : Y45) (N : Nat) (s0 : Int × Int × List (List Int) × Unit) : callF (E7 a15 a36 a38 a40 a41c42 a45) lv7 N en7 c7 (resOf Tryd.f7) 136 [.dv (.pair (.int .u8) (.pair (.int .u8) (.pair (.sl (.arr 4 (.int .u8))) (.unit)))) s0] [] dec7 = (a40 s0).bind fun r1 =>
      (a41c42 r1 ([r1] : List Cd) true true).bind fun r2 =>
      (a36 (r2.1.getD 0 ((0 : Int), (([] : List (List Int)), ())))).bind fun r3 =>
      cond (r2.2.1) (cond (r2.2.2) (cond (r3.2 == (14 : Int)) (cond ((r3.1.1.length : Int) == (0 : Int)) (cond ((r3.1.2.1.length : Int) == (0 : Int)) ((a15).bind fun r4 =>
      some r4)
      (some false))
      (some false))
      (some false))
      (some false))
      (cond (!r2.2.2) (some false)
      (cond (r3.2 != (0 : Int)) (some false)
      (chk (decide (0 ≤ (0 : Int) ∧ (0 : Int) < ((((r2.1.getD 0 ((0 : Int), (([] : List (List Int)), ()))).2).1).length : Int))) (cond ((r3.1.1.length : Int) != (((((r2.1.getD 0 ((0 : Int), (([] : List (List Int)), ()))).2).1).getD 0 ([] : List Int)).length : Int)) (some false)
      (cond (decide ((r3.1.2.1.length : Int) < (2 : Int))) (some false)
      (cond (decide ((r3.1.2.1.length : Int) > (10 : Int))) (some false)
      ((a38 (r2.1.getD 0 ((0 : Int), (([] : List (List Int)), ()))) r3.1).bind fun r5 =>
      cond (r5 != (0 : Int)) (some false)
      (chk (decide (0 ≤ ((((r2.1.getD 0 ((0 : Int), (([] : List (List Int)), ()))).2).1).length : Int))) ((R7_0 a15 a36 a38 a40 a41c42 a45 N N (Sl7a r2 r3 (w64 ((IntKind.wrap .i64 ((1 : Int) * 2 ^ min (Int.toNat ((((r2.1.getD 0 ((0 : Int), (([] : List (List Int)), ()))).2).1).length : Int)) 64)) - (1 : Int))) (0 : Int)))))))))))) := by kernel_rfl
theorem k7 (a15 : Y15) (a36 : Y36) (a38 : Y38) (a40 : Y40) (a41c42 : Y41c42) (a45 : Y45) (N : Nat) (s0 : Int × Int × List (List Int) × Unit) : callF (E7 a15 a36 a38 a40 a41c42 a45) lv7 N en7 c7 (resOf Tryd.f7) 136 [.dv (.pair (.int .u8) (.pair (.int .u8) (.pair (.sl (.arr 4 (.int .u8))) (.unit)))) s0] [] dec7 = m7 a15 a36 a38 a40 a41c42 a45 N s0 := by rw [wm7]; simp only [m7, ql7a]
theorem ok7 (a15 : Y15) (a36 : Y36) (a38 : Y38) (a40 : Y40) (a41c42 : Y41c42) (a45 : Y45) (h15 : FnOk Tryd.prog 15 (F15 a15)) (h36 : FnOk Tryd.prog 36 (F36 a36)) (h38 : FnOk Tryd.prog 38 (F38 a38)) (h40 : FnOk Tryd.prog 40 (F40 a40)) (h41c42 : FnOk Tryd.prog 41 (F41c42 a41c42)) (h45 : FnOk Tryd.prog 45 (F45 a45)) (a : Y7) (h : ∀ s0 r, a s0 = some r → (∃ N, m7 a15 a36 a38 a40 a41c42 a45 N s0 = some r)) : FnOk Tryd.prog 7 (F7 a) := by
  intro args Of x hx
  simp only [F7] at hx
  split at hx
  · rename_i s0
    obtain ⟨N, hN⟩ := h _ _ hx
    refine lifted (L := [(15, F15 a15), (36, F36 a36), (38, F38 a38), (40, F40 a40), (41, F41c42 a41c42), (45, F45 a45)]) (rc := nrc) (fz := nfz) (fn := Tryd.f7) (by kernel_rfl) (by kernel_rfl) (by kernel_rfl) (by kernel_rfl) rfl ?_ ((k7 a15 a36 a38 a40 a41c42 a45 N _).trans hN) ?_
    · intro p hp; simp only [List.mem_cons, List.not_mem_nil, or_false] at hp; rcases hp with rfl | rfl | rfl | rfl | rfl | rfl
      · exact h15
      · exact h36
      · exact h38
      · exact h40
      · exact h41c42
      · exact h45
    · intro l o hd
      simp only [dec7] at hd
      split at hd
      · obtain rfl := Option.some.inj hd; exact ⟨rfl, rfl⟩
      · cases hd
  · cases hx
end Go.Proofs.YtbjfbbfglkmadaaDoor
