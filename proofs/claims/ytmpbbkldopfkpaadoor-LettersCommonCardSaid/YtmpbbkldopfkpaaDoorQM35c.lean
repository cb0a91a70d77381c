import Derived.Test.YtmpbbkldopfkpaaDoorQFI
namespace Go.Proofs.YtmpbbkldopfkpaaDoor
open Go.RowKit
set_option linter.unusedVariables false
abbrev Q35cT0 := (Int × List (List Int) × Unit) → (List UInt8) → Option (List (List UInt8 × Int))
def E35c (a29 : Q35cT0) (want0 : List (Int × List (List Int) × Unit)) (want1 : List (List UInt8 × Bool)) : Env := mkEw TI TY [(29, F29 a29)] nrc nfz (fun i => ([] : List (Nat × Nat)).lookup i)
noncomputable def c35c : Code := bodyOf Tryd.f35
def nm35c_0 : Norm := ⟨[4, 11], [7, 11, 9000], [], []⟩
def nm35c_1 : Norm := ⟨[4, 5, 6, 11], [7, 11, 9000], [], []⟩
def lv35c : Nat → Option Norm := norms [(3, nm35c_0), (6, nm35c_1)]
def en35c : End := ⟨[], ⟨[27], [9000, 7], [], []⟩⟩
def dec35c (want0 : List (Int × List (List Int) × Unit)) (want1 : List (List UInt8 × Bool)) (l : List TV) (o : List (Nat × TO)) : Option Unit := match l, o with | [.row 7], [(9000, .row (.pair (.int .i64) (.pair (.sl (.arr 2 (.int .i64))) (.unit))) x0), (7, .map (.str) (.bool) x1)] => chk (decide (x0 = want0) && decide (want1.Perm x1)) (some ()) | _, _ => none
def Sl35cb (p1 : List (Int × List (List Int) × Unit)) (h2 : List UInt8 × Int) (g3 : List (List UInt8 × Int)) (k6_b : Int) (o7_b : List (List UInt8 × Bool)) : TS := ⟨slots 27 [(4, .row 7), (5, .dv (.str) h2.1), (6, .dv (.int .i64) k6_b), (11, .row 11)], [(7, .map (.str) (.bool) o7_b), (11, .iter (.str) (.int .i64) g3 none), (9000, .row (.pair (.int .i64) (.pair (.sl (.arr 2 (.int .i64))) (.unit))) p1)]⟩
def Sl35ca (p1 : List (Int × List (List Int) × Unit)) (o7_a : List (List UInt8 × Bool)) (o11_a : List (List UInt8 × Int)) : TS := ⟨slots 27 [(4, .row 7), (11, .row 11)], [(7, .map (.str) (.bool) o7_a), (11, .iter (.str) (.int .i64) o11_a none), (9000, .row (.pair (.int .i64) (.pair (.sl (.arr 2 (.int .i64))) (.unit))) p1)]⟩
noncomputable def K35c_0 (a29 : Q35cT0) (want0 : List (Int × List (List Int) × Unit)) (want1 : List (List UInt8 × Bool)) (N : Nat) : Kont (Unit) := kont (E35c a29 want0 want1) lv35c N c35c [1, 1, 0, 1, 0] (fin TI en35c (resOf Tryd.f35) (dec35c want0 want1))
noncomputable def R35c_0 (a29 : Q35cT0) (want0 : List (Int × List (List Int) × Unit)) (want1 : List (List UInt8 × Bool)) (N : Nat) (m : Nat) : TS → Option (Unit) := loopK (den (E35c a29 want0 want1) lv35c N (sub c35c [1, 1, 0, 1, 0, 0])) (TS.norm nm35c_0) (K35c_0 a29 want0 want1 N) m
noncomputable def K35c_1 (a29 : Q35cT0) (want0 : List (Int × List (List Int) × Unit)) (want1 : List (List UInt8 × Bool)) (N : Nat) (T35c_0 : TS → Option (Unit)) : Kont (Unit) := kont (E35c a29 want0 want1) lv35c N (sub c35c [1, 1, 0, 1, 0, 0]) [1, 1, 0, 1, 1, 0] (kloop (TS.norm nm35c_0) (K35c_0 a29 want0 want1 N) T35c_0)
noncomputable def R35c_1 (a29 : Q35cT0) (want0 : List (Int × List (List Int) × Unit)) (want1 : List (List UInt8 × Bool)) (N : Nat) (T35c_0 : TS → Option (Unit)) (m : Nat) : TS → Option (Unit) := loopK (den (E35c a29 want0 want1) lv35c N (sub c35c [1, 1, 0, 1, 0, 0, 1, 1, 0, 1, 1, 0, 0])) (TS.norm nm35c_1) (K35c_1 a29 want0 want1 N T35c_0) m
def l35cb (a29 : Q35cT0) (want0 : List (Int × List (List Int) × Unit)) (want1 : List (List UInt8 × Bool)) (N : Nat) (p1 : List (Int × List (List Int) × Unit)) (h2 : List UInt8 × Int) (g3 : List (List UInt8 × Int)) (rec_l35ca : (List (List UInt8 × Bool)) → (List (List UInt8 × Int)) → Option (Unit)) : Nat → Int → (List (List UInt8 × Bool)) → Option (Unit)
 | 0, _, _ => none
 | n + 1, k6_b, o7_b => cond (decide (k6_b ≤ (h2.1.length : Int))) (chk (decide (0 ≤ k6_b ∧ k6_b ≤ (h2.1.length : Int))) ((l35cb a29 want0 want1 N p1 h2 g3 rec_l35ca n (w64 (k6_b + (1 : Int))) (mput (kt := .str) (vt := .bool) o7_b (h2.1.take k6_b.toNat) true))))
   ((rec_l35ca o7_b g3))
theorem wl35cb (a29 : Q35cT0) (want0 : List (Int × List (List Int) × Unit)) (want1 : List (List UInt8 × Bool)) (N : Nat) (p1 : List (Int × List (List Int) × Unit)) (h2 : List UInt8 × Int) (g3 : List (List UInt8 × Int)) (T35c_0 : TS → Option (Unit)) (m : Nat) (k6_b : Int) (o7_b : List (List UInt8 × Bool)) : R35c_1 a29 want0 want1 N T35c_0 (m + 1) (Sl35cb p1 h2 g3 k6_b o7_b) = cond (decide (k6_b ≤ (h2.1.length : Int))) (chk (decide (0 ≤ k6_b ∧ k6_b ≤ (h2.1.length : Int))) ((R35c_1 a29 want0 want1 N T35c_0 m (Sl35cb p1 h2 g3 (w64 (k6_b + (1 : Int))) (mput (kt := .str) (vt := .bool) o7_b (h2.1.take k6_b.toNat) true)))))
   ((T35c_0 (Sl35ca p1 o7_b g3))) := by kernel_rfl
theorem ql35cb (a29 : Q35cT0) (want0 : List (Int × List (List Int) × Unit)) (want1 : List (List UInt8 × Bool)) (N : Nat) (p1 : List (Int × List (List Int) × Unit)) (h2 : List UInt8 × Int) (g3 : List (List UInt8 × Int)) (T35c_0 : TS → Option (Unit)) : ∀ (m : Nat) (k6_b : Int) (o7_b : List (List UInt8 × Bool)), R35c_1 a29 want0 want1 N T35c_0 m (Sl35cb p1 h2 g3 k6_b o7_b) = l35cb a29 want0 want1 N p1 h2 g3 (fun y0 y1 => T35c_0 (Sl35ca p1 y0 y1)) m k6_b o7_b
        | 0, _, _ => rfl
        | m + 1, k6_b, o7_b => by rw [wl35cb]; simp only [l35cb, ql35cb a29 want0 want1 N p1 h2 g3 T35c_0 m]
def l35ca (a29 : Q35cT0) (want0 : List (Int × List (List Int) × Unit)) (want1 : List (List UInt8 × Bool)) (N : Nat) (p1 : List (Int × List (List Int) × Unit)) : Nat → (List (List UInt8 × Bool)) → (List (List UInt8 × Int)) → Option (Unit)
 | 0, _, _ => none
 | n + 1, o7_a, o11_a => eachK o11_a (chk (decide (p1 = want0) && decide (want1.Perm o7_a)) (some ())) (fun h2 => fun g3 =>
   (l35cb a29 want0 want1 N p1 h2 g3 (fun y0 y1 => (l35ca a29 want0 want1 N p1 n y0 y1)) N (0 : Int) o7_a))
theorem wl35ca (a29 : Q35cT0) (want0 : List (Int × List (List Int) × Unit)) (want1 : List (List UInt8 × Bool)) (N : Nat) (p1 : List (Int × List (List Int) × Unit)) (m : Nat) (o7_a : List (List UInt8 × Bool)) (o11_a : List (List UInt8 × Int)) : R35c_0 a29 want0 want1 N (m + 1) (Sl35ca p1 o7_a o11_a) = eachK o11_a (chk (decide (p1 = want0) && decide (want1.Perm o7_a)) (some ())) (fun h2 => fun g3 =>
   (R35c_1 a29 want0 want1 N (R35c_0 a29 want0 want1 N m) N (Sl35cb p1 h2 g3 (0 : Int) o7_a))) := by kernel_rfl
theorem ql35ca (a29 : Q35cT0) (want0 : List (Int × List (List Int) × Unit)) (want1 : List (List UInt8 × Bool)) (N : Nat) (p1 : List (Int × List (List Int) × Unit)) : ∀ (m : Nat) (o7_a : List (List UInt8 × Bool)) (o11_a : List (List UInt8 × Int)), R35c_0 a29 want0 want1 N m (Sl35ca p1 o7_a o11_a) = l35ca a29 want0 want1 N p1 m o7_a o11_a
        | 0, _, _ => rfl
        | m + 1, o7_a, o11_a => by rw [wl35ca]; simp only [l35ca, ql35cb, ql35ca a29 want0 want1 N p1 m]
def m35c (a29 : Q35cT0) (want0 : List (Int × List (List Int) × Unit)) (want1 : List (List UInt8 × Bool)) (N : Nat) (s0 : List UInt8) (p1 : List (Int × List (List Int) × Unit)) : Option (Unit) :=
   (a29 (p1.getD 0 ((0 : Int), (([] : List (List Int)), ()))) s0).bind fun r1 =>
   (l35ca a29 want0 want1 N p1 N ([] : List (List UInt8 × Bool)) r1)
theorem wm35c (a29 : Q35cT0) (want0 : List (Int × List (List Int) × Unit)) (want1 : List (List UInt8 × Bool)) (N : Nat) (s0 : List UInt8) (p1 : List (Int × List (List Int) × Unit)) : callF (E35c a29 want0 want1) lv35c N en35c c35c (resOf Tryd.f35) 25 [.dv (.str) s0, .ptr 9000 0 []] [(9000, .row (.pair (.int .i64) (.pair (.sl (.arr 2 (.int .i64))) (.unit))) p1)] (dec35c want0 want1) = (a29 (p1.getD 0 ((0 : Int), (([] : List (List Int)), ()))) s0).bind fun r1 =>
   (R35c_0 a29 want0 want1 N N (Sl35ca p1 ([] : List (List UInt8 × Bool)) r1)) := by kernel_rfl
theorem k35c (a29 : Q35cT0) (want0 : List (Int × List (List Int) × Unit)) (want1 : List (List UInt8 × Bool)) (N : Nat) (s0 : List UInt8) (p1 : List (Int × List (List Int) × Unit)) : callF (E35c a29 want0 want1) lv35c N en35c c35c (resOf Tryd.f35) 25 [.dv (.str) s0, .ptr 9000 0 []] [(9000, .row (.pair (.int .i64) (.pair (.sl (.arr 2 (.int .i64))) (.unit))) p1)] (dec35c want0 want1) = m35c a29 want0 want1 N s0 p1 := by rw [wm35c]; simp only [m35c, ql35ca]
theorem ok35c (a29 : Q35cT0) (h29 : FnOk Tryd.prog 29 (F29 a29)) (a : (List UInt8) → (List (Int × List (List Int) × Unit)) → Option (List (Int × List (List Int) × Unit) × List (List UInt8 × Bool))) (h : ∀ s0 p1 r, a s0 p1 = some r → ∃ N, m35c a29 r.1 r.2 N s0 p1 = some ()) : FnOk Tryd.prog 35 (F35c a) := by
 intro args Of r hx
 simp only [F35c] at hx
 split at hx
 ·rename_i s0 p1
  obtain ⟨N, hN⟩ := h _ _ _ hx
  refine HSpec.frzMap (Q := fun x o => ∃ x1, (r.2).Perm x1 ∧ x = (.row 7 : TV) ∧ o = [(9000, .row (.pair (.int .i64) (.pair (.sl (.arr 2 (.int .i64))) (.unit))) r.1), (7, .map (.str) (.bool) x1)]) (liftedP (L := [(29, F29 a29)]) (rc := nrc) (fz := nfz) (tw := fun i => ([] : List (Nat × Nat)).lookup i) (fn := Tryd.f35) (by kernel_rfl) (by kernel_rfl) (by kernel_rfl) (by kernel_rfl) rfl ?_ ((k35c a29 r.1 r.2 N _ _).trans hN) ?_) fun x o ⟨x1, hp, e1, e2⟩ => ?_
  ·intro p hp; simp only [List.mem_cons, List.not_mem_nil, or_false] at hp; rcases hp with rfl; exact h29
  ·intro l o hd
   simp only [dec35c] at hd
   split at hd
   ·have hq := (chk_some hd).1
    simp only [Bool.and_eq_true, decide_eq_true_eq] at hq
    obtain ⟨rfl, hq⟩ := hq
    exact ⟨_, hq, rfl, rfl⟩
   ·cases hd
  ·subst e1; subst e2
   refine ⟨7, .str, .bool, x1, r.2, [(9000, .row (.pair (.int .i64) (.pair (.sl (.arr 2 (.int .i64))) (.unit))) r.1), (7, .fmp (.str) (.bool) r.2)], rfl, rfl, hp.symm, funext fun j => ?_, rfl, rfl⟩
   simp only [tlook_cons]
   by_cases h7 : j = 7
   ·subst h7; rfl
   ·simp only [if_neg h7]
 ·cases hx
end Go.Proofs.YtmpbbkldopfkpaaDoor
