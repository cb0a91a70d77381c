/-
  Functions of the law, told as plain functions.
-/
import Derived.Test.YtbjfbbfglkmadaaDoorQFI
namespace Go.Proofs.YtbjfbbfglkmadaaDoor
open Go.RowKit
set_option linter.unusedVariables false
def E26c (a62 : Y62) (a66 : Y66) (a67 : Y67) (a68 : Y68) (a70 : Y70) : Env := mkEq TI TY [(62, F62 a62), (66, F66 a66), (67, F67 a67), (68, F68 a68), (70, F70 a70)] (fun i => ([(9, [some (.arr 0 (.sl (.int .i64)))])] : List (Nat × List (Option DT))).lookup i) nfz coalSeq
noncomputable def c26c : Code := bodyOf Tryd.f26
def nm26c_0 : Norm := ⟨[3, 4, 6, 7, 9, 24], [3, 4, 9, 9000], [(.fld 9 0, 2100, .sl (.int .i64))], []⟩
def lv26c : Nat → Option Norm := norms [(9, nm26c_0)]
def en26c : End := ⟨[(36, .sl (.sl (.int .i64)))], ⟨[36, 37], [9000], [], []⟩⟩
def dec26c (l : List TV) (o : List (Nat × TO)) : Option (List (List Int) × Int × List Int) := match l, o with | [.dv (.sl (.sl (.int .i64))) x0, .dv (.int .i64) x1], [(9000, .row (.int .i64) x2)] => some (x0, x1, x2) | _, _ => none
def Sl26ca (c0 : Int × List (List Int) × Unit) (p2 : List Int) (r3 : Int × Int × List (List Int) × Unit) (o2100_a : List (List Int)) : TS := ⟨slots 36 [(3, .ptr 3 0 []), (4, .ptr 4 0 [0]), (6, .nl), (7, .dv (.int .i64) (0 : Int)), (9, .ptr 9 0 [0]), (24, .fn 87 0 2 fun i => ([.el (.int .i64) r3.1 [], .el (.pair (.int .i64) (.pair (.sl (.sl (.int .i64))) (.unit))) r3.2 []] : List TV).getD i .any)], [(2100, .row (.sl (.int .i64)) o2100_a), (3, .row (.pair (.int .i64) (.pair (.sl (.sl (.int .i64))) (.unit))) ([c0] : List Cd)), (4, .rcd [.row 9000]), (9, .rcd [.row 2100]), (9000, .row (.int .i64) p2)]⟩
noncomputable def K26c_0 (a62 : Y62) (a66 : Y66) (a67 : Y67) (a68 : Y68) (a70 : Y70) (N : Nat) : Kont (List (List Int) × Int × List Int) := kont (E26c a62 a66 a67 a68 a70) lv26c N c26c [1, 1, 1, 1, 0, 1, 0] (fin TI en26c (resOf Tryd.f26) dec26c)
noncomputable def R26c_0 (a62 : Y62) (a66 : Y66) (a67 : Y67) (a68 : Y68) (a70 : Y70) (N : Nat) (xs : List (List Int)) : TS → Option (List (List Int) × Int × List Int) := seqK (β := List Int) (fun x s1 K => roundK (denP (E26c a62 a66 a67 a68 a70) lv26c N (sub c26c [1, 1, 1, 1, 0, 1, 0, 0])) (denP (E26c a62 a66 a67 a68 a70) lv26c N (sub c26c [1, 1, 1, 1, 0, 1, 0, 1])) 25 (.dv (.sl (.int .i64)) x) s1 K) (TS.norm nm26c_0) (K26c_0 a62 a66 a67 a68 a70 N) xs
def l26ca (a62 : Y62) (a66 : Y66) (a67 : Y67) (a68 : Y68) (a70 : Y70) (N : Nat) (c0 : Int × List (List Int) × Unit) (p2 : List Int) (r3 : Int × Int × List (List Int) × Unit) : List (List Int) → (List (List Int)) → Option (List (List Int) × Int × List Int)
  | [], o2100_a => some (o2100_a, (0 : Int), p2)
  | e4a :: rr, o2100_a => (a70 c0 e4a p2).bind fun r5 =>
      cond (r5) (chk ((decide (0 < e4a.length)) && (true)) ((a68 (some e4a)).bind fun r6 =>
      chk (small (o2100_a.length + 1) 24) ((l26ca a62 a66 a67 a68 a70 N c0 p2 r3 rr (o2100_a ++ ([r6] : List (List Int)))))))
      ((l26ca a62 a66 a67 a68 a70 N c0 p2 r3 rr o2100_a))
theorem wl26ca_0 (a62 : Y62) (a66 : Y66) (a67 : Y67) (a68 : Y68) (a70 : Y70) (N : Nat) (c0 : Int × List (List Int) × Unit) (p2 : List Int) (r3 : Int × Int × List (List Int) × Unit) (o2100_a : List (List Int)) : R26c_0 a62 a66 a67 a68 a70 N [] (Sl26ca c0 p2 r3 o2100_a) = some (o2100_a, (0 : Int), p2) := by kernel_rfl
theorem wl26ca_1 (a62 : Y62) (a66 : Y66) (a67 : Y67) (a68 : Y68) (a70 : Y70) (N : Nat) (c0 : Int × List (List Int) × Unit) (p2 : List Int) (r3 : Int × Int × List (List Int) × Unit) (e4a : List Int) (rr : List (List Int)) (o2100_a : List (List Int)) : R26c_0 a62 a66 a67 a68 a70 N (e4a :: rr) (Sl26ca c0 p2 r3 o2100_a) = (a70 c0 e4a p2).bind fun r5 =>
      cond (r5) (chk ((decide (0 < e4a.length)) && (true)) ((a68 (some e4a)).bind fun r6 =>
      chk (small (o2100_a.length + 1) 24) ((R26c_0 a62 a66 a67 a68 a70 N rr (Sl26ca c0 p2 r3 (o2100_a ++ ([r6] : List (List Int))))))))
      ((R26c_0 a62 a66 a67 a68 a70 N rr (Sl26ca c0 p2 r3 o2100_a))) := by kernel_rfl
theorem ql26ca (a62 : Y62) (a66 : Y66) (a67 : Y67) (a68 : Y68) (a70 : Y70) (N : Nat) (c0 : Int × List (List Int) × Unit) (p2 : List Int) (r3 : Int × Int × List (List Int) × Unit) : ∀ (m : List (List Int)) (o2100_a : List (List Int)), R26c_0 a62 a66 a67 a68 a70 N m (Sl26ca c0 p2 r3 o2100_a) = l26ca a62 a66 a67 a68 a70 N c0 p2 r3 m o2100_a
        | [], o2100_a => by rw [wl26ca_0]; simp only [l26ca]
        | e4a :: rr, o2100_a => by rw [wl26ca_1]; simp only [l26ca, ql26ca a62 a66 a67 a68 a70 N c0 p2 r3 rr]
def m26c (a62 : Y62) (a66 : Y66) (a67 : Y67) (a68 : Y68) (a70 : Y70) (N : Nat) (c0 : Int × List (List Int) × Unit) (size2 : Int) (p2 : List Int) : Option (List (List Int) × Int × List Int) :=
      (a66 c0 p2).bind fun r1 =>
      cond (r1 != (0 : Int)) (some (([] : List (List Int)), r1, p2))
      ((a62 (1 : Int) size2 (10 : Int)).bind fun r2 =>
      cond (!r2) (some (([] : List (List Int)), (4 : Int), p2))
      ((a67 c0 size2).bind fun r3 =>
      chk (decide (0 ≤ r3.1 ∧ ((List.length r3.2.2.1 : Nat) : Int) * 8 ≤ 140737488355328)) ((l26ca a62 a66 a67 a68 a70 N c0 p2 r3 (gr (List.length r3.2.2.1) (Int.toNat r3.1) [] 0) ([] : List (List Int))))))
theorem wm26c (a62 : Y62) (a66 : Y66) (a67 : Y67) (a68 : Y68) (a70 : Y70) (N : Nat) (c0 : Int × List (List Int) × Unit) (size2 : Int) (p2 : List Int) : callF (E26c a62 a66 a67 a68 a70) lv26c N en26c c26c (resOf Tryd.f26) 33 [.dv (.pair (.int .i64) (.pair (.sl (.sl (.int .i64))) (.unit))) c0, .row 9000, .dv (.int .i64) size2] [(9000, .row (.int .i64) p2)] dec26c = (a66 c0 p2).bind fun r1 =>
      cond (r1 != (0 : Int)) (some (([] : List (List Int)), r1, p2))
      ((a62 (1 : Int) size2 (10 : Int)).bind fun r2 =>
      cond (!r2) (some (([] : List (List Int)), (4 : Int), p2))
      ((a67 c0 size2).bind fun r3 =>
      chk (decide (0 ≤ r3.1 ∧ ((List.length r3.2.2.1 : Nat) : Int) * 8 ≤ 140737488355328)) ((R26c_0 a62 a66 a67 a68 a70 N (gr (List.length r3.2.2.1) (Int.toNat r3.1) [] 0) (Sl26ca c0 p2 r3 ([] : List (List Int))))))) := by kernel_rfl
theorem k26c (a62 : Y62) (a66 : Y66) (a67 : Y67) (a68 : Y68) (a70 : Y70) (N : Nat) (c0 : Int × List (List Int) × Unit) (size2 : Int) (p2 : List Int) : callF (E26c a62 a66 a67 a68 a70) lv26c N en26c c26c (resOf Tryd.f26) 33 [.dv (.pair (.int .i64) (.pair (.sl (.sl (.int .i64))) (.unit))) c0, .row 9000, .dv (.int .i64) size2] [(9000, .row (.int .i64) p2)] dec26c = m26c a62 a66 a67 a68 a70 N c0 size2 p2 := by rw [wm26c]; simp only [m26c, ql26ca]
theorem ok26c (a62 : Y62) (a66 : Y66) (a67 : Y67) (a68 : Y68) (a70 : Y70) (h62 : FnOk Tryd.prog 62 (F62 a62)) (h66 : FnOk Tryd.prog 66 (F66 a66)) (h67 : FnOk Tryd.prog 67 (F67 a67)) (h68 : FnOk Tryd.prog 68 (F68 a68)) (h70 : FnOk Tryd.prog 70 (F70 a70)) (a : Y26c) (h : ∀ c0 size2 p2 r, a c0 size2 p2 = some r → (∃ N, m26c a62 a66 a67 a68 a70 N c0 size2 p2 = some r)) : FnOk Tryd.prog 26 (F26c a) := by
  intro args Of x hx
  simp only [F26c] at hx
  split at hx
  · rename_i c0 size2 p2
    obtain ⟨N, hN⟩ := h _ _ _ _ hx
    refine liftedQ (L := [(62, F62 a62), (66, F66 a66), (67, F67 a67), (68, F68 a68), (70, F70 a70)]) (rc := (fun i => ([(9, [some (.arr 0 (.sl (.int .i64)))])] : List (Nat × List (Option DT))).lookup i)) (fz := nfz) (fn := Tryd.f26) (by kernel_rfl) (by kernel_rfl) (by kernel_rfl) (by kernel_rfl) rfl ?_ coalSeq_ok ((k26c a62 a66 a67 a68 a70 N _ _ _).trans hN) ?_
    · intro p hp; simp only [List.mem_cons, List.not_mem_nil, or_false] at hp; rcases hp with rfl | rfl | rfl | rfl | rfl
      · exact h62
      · exact h66
      · exact h67
      · exact h68
      · exact h70
    · intro l o hd
      simp only [dec26c] at hd
      split at hd
      · obtain rfl := Option.some.inj hd; exact ⟨rfl, rfl⟩
      · cases hd
  · cases hx
def E28c (a26c : Y26c) (a73 : Y73) (a74c : Y74c) (want0 : List Int) (want1 : Int) (want2 : List Int) : Env := mkEw TI TY [(26, F26c a26c), (73, F73 a73), (74, F74c a74c)] nrc nfz (fun i => ([] : List (Nat × Nat)).lookup i)
noncomputable def c28c : Code := bodyOf Tryd.f28
def nm28c_0 : Norm := ⟨[8, 10, 33, 34, 35], [31, 9000], [], []⟩
def nm28c_1 : Norm := ⟨[8, 45], [45, 9000], [(.slot 13, 1013, .int .i64)], []⟩
def lv28c : Nat → Option Norm := norms [(8, nm28c_0), (14, nm28c_1)]
def en28c : End := ⟨[(62, .sl (.int .i64))], ⟨[62, 63], [9000], [], []⟩⟩
def dec28c (want0 : List Int) (want1 : Int) (want2 : List Int) (l : List TV) (o : List (Nat × TO)) : Option Unit := match l, o with | [.dv (.sl (.int .i64)) x0, .dv (.int .i64) x1], [(9000, .row (.int .i64) x2)] => chk (decide (x0 = want0) && decide (x1 = want1) && decide (x2 = want2)) (some ()) | _, _ => none
def Sl28cb (r1 : List (List Int) × Int × List Int) (out13_b : List Int) (o45_b : List (Int × Int)) : TS := ⟨slots 62 [(8, .dv (.sl (.sl (.int .i64))) r1.1), (13, .row 1013), (45, .row 45)], [(1013, .row (.int .i64) out13_b), (45, .iter (.int .i64) (.int .i64) o45_b none), (9000, .row (.int .i64) r1.2.2)]⟩
def Sl28ca (r1 : List (List Int) × Int × List Int) (r2 : List Int) (t35_a : Int) (o31_a : List (Int × Int)) : TS := ⟨slots 62 [(8, .dv (.sl (.sl (.int .i64))) r1.1), (10, .row 31), (33, .dv (.sl (.int .i64)) r2), (34, .dv (.int .i64) (r2.length : Int)), (35, .dv (.int .i64) t35_a)], [(31, .map (.int .i64) (.int .i64) o31_a), (9000, .row (.int .i64) r1.2.2)]⟩
noncomputable def K28c_0 (a26c : Y26c) (a73 : Y73) (a74c : Y74c) (want0 : List Int) (want1 : Int) (want2 : List Int) (N : Nat) : Kont (Unit) := kont (E28c a26c a73 a74c want0 want1 want2) lv28c N c28c [1, 1, 1, 1, 0, 1, 0] (fin TI en28c (resOf Tryd.f28) (dec28c want0 want1 want2))
noncomputable def R28c_0 (a26c : Y26c) (a73 : Y73) (a74c : Y74c) (want0 : List Int) (want1 : Int) (want2 : List Int) (N : Nat) (m : Nat) : TS → Option (Unit) := loopK (den (E28c a26c a73 a74c want0 want1 want2) lv28c N (sub c28c [1, 1, 1, 1, 0, 1, 0, 0])) (TS.norm nm28c_0) (K28c_0 a26c a73 a74c want0 want1 want2 N) m
noncomputable def K28c_1 (a26c : Y26c) (a73 : Y73) (a74c : Y74c) (want0 : List Int) (want1 : Int) (want2 : List Int) (N : Nat) : Kont (Unit) := kont (E28c a26c a73 a74c want0 want1 want2) lv28c N c28c [1, 1, 1, 1, 1, 1, 0, 1, 0] (fin TI en28c (resOf Tryd.f28) (dec28c want0 want1 want2))
noncomputable def R28c_1 (a26c : Y26c) (a73 : Y73) (a74c : Y74c) (want0 : List Int) (want1 : Int) (want2 : List Int) (N : Nat) (m : Nat) : TS → Option (Unit) := loopK (den (E28c a26c a73 a74c want0 want1 want2) lv28c N (sub c28c [1, 1, 1, 1, 1, 1, 0, 1, 0, 0])) (TS.norm nm28c_1) (K28c_1 a26c a73 a74c want0 want1 want2 N) m
def l28cb (a26c : Y26c) (a73 : Y73) (a74c : Y74c) (want0 : List Int) (want1 : Int) (want2 : List Int) (N : Nat) (r1 : List (List Int) × Int × List Int) : Nat → (List Int) → (List (Int × Int)) → Option (Unit)
  | 0, _, _ => none
  | n + 1, out13_b, o45_b => eachK o45_b ((a74c out13_b).bind fun r5 =>
      chk (decide (r5 = want0) && decide ((0 : Int) = want1) && decide (r1.2.2 = want2)) (some ())) (fun h3 => fun g4 =>
      cond (h3.2 == (r1.1.length : Int)) (chk (small (out13_b.length + 1) 8) ((l28cb a26c a73 a74c want0 want1 want2 N r1 n (out13_b ++ ([h3.1] : List Int)) g4)))
      ((l28cb a26c a73 a74c want0 want1 want2 N r1 n out13_b g4)))
theorem wl28cb (a26c : Y26c) (a73 : Y73) (a74c : Y74c) (want0 : List Int) (want1 : Int) (want2 : List Int) (N : Nat) (r1 : List (List Int) × Int × List Int) (m : Nat) (out13_b : List Int) (o45_b : List (Int × Int)) : R28c_1 a26c a73 a74c want0 want1 want2 N (m + 1) (Sl28cb r1 out13_b o45_b) = eachK o45_b ((a74c out13_b).bind fun r5 =>
      chk (decide (r5 = want0) && decide ((0 : Int) = want1) && decide (r1.2.2 = want2)) (some ())) (fun h3 => fun g4 =>
      cond (h3.2 == (r1.1.length : Int)) (chk (small (out13_b.length + 1) 8) ((R28c_1 a26c a73 a74c want0 want1 want2 N m (Sl28cb r1 (out13_b ++ ([h3.1] : List Int)) g4))))
      ((R28c_1 a26c a73 a74c want0 want1 want2 N m (Sl28cb r1 out13_b g4)))) := by kernel_rfl
theorem ql28cb (a26c : Y26c) (a73 : Y73) (a74c : Y74c) (want0 : List Int) (want1 : Int) (want2 : List Int) (N : Nat) (r1 : List (List Int) × Int × List Int) : ∀ (m : Nat) (out13_b : List Int) (o45_b : List (Int × Int)), R28c_1 a26c a73 a74c want0 want1 want2 N m (Sl28cb r1 out13_b o45_b) = l28cb a26c a73 a74c want0 want1 want2 N r1 m out13_b o45_b
        | 0, _, _ => rfl
        | m + 1, out13_b, o45_b => by rw [wl28cb]; simp only [l28cb, ql28cb a26c a73 a74c want0 want1 want2 N r1 m]
def l28ca (a26c : Y26c) (a73 : Y73) (a74c : Y74c) (want0 : List Int) (want1 : Int) (want2 : List Int) (N : Nat) (r1 : List (List Int) × Int × List Int) (r2 : List Int) : Nat → Int → (List (Int × Int)) → Option (Unit)
  | 0, _, _ => none
  | n + 1, t35_a, o31_a => cond (decide (t35_a < (r2.length : Int))) (chk (decide (0 ≤ t35_a ∧ t35_a < (r2.length : Int))) ((l28ca a26c a73 a74c want0 want1 want2 N r1 r2 n (w64 (t35_a + (1 : Int))) (mput (kt := .int .i64) (vt := .int .i64) o31_a (r2.getD t35_a.toNat (0 : Int)) (w64 (((mget (kt := .int .i64) (vt := .int .i64) o31_a (r2.getD t35_a.toNat (0 : Int))).getD (0 : Int)) + (1 : Int)))))))
      ((l28cb a26c a73 a74c want0 want1 want2 N r1 N ([] : List Int) o31_a))
theorem wl28ca (a26c : Y26c) (a73 : Y73) (a74c : Y74c) (want0 : List Int) (want1 : Int) (want2 : List Int) (N : Nat) (r1 : List (List Int) × Int × List Int) (r2 : List Int) (m : Nat) (t35_a : Int) (o31_a : List (Int × Int)) : R28c_0 a26c a73 a74c want0 want1 want2 N (m + 1) (Sl28ca r1 r2 t35_a o31_a) = cond (decide (t35_a < (r2.length : Int))) (chk (decide (0 ≤ t35_a ∧ t35_a < (r2.length : Int))) ((R28c_0 a26c a73 a74c want0 want1 want2 N m (Sl28ca r1 r2 (w64 (t35_a + (1 : Int))) (mput (kt := .int .i64) (vt := .int .i64) o31_a (r2.getD t35_a.toNat (0 : Int)) (w64 (((mget (kt := .int .i64) (vt := .int .i64) o31_a (r2.getD t35_a.toNat (0 : Int))).getD (0 : Int)) + (1 : Int))))))))
      ((R28c_1 a26c a73 a74c want0 want1 want2 N N (Sl28cb r1 ([] : List Int) o31_a))) := by kernel_rfl
theorem ql28ca (a26c : Y26c) (a73 : Y73) (a74c : Y74c) (want0 : List Int) (want1 : Int) (want2 : List Int) (N : Nat) (r1 : List (List Int) × Int × List Int) (r2 : List Int) : ∀ (m : Nat) (t35_a : Int) (o31_a : List (Int × Int)), R28c_0 a26c a73 a74c want0 want1 want2 N m (Sl28ca r1 r2 t35_a o31_a) = l28ca a26c a73 a74c want0 want1 want2 N r1 r2 m t35_a o31_a
        | 0, _, _ => rfl
        | m + 1, t35_a, o31_a => by rw [wl28ca]; simp only [l28ca, ql28cb, ql28ca a26c a73 a74c want0 want1 want2 N r1 r2 m]
def m28c (a26c : Y26c) (a73 : Y73) (a74c : Y74c) (want0 : List Int) (want1 : Int) (want2 : List Int) (N : Nat) (c0 : Int × List (List Int) × Unit) (size2 : Int) (p2 : List Int) : Option (Unit) :=
      (a26c c0 size2 p2).bind fun r1 =>
      cond (r1.2.1 != (0 : Int)) (chk (decide (([] : List Int) = want0) && decide (r1.2.1 = want1) && decide (r1.2.2 = want2)) (some ()))
      (cond ((r1.1.length : Int) == (0 : Int)) (chk (decide (([] : List Int) = want0) && decide ((14 : Int) = want1) && decide (r1.2.2 = want2)) (some ()))
      ((a73 r1.1).bind fun r2 =>
      (l28ca a26c a73 a74c want0 want1 want2 N r1 r2 N (0 : Int) ([] : List (Int × Int)))))
theorem wm28c (a26c : Y26c) (a73 : Y73) (a74c : Y74c) (want0 : List Int) (want1 : Int) (want2 : List Int) (N : Nat) (c0 : Int × List (List Int) × Unit) (size2 : Int) (p2 : List Int) : callF (E28c a26c a73 a74c want0 want1 want2) lv28c N en28c c28c (resOf Tryd.f28) 59 [.dv (.pair (.int .i64) (.pair (.sl (.sl (.int .i64))) (.unit))) c0, .row 9000, .dv (.int .i64) size2] [(9000, .row (.int .i64) p2)] (dec28c want0 want1 want2) = (a26c c0 size2 p2).bind fun r1 =>
      cond (r1.2.1 != (0 : Int)) (chk (decide (([] : List Int) = want0) && decide (r1.2.1 = want1) && decide (r1.2.2 = want2)) (some ()))
      (cond ((r1.1.length : Int) == (0 : Int)) (chk (decide (([] : List Int) = want0) && decide ((14 : Int) = want1) && decide (r1.2.2 = want2)) (some ()))
      ((a73 r1.1).bind fun r2 =>
      (R28c_0 a26c a73 a74c want0 want1 want2 N N (Sl28ca r1 r2 (0 : Int) ([] : List (Int × Int)))))) := by kernel_rfl
theorem k28c (a26c : Y26c) (a73 : Y73) (a74c : Y74c) (want0 : List Int) (want1 : Int) (want2 : List Int) (N : Nat) (c0 : Int × List (List Int) × Unit) (size2 : Int) (p2 : List Int) : callF (E28c a26c a73 a74c want0 want1 want2) lv28c N en28c c28c (resOf Tryd.f28) 59 [.dv (.pair (.int .i64) (.pair (.sl (.sl (.int .i64))) (.unit))) c0, .row 9000, .dv (.int .i64) size2] [(9000, .row (.int .i64) p2)] (dec28c want0 want1 want2) = m28c a26c a73 a74c want0 want1 want2 N c0 size2 p2 := by rw [wm28c]; simp only [m28c, ql28ca]
theorem ok28c (a26c : Y26c) (a73 : Y73) (a74c : Y74c) (h26c : FnOk Tryd.prog 26 (F26c a26c)) (h73 : FnOk Tryd.prog 73 (F73 a73)) (h74c : FnOk Tryd.prog 74 (F74c a74c)) (a : Y28c) (h : ∀ c0 size2 p2 r, a c0 size2 p2 = some r → ∃ N, m28c a26c a73 a74c r.1 r.2.1 r.2.2 N c0 size2 p2 = some ()) : FnOk Tryd.prog 28 (F28c a) := by
  intro args Of r hx
  simp only [F28c] at hx
  split at hx
  · rename_i c0 size2 p2
    obtain ⟨N, hN⟩ := h _ _ _ _ hx
    refine liftedW (L := [(26, F26c a26c), (73, F73 a73), (74, F74c a74c)]) (rc := nrc) (fz := nfz) (tw := fun i => ([] : List (Nat × Nat)).lookup i) (fn := Tryd.f28) (by kernel_rfl) (by kernel_rfl) (by kernel_rfl) (by kernel_rfl) rfl ?_ ((k28c a26c a73 a74c r.1 r.2.1 r.2.2 N _ _ _).trans hN) ?_
    · intro p hp; simp only [List.mem_cons, List.not_mem_nil, or_false] at hp; rcases hp with rfl | rfl | rfl
      · exact h26c
      · exact h73
      · exact h74c
    · intro l o hd
      simp only [dec28c] at hd
      split at hd
      · have hq := (chk_some hd).1
        simp only [Bool.and_eq_true, decide_eq_true_eq] at hq
        obtain ⟨⟨rfl, rfl⟩, rfl⟩ := hq
        exact ⟨rfl, rfl⟩
      · cases hd
  · cases hx
end Go.Proofs.YtbjfbbfglkmadaaDoor
