import Derived.Test.YtaioadjcdjmkdaaQFI
namespace Go.Proofs.Ytaioadjcdjmkdaa
open Go.RowKit
set_option linter.unusedVariables false
def E9 (a16 : Option (Bool)) (a23 : (List Int) → (List Int) → Option (Bool)) (a33 : (Int × List (List Int) × Unit) → (List Int) → Option (List Int × Int)) (a37 : (Int × List (List Int) × Unit) → (List Int) → (List Int) → Option (Int)) (a41 : (Int × List (List Int) × Unit) → Option (Int × List (List Int) × Unit)) (a43 : (Int × List (List Int) × Unit) → (List Int) → Option (List Int)) (a44 : (List Int) → Option (List Int)) (a46c47 : Int → Int → (List Int) → (List (Int × List (List Int) × Unit)) → (List Int) → Option (Bool × List Int × List (Int × List (List Int) × Unit) × List Int)) : Env := mkE TI TY [(16, F16 a16), (23, F23 a23), (33, F33 a33), (37, F37 a37), (41, F41 a41), (43, F43 a43), (44, F44 a44), (46, F46c47 a46c47)] (fun i => ([(6, [some (.arr 0 (.int .i64))]), (9, [some (.sl (.int .i64))])] : List (Nat × List (Option DT))).lookup i) nfz
noncomputable def c9 : Code := bodyOf Try.f9
def nm9_0 : Norm := ⟨[1, 5, 6, 7], [5, 6], [(.fld 6 0, 2100, .int .i64)], []⟩
def nm9_1 : Norm := ⟨[5, 6, 8, 9, 10, 11], [5, 6, 8, 9, 2100], [], []⟩
def nm9_2 : Norm := ⟨[5, 6, 12, 93, 94], [5, 6, 2100], [], []⟩
def lv9 : Nat → Option Norm := norms [(4, nm9_0), (12, nm9_1), (21, nm9_2)]
def en9 : End := ⟨[], ⟨[132], [], [], []⟩⟩
def dec9 (l : List TV) (o : List (Nat × TO)) : Option (Bool) := match l, o with | [.dv (.bool) x0], [] => some (x0) | _, _ => none
noncomputable def K9_0 (a16 : Option (Bool)) (a23 : (List Int) → (List Int) → Option (Bool)) (a33 : (Int × List (List Int) × Unit) → (List Int) → Option (List Int × Int)) (a37 : (Int × List (List Int) × Unit) → (List Int) → (List Int) → Option (Int)) (a41 : (Int × List (List Int) × Unit) → Option (Int × List (List Int) × Unit)) (a43 : (Int × List (List Int) × Unit) → (List Int) → Option (List Int)) (a44 : (List Int) → Option (List Int)) (a46c47 : Int → Int → (List Int) → (List (Int × List (List Int) × Unit)) → (List Int) → Option (Bool × List Int × List (Int × List (List Int) × Unit) × List Int)) (N : Nat) : Kont (Bool) := kont (E9 a16 a23 a33 a37 a41 a43 a44 a46c47) lv9 N c9 [1, 1, 1, 0, 1, 0] (fin TI en9 (resOf Try.f9) dec9)
noncomputable def R9_0 (a16 : Option (Bool)) (a23 : (List Int) → (List Int) → Option (Bool)) (a33 : (Int × List (List Int) × Unit) → (List Int) → Option (List Int × Int)) (a37 : (Int × List (List Int) × Unit) → (List Int) → (List Int) → Option (Int)) (a41 : (Int × List (List Int) × Unit) → Option (Int × List (List Int) × Unit)) (a43 : (Int × List (List Int) × Unit) → (List Int) → Option (List Int)) (a44 : (List Int) → Option (List Int)) (a46c47 : Int → Int → (List Int) → (List (Int × List (List Int) × Unit)) → (List Int) → Option (Bool × List Int × List (Int × List (List Int) × Unit) × List Int)) (N : Nat) (m : Nat) : TS → Option (Bool) := loopK (den (E9 a16 a23 a33 a37 a41 a43 a44 a46c47) lv9 N (sub c9 [1, 1, 1, 0, 1, 0, 0])) (TS.norm nm9_0) (K9_0 a16 a23 a33 a37 a41 a43 a44 a46c47 N) m
noncomputable def K9_1 (a16 : Option (Bool)) (a23 : (List Int) → (List Int) → Option (Bool)) (a33 : (Int × List (List Int) × Unit) → (List Int) → Option (List Int × Int)) (a37 : (Int × List (List Int) × Unit) → (List Int) → (List Int) → Option (Int)) (a41 : (Int × List (List Int) × Unit) → Option (Int × List (List Int) × Unit)) (a43 : (Int × List (List Int) × Unit) → (List Int) → Option (List Int)) (a44 : (List Int) → Option (List Int)) (a46c47 : Int → Int → (List Int) → (List (Int × List (List Int) × Unit)) → (List Int) → Option (Bool × List Int × List (Int × List (List Int) × Unit) × List Int)) (N : Nat) : Kont (Bool) := kont (E9 a16 a23 a33 a37 a41 a43 a44 a46c47) lv9 N c9 [1, 1, 1, 1, 1, 1, 1, 0, 1, 0] (fin TI en9 (resOf Try.f9) dec9)
noncomputable def R9_1 (a16 : Option (Bool)) (a23 : (List Int) → (List Int) → Option (Bool)) (a33 : (Int × List (List Int) × Unit) → (List Int) → Option (List Int × Int)) (a37 : (Int × List (List Int) × Unit) → (List Int) → (List Int) → Option (Int)) (a41 : (Int × List (List Int) × Unit) → Option (Int × List (List Int) × Unit)) (a43 : (Int × List (List Int) × Unit) → (List Int) → Option (List Int)) (a44 : (List Int) → Option (List Int)) (a46c47 : Int → Int → (List Int) → (List (Int × List (List Int) × Unit)) → (List Int) → Option (Bool × List Int × List (Int × List (List Int) × Unit) × List Int)) (N : Nat) (m : Nat) : TS → Option (Bool) := loopK (den (E9 a16 a23 a33 a37 a41 a43 a44 a46c47) lv9 N (sub c9 [1, 1, 1, 1, 1, 1, 1, 0, 1, 0, 0])) (TS.norm nm9_1) (K9_1 a16 a23 a33 a37 a41 a43 a44 a46c47 N) m
noncomputable def K9_2 (a16 : Option (Bool)) (a23 : (List Int) → (List Int) → Option (Bool)) (a33 : (Int × List (List Int) × Unit) → (List Int) → Option (List Int × Int)) (a37 : (Int × List (List Int) × Unit) → (List Int) → (List Int) → Option (Int)) (a41 : (Int × List (List Int) × Unit) → Option (Int × List (List Int) × Unit)) (a43 : (Int × List (List Int) × Unit) → (List Int) → Option (List Int)) (a44 : (List Int) → Option (List Int)) (a46c47 : Int → Int → (List Int) → (List (Int × List (List Int) × Unit)) → (List Int) → Option (Bool × List Int × List (Int × List (List Int) × Unit) × List Int)) (N : Nat) : Kont (Bool) := kont (E9 a16 a23 a33 a37 a41 a43 a44 a46c47) lv9 N c9 [1, 1, 1, 1, 1, 1, 1, 1, 1, 1, 1, 0, 1, 0] (fin TI en9 (resOf Try.f9) dec9)
noncomputable def R9_2 (a16 : Option (Bool)) (a23 : (List Int) → (List Int) → Option (Bool)) (a33 : (Int × List (List Int) × Unit) → (List Int) → Option (List Int × Int)) (a37 : (Int × List (List Int) × Unit) → (List Int) → (List Int) → Option (Int)) (a41 : (Int × List (List Int) × Unit) → Option (Int × List (List Int) × Unit)) (a43 : (Int × List (List Int) × Unit) → (List Int) → Option (List Int)) (a44 : (List Int) → Option (List Int)) (a46c47 : Int → Int → (List Int) → (List (Int × List (List Int) × Unit)) → (List Int) → Option (Bool × List Int × List (Int × List (List Int) × Unit) × List Int)) (N : Nat) (m : Nat) : TS → Option (Bool) := loopK (den (E9 a16 a23 a33 a37 a41 a43 a44 a46c47) lv9 N (sub c9 [1, 1, 1, 1, 1, 1, 1, 1, 1, 1, 1, 0, 1, 0, 0])) (TS.norm nm9_2) (K9_2 a16 a23 a33 a37 a41 a43 a44 a46c47 N) m
def Sl9c (o5_b : List (Int × List (List Int) × Unit)) (o2100_b : List Int) (l12_c : List Int) (t93_c : Int) (t94_c : Int) : TS := ⟨slots 132 [(5, .ptr 5 0 []), (6, .ptr 6 0 [0]), (12, .dv (.sl (.int .i64)) l12_c), (93, .dv (.int .i64) t93_c), (94, .dv (.int .i64) t94_c)], [(5, .row (.pair (.int .i64) (.pair (.sl (.sl (.int .i64))) (.unit))) o5_b), (6, .rcd [.row 2100]), (2100, .frz (.int .i64) o2100_b)]⟩
def Sl9b (found10_b : Bool) (size11_b : Int) (o5_b : List (Int × List (List Int) × Unit)) (o9_bf0 : List Int) (o2100_b : List Int) : TS := ⟨slots 132 [(5, .ptr 5 0 []), (6, .ptr 6 0 [0]), (8, .ptr 8 0 [0]), (9, .ptr 9 0 [0]), (10, .dv (.bool) found10_b), (11, .dv (.int .i64) size11_b)], [(5, .row (.pair (.int .i64) (.pair (.sl (.sl (.int .i64))) (.unit))) o5_b), (6, .rcd [.row 2100]), (8, .rcd [.fn 45 0 2 fun i => ([.ptr 5 0 [], .ptr 6 0 [0]] : List TV).getD i .any]), (9, .rcd [.dv (.sl (.int .i64)) o9_bf0]), (2100, .row (.int .i64) o2100_b)]⟩
def Sl9a (sketch1 : Int) (r1 : Int × List (List Int) × Unit) (c7_a : Int) (o2100_a : List Int) : TS := ⟨slots 132 [(1, .dv (.int .u8) sketch1), (5, .ptr 5 0 []), (6, .ptr 6 0 [0]), (7, .dv (.int .i64) c7_a)], [(2100, .row (.int .i64) o2100_a), (5, .row (.pair (.int .i64) (.pair (.sl (.sl (.int .i64))) (.unit))) ([r1] : List (Int × List (List Int) × Unit))), (6, .rcd [.row 2100])]⟩
def l9c (a16 : Option (Bool)) (a23 : (List Int) → (List Int) → Option (Bool)) (a33 : (Int × List (List Int) × Unit) → (List Int) → Option (List Int × Int)) (a37 : (Int × List (List Int) × Unit) → (List Int) → (List Int) → Option (Int)) (a41 : (Int × List (List Int) × Unit) → Option (Int × List (List Int) × Unit)) (a43 : (Int × List (List Int) × Unit) → (List Int) → Option (List Int)) (a44 : (List Int) → Option (List Int)) (a46c47 : Int → Int → (List Int) → (List (Int × List (List Int) × Unit)) → (List Int) → Option (Bool × List Int × List (Int × List (List Int) × Unit) × List Int)) (N : Nat) (o5_b : List (Int × List (List Int) × Unit)) (o2100_b : List Int) : Nat → (List Int) → Int → Int → Option (Bool)
  | 0, _, _, _ => none
  | n + 1, l12_c, t93_c, t94_c => cond (decide (t94_c < t93_c)) (chk (decide (0 ≤ t94_c ∧ t94_c ≤ (l12_c.length : Int))) ((a43 (o5_b.getD 0 ((0 : Int), (([] : List (List Int)), ()))) (l12_c.take t94_c.toNat)).bind fun r7 =>
      (a44 r7).bind fun r8 =>
      chk (decide (0 ≤ w64 (t94_c + (1 : Int)) ∧ w64 (t94_c + (1 : Int)) ≤ (l12_c.length : Int))) ((a43 (o5_b.getD 0 ((0 : Int), (([] : List (List Int)), ()))) (l12_c.take ((w64 (t94_c + (1 : Int))).toNat))).bind fun r9 =>
      (a44 r9).bind fun r10 =>
      cond (decide ((r10.length : Int) ≤ (r8.length : Int))) (some false)
      (cond (decide ((r10.length : Int) > (w64 ((2 : Int) * (r8.length : Int))))) (some false)
      (chk (decide (0 ≤ t94_c ∧ t94_c ≤ (l12_c.length : Int))) ((a37 (o5_b.getD 0 ((0 : Int), (([] : List (List Int)), ()))) o2100_b (l12_c.take t94_c.toNat)).bind fun r11 =>
      cond (r11 != (13 : Int)) (some false)
      ((l9c a16 a23 a33 a37 a41 a43 a44 a46c47 N o5_b o2100_b n l12_c t93_c (w64 (t94_c + (1 : Int)))))))))))
      ((a16).bind fun r12 =>
      some r12)
theorem wl9c (a16 : Option (Bool)) (a23 : (List Int) → (List Int) → Option (Bool)) (a33 : (Int × List (List Int) × Unit) → (List Int) → Option (List Int × Int)) (a37 : (Int × List (List Int) × Unit) → (List Int) → (List Int) → Option (Int)) (a41 : (Int × List (List Int) × Unit) → Option (Int × List (List Int) × Unit)) (a43 : (Int × List (List Int) × Unit) → (List Int) → Option (List Int)) (a44 : (List Int) → Option (List Int)) (a46c47 : Int → Int → (List Int) → (List (Int × List (List Int) × Unit)) → (List Int) → Option (Bool × List Int × List (Int × List (List Int) × Unit) × List Int)) (N : Nat) (o5_b : List (Int × List (List Int) × Unit)) (o2100_b : List Int) (m : Nat) (l12_c : List Int) (t93_c : Int) (t94_c : Int) : R9_2 a16 a23 a33 a37 a41 a43 a44 a46c47 N (m + 1) (Sl9c o5_b o2100_b l12_c t93_c t94_c) = cond (decide (t94_c < t93_c)) (chk (decide (0 ≤ t94_c ∧ t94_c ≤ (l12_c.length : Int))) ((a43 (o5_b.getD 0 ((0 : Int), (([] : List (List Int)), ()))) (l12_c.take t94_c.toNat)).bind fun r7 =>
      (a44 r7).bind fun r8 =>
      chk (decide (0 ≤ w64 (t94_c + (1 : Int)) ∧ w64 (t94_c + (1 : Int)) ≤ (l12_c.length : Int))) ((a43 (o5_b.getD 0 ((0 : Int), (([] : List (List Int)), ()))) (l12_c.take ((w64 (t94_c + (1 : Int))).toNat))).bind fun r9 =>
      (a44 r9).bind fun r10 =>
      cond (decide ((r10.length : Int) ≤ (r8.length : Int))) (some false)
      (cond (decide ((r10.length : Int) > (w64 ((2 : Int) * (r8.length : Int))))) (some false)
      (chk (decide (0 ≤ t94_c ∧ t94_c ≤ (l12_c.length : Int))) ((a37 (o5_b.getD 0 ((0 : Int), (([] : List (List Int)), ()))) o2100_b (l12_c.take t94_c.toNat)).bind fun r11 =>
      cond (r11 != (13 : Int)) (some false)
      ((R9_2 a16 a23 a33 a37 a41 a43 a44 a46c47 N m (Sl9c o5_b o2100_b l12_c t93_c (w64 (t94_c + (1 : Int))))))))))))
      ((a16).bind fun r12 =>
      some r12) := by kernel_rfl
theorem ql9c (a16 : Option (Bool)) (a23 : (List Int) → (List Int) → Option (Bool)) (a33 : (Int × List (List Int) × Unit) → (List Int) → Option (List Int × Int)) (a37 : (Int × List (List Int) × Unit) → (List Int) → (List Int) → Option (Int)) (a41 : (Int × List (List Int) × Unit) → Option (Int × List (List Int) × Unit)) (a43 : (Int × List (List Int) × Unit) → (List Int) → Option (List Int)) (a44 : (List Int) → Option (List Int)) (a46c47 : Int → Int → (List Int) → (List (Int × List (List Int) × Unit)) → (List Int) → Option (Bool × List Int × List (Int × List (List Int) × Unit) × List Int)) (N : Nat) (o5_b : List (Int × List (List Int) × Unit)) (o2100_b : List Int) : ∀ (m : Nat) (l12_c : List Int) (t93_c : Int) (t94_c : Int), R9_2 a16 a23 a33 a37 a41 a43 a44 a46c47 N m (Sl9c o5_b o2100_b l12_c t93_c t94_c) = l9c a16 a23 a33 a37 a41 a43 a44 a46c47 N o5_b o2100_b m l12_c t93_c t94_c
        | 0, _, _, _ => rfl
        | m + 1, l12_c, t93_c, t94_c => by rw [wl9c]; simp only [l9c, ql9c a16 a23 a33 a37 a41 a43 a44 a46c47 N o5_b o2100_b m]
def l9b (a16 : Option (Bool)) (a23 : (List Int) → (List Int) → Option (Bool)) (a33 : (Int × List (List Int) × Unit) → (List Int) → Option (List Int × Int)) (a37 : (Int × List (List Int) × Unit) → (List Int) → (List Int) → Option (Int)) (a41 : (Int × List (List Int) × Unit) → Option (Int × List (List Int) × Unit)) (a43 : (Int × List (List Int) × Unit) → (List Int) → Option (List Int)) (a44 : (List Int) → Option (List Int)) (a46c47 : Int → Int → (List Int) → (List (Int × List (List Int) × Unit)) → (List Int) → Option (Bool × List Int × List (Int × List (List Int) × Unit) × List Int)) (N : Nat) : Nat → Bool → Int → (List (Int × List (List Int) × Unit)) → (List Int) → (List Int) → Option (Bool)
  | 0, _, _, _, _, _ => none
  | n + 1, found10_b, size11_b, o5_b, o9_bf0, o2100_b => cond (decide (size11_b < ((o5_b.getD 0 ((0 : Int), (([] : List (List Int)), ()))).1))) (cond (!found10_b) ((a46c47 ((((o5_b.getD 0 ((0 : Int), (([] : List (List Int)), ()))).2).1).length : Int) size11_b o9_bf0 o5_b o2100_b).bind fun r2 =>
      (l9b a16 a23 a33 a37 a41 a43 a44 a46c47 N n r2.1 (w64 (size11_b + (1 : Int))) r2.2.2.1 r2.2.1 r2.2.2.2))
      ((a33 (o5_b.getD 0 ((0 : Int), (([] : List (List Int)), ()))) o2100_b).bind fun r3 =>
      cond (!found10_b) (cond (r3.2 == (14 : Int)) (cond ((r3.1.length : Int) == (0 : Int)) ((a16).bind fun r4 =>
      some r4)
      (some false))
      (some false))
      (cond (r3.2 != (0 : Int)) (some false)
      ((a23 r3.1 o9_bf0).bind fun r5 =>
      cond (!r5) (some false)
      (cond (decide ((r3.1.length : Int) > (w64 (((o5_b.getD 0 ((0 : Int), (([] : List (List Int)), ()))).1) - (1 : Int))))) (some false)
      ((a37 (o5_b.getD 0 ((0 : Int), (([] : List (List Int)), ()))) o2100_b r3.1).bind fun r6 =>
      cond (r6 != (0 : Int)) (some false)
      ((l9c a16 a23 a33 a37 a41 a43 a44 a46c47 N o5_b o2100_b N r3.1 (r3.1.length : Int) (0 : Int)))))))))
      ((a33 (o5_b.getD 0 ((0 : Int), (([] : List (List Int)), ()))) o2100_b).bind fun r13 =>
      cond (!found10_b) (cond (r13.2 == (14 : Int)) (cond ((r13.1.length : Int) == (0 : Int)) ((a16).bind fun r14 =>
      some r14)
      (some false))
      (some false))
      (cond (r13.2 != (0 : Int)) (some false)
      ((a23 r13.1 o9_bf0).bind fun r15 =>
      cond (!r15) (some false)
      (cond (decide ((r13.1.length : Int) > (w64 (((o5_b.getD 0 ((0 : Int), (([] : List (List Int)), ()))).1) - (1 : Int))))) (some false)
      ((a37 (o5_b.getD 0 ((0 : Int), (([] : List (List Int)), ()))) o2100_b r13.1).bind fun r16 =>
      cond (r16 != (0 : Int)) (some false)
      ((l9c a16 a23 a33 a37 a41 a43 a44 a46c47 N o5_b o2100_b N r13.1 (r13.1.length : Int) (0 : Int))))))))
theorem wl9b (a16 : Option (Bool)) (a23 : (List Int) → (List Int) → Option (Bool)) (a33 : (Int × List (List Int) × Unit) → (List Int) → Option (List Int × Int)) (a37 : (Int × List (List Int) × Unit) → (List Int) → (List Int) → Option (Int)) (a41 : (Int × List (List Int) × Unit) → Option (Int × List (List Int) × Unit)) (a43 : (Int × List (List Int) × Unit) → (List Int) → Option (List Int)) (a44 : (List Int) → Option (List Int)) (a46c47 : Int → Int → (List Int) → (List (Int × List (List Int) × Unit)) → (List Int) → Option (Bool × List Int × List (Int × List (List Int) × Unit) × List Int)) (N : Nat) (m : Nat) (found10_b : Bool) (size11_b : Int) (o5_b : List (Int × List (List Int) × Unit)) (o9_bf0 : List Int) (o2100_b : List Int) : R9_1 a16 a23 a33 a37 a41 a43 a44 a46c47 N (m + 1) (Sl9b found10_b size11_b o5_b o9_bf0 o2100_b) = cond (decide (size11_b < ((o5_b.getD 0 ((0 : Int), (([] : List (List Int)), ()))).1))) (cond (!found10_b) ((a46c47 ((((o5_b.getD 0 ((0 : Int), (([] : List (List Int)), ()))).2).1).length : Int) size11_b o9_bf0 o5_b o2100_b).bind fun r2 =>
      (R9_1 a16 a23 a33 a37 a41 a43 a44 a46c47 N m (Sl9b r2.1 (w64 (size11_b + (1 : Int))) r2.2.2.1 r2.2.1 r2.2.2.2)))
      ((a33 (o5_b.getD 0 ((0 : Int), (([] : List (List Int)), ()))) o2100_b).bind fun r3 =>
      cond (!found10_b) (cond (r3.2 == (14 : Int)) (cond ((r3.1.length : Int) == (0 : Int)) ((a16).bind fun r4 =>
      some r4)
      (some false))
      (some false))
      (cond (r3.2 != (0 : Int)) (some false)
      ((a23 r3.1 o9_bf0).bind fun r5 =>
      cond (!r5) (some false)
      (cond (decide ((r3.1.length : Int) > (w64 (((o5_b.getD 0 ((0 : Int), (([] : List (List Int)), ()))).1) - (1 : Int))))) (some false)
      ((a37 (o5_b.getD 0 ((0 : Int), (([] : List (List Int)), ()))) o2100_b r3.1).bind fun r6 =>
      cond (r6 != (0 : Int)) (some false)
      ((R9_2 a16 a23 a33 a37 a41 a43 a44 a46c47 N N (Sl9c o5_b o2100_b r3.1 (r3.1.length : Int) (0 : Int))))))))))
      ((a33 (o5_b.getD 0 ((0 : Int), (([] : List (List Int)), ()))) o2100_b).bind fun r13 =>
      cond (!found10_b) (cond (r13.2 == (14 : Int)) (cond ((r13.1.length : Int) == (0 : Int)) ((a16).bind fun r14 =>
      some r14)
      (some false))
      (some false))
      (cond (r13.2 != (0 : Int)) (some false)
      ((a23 r13.1 o9_bf0).bind fun r15 =>
      cond (!r15) (some false)
      (cond (decide ((r13.1.length : Int) > (w64 (((o5_b.getD 0 ((0 : Int), (([] : List (List Int)), ()))).1) - (1 : Int))))) (some false)
      ((a37 (o5_b.getD 0 ((0 : Int), (([] : List (List Int)), ()))) o2100_b r13.1).bind fun r16 =>
      cond (r16 != (0 : Int)) (some false)
      ((R9_2 a16 a23 a33 a37 a41 a43 a44 a46c47 N N (Sl9c o5_b o2100_b r13.1 (r13.1.length : Int) (0 : Int))))))))) := by kernel_rfl
theorem ql9b (a16 : Option (Bool)) (a23 : (List Int) → (List Int) → Option (Bool)) (a33 : (Int × List (List Int) × Unit) → (List Int) → Option (List Int × Int)) (a37 : (Int × List (List Int) × Unit) → (List Int) → (List Int) → Option (Int)) (a41 : (Int × List (List Int) × Unit) → Option (Int × List (List Int) × Unit)) (a43 : (Int × List (List Int) × Unit) → (List Int) → Option (List Int)) (a44 : (List Int) → Option (List Int)) (a46c47 : Int → Int → (List Int) → (List (Int × List (List Int) × Unit)) → (List Int) → Option (Bool × List Int × List (Int × List (List Int) × Unit) × List Int)) (N : Nat) : ∀ (m : Nat) (found10_b : Bool) (size11_b : Int) (o5_b : List (Int × List (List Int) × Unit)) (o9_bf0 : List Int) (o2100_b : List Int), R9_1 a16 a23 a33 a37 a41 a43 a44 a46c47 N m (Sl9b found10_b size11_b o5_b o9_bf0 o2100_b) = l9b a16 a23 a33 a37 a41 a43 a44 a46c47 N m found10_b size11_b o5_b o9_bf0 o2100_b
        | 0, _, _, _, _, _ => rfl
        | m + 1, found10_b, size11_b, o5_b, o9_bf0, o2100_b => by rw [wl9b]; simp only [l9b, ql9c, ql9b a16 a23 a33 a37 a41 a43 a44 a46c47 N m]
def l9a (a16 : Option (Bool)) (a23 : (List Int) → (List Int) → Option (Bool)) (a33 : (Int × List (List Int) × Unit) → (List Int) → Option (List Int × Int)) (a37 : (Int × List (List Int) × Unit) → (List Int) → (List Int) → Option (Int)) (a41 : (Int × List (List Int) × Unit) → Option (Int × List (List Int) × Unit)) (a43 : (Int × List (List Int) × Unit) → (List Int) → Option (List Int)) (a44 : (List Int) → Option (List Int)) (a46c47 : Int → Int → (List Int) → (List (Int × List (List Int) × Unit)) → (List Int) → Option (Bool × List Int × List (Int × List (List Int) × Unit) × List Int)) (N : Nat) (sketch1 : Int) (r1 : Int × List (List Int) × Unit) : Nat → Int → (List Int) → Option (Bool)
  | 0, _, _ => none
  | n + 1, c7_a, o2100_a => cond (decide (c7_a < r1.1)) (chk (decide (0 ≤ c7_a)) (cond ((bAnd .u8 (Int.fdiv sketch1 (2 ^ min (Int.toNat c7_a) 8)) (1 : Int)) == (1 : Int)) (chk (small (o2100_a.length + 1) 8) ((l9a a16 a23 a33 a37 a41 a43 a44 a46c47 N sketch1 r1 n (w64 (c7_a + (1 : Int))) (o2100_a ++ ([c7_a] : List Int)))))
      ((l9a a16 a23 a33 a37 a41 a43 a44 a46c47 N sketch1 r1 n (w64 (c7_a + (1 : Int))) o2100_a))))
      ((l9b a16 a23 a33 a37 a41 a43 a44 a46c47 N N false (0 : Int) ([r1] : List (Int × List (List Int) × Unit)) ([] : List Int) o2100_a))
theorem wl9a (a16 : Option (Bool)) (a23 : (List Int) → (List Int) → Option (Bool)) (a33 : (Int × List (List Int) × Unit) → (List Int) → Option (List Int × Int)) (a37 : (Int × List (List Int) × Unit) → (List Int) → (List Int) → Option (Int)) (a41 : (Int × List (List Int) × Unit) → Option (Int × List (List Int) × Unit)) (a43 : (Int × List (List Int) × Unit) → (List Int) → Option (List Int)) (a44 : (List Int) → Option (List Int)) (a46c47 : Int → Int → (List Int) → (List (Int × List (List Int) × Unit)) → (List Int) → Option (Bool × List Int × List (Int × List (List Int) × Unit) × List Int)) (N : Nat) (sketch1 : Int) (r1 : Int × List (List Int) × Unit) (m : Nat) (c7_a : Int) (o2100_a : List Int) : R9_0 a16 a23 a33 a37 a41 a43 a44 a46c47 N (m + 1) (Sl9a sketch1 r1 c7_a o2100_a) = cond (decide (c7_a < r1.1)) (chk (decide (0 ≤ c7_a)) (cond ((bAnd .u8 (Int.fdiv sketch1 (2 ^ min (Int.toNat c7_a) 8)) (1 : Int)) == (1 : Int)) (chk (small (o2100_a.length + 1) 8) ((R9_0 a16 a23 a33 a37 a41 a43 a44 a46c47 N m (Sl9a sketch1 r1 (w64 (c7_a + (1 : Int))) (o2100_a ++ ([c7_a] : List Int))))))
      ((R9_0 a16 a23 a33 a37 a41 a43 a44 a46c47 N m (Sl9a sketch1 r1 (w64 (c7_a + (1 : Int))) o2100_a)))))
      ((R9_1 a16 a23 a33 a37 a41 a43 a44 a46c47 N N (Sl9b false (0 : Int) ([r1] : List (Int × List (List Int) × Unit)) ([] : List Int) o2100_a))) := by kernel_rfl
theorem ql9a (a16 : Option (Bool)) (a23 : (List Int) → (List Int) → Option (Bool)) (a33 : (Int × List (List Int) × Unit) → (List Int) → Option (List Int × Int)) (a37 : (Int × List (List Int) × Unit) → (List Int) → (List Int) → Option (Int)) (a41 : (Int × List (List Int) × Unit) → Option (Int × List (List Int) × Unit)) (a43 : (Int × List (List Int) × Unit) → (List Int) → Option (List Int)) (a44 : (List Int) → Option (List Int)) (a46c47 : Int → Int → (List Int) → (List (Int × List (List Int) × Unit)) → (List Int) → Option (Bool × List Int × List (Int × List (List Int) × Unit) × List Int)) (N : Nat) (sketch1 : Int) (r1 : Int × List (List Int) × Unit) : ∀ (m : Nat) (c7_a : Int) (o2100_a : List Int), R9_0 a16 a23 a33 a37 a41 a43 a44 a46c47 N m (Sl9a sketch1 r1 c7_a o2100_a) = l9a a16 a23 a33 a37 a41 a43 a44 a46c47 N sketch1 r1 m c7_a o2100_a
        | 0, _, _ => rfl
        | m + 1, c7_a, o2100_a => by rw [wl9a]; simp only [l9a, ql9b, ql9a a16 a23 a33 a37 a41 a43 a44 a46c47 N sketch1 r1 m]
def m9 (a16 : Option (Bool)) (a23 : (List Int) → (List Int) → Option (Bool)) (a33 : (Int × List (List Int) × Unit) → (List Int) → Option (List Int × Int)) (a37 : (Int × List (List Int) × Unit) → (List Int) → (List Int) → Option (Int)) (a41 : (Int × List (List Int) × Unit) → Option (Int × List (List Int) × Unit)) (a43 : (Int × List (List Int) × Unit) → (List Int) → Option (List Int)) (a44 : (List Int) → Option (List Int)) (a46c47 : Int → Int → (List Int) → (List (Int × List (List Int) × Unit)) → (List Int) → Option (Bool × List Int × List (Int × List (List Int) × Unit) × List Int)) (N : Nat) (e0 : Int × List (List Int) × Unit) (sketch1 : Int) : Option (Bool) :=
      (a41 e0).bind fun r1 =>
      (l9a a16 a23 a33 a37 a41 a43 a44 a46c47 N sketch1 r1 N (0 : Int) ([] : List Int))
theorem wm9 (a16 : Option (Bool)) (a23 : (List Int) → (List Int) → Option (Bool)) (a33 : (Int × List (List Int) × Unit) → (List Int) → Option (List Int × Int)) (a37 : (Int × List (List Int) × Unit) → (List Int) → (List Int) → Option (Int)) (a41 : (Int × List (List Int) × Unit) → Option (Int × List (List Int) × Unit)) (a43 : (Int × List (List Int) × Unit) → (List Int) → Option (List Int)) (a44 : (List Int) → Option (List Int)) (a46c47 : Int → Int → (List Int) → (List (Int × List (List Int) × Unit)) → (List Int) → Option (Bool × List Int × List (Int × List (List Int) × Unit) × List Int)) (N : Nat) (e0 : Int × List (List Int) × Unit) (sketch1 : Int) : callF (E9 a16 a23 a33 a37 a41 a43 a44 a46c47) lv9 N en9 c9 (resOf Try.f9) 130 [.dv (.pair (.int .u8) (.pair (.sl (.arr 5 (.int .u8))) (.unit))) e0, .dv (.int .u8) sketch1] [] dec9 = (a41 e0).bind fun r1 =>
      (R9_0 a16 a23 a33 a37 a41 a43 a44 a46c47 N N (Sl9a sketch1 r1 (0 : Int) ([] : List Int))) := by kernel_rfl
theorem k9 (a16 : Option (Bool)) (a23 : (List Int) → (List Int) → Option (Bool)) (a33 : (Int × List (List Int) × Unit) → (List Int) → Option (List Int × Int)) (a37 : (Int × List (List Int) × Unit) → (List Int) → (List Int) → Option (Int)) (a41 : (Int × List (List Int) × Unit) → Option (Int × List (List Int) × Unit)) (a43 : (Int × List (List Int) × Unit) → (List Int) → Option (List Int)) (a44 : (List Int) → Option (List Int)) (a46c47 : Int → Int → (List Int) → (List (Int × List (List Int) × Unit)) → (List Int) → Option (Bool × List Int × List (Int × List (List Int) × Unit) × List Int)) (N : Nat) (e0 : Int × List (List Int) × Unit) (sketch1 : Int) : callF (E9 a16 a23 a33 a37 a41 a43 a44 a46c47) lv9 N en9 c9 (resOf Try.f9) 130 [.dv (.pair (.int .u8) (.pair (.sl (.arr 5 (.int .u8))) (.unit))) e0, .dv (.int .u8) sketch1] [] dec9 = m9 a16 a23 a33 a37 a41 a43 a44 a46c47 N e0 sketch1 := by rw [wm9]; simp only [m9, ql9a]
theorem ok9 (a16 : Option (Bool)) (a23 : (List Int) → (List Int) → Option (Bool)) (a33 : (Int × List (List Int) × Unit) → (List Int) → Option (List Int × Int)) (a37 : (Int × List (List Int) × Unit) → (List Int) → (List Int) → Option (Int)) (a41 : (Int × List (List Int) × Unit) → Option (Int × List (List Int) × Unit)) (a43 : (Int × List (List Int) × Unit) → (List Int) → Option (List Int)) (a44 : (List Int) → Option (List Int)) (a46c47 : Int → Int → (List Int) → (List (Int × List (List Int) × Unit)) → (List Int) → Option (Bool × List Int × List (Int × List (List Int) × Unit) × List Int)) (h16 : FnOk Try.prog 16 (F16 a16)) (h23 : FnOk Try.prog 23 (F23 a23)) (h33 : FnOk Try.prog 33 (F33 a33)) (h37 : FnOk Try.prog 37 (F37 a37)) (h41 : FnOk Try.prog 41 (F41 a41)) (h43 : FnOk Try.prog 43 (F43 a43)) (h44 : FnOk Try.prog 44 (F44 a44)) (h46c47 : FnOk Try.prog 46 (F46c47 a46c47)) (a : (Int × List (List Int) × Unit) → Int → Option (Bool)) (h : ∀ e0 sketch1 r, a e0 sketch1 = some r → (∃ N, m9 a16 a23 a33 a37 a41 a43 a44 a46c47 N e0 sketch1 = some r)) : FnOk Try.prog 9 (F9 a) := by
  intro args Of x hx
  simp only [F9] at hx
  split at hx
  · rename_i e0 sketch1
    obtain ⟨N, hN⟩ := h _ _ _ hx
    refine lifted (L := [(16, F16 a16), (23, F23 a23), (33, F33 a33), (37, F37 a37), (41, F41 a41), (43, F43 a43), (44, F44 a44), (46, F46c47 a46c47)]) (rc := (fun i => ([(6, [some (.arr 0 (.int .i64))]), (9, [some (.sl (.int .i64))])] : List (Nat × List (Option DT))).lookup i)) (fz := nfz) (fn := Try.f9) (by kernel_rfl) (by kernel_rfl) (by kernel_rfl) (by kernel_rfl) rfl ?_ ((k9 a16 a23 a33 a37 a41 a43 a44 a46c47 N _ _).trans hN) ?_
    · intro p hp; simp only [List.mem_cons, List.not_mem_nil, or_false] at hp; rcases hp with rfl | rfl | rfl | rfl | rfl | rfl | rfl | rfl
      · exact h16
      · exact h23
      · exact h33
      · exact h37
      · exact h41
      · exact h43
      · exact h44
      · exact h46c47
    · intro l o hd
      simp only [dec9] at hd
      split at hd
      · obtain rfl := Option.some.inj hd; exact ⟨rfl, rfl⟩
      · cases hd
  · cases hx
end Go.Proofs.Ytaioadjcdjmkdaa
