import Derived.Test.YtbblnbolabpfmaaQFI
namespace Go.Proofs.Ytbblnbolabpfmaa
open Go.RowKit
set_option linter.unusedVariables false
def E10 (a14 : Option (Bool)) (a22 : (List Int) → (List Int) → Option (Bool)) (a30 : (List (Int × Int × Unit)) → Option (List Int × Int)) (a32 : (List (Int × Int × Unit)) → Option (List Int × Int)) (a38 : (List (Int × Int × Unit)) → Int → Option (Int × Int)) (a40 : (List (List Int)) → Option (List (Int × Int × Unit))) (a41 : (List (Int × Int × Unit)) → Option (Int × List Int)) (a43 : Int → Option (List Int)) : Env := mkE TI TY [(14, F14 a14), (22, F22 a22), (30, F30 a30), (32, F32 a32), (38, F38 a38), (40, F40 a40), (41, F41 a41), (43, F43 a43)] nrc nfz
noncomputable def c10 : Code := bodyOf Try.f10
def nm10_0 : Norm := ⟨[3, 4, 6, 7, 31, 32, 33], [], [], []⟩
def nm10_1 : Norm := ⟨[3, 4, 6, 79, 80, 81], [], [], []⟩
def lv10 : Nat → Option Norm := norms [(5, nm10_0), (14, nm10_1)]
def en10 : End := ⟨[], ⟨[139], [], [], []⟩⟩
def dec10 (l : List TV) (o : List (Nat × TO)) : Option (Bool) := match l, o with | [.dv (.bool) x0], [] => some (x0) | _, _ => none
noncomputable def K10_0 (a14 : Option (Bool)) (a22 : (List Int) → (List Int) → Option (Bool)) (a30 : (List (Int × Int × Unit)) → Option (List Int × Int)) (a32 : (List (Int × Int × Unit)) → Option (List Int × Int)) (a38 : (List (Int × Int × Unit)) → Int → Option (Int × Int)) (a40 : (List (List Int)) → Option (List (Int × Int × Unit))) (a41 : (List (Int × Int × Unit)) → Option (Int × List Int)) (a43 : Int → Option (List Int)) (N : Nat) : Kont (Bool) := kont (E10 a14 a22 a30 a32 a38 a40 a41 a43) lv10 N c10 [1, 1, 1, 1, 0, 1, 0] (fin TI en10 (resOf Try.f10) dec10)
noncomputable def R10_0 (a14 : Option (Bool)) (a22 : (List Int) → (List Int) → Option (Bool)) (a30 : (List (Int × Int × Unit)) → Option (List Int × Int)) (a32 : (List (Int × Int × Unit)) → Option (List Int × Int)) (a38 : (List (Int × Int × Unit)) → Int → Option (Int × Int)) (a40 : (List (List Int)) → Option (List (Int × Int × Unit))) (a41 : (List (Int × Int × Unit)) → Option (Int × List Int)) (a43 : Int → Option (List Int)) (N : Nat) (m : Nat) : TS → Option (Bool) := loopK (den (E10 a14 a22 a30 a32 a38 a40 a41 a43) lv10 N (sub c10 [1, 1, 1, 1, 0, 1, 0, 0])) (TS.norm nm10_0) (K10_0 a14 a22 a30 a32 a38 a40 a41 a43 N) m
noncomputable def K10_1 (a14 : Option (Bool)) (a22 : (List Int) → (List Int) → Option (Bool)) (a30 : (List (Int × Int × Unit)) → Option (List Int × Int)) (a32 : (List (Int × Int × Unit)) → Option (List Int × Int)) (a38 : (List (Int × Int × Unit)) → Int → Option (Int × Int)) (a40 : (List (List Int)) → Option (List (Int × Int × Unit))) (a41 : (List (Int × Int × Unit)) → Option (Int × List Int)) (a43 : Int → Option (List Int)) (N : Nat) : Kont (Bool) := kont (E10 a14 a22 a30 a32 a38 a40 a41 a43) lv10 N c10 [1, 1, 1, 1, 1, 1, 1, 1, 0, 1, 0] (fin TI en10 (resOf Try.f10) dec10)
noncomputable def R10_1 (a14 : Option (Bool)) (a22 : (List Int) → (List Int) → Option (Bool)) (a30 : (List (Int × Int × Unit)) → Option (List Int × Int)) (a32 : (List (Int × Int × Unit)) → Option (List Int × Int)) (a38 : (List (Int × Int × Unit)) → Int → Option (Int × Int)) (a40 : (List (List Int)) → Option (List (Int × Int × Unit))) (a41 : (List (Int × Int × Unit)) → Option (Int × List Int)) (a43 : Int → Option (List Int)) (N : Nat) (m : Nat) : TS → Option (Bool) := loopK (den (E10 a14 a22 a30 a32 a38 a40 a41 a43) lv10 N (sub c10 [1, 1, 1, 1, 1, 1, 1, 1, 0, 1, 0, 0])) (TS.norm nm10_1) (K10_1 a14 a22 a30 a32 a38 a40 a41 a43 N) m
def Sl10b (r1 : List (Int × Int × Unit)) (r2 : Int × List Int) (all6_a : Int) (t81_b : Int) : TS := ⟨slots 139 [(3, .dv (.sl (.pair (.int .i64) (.pair (.int .i64) (.unit)))) r1), (4, .dv (.int .i64) r2.1), (6, .dv (.int .i64) all6_a), (79, .dv (.sl (.pair (.int .i64) (.pair (.int .i64) (.unit)))) r1), (80, .dv (.int .i64) (r1.length : Int)), (81, .dv (.int .i64) t81_b)], []⟩
def Sl10a (r1 : List (Int × Int × Unit)) (r2 : Int × List Int) (all6_a : Int) (some7_a : Int) (t33_a : Int) : TS := ⟨slots 139 [(3, .dv (.sl (.pair (.int .i64) (.pair (.int .i64) (.unit)))) r1), (4, .dv (.int .i64) r2.1), (6, .dv (.int .i64) all6_a), (7, .dv (.int .i64) some7_a), (31, .dv (.sl (.int .i64)) r2.2), (32, .dv (.int .i64) (r2.2.length : Int)), (33, .dv (.int .i64) t33_a)], []⟩
def l10b (a14 : Option (Bool)) (a22 : (List Int) → (List Int) → Option (Bool)) (a30 : (List (Int × Int × Unit)) → Option (List Int × Int)) (a32 : (List (Int × Int × Unit)) → Option (List Int × Int)) (a38 : (List (Int × Int × Unit)) → Int → Option (Int × Int)) (a40 : (List (List Int)) → Option (List (Int × Int × Unit))) (a41 : (List (Int × Int × Unit)) → Option (Int × List Int)) (a43 : Int → Option (List Int)) (N : Nat) (r1 : List (Int × Int × Unit)) (r2 : Int × List Int) (all6_a : Int) : Nat → Int → Option (Bool)
  | 0, _ => none
  | n + 1, t81_b => cond (decide (t81_b < (r1.length : Int))) (chk (decide (0 ≤ t81_b ∧ t81_b < (r1.length : Int))) (chk (decide (0 ≤ t81_b ∧ t81_b ≤ (r1.length : Int))) (chk (small (0 + (r1.take t81_b.toNat).length) 16) (chk (decide (0 ≤ w64 (t81_b + (1 : Int)) ∧ w64 (t81_b + (1 : Int)) ≤ (r1.length : Int))) (chk (small ((([] : List (Int × Int × Unit)) ++ (r1.take t81_b.toNat)).length + (r1.drop ((w64 (t81_b + (1 : Int))).toNat)).length) 16) ((a41 ((([] : List (Int × Int × Unit)) ++ (r1.take t81_b.toNat)) ++ (r1.drop ((w64 (t81_b + (1 : Int))).toNat)))).bind fun r9 =>
      (a38 r1 t81_b).bind fun r10 =>
      cond (r10.2 != (0 : Int)) (some false)
      (cond (r10.1 != (w64 (r2.1 - r9.1))) (some false)
      (cond (decide (r10.1 < (0 : Int))) (some false)
      (cond (decide (r10.1 > (((r1.getD t81_b.toNat ((0 : Int), ((0 : Int), ()))).2).1))) (some false)
      (chk (decide (0 ≤ t81_b)) (cond ((r10.1 == (((r1.getD t81_b.toNat ((0 : Int), ((0 : Int), ()))).2).1)) != ((bAnd .i64 (Int.fdiv all6_a (2 ^ min (Int.toNat t81_b) 64)) (1 : Int)) == (0 : Int))) (some false)
      ((l10b a14 a22 a30 a32 a38 a40 a41 a43 N r1 r2 all6_a n (w64 (t81_b + (1 : Int))))))))))))))))
      ((a14).bind fun r11 =>
      some r11)
theorem wl10b (a14 : Option (Bool)) (a22 : (List Int) → (List Int) → Option (Bool)) (a30 : (List (Int × Int × Unit)) → Option (List Int × Int)) (a32 : (List (Int × Int × Unit)) → Option (List Int × Int)) (a38 : (List (Int × Int × Unit)) → Int → Option (Int × Int)) (a40 : (List (List Int)) → Option (List (Int × Int × Unit))) (a41 : (List (Int × Int × Unit)) → Option (Int × List Int)) (a43 : Int → Option (List Int)) (N : Nat) (r1 : List (Int × Int × Unit)) (r2 : Int × List Int) (all6_a : Int) (m : Nat) (t81_b : Int) : R10_1 a14 a22 a30 a32 a38 a40 a41 a43 N (m + 1) (Sl10b r1 r2 all6_a t81_b) = cond (decide (t81_b < (r1.length : Int))) (chk (decide (0 ≤ t81_b ∧ t81_b < (r1.length : Int))) (chk (decide (0 ≤ t81_b ∧ t81_b ≤ (r1.length : Int))) (chk (small (0 + (r1.take t81_b.toNat).length) 16) (chk (decide (0 ≤ w64 (t81_b + (1 : Int)) ∧ w64 (t81_b + (1 : Int)) ≤ (r1.length : Int))) (chk (small ((([] : List (Int × Int × Unit)) ++ (r1.take t81_b.toNat)).length + (r1.drop ((w64 (t81_b + (1 : Int))).toNat)).length) 16) ((a41 ((([] : List (Int × Int × Unit)) ++ (r1.take t81_b.toNat)) ++ (r1.drop ((w64 (t81_b + (1 : Int))).toNat)))).bind fun r9 =>
      (a38 r1 t81_b).bind fun r10 =>
      cond (r10.2 != (0 : Int)) (some false)
      (cond (r10.1 != (w64 (r2.1 - r9.1))) (some false)
      (cond (decide (r10.1 < (0 : Int))) (some false)
      (cond (decide (r10.1 > (((r1.getD t81_b.toNat ((0 : Int), ((0 : Int), ()))).2).1))) (some false)
      (chk (decide (0 ≤ t81_b)) (cond ((r10.1 == (((r1.getD t81_b.toNat ((0 : Int), ((0 : Int), ()))).2).1)) != ((bAnd .i64 (Int.fdiv all6_a (2 ^ min (Int.toNat t81_b) 64)) (1 : Int)) == (0 : Int))) (some false)
      ((R10_1 a14 a22 a30 a32 a38 a40 a41 a43 N m (Sl10b r1 r2 all6_a (w64 (t81_b + (1 : Int)))))))))))))))))
      ((a14).bind fun r11 =>
      some r11) := by kernel_rfl
theorem ql10b (a14 : Option (Bool)) (a22 : (List Int) → (List Int) → Option (Bool)) (a30 : (List (Int × Int × Unit)) → Option (List Int × Int)) (a32 : (List (Int × Int × Unit)) → Option (List Int × Int)) (a38 : (List (Int × Int × Unit)) → Int → Option (Int × Int)) (a40 : (List (List Int)) → Option (List (Int × Int × Unit))) (a41 : (List (Int × Int × Unit)) → Option (Int × List Int)) (a43 : Int → Option (List Int)) (N : Nat) (r1 : List (Int × Int × Unit)) (r2 : Int × List Int) (all6_a : Int) : ∀ (m : Nat) (t81_b : Int), R10_1 a14 a22 a30 a32 a38 a40 a41 a43 N m (Sl10b r1 r2 all6_a t81_b) = l10b a14 a22 a30 a32 a38 a40 a41 a43 N r1 r2 all6_a m t81_b
        | 0, _ => rfl
        | m + 1, t81_b => by rw [wl10b]; simp only [l10b, ql10b a14 a22 a30 a32 a38 a40 a41 a43 N r1 r2 all6_a m]
def l10a (a14 : Option (Bool)) (a22 : (List Int) → (List Int) → Option (Bool)) (a30 : (List (Int × Int × Unit)) → Option (List Int × Int)) (a32 : (List (Int × Int × Unit)) → Option (List Int × Int)) (a38 : (List (Int × Int × Unit)) → Int → Option (Int × Int)) (a40 : (List (List Int)) → Option (List (Int × Int × Unit))) (a41 : (List (Int × Int × Unit)) → Option (Int × List Int)) (a43 : Int → Option (List Int)) (N : Nat) (r1 : List (Int × Int × Unit)) (r2 : Int × List Int) : Nat → Int → Int → Int → Option (Bool)
  | 0, _, _, _ => none
  | n + 1, all6_a, some7_a, t33_a => cond (decide (t33_a < (r2.2.length : Int))) (chk (decide (0 ≤ t33_a ∧ t33_a < (r2.2.length : Int))) ((l10a a14 a22 a30 a32 a38 a40 a41 a43 N r1 r2 n (bAnd .i64 all6_a (r2.2.getD t33_a.toNat (0 : Int))) (bOr .i64 some7_a (r2.2.getD t33_a.toNat (0 : Int))) (w64 (t33_a + (1 : Int))))))
      ((a30 r1).bind fun r3 =>
      (a32 r1).bind fun r4 =>
      cond (r3.2 != (0 : Int)) (some false)
      (cond (r4.2 != (0 : Int)) (some false)
      ((a43 all6_a).bind fun r5 =>
      (a22 r3.1 r5).bind fun r6 =>
      cond (!r6) (some false)
      (chk (decide (0 ≤ (r1.length : Int))) ((a43 (bAndNot .i64 (w64 ((IntKind.wrap .i64 ((1 : Int) * 2 ^ min (Int.toNat (r1.length : Int)) 64)) - (1 : Int))) some7_a)).bind fun r7 =>
      (a22 r4.1 r7).bind fun r8 =>
      cond (!r8) (some false)
      ((l10b a14 a22 a30 a32 a38 a40 a41 a43 N r1 r2 all6_a N (0 : Int))))))))
theorem wl10a (a14 : Option (Bool)) (a22 : (List Int) → (List Int) → Option (Bool)) (a30 : (List (Int × Int × Unit)) → Option (List Int × Int)) (a32 : (List (Int × Int × Unit)) → Option (List Int × Int)) (a38 : (List (Int × Int × Unit)) → Int → Option (Int × Int)) (a40 : (List (List Int)) → Option (List (Int × Int × Unit))) (a41 : (List (Int × Int × Unit)) → Option (Int × List Int)) (a43 : Int → Option (List Int)) (N : Nat) (r1 : List (Int × Int × Unit)) (r2 : Int × List Int) (m : Nat) (all6_a : Int) (some7_a : Int) (t33_a : Int) : R10_0 a14 a22 a30 a32 a38 a40 a41 a43 N (m + 1) (Sl10a r1 r2 all6_a some7_a t33_a) = cond (decide (t33_a < (r2.2.length : Int))) (chk (decide (0 ≤ t33_a ∧ t33_a < (r2.2.length : Int))) ((R10_0 a14 a22 a30 a32 a38 a40 a41 a43 N m (Sl10a r1 r2 (bAnd .i64 all6_a (r2.2.getD t33_a.toNat (0 : Int))) (bOr .i64 some7_a (r2.2.getD t33_a.toNat (0 : Int))) (w64 (t33_a + (1 : Int)))))))
      ((a30 r1).bind fun r3 =>
      (a32 r1).bind fun r4 =>
      cond (r3.2 != (0 : Int)) (some false)
      (cond (r4.2 != (0 : Int)) (some false)
      ((a43 all6_a).bind fun r5 =>
      (a22 r3.1 r5).bind fun r6 =>
      cond (!r6) (some false)
      (chk (decide (0 ≤ (r1.length : Int))) ((a43 (bAndNot .i64 (w64 ((IntKind.wrap .i64 ((1 : Int) * 2 ^ min (Int.toNat (r1.length : Int)) 64)) - (1 : Int))) some7_a)).bind fun r7 =>
      (a22 r4.1 r7).bind fun r8 =>
      cond (!r8) (some false)
      ((R10_1 a14 a22 a30 a32 a38 a40 a41 a43 N N (Sl10b r1 r2 all6_a (0 : Int))))))))) := by kernel_rfl
theorem ql10a (a14 : Option (Bool)) (a22 : (List Int) → (List Int) → Option (Bool)) (a30 : (List (Int × Int × Unit)) → Option (List Int × Int)) (a32 : (List (Int × Int × Unit)) → Option (List Int × Int)) (a38 : (List (Int × Int × Unit)) → Int → Option (Int × Int)) (a40 : (List (List Int)) → Option (List (Int × Int × Unit))) (a41 : (List (Int × Int × Unit)) → Option (Int × List Int)) (a43 : Int → Option (List Int)) (N : Nat) (r1 : List (Int × Int × Unit)) (r2 : Int × List Int) : ∀ (m : Nat) (all6_a : Int) (some7_a : Int) (t33_a : Int), R10_0 a14 a22 a30 a32 a38 a40 a41 a43 N m (Sl10a r1 r2 all6_a some7_a t33_a) = l10a a14 a22 a30 a32 a38 a40 a41 a43 N r1 r2 m all6_a some7_a t33_a
        | 0, _, _, _ => rfl
        | m + 1, all6_a, some7_a, t33_a => by rw [wl10a]; simp only [l10a, ql10b, ql10a a14 a22 a30 a32 a38 a40 a41 a43 N r1 r2 m]
def m10 (a14 : Option (Bool)) (a22 : (List Int) → (List Int) → Option (Bool)) (a30 : (List (Int × Int × Unit)) → Option (List Int × Int)) (a32 : (List (Int × Int × Unit)) → Option (List Int × Int)) (a38 : (List (Int × Int × Unit)) → Int → Option (Int × Int)) (a40 : (List (List Int)) → Option (List (Int × Int × Unit))) (a41 : (List (Int × Int × Unit)) → Option (Int × List Int)) (a43 : Int → Option (List Int)) (N : Nat) (d0 : List (List Int)) : Option (Bool) :=
      (a40 d0).bind fun r1 =>
      (a41 r1).bind fun r2 =>
      chk (decide (0 ≤ (r1.length : Int))) ((l10a a14 a22 a30 a32 a38 a40 a41 a43 N r1 r2 N (w64 ((IntKind.wrap .i64 ((1 : Int) * 2 ^ min (Int.toNat (r1.length : Int)) 64)) - (1 : Int))) (0 : Int) (0 : Int)))
theorem wm10 (a14 : Option (Bool)) (a22 : (List Int) → (List Int) → Option (Bool)) (a30 : (List (Int × Int × Unit)) → Option (List Int × Int)) (a32 : (List (Int × Int × Unit)) → Option (List Int × Int)) (a38 : (List (Int × Int × Unit)) → Int → Option (Int × Int)) (a40 : (List (List Int)) → Option (List (Int × Int × Unit))) (a41 : (List (Int × Int × Unit)) → Option (Int × List Int)) (a43 : Int → Option (List Int)) (N : Nat) (d0 : List (List Int)) : callF (E10 a14 a22 a30 a32 a38 a40 a41 a43) lv10 N en10 c10 (resOf Try.f10) 138 [.dv (.sl (.arr 2 (.int .u8))) d0] [] dec10 = (a40 d0).bind fun r1 =>
      (a41 r1).bind fun r2 =>
      chk (decide (0 ≤ (r1.length : Int))) ((R10_0 a14 a22 a30 a32 a38 a40 a41 a43 N N (Sl10a r1 r2 (w64 ((IntKind.wrap .i64 ((1 : Int) * 2 ^ min (Int.toNat (r1.length : Int)) 64)) - (1 : Int))) (0 : Int) (0 : Int)))) := by kernel_rfl
theorem k10 (a14 : Option (Bool)) (a22 : (List Int) → (List Int) → Option (Bool)) (a30 : (List (Int × Int × Unit)) → Option (List Int × Int)) (a32 : (List (Int × Int × Unit)) → Option (List Int × Int)) (a38 : (List (Int × Int × Unit)) → Int → Option (Int × Int)) (a40 : (List (List Int)) → Option (List (Int × Int × Unit))) (a41 : (List (Int × Int × Unit)) → Option (Int × List Int)) (a43 : Int → Option (List Int)) (N : Nat) (d0 : List (List Int)) : callF (E10 a14 a22 a30 a32 a38 a40 a41 a43) lv10 N en10 c10 (resOf Try.f10) 138 [.dv (.sl (.arr 2 (.int .u8))) d0] [] dec10 = m10 a14 a22 a30 a32 a38 a40 a41 a43 N d0 := by rw [wm10]; simp only [m10, ql10a]
theorem ok10 (a14 : Option (Bool)) (a22 : (List Int) → (List Int) → Option (Bool)) (a30 : (List (Int × Int × Unit)) → Option (List Int × Int)) (a32 : (List (Int × Int × Unit)) → Option (List Int × Int)) (a38 : (List (Int × Int × Unit)) → Int → Option (Int × Int)) (a40 : (List (List Int)) → Option (List (Int × Int × Unit))) (a41 : (List (Int × Int × Unit)) → Option (Int × List Int)) (a43 : Int → Option (List Int)) (h14 : FnOk Try.prog 14 (F14 a14)) (h22 : FnOk Try.prog 22 (F22 a22)) (h30 : FnOk Try.prog 30 (F30 a30)) (h32 : FnOk Try.prog 32 (F32 a32)) (h38 : FnOk Try.prog 38 (F38 a38)) (h40 : FnOk Try.prog 40 (F40 a40)) (h41 : FnOk Try.prog 41 (F41 a41)) (h43 : FnOk Try.prog 43 (F43 a43)) (a : (List (List Int)) → Option (Bool)) (h : ∀ d0 r, a d0 = some r → (∃ N, m10 a14 a22 a30 a32 a38 a40 a41 a43 N d0 = some r)) : FnOk Try.prog 10 (F10 a) := by
  intro args Of x hx
  simp only [F10] at hx
  split at hx
  · rename_i d0
    obtain ⟨N, hN⟩ := h _ _ hx
    refine lifted (L := [(14, F14 a14), (22, F22 a22), (30, F30 a30), (32, F32 a32), (38, F38 a38), (40, F40 a40), (41, F41 a41), (43, F43 a43)]) (rc := nrc) (fz := nfz) (fn := Try.f10) (by kernel_rfl) (by kernel_rfl) (by kernel_rfl) (by kernel_rfl) rfl ?_ ((k10 a14 a22 a30 a32 a38 a40 a41 a43 N _).trans hN) ?_
    · intro p hp; simp only [List.mem_cons, List.not_mem_nil, or_false] at hp; rcases hp with rfl | rfl | rfl | rfl | rfl | rfl | rfl | rfl
      · exact h14
      · exact h22
      · exact h30
      · exact h32
      · exact h38
      · exact h40
      · exact h41
      · exact h43
    · intro l o hd
      simp only [dec10] at hd
      split at hd
      · obtain rfl := Option.some.inj hd; exact ⟨rfl, rfl⟩
      · cases hd
  · cases hx
end Go.Proofs.Ytbblnbolabpfmaa
