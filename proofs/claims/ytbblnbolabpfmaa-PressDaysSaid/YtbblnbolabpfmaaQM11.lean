import Derived.Test.YtbblnbolabpfmaaQFI
namespace Go.Proofs.Ytbblnbolabpfmaa
open Go.RowKit
set_option linter.unusedVariables false
def E11 (a14 : Option (Bool)) (a18 : (List (Int × Int × Unit)) → Option (Int × Int)) (a36 : (List (Int × Int × Unit)) → Int → Option (Int × Int)) (a40 : (List (List Int)) → Option (List (Int × Int × Unit))) : Env := mkE TI TY [(14, F14 a14), (18, F18 a18), (36, F36 a36), (40, F40 a40)] nrc nfz
noncomputable def c11 : Code := bodyOf Try.f11
def nm11_0 : Norm := ⟨[3, 4, 5, 6], [], [], []⟩
def nm11_1 : Norm := ⟨[3, 4, 5, 6, 7, 8, 26, 27, 28], [], [(.slot 9, 1009, .pair (.int .i64) (.pair (.int .i64) (.unit)))], []⟩
def lv11 : Nat → Option Norm := norms [(4, nm11_0), (9, nm11_1)]
def en11 : End := ⟨[], ⟨[88], [], [], []⟩⟩
def dec11 (l : List TV) (o : List (Nat × TO)) : Option (Bool) := match l, o with | [.dv (.bool) x0], [] => some (x0) | _, _ => none
noncomputable def K11_0 (a14 : Option (Bool)) (a18 : (List (Int × Int × Unit)) → Option (Int × Int)) (a36 : (List (Int × Int × Unit)) → Int → Option (Int × Int)) (a40 : (List (List Int)) → Option (List (Int × Int × Unit))) (N : Nat) : Kont (Bool) := kont (E11 a14 a18 a36 a40) lv11 N c11 [1, 1, 1, 0, 1, 0] (fin TI en11 (resOf Try.f11) dec11)
noncomputable def R11_0 (a14 : Option (Bool)) (a18 : (List (Int × Int × Unit)) → Option (Int × Int)) (a36 : (List (Int × Int × Unit)) → Int → Option (Int × Int)) (a40 : (List (List Int)) → Option (List (Int × Int × Unit))) (N : Nat) (m : Nat) : TS → Option (Bool) := loopK (den (E11 a14 a18 a36 a40) lv11 N (sub c11 [1, 1, 1, 0, 1, 0, 0])) (TS.norm nm11_0) (K11_0 a14 a18 a36 a40 N) m
noncomputable def K11_1 (a14 : Option (Bool)) (a18 : (List (Int × Int × Unit)) → Option (Int × Int)) (a36 : (List (Int × Int × Unit)) → Int → Option (Int × Int)) (a40 : (List (List Int)) → Option (List (Int × Int × Unit))) (N : Nat) (T11_0 : TS → Option (Bool)) : Kont (Bool) := kont (E11 a14 a18 a36 a40) lv11 N (sub c11 [1, 1, 1, 0, 1, 0, 0]) [1, 0, 0, 1, 1, 0, 1, 0] (kloop (TS.norm nm11_0) (K11_0 a14 a18 a36 a40 N) T11_0)
noncomputable def R11_1 (a14 : Option (Bool)) (a18 : (List (Int × Int × Unit)) → Option (Int × Int)) (a36 : (List (Int × Int × Unit)) → Int → Option (Int × Int)) (a40 : (List (List Int)) → Option (List (Int × Int × Unit))) (N : Nat) (T11_0 : TS → Option (Bool)) (m : Nat) : TS → Option (Bool) := loopK (den (E11 a14 a18 a36 a40) lv11 N (sub c11 [1, 1, 1, 0, 1, 0, 0, 1, 0, 0, 1, 1, 0, 1, 0, 0])) (TS.norm nm11_1) (K11_1 a14 a18 a36 a40 N T11_0) m
def Sl11b (r1 : List (Int × Int × Unit)) (last4_a : Int) (saved5_a : Int) (days6_a : Int) (r2 : Int × Int) (t28_b : Int) (moved9_b : List (Int × Int × Unit)) : TS := ⟨slots 88 [(3, .dv (.sl (.pair (.int .i64) (.pair (.int .i64) (.unit)))) r1), (4, .dv (.int .i64) last4_a), (5, .dv (.int .i64) saved5_a), (6, .dv (.int .i64) days6_a), (7, .dv (.int .i64) r2.1), (8, .dv (.int .i64) r2.2), (9, .row 1009), (26, .dv (.sl (.pair (.int .i64) (.pair (.int .i64) (.unit)))) r1), (27, .dv (.int .i64) (r1.length : Int)), (28, .dv (.int .i64) t28_b)], [(1009, .row (.pair (.int .i64) (.pair (.int .i64) (.unit))) moved9_b)]⟩
def Sl11a (r1 : List (Int × Int × Unit)) (last4_a : Int) (saved5_a : Int) (days6_a : Int) : TS := ⟨slots 88 [(3, .dv (.sl (.pair (.int .i64) (.pair (.int .i64) (.unit)))) r1), (4, .dv (.int .i64) last4_a), (5, .dv (.int .i64) saved5_a), (6, .dv (.int .i64) days6_a)], []⟩
def l11b (a14 : Option (Bool)) (a18 : (List (Int × Int × Unit)) → Option (Int × Int)) (a36 : (List (Int × Int × Unit)) → Int → Option (Int × Int)) (a40 : (List (List Int)) → Option (List (Int × Int × Unit))) (N : Nat) (r1 : List (Int × Int × Unit)) (last4_a : Int) (saved5_a : Int) (days6_a : Int) (r2 : Int × Int) (rec_l11a : Int → Int → Int → Option (Bool)) : Nat → Int → (List (Int × Int × Unit)) → Option (Bool)
  | 0, _, _ => none
  | n + 1, t28_b, moved9_b => cond (decide (t28_b < (r1.length : Int))) (chk (decide (0 ≤ t28_b ∧ t28_b < (r1.length : Int))) (chk (small (moved9_b.length + 1) 16) ((l11b a14 a18 a36 a40 N r1 last4_a saved5_a days6_a r2 rec_l11a n (w64 (t28_b + (1 : Int))) (moved9_b ++ ([(w64 (((r1.getD t28_b.toNat ((0 : Int), ((0 : Int), ()))).1) + days6_a), (((r1.getD t28_b.toNat ((0 : Int), ((0 : Int), ()))).2).1, ()))] : List (Int × Int × Unit)))))))
      ((a18 moved9_b).bind fun r3 =>
      cond (r2.2 != (0 : Int)) (some false)
      (cond (r3.2 != (0 : Int)) (some false)
      (cond (r2.1 != r3.1) (some false)
      (cond (decide (r2.1 < (0 : Int))) (some false)
      (cond (decide (r2.1 > (100 : Int))) (some false)
      (cond (decide (days6_a > (0 : Int))) (cond (decide (r2.1 > last4_a)) (some false)
      (cond (decide ((w64 (last4_a - r2.1)) > saved5_a)) (some false)
      ((rec_l11a r2.1 (w64 (last4_a - r2.1)) (w64 (days6_a + (1 : Int)))))))
      ((rec_l11a r2.1 saved5_a (w64 (days6_a + (1 : Int)))))))))))
theorem wl11b (a14 : Option (Bool)) (a18 : (List (Int × Int × Unit)) → Option (Int × Int)) (a36 : (List (Int × Int × Unit)) → Int → Option (Int × Int)) (a40 : (List (List Int)) → Option (List (Int × Int × Unit))) (N : Nat) (r1 : List (Int × Int × Unit)) (last4_a : Int) (saved5_a : Int) (days6_a : Int) (r2 : Int × Int) (T11_0 : TS → Option (Bool)) (m : Nat) (t28_b : Int) (moved9_b : List (Int × Int × Unit)) : R11_1 a14 a18 a36 a40 N T11_0 (m + 1) (Sl11b r1 last4_a saved5_a days6_a r2 t28_b moved9_b) = cond (decide (t28_b < (r1.length : Int))) (chk (decide (0 ≤ t28_b ∧ t28_b < (r1.length : Int))) (chk (small (moved9_b.length + 1) 16) ((R11_1 a14 a18 a36 a40 N T11_0 m (Sl11b r1 last4_a saved5_a days6_a r2 (w64 (t28_b + (1 : Int))) (moved9_b ++ ([(w64 (((r1.getD t28_b.toNat ((0 : Int), ((0 : Int), ()))).1) + days6_a), (((r1.getD t28_b.toNat ((0 : Int), ((0 : Int), ()))).2).1, ()))] : List (Int × Int × Unit))))))))
      ((a18 moved9_b).bind fun r3 =>
      cond (r2.2 != (0 : Int)) (some false)
      (cond (r3.2 != (0 : Int)) (some false)
      (cond (r2.1 != r3.1) (some false)
      (cond (decide (r2.1 < (0 : Int))) (some false)
      (cond (decide (r2.1 > (100 : Int))) (some false)
      (cond (decide (days6_a > (0 : Int))) (cond (decide (r2.1 > last4_a)) (some false)
      (cond (decide ((w64 (last4_a - r2.1)) > saved5_a)) (some false)
      ((T11_0 (Sl11a r1 r2.1 (w64 (last4_a - r2.1)) (w64 (days6_a + (1 : Int))))))))
      ((T11_0 (Sl11a r1 r2.1 saved5_a (w64 (days6_a + (1 : Int)))))))))))) := by kernel_rfl
theorem ql11b (a14 : Option (Bool)) (a18 : (List (Int × Int × Unit)) → Option (Int × Int)) (a36 : (List (Int × Int × Unit)) → Int → Option (Int × Int)) (a40 : (List (List Int)) → Option (List (Int × Int × Unit))) (N : Nat) (r1 : List (Int × Int × Unit)) (last4_a : Int) (saved5_a : Int) (days6_a : Int) (r2 : Int × Int) (T11_0 : TS → Option (Bool)) : ∀ (m : Nat) (t28_b : Int) (moved9_b : List (Int × Int × Unit)), R11_1 a14 a18 a36 a40 N T11_0 m (Sl11b r1 last4_a saved5_a days6_a r2 t28_b moved9_b) = l11b a14 a18 a36 a40 N r1 last4_a saved5_a days6_a r2 (fun y0 y1 y2 => T11_0 (Sl11a r1 y0 y1 y2)) m t28_b moved9_b
        | 0, _, _ => rfl
        | m + 1, t28_b, moved9_b => by rw [wl11b]; simp only [l11b, ql11b a14 a18 a36 a40 N r1 last4_a saved5_a days6_a r2 T11_0 m]
def l11a (a14 : Option (Bool)) (a18 : (List (Int × Int × Unit)) → Option (Int × Int)) (a36 : (List (Int × Int × Unit)) → Int → Option (Int × Int)) (a40 : (List (List Int)) → Option (List (Int × Int × Unit))) (N : Nat) (r1 : List (Int × Int × Unit)) : Nat → Int → Int → Int → Option (Bool)
  | 0, _, _, _ => none
  | n + 1, last4_a, saved5_a, days6_a => cond (decide (days6_a ≤ (7 : Int))) ((a36 r1 days6_a).bind fun r2 =>
      (l11b a14 a18 a36 a40 N r1 last4_a saved5_a days6_a r2 (fun y0 y1 y2 => (l11a a14 a18 a36 a40 N r1 n y0 y1 y2)) N (0 : Int) ([] : List (Int × Int × Unit))))
      (cond (last4_a == (0 : Int)) ((a14).bind fun r4 =>
      some r4)
      (some false))
theorem wl11a (a14 : Option (Bool)) (a18 : (List (Int × Int × Unit)) → Option (Int × Int)) (a36 : (List (Int × Int × Unit)) → Int → Option (Int × Int)) (a40 : (List (List Int)) → Option (List (Int × Int × Unit))) (N : Nat) (r1 : List (Int × Int × Unit)) (m : Nat) (last4_a : Int) (saved5_a : Int) (days6_a : Int) : R11_0 a14 a18 a36 a40 N (m + 1) (Sl11a r1 last4_a saved5_a days6_a) = cond (decide (days6_a ≤ (7 : Int))) ((a36 r1 days6_a).bind fun r2 =>
      (R11_1 a14 a18 a36 a40 N (R11_0 a14 a18 a36 a40 N m) N (Sl11b r1 last4_a saved5_a days6_a r2 (0 : Int) ([] : List (Int × Int × Unit)))))
      (cond (last4_a == (0 : Int)) ((a14).bind fun r4 =>
      some r4)
      (some false)) := by kernel_rfl
theorem ql11a (a14 : Option (Bool)) (a18 : (List (Int × Int × Unit)) → Option (Int × Int)) (a36 : (List (Int × Int × Unit)) → Int → Option (Int × Int)) (a40 : (List (List Int)) → Option (List (Int × Int × Unit))) (N : Nat) (r1 : List (Int × Int × Unit)) : ∀ (m : Nat) (last4_a : Int) (saved5_a : Int) (days6_a : Int), R11_0 a14 a18 a36 a40 N m (Sl11a r1 last4_a saved5_a days6_a) = l11a a14 a18 a36 a40 N r1 m last4_a saved5_a days6_a
        | 0, _, _, _ => rfl
        | m + 1, last4_a, saved5_a, days6_a => by rw [wl11a]; simp only [l11a, ql11b, ql11a a14 a18 a36 a40 N r1 m]
def m11 (a14 : Option (Bool)) (a18 : (List (Int × Int × Unit)) → Option (Int × Int)) (a36 : (List (Int × Int × Unit)) → Int → Option (Int × Int)) (a40 : (List (List Int)) → Option (List (Int × Int × Unit))) (N : Nat) (d0 : List (List Int)) : Option (Bool) :=
      (a40 d0).bind fun r1 =>
      (l11a a14 a18 a36 a40 N r1 N (-1 : Int) (1000 : Int) (0 : Int))
theorem wm11 (a14 : Option (Bool)) (a18 : (List (Int × Int × Unit)) → Option (Int × Int)) (a36 : (List (Int × Int × Unit)) → Int → Option (Int × Int)) (a40 : (List (List Int)) → Option (List (Int × Int × Unit))) (N : Nat) (d0 : List (List Int)) : callF (E11 a14 a18 a36 a40) lv11 N en11 c11 (resOf Try.f11) 87 [.dv (.sl (.arr 2 (.int .u8))) d0] [] dec11 = (a40 d0).bind fun r1 =>
      (R11_0 a14 a18 a36 a40 N N (Sl11a r1 (-1 : Int) (1000 : Int) (0 : Int))) := by kernel_rfl
theorem k11 (a14 : Option (Bool)) (a18 : (List (Int × Int × Unit)) → Option (Int × Int)) (a36 : (List (Int × Int × Unit)) → Int → Option (Int × Int)) (a40 : (List (List Int)) → Option (List (Int × Int × Unit))) (N : Nat) (d0 : List (List Int)) : callF (E11 a14 a18 a36 a40) lv11 N en11 c11 (resOf Try.f11) 87 [.dv (.sl (.arr 2 (.int .u8))) d0] [] dec11 = m11 a14 a18 a36 a40 N d0 := by rw [wm11]; simp only [m11, ql11a]
theorem ok11 (a14 : Option (Bool)) (a18 : (List (Int × Int × Unit)) → Option (Int × Int)) (a36 : (List (Int × Int × Unit)) → Int → Option (Int × Int)) (a40 : (List (List Int)) → Option (List (Int × Int × Unit))) (h14 : FnOk Try.prog 14 (F14 a14)) (h18 : FnOk Try.prog 18 (F18 a18)) (h36 : FnOk Try.prog 36 (F36 a36)) (h40 : FnOk Try.prog 40 (F40 a40)) (a : (List (List Int)) → Option (Bool)) (h : ∀ d0 r, a d0 = some r → (∃ N, m11 a14 a18 a36 a40 N d0 = some r)) : FnOk Try.prog 11 (F11 a) := by
  intro args Of x hx
  simp only [F11] at hx
  split at hx
  · rename_i d0
    obtain ⟨N, hN⟩ := h _ _ hx
    refine lifted (L := [(14, F14 a14), (18, F18 a18), (36, F36 a36), (40, F40 a40)]) (rc := nrc) (fz := nfz) (fn := Try.f11) (by kernel_rfl) (by kernel_rfl) (by kernel_rfl) (by kernel_rfl) rfl ?_ ((k11 a14 a18 a36 a40 N _).trans hN) ?_
    · intro p hp; simp only [List.mem_cons, List.not_mem_nil, or_false] at hp; rcases hp with rfl | rfl | rfl | rfl
      · exact h14
      · exact h18
      · exact h36
      · exact h40
    · intro l o hd
      simp only [dec11] at hd
      split at hd
      · obtain rfl := Option.some.inj hd; exact ⟨rfl, rfl⟩
      · cases hd
  · cases hx
end Go.Proofs.Ytbblnbolabpfmaa
