import Derived.Test.YtmpbbkldopfkpaaDoorQFI
namespace Go.Proofs.YtmpbbkldopfkpaaDoor
open Go.RowKit
set_option linter.unusedVariables false
def E25 (a45 : (Int × List (List Int) × Unit) → (List UInt8) → Option (List UInt8)) (a54 : (Int × List (List Int) × Unit) → (List UInt8) → (List UInt8) → Option (Int)) (a55 : (Int × List (List Int) × Unit) → (List UInt8) → Int → Option (Int)) : Env := mkE TI TY [(45, F45 a45), (54, F54 a54), (55, F55 a55)] nrc nfz
noncomputable def c25 : Code := bodyOf Tryd.f25
def nm25_0 : Norm := ⟨[1, 2, 3, 9, 10], [3], [], []⟩
def nm25_1 : Norm := ⟨[1, 2, 3, 9, 10, 11], [3], [], []⟩
def lv25 : Nat → Option Norm := norms [(6, nm25_0), (9, nm25_1)]
def en25 : End := ⟨[], ⟨[70, 71], [], [], []⟩⟩
def dec25 (l : List TV) (o : List (Nat × TO)) : Option (List UInt8 × Int) := match l, o with | [.dv (.str) x0, .dv (.int .i64) x1], [] => some (x0, x1) | _, _ => none
def Sl25b (o0 : Int × List (List Int) × Unit) (a1_b : List UInt8) (b2_b : List UInt8) (out9_b : List UInt8) (found10_b : Bool) (kind11_b : Int) : TS := ⟨slots 70 [(1, .dv (.str) a1_b), (2, .dv (.str) b2_b), (3, .ptr 3 0 []), (9, .dv (.str) out9_b), (10, .dv (.bool) found10_b), (11, .dv (.int .u8) kind11_b)], [(3, .row (.pair (.int .i64) (.pair (.sl (.arr 2 (.int .i64))) (.unit))) ([o0] : List (Int × List (List Int) × Unit)))]⟩
def Sl25a (o0 : Int × List (List Int) × Unit) (a1_a : List UInt8) (b2_a : List UInt8) (out9_a : List UInt8) (found10_a : Bool) : TS := ⟨slots 70 [(1, .dv (.str) a1_a), (2, .dv (.str) b2_a), (3, .ptr 3 0 []), (9, .dv (.str) out9_a), (10, .dv (.bool) found10_a)], [(3, .row (.pair (.int .i64) (.pair (.sl (.arr 2 (.int .i64))) (.unit))) ([o0] : List (Int × List (List Int) × Unit)))]⟩
noncomputable def K25_0 (a45 : (Int × List (List Int) × Unit) → (List UInt8) → Option (List UInt8)) (a54 : (Int × List (List Int) × Unit) → (List UInt8) → (List UInt8) → Option (Int)) (a55 : (Int × List (List Int) × Unit) → (List UInt8) → Int → Option (Int)) (N : Nat) : Kont (List UInt8 × Int) := kont (E25 a45 a54 a55) lv25 N c25 [1, 1, 1, 1, 0, 1, 0] (fin TI en25 (resOf Tryd.f25) dec25)
noncomputable def R25_0 (a45 : (Int × List (List Int) × Unit) → (List UInt8) → Option (List UInt8)) (a54 : (Int × List (List Int) × Unit) → (List UInt8) → (List UInt8) → Option (Int)) (a55 : (Int × List (List Int) × Unit) → (List UInt8) → Int → Option (Int)) (N : Nat) (m : Nat) : TS → Option (List UInt8 × Int) := loopK (den (E25 a45 a54 a55) lv25 N (sub c25 [1, 1, 1, 1, 0, 1, 0, 0])) (TS.norm nm25_0) (K25_0 a45 a54 a55 N) m
noncomputable def K25_1 (a45 : (Int × List (List Int) × Unit) → (List UInt8) → Option (List UInt8)) (a54 : (Int × List (List Int) × Unit) → (List UInt8) → (List UInt8) → Option (Int)) (a55 : (Int × List (List Int) × Unit) → (List UInt8) → Int → Option (Int)) (N : Nat) (T25_0 : TS → Option (List UInt8 × Int)) : Kont (List UInt8 × Int) := kont (E25 a45 a54 a55) lv25 N (sub c25 [1, 1, 1, 1, 0, 1, 0, 0]) [1, 0, 1, 1, 0] (kloop (TS.norm nm25_0) (K25_0 a45 a54 a55 N) T25_0)
noncomputable def R25_1 (a45 : (Int × List (List Int) × Unit) → (List UInt8) → Option (List UInt8)) (a54 : (Int × List (List Int) × Unit) → (List UInt8) → (List UInt8) → Option (Int)) (a55 : (Int × List (List Int) × Unit) → (List UInt8) → Int → Option (Int)) (N : Nat) (T25_0 : TS → Option (List UInt8 × Int)) (m : Nat) : TS → Option (List UInt8 × Int) := loopK (den (E25 a45 a54 a55) lv25 N (sub c25 [1, 1, 1, 1, 0, 1, 0, 0, 1, 0, 1, 1, 0, 0])) (TS.norm nm25_1) (K25_1 a45 a54 a55 N T25_0) m
def l25b (a45 : (Int × List (List Int) × Unit) → (List UInt8) → Option (List UInt8)) (a54 : (Int × List (List Int) × Unit) → (List UInt8) → (List UInt8) → Option (Int)) (a55 : (Int × List (List Int) × Unit) → (List UInt8) → Int → Option (Int)) (N : Nat) (o0 : Int × List (List Int) × Unit) (rec_l25a : (List UInt8) → (List UInt8) → (List UInt8) → Bool → Option (List UInt8 × Int)) : Nat → (List UInt8) → (List UInt8) → (List UInt8) → Bool → Int → Option (List UInt8 × Int)
  | 0, _, _, _, _, _ => none
  | n + 1, a1_b, b2_b, out9_b, found10_b, kind11_b => cond (decide (kind11_b < (103 : Int))) (cond (!found10_b) ((a55 o0 a1_b kind11_b).bind fun r2 =>
      (a55 o0 b2_b kind11_b).bind fun r3 =>
      cond (decide (r2 ≥ (0 : Int))) (cond (decide (r3 ≥ (0 : Int))) (chk (decide (0 ≤ r2 ∧ r2 ≤ w64 (r2 + (1 : Int)) ∧ w64 (r2 + (1 : Int)) ≤ (a1_b.length : Int))) (chk (decide (out9_b.length + ((a1_b.take ((w64 (r2 + (1 : Int))).toNat)).drop r2.toNat).length ≤ 9223372036854775807)) (chk (decide (0 ≤ r2 ∧ r2 ≤ (a1_b.length : Int))) (chk (decide (0 ≤ w64 (r2 + (1 : Int)) ∧ w64 (r2 + (1 : Int)) ≤ (a1_b.length : Int))) (chk (decide ((a1_b.take r2.toNat).length + (a1_b.drop ((w64 (r2 + (1 : Int))).toNat)).length ≤ 9223372036854775807)) (chk (decide (0 ≤ r3 ∧ r3 ≤ (b2_b.length : Int))) (chk (decide (0 ≤ w64 (r3 + (1 : Int)) ∧ w64 (r3 + (1 : Int)) ≤ (b2_b.length : Int))) (chk (decide ((b2_b.take r3.toNat).length + (b2_b.drop ((w64 (r3 + (1 : Int))).toNat)).length ≤ 9223372036854775807)) ((l25b a45 a54 a55 N o0 rec_l25a n ((a1_b.take r2.toNat) ++ (a1_b.drop ((w64 (r2 + (1 : Int))).toNat))) ((b2_b.take r3.toNat) ++ (b2_b.drop ((w64 (r3 + (1 : Int))).toNat))) (out9_b ++ ((a1_b.take ((w64 (r2 + (1 : Int))).toNat)).drop r2.toNat)) true (IntKind.wrap .u8 (kind11_b + (1 : Int)))))))))))))
      ((l25b a45 a54 a55 N o0 rec_l25a n a1_b b2_b out9_b found10_b (IntKind.wrap .u8 (kind11_b + (1 : Int))))))
      ((l25b a45 a54 a55 N o0 rec_l25a n a1_b b2_b out9_b found10_b (IntKind.wrap .u8 (kind11_b + (1 : Int))))))
      ((rec_l25a a1_b b2_b out9_b found10_b)))
      ((rec_l25a a1_b b2_b out9_b found10_b))
theorem wl25b (a45 : (Int × List (List Int) × Unit) → (List UInt8) → Option (List UInt8)) (a54 : (Int × List (List Int) × Unit) → (List UInt8) → (List UInt8) → Option (Int)) (a55 : (Int × List (List Int) × Unit) → (List UInt8) → Int → Option (Int)) (N : Nat) (o0 : Int × List (List Int) × Unit) (T25_0 : TS → Option (List UInt8 × Int)) (m : Nat) (a1_b : List UInt8) (b2_b : List UInt8) (out9_b : List UInt8) (found10_b : Bool) (kind11_b : Int) : R25_1 a45 a54 a55 N T25_0 (m + 1) (Sl25b o0 a1_b b2_b out9_b found10_b kind11_b) = cond (decide (kind11_b < (103 : Int))) (cond (!found10_b) ((a55 o0 a1_b kind11_b).bind fun r2 =>
      (a55 o0 b2_b kind11_b).bind fun r3 =>
      cond (decide (r2 ≥ (0 : Int))) (cond (decide (r3 ≥ (0 : Int))) (chk (decide (0 ≤ r2 ∧ r2 ≤ w64 (r2 + (1 : Int)) ∧ w64 (r2 + (1 : Int)) ≤ (a1_b.length : Int))) (chk (decide (out9_b.length + ((a1_b.take ((w64 (r2 + (1 : Int))).toNat)).drop r2.toNat).length ≤ 9223372036854775807)) (chk (decide (0 ≤ r2 ∧ r2 ≤ (a1_b.length : Int))) (chk (decide (0 ≤ w64 (r2 + (1 : Int)) ∧ w64 (r2 + (1 : Int)) ≤ (a1_b.length : Int))) (chk (decide ((a1_b.take r2.toNat).length + (a1_b.drop ((w64 (r2 + (1 : Int))).toNat)).length ≤ 9223372036854775807)) (chk (decide (0 ≤ r3 ∧ r3 ≤ (b2_b.length : Int))) (chk (decide (0 ≤ w64 (r3 + (1 : Int)) ∧ w64 (r3 + (1 : Int)) ≤ (b2_b.length : Int))) (chk (decide ((b2_b.take r3.toNat).length + (b2_b.drop ((w64 (r3 + (1 : Int))).toNat)).length ≤ 9223372036854775807)) ((R25_1 a45 a54 a55 N T25_0 m (Sl25b o0 ((a1_b.take r2.toNat) ++ (a1_b.drop ((w64 (r2 + (1 : Int))).toNat))) ((b2_b.take r3.toNat) ++ (b2_b.drop ((w64 (r3 + (1 : Int))).toNat))) (out9_b ++ ((a1_b.take ((w64 (r2 + (1 : Int))).toNat)).drop r2.toNat)) true (IntKind.wrap .u8 (kind11_b + (1 : Int))))))))))))))
      ((R25_1 a45 a54 a55 N T25_0 m (Sl25b o0 a1_b b2_b out9_b found10_b (IntKind.wrap .u8 (kind11_b + (1 : Int)))))))
      ((R25_1 a45 a54 a55 N T25_0 m (Sl25b o0 a1_b b2_b out9_b found10_b (IntKind.wrap .u8 (kind11_b + (1 : Int)))))))
      ((T25_0 (Sl25a o0 a1_b b2_b out9_b found10_b))))
      ((T25_0 (Sl25a o0 a1_b b2_b out9_b found10_b))) := by kernel_rfl
theorem ql25b (a45 : (Int × List (List Int) × Unit) → (List UInt8) → Option (List UInt8)) (a54 : (Int × List (List Int) × Unit) → (List UInt8) → (List UInt8) → Option (Int)) (a55 : (Int × List (List Int) × Unit) → (List UInt8) → Int → Option (Int)) (N : Nat) (o0 : Int × List (List Int) × Unit) (T25_0 : TS → Option (List UInt8 × Int)) : ∀ (m : Nat) (a1_b : List UInt8) (b2_b : List UInt8) (out9_b : List UInt8) (found10_b : Bool) (kind11_b : Int), R25_1 a45 a54 a55 N T25_0 m (Sl25b o0 a1_b b2_b out9_b found10_b kind11_b) = l25b a45 a54 a55 N o0 (fun y0 y1 y2 y3 => T25_0 (Sl25a o0 y0 y1 y2 y3)) m a1_b b2_b out9_b found10_b kind11_b
        | 0, _, _, _, _, _ => rfl
        | m + 1, a1_b, b2_b, out9_b, found10_b, kind11_b => by rw [wl25b]; simp only [l25b, ql25b a45 a54 a55 N o0 T25_0 m]
def l25a (a45 : (Int × List (List Int) × Unit) → (List UInt8) → Option (List UInt8)) (a54 : (Int × List (List Int) × Unit) → (List UInt8) → (List UInt8) → Option (Int)) (a55 : (Int × List (List Int) × Unit) → (List UInt8) → Int → Option (Int)) (N : Nat) (o0 : Int × List (List Int) × Unit) : Nat → (List UInt8) → (List UInt8) → (List UInt8) → Bool → Option (List UInt8 × Int)
  | 0, _, _, _, _ => none
  | n + 1, a1_a, b2_a, out9_a, found10_a => cond (found10_a) ((l25b a45 a54 a55 N o0 (fun y0 y1 y2 y3 => (l25a a45 a54 a55 N o0 n y0 y1 y2 y3)) N a1_a b2_a out9_a false (97 : Int)))
      ((a45 o0 out9_a).bind fun r4 =>
      some (r4, (0 : Int)))
theorem wl25a (a45 : (Int × List (List Int) × Unit) → (List UInt8) → Option (List UInt8)) (a54 : (Int × List (List Int) × Unit) → (List UInt8) → (List UInt8) → Option (Int)) (a55 : (Int × List (List Int) × Unit) → (List UInt8) → Int → Option (Int)) (N : Nat) (o0 : Int × List (List Int) × Unit) (m : Nat) (a1_a : List UInt8) (b2_a : List UInt8) (out9_a : List UInt8) (found10_a : Bool) : R25_0 a45 a54 a55 N (m + 1) (Sl25a o0 a1_a b2_a out9_a found10_a) = cond (found10_a) ((R25_1 a45 a54 a55 N (R25_0 a45 a54 a55 N m) N (Sl25b o0 a1_a b2_a out9_a false (97 : Int))))
      ((a45 o0 out9_a).bind fun r4 =>
      some (r4, (0 : Int))) := by kernel_rfl
theorem ql25a (a45 : (Int × List (List Int) × Unit) → (List UInt8) → Option (List UInt8)) (a54 : (Int × List (List Int) × Unit) → (List UInt8) → (List UInt8) → Option (Int)) (a55 : (Int × List (List Int) × Unit) → (List UInt8) → Int → Option (Int)) (N : Nat) (o0 : Int × List (List Int) × Unit) : ∀ (m : Nat) (a1_a : List UInt8) (b2_a : List UInt8) (out9_a : List UInt8) (found10_a : Bool), R25_0 a45 a54 a55 N m (Sl25a o0 a1_a b2_a out9_a found10_a) = l25a a45 a54 a55 N o0 m a1_a b2_a out9_a found10_a
        | 0, _, _, _, _ => rfl
        | m + 1, a1_a, b2_a, out9_a, found10_a => by rw [wl25a]; simp only [l25a, ql25b, ql25a a45 a54 a55 N o0 m]
def m25 (a45 : (Int × List (List Int) × Unit) → (List UInt8) → Option (List UInt8)) (a54 : (Int × List (List Int) × Unit) → (List UInt8) → (List UInt8) → Option (Int)) (a55 : (Int × List (List Int) × Unit) → (List UInt8) → Int → Option (Int)) (N : Nat) (o0 : Int × List (List Int) × Unit) (ax1 : List UInt8) (b2 : List UInt8) : Option (List UInt8 × Int) :=
      (a54 o0 ax1 b2).bind fun r1 =>
      cond (r1 != (0 : Int)) (some (([] : List UInt8), r1))
      ((l25a a45 a54 a55 N o0 N ax1 b2 ([] : List UInt8) true))
theorem wm25 (a45 : (Int × List (List Int) × Unit) → (List UInt8) → Option (List UInt8)) (a54 : (Int × List (List Int) × Unit) → (List UInt8) → (List UInt8) → Option (Int)) (a55 : (Int × List (List Int) × Unit) → (List UInt8) → Int → Option (Int)) (N : Nat) (o0 : Int × List (List Int) × Unit) (ax1 : List UInt8) (b2 : List UInt8) : callF (E25 a45 a54 a55) lv25 N en25 c25 (resOf Tryd.f25) 67 [.dv (.pair (.int .i64) (.pair (.sl (.arr 2 (.int .i64))) (.unit))) o0, .dv (.str) ax1, .dv (.str) b2] [] dec25 = (a54 o0 ax1 b2).bind fun r1 =>
      cond (r1 != (0 : Int)) (some (([] : List UInt8), r1))
      ((R25_0 a45 a54 a55 N N (Sl25a o0 ax1 b2 ([] : List UInt8) true))) := by kernel_rfl
theorem k25 (a45 : (Int × List (List Int) × Unit) → (List UInt8) → Option (List UInt8)) (a54 : (Int × List (List Int) × Unit) → (List UInt8) → (List UInt8) → Option (Int)) (a55 : (Int × List (List Int) × Unit) → (List UInt8) → Int → Option (Int)) (N : Nat) (o0 : Int × List (List Int) × Unit) (ax1 : List UInt8) (b2 : List UInt8) : callF (E25 a45 a54 a55) lv25 N en25 c25 (resOf Tryd.f25) 67 [.dv (.pair (.int .i64) (.pair (.sl (.arr 2 (.int .i64))) (.unit))) o0, .dv (.str) ax1, .dv (.str) b2] [] dec25 = m25 a45 a54 a55 N o0 ax1 b2 := by rw [wm25]; simp only [m25, ql25a]
theorem ok25 (a45 : (Int × List (List Int) × Unit) → (List UInt8) → Option (List UInt8)) (a54 : (Int × List (List Int) × Unit) → (List UInt8) → (List UInt8) → Option (Int)) (a55 : (Int × List (List Int) × Unit) → (List UInt8) → Int → Option (Int)) (h45 : FnOk Tryd.prog 45 (F45 a45)) (h54 : FnOk Tryd.prog 54 (F54 a54)) (h55 : FnOk Tryd.prog 55 (F55 a55)) (a : (Int × List (List Int) × Unit) → (List UInt8) → (List UInt8) → Option (List UInt8 × Int)) (h : ∀ o0 ax1 b2 r, a o0 ax1 b2 = some r → (∃ N, m25 a45 a54 a55 N o0 ax1 b2 = some r)) : FnOk Tryd.prog 25 (F25 a) := by
  intro args Of x hx
  simp only [F25] at hx
  split at hx
  · rename_i o0 ax1 b2
    obtain ⟨N, hN⟩ := h _ _ _ _ hx
    refine lifted (L := [(45, F45 a45), (54, F54 a54), (55, F55 a55)]) (rc := nrc) (fz := nfz) (fn := Tryd.f25) (by kernel_rfl) (by kernel_rfl) (by kernel_rfl) (by kernel_rfl) rfl ?_ ((k25 a45 a54 a55 N _ _ _).trans hN) ?_
    · intro p hp; simp only [List.mem_cons, List.not_mem_nil, or_false] at hp; rcases hp with rfl | rfl | rfl
      · exact h45
      · exact h54
      · exact h55
    · intro l o hd
      simp only [dec25] at hd
      split at hd
      · obtain rfl := Option.some.inj hd; exact ⟨rfl, rfl⟩
      · cases hd
  · cases hx
end Go.Proofs.YtmpbbkldopfkpaaDoor
