import Derived.Test.YtmpbbkldopfkpaaDoorQFI
namespace Go.Proofs.YtmpbbkldopfkpaaDoor
open Go.RowKit
set_option linter.unusedVariables false
abbrev Q45T0 := (Int × List (List Int) × Unit) → (List UInt8) → Int → Option (Int)
abbrev Q45T1 := Int × List (List Int) × Unit
def E45 (a55 : Q45T0) : Env := mkE TI TY [(55, F55 a55)] nrc nfz
noncomputable def c45 : Code := bodyOf Tryd.f45
def nm45_0 : Norm := ⟨[1, 2, 5], [2], [], []⟩
def nm45_1 : Norm := ⟨[1, 2, 5, 6], [2], [], []⟩
def lv45 : Nat → Option Norm := norms [(2, nm45_0), (4, nm45_1)]
def en45 : End := ⟨[], ⟨[37], [], [], []⟩⟩
def dec45 (l : List TV) (o : List (Nat × TO)) : Option (List UInt8) := match l, o with | [.dv (.str) x0], [] => some (x0) | _, _ => none
def Sl45b (o0 : Q45T1) (log1_b : List UInt8) (out5_b : List UInt8) (kind6_b : Int) : TS := ⟨slots 37 [(1, .dv (.str) log1_b), (2, .ptr 2 0 []), (5, .dv (.str) out5_b), (6, .dv (.int .u8) kind6_b)], [(2, .row (.pair (.int .i64) (.pair (.sl (.arr 2 (.int .i64))) (.unit))) ([o0] : List (Int × List (List Int) × Unit)))]⟩
def Sl45a (o0 : Q45T1) (log1_a : List UInt8) (out5_a : List UInt8) : TS := ⟨slots 37 [(1, .dv (.str) log1_a), (2, .ptr 2 0 []), (5, .dv (.str) out5_a)], [(2, .row (.pair (.int .i64) (.pair (.sl (.arr 2 (.int .i64))) (.unit))) ([o0] : List (Int × List (List Int) × Unit)))]⟩
noncomputable def K45_0 (a55 : Q45T0) (N : Nat) : Kont (List UInt8) := kont (E45 a55) lv45 N c45 [1, 1, 0, 0] (fin TI en45 (resOf Tryd.f45) dec45)
noncomputable def R45_0 (a55 : Q45T0) (N : Nat) (m : Nat) : TS → Option (List UInt8) := loopK (den (E45 a55) lv45 N (sub c45 [1, 1, 0, 0, 0])) (TS.norm nm45_0) (K45_0 a55 N) m
noncomputable def K45_1 (a55 : Q45T0) (N : Nat) (T45_0 : TS → Option (List UInt8)) : Kont (List UInt8) := kont (E45 a55) lv45 N (sub c45 [1, 1, 0, 0, 0]) [1, 0, 1, 0] (kloop (TS.norm nm45_0) (K45_0 a55 N) T45_0)
noncomputable def R45_1 (a55 : Q45T0) (N : Nat) (T45_0 : TS → Option (List UInt8)) (m : Nat) : TS → Option (List UInt8) := loopK (den (E45 a55) lv45 N (sub c45 [1, 1, 0, 0, 0, 1, 0, 1, 0, 0])) (TS.norm nm45_1) (K45_1 a55 N T45_0) m
def l45b (a55 : Q45T0) (N : Nat) (o0 : Q45T1) (rec_l45a : (List UInt8) → (List UInt8) → Option (List UInt8)) : Nat → (List UInt8) → (List UInt8) → Int → Option (List UInt8)
 | 0, _, _, _ => none
 | n + 1, log1_b, out5_b, kind6_b => cond (decide (kind6_b < (103 : Int))) ((a55 o0 log1_b kind6_b).bind fun r1 =>
   cond (decide (r1 ≥ (0 : Int))) (chk (decide (0 ≤ r1 ∧ r1 ≤ w64 (r1 + (1 : Int)) ∧ w64 (r1 + (1 : Int)) ≤ (log1_b.length : Int))) (chk (decide (out5_b.length + ((log1_b.take ((w64 (r1 + (1 : Int))).toNat)).drop r1.toNat).length ≤ 9223372036854775807)) (chk (decide (0 ≤ r1 ∧ r1 ≤ (log1_b.length : Int))) (chk (decide (0 ≤ w64 (r1 + (1 : Int)) ∧ w64 (r1 + (1 : Int)) ≤ (log1_b.length : Int))) (chk (decide ((log1_b.take r1.toNat).length + (log1_b.drop ((w64 (r1 + (1 : Int))).toNat)).length ≤ 9223372036854775807)) ((rec_l45a ((log1_b.take r1.toNat) ++ (log1_b.drop ((w64 (r1 + (1 : Int))).toNat))) (out5_b ++ ((log1_b.take ((w64 (r1 + (1 : Int))).toNat)).drop r1.toNat)))))))))
   ((l45b a55 N o0 rec_l45a n log1_b out5_b (IntKind.wrap .u8 (kind6_b + (1 : Int))))))
   ((rec_l45a log1_b out5_b))
theorem wl45b (a55 : Q45T0) (N : Nat) (o0 : Q45T1) (T45_0 : TS → Option (List UInt8)) (m : Nat) (log1_b : List UInt8) (out5_b : List UInt8) (kind6_b : Int) : R45_1 a55 N T45_0 (m + 1) (Sl45b o0 log1_b out5_b kind6_b) = cond (decide (kind6_b < (103 : Int))) ((a55 o0 log1_b kind6_b).bind fun r1 =>
   cond (decide (r1 ≥ (0 : Int))) (chk (decide (0 ≤ r1 ∧ r1 ≤ w64 (r1 + (1 : Int)) ∧ w64 (r1 + (1 : Int)) ≤ (log1_b.length : Int))) (chk (decide (out5_b.length + ((log1_b.take ((w64 (r1 + (1 : Int))).toNat)).drop r1.toNat).length ≤ 9223372036854775807)) (chk (decide (0 ≤ r1 ∧ r1 ≤ (log1_b.length : Int))) (chk (decide (0 ≤ w64 (r1 + (1 : Int)) ∧ w64 (r1 + (1 : Int)) ≤ (log1_b.length : Int))) (chk (decide ((log1_b.take r1.toNat).length + (log1_b.drop ((w64 (r1 + (1 : Int))).toNat)).length ≤ 9223372036854775807)) ((T45_0 (Sl45a o0 ((log1_b.take r1.toNat) ++ (log1_b.drop ((w64 (r1 + (1 : Int))).toNat))) (out5_b ++ ((log1_b.take ((w64 (r1 + (1 : Int))).toNat)).drop r1.toNat))))))))))
   ((R45_1 a55 N T45_0 m (Sl45b o0 log1_b out5_b (IntKind.wrap .u8 (kind6_b + (1 : Int)))))))
   ((T45_0 (Sl45a o0 log1_b out5_b))) := by kernel_rfl
theorem ql45b (a55 : Q45T0) (N : Nat) (o0 : Q45T1) (T45_0 : TS → Option (List UInt8)) : ∀ (m : Nat) (log1_b : List UInt8) (out5_b : List UInt8) (kind6_b : Int), R45_1 a55 N T45_0 m (Sl45b o0 log1_b out5_b kind6_b) = l45b a55 N o0 (fun y0 y1 => T45_0 (Sl45a o0 y0 y1)) m log1_b out5_b kind6_b
        | 0, _, _, _ => rfl
        | m + 1, log1_b, out5_b, kind6_b => by rw [wl45b]; simp only [l45b, ql45b a55 N o0 T45_0 m]
def l45a (a55 : Q45T0) (N : Nat) (o0 : Q45T1) : Nat → (List UInt8) → (List UInt8) → Option (List UInt8)
 | 0, _, _ => none
 | n + 1, log1_a, out5_a => cond (decide ((log1_a.length : Int) > (0 : Int))) ((l45b a55 N o0 (fun y0 y1 => (l45a a55 N o0 n y0 y1)) N log1_a out5_a (97 : Int)))
   (some out5_a)
theorem wl45a (a55 : Q45T0) (N : Nat) (o0 : Q45T1) (m : Nat) (log1_a : List UInt8) (out5_a : List UInt8) : R45_0 a55 N (m + 1) (Sl45a o0 log1_a out5_a) = cond (decide ((log1_a.length : Int) > (0 : Int))) ((R45_1 a55 N (R45_0 a55 N m) N (Sl45b o0 log1_a out5_a (97 : Int))))
   (some out5_a) := by kernel_rfl
theorem ql45a (a55 : Q45T0) (N : Nat) (o0 : Q45T1) : ∀ (m : Nat) (log1_a : List UInt8) (out5_a : List UInt8), R45_0 a55 N m (Sl45a o0 log1_a out5_a) = l45a a55 N o0 m log1_a out5_a
        | 0, _, _ => rfl
        | m + 1, log1_a, out5_a => by rw [wl45a]; simp only [l45a, ql45b, ql45a a55 N o0 m]
def m45 (a55 : Q45T0) (N : Nat) (o0 : Q45T1) (log1 : List UInt8) : Option (List UInt8) :=
   (l45a a55 N o0 N log1 ([] : List UInt8))
theorem wm45 (a55 : Q45T0) (N : Nat) (o0 : Q45T1) (log1 : List UInt8) : callF (E45 a55) lv45 N en45 c45 (resOf Tryd.f45) 35 [.dv (.pair (.int .i64) (.pair (.sl (.arr 2 (.int .i64))) (.unit))) o0, .dv (.str) log1] [] dec45 = (R45_0 a55 N N (Sl45a o0 log1 ([] : List UInt8))) := by kernel_rfl
theorem k45 (a55 : Q45T0) (N : Nat) (o0 : Q45T1) (log1 : List UInt8) : callF (E45 a55) lv45 N en45 c45 (resOf Tryd.f45) 35 [.dv (.pair (.int .i64) (.pair (.sl (.arr 2 (.int .i64))) (.unit))) o0, .dv (.str) log1] [] dec45 = m45 a55 N o0 log1 := by rw [wm45]; simp only [m45, ql45a]
theorem ok45 (a55 : Q45T0) (h55 : FnOk Tryd.prog 55 (F55 a55)) (a : (Int × List (List Int) × Unit) → (List UInt8) → Option (List UInt8)) (h : ∀ o0 log1 r, a o0 log1 = some r → (∃ N, m45 a55 N o0 log1 = some r)) : FnOk Tryd.prog 45 (F45 a) := by
 intro args Of x hx
 simp only [F45] at hx
 split at hx
 ·rename_i o0 log1
  obtain ⟨N, hN⟩ := h _ _ _ hx
  refine lifted (L := [(55, F55 a55)]) (rc := nrc) (fz := nfz) (fn := Tryd.f45) (by kernel_rfl) (by kernel_rfl) (by kernel_rfl) (by kernel_rfl) rfl ?_ ((k45 a55 N _ _).trans hN) ?_
  ·intro p hp; simp only [List.mem_cons, List.not_mem_nil, or_false] at hp; rcases hp with rfl; exact h55
  ·intro l o hd
   simp only [dec45] at hd
   split at hd
   ·obtain rfl := Option.some.inj hd; exact ⟨rfl, rfl⟩
   ·cases hd
 ·cases hx
end Go.Proofs.YtmpbbkldopfkpaaDoor
