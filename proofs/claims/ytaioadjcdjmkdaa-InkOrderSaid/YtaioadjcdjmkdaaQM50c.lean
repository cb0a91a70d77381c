import Derived.Test.YtaioadjcdjmkdaaQFI
namespace Go.Proofs.Ytaioadjcdjmkdaa
open Go.RowKit
set_option linter.unusedVariables false
def E50c (a43 : (Int × List (List Int) × Unit) → (List Int) → Option (List Int)) (a44 : (List Int) → Option (List Int)) (a50c : (List Int) → (List Int) → (List (Int × List (List Int) × Unit)) → Int → (List Int) → Option (List (Int × List (List Int) × Unit) × Int × List Int)) (a51 : (List Int) → (List Int) → Option (Bool)) : Env := mkE TI TY [(43, F43 a43), (44, F44 a44), (50, F50c a50c), (51, F51 a51)] nrc nfz
noncomputable def c50c : Code := bodyOf Try.f50
def nm50c_0 : Norm := ⟨[0, 1, 5, 34, 35], [9003, 9000, 9001, 9002], [], []⟩
def lv50c : Nat → Option Norm := norms [(5, nm50c_0)]
def en50c : End := ⟨[], ⟨[], [9000, 9001, 9002, 9003], [], []⟩⟩
def dec50c (l : List TV) (o : List (Nat × TO)) : Option (List (Int × List (List Int) × Unit) × Int × List Int) := match l, o, capsOf l o with | [], [(9000, .row (.pair (.int .i64) (.pair (.sl (.sl (.int .i64))) (.unit))) x0), (9001, .rcd [.dv (.int .i64) x1]), (9002, .rcd [.dv (.sl (.int .i64)) x2]), (9003, .rcd [.fn 50 0 4 _])], [[.ptr 9000 0 [], .ptr 9001 0 [0], .ptr 9002 0 [0], .ptr 9003 0 [0]]] => some (x0, x1, x2) | _, _, _ => none
noncomputable def K50c_0 (a43 : (Int × List (List Int) × Unit) → (List Int) → Option (List Int)) (a44 : (List Int) → Option (List Int)) (a50c : (List Int) → (List Int) → (List (Int × List (List Int) × Unit)) → Int → (List Int) → Option (List (Int × List (List Int) × Unit) × Int × List Int)) (a51 : (List Int) → (List Int) → Option (Bool)) (N : Nat) : Kont (List (Int × List (List Int) × Unit) × Int × List Int) := kont (E50c a43 a44 a50c a51) lv50c N c50c [1, 1, 0] (fin TI en50c (resOf Try.f50) dec50c)
noncomputable def R50c_0 (a43 : (Int × List (List Int) × Unit) → (List Int) → Option (List Int)) (a44 : (List Int) → Option (List Int)) (a50c : (List Int) → (List Int) → (List (Int × List (List Int) × Unit)) → Int → (List Int) → Option (List (Int × List (List Int) × Unit) × Int × List Int)) (a51 : (List Int) → (List Int) → Option (Bool)) (N : Nat) (m : Nat) : TS → Option (List (Int × List (List Int) × Unit) × Int × List Int) := loopK (den (E50c a43 a44 a50c a51) lv50c N (sub c50c [1, 1, 0, 0])) (TS.norm nm50c_0) (K50c_0 a43 a44 a50c a51 N) m
def Sl50ca (done0 : List Int) (left1 : List Int) (t35_a : Int) (o9000_a : List (Int × List (List Int) × Unit)) (o9001_af0 : Int) (o9002_af0 : List Int) : TS := ⟨slots 60 [(0, .dv (.sl (.int .i64)) done0), (1, .dv (.sl (.int .i64)) left1), (5, .ptr 9003 0 [0]), (34, .dv (.int .i64) (left1.length : Int)), (35, .dv (.int .i64) t35_a)], [(9003, .rcd [.fn 50 0 4 fun i => ([.ptr 9000 0 [], .ptr 9001 0 [0], .ptr 9002 0 [0], .ptr 9003 0 [0]] : List TV).getD i .any]), (9000, .row (.pair (.int .i64) (.pair (.sl (.sl (.int .i64))) (.unit))) o9000_a), (9001, .rcd [.dv (.int .i64) o9001_af0]), (9002, .rcd [.dv (.sl (.int .i64)) o9002_af0])]⟩
def l50ca (a43 : (Int × List (List Int) × Unit) → (List Int) → Option (List Int)) (a44 : (List Int) → Option (List Int)) (a50c : (List Int) → (List Int) → (List (Int × List (List Int) × Unit)) → Int → (List Int) → Option (List (Int × List (List Int) × Unit) × Int × List Int)) (a51 : (List Int) → (List Int) → Option (Bool)) (N : Nat) (done0 : List Int) (left1 : List Int) : Nat → Int → (List (Int × List (List Int) × Unit)) → Int → (List Int) → Option (List (Int × List (List Int) × Unit) × Int × List Int)
  | 0, _, _, _, _ => none
  | n + 1, t35_a, o9000_a, o9001_af0, o9002_af0 => cond (decide (t35_a < (left1.length : Int))) (chk (small (0 + done0.length) 8) (chk (decide (0 ≤ t35_a ∧ t35_a < (left1.length : Int))) (chk (small ((([] : List Int) ++ done0).length + 1) 8) (chk (decide (0 ≤ t35_a ∧ t35_a ≤ (left1.length : Int))) (chk (small (0 + (left1.take t35_a.toNat).length) 8) (chk (decide (0 ≤ w64 (t35_a + (1 : Int)) ∧ w64 (t35_a + (1 : Int)) ≤ (left1.length : Int))) (chk (small ((([] : List Int) ++ (left1.take t35_a.toNat)).length + (left1.drop ((w64 (t35_a + (1 : Int))).toNat)).length) 8) ((a50c ((([] : List Int) ++ done0) ++ ([left1.getD t35_a.toNat (0 : Int)] : List Int)) ((([] : List Int) ++ (left1.take t35_a.toNat)) ++ (left1.drop ((w64 (t35_a + (1 : Int))).toNat))) o9000_a o9001_af0 o9002_af0).bind fun r4 =>
      (l50ca a43 a44 a50c a51 N done0 left1 n (w64 (t35_a + (1 : Int))) r4.1 r4.2.1 r4.2.2)))))))))
      (some (o9000_a, o9001_af0, o9002_af0))
theorem wl50ca (a43 : (Int × List (List Int) × Unit) → (List Int) → Option (List Int)) (a44 : (List Int) → Option (List Int)) (a50c : (List Int) → (List Int) → (List (Int × List (List Int) × Unit)) → Int → (List Int) → Option (List (Int × List (List Int) × Unit) × Int × List Int)) (a51 : (List Int) → (List Int) → Option (Bool)) (N : Nat) (done0 : List Int) (left1 : List Int) (m : Nat) (t35_a : Int) (o9000_a : List (Int × List (List Int) × Unit)) (o9001_af0 : Int) (o9002_af0 : List Int) : R50c_0 a43 a44 a50c a51 N (m + 1) (Sl50ca done0 left1 t35_a o9000_a o9001_af0 o9002_af0) = cond (decide (t35_a < (left1.length : Int))) (chk (small (0 + done0.length) 8) (chk (decide (0 ≤ t35_a ∧ t35_a < (left1.length : Int))) (chk (small ((([] : List Int) ++ done0).length + 1) 8) (chk (decide (0 ≤ t35_a ∧ t35_a ≤ (left1.length : Int))) (chk (small (0 + (left1.take t35_a.toNat).length) 8) (chk (decide (0 ≤ w64 (t35_a + (1 : Int)) ∧ w64 (t35_a + (1 : Int)) ≤ (left1.length : Int))) (chk (small ((([] : List Int) ++ (left1.take t35_a.toNat)).length + (left1.drop ((w64 (t35_a + (1 : Int))).toNat)).length) 8) ((a50c ((([] : List Int) ++ done0) ++ ([left1.getD t35_a.toNat (0 : Int)] : List Int)) ((([] : List Int) ++ (left1.take t35_a.toNat)) ++ (left1.drop ((w64 (t35_a + (1 : Int))).toNat))) o9000_a o9001_af0 o9002_af0).bind fun r4 =>
      (R50c_0 a43 a44 a50c a51 N m (Sl50ca done0 left1 (w64 (t35_a + (1 : Int))) r4.1 r4.2.1 r4.2.2))))))))))
      (some (o9000_a, o9001_af0, o9002_af0)) := by kernel_rfl
theorem ql50ca (a43 : (Int × List (List Int) × Unit) → (List Int) → Option (List Int)) (a44 : (List Int) → Option (List Int)) (a50c : (List Int) → (List Int) → (List (Int × List (List Int) × Unit)) → Int → (List Int) → Option (List (Int × List (List Int) × Unit) × Int × List Int)) (a51 : (List Int) → (List Int) → Option (Bool)) (N : Nat) (done0 : List Int) (left1 : List Int) : ∀ (m : Nat) (t35_a : Int) (o9000_a : List (Int × List (List Int) × Unit)) (o9001_af0 : Int) (o9002_af0 : List Int), R50c_0 a43 a44 a50c a51 N m (Sl50ca done0 left1 t35_a o9000_a o9001_af0 o9002_af0) = l50ca a43 a44 a50c a51 N done0 left1 m t35_a o9000_a o9001_af0 o9002_af0
        | 0, _, _, _, _ => rfl
        | m + 1, t35_a, o9000_a, o9001_af0, o9002_af0 => by rw [wl50ca]; simp only [l50ca, ql50ca a43 a44 a50c a51 N done0 left1 m]
def m50c (a43 : (Int × List (List Int) × Unit) → (List Int) → Option (List Int)) (a44 : (List Int) → Option (List Int)) (a50c : (List Int) → (List Int) → (List (Int × List (List Int) × Unit)) → Int → (List Int) → Option (List (Int × List (List Int) × Unit) × Int × List Int)) (a51 : (List Int) → (List Int) → Option (Bool)) (N : Nat) (done0 : List Int) (left1 : List Int) (p2 : List (Int × List (List Int) × Unit)) (p3 : Int) (p4 : List Int) : Option (List (Int × List (List Int) × Unit) × Int × List Int) :=
      cond ((left1.length : Int) == (0 : Int)) ((a43 (p2.getD 0 ((0 : Int), (([] : List (List Int)), ()))) done0).bind fun r1 =>
      (a44 r1).bind fun r2 =>
      cond (decide ((r2.length : Int) > p3)) (some (p2, (r2.length : Int), done0))
      (cond ((r2.length : Int) == p3) ((a51 done0 p4).bind fun r3 =>
      cond (r3) (some (p2, (r2.length : Int), done0))
      (some (p2, p3, p4)))
      (some (p2, p3, p4))))
      ((l50ca a43 a44 a50c a51 N done0 left1 N (0 : Int) p2 p3 p4))
theorem wm50c (a43 : (Int × List (List Int) × Unit) → (List Int) → Option (List Int)) (a44 : (List Int) → Option (List Int)) (a50c : (List Int) → (List Int) → (List (Int × List (List Int) × Unit)) → Int → (List Int) → Option (List (Int × List (List Int) × Unit) × Int × List Int)) (a51 : (List Int) → (List Int) → Option (Bool)) (N : Nat) (done0 : List Int) (left1 : List Int) (p2 : List (Int × List (List Int) × Unit)) (p3 : Int) (p4 : List Int) : callF (E50c a43 a44 a50c a51) lv50c N en50c c50c (resOf Try.f50) 54 [.dv (.sl (.int .i64)) done0, .dv (.sl (.int .i64)) left1, .ptr 9000 0 [], .ptr 9001 0 [0], .ptr 9002 0 [0], .ptr 9003 0 [0]] [(9000, .row (.pair (.int .i64) (.pair (.sl (.sl (.int .i64))) (.unit))) p2), (9001, .rcd [.dv (.int .i64) p3]), (9002, .rcd [.dv (.sl (.int .i64)) p4]), (9003, .rcd [.fn 50 0 4 fun i => ([.ptr 9000 0 [], .ptr 9001 0 [0], .ptr 9002 0 [0], .ptr 9003 0 [0]] : List TV).getD i .any])] dec50c = cond ((left1.length : Int) == (0 : Int)) ((a43 (p2.getD 0 ((0 : Int), (([] : List (List Int)), ()))) done0).bind fun r1 =>
      (a44 r1).bind fun r2 =>
      cond (decide ((r2.length : Int) > p3)) (some (p2, (r2.length : Int), done0))
      (cond ((r2.length : Int) == p3) ((a51 done0 p4).bind fun r3 =>
      cond (r3) (some (p2, (r2.length : Int), done0))
      (some (p2, p3, p4)))
      (some (p2, p3, p4))))
      ((R50c_0 a43 a44 a50c a51 N N (Sl50ca done0 left1 (0 : Int) p2 p3 p4))) := by kernel_rfl
theorem k50c (a43 : (Int × List (List Int) × Unit) → (List Int) → Option (List Int)) (a44 : (List Int) → Option (List Int)) (a50c : (List Int) → (List Int) → (List (Int × List (List Int) × Unit)) → Int → (List Int) → Option (List (Int × List (List Int) × Unit) × Int × List Int)) (a51 : (List Int) → (List Int) → Option (Bool)) (N : Nat) (done0 : List Int) (left1 : List Int) (p2 : List (Int × List (List Int) × Unit)) (p3 : Int) (p4 : List Int) : callF (E50c a43 a44 a50c a51) lv50c N en50c c50c (resOf Try.f50) 54 [.dv (.sl (.int .i64)) done0, .dv (.sl (.int .i64)) left1, .ptr 9000 0 [], .ptr 9001 0 [0], .ptr 9002 0 [0], .ptr 9003 0 [0]] [(9000, .row (.pair (.int .i64) (.pair (.sl (.sl (.int .i64))) (.unit))) p2), (9001, .rcd [.dv (.int .i64) p3]), (9002, .rcd [.dv (.sl (.int .i64)) p4]), (9003, .rcd [.fn 50 0 4 fun i => ([.ptr 9000 0 [], .ptr 9001 0 [0], .ptr 9002 0 [0], .ptr 9003 0 [0]] : List TV).getD i .any])] dec50c = m50c a43 a44 a50c a51 N done0 left1 p2 p3 p4 := by rw [wm50c]; simp only [m50c, ql50ca]
theorem ok50c (a43 : (Int × List (List Int) × Unit) → (List Int) → Option (List Int)) (a44 : (List Int) → Option (List Int)) (a50c : (List Int) → (List Int) → (List (Int × List (List Int) × Unit)) → Int → (List Int) → Option (List (Int × List (List Int) × Unit) × Int × List Int)) (a51 : (List Int) → (List Int) → Option (Bool)) (h43 : FnOk Try.prog 43 (F43 a43)) (h44 : FnOk Try.prog 44 (F44 a44)) (h50c : FnOk Try.prog 50 (F50c a50c)) (h51 : FnOk Try.prog 51 (F51 a51)) (a : (List Int) → (List Int) → (List (Int × List (List Int) × Unit)) → Int → (List Int) → Option (List (Int × List (List Int) × Unit) × Int × List Int)) (h : ∀ done0 left1 p2 p3 p4 r, a done0 left1 p2 p3 p4 = some r → (∃ N, m50c a43 a44 a50c a51 N done0 left1 p2 p3 p4 = some r)) : FnOk Try.prog 50 (F50c a) := by
  intro args Of x hx
  simp only [F50c] at hx
  split at hx
  · rename_i done0 left1 p2 p3 p4 f_0 heqc
    have hc0 := congrArg (fun c : List (List TV) => c.getD 0 []) heqc
    obtain ⟨N, hN⟩ := h _ _ _ _ _ _ hx
    refine HSpec.etaL (args := [.dv (.sl (.int .i64)) done0, .dv (.sl (.int .i64)) left1, .ptr 9000 0 [], .ptr 9001 0 [0], .ptr 9002 0 [0], .ptr 9003 0 [0]]) (O := [(9000, .row (.pair (.int .i64) (.pair (.sl (.sl (.int .i64))) (.unit))) p2), (9001, .rcd [.dv (.int .i64) p3]), (9002, .rcd [.dv (.sl (.int .i64)) p4]), (9003, .rcd [.fn 50 0 4 fun i => ([.ptr 9000 0 [], .ptr 9001 0 [0], .ptr 9002 0 [0], .ptr 9003 0 [0]] : List TV).getD i .any])]) ⟨TV.sim_refl _, TV.sim_refl _, TV.sim_refl _, TV.sim_refl _, TV.sim_refl _, TV.sim_refl _, trivial⟩ ⟨rfl, TO.sim_refl _, rfl, TO.sim_refl _, rfl, TO.sim_refl _, rfl, TO.sim_rcd ⟨TV.sim_fn hc0, trivial⟩, trivial⟩ (liftedS (L := [(43, F43 a43), (44, F44 a44), (50, F50c a50c), (51, F51 a51)]) (rc := nrc) (fz := nfz) (fn := Try.f50) (by kernel_rfl) (by kernel_rfl) (by kernel_rfl) (by kernel_rfl) rfl ?_ ((k50c a43 a44 a50c a51 N _ _ _ _ _).trans hN) ?_)
    · intro p hp; simp only [List.mem_cons, List.not_mem_nil, or_false] at hp; rcases hp with rfl | rfl | rfl | rfl
      · exact h43
      · exact h44
      · exact h50c
      · exact h51
    · intro l o hd
      simp only [dec50c] at hd
      split at hd
      · rename_i heqd
        have hd0 := congrArg (fun c : List (List TV) => c.getD 0 []) heqd
        obtain rfl := Option.some.inj hd; exact ⟨TV.sim_refl _, ⟨rfl, TO.sim_refl _, rfl, TO.sim_refl _, rfl, TO.sim_refl _, rfl, TO.sim_rcd ⟨TV.sim_symm (TV.sim_fn hd0), trivial⟩, trivial⟩⟩
      · cases hd
  · cases hx
end Go.Proofs.Ytaioadjcdjmkdaa
