import Derived.Test.YtmpbbkldopfkpaaDoorQFI
namespace Go.Proofs.YtmpbbkldopfkpaaDoor
open Go.RowKit
set_option linter.unusedVariables false
abbrev Q29T0 := (Int × List (List Int) × Unit) → Int → Int → Option (Bool)
abbrev Q29T1 := (List UInt8) → Int → Option (List UInt8)
abbrev Q29T2 := Int × List (List Int) × Unit
def E29 (a30 : Q29T0) (a57 : Q29T1) : Env := mkE TI TY [(30, F30 a30), (57, F57 a57)] nrc (fun i => ([24] : List Nat).contains i)
noncomputable def c29 : Code := bodyOf Tryd.f29
def nm29_0 : Norm := ⟨[2, 5], [2, 12], [(.slot 6, 1006, .str)], []⟩
def nm29_1 : Norm := ⟨[2, 5, 7, 8], [2, 12], [(.slot 6, 1006, .str)], []⟩
def lv29 : Nat → Option Norm := norms [(3, nm29_0), (7, nm29_1)]
def en29 : End := ⟨[], ⟨[73], [12], [], []⟩⟩
def dec29 (l : List TV) (o : List (Nat × TO)) : Option (List (List UInt8 × Int)) := match l, o with | [.row 12], [(12, .map (.str) (.int .i64) x0)] => some (x0) | _, _ => none
def Sl29b (o0 : Q29T2) (list6_a : List (List UInt8)) (i8_b : Int) (list6_b : List (List UInt8)) (o12_b : List (List UInt8 × Int)) : TS := ⟨slots 73 [(2, .ptr 2 0 []), (5, .row 12), (6, .row 1006), (7, .dv (.str) (list6_a.getD 0 ([] : List UInt8))), (8, .dv (.int .i64) i8_b)], [(1006, .row (.str) list6_b), (2, .row (.pair (.int .i64) (.pair (.sl (.arr 2 (.int .i64))) (.unit))) ([o0] : List (Int × List (List Int) × Unit))), (12, .map (.str) (.int .i64) o12_b)]⟩
def Sl29a (o0 : Q29T2) (list6_a : List (List UInt8)) (o12_a : List (List UInt8 × Int)) : TS := ⟨slots 73 [(2, .ptr 2 0 []), (5, .row 12), (6, .row 1006)], [(1006, .row (.str) list6_a), (2, .row (.pair (.int .i64) (.pair (.sl (.arr 2 (.int .i64))) (.unit))) ([o0] : List (Int × List (List Int) × Unit))), (12, .map (.str) (.int .i64) o12_a)]⟩
noncomputable def K29_0 (a30 : Q29T0) (a57 : Q29T1) (N : Nat) : Kont (List (List UInt8 × Int)) := kont (E29 a30 a57) lv29 N c29 [1, 1, 0, 1, 0] (fin TI en29 (resOf Tryd.f29) dec29)
noncomputable def R29_0 (a30 : Q29T0) (a57 : Q29T1) (N : Nat) (m : Nat) : TS → Option (List (List UInt8 × Int)) := loopK (den (E29 a30 a57) lv29 N (sub c29 [1, 1, 0, 1, 0, 0])) (TS.norm nm29_0) (K29_0 a30 a57 N) m
noncomputable def K29_1 (a30 : Q29T0) (a57 : Q29T1) (N : Nat) (T29_0 : TS → Option (List (List UInt8 × Int))) : Kont (List (List UInt8 × Int)) := kont (E29 a30 a57) lv29 N (sub c29 [1, 1, 0, 1, 0, 0]) [1, 0, 1, 1, 1, 0] (kloop (TS.norm nm29_0) (K29_0 a30 a57 N) T29_0)
noncomputable def R29_1 (a30 : Q29T0) (a57 : Q29T1) (N : Nat) (T29_0 : TS → Option (List (List UInt8 × Int))) (m : Nat) : TS → Option (List (List UInt8 × Int)) := loopK (den (E29 a30 a57) lv29 N (sub c29 [1, 1, 0, 1, 0, 0, 1, 0, 1, 1, 1, 0, 0])) (TS.norm nm29_1) (K29_1 a30 a57 N T29_0) m
def l29b (a30 : Q29T0) (a57 : Q29T1) (N : Nat) (o0 : Q29T2) (list6_a : List (List UInt8)) (rec_l29a : (List (List UInt8)) → (List (List UInt8 × Int)) → Option (List (List UInt8 × Int))) : Nat → Int → (List (List UInt8)) → (List (List UInt8 × Int)) → Option (List (List UInt8 × Int))
 | 0, _, _, _ => none
 | n + 1, i8_b, list6_b, o12_b => cond (decide ((w64 (i8_b + (1 : Int))) < ((list6_a.getD 0 ([] : List UInt8)).length : Int))) ((a57 (list6_a.getD 0 ([] : List UInt8)) i8_b).bind fun r1 =>
   chk (decide (0 ≤ i8_b ∧ i8_b < ((list6_a.getD 0 ([] : List UInt8)).length : Int))) (chk (decide (0 ≤ w64 (i8_b + (1 : Int)) ∧ w64 (i8_b + (1 : Int)) < ((list6_a.getD 0 ([] : List UInt8)).length : Int))) ((a30 o0 ((((list6_a.getD 0 ([] : List UInt8)).getD i8_b.toNat 0).toNat : Nat) : Int) ((((list6_a.getD 0 ([] : List UInt8)).getD ((w64 (i8_b + (1 : Int))).toNat) 0).toNat : Nat) : Int)).bind fun r2 =>
   cond (r2) (chk (decide (0 ≤ i8_b ∧ i8_b < ((list6_a.getD 0 ([] : List UInt8)).length : Int))) (chk (decide (0 ≤ w64 (i8_b + (1 : Int)) ∧ w64 (i8_b + (1 : Int)) < ((list6_a.getD 0 ([] : List UInt8)).length : Int))) (cond (((((list6_a.getD 0 ([] : List UInt8)).getD i8_b.toNat 0).toNat : Nat) : Int) != ((((list6_a.getD 0 ([] : List UInt8)).getD ((w64 (i8_b + (1 : Int))).toNat) 0).toNat : Nat) : Int)) (cond (!((mget (kt := .str) (vt := .int .i64) o12_b r1).isSome)) (chk (small (list6_b.length + 1) 16) ((l29b a30 a57 N o0 list6_a rec_l29a n (w64 (i8_b + (1 : Int))) (list6_b ++ ([r1] : List (List UInt8))) (mput (kt := .str) (vt := .int .i64) o12_b r1 (w64 (((mget (kt := .str) (vt := .int .i64) o12_b (list6_a.getD 0 ([] : List UInt8))).getD (0 : Int)) + (1 : Int)))))))
   ((l29b a30 a57 N o0 list6_a rec_l29a n (w64 (i8_b + (1 : Int))) list6_b o12_b)))
   ((l29b a30 a57 N o0 list6_a rec_l29a n (w64 (i8_b + (1 : Int))) list6_b o12_b)))))
   ((l29b a30 a57 N o0 list6_a rec_l29a n (w64 (i8_b + (1 : Int))) list6_b o12_b)))))
   ((rec_l29a list6_b o12_b))
theorem wl29b (a30 : Q29T0) (a57 : Q29T1) (N : Nat) (o0 : Q29T2) (list6_a : List (List UInt8)) (T29_0 : TS → Option (List (List UInt8 × Int))) (m : Nat) (i8_b : Int) (list6_b : List (List UInt8)) (o12_b : List (List UInt8 × Int)) : R29_1 a30 a57 N T29_0 (m + 1) (Sl29b o0 list6_a i8_b list6_b o12_b) = cond (decide ((w64 (i8_b + (1 : Int))) < ((list6_a.getD 0 ([] : List UInt8)).length : Int))) ((a57 (list6_a.getD 0 ([] : List UInt8)) i8_b).bind fun r1 =>
   chk (decide (0 ≤ i8_b ∧ i8_b < ((list6_a.getD 0 ([] : List UInt8)).length : Int))) (chk (decide (0 ≤ w64 (i8_b + (1 : Int)) ∧ w64 (i8_b + (1 : Int)) < ((list6_a.getD 0 ([] : List UInt8)).length : Int))) ((a30 o0 ((((list6_a.getD 0 ([] : List UInt8)).getD i8_b.toNat 0).toNat : Nat) : Int) ((((list6_a.getD 0 ([] : List UInt8)).getD ((w64 (i8_b + (1 : Int))).toNat) 0).toNat : Nat) : Int)).bind fun r2 =>
   cond (r2) (chk (decide (0 ≤ i8_b ∧ i8_b < ((list6_a.getD 0 ([] : List UInt8)).length : Int))) (chk (decide (0 ≤ w64 (i8_b + (1 : Int)) ∧ w64 (i8_b + (1 : Int)) < ((list6_a.getD 0 ([] : List UInt8)).length : Int))) (cond (((((list6_a.getD 0 ([] : List UInt8)).getD i8_b.toNat 0).toNat : Nat) : Int) != ((((list6_a.getD 0 ([] : List UInt8)).getD ((w64 (i8_b + (1 : Int))).toNat) 0).toNat : Nat) : Int)) (cond (!((mget (kt := .str) (vt := .int .i64) o12_b r1).isSome)) (chk (small (list6_b.length + 1) 16) ((R29_1 a30 a57 N T29_0 m (Sl29b o0 list6_a (w64 (i8_b + (1 : Int))) (list6_b ++ ([r1] : List (List UInt8))) (mput (kt := .str) (vt := .int .i64) o12_b r1 (w64 (((mget (kt := .str) (vt := .int .i64) o12_b (list6_a.getD 0 ([] : List UInt8))).getD (0 : Int)) + (1 : Int))))))))
   ((R29_1 a30 a57 N T29_0 m (Sl29b o0 list6_a (w64 (i8_b + (1 : Int))) list6_b o12_b))))
   ((R29_1 a30 a57 N T29_0 m (Sl29b o0 list6_a (w64 (i8_b + (1 : Int))) list6_b o12_b))))))
   ((R29_1 a30 a57 N T29_0 m (Sl29b o0 list6_a (w64 (i8_b + (1 : Int))) list6_b o12_b))))))
   ((T29_0 (Sl29a o0 list6_b o12_b))) := by kernel_rfl
theorem ql29b (a30 : Q29T0) (a57 : Q29T1) (N : Nat) (o0 : Q29T2) (list6_a : List (List UInt8)) (T29_0 : TS → Option (List (List UInt8 × Int))) : ∀ (m : Nat) (i8_b : Int) (list6_b : List (List UInt8)) (o12_b : List (List UInt8 × Int)), R29_1 a30 a57 N T29_0 m (Sl29b o0 list6_a i8_b list6_b o12_b) = l29b a30 a57 N o0 list6_a (fun y0 y1 => T29_0 (Sl29a o0 y0 y1)) m i8_b list6_b o12_b
        | 0, _, _, _ => rfl
        | m + 1, i8_b, list6_b, o12_b => by rw [wl29b]; simp only [l29b, ql29b a30 a57 N o0 list6_a T29_0 m]
def l29a (a30 : Q29T0) (a57 : Q29T1) (N : Nat) (o0 : Q29T2) : Nat → (List (List UInt8)) → (List (List UInt8 × Int)) → Option (List (List UInt8 × Int))
 | 0, _, _ => none
 | n + 1, list6_a, o12_a => cond (decide ((list6_a.length : Int) > (0 : Int))) (chk (decide (0 ≤ (0 : Int) ∧ (0 : Int) < (list6_a.length : Int))) (chk (decide (0 ≤ (1 : Int) ∧ (1 : Int) ≤ (list6_a.length : Int))) ((l29b a30 a57 N o0 list6_a (fun y0 y1 => (l29a a30 a57 N o0 n y0 y1)) N (0 : Int) (list6_a.drop 1) o12_a))))
   (some o12_a)
theorem wl29a (a30 : Q29T0) (a57 : Q29T1) (N : Nat) (o0 : Q29T2) (m : Nat) (list6_a : List (List UInt8)) (o12_a : List (List UInt8 × Int)) : R29_0 a30 a57 N (m + 1) (Sl29a o0 list6_a o12_a) = cond (decide ((list6_a.length : Int) > (0 : Int))) (chk (decide (0 ≤ (0 : Int) ∧ (0 : Int) < (list6_a.length : Int))) (chk (decide (0 ≤ (1 : Int) ∧ (1 : Int) ≤ (list6_a.length : Int))) ((R29_1 a30 a57 N (R29_0 a30 a57 N m) N (Sl29b o0 list6_a (0 : Int) (list6_a.drop 1) o12_a)))))
   (some o12_a) := by kernel_rfl
theorem ql29a (a30 : Q29T0) (a57 : Q29T1) (N : Nat) (o0 : Q29T2) : ∀ (m : Nat) (list6_a : List (List UInt8)) (o12_a : List (List UInt8 × Int)), R29_0 a30 a57 N m (Sl29a o0 list6_a o12_a) = l29a a30 a57 N o0 m list6_a o12_a
        | 0, _, _ => rfl
        | m + 1, list6_a, o12_a => by rw [wl29a]; simp only [l29a, ql29b, ql29a a30 a57 N o0 m]
def m29 (a30 : Q29T0) (a57 : Q29T1) (N : Nat) (o0 : Q29T2) (s1 : List UInt8) : Option (List (List UInt8 × Int)) :=
   (l29a a30 a57 N o0 N ([s1] : List (List UInt8)) (mput (kt := .str) (vt := .int .i64) ([] : List (List UInt8 × Int)) s1 (0 : Int)))
theorem wm29 (a30 : Q29T0) (a57 : Q29T1) (N : Nat) (o0 : Q29T2) (s1 : List UInt8) : callF (E29 a30 a57) lv29 N en29 c29 (resOf Tryd.f29) 71 [.dv (.pair (.int .i64) (.pair (.sl (.arr 2 (.int .i64))) (.unit))) o0, .dv (.str) s1] [] dec29 = (R29_0 a30 a57 N N (Sl29a o0 ([s1] : List (List UInt8)) (mput (kt := .str) (vt := .int .i64) ([] : List (List UInt8 × Int)) s1 (0 : Int)))) := by kernel_rfl
theorem k29 (a30 : Q29T0) (a57 : Q29T1) (N : Nat) (o0 : Q29T2) (s1 : List UInt8) : callF (E29 a30 a57) lv29 N en29 c29 (resOf Tryd.f29) 71 [.dv (.pair (.int .i64) (.pair (.sl (.arr 2 (.int .i64))) (.unit))) o0, .dv (.str) s1] [] dec29 = m29 a30 a57 N o0 s1 := by rw [wm29]; simp only [m29, ql29a]
theorem ok29 (a30 : Q29T0) (a57 : Q29T1) (h30 : FnOk Tryd.prog 30 (F30 a30)) (h57 : FnOk Tryd.prog 57 (F57 a57)) (a : (Int × List (List Int) × Unit) → (List UInt8) → Option (List (List UInt8 × Int))) (h : ∀ o0 s1 r, a o0 s1 = some r → (∃ N, m29 a30 a57 N o0 s1 = some r)) : FnOk Tryd.prog 29 (F29 a) := by
 intro args Of x hx
 simp only [F29] at hx
 split at hx
 ·rename_i o0 s1
  obtain ⟨N, hN⟩ := h _ _ _ hx
  refine lifted (L := [(30, F30 a30), (57, F57 a57)]) (rc := nrc) (fz := (fun i => ([24] : List Nat).contains i)) (fn := Tryd.f29) (by kernel_rfl) (by kernel_rfl) (by kernel_rfl) (by kernel_rfl) rfl ?_ ((k29 a30 a57 N _ _).trans hN) ?_
  ·intro p hp; simp only [List.mem_cons, List.not_mem_nil, or_false] at hp; rcases hp with rfl | rfl
   ·exact h30
   ·exact h57
  ·intro l o hd
   simp only [dec29] at hd
   split at hd
   ·obtain rfl := Option.some.inj hd; exact ⟨rfl, rfl⟩
   ·cases hd
 ·cases hx
end Go.Proofs.YtmpbbkldopfkpaaDoor
