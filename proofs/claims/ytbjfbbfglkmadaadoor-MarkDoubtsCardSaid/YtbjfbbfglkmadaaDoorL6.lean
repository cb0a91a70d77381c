/-
  Functions 14, told as plain functions. Is a code much larger than it may be? Functions 6, told as plain functions.
-/
import Derived.Test.YtbjfbbfglkmadaaDoorQFI
import Derived.Test.YtbjfbbfglkmadaaDoorMP
namespace Go.Proofs.YtbjfbbfglkmadaaDoor
open Go.RowKit
set_option linter.unusedVariables false
def E14 : Env := mkE TI TY [] nrc nfz
noncomputable def c14 : Code := bodyOf Tryd.f14
def nm14_0 : Norm := ⟨[1, 3], [1], [], []⟩
def lv14 : Nat → Option Norm := norms [(4, nm14_0)]
def en14 : End := ⟨[], ⟨[22], [], [], []⟩⟩
def dec14 (l : List TV) (o : List (Nat × TO)) : Option (Bool) := match l, o with | [.dv (.bool) x0], [] => some (x0) | _, _ => none
def Sl14a (c0 : Int × List (List Int) × Unit) (i3_a : Int) : TS := ⟨slots 22 [(1, .ptr 1 0 []), (3, .dv (.int .i64) i3_a)], [(1, .row (.pair (.int .i64) (.pair (.sl (.sl (.int .i64))) (.unit))) ([c0] : List Cd))]⟩
noncomputable def K14_0 (N : Nat) : Kont (Bool) := kont (E14) lv14 N c14 [1, 1, 0, 1, 0] (fin TI en14 (resOf Tryd.f14) dec14)
noncomputable def R14_0 (N : Nat) (m : Nat) : TS → Option (Bool) := loopK (den (E14) lv14 N (sub c14 [1, 1, 0, 1, 0, 0])) (TS.norm nm14_0) (K14_0 N) m
def l14a (N : Nat) (c0 : Int × List (List Int) × Unit) : Nat → Int → Option (Bool)
  | 0, _ => none
  | n + 1, i3_a => cond (decide (i3_a < (c0.2.1.length : Int))) (chk (decide (0 ≤ i3_a ∧ i3_a < (c0.2.1.length : Int))) (cond (decide (((c0.2.1.getD i3_a.toNat ([] : List Int)).length : Int) > (20 : Int))) (some true)
      ((l14a N c0 n (w64 (i3_a + (1 : Int)))))))
      (some false)
theorem wl14a (N : Nat) (c0 : Int × List (List Int) × Unit) (m : Nat) (i3_a : Int) : R14_0 N (m + 1) (Sl14a c0 i3_a) = cond (decide (i3_a < (c0.2.1.length : Int))) (chk (decide (0 ≤ i3_a ∧ i3_a < (c0.2.1.length : Int))) (cond (decide (((c0.2.1.getD i3_a.toNat ([] : List Int)).length : Int) > (20 : Int))) (some true)
      ((R14_0 N m (Sl14a c0 (w64 (i3_a + (1 : Int))))))))
      (some false) := by kernel_rfl
theorem ql14a (N : Nat) (c0 : Int × List (List Int) × Unit) : ∀ (m : Nat) (i3_a : Int), R14_0 N m (Sl14a c0 i3_a) = l14a N c0 m i3_a
        | 0, _ => rfl
        | m + 1, i3_a => by rw [wl14a]; simp only [l14a, ql14a N c0 m]
def m14 (N : Nat) (c0 : Int × List (List Int) × Unit) : Option (Bool) :=
      cond (decide ((c0.2.1.length : Int) > (20 : Int))) (some true)
      ((l14a N c0 N (0 : Int)))
theorem wm14 (N : Nat) (c0 : Int × List (List Int) × Unit) : callF (E14) lv14 N en14 c14 (resOf Tryd.f14) 21 [.dv (.pair (.int .i64) (.pair (.sl (.sl (.int .i64))) (.unit))) c0] [] dec14 = cond (decide ((c0.2.1.length : Int) > (20 : Int))) (some true)
      ((R14_0 N N (Sl14a c0 (0 : Int)))) := by kernel_rfl
theorem k14 (N : Nat) (c0 : Int × List (List Int) × Unit) : callF (E14) lv14 N en14 c14 (resOf Tryd.f14) 21 [.dv (.pair (.int .i64) (.pair (.sl (.sl (.int .i64))) (.unit))) c0] [] dec14 = m14 N c0 := by rw [wm14]; simp only [m14, ql14a]
theorem ok14 (a : Y14) (h : ∀ c0 r, a c0 = some r → (∃ N, m14 N c0 = some r)) : FnOk Tryd.prog 14 (F14 a) := by
  intro args Of x hx
  simp only [F14] at hx
  split at hx
  · rename_i c0
    obtain ⟨N, hN⟩ := h _ _ hx
    refine lifted (L := []) (rc := nrc) (fz := nfz) (fn := Tryd.f14) (by kernel_rfl) (by kernel_rfl) (by kernel_rfl) (by kernel_rfl) rfl ?_ ((k14 N _).trans hN) ?_
    · intro p hp; cases hp
    · intro l o hd
      simp only [dec14] at hd
      split at hd
      · obtain rfl := Option.some.inj hd; exact ⟨rfl, rfl⟩
      · cases hd
  · cases hx
def B14 (c : Cd) : Option Bool := some (decide (20 < c.2.1.length) || c.2.1.any fun w => decide (20 < w.length))
theorem KB14 : FnOk Tryd.prog 14 (F14 B14) := ok14 B14 fun c r h => ⟨1001, by
  simp only [B14] at h
  rw [← h, m14]
  rw [show decide ((c.2.1.length : Int) > 20) = decide (20 < c.2.1.length) from lenGt _ 20]
  cases e : decide (20 < c.2.1.length) with
  | true => rfl
  | false =>
    have hl := of_decide_eq_false e
    rw [cond_false, Bool.false_or]
    exact rangeInd c.2.1 [] (fun n (_ : Unit) t => l14a 1001 c n t) (fun xs _ => some (xs.any fun w => decide (20 < w.length)))
      (fun n s t x rest ht hx ih => by
        simp only [l14a, ixA ht, ixB ht, cond_true, chk_true, Int.toNat_natCast, ixW ht (by omega), hx, ih ()]
        rw [show decide ((x.length : Int) > 20) = decide (20 < x.length) from lenGt _ 20, List.any_cons]
        cases decide (20 < x.length) <;> rfl)
      (fun n s => by simp only [l14a, ixE, cond_false]; rfl) 1001 () (by omega)⟩
theorem B14_no {c : Cd} (h : (decide (20 < c.2.1.length) || c.2.1.any fun w => decide (20 < w.length)) = false) : smB c = true := by
  simp only [Bool.or_eq_false_iff, decide_eq_false_iff_not, List.any_eq_false, decide_eq_true_eq] at h
  simp only [smB, Bool.and_eq_true, decide_eq_true_eq, List.all_eq_true]
  exact ⟨by omega, fun w hw => by have := h.2 w hw; omega⟩
def E6 (a14 : Y14) (a15 : Y15) (a36 : Y36) (a37 : Y37) (a38 : Y38) (a39 : Y39) : Env := mkE TI TY [(14, F14 a14), (15, F15 a15), (36, F36 a36), (37, F37 a37), (38, F38 a38), (39, F39 a39)] nrc nfz
noncomputable def c6 : Code := bodyOf Tryd.f6
def nm6_0 : Norm := ⟨[2, 3, 5], [2, 3], [], []⟩
def lv6 : Nat → Option Norm := norms [(4, nm6_0)]
def en6 : End := ⟨[], ⟨[82], [], [], []⟩⟩
def dec6 (l : List TV) (o : List (Nat × TO)) : Option (Bool) := match l, o with | [.dv (.bool) x0], [] => some (x0) | _, _ => none
def Sl6a (c0 : Int × List (List Int) × Unit) (d1 : List Int × List (List Int) × Unit) (i5_a : Int) : TS := ⟨slots 82 [(2, .ptr 2 0 []), (3, .ptr 3 0 []), (5, .dv (.int .i64) i5_a)], [(2, .row (.pair (.int .i64) (.pair (.sl (.sl (.int .i64))) (.unit))) ([c0] : List Cd)), (3, .row (.pair (.sl (.int .i64)) (.pair (.sl (.sl (.int .i64))) (.unit))) ([d1] : List Db))]⟩
noncomputable def K6_0 (a14 : Y14) (a15 : Y15) (a36 : Y36) (a37 : Y37) (a38 : Y38) (a39 : Y39) (N : Nat) : Kont (Bool) := kont (E6 a14 a15 a36 a37 a38 a39) lv6 N c6 [1, 1, 0, 1, 0] (fin TI en6 (resOf Tryd.f6) dec6)
noncomputable def R6_0 (a14 : Y14) (a15 : Y15) (a36 : Y36) (a37 : Y37) (a38 : Y38) (a39 : Y39) (N : Nat) (m : Nat) : TS → Option (Bool) := loopK (den (E6 a14 a15 a36 a37 a38 a39) lv6 N (sub c6 [1, 1, 0, 1, 0, 0])) (TS.norm nm6_0) (K6_0 a14 a15 a36 a37 a38 a39 N) m
def l6a (a14 : Y14) (a15 : Y15) (a36 : Y36) (a37 : Y37) (a38 : Y38) (a39 : Y39) (N : Nat) (c0 : Int × List (List Int) × Unit) (d1 : List Int × List (List Int) × Unit) : Nat → Int → Option (Bool)
  | 0, _ => none
  | n + 1, i5_a => cond (decide (i5_a < (d1.2.1.length : Int))) (chk (decide (0 ≤ i5_a ∧ i5_a < (d1.2.1.length : Int))) (cond (decide (((d1.2.1.getD i5_a.toNat ([] : List Int)).length : Int) > (40 : Int))) ((a15).bind fun r5 =>
      some r5)
      ((l6a a14 a15 a36 a37 a38 a39 N c0 d1 n (w64 (i5_a + (1 : Int)))))))
      ((a36 c0).bind fun r6 =>
      (a37 c0).bind fun r7 =>
      cond (r6.2 != r7) (some false)
      ((a38 c0 d1).bind fun r8 =>
      (a39 c0 d1).bind fun r9 =>
      cond (r8 != r9) (some false)
      (cond (r7 != (0 : Int)) (cond ((r6.1.1.length : Int) == (0 : Int)) (cond ((r6.1.2.1.length : Int) == (0 : Int)) ((a15).bind fun r10 =>
      some r10)
      (some false))
      (some false))
      ((a39 c0 r6.1).bind fun r11 =>
      cond (r11 == (0 : Int)) ((a15).bind fun r12 =>
      some r12)
      (some false)))))
theorem wl6a (a14 : Y14) (a15 : Y15) (a36 : Y36) (a37 : Y37) (a38 : Y38) (a39 : Y39) (N : Nat) (c0 : Int × List (List Int) × Unit) (d1 : List Int × List (List Int) × Unit) (m : Nat) (i5_a : Int) : R6_0 a14 a15 a36 a37 a38 a39 N (m + 1) (Sl6a c0 d1 i5_a) = cond (decide (i5_a < (d1.2.1.length : Int))) (chk (decide (0 ≤ i5_a ∧ i5_a < (d1.2.1.length : Int))) (cond (decide (((d1.2.1.getD i5_a.toNat ([] : List Int)).length : Int) > (40 : Int))) ((a15).bind fun r5 =>
      some r5)
      ((R6_0 a14 a15 a36 a37 a38 a39 N m (Sl6a c0 d1 (w64 (i5_a + (1 : Int))))))))
      ((a36 c0).bind fun r6 =>
      (a37 c0).bind fun r7 =>
      cond (r6.2 != r7) (some false)
      ((a38 c0 d1).bind fun r8 =>
      (a39 c0 d1).bind fun r9 =>
      cond (r8 != r9) (some false)
      (cond (r7 != (0 : Int)) (cond ((r6.1.1.length : Int) == (0 : Int)) (cond ((r6.1.2.1.length : Int) == (0 : Int)) ((a15).bind fun r10 =>
      some r10)
      (some false))
      (some false))
      ((a39 c0 r6.1).bind fun r11 =>
      cond (r11 == (0 : Int)) ((a15).bind fun r12 =>
      some r12)
      (some false))))) := by kernel_rfl
theorem ql6a (a14 : Y14) (a15 : Y15) (a36 : Y36) (a37 : Y37) (a38 : Y38) (a39 : Y39) (N : Nat) (c0 : Int × List (List Int) × Unit) (d1 : List Int × List (List Int) × Unit) : ∀ (m : Nat) (i5_a : Int), R6_0 a14 a15 a36 a37 a38 a39 N m (Sl6a c0 d1 i5_a) = l6a a14 a15 a36 a37 a38 a39 N c0 d1 m i5_a
        | 0, _ => rfl
        | m + 1, i5_a => by rw [wl6a]; simp only [l6a, ql6a a14 a15 a36 a37 a38 a39 N c0 d1 m]
def m6 (a14 : Y14) (a15 : Y15) (a36 : Y36) (a37 : Y37) (a38 : Y38) (a39 : Y39) (N : Nat) (c0 : Int × List (List Int) × Unit) (d1 : List Int × List (List Int) × Unit) : Option (Bool) :=
      (a14 c0).bind fun r1 =>
      cond (r1) ((a15).bind fun r2 =>
      some r2)
      (cond (decide ((d1.1.length : Int) > (40 : Int))) ((a15).bind fun r3 =>
      some r3)
      (cond (decide ((d1.2.1.length : Int) > (40 : Int))) ((a15).bind fun r4 =>
      some r4)
      ((l6a a14 a15 a36 a37 a38 a39 N c0 d1 N (0 : Int)))))
theorem wm6 (a14 : Y14) (a15 : Y15) (a36 : Y36) (a37 : Y37) (a38 : Y38) (a39 : Y39) (N : Nat) (c0 : Int × List (List Int) × Unit) (d1 : List Int × List (List Int) × Unit) : callF (E6 a14 a15 a36 a37 a38 a39) lv6 N en6 c6 (resOf Tryd.f6) 80 [.dv (.pair (.int .i64) (.pair (.sl (.sl (.int .i64))) (.unit))) c0, .dv (.pair (.sl (.int .i64)) (.pair (.sl (.sl (.int .i64))) (.unit))) d1] [] dec6 = (a14 c0).bind fun r1 =>
      cond (r1) ((a15).bind fun r2 =>
      some r2)
      (cond (decide ((d1.1.length : Int) > (40 : Int))) ((a15).bind fun r3 =>
      some r3)
      (cond (decide ((d1.2.1.length : Int) > (40 : Int))) ((a15).bind fun r4 =>
      some r4)
      ((R6_0 a14 a15 a36 a37 a38 a39 N N (Sl6a c0 d1 (0 : Int)))))) := by kernel_rfl
theorem k6 (a14 : Y14) (a15 : Y15) (a36 : Y36) (a37 : Y37) (a38 : Y38) (a39 : Y39) (N : Nat) (c0 : Int × List (List Int) × Unit) (d1 : List Int × List (List Int) × Unit) : callF (E6 a14 a15 a36 a37 a38 a39) lv6 N en6 c6 (resOf Tryd.f6) 80 [.dv (.pair (.int .i64) (.pair (.sl (.sl (.int .i64))) (.unit))) c0, .dv (.pair (.sl (.int .i64)) (.pair (.sl (.sl (.int .i64))) (.unit))) d1] [] dec6 = m6 a14 a15 a36 a37 a38 a39 N c0 d1 := by rw [wm6]; simp only [m6, ql6a]
theorem ok6 (a14 : Y14) (a15 : Y15) (a36 : Y36) (a37 : Y37) (a38 : Y38) (a39 : Y39) (h14 : FnOk Tryd.prog 14 (F14 a14)) (h15 : FnOk Tryd.prog 15 (F15 a15)) (h36 : FnOk Tryd.prog 36 (F36 a36)) (h37 : FnOk Tryd.prog 37 (F37 a37)) (h38 : FnOk Tryd.prog 38 (F38 a38)) (h39 : FnOk Tryd.prog 39 (F39 a39)) (a : Y6) (h : ∀ c0 d1 r, a c0 d1 = some r → (∃ N, m6 a14 a15 a36 a37 a38 a39 N c0 d1 = some r)) : FnOk Tryd.prog 6 (F6 a) := by
  intro args Of x hx
  simp only [F6] at hx
  split at hx
  · rename_i c0 d1
    obtain ⟨N, hN⟩ := h _ _ _ hx
    refine lifted (L := [(14, F14 a14), (15, F15 a15), (36, F36 a36), (37, F37 a37), (38, F38 a38), (39, F39 a39)]) (rc := nrc) (fz := nfz) (fn := Tryd.f6) (by kernel_rfl) (by kernel_rfl) (by kernel_rfl) (by kernel_rfl) rfl ?_ ((k6 a14 a15 a36 a37 a38 a39 N _ _).trans hN) ?_
    · intro p hp; simp only [List.mem_cons, List.not_mem_nil, or_false] at hp; rcases hp with rfl | rfl | rfl | rfl | rfl | rfl
      · exact h14
      · exact h15
      · exact h36
      · exact h37
      · exact h38
      · exact h39
    · intro l o hd
      simp only [dec6] at hd
      split at hd
      · obtain rfl := Option.some.inj hd; exact ⟨rfl, rfl⟩
      · cases hd
  · cases hx
end Go.Proofs.YtbjfbbfglkmadaaDoor
