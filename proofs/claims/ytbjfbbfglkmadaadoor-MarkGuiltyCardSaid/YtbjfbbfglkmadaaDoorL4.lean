/-
  Functions 14, told as plain functions. Is a code much larger than it may be? Functions 4, told as plain functions.
-/
import Derived.Test.YtbjfbbfglkmadaaDoorQFI
import Derived.Test.YtbjfbbfglkmadaaDoorMP
namespace Go.Proofs.YtbjfbbfglkmadaaDoor
open Go.RowKit
set_option linter.unusedVariables false
def E14 : Env := mkE TI TY [] nrc nfz
noncomputable def c14 : Code := bodyOf Tryd.f14
def nm14_0 : Norm := ⟨[1, 3], [1], [], []⟩
def lv14 : Nat → Option Norm := norms [(4, nm14_0)]
def en14 : End := ⟨[], ⟨[22], [], [], []⟩⟩
def dec14 (l : List TV) (o : List (Nat × TO)) : Option (Bool) := match l, o with | [.dv (.bool) x0], [] => some (x0) | _, _ => none
def Sl14a (c0 : Int × List (List Int) × Unit) (i3_a : Int) : TS := ⟨slots 22 [(1, .ptr 1 0 []), (3, .dv (.int .i64) i3_a)], [(1, .row (.pair (.int .i64) (.pair (.sl (.sl (.int .i64))) (.unit))) ([c0] : List Cd))]⟩
noncomputable def K14_0 (N : Nat) : Kont (Bool) := kont (E14) lv14 N c14 [1, 1, 0, 1, 0] (fin TI en14 (resOf Tryd.f14) dec14)
noncomputable def R14_0 (N : Nat) (m : Nat) : TS → Option (Bool) := loopK (den (E14) lv14 N (sub c14 [1, 1, 0, 1, 0, 0])) (TS.norm nm14_0) (K14_0 N) m
def l14a (N : Nat) (c0 : Int × List (List Int) × Unit) : Nat → Int → Option (Bool)
  | 0, _ => none
  | n + 1, i3_a => cond (decide (i3_a < (c0.2.1.length : Int))) (chk (decide (0 ≤ i3_a ∧ i3_a < (c0.2.1.length : Int))) (cond (decide (((c0.2.1.getD i3_a.toNat ([] : List Int)).length : Int) > (20 : Int))) (some true)
      ((l14a N c0 n (w64 (i3_a + (1 : Int)))))))
      (some false)
theorem wl14a (N : Nat) (c0 : Int × List (List Int) × Unit) (m : Nat) (i3_a : Int) : R14_0 N (m + 1) (Sl14a c0 i3_a) = cond (decide (i3_a < (c0.2.1.length : Int))) (chk (decide (0 ≤ i3_a ∧ i3_a < (c0.2.1.length : Int))) (cond (decide (((c0.2.1.getD i3_a.toNat ([] : List Int)).length : Int) > (20 : Int))) (some true)
      ((R14_0 N m (Sl14a c0 (w64 (i3_a + (1 : Int))))))))
      (some false) := by kernel_rfl
theorem ql14a (N : Nat) (c0 : Int × List (List Int) × Unit) : ∀ (m : Nat) (i3_a : Int), R14_0 N m (Sl14a c0 i3_a) = l14a N c0 m i3_a
        | 0, _ => rfl
        | m + 1, i3_a => by rw [wl14a]; simp only [l14a, ql14a N c0 m]
def m14 (N : Nat) (c0 : Int × List (List Int) × Unit) : Option (Bool) :=
      cond (decide ((c0.2.1.length : Int) > (20 : Int))) (some true)
      ((l14a N c0 N (0 : Int)))
theorem wm14 (N : Nat) (c0 : Int × List (List Int) × Unit) : callF (E14) lv14 N en14 c14 (resOf Tryd.f14) 21 [.dv (.pair (.int .i64) (.pair (.sl (.sl (.int .i64))) (.unit))) c0] [] dec14 = cond (decide ((c0.2.1.length : Int) > (20 : Int))) (some true)
      ((R14_0 N N (Sl14a c0 (0 : Int)))) := by kernel_rfl
theorem k14 (N : Nat) (c0 : Int × List (List Int) × Unit) : callF (E14) lv14 N en14 c14 (resOf Tryd.f14) 21 [.dv (.pair (.int .i64) (.pair (.sl (.sl (.int .i64))) (.unit))) c0] [] dec14 = m14 N c0 := by rw [wm14]; simp only [m14, ql14a]
theorem ok14 (a : Y14) (h : ∀ c0 r, a c0 = some r → (∃ N, m14 N c0 = some r)) : FnOk Tryd.prog 14 (F14 a) := by
  intro args Of x hx
  simp only [F14] at hx
  split at hx
  · rename_i c0
    obtain ⟨N, hN⟩ := h _ _ hx
    refine lifted (L := []) (rc := nrc) (fz := nfz) (fn := Tryd.f14) (by kernel_rfl) (by kernel_rfl) (by kernel_rfl) (by kernel_rfl) rfl ?_ ((k14 N _).trans hN) ?_
    · intro p hp; cases hp
    · intro l o hd
      simp only [dec14] at hd
      split at hd
      · obtain rfl := Option.some.inj hd; exact ⟨rfl, rfl⟩
      · cases hd
  · cases hx

def B14 (c : Cd) : Option Bool := some (decide (20 < c.2.1.length) || c.2.1.any fun w => decide (20 < w.length))
theorem KB14 : FnOk Tryd.prog 14 (F14 B14) := ok14 B14 fun c r h => ⟨1001, by
  simp only [B14] at h
  rw [← h, m14]
  rw [show decide ((c.2.1.length : Int) > 20) = decide (20 < c.2.1.length) from lenGt _ 20]
  cases e : decide (20 < c.2.1.length) with
  | true => rfl
  | false =>
    have hl := of_decide_eq_false e
    rw [cond_false, Bool.false_or]
    exact rangeInd c.2.1 [] (fun n (_ : Unit) t => l14a 1001 c n t) (fun xs _ => some (xs.any fun w => decide (20 < w.length)))
      (fun n s t x rest ht hx ih => by
        simp only [l14a, ixA ht, ixB ht, cond_true, chk_true, Int.toNat_natCast, ixW ht (by omega), hx, ih ()]
        rw [show decide ((x.length : Int) > 20) = decide (20 < x.length) from lenGt _ 20, List.any_cons]
        cases decide (20 < x.length) <;> rfl)
      (fun n s => by simp only [l14a, ixE, cond_false]; rfl) 1001 () (by omega)⟩
theorem B14_no {c : Cd} (h : (decide (20 < c.2.1.length) || c.2.1.any fun w => decide (20 < w.length)) = false) : smB c = true := by
  simp only [Bool.or_eq_false_iff, decide_eq_false_iff_not, List.any_eq_false, decide_eq_true_eq] at h
  simp only [smB, Bool.and_eq_true, decide_eq_true_eq, List.all_eq_true]
  exact ⟨by omega, fun w hw => by have := h.2 w hw; omega⟩

def E4 (a14 : Y14) (a15 : Y15) (a24 : Y24) (a25 : Y25) (a26 : Y26) (a27 : Y27) (a28 : Y28) (a29 : Y29) (a30 : Y30) (a31 : Y31) (a32 : Y32) (a33 : Y33) : Env := mkE TI TY [(14, F14 a14), (15, F15 a15), (24, F24 a24), (25, F25 a25), (26, F26 a26), (27, F27 a27), (28, F28 a28), (29, F29 a29), (30, F30 a30), (31, F31 a31), (32, F32 a32), (33, F33 a33)] nrc nfz
noncomputable def c4 : Code := bodyOf Tryd.f4
def lv4 : Nat → Option Norm := norms []
def en4 : End := ⟨[], ⟨[126], [], [], []⟩⟩
def dec4 (l : List TV) (o : List (Nat × TO)) : Option (Bool) := match l, o with | [.dv (.bool) x0], [] => some (x0) | _, _ => none
def m4 (a14 : Y14) (a15 : Y15) (a24 : Y24) (a25 : Y25) (a26 : Y26) (a27 : Y27) (a28 : Y28) (a29 : Y29) (a30 : Y30) (a31 : Y31) (a32 : Y32) (a33 : Y33) (N : Nat) (c0 : Int × List (List Int) × Unit) (word1 : List Int) (size2 : Int) : Option (Bool) :=
      (a14 c0).bind fun r1 =>
      cond (r1) ((a15).bind fun r2 =>
      some r2)
      (cond (decide ((word1.length : Int) > (40 : Int))) ((a15).bind fun r3 =>
      some r3)
      ((a24 c0 word1).bind fun r4 =>
      (a25 c0 word1).bind fun r5 =>
      (a26 c0 word1 size2).bind fun r6 =>
      (a27 c0 word1 size2).bind fun r7 =>
      (a28 c0 word1 size2).bind fun r8 =>
      (a29 c0 word1 size2).bind fun r9 =>
      (a30 c0 word1).bind fun r10 =>
      (a31 c0 word1).bind fun r11 =>
      (a32 r4.1 r5.1).bind fun r12 =>
      cond (r12) (cond (r4.2 == r5.2) ((a33 r6.1 r7.1).bind fun r13 =>
      cond (r13) (cond (r6.2 == r7.2) ((a32 r8.1 r9.1).bind fun r14 =>
      cond (r14) (cond (r8.2 == r9.2) ((a32 r10.1 r11.1).bind fun r15 =>
      cond (r15) (cond (r10.2 == r11.2) ((a15).bind fun r16 =>
      some r16)
      (some false))
      (some false))
      (some false))
      (some false))
      (some false))
      (some false))
      (some false))
      (some false)))
theorem k4 (a14 : Y14) (a15 : Y15) (a24 : Y24) (a25 : Y25) (a26 : Y26) (a27 : Y27) (a28 : Y28) (a29 : Y29) (a30 : Y30) (a31 : Y31) (a32 : Y32) (a33 : Y33) (N : Nat) (c0 : Int × List (List Int) × Unit) (word1 : List Int) (size2 : Int) : callF (E4 a14 a15 a24 a25 a26 a27 a28 a29 a30 a31 a32 a33) lv4 N en4 c4 (resOf Tryd.f4) 123 [.dv (.pair (.int .i64) (.pair (.sl (.sl (.int .i64))) (.unit))) c0, .dv (.sl (.int .i64)) word1, .dv (.int .i64) size2] [] dec4 = m4 a14 a15 a24 a25 a26 a27 a28 a29 a30 a31 a32 a33 N c0 word1 size2 := by kernel_rfl
theorem ok4 (a14 : Y14) (a15 : Y15) (a24 : Y24) (a25 : Y25) (a26 : Y26) (a27 : Y27) (a28 : Y28) (a29 : Y29) (a30 : Y30) (a31 : Y31) (a32 : Y32) (a33 : Y33) (h14 : FnOk Tryd.prog 14 (F14 a14)) (h15 : FnOk Tryd.prog 15 (F15 a15)) (h24 : FnOk Tryd.prog 24 (F24 a24)) (h25 : FnOk Tryd.prog 25 (F25 a25)) (h26 : FnOk Tryd.prog 26 (F26 a26)) (h27 : FnOk Tryd.prog 27 (F27 a27)) (h28 : FnOk Tryd.prog 28 (F28 a28)) (h29 : FnOk Tryd.prog 29 (F29 a29)) (h30 : FnOk Tryd.prog 30 (F30 a30)) (h31 : FnOk Tryd.prog 31 (F31 a31)) (h32 : FnOk Tryd.prog 32 (F32 a32)) (h33 : FnOk Tryd.prog 33 (F33 a33)) (a : Y4) (h : ∀ c0 word1 size2 r, a c0 word1 size2 = some r → (∃ N, m4 a14 a15 a24 a25 a26 a27 a28 a29 a30 a31 a32 a33 N c0 word1 size2 = some r)) : FnOk Tryd.prog 4 (F4 a) := by
  intro args Of x hx
  simp only [F4] at hx
  split at hx
  · rename_i c0 word1 size2
    obtain ⟨N, hN⟩ := h _ _ _ _ hx
    refine lifted (L := [(14, F14 a14), (15, F15 a15), (24, F24 a24), (25, F25 a25), (26, F26 a26), (27, F27 a27), (28, F28 a28), (29, F29 a29), (30, F30 a30), (31, F31 a31), (32, F32 a32), (33, F33 a33)]) (rc := nrc) (fz := nfz) (fn := Tryd.f4) (by kernel_rfl) (by kernel_rfl) (by kernel_rfl) (by kernel_rfl) rfl ?_ ((k4 a14 a15 a24 a25 a26 a27 a28 a29 a30 a31 a32 a33 N _ _ _).trans hN) ?_
    · intro p hp; simp only [List.mem_cons, List.not_mem_nil, or_false] at hp; rcases hp with rfl | rfl | rfl | rfl | rfl | rfl | rfl | rfl | rfl | rfl | rfl | rfl
      · exact h14
      · exact h15
      · exact h24
      · exact h25
      · exact h26
      · exact h27
      · exact h28
      · exact h29
      · exact h30
      · exact h31
      · exact h32
      · exact h33
    · intro l o hd
      simp only [dec4] at hd
      split at hd
      · obtain rfl := Option.some.inj hd; exact ⟨rfl, rfl⟩
      · cases hd
  · cases hx
end Go.Proofs.YtbjfbbfglkmadaaDoor
