import Derived.Test.YtaioadjcdjmkdaaQFI
namespace Go.Proofs.Ytaioadjcdjmkdaa
open Go.RowKit
set_option linter.unusedVariables false
def E46c48 (a48c : (List Int) → (List (Int × List (List Int) × Unit)) → Int → Option (Bool × List Int × List (Int × List (List Int) × Unit) × Int)) : Env := mkE TI TY [(48, F48c a48c)] nrc nfz
noncomputable def c46c48 : Code := bodyOf Try.f46
def nm46c48_0 : Norm := ⟨[0, 1, 2, 7], [9000, 9001, 10], [], []⟩
def nm46c48_1 : Norm := ⟨[0, 1, 2, 7, 8], [9000, 9001, 10], [], []⟩
def lv46c48 : Nat → Option Norm := norms [(2, nm46c48_0), (5, nm46c48_1)]
def en46c48 : End := ⟨[], ⟨[40], [9000, 9001], [], []⟩⟩
def dec46c48 (l : List TV) (o : List (Nat × TO)) : Option (Bool × List (Int × List (List Int) × Unit) × Int) := match l, o with | [.dv (.bool) x0], [(9000, .row (.pair (.int .i64) (.pair (.sl (.sl (.int .i64))) (.unit))) x1), (9001, .rcd [.dv (.int .i64) x2])] => some (x0, x1, x2) | _, _ => none
noncomputable def K46c48_0 (a48c : (List Int) → (List (Int × List (List Int) × Unit)) → Int → Option (Bool × List Int × List (Int × List (List Int) × Unit) × Int)) (N : Nat) : Kont (Bool × List (Int × List (List Int) × Unit) × Int) := kont (E46c48 a48c) lv46c48 N c46c48 [1, 1, 0] (fin TI en46c48 (resOf Try.f46) dec46c48)
noncomputable def R46c48_0 (a48c : (List Int) → (List (Int × List (List Int) × Unit)) → Int → Option (Bool × List Int × List (Int × List (List Int) × Unit) × Int)) (N : Nat) (m : Nat) : TS → Option (Bool × List (Int × List (List Int) × Unit) × Int) := loopK (den (E46c48 a48c) lv46c48 N (sub c46c48 [1, 1, 0, 0])) (TS.norm nm46c48_0) (K46c48_0 a48c N) m
noncomputable def K46c48_1 (a48c : (List Int) → (List (Int × List (List Int) × Unit)) → Int → Option (Bool × List Int × List (Int × List (List Int) × Unit) × Int)) (N : Nat) (T46c48_0 : TS → Option (Bool × List (Int × List (List Int) × Unit) × Int)) : Kont (Bool × List (Int × List (List Int) × Unit) × Int) := kont (E46c48 a48c) lv46c48 N (sub c46c48 [1, 1, 0, 0]) [0, 1, 1, 0, 0] (kloop (TS.norm nm46c48_0) (K46c48_0 a48c N) T46c48_0)
noncomputable def R46c48_1 (a48c : (List Int) → (List (Int × List (List Int) × Unit)) → Int → Option (Bool × List Int × List (Int × List (List Int) × Unit) × Int)) (N : Nat) (T46c48_0 : TS → Option (Bool × List (Int × List (List Int) × Unit) × Int)) (m : Nat) : TS → Option (Bool × List (Int × List (List Int) × Unit) × Int) := loopK (den (E46c48 a48c) lv46c48 N (sub c46c48 [1, 1, 0, 0, 0, 1, 1, 0, 0, 0])) (TS.norm nm46c48_1) (K46c48_1 a48c N T46c48_0) m
def Sl46c48b (inks0 : Int) (size1 : Int) (r1 : Bool × List Int × List (Int × List (List Int) × Unit) × Int) (i8_b : Int) (o10_b : List Int) : TS := ⟨slots 40 [(0, .dv (.int .i64) inks0), (1, .dv (.int .i64) size1), (2, .fn 48 0 2 fun i => ([.ptr 9000 0 [], .ptr 9001 0 [0]] : List TV).getD i .any), (7, .row 10), (8, .dv (.int .i64) i8_b)], [(9000, .row (.pair (.int .i64) (.pair (.sl (.sl (.int .i64))) (.unit))) r1.2.2.1), (9001, .rcd [.dv (.int .i64) r1.2.2.2]), (10, .row (.int .i64) o10_b)]⟩
def Sl46c48a (inks0 : Int) (size1 : Int) (o9000_a : List (Int × List (List Int) × Unit)) (o9001_af0 : Int) (o10_a : List Int) : TS := ⟨slots 40 [(0, .dv (.int .i64) inks0), (1, .dv (.int .i64) size1), (2, .fn 48 0 2 fun i => ([.ptr 9000 0 [], .ptr 9001 0 [0]] : List TV).getD i .any), (7, .row 10)], [(9000, .row (.pair (.int .i64) (.pair (.sl (.sl (.int .i64))) (.unit))) o9000_a), (9001, .rcd [.dv (.int .i64) o9001_af0]), (10, .row (.int .i64) o10_a)]⟩
def l46c48b (a48c : (List Int) → (List (Int × List (List Int) × Unit)) → Int → Option (Bool × List Int × List (Int × List (List Int) × Unit) × Int)) (N : Nat) (inks0 : Int) (size1 : Int) (r1 : Bool × List Int × List (Int × List (List Int) × Unit) × Int) (rec_l46c48a : (List (Int × List (List Int) × Unit)) → Int → (List Int) → Option (Bool × List (Int × List (List Int) × Unit) × Int)) : Nat → Int → (List Int) → Option (Bool × List (Int × List (List Int) × Unit) × Int)
  | 0, _, _ => none
  | n + 1, i8_b, o10_b => cond (decide (i8_b ≥ (0 : Int))) (chk (decide (0 ≤ i8_b ∧ i8_b < (o10_b.length : Int))) (cond ((o10_b.getD i8_b.toNat (0 : Int)) == (w64 (inks0 - (1 : Int)))) (chk (decide (0 ≤ i8_b ∧ i8_b < (o10_b.length : Int))) ((l46c48b a48c N inks0 size1 r1 rec_l46c48a n (w64 (i8_b - (1 : Int))) (o10_b.set i8_b.toNat (0 : Int)))))
      (cond (decide (i8_b < (0 : Int))) (some (false, r1.2.2.1, r1.2.2.2))
      (chk (decide (0 ≤ i8_b ∧ i8_b < (o10_b.length : Int))) (chk (decide (0 ≤ i8_b ∧ i8_b < (o10_b.length : Int))) ((rec_l46c48a r1.2.2.1 r1.2.2.2 (o10_b.set i8_b.toNat (w64 ((o10_b.getD i8_b.toNat (0 : Int)) + (1 : Int)))))))))))
      (cond (decide (i8_b < (0 : Int))) (some (false, r1.2.2.1, r1.2.2.2))
      (chk (decide (0 ≤ i8_b ∧ i8_b < (o10_b.length : Int))) (chk (decide (0 ≤ i8_b ∧ i8_b < (o10_b.length : Int))) ((rec_l46c48a r1.2.2.1 r1.2.2.2 (o10_b.set i8_b.toNat (w64 ((o10_b.getD i8_b.toNat (0 : Int)) + (1 : Int)))))))))
theorem wl46c48b (a48c : (List Int) → (List (Int × List (List Int) × Unit)) → Int → Option (Bool × List Int × List (Int × List (List Int) × Unit) × Int)) (N : Nat) (inks0 : Int) (size1 : Int) (r1 : Bool × List Int × List (Int × List (List Int) × Unit) × Int) (T46c48_0 : TS → Option (Bool × List (Int × List (List Int) × Unit) × Int)) (m : Nat) (i8_b : Int) (o10_b : List Int) : R46c48_1 a48c N T46c48_0 (m + 1) (Sl46c48b inks0 size1 r1 i8_b o10_b) = cond (decide (i8_b ≥ (0 : Int))) (chk (decide (0 ≤ i8_b ∧ i8_b < (o10_b.length : Int))) (cond ((o10_b.getD i8_b.toNat (0 : Int)) == (w64 (inks0 - (1 : Int)))) (chk (decide (0 ≤ i8_b ∧ i8_b < (o10_b.length : Int))) ((R46c48_1 a48c N T46c48_0 m (Sl46c48b inks0 size1 r1 (w64 (i8_b - (1 : Int))) (o10_b.set i8_b.toNat (0 : Int))))))
      (cond (decide (i8_b < (0 : Int))) (some (false, r1.2.2.1, r1.2.2.2))
      (chk (decide (0 ≤ i8_b ∧ i8_b < (o10_b.length : Int))) (chk (decide (0 ≤ i8_b ∧ i8_b < (o10_b.length : Int))) ((T46c48_0 (Sl46c48a inks0 size1 r1.2.2.1 r1.2.2.2 (o10_b.set i8_b.toNat (w64 ((o10_b.getD i8_b.toNat (0 : Int)) + (1 : Int))))))))))))
      (cond (decide (i8_b < (0 : Int))) (some (false, r1.2.2.1, r1.2.2.2))
      (chk (decide (0 ≤ i8_b ∧ i8_b < (o10_b.length : Int))) (chk (decide (0 ≤ i8_b ∧ i8_b < (o10_b.length : Int))) ((T46c48_0 (Sl46c48a inks0 size1 r1.2.2.1 r1.2.2.2 (o10_b.set i8_b.toNat (w64 ((o10_b.getD i8_b.toNat (0 : Int)) + (1 : Int)))))))))) := by kernel_rfl
theorem ql46c48b (a48c : (List Int) → (List (Int × List (List Int) × Unit)) → Int → Option (Bool × List Int × List (Int × List (List Int) × Unit) × Int)) (N : Nat) (inks0 : Int) (size1 : Int) (r1 : Bool × List Int × List (Int × List (List Int) × Unit) × Int) (T46c48_0 : TS → Option (Bool × List (Int × List (List Int) × Unit) × Int)) : ∀ (m : Nat) (i8_b : Int) (o10_b : List Int), R46c48_1 a48c N T46c48_0 m (Sl46c48b inks0 size1 r1 i8_b o10_b) = l46c48b a48c N inks0 size1 r1 (fun y0 y1 y2 => T46c48_0 (Sl46c48a inks0 size1 y0 y1 y2)) m i8_b o10_b
        | 0, _, _ => rfl
        | m + 1, i8_b, o10_b => by rw [wl46c48b]; simp only [l46c48b, ql46c48b a48c N inks0 size1 r1 T46c48_0 m]
def l46c48a (a48c : (List Int) → (List (Int × List (List Int) × Unit)) → Int → Option (Bool × List Int × List (Int × List (List Int) × Unit) × Int)) (N : Nat) (inks0 : Int) (size1 : Int) : Nat → (List (Int × List (List Int) × Unit)) → Int → (List Int) → Option (Bool × List (Int × List (List Int) × Unit) × Int)
  | 0, _, _, _ => none
  | n + 1, o9000_a, o9001_af0, o10_a => (a48c o10_a o9000_a o9001_af0).bind fun r1 =>
      cond (r1.1) (some (true, r1.2.2.1, r1.2.2.2))
      ((l46c48b a48c N inks0 size1 r1 (fun y0 y1 y2 => (l46c48a a48c N inks0 size1 n y0 y1 y2)) N (w64 (size1 - (1 : Int))) r1.2.1))
theorem wl46c48a (a48c : (List Int) → (List (Int × List (List Int) × Unit)) → Int → Option (Bool × List Int × List (Int × List (List Int) × Unit) × Int)) (N : Nat) (inks0 : Int) (size1 : Int) (m : Nat) (o9000_a : List (Int × List (List Int) × Unit)) (o9001_af0 : Int) (o10_a : List Int) : R46c48_0 a48c N (m + 1) (Sl46c48a inks0 size1 o9000_a o9001_af0 o10_a) = (a48c o10_a o9000_a o9001_af0).bind fun r1 =>
      cond (r1.1) (some (true, r1.2.2.1, r1.2.2.2))
      ((R46c48_1 a48c N (R46c48_0 a48c N m) N (Sl46c48b inks0 size1 r1 (w64 (size1 - (1 : Int))) r1.2.1))) := by kernel_rfl
theorem ql46c48a (a48c : (List Int) → (List (Int × List (List Int) × Unit)) → Int → Option (Bool × List Int × List (Int × List (List Int) × Unit) × Int)) (N : Nat) (inks0 : Int) (size1 : Int) : ∀ (m : Nat) (o9000_a : List (Int × List (List Int) × Unit)) (o9001_af0 : Int) (o10_a : List Int), R46c48_0 a48c N m (Sl46c48a inks0 size1 o9000_a o9001_af0 o10_a) = l46c48a a48c N inks0 size1 m o9000_a o9001_af0 o10_a
        | 0, _, _, _ => rfl
        | m + 1, o9000_a, o9001_af0, o10_a => by rw [wl46c48a]; simp only [l46c48a, ql46c48b, ql46c48a a48c N inks0 size1 m]
def m46c48 (a48c : (List Int) → (List (Int × List (List Int) × Unit)) → Int → Option (Bool × List Int × List (Int × List (List Int) × Unit) × Int)) (N : Nat) (inks0 : Int) (size1 : Int) (p2 : List (Int × List (List Int) × Unit)) (p3 : Int) : Option (Bool × List (Int × List (List Int) × Unit) × Int) :=
      chk (mkOk size1 size1 8) ((l46c48a a48c N inks0 size1 N p2 p3 (List.replicate size1.toNat (0 : Int))))
theorem wm46c48 (a48c : (List Int) → (List (Int × List (List Int) × Unit)) → Int → Option (Bool × List Int × List (Int × List (List Int) × Unit) × Int)) (N : Nat) (inks0 : Int) (size1 : Int) (p2 : List (Int × List (List Int) × Unit)) (p3 : Int) : callF (E46c48 a48c) lv46c48 N en46c48 c46c48 (resOf Try.f46) 37 [.dv (.int .i64) inks0, .dv (.int .i64) size1, .fn 48 0 2 fun i => ([.ptr 9000 0 [], .ptr 9001 0 [0]] : List TV).getD i .any] [(9000, .row (.pair (.int .i64) (.pair (.sl (.sl (.int .i64))) (.unit))) p2), (9001, .rcd [.dv (.int .i64) p3])] dec46c48 = chk (mkOk size1 size1 8) ((R46c48_0 a48c N N (Sl46c48a inks0 size1 p2 p3 (List.replicate size1.toNat (0 : Int))))) := by kernel_rfl
theorem k46c48 (a48c : (List Int) → (List (Int × List (List Int) × Unit)) → Int → Option (Bool × List Int × List (Int × List (List Int) × Unit) × Int)) (N : Nat) (inks0 : Int) (size1 : Int) (p2 : List (Int × List (List Int) × Unit)) (p3 : Int) : callF (E46c48 a48c) lv46c48 N en46c48 c46c48 (resOf Try.f46) 37 [.dv (.int .i64) inks0, .dv (.int .i64) size1, .fn 48 0 2 fun i => ([.ptr 9000 0 [], .ptr 9001 0 [0]] : List TV).getD i .any] [(9000, .row (.pair (.int .i64) (.pair (.sl (.sl (.int .i64))) (.unit))) p2), (9001, .rcd [.dv (.int .i64) p3])] dec46c48 = m46c48 a48c N inks0 size1 p2 p3 := by rw [wm46c48]; simp only [m46c48, ql46c48a]
theorem ok46c48 (a48c : (List Int) → (List (Int × List (List Int) × Unit)) → Int → Option (Bool × List Int × List (Int × List (List Int) × Unit) × Int)) (h48c : FnOk Try.prog 48 (F48c a48c)) (a : Int → Int → (List (Int × List (List Int) × Unit)) → Int → Option (Bool × List (Int × List (List Int) × Unit) × Int)) (h : ∀ inks0 size1 p2 p3 r, a inks0 size1 p2 p3 = some r → (∃ N, m46c48 a48c N inks0 size1 p2 p3 = some r)) : FnOk Try.prog 46 (F46c48 a) := by
  intro args Of x hx
  simp only [F46c48] at hx
  split at hx
  · rename_i inks0 size1 f_0 p2 p3 heqc
    have hc0 := congrArg (fun c : List (List TV) => c.getD 0 []) heqc
    obtain ⟨N, hN⟩ := h _ _ _ _ _ hx
    refine HSpec.etaL (args := [.dv (.int .i64) inks0, .dv (.int .i64) size1, .fn 48 0 2 fun i => ([.ptr 9000 0 [], .ptr 9001 0 [0]] : List TV).getD i .any]) (O := [(9000, .row (.pair (.int .i64) (.pair (.sl (.sl (.int .i64))) (.unit))) p2), (9001, .rcd [.dv (.int .i64) p3])]) ⟨TV.sim_refl _, TV.sim_refl _, TV.sim_fn hc0, trivial⟩ ⟨rfl, TO.sim_refl _, rfl, TO.sim_refl _, trivial⟩ (lifted (L := [(48, F48c a48c)]) (rc := nrc) (fz := nfz) (fn := Try.f46) (by kernel_rfl) (by kernel_rfl) (by kernel_rfl) (by kernel_rfl) rfl ?_ ((k46c48 a48c N _ _ _ _).trans hN) ?_)
    · intro p hp; simp only [List.mem_cons, List.not_mem_nil, or_false] at hp; rcases hp with rfl; exact h48c
    · intro l o hd
      simp only [dec46c48] at hd
      split at hd
      · obtain rfl := Option.some.inj hd; exact ⟨rfl, rfl⟩
      · cases hd
  · cases hx
end Go.Proofs.Ytaioadjcdjmkdaa
