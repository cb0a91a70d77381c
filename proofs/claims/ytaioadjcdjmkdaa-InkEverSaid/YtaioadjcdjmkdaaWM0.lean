/-
  The functions that the examples of the chapter reaches, told as plain functions.
-/
import Derived.Test.YtaioadjcdjmkdaaQFI
namespace Go.Proofs.Ytaioadjcdjmkdaa
open Go.RowKit
set_option linter.unusedVariables false
def E63 : Env := mkE TI TY [] nrc nfz
noncomputable def c63 : Code := bodyOf Try.f63
def lv63 : Nat → Option Norm := norms []
def en63 : End := ⟨[], ⟨[15], [], [], []⟩⟩
def dec63 (l : List TV) (o : List (Nat × TO)) : Option (Bool) := match l, o with | [.dv (.bool) x0], [] => some (x0) | _, _ => none
def m63 (N : Nat) (lo0 : Int) (n1 : Int) (hi2 : Int) : Option (Bool) :=
      cond (decide (lo0 ≤ n1)) (some (decide (n1 ≤ hi2)))
      (some false)
theorem k63 (N : Nat) (lo0 : Int) (n1 : Int) (hi2 : Int) : callF (E63) lv63 N en63 c63 (resOf Try.f63) 12 [.dv (.int .i64) lo0, .dv (.int .i64) n1, .dv (.int .i64) hi2] [] dec63 = m63 N lo0 n1 hi2 := by kernel_rfl
theorem ok63 (a : Int → Int → Int → Option (Bool)) (h : ∀ lo0 n1 hi2 r, a lo0 n1 hi2 = some r → (∃ N, m63 N lo0 n1 hi2 = some r)) : FnOk Try.prog 63 (F63 a) := by
  intro args Of x hx
  simp only [F63] at hx
  split at hx
  · rename_i lo0 n1 hi2
    obtain ⟨N, hN⟩ := h _ _ _ _ hx
    refine lifted (L := []) (rc := nrc) (fz := nfz) (fn := Try.f63) (by kernel_rfl) (by kernel_rfl) (by kernel_rfl) (by kernel_rfl) rfl ?_ ((k63 N _ _ _).trans hN) ?_
    · intro p hp; cases hp
    · intro l o hd
      simp only [dec63] at hd
      split at hd
      · obtain rfl := Option.some.inj hd; exact ⟨rfl, rfl⟩
      · cases hd
  · cases hx
def E65c (a63 : Int → Int → Int → Option (Bool)) : Env := mkE TI TY [(63, F63 a63)] nrc nfz
noncomputable def c65c : Code := bodyOf Try.f65
def lv65c : Nat → Option Norm := norms []
def en65c : End := ⟨[], ⟨[10], [9000], [], []⟩⟩
def dec65c (l : List TV) (o : List (Nat × TO)) : Option (Bool × List (Int × List (List Int) × Unit)) := match l, o with | [.dv (.bool) x0], [(9000, .row (.pair (.int .i64) (.pair (.sl (.sl (.int .i64))) (.unit))) x1)] => some (x0, x1) | _, _ => none
def m65c (a63 : Int → Int → Int → Option (Bool)) (N : Nat) (c0 : Int) (p1 : List (Int × List (List Int) × Unit)) : Option (Bool × List (Int × List (List Int) × Unit)) :=
      (a63 (0 : Int) c0 (w64 (((p1.getD 0 ((0 : Int), (([] : List (List Int)), ()))).1) - (1 : Int)))).bind fun r1 =>
      some (!r1, p1)
theorem k65c (a63 : Int → Int → Int → Option (Bool)) (N : Nat) (c0 : Int) (p1 : List (Int × List (List Int) × Unit)) : callF (E65c a63) lv65c N en65c c65c (resOf Try.f65) 8 [.dv (.int .i64) c0, .ptr 9000 0 []] [(9000, .row (.pair (.int .i64) (.pair (.sl (.sl (.int .i64))) (.unit))) p1)] dec65c = m65c a63 N c0 p1 := by kernel_rfl
theorem ok65c (a63 : Int → Int → Int → Option (Bool)) (h63 : FnOk Try.prog 63 (F63 a63)) (a : Int → (List (Int × List (List Int) × Unit)) → Option (Bool × List (Int × List (List Int) × Unit))) (h : ∀ c0 p1 r, a c0 p1 = some r → (∃ N, m65c a63 N c0 p1 = some r)) : FnOk Try.prog 65 (F65c a) := by
  intro args Of x hx
  simp only [F65c] at hx
  split at hx
  · rename_i c0 p1
    obtain ⟨N, hN⟩ := h _ _ _ hx
    refine lifted (L := [(63, F63 a63)]) (rc := nrc) (fz := nfz) (fn := Try.f65) (by kernel_rfl) (by kernel_rfl) (by kernel_rfl) (by kernel_rfl) rfl ?_ ((k65c a63 N _ _).trans hN) ?_
    · intro p hp; simp only [List.mem_cons, List.not_mem_nil, or_false] at hp; rcases hp with rfl; exact h63
    · intro l o hd
      simp only [dec65c] at hd
      split at hd
      · obtain rfl := Option.some.inj hd; exact ⟨rfl, rfl⟩
      · cases hd
  · cases hx
def E85c65 (a65c : Int → (List (Int × List (List Int) × Unit)) → Option (Bool × List (Int × List (List Int) × Unit))) : Env := mkE TI TY [(65, F65c a65c)] nrc nfz
noncomputable def c85c65 : Code := bodyOf Try.f85
def nm85c65_0 : Norm := ⟨[0, 1, 7, 8], [9000], [], []⟩
def lv85c65 : Nat → Option Norm := norms [(2, nm85c65_0)]
def en85c65 : End := ⟨[], ⟨[19], [9000], [], []⟩⟩
def dec85c65 (l : List TV) (o : List (Nat × TO)) : Option (Int × List (Int × List (List Int) × Unit)) := match l, o with | [.dv (.int .i64) x0], [(9000, .row (.pair (.int .i64) (.pair (.sl (.sl (.int .i64))) (.unit))) x1)] => some (x0, x1) | _, _ => none
noncomputable def K85c65_0 (a65c : Int → (List (Int × List (List Int) × Unit)) → Option (Bool × List (Int × List (List Int) × Unit))) (N : Nat) : Kont (Int × List (Int × List (List Int) × Unit)) := kont (E85c65 a65c) lv85c65 N c85c65 [1, 0, 1, 0] (fin TI en85c65 (resOf Try.f85) dec85c65)
noncomputable def R85c65_0 (a65c : Int → (List (Int × List (List Int) × Unit)) → Option (Bool × List (Int × List (List Int) × Unit))) (N : Nat) (m : Nat) : TS → Option (Int × List (Int × List (List Int) × Unit)) := loopK (den (E85c65 a65c) lv85c65 N (sub c85c65 [1, 0, 1, 0, 0])) (TS.norm nm85c65_0) (K85c65_0 a65c N) m
def Sl85c65a (s0 : List Int) (t8_a : Int) (o9000_a : List (Int × List (List Int) × Unit)) : TS := ⟨slots 19 [(0, .dv (.sl (.int .i64)) s0), (1, .fn 65 0 1 fun i => ([.ptr 9000 0 []] : List TV).getD i .any), (7, .dv (.int .i64) (s0.length : Int)), (8, .dv (.int .i64) t8_a)], [(9000, .row (.pair (.int .i64) (.pair (.sl (.sl (.int .i64))) (.unit))) o9000_a)]⟩
def l85c65a (a65c : Int → (List (Int × List (List Int) × Unit)) → Option (Bool × List (Int × List (List Int) × Unit))) (N : Nat) (s0 : List Int) : Nat → Int → (List (Int × List (List Int) × Unit)) → Option (Int × List (Int × List (List Int) × Unit))
  | 0, _, _ => none
  | n + 1, t8_a, o9000_a => cond (decide (t8_a < (s0.length : Int))) (chk (decide (0 ≤ t8_a ∧ t8_a < (s0.length : Int))) ((a65c (s0.getD t8_a.toNat (0 : Int)) o9000_a).bind fun r1 =>
      cond (r1.1) (some (t8_a, r1.2))
      ((l85c65a a65c N s0 n (w64 (t8_a + (1 : Int))) r1.2))))
      (some ((-1 : Int), o9000_a))
theorem wl85c65a (a65c : Int → (List (Int × List (List Int) × Unit)) → Option (Bool × List (Int × List (List Int) × Unit))) (N : Nat) (s0 : List Int) (m : Nat) (t8_a : Int) (o9000_a : List (Int × List (List Int) × Unit)) : R85c65_0 a65c N (m + 1) (Sl85c65a s0 t8_a o9000_a) = cond (decide (t8_a < (s0.length : Int))) (chk (decide (0 ≤ t8_a ∧ t8_a < (s0.length : Int))) ((a65c (s0.getD t8_a.toNat (0 : Int)) o9000_a).bind fun r1 =>
      cond (r1.1) (some (t8_a, r1.2))
      ((R85c65_0 a65c N m (Sl85c65a s0 (w64 (t8_a + (1 : Int))) r1.2)))))
      (some ((-1 : Int), o9000_a)) := by kernel_rfl
theorem ql85c65a (a65c : Int → (List (Int × List (List Int) × Unit)) → Option (Bool × List (Int × List (List Int) × Unit))) (N : Nat) (s0 : List Int) : ∀ (m : Nat) (t8_a : Int) (o9000_a : List (Int × List (List Int) × Unit)), R85c65_0 a65c N m (Sl85c65a s0 t8_a o9000_a) = l85c65a a65c N s0 m t8_a o9000_a
        | 0, _, _ => rfl
        | m + 1, t8_a, o9000_a => by rw [wl85c65a]; simp only [l85c65a, ql85c65a a65c N s0 m]
def m85c65 (a65c : Int → (List (Int × List (List Int) × Unit)) → Option (Bool × List (Int × List (List Int) × Unit))) (N : Nat) (s0 : List Int) (p1 : List (Int × List (List Int) × Unit)) : Option (Int × List (Int × List (List Int) × Unit)) :=
      (l85c65a a65c N s0 N (0 : Int) p1)
theorem wm85c65 (a65c : Int → (List (Int × List (List Int) × Unit)) → Option (Bool × List (Int × List (List Int) × Unit))) (N : Nat) (s0 : List Int) (p1 : List (Int × List (List Int) × Unit)) : callF (E85c65 a65c) lv85c65 N en85c65 c85c65 (resOf Try.f85) 17 [.dv (.sl (.int .i64)) s0, .fn 65 0 1 fun i => ([.ptr 9000 0 []] : List TV).getD i .any] [(9000, .row (.pair (.int .i64) (.pair (.sl (.sl (.int .i64))) (.unit))) p1)] dec85c65 = (R85c65_0 a65c N N (Sl85c65a s0 (0 : Int) p1)) := by kernel_rfl
theorem k85c65 (a65c : Int → (List (Int × List (List Int) × Unit)) → Option (Bool × List (Int × List (List Int) × Unit))) (N : Nat) (s0 : List Int) (p1 : List (Int × List (List Int) × Unit)) : callF (E85c65 a65c) lv85c65 N en85c65 c85c65 (resOf Try.f85) 17 [.dv (.sl (.int .i64)) s0, .fn 65 0 1 fun i => ([.ptr 9000 0 []] : List TV).getD i .any] [(9000, .row (.pair (.int .i64) (.pair (.sl (.sl (.int .i64))) (.unit))) p1)] dec85c65 = m85c65 a65c N s0 p1 := by rw [wm85c65]; simp only [m85c65, ql85c65a]
theorem ok85c65 (a65c : Int → (List (Int × List (List Int) × Unit)) → Option (Bool × List (Int × List (List Int) × Unit))) (h65c : FnOk Try.prog 65 (F65c a65c)) (a : (List Int) → (List (Int × List (List Int) × Unit)) → Option (Int × List (Int × List (List Int) × Unit))) (h : ∀ s0 p1 r, a s0 p1 = some r → (∃ N, m85c65 a65c N s0 p1 = some r)) : FnOk Try.prog 85 (F85c65 a) := by
  intro args Of x hx
  simp only [F85c65] at hx
  split at hx
  · rename_i s0 f_0 p1 heqc
    have hc0 := congrArg (fun c : List (List TV) => c.getD 0 []) heqc
    obtain ⟨N, hN⟩ := h _ _ _ hx
    refine HSpec.etaL (args := [.dv (.sl (.int .i64)) s0, .fn 65 0 1 fun i => ([.ptr 9000 0 []] : List TV).getD i .any]) (O := [(9000, .row (.pair (.int .i64) (.pair (.sl (.sl (.int .i64))) (.unit))) p1)]) ⟨TV.sim_refl _, TV.sim_fn hc0, trivial⟩ ⟨rfl, TO.sim_refl _, trivial⟩ (lifted (L := [(65, F65c a65c)]) (rc := nrc) (fz := nfz) (fn := Try.f85) (by kernel_rfl) (by kernel_rfl) (by kernel_rfl) (by kernel_rfl) rfl ?_ ((k85c65 a65c N _ _).trans hN) ?_)
    · intro p hp; simp only [List.mem_cons, List.not_mem_nil, or_false] at hp; rcases hp with rfl; exact h65c
    · intro l o hd
      simp only [dec85c65] at hd
      split at hd
      · obtain rfl := Option.some.inj hd; exact ⟨rfl, rfl⟩
      · cases hd
  · cases hx
def E64c65 (a85c65 : (List Int) → (List (Int × List (List Int) × Unit)) → Option (Int × List (Int × List (List Int) × Unit))) : Env := mkE TI TY [(85, F85c65 a85c65)] nrc nfz
noncomputable def c64c65 : Code := bodyOf Try.f64
def lv64c65 : Nat → Option Norm := norms []
def en64c65 : End := ⟨[], ⟨[9], [9000], [], []⟩⟩
def dec64c65 (l : List TV) (o : List (Nat × TO)) : Option (Bool × List (Int × List (List Int) × Unit)) := match l, o with | [.dv (.bool) x0], [(9000, .row (.pair (.int .i64) (.pair (.sl (.sl (.int .i64))) (.unit))) x1)] => some (x0, x1) | _, _ => none
def m64c65 (a85c65 : (List Int) → (List (Int × List (List Int) × Unit)) → Option (Int × List (Int × List (List Int) × Unit))) (N : Nat) (s0 : List Int) (p1 : List (Int × List (List Int) × Unit)) : Option (Bool × List (Int × List (List Int) × Unit)) :=
      (a85c65 s0 p1).bind fun r1 =>
      some (decide (r1.1 ≥ (0 : Int)), r1.2)
theorem k64c65 (a85c65 : (List Int) → (List (Int × List (List Int) × Unit)) → Option (Int × List (Int × List (List Int) × Unit))) (N : Nat) (s0 : List Int) (p1 : List (Int × List (List Int) × Unit)) : callF (E64c65 a85c65) lv64c65 N en64c65 c64c65 (resOf Try.f64) 7 [.dv (.sl (.int .i64)) s0, .fn 65 0 1 fun i => ([.ptr 9000 0 []] : List TV).getD i .any] [(9000, .row (.pair (.int .i64) (.pair (.sl (.sl (.int .i64))) (.unit))) p1)] dec64c65 = m64c65 a85c65 N s0 p1 := by kernel_rfl
theorem ok64c65 (a85c65 : (List Int) → (List (Int × List (List Int) × Unit)) → Option (Int × List (Int × List (List Int) × Unit))) (h85c65 : FnOk Try.prog 85 (F85c65 a85c65)) (a : (List Int) → (List (Int × List (List Int) × Unit)) → Option (Bool × List (Int × List (List Int) × Unit))) (h : ∀ s0 p1 r, a s0 p1 = some r → (∃ N, m64c65 a85c65 N s0 p1 = some r)) : FnOk Try.prog 64 (F64c65 a) := by
  intro args Of x hx
  simp only [F64c65] at hx
  split at hx
  · rename_i s0 f_0 p1 heqc
    have hc0 := congrArg (fun c : List (List TV) => c.getD 0 []) heqc
    obtain ⟨N, hN⟩ := h _ _ _ hx
    refine HSpec.etaL (args := [.dv (.sl (.int .i64)) s0, .fn 65 0 1 fun i => ([.ptr 9000 0 []] : List TV).getD i .any]) (O := [(9000, .row (.pair (.int .i64) (.pair (.sl (.sl (.int .i64))) (.unit))) p1)]) ⟨TV.sim_refl _, TV.sim_fn hc0, trivial⟩ ⟨rfl, TO.sim_refl _, trivial⟩ (lifted (L := [(85, F85c65 a85c65)]) (rc := nrc) (fz := nfz) (fn := Try.f64) (by kernel_rfl) (by kernel_rfl) (by kernel_rfl) (by kernel_rfl) rfl ?_ ((k64c65 a85c65 N _ _).trans hN) ?_)
    · intro p hp; simp only [List.mem_cons, List.not_mem_nil, or_false] at hp; rcases hp with rfl; exact h85c65
    · intro l o hd
      simp only [dec64c65] at hd
      split at hd
      · obtain rfl := Option.some.inj hd; exact ⟨rfl, rfl⟩
      · cases hd
  · cases hx
def E24 (a63 : Int → Int → Int → Option (Bool)) (a64c65 : (List Int) → (List (Int × List (List Int) × Unit)) → Option (Bool × List (Int × List (List Int) × Unit))) : Env := mkE TI TY [(63, F63 a63), (64, F64c65 a64c65)] nrc nfz
noncomputable def c24 : Code := bodyOf Try.f24
def nm24_0 : Norm := ⟨[1, 21, 22, 23], [1], [], []⟩
def lv24 : Nat → Option Norm := norms [(8, nm24_0)]
def en24 : End := ⟨[], ⟨[38], [], [], []⟩⟩
def dec24 (l : List TV) (o : List (Nat × TO)) : Option (Int) := match l, o with | [.dv (.int .i64) x0], [] => some (x0) | _, _ => none
noncomputable def K24_0 (a63 : Int → Int → Int → Option (Bool)) (a64c65 : (List Int) → (List (Int × List (List Int) × Unit)) → Option (Bool × List (Int × List (List Int) × Unit))) (N : Nat) : Kont (Int) := kont (E24 a63 a64c65) lv24 N c24 [1, 1, 0, 1, 0] (fin TI en24 (resOf Try.f24) dec24)
noncomputable def R24_0 (a63 : Int → Int → Int → Option (Bool)) (a64c65 : (List Int) → (List (Int × List (List Int) × Unit)) → Option (Bool × List (Int × List (List Int) × Unit))) (N : Nat) (m : Nat) : TS → Option (Int) := loopK (den (E24 a63 a64c65) lv24 N (sub c24 [1, 1, 0, 1, 0, 0])) (TS.norm nm24_0) (K24_0 a63 a64c65 N) m
def Sl24a (p0 : Int × List (List Int) × Unit) (t23_a : Int) (o1_a : List (Int × List (List Int) × Unit)) : TS := ⟨slots 38 [(1, .ptr 1 0 []), (21, .dv (.sl (.sl (.int .i64))) p0.2.1), (22, .dv (.int .i64) (p0.2.1.length : Int)), (23, .dv (.int .i64) t23_a)], [(1, .row (.pair (.int .i64) (.pair (.sl (.sl (.int .i64))) (.unit))) o1_a)]⟩
def l24a (a63 : Int → Int → Int → Option (Bool)) (a64c65 : (List Int) → (List (Int × List (List Int) × Unit)) → Option (Bool × List (Int × List (List Int) × Unit))) (N : Nat) (p0 : Int × List (List Int) × Unit) : Nat → Int → (List (Int × List (List Int) × Unit)) → Option (Int)
  | 0, _, _ => none
  | n + 1, t23_a, o1_a => cond (decide (t23_a < (p0.2.1.length : Int))) (chk (decide (0 ≤ t23_a ∧ t23_a < (p0.2.1.length : Int))) (cond (((p0.2.1.getD t23_a.toNat ([] : List Int)).length : Int) != ((o1_a.getD 0 ((0 : Int), (([] : List (List Int)), ()))).1)) (some (3 : Int))
      ((a64c65 (p0.2.1.getD t23_a.toNat ([] : List Int)) o1_a).bind fun r2 =>
      cond (r2.1) (some (4 : Int))
      ((l24a a63 a64c65 N p0 n (w64 (t23_a + (1 : Int))) r2.2)))))
      (some (0 : Int))
theorem wl24a (a63 : Int → Int → Int → Option (Bool)) (a64c65 : (List Int) → (List (Int × List (List Int) × Unit)) → Option (Bool × List (Int × List (List Int) × Unit))) (N : Nat) (p0 : Int × List (List Int) × Unit) (m : Nat) (t23_a : Int) (o1_a : List (Int × List (List Int) × Unit)) : R24_0 a63 a64c65 N (m + 1) (Sl24a p0 t23_a o1_a) = cond (decide (t23_a < (p0.2.1.length : Int))) (chk (decide (0 ≤ t23_a ∧ t23_a < (p0.2.1.length : Int))) (cond (((p0.2.1.getD t23_a.toNat ([] : List Int)).length : Int) != ((o1_a.getD 0 ((0 : Int), (([] : List (List Int)), ()))).1)) (some (3 : Int))
      ((a64c65 (p0.2.1.getD t23_a.toNat ([] : List Int)) o1_a).bind fun r2 =>
      cond (r2.1) (some (4 : Int))
      ((R24_0 a63 a64c65 N m (Sl24a p0 (w64 (t23_a + (1 : Int))) r2.2))))))
      (some (0 : Int)) := by kernel_rfl
theorem ql24a (a63 : Int → Int → Int → Option (Bool)) (a64c65 : (List Int) → (List (Int × List (List Int) × Unit)) → Option (Bool × List (Int × List (List Int) × Unit))) (N : Nat) (p0 : Int × List (List Int) × Unit) : ∀ (m : Nat) (t23_a : Int) (o1_a : List (Int × List (List Int) × Unit)), R24_0 a63 a64c65 N m (Sl24a p0 t23_a o1_a) = l24a a63 a64c65 N p0 m t23_a o1_a
        | 0, _, _ => rfl
        | m + 1, t23_a, o1_a => by rw [wl24a]; simp only [l24a, ql24a a63 a64c65 N p0 m]
def m24 (a63 : Int → Int → Int → Option (Bool)) (a64c65 : (List Int) → (List (Int × List (List Int) × Unit)) → Option (Bool × List (Int × List (List Int) × Unit))) (N : Nat) (p0 : Int × List (List Int) × Unit) : Option (Int) :=
      (a63 (2 : Int) p0.1 (7 : Int)).bind fun r1 =>
      cond (!r1) (some (4 : Int))
      (cond ((p0.2.1.length : Int) == (0 : Int)) (some (1 : Int))
      (cond (decide ((p0.2.1.length : Int) > (6 : Int))) (some (2 : Int))
      ((l24a a63 a64c65 N p0 N (0 : Int) ([p0] : List (Int × List (List Int) × Unit))))))
theorem wm24 (a63 : Int → Int → Int → Option (Bool)) (a64c65 : (List Int) → (List (Int × List (List Int) × Unit)) → Option (Bool × List (Int × List (List Int) × Unit))) (N : Nat) (p0 : Int × List (List Int) × Unit) : callF (E24 a63 a64c65) lv24 N en24 c24 (resOf Try.f24) 37 [.dv (.pair (.int .i64) (.pair (.sl (.sl (.int .i64))) (.unit))) p0] [] dec24 = (a63 (2 : Int) p0.1 (7 : Int)).bind fun r1 =>
      cond (!r1) (some (4 : Int))
      (cond ((p0.2.1.length : Int) == (0 : Int)) (some (1 : Int))
      (cond (decide ((p0.2.1.length : Int) > (6 : Int))) (some (2 : Int))
      ((R24_0 a63 a64c65 N N (Sl24a p0 (0 : Int) ([p0] : List (Int × List (List Int) × Unit))))))) := by kernel_rfl
theorem k24 (a63 : Int → Int → Int → Option (Bool)) (a64c65 : (List Int) → (List (Int × List (List Int) × Unit)) → Option (Bool × List (Int × List (List Int) × Unit))) (N : Nat) (p0 : Int × List (List Int) × Unit) : callF (E24 a63 a64c65) lv24 N en24 c24 (resOf Try.f24) 37 [.dv (.pair (.int .i64) (.pair (.sl (.sl (.int .i64))) (.unit))) p0] [] dec24 = m24 a63 a64c65 N p0 := by rw [wm24]; simp only [m24, ql24a]
theorem ok24 (a63 : Int → Int → Int → Option (Bool)) (a64c65 : (List Int) → (List (Int × List (List Int) × Unit)) → Option (Bool × List (Int × List (List Int) × Unit))) (h63 : FnOk Try.prog 63 (F63 a63)) (h64c65 : FnOk Try.prog 64 (F64c65 a64c65)) (a : (Int × List (List Int) × Unit) → Option (Int)) (h : ∀ p0 r, a p0 = some r → (∃ N, m24 a63 a64c65 N p0 = some r)) : FnOk Try.prog 24 (F24 a) := by
  intro args Of x hx
  simp only [F24] at hx
  split at hx
  · rename_i p0
    obtain ⟨N, hN⟩ := h _ _ hx
    refine lifted (L := [(63, F63 a63), (64, F64c65 a64c65)]) (rc := nrc) (fz := nfz) (fn := Try.f24) (by kernel_rfl) (by kernel_rfl) (by kernel_rfl) (by kernel_rfl) rfl ?_ ((k24 a63 a64c65 N _).trans hN) ?_
    · intro p hp; simp only [List.mem_cons, List.not_mem_nil, or_false] at hp; rcases hp with rfl | rfl
      · exact h63
      · exact h64c65
    · intro l o hd
      simp only [dec24] at hd
      split at hd
      · obtain rfl := Option.some.inj hd; exact ⟨rfl, rfl⟩
      · cases hd
  · cases hx
def E81c (a63 : Int → Int → Int → Option (Bool)) : Env := mkE TI TY [(63, F63 a63)] nrc nfz
noncomputable def c81c : Code := bodyOf Try.f81
def lv81c : Nat → Option Norm := norms []
def en81c : End := ⟨[], ⟨[11], [9000], [], []⟩⟩
def dec81c (l : List TV) (o : List (Nat × TO)) : Option (Bool × List (Int × List (List Int) × Unit)) := match l, o with | [.dv (.bool) x0], [(9000, .row (.pair (.int .i64) (.pair (.sl (.sl (.int .i64))) (.unit))) x1)] => some (x0, x1) | _, _ => none
def m81c (a63 : Int → Int → Int → Option (Bool)) (N : Nat) (i0 : Int) (p1 : List (Int × List (List Int) × Unit)) : Option (Bool × List (Int × List (List Int) × Unit)) :=
      (a63 (0 : Int) i0 (w64 (((((p1.getD 0 ((0 : Int), (([] : List (List Int)), ()))).2).1).length : Int) - (1 : Int)))).bind fun r1 =>
      some (!r1, p1)
theorem k81c (a63 : Int → Int → Int → Option (Bool)) (N : Nat) (i0 : Int) (p1 : List (Int × List (List Int) × Unit)) : callF (E81c a63) lv81c N en81c c81c (resOf Try.f81) 9 [.dv (.int .i64) i0, .ptr 9000 0 []] [(9000, .row (.pair (.int .i64) (.pair (.sl (.sl (.int .i64))) (.unit))) p1)] dec81c = m81c a63 N i0 p1 := by kernel_rfl
theorem ok81c (a63 : Int → Int → Int → Option (Bool)) (h63 : FnOk Try.prog 63 (F63 a63)) (a : Int → (List (Int × List (List Int) × Unit)) → Option (Bool × List (Int × List (List Int) × Unit))) (h : ∀ i0 p1 r, a i0 p1 = some r → (∃ N, m81c a63 N i0 p1 = some r)) : FnOk Try.prog 81 (F81c a) := by
  intro args Of x hx
  simp only [F81c] at hx
  split at hx
  · rename_i i0 p1
    obtain ⟨N, hN⟩ := h _ _ _ hx
    refine lifted (L := [(63, F63 a63)]) (rc := nrc) (fz := nfz) (fn := Try.f81) (by kernel_rfl) (by kernel_rfl) (by kernel_rfl) (by kernel_rfl) rfl ?_ ((k81c a63 N _ _).trans hN) ?_
    · intro p hp; simp only [List.mem_cons, List.not_mem_nil, or_false] at hp; rcases hp with rfl; exact h63
    · intro l o hd
      simp only [dec81c] at hd
      split at hd
      · obtain rfl := Option.some.inj hd; exact ⟨rfl, rfl⟩
      · cases hd
  · cases hx
def E85c81 (a81c : Int → (List (Int × List (List Int) × Unit)) → Option (Bool × List (Int × List (List Int) × Unit))) : Env := mkE TI TY [(81, F81c a81c)] nrc nfz
noncomputable def c85c81 : Code := bodyOf Try.f85
def nm85c81_0 : Norm := ⟨[0, 1, 7, 8], [9000], [], []⟩
def lv85c81 : Nat → Option Norm := norms [(2, nm85c81_0)]
def en85c81 : End := ⟨[], ⟨[19], [9000], [], []⟩⟩
def dec85c81 (l : List TV) (o : List (Nat × TO)) : Option (Int × List (Int × List (List Int) × Unit)) := match l, o with | [.dv (.int .i64) x0], [(9000, .row (.pair (.int .i64) (.pair (.sl (.sl (.int .i64))) (.unit))) x1)] => some (x0, x1) | _, _ => none
noncomputable def K85c81_0 (a81c : Int → (List (Int × List (List Int) × Unit)) → Option (Bool × List (Int × List (List Int) × Unit))) (N : Nat) : Kont (Int × List (Int × List (List Int) × Unit)) := kont (E85c81 a81c) lv85c81 N c85c81 [1, 0, 1, 0] (fin TI en85c81 (resOf Try.f85) dec85c81)
noncomputable def R85c81_0 (a81c : Int → (List (Int × List (List Int) × Unit)) → Option (Bool × List (Int × List (List Int) × Unit))) (N : Nat) (m : Nat) : TS → Option (Int × List (Int × List (List Int) × Unit)) := loopK (den (E85c81 a81c) lv85c81 N (sub c85c81 [1, 0, 1, 0, 0])) (TS.norm nm85c81_0) (K85c81_0 a81c N) m
def Sl85c81a (s0 : List Int) (t8_a : Int) (o9000_a : List (Int × List (List Int) × Unit)) : TS := ⟨slots 19 [(0, .dv (.sl (.int .i64)) s0), (1, .fn 81 0 1 fun i => ([.ptr 9000 0 []] : List TV).getD i .any), (7, .dv (.int .i64) (s0.length : Int)), (8, .dv (.int .i64) t8_a)], [(9000, .row (.pair (.int .i64) (.pair (.sl (.sl (.int .i64))) (.unit))) o9000_a)]⟩
def l85c81a (a81c : Int → (List (Int × List (List Int) × Unit)) → Option (Bool × List (Int × List (List Int) × Unit))) (N : Nat) (s0 : List Int) : Nat → Int → (List (Int × List (List Int) × Unit)) → Option (Int × List (Int × List (List Int) × Unit))
  | 0, _, _ => none
  | n + 1, t8_a, o9000_a => cond (decide (t8_a < (s0.length : Int))) (chk (decide (0 ≤ t8_a ∧ t8_a < (s0.length : Int))) ((a81c (s0.getD t8_a.toNat (0 : Int)) o9000_a).bind fun r1 =>
      cond (r1.1) (some (t8_a, r1.2))
      ((l85c81a a81c N s0 n (w64 (t8_a + (1 : Int))) r1.2))))
      (some ((-1 : Int), o9000_a))
theorem wl85c81a (a81c : Int → (List (Int × List (List Int) × Unit)) → Option (Bool × List (Int × List (List Int) × Unit))) (N : Nat) (s0 : List Int) (m : Nat) (t8_a : Int) (o9000_a : List (Int × List (List Int) × Unit)) : R85c81_0 a81c N (m + 1) (Sl85c81a s0 t8_a o9000_a) = cond (decide (t8_a < (s0.length : Int))) (chk (decide (0 ≤ t8_a ∧ t8_a < (s0.length : Int))) ((a81c (s0.getD t8_a.toNat (0 : Int)) o9000_a).bind fun r1 =>
      cond (r1.1) (some (t8_a, r1.2))
      ((R85c81_0 a81c N m (Sl85c81a s0 (w64 (t8_a + (1 : Int))) r1.2)))))
      (some ((-1 : Int), o9000_a)) := by kernel_rfl
theorem ql85c81a (a81c : Int → (List (Int × List (List Int) × Unit)) → Option (Bool × List (Int × List (List Int) × Unit))) (N : Nat) (s0 : List Int) : ∀ (m : Nat) (t8_a : Int) (o9000_a : List (Int × List (List Int) × Unit)), R85c81_0 a81c N m (Sl85c81a s0 t8_a o9000_a) = l85c81a a81c N s0 m t8_a o9000_a
        | 0, _, _ => rfl
        | m + 1, t8_a, o9000_a => by rw [wl85c81a]; simp only [l85c81a, ql85c81a a81c N s0 m]
def m85c81 (a81c : Int → (List (Int × List (List Int) × Unit)) → Option (Bool × List (Int × List (List Int) × Unit))) (N : Nat) (s0 : List Int) (p1 : List (Int × List (List Int) × Unit)) : Option (Int × List (Int × List (List Int) × Unit)) :=
      (l85c81a a81c N s0 N (0 : Int) p1)
theorem wm85c81 (a81c : Int → (List (Int × List (List Int) × Unit)) → Option (Bool × List (Int × List (List Int) × Unit))) (N : Nat) (s0 : List Int) (p1 : List (Int × List (List Int) × Unit)) : callF (E85c81 a81c) lv85c81 N en85c81 c85c81 (resOf Try.f85) 17 [.dv (.sl (.int .i64)) s0, .fn 81 0 1 fun i => ([.ptr 9000 0 []] : List TV).getD i .any] [(9000, .row (.pair (.int .i64) (.pair (.sl (.sl (.int .i64))) (.unit))) p1)] dec85c81 = (R85c81_0 a81c N N (Sl85c81a s0 (0 : Int) p1)) := by kernel_rfl
theorem k85c81 (a81c : Int → (List (Int × List (List Int) × Unit)) → Option (Bool × List (Int × List (List Int) × Unit))) (N : Nat) (s0 : List Int) (p1 : List (Int × List (List Int) × Unit)) : callF (E85c81 a81c) lv85c81 N en85c81 c85c81 (resOf Try.f85) 17 [.dv (.sl (.int .i64)) s0, .fn 81 0 1 fun i => ([.ptr 9000 0 []] : List TV).getD i .any] [(9000, .row (.pair (.int .i64) (.pair (.sl (.sl (.int .i64))) (.unit))) p1)] dec85c81 = m85c81 a81c N s0 p1 := by rw [wm85c81]; simp only [m85c81, ql85c81a]
theorem ok85c81 (a81c : Int → (List (Int × List (List Int) × Unit)) → Option (Bool × List (Int × List (List Int) × Unit))) (h81c : FnOk Try.prog 81 (F81c a81c)) (a : (List Int) → (List (Int × List (List Int) × Unit)) → Option (Int × List (Int × List (List Int) × Unit))) (h : ∀ s0 p1 r, a s0 p1 = some r → (∃ N, m85c81 a81c N s0 p1 = some r)) : FnOk Try.prog 85 (F85c81 a) := by
  intro args Of x hx
  simp only [F85c81] at hx
  split at hx
  · rename_i s0 f_0 p1 heqc
    have hc0 := congrArg (fun c : List (List TV) => c.getD 0 []) heqc
    obtain ⟨N, hN⟩ := h _ _ _ hx
    refine HSpec.etaL (args := [.dv (.sl (.int .i64)) s0, .fn 81 0 1 fun i => ([.ptr 9000 0 []] : List TV).getD i .any]) (O := [(9000, .row (.pair (.int .i64) (.pair (.sl (.sl (.int .i64))) (.unit))) p1)]) ⟨TV.sim_refl _, TV.sim_fn hc0, trivial⟩ ⟨rfl, TO.sim_refl _, trivial⟩ (lifted (L := [(81, F81c a81c)]) (rc := nrc) (fz := nfz) (fn := Try.f85) (by kernel_rfl) (by kernel_rfl) (by kernel_rfl) (by kernel_rfl) rfl ?_ ((k85c81 a81c N _ _).trans hN) ?_)
    · intro p hp; simp only [List.mem_cons, List.not_mem_nil, or_false] at hp; rcases hp with rfl; exact h81c
    · intro l o hd
      simp only [dec85c81] at hd
      split at hd
      · obtain rfl := Option.some.inj hd; exact ⟨rfl, rfl⟩
      · cases hd
  · cases hx
def E64c81 (a85c81 : (List Int) → (List (Int × List (List Int) × Unit)) → Option (Int × List (Int × List (List Int) × Unit))) : Env := mkE TI TY [(85, F85c81 a85c81)] nrc nfz
noncomputable def c64c81 : Code := bodyOf Try.f64
def lv64c81 : Nat → Option Norm := norms []
def en64c81 : End := ⟨[], ⟨[9], [9000], [], []⟩⟩
def dec64c81 (l : List TV) (o : List (Nat × TO)) : Option (Bool × List (Int × List (List Int) × Unit)) := match l, o with | [.dv (.bool) x0], [(9000, .row (.pair (.int .i64) (.pair (.sl (.sl (.int .i64))) (.unit))) x1)] => some (x0, x1) | _, _ => none
def m64c81 (a85c81 : (List Int) → (List (Int × List (List Int) × Unit)) → Option (Int × List (Int × List (List Int) × Unit))) (N : Nat) (s0 : List Int) (p1 : List (Int × List (List Int) × Unit)) : Option (Bool × List (Int × List (List Int) × Unit)) :=
      (a85c81 s0 p1).bind fun r1 =>
      some (decide (r1.1 ≥ (0 : Int)), r1.2)
theorem k64c81 (a85c81 : (List Int) → (List (Int × List (List Int) × Unit)) → Option (Int × List (Int × List (List Int) × Unit))) (N : Nat) (s0 : List Int) (p1 : List (Int × List (List Int) × Unit)) : callF (E64c81 a85c81) lv64c81 N en64c81 c64c81 (resOf Try.f64) 7 [.dv (.sl (.int .i64)) s0, .fn 81 0 1 fun i => ([.ptr 9000 0 []] : List TV).getD i .any] [(9000, .row (.pair (.int .i64) (.pair (.sl (.sl (.int .i64))) (.unit))) p1)] dec64c81 = m64c81 a85c81 N s0 p1 := by kernel_rfl
theorem ok64c81 (a85c81 : (List Int) → (List (Int × List (List Int) × Unit)) → Option (Int × List (Int × List (List Int) × Unit))) (h85c81 : FnOk Try.prog 85 (F85c81 a85c81)) (a : (List Int) → (List (Int × List (List Int) × Unit)) → Option (Bool × List (Int × List (List Int) × Unit))) (h : ∀ s0 p1 r, a s0 p1 = some r → (∃ N, m64c81 a85c81 N s0 p1 = some r)) : FnOk Try.prog 64 (F64c81 a) := by
  intro args Of x hx
  simp only [F64c81] at hx
  split at hx
  · rename_i s0 f_0 p1 heqc
    have hc0 := congrArg (fun c : List (List TV) => c.getD 0 []) heqc
    obtain ⟨N, hN⟩ := h _ _ _ hx
    refine HSpec.etaL (args := [.dv (.sl (.int .i64)) s0, .fn 81 0 1 fun i => ([.ptr 9000 0 []] : List TV).getD i .any]) (O := [(9000, .row (.pair (.int .i64) (.pair (.sl (.sl (.int .i64))) (.unit))) p1)]) ⟨TV.sim_refl _, TV.sim_fn hc0, trivial⟩ ⟨rfl, TO.sim_refl _, trivial⟩ (lifted (L := [(85, F85c81 a85c81)]) (rc := nrc) (fz := nfz) (fn := Try.f64) (by kernel_rfl) (by kernel_rfl) (by kernel_rfl) (by kernel_rfl) rfl ?_ ((k64c81 a85c81 N _ _).trans hN) ?_)
    · intro p hp; simp only [List.mem_cons, List.not_mem_nil, or_false] at hp; rcases hp with rfl; exact h85c81
    · intro l o hd
      simp only [dec64c81] at hd
      split at hd
      · obtain rfl := Option.some.inj hd; exact ⟨rfl, rfl⟩
      · cases hd
  · cases hx
def E55 (a24 : (Int × List (List Int) × Unit) → Option (Int)) (a64c81 : (List Int) → (List (Int × List (List Int) × Unit)) → Option (Bool × List (Int × List (List Int) × Unit))) : Env := mkE TI TY [(24, F24 a24), (64, F64c81 a64c81)] nrc nfz
noncomputable def c55 : Code := bodyOf Try.f55
def lv55 : Nat → Option Norm := norms []
def en55 : End := ⟨[], ⟨[23], [], [], []⟩⟩
def dec55 (l : List TV) (o : List (Nat × TO)) : Option (Int) := match l, o with | [.dv (.int .i64) x0], [] => some (x0) | _, _ => none
def m55 (a24 : (Int × List (List Int) × Unit) → Option (Int)) (a64c81 : (List Int) → (List (Int × List (List Int) × Unit)) → Option (Bool × List (Int × List (List Int) × Unit))) (N : Nat) (p0 : Int × List (List Int) × Unit) (l1 : List Int) (most2 : Int) : Option (Int) :=
      (a24 p0).bind fun r1 =>
      cond (r1 != (0 : Int)) (some r1)
      (cond (decide ((l1.length : Int) > most2)) (some (2 : Int))
      ((a64c81 l1 ([p0] : List (Int × List (List Int) × Unit))).bind fun r2 =>
      cond (r2.1) (some (5 : Int))
      (some (0 : Int))))
theorem k55 (a24 : (Int × List (List Int) × Unit) → Option (Int)) (a64c81 : (List Int) → (List (Int × List (List Int) × Unit)) → Option (Bool × List (Int × List (List Int) × Unit))) (N : Nat) (p0 : Int × List (List Int) × Unit) (l1 : List Int) (most2 : Int) : callF (E55 a24 a64c81) lv55 N en55 c55 (resOf Try.f55) 20 [.dv (.pair (.int .i64) (.pair (.sl (.sl (.int .i64))) (.unit))) p0, .dv (.sl (.int .i64)) l1, .dv (.int .i64) most2] [] dec55 = m55 a24 a64c81 N p0 l1 most2 := by kernel_rfl
theorem ok55 (a24 : (Int × List (List Int) × Unit) → Option (Int)) (a64c81 : (List Int) → (List (Int × List (List Int) × Unit)) → Option (Bool × List (Int × List (List Int) × Unit))) (h24 : FnOk Try.prog 24 (F24 a24)) (h64c81 : FnOk Try.prog 64 (F64c81 a64c81)) (a : (Int × List (List Int) × Unit) → (List Int) → Int → Option (Int)) (h : ∀ p0 l1 most2 r, a p0 l1 most2 = some r → (∃ N, m55 a24 a64c81 N p0 l1 most2 = some r)) : FnOk Try.prog 55 (F55 a) := by
  intro args Of x hx
  simp only [F55] at hx
  split at hx
  · rename_i p0 l1 most2
    obtain ⟨N, hN⟩ := h _ _ _ _ hx
    refine lifted (L := [(24, F24 a24), (64, F64c81 a64c81)]) (rc := nrc) (fz := nfz) (fn := Try.f55) (by kernel_rfl) (by kernel_rfl) (by kernel_rfl) (by kernel_rfl) rfl ?_ ((k55 a24 a64c81 N _ _ _).trans hN) ?_
    · intro p hp; simp only [List.mem_cons, List.not_mem_nil, or_false] at hp; rcases hp with rfl | rfl
      · exact h24
      · exact h64c81
    · intro l o hd
      simp only [dec55] at hd
      split at hd
      · obtain rfl := Option.some.inj hd; exact ⟨rfl, rfl⟩
      · cases hd
  · cases hx
def E82 : Env := mkE TI TY [] nrc nfz
noncomputable def c82 : Code := bodyOf Try.f82
def nm82_0 : Norm := ⟨[0, 3, 4], [], [], []⟩
def lv82 : Nat → Option Norm := norms [(5, nm82_0)]
def en82 : End := ⟨[], ⟨[25], [], [], []⟩⟩
def dec82 (l : List TV) (o : List (Nat × TO)) : Option (Int) := match l, o with | [.dv (.int .i64) x0], [] => some (x0) | _, _ => none
noncomputable def K82_0 (N : Nat) : Kont (Int) := kont (E82) lv82 N c82 [1, 1, 1, 0, 1, 0] (fin TI en82 (resOf Try.f82) dec82)
noncomputable def R82_0 (N : Nat) (m : Nat) : TS → Option (Int) := loopK (den (E82) lv82 N (sub c82 [1, 1, 1, 0, 1, 0, 0])) (TS.norm nm82_0) (K82_0 N) m
def Sl82a (x0 : List Int) (m3_a : Int) (i4_a : Int) : TS := ⟨slots 25 [(0, .dv (.sl (.int .i64)) x0), (3, .dv (.int .i64) m3_a), (4, .dv (.int .i64) i4_a)], []⟩
def l82a (N : Nat) (x0 : List Int) : Nat → Int → Int → Option (Int)
  | 0, _, _ => none
  | n + 1, m3_a, i4_a => cond (decide (i4_a < (x0.length : Int))) (chk (decide (0 ≤ i4_a ∧ i4_a < (x0.length : Int))) ((l82a N x0 n (imax m3_a (x0.getD i4_a.toNat (0 : Int))) (w64 (i4_a + (1 : Int))))))
      (some m3_a)
theorem wl82a (N : Nat) (x0 : List Int) (m : Nat) (m3_a : Int) (i4_a : Int) : R82_0 N (m + 1) (Sl82a x0 m3_a i4_a) = cond (decide (i4_a < (x0.length : Int))) (chk (decide (0 ≤ i4_a ∧ i4_a < (x0.length : Int))) ((R82_0 N m (Sl82a x0 (imax m3_a (x0.getD i4_a.toNat (0 : Int))) (w64 (i4_a + (1 : Int)))))))
      (some m3_a) := by kernel_rfl
theorem ql82a (N : Nat) (x0 : List Int) : ∀ (m : Nat) (m3_a : Int) (i4_a : Int), R82_0 N m (Sl82a x0 m3_a i4_a) = l82a N x0 m m3_a i4_a
        | 0, _, _ => rfl
        | m + 1, m3_a, i4_a => by rw [wl82a]; simp only [l82a, ql82a N x0 m]
def m82 (N : Nat) (x0 : List Int) : Option (Int) :=
      cond (decide ((x0.length : Int) < (1 : Int))) (none)
      (chk (decide (0 ≤ (0 : Int) ∧ (0 : Int) < (x0.length : Int))) ((l82a N x0 N (x0.getD 0 (0 : Int)) (1 : Int))))
theorem wm82 (N : Nat) (x0 : List Int) : callF (E82) lv82 N en82 c82 (resOf Try.f82) 24 [.dv (.sl (.int .i64)) x0] [] dec82 = cond (decide ((x0.length : Int) < (1 : Int))) (none)
      (chk (decide (0 ≤ (0 : Int) ∧ (0 : Int) < (x0.length : Int))) ((R82_0 N N (Sl82a x0 (x0.getD 0 (0 : Int)) (1 : Int))))) := by kernel_rfl
theorem k82 (N : Nat) (x0 : List Int) : callF (E82) lv82 N en82 c82 (resOf Try.f82) 24 [.dv (.sl (.int .i64)) x0] [] dec82 = m82 N x0 := by rw [wm82]; simp only [m82, ql82a]
theorem ok82 (a : (List Int) → Option (Int)) (h : ∀ x0 r, a x0 = some r → (∃ N, m82 N x0 = some r)) : FnOk Try.prog 82 (F82 a) := by
  intro args Of x hx
  simp only [F82] at hx
  split at hx
  · rename_i x0
    obtain ⟨N, hN⟩ := h _ _ hx
    refine lifted (L := []) (rc := nrc) (fz := nfz) (fn := Try.f82) (by kernel_rfl) (by kernel_rfl) (by kernel_rfl) (by kernel_rfl) rfl ?_ ((k82 N _).trans hN) ?_
    · intro p hp; cases hp
    · intro l o hd
      simp only [dec82] at hd
      split at hd
      · obtain rfl := Option.some.inj hd; exact ⟨rfl, rfl⟩
      · cases hd
  · cases hx
def E83 : Env := mkE TI TY [] nrc nfz
noncomputable def c83 : Code := bodyOf Try.f83
def nm83_0 : Norm := ⟨[0, 3, 4], [], [], []⟩
def lv83 : Nat → Option Norm := norms [(5, nm83_0)]
def en83 : End := ⟨[], ⟨[25], [], [], []⟩⟩
def dec83 (l : List TV) (o : List (Nat × TO)) : Option (Int) := match l, o with | [.dv (.int .i64) x0], [] => some (x0) | _, _ => none
noncomputable def K83_0 (N : Nat) : Kont (Int) := kont (E83) lv83 N c83 [1, 1, 1, 0, 1, 0] (fin TI en83 (resOf Try.f83) dec83)
noncomputable def R83_0 (N : Nat) (m : Nat) : TS → Option (Int) := loopK (den (E83) lv83 N (sub c83 [1, 1, 1, 0, 1, 0, 0])) (TS.norm nm83_0) (K83_0 N) m
def Sl83a (x0 : List Int) (m3_a : Int) (i4_a : Int) : TS := ⟨slots 25 [(0, .dv (.sl (.int .i64)) x0), (3, .dv (.int .i64) m3_a), (4, .dv (.int .i64) i4_a)], []⟩
def l83a (N : Nat) (x0 : List Int) : Nat → Int → Int → Option (Int)
  | 0, _, _ => none
  | n + 1, m3_a, i4_a => cond (decide (i4_a < (x0.length : Int))) (chk (decide (0 ≤ i4_a ∧ i4_a < (x0.length : Int))) ((l83a N x0 n (imin m3_a (x0.getD i4_a.toNat (0 : Int))) (w64 (i4_a + (1 : Int))))))
      (some m3_a)
theorem wl83a (N : Nat) (x0 : List Int) (m : Nat) (m3_a : Int) (i4_a : Int) : R83_0 N (m + 1) (Sl83a x0 m3_a i4_a) = cond (decide (i4_a < (x0.length : Int))) (chk (decide (0 ≤ i4_a ∧ i4_a < (x0.length : Int))) ((R83_0 N m (Sl83a x0 (imin m3_a (x0.getD i4_a.toNat (0 : Int))) (w64 (i4_a + (1 : Int)))))))
      (some m3_a) := by kernel_rfl
theorem ql83a (N : Nat) (x0 : List Int) : ∀ (m : Nat) (m3_a : Int) (i4_a : Int), R83_0 N m (Sl83a x0 m3_a i4_a) = l83a N x0 m m3_a i4_a
        | 0, _, _ => rfl
        | m + 1, m3_a, i4_a => by rw [wl83a]; simp only [l83a, ql83a N x0 m]
def m83 (N : Nat) (x0 : List Int) : Option (Int) :=
      cond (decide ((x0.length : Int) < (1 : Int))) (none)
      (chk (decide (0 ≤ (0 : Int) ∧ (0 : Int) < (x0.length : Int))) ((l83a N x0 N (x0.getD 0 (0 : Int)) (1 : Int))))
theorem wm83 (N : Nat) (x0 : List Int) : callF (E83) lv83 N en83 c83 (resOf Try.f83) 24 [.dv (.sl (.int .i64)) x0] [] dec83 = cond (decide ((x0.length : Int) < (1 : Int))) (none)
      (chk (decide (0 ≤ (0 : Int) ∧ (0 : Int) < (x0.length : Int))) ((R83_0 N N (Sl83a x0 (x0.getD 0 (0 : Int)) (1 : Int))))) := by kernel_rfl
theorem k83 (N : Nat) (x0 : List Int) : callF (E83) lv83 N en83 c83 (resOf Try.f83) 24 [.dv (.sl (.int .i64)) x0] [] dec83 = m83 N x0 := by rw [wm83]; simp only [m83, ql83a]
theorem ok83 (a : (List Int) → Option (Int)) (h : ∀ x0 r, a x0 = some r → (∃ N, m83 N x0 = some r)) : FnOk Try.prog 83 (F83 a) := by
  intro args Of x hx
  simp only [F83] at hx
  split at hx
  · rename_i x0
    obtain ⟨N, hN⟩ := h _ _ hx
    refine lifted (L := []) (rc := nrc) (fz := nfz) (fn := Try.f83) (by kernel_rfl) (by kernel_rfl) (by kernel_rfl) (by kernel_rfl) rfl ?_ ((k83 N _).trans hN) ?_
    · intro p hp; cases hp
    · intro l o hd
      simp only [dec83] at hd
      split at hd
      · obtain rfl := Option.some.inj hd; exact ⟨rfl, rfl⟩
      · cases hd
  · cases hx
def E61 (a82 : (List Int) → Option (Int)) (a83 : (List Int) → Option (Int)) : Env := mkE TI TY [(82, F82 a82), (83, F83 a83)] nrc nfz
noncomputable def c61 : Code := bodyOf Try.f61
def lv61 : Nat → Option Norm := norms []
def en61 : End := ⟨[(22, .ifc 114 (.int .i64) (.ifc 115 (.sl (.int .i64)) (.ifn)))], ⟨[22], [], [], []⟩⟩
def dec61 (l : List TV) (o : List (Nat × TO)) : Option (Int ⊕ ((List Int) ⊕ Unit)) := match l, o with | [.dv (.ifc 114 (.int .i64) (.ifc 115 (.sl (.int .i64)) (.ifn))) x0], [] => some (x0) | _, _ => none
def m61 (a82 : (List Int) → Option (Int)) (a83 : (List Int) → Option (Int)) (N : Nat) (p0 : Int × List (List Int) × Unit) (i1 : Int) : Option (Int ⊕ ((List Int) ⊕ Unit)) :=
      chk (decide (0 ≤ i1 ∧ i1 < (p0.2.1.length : Int))) ((a82 (p0.2.1.getD i1.toNat ([] : List Int))).bind fun r1 =>
      (a83 (p0.2.1.getD i1.toNat ([] : List Int))).bind fun r2 =>
      cond (r1 == r2) (chk (decide (0 ≤ (0 : Int) ∧ (0 : Int) < ((p0.2.1.getD i1.toNat ([] : List Int)).length : Int))) (some (Sum.inl ((p0.2.1.getD i1.toNat ([] : List Int)).getD 0 (0 : Int)))))
      (some (Sum.inr (Sum.inl (p0.2.1.getD i1.toNat ([] : List Int))))))
theorem k61 (a82 : (List Int) → Option (Int)) (a83 : (List Int) → Option (Int)) (N : Nat) (p0 : Int × List (List Int) × Unit) (i1 : Int) : callF (E61 a82 a83) lv61 N en61 c61 (resOf Try.f61) 20 [.dv (.pair (.int .i64) (.pair (.sl (.sl (.int .i64))) (.unit))) p0, .dv (.int .i64) i1] [] dec61 = m61 a82 a83 N p0 i1 := by kernel_rfl
theorem ok61 (a82 : (List Int) → Option (Int)) (a83 : (List Int) → Option (Int)) (h82 : FnOk Try.prog 82 (F82 a82)) (h83 : FnOk Try.prog 83 (F83 a83)) (a : (Int × List (List Int) × Unit) → Int → Option (Int ⊕ ((List Int) ⊕ Unit))) (h : ∀ p0 i1 r, a p0 i1 = some r → (∃ N, m61 a82 a83 N p0 i1 = some r)) : FnOk Try.prog 61 (F61 a) := by
  intro args Of x hx
  simp only [F61] at hx
  split at hx
  · rename_i p0 i1
    obtain ⟨N, hN⟩ := h _ _ _ hx
    refine lifted (L := [(82, F82 a82), (83, F83 a83)]) (rc := nrc) (fz := nfz) (fn := Try.f61) (by kernel_rfl) (by kernel_rfl) (by kernel_rfl) (by kernel_rfl) rfl ?_ ((k61 a82 a83 N _ _).trans hN) ?_
    · intro p hp; simp only [List.mem_cons, List.not_mem_nil, or_false] at hp; rcases hp with rfl | rfl
      · exact h82
      · exact h83
    · intro l o hd
      simp only [dec61] at hd
      split at hd
      · obtain rfl := Option.some.inj hd; exact ⟨rfl, rfl⟩
      · cases hd
  · cases hx
def E127 : Env := mkE TI TY [] nrc nfz
noncomputable def c127 : Code := bodyOf Try.f127
def lv127 : Nat → Option Norm := norms []
def en127 : End := ⟨[], ⟨[9], [], [], []⟩⟩
def dec127 (l : List TV) (o : List (Nat × TO)) : Option (Int) := match l, o with | [.dv (.int .i64) x0], [] => some (x0) | _, _ => none
def m127 (N : Nat) (c0 : List Int) (colour1 : Int) : Option (Int) :=
      chk (decide (0 ≤ colour1 ∧ colour1 < (c0.length : Int))) (some (c0.getD colour1.toNat (0 : Int)))
theorem k127 (N : Nat) (c0 : List Int) (colour1 : Int) : callF (E127) lv127 N en127 c127 (resOf Try.f127) 7 [.dv (.sl (.int .i64)) c0, .dv (.int .i64) colour1] [] dec127 = m127 N c0 colour1 := by kernel_rfl
theorem ok127 (a : (List Int) → Int → Option (Int)) (h : ∀ c0 colour1 r, a c0 colour1 = some r → (∃ N, m127 N c0 colour1 = some r)) : FnOk Try.prog 127 (F127 a) := by
  intro args Of x hx
  simp only [F127] at hx
  split at hx
  · rename_i c0 colour1
    obtain ⟨N, hN⟩ := h _ _ _ hx
    refine lifted (L := []) (rc := nrc) (fz := nfz) (fn := Try.f127) (by kernel_rfl) (by kernel_rfl) (by kernel_rfl) (by kernel_rfl) rfl ?_ ((k127 N _ _).trans hN) ?_
    · intro p hp; cases hp
    · intro l o hd
      simp only [dec127] at hd
      split at hd
      · obtain rfl := Option.some.inj hd; exact ⟨rfl, rfl⟩
      · cases hd
  · cases hx
def E71 : Env := mkE TI TY [] nrc nfz
noncomputable def c71 : Code := bodyOf Try.f71
def lv71 : Nat → Option Norm := norms []
def en71 : End := ⟨[], ⟨[10], [], [], []⟩⟩
def dec71 (l : List TV) (o : List (Nat × TO)) : Option (Bool) := match l, o with | [.dv (.bool) x0], [] => some (x0) | _, _ => none
def m71 (N : Nat) (s0 : Int) (colour1 : Int) : Option (Bool) :=
      chk (decide (0 ≤ colour1)) (some ((bAnd .u8 (Int.fdiv s0 (2 ^ min (Int.toNat colour1) 8)) (1 : Int)) == (1 : Int)))
theorem k71 (N : Nat) (s0 : Int) (colour1 : Int) : callF (E71) lv71 N en71 c71 (resOf Try.f71) 8 [.dv (.int .u8) s0, .dv (.int .i64) colour1] [] dec71 = m71 N s0 colour1 := by kernel_rfl
theorem ok71 (a : Int → Int → Option (Bool)) (h : ∀ s0 colour1 r, a s0 colour1 = some r → (∃ N, m71 N s0 colour1 = some r)) : FnOk Try.prog 71 (F71 a) := by
  intro args Of x hx
  simp only [F71] at hx
  split at hx
  · rename_i s0 colour1
    obtain ⟨N, hN⟩ := h _ _ _ hx
    refine lifted (L := []) (rc := nrc) (fz := nfz) (fn := Try.f71) (by kernel_rfl) (by kernel_rfl) (by kernel_rfl) (by kernel_rfl) rfl ?_ ((k71 N _ _).trans hN) ?_
    · intro p hp; cases hp
    · intro l o hd
      simp only [dec71] at hd
      split at hd
      · obtain rfl := Option.some.inj hd; exact ⟨rfl, rfl⟩
      · cases hd
  · cases hx
def E57 (a71 : Int → Int → Option (Bool)) : Env := mkE TI TY [(71, F71 a71)] nrc nfz
noncomputable def c57 : Code := bodyOf Try.f57
def nm57_0 : Norm := ⟨[4, 8], [], [(.slot 3, 1003, .int .i64)], []⟩
def lv57 : Nat → Option Norm := norms [(4, nm57_0)]
def en57 : End := ⟨[(20, .sl (.int .i64))], ⟨[20], [], [], []⟩⟩
def dec57 (l : List TV) (o : List (Nat × TO)) : Option (List Int) := match l, o with | [.dv (.sl (.int .i64)) x0], [] => some (x0) | _, _ => none
noncomputable def K57_0 (a71 : Int → Int → Option (Bool)) (N : Nat) : Kont (List Int) := kont (E57 a71) lv57 N c57 [1, 1, 1, 0, 1, 0] (fin TI en57 (resOf Try.f57) dec57)
noncomputable def R57_0 (a71 : Int → Int → Option (Bool)) (N : Nat) (m : Nat) : TS → Option (List Int) := loopK (den (E57 a71) lv57 N (sub c57 [1, 1, 1, 0, 1, 0, 0])) (TS.norm nm57_0) (K57_0 a71 N) m
def Sl57a (s0 : Int) (t8_a : Int) (out3_a : List Int) : TS := ⟨slots 20 [(3, .row 1003), (4, .fn 71 1 0 fun i => ([.dv (.int .u8) s0] : List TV).getD i .any), (8, .dv (.int .i64) t8_a)], [(1003, .row (.int .i64) out3_a)]⟩
def l57a (a71 : Int → Int → Option (Bool)) (N : Nat) (s0 : Int) : Nat → Int → (List Int) → Option (List Int)
  | 0, _, _ => none
  | n + 1, t8_a, out3_a => cond (decide (t8_a < (7 : Int))) ((a71 s0 t8_a).bind fun r1 =>
      cond (r1) (chk (small (out3_a.length + 1) 8) ((l57a a71 N s0 n (w64 (t8_a + (1 : Int))) (out3_a ++ ([t8_a] : List Int)))))
      ((l57a a71 N s0 n (w64 (t8_a + (1 : Int))) out3_a)))
      (some out3_a)
theorem wl57a (a71 : Int → Int → Option (Bool)) (N : Nat) (s0 : Int) (m : Nat) (t8_a : Int) (out3_a : List Int) : R57_0 a71 N (m + 1) (Sl57a s0 t8_a out3_a) = cond (decide (t8_a < (7 : Int))) ((a71 s0 t8_a).bind fun r1 =>
      cond (r1) (chk (small (out3_a.length + 1) 8) ((R57_0 a71 N m (Sl57a s0 (w64 (t8_a + (1 : Int))) (out3_a ++ ([t8_a] : List Int))))))
      ((R57_0 a71 N m (Sl57a s0 (w64 (t8_a + (1 : Int))) out3_a))))
      (some out3_a) := by kernel_rfl
theorem ql57a (a71 : Int → Int → Option (Bool)) (N : Nat) (s0 : Int) : ∀ (m : Nat) (t8_a : Int) (out3_a : List Int), R57_0 a71 N m (Sl57a s0 t8_a out3_a) = l57a a71 N s0 m t8_a out3_a
        | 0, _, _ => rfl
        | m + 1, t8_a, out3_a => by rw [wl57a]; simp only [l57a, ql57a a71 N s0 m]
def m57 (a71 : Int → Int → Option (Bool)) (N : Nat) (s0 : Int) : Option (List Int) :=
      (l57a a71 N s0 N (0 : Int) ([] : List Int))
theorem wm57 (a71 : Int → Int → Option (Bool)) (N : Nat) (s0 : Int) : callF (E57 a71) lv57 N en57 c57 (resOf Try.f57) 19 [.dv (.int .u8) s0] [] dec57 = (R57_0 a71 N N (Sl57a s0 (0 : Int) ([] : List Int))) := by kernel_rfl
theorem k57 (a71 : Int → Int → Option (Bool)) (N : Nat) (s0 : Int) : callF (E57 a71) lv57 N en57 c57 (resOf Try.f57) 19 [.dv (.int .u8) s0] [] dec57 = m57 a71 N s0 := by rw [wm57]; simp only [m57, ql57a]
theorem ok57 (a71 : Int → Int → Option (Bool)) (h71 : FnOk Try.prog 71 (F71 a71)) (a : Int → Option (List Int)) (h : ∀ s0 r, a s0 = some r → (∃ N, m57 a71 N s0 = some r)) : FnOk Try.prog 57 (F57 a) := by
  intro args Of x hx
  simp only [F57] at hx
  split at hx
  · rename_i s0
    obtain ⟨N, hN⟩ := h _ _ hx
    refine lifted (L := [(71, F71 a71)]) (rc := nrc) (fz := nfz) (fn := Try.f57) (by kernel_rfl) (by kernel_rfl) (by kernel_rfl) (by kernel_rfl) rfl ?_ ((k57 a71 N _).trans hN) ?_
    · intro p hp; simp only [List.mem_cons, List.not_mem_nil, or_false] at hp; rcases hp with rfl; exact h71
    · intro l o hd
      simp only [dec57] at hd
      split at hd
      · obtain rfl := Option.some.inj hd; exact ⟨rfl, rfl⟩
      · cases hd
  · cases hx
def E87 : Env := mkE TI TY [] nrc nfz
noncomputable def c87 : Code := bodyOf Try.f87
def lv87 : Nat → Option Norm := norms []
def en87 : End := ⟨[], ⟨[6], [], [], []⟩⟩
def dec87 (l : List TV) (o : List (Nat × TO)) : Option (Int) := match l, o with | [.dv (.int .i64) x0], [] => some (x0) | _, _ => none
def m87 (N : Nat) (o0 : Int) (t1 : Int) : Option (Int) :=
      some o0
theorem k87 (N : Nat) (o0 : Int) (t1 : Int) : callF (E87) lv87 N en87 c87 (resOf Try.f87) 4 [.dv (.int .i64) o0, .dv (.int .i64) t1] [] dec87 = m87 N o0 t1 := by kernel_rfl
theorem ok87 (a : Int → Int → Option (Int)) (h : ∀ o0 t1 r, a o0 t1 = some r → (∃ N, m87 N o0 t1 = some r)) : FnOk Try.prog 87 (F87 a) := by
  intro args Of x hx
  simp only [F87] at hx
  split at hx
  · rename_i o0 t1
    obtain ⟨N, hN⟩ := h _ _ _ hx
    refine lifted (L := []) (rc := nrc) (fz := nfz) (fn := Try.f87) (by kernel_rfl) (by kernel_rfl) (by kernel_rfl) (by kernel_rfl) rfl ?_ ((k87 N _ _).trans hN) ?_
    · intro p hp; cases hp
    · intro l o hd
      simp only [dec87] at hd
      split at hd
      · obtain rfl := Option.some.inj hd; exact ⟨rfl, rfl⟩
      · cases hd
  · cases hx
def E68 (a127 : (List Int) → Int → Option (Int)) (a57 : Int → Option (List Int)) (a87 : Int → Int → Option (Int)) : Env := mkE TI TY [(127, F127 a127), (57, F57 a57), (87, F87 a87)] nrc nfz
noncomputable def c68 : Code := bodyOf Try.f68
def nm68_0 : Norm := ⟨[6, 7, 13, 14, 15], [], [], []⟩
def lv68 : Nat → Option Norm := norms [(5, nm68_0)]
def en68 : End := ⟨[], ⟨[35], [], [], []⟩⟩
def dec68 (l : List TV) (o : List (Nat × TO)) : Option (Int) := match l, o with | [.dv (.int .u8) x0], [] => some (x0) | _, _ => none
noncomputable def K68_0 (a127 : (List Int) → Int → Option (Int)) (a57 : Int → Option (List Int)) (a87 : Int → Int → Option (Int)) (N : Nat) : Kont (Int) := kont (E68 a127 a57 a87) lv68 N c68 [1, 1, 0, 1, 1, 1, 1, 0, 1, 0] (fin TI en68 (resOf Try.f68) dec68)
noncomputable def R68_0 (a127 : (List Int) → Int → Option (Int)) (a57 : Int → Option (List Int)) (a87 : Int → Int → Option (Int)) (N : Nat) (m : Nat) : TS → Option (Int) := loopK (den (E68 a127 a57 a87) lv68 N (sub c68 [1, 1, 0, 1, 1, 1, 1, 0, 1, 0, 0])) (TS.norm nm68_0) (K68_0 a127 a57 a87 N) m
def Sl68a (k1 : Int ⊕ ((List Int) ⊕ Unit)) (r2 : List Int) (out7_a : Int) (t15_a : Int) : TS := ⟨slots 35 [(6, .dv (.ifc 114 (.int .i64) (.ifc 115 (.sl (.int .i64)) (.ifn))) k1), (7, .dv (.int .u8) out7_a), (13, .dv (.sl (.int .i64)) r2), (14, .dv (.int .i64) (r2.length : Int)), (15, .dv (.int .i64) t15_a)], []⟩
def l68a (a127 : (List Int) → Int → Option (Int)) (a57 : Int → Option (List Int)) (a87 : Int → Int → Option (Int)) (N : Nat) (k1 : Int ⊕ ((List Int) ⊕ Unit)) (r2 : List Int) : Nat → Int → Int → Option (Int)
  | 0, _, _ => none
  | n + 1, out7_a, t15_a => cond (decide (t15_a < (r2.length : Int))) (chk (decide (0 ≤ t15_a ∧ t15_a < (r2.length : Int))) (ifElim k1 (fun h3 =>
      (a87 h3 (r2.getD t15_a.toNat (0 : Int))).bind fun r5 =>
      chk (decide (0 ≤ r5)) ((l68a a127 a57 a87 N k1 r2 n (bOr .u8 out7_a (IntKind.wrap .u8 ((1 : Int) * 2 ^ min (Int.toNat r5) 8))) (w64 (t15_a + (1 : Int)))))) (fun g4 =>
      ifElim g4 (fun h6 =>
      (a127 h6 (r2.getD t15_a.toNat (0 : Int))).bind fun r8 =>
      chk (decide (0 ≤ r8)) ((l68a a127 a57 a87 N k1 r2 n (bOr .u8 out7_a (IntKind.wrap .u8 ((1 : Int) * 2 ^ min (Int.toNat r8) 8))) (w64 (t15_a + (1 : Int)))))) (fun g7 =>
      none))))
      (some out7_a)
theorem wl68a (a127 : (List Int) → Int → Option (Int)) (a57 : Int → Option (List Int)) (a87 : Int → Int → Option (Int)) (N : Nat) (k1 : Int ⊕ ((List Int) ⊕ Unit)) (r2 : List Int) (m : Nat) (out7_a : Int) (t15_a : Int) : R68_0 a127 a57 a87 N (m + 1) (Sl68a k1 r2 out7_a t15_a) = cond (decide (t15_a < (r2.length : Int))) (chk (decide (0 ≤ t15_a ∧ t15_a < (r2.length : Int))) (ifElim k1 (fun h3 =>
      (a87 h3 (r2.getD t15_a.toNat (0 : Int))).bind fun r5 =>
      chk (decide (0 ≤ r5)) ((R68_0 a127 a57 a87 N m (Sl68a k1 r2 (bOr .u8 out7_a (IntKind.wrap .u8 ((1 : Int) * 2 ^ min (Int.toNat r5) 8))) (w64 (t15_a + (1 : Int))))))) (fun g4 =>
      ifElim g4 (fun h6 =>
      (a127 h6 (r2.getD t15_a.toNat (0 : Int))).bind fun r8 =>
      chk (decide (0 ≤ r8)) ((R68_0 a127 a57 a87 N m (Sl68a k1 r2 (bOr .u8 out7_a (IntKind.wrap .u8 ((1 : Int) * 2 ^ min (Int.toNat r8) 8))) (w64 (t15_a + (1 : Int))))))) (fun g7 =>
      none))))
      (some out7_a) := by kernel_rfl
theorem ql68a (a127 : (List Int) → Int → Option (Int)) (a57 : Int → Option (List Int)) (a87 : Int → Int → Option (Int)) (N : Nat) (k1 : Int ⊕ ((List Int) ⊕ Unit)) (r2 : List Int) : ∀ (m : Nat) (out7_a : Int) (t15_a : Int), R68_0 a127 a57 a87 N m (Sl68a k1 r2 out7_a t15_a) = l68a a127 a57 a87 N k1 r2 m out7_a t15_a
        | 0, _, _ => rfl
        | m + 1, out7_a, t15_a => by rw [wl68a]; simp only [l68a, ql68a a127 a57 a87 N k1 r2 m]
def m68 (a127 : (List Int) → Int → Option (Int)) (a57 : Int → Option (List Int)) (a87 : Int → Int → Option (Int)) (N : Nat) (s0 : Int) (k1 : Int ⊕ ((List Int) ⊕ Unit)) : Option (Int) :=
      cond ((inL k1).isSome) ((a87 ((inL k1).getD (0 : Int)) (0 : Int)).bind fun r1 =>
      chk (decide (0 ≤ r1)) (some (bOr .u8 s0 (IntKind.wrap .u8 ((1 : Int) * 2 ^ min (Int.toNat r1) 8)))))
      ((a57 s0).bind fun r2 =>
      (l68a a127 a57 a87 N k1 r2 N s0 (0 : Int)))
theorem wm68 (a127 : (List Int) → Int → Option (Int)) (a57 : Int → Option (List Int)) (a87 : Int → Int → Option (Int)) (N : Nat) (s0 : Int) (k1 : Int ⊕ ((List Int) ⊕ Unit)) : callF (E68 a127 a57 a87) lv68 N en68 c68 (resOf Try.f68) 33 [.dv (.int .u8) s0, .dv (.ifc 114 (.int .i64) (.ifc 115 (.sl (.int .i64)) (.ifn))) k1] [] dec68 = cond ((inL k1).isSome) ((a87 ((inL k1).getD (0 : Int)) (0 : Int)).bind fun r1 =>
      chk (decide (0 ≤ r1)) (some (bOr .u8 s0 (IntKind.wrap .u8 ((1 : Int) * 2 ^ min (Int.toNat r1) 8)))))
      ((a57 s0).bind fun r2 =>
      (R68_0 a127 a57 a87 N N (Sl68a k1 r2 s0 (0 : Int)))) := by kernel_rfl
theorem k68 (a127 : (List Int) → Int → Option (Int)) (a57 : Int → Option (List Int)) (a87 : Int → Int → Option (Int)) (N : Nat) (s0 : Int) (k1 : Int ⊕ ((List Int) ⊕ Unit)) : callF (E68 a127 a57 a87) lv68 N en68 c68 (resOf Try.f68) 33 [.dv (.int .u8) s0, .dv (.ifc 114 (.int .i64) (.ifc 115 (.sl (.int .i64)) (.ifn))) k1] [] dec68 = m68 a127 a57 a87 N s0 k1 := by rw [wm68]; simp only [m68, ql68a]
theorem ok68 (a127 : (List Int) → Int → Option (Int)) (a57 : Int → Option (List Int)) (a87 : Int → Int → Option (Int)) (h127 : FnOk Try.prog 127 (F127 a127)) (h57 : FnOk Try.prog 57 (F57 a57)) (h87 : FnOk Try.prog 87 (F87 a87)) (a : Int → (Int ⊕ ((List Int) ⊕ Unit)) → Option (Int)) (h : ∀ s0 k1 r, a s0 k1 = some r → (∃ N, m68 a127 a57 a87 N s0 k1 = some r)) : FnOk Try.prog 68 (F68 a) := by
  intro args Of x hx
  simp only [F68] at hx
  split at hx
  · rename_i s0 k1
    obtain ⟨N, hN⟩ := h _ _ _ hx
    refine lifted (L := [(127, F127 a127), (57, F57 a57), (87, F87 a87)]) (rc := nrc) (fz := nfz) (fn := Try.f68) (by kernel_rfl) (by kernel_rfl) (by kernel_rfl) (by kernel_rfl) rfl ?_ ((k68 a127 a57 a87 N _ _).trans hN) ?_
    · intro p hp; simp only [List.mem_cons, List.not_mem_nil, or_false] at hp; rcases hp with rfl | rfl | rfl
      · exact h127
      · exact h57
      · exact h87
    · intro l o hd
      simp only [dec68] at hd
      split at hd
      · obtain rfl := Option.some.inj hd; exact ⟨rfl, rfl⟩
      · cases hd
  · cases hx
def E56 (a61 : (Int × List (List Int) × Unit) → Int → Option (Int ⊕ ((List Int) ⊕ Unit))) (a68 : Int → (Int ⊕ ((List Int) ⊕ Unit)) → Option (Int)) : Env := mkE TI TY [(61, F61 a61), (68, F68 a68)] nrc nfz
noncomputable def c56 : Code := bodyOf Try.f56
def nm56_0 : Norm := ⟨[2, 5, 8, 9, 10], [2], [], []⟩
def lv56 : Nat → Option Norm := norms [(3, nm56_0)]
def en56 : End := ⟨[], ⟨[21], [], [], []⟩⟩
def dec56 (l : List TV) (o : List (Nat × TO)) : Option (Int) := match l, o with | [.dv (.int .u8) x0], [] => some (x0) | _, _ => none
noncomputable def K56_0 (a61 : (Int × List (List Int) × Unit) → Int → Option (Int ⊕ ((List Int) ⊕ Unit))) (a68 : Int → (Int ⊕ ((List Int) ⊕ Unit)) → Option (Int)) (N : Nat) : Kont (Int) := kont (E56 a61 a68) lv56 N c56 [1, 1, 0, 1, 0] (fin TI en56 (resOf Try.f56) dec56)
noncomputable def R56_0 (a61 : (Int × List (List Int) × Unit) → Int → Option (Int ⊕ ((List Int) ⊕ Unit))) (a68 : Int → (Int ⊕ ((List Int) ⊕ Unit)) → Option (Int)) (N : Nat) (m : Nat) : TS → Option (Int) := loopK (den (E56 a61 a68) lv56 N (sub c56 [1, 1, 0, 1, 0, 0])) (TS.norm nm56_0) (K56_0 a61 a68 N) m
def Sl56a (p0 : Int × List (List Int) × Unit) (sequence1 : List Int) (s5_a : Int) (t10_a : Int) : TS := ⟨slots 21 [(2, .ptr 2 0 []), (5, .dv (.int .u8) s5_a), (8, .dv (.sl (.int .i64)) sequence1), (9, .dv (.int .i64) (sequence1.length : Int)), (10, .dv (.int .i64) t10_a)], [(2, .row (.pair (.int .i64) (.pair (.sl (.sl (.int .i64))) (.unit))) ([p0] : List (Int × List (List Int) × Unit)))]⟩
def l56a (a61 : (Int × List (List Int) × Unit) → Int → Option (Int ⊕ ((List Int) ⊕ Unit))) (a68 : Int → (Int ⊕ ((List Int) ⊕ Unit)) → Option (Int)) (N : Nat) (p0 : Int × List (List Int) × Unit) (sequence1 : List Int) : Nat → Int → Int → Option (Int)
  | 0, _, _ => none
  | n + 1, s5_a, t10_a => cond (decide (t10_a < (sequence1.length : Int))) (chk (decide (0 ≤ t10_a ∧ t10_a < (sequence1.length : Int))) ((a61 p0 (sequence1.getD t10_a.toNat (0 : Int))).bind fun r1 =>
      (a68 s5_a r1).bind fun r2 =>
      (l56a a61 a68 N p0 sequence1 n r2 (w64 (t10_a + (1 : Int))))))
      (some s5_a)
theorem wl56a (a61 : (Int × List (List Int) × Unit) → Int → Option (Int ⊕ ((List Int) ⊕ Unit))) (a68 : Int → (Int ⊕ ((List Int) ⊕ Unit)) → Option (Int)) (N : Nat) (p0 : Int × List (List Int) × Unit) (sequence1 : List Int) (m : Nat) (s5_a : Int) (t10_a : Int) : R56_0 a61 a68 N (m + 1) (Sl56a p0 sequence1 s5_a t10_a) = cond (decide (t10_a < (sequence1.length : Int))) (chk (decide (0 ≤ t10_a ∧ t10_a < (sequence1.length : Int))) ((a61 p0 (sequence1.getD t10_a.toNat (0 : Int))).bind fun r1 =>
      (a68 s5_a r1).bind fun r2 =>
      (R56_0 a61 a68 N m (Sl56a p0 sequence1 r2 (w64 (t10_a + (1 : Int)))))))
      (some s5_a) := by kernel_rfl
theorem ql56a (a61 : (Int × List (List Int) × Unit) → Int → Option (Int ⊕ ((List Int) ⊕ Unit))) (a68 : Int → (Int ⊕ ((List Int) ⊕ Unit)) → Option (Int)) (N : Nat) (p0 : Int × List (List Int) × Unit) (sequence1 : List Int) : ∀ (m : Nat) (s5_a : Int) (t10_a : Int), R56_0 a61 a68 N m (Sl56a p0 sequence1 s5_a t10_a) = l56a a61 a68 N p0 sequence1 m s5_a t10_a
        | 0, _, _ => rfl
        | m + 1, s5_a, t10_a => by rw [wl56a]; simp only [l56a, ql56a a61 a68 N p0 sequence1 m]
def m56 (a61 : (Int × List (List Int) × Unit) → Int → Option (Int ⊕ ((List Int) ⊕ Unit))) (a68 : Int → (Int ⊕ ((List Int) ⊕ Unit)) → Option (Int)) (N : Nat) (p0 : Int × List (List Int) × Unit) (sequence1 : List Int) : Option (Int) :=
      (l56a a61 a68 N p0 sequence1 N (1 : Int) (0 : Int))
theorem wm56 (a61 : (Int × List (List Int) × Unit) → Int → Option (Int ⊕ ((List Int) ⊕ Unit))) (a68 : Int → (Int ⊕ ((List Int) ⊕ Unit)) → Option (Int)) (N : Nat) (p0 : Int × List (List Int) × Unit) (sequence1 : List Int) : callF (E56 a61 a68) lv56 N en56 c56 (resOf Try.f56) 19 [.dv (.pair (.int .i64) (.pair (.sl (.sl (.int .i64))) (.unit))) p0, .dv (.sl (.int .i64)) sequence1] [] dec56 = (R56_0 a61 a68 N N (Sl56a p0 sequence1 (1 : Int) (0 : Int))) := by kernel_rfl
theorem k56 (a61 : (Int × List (List Int) × Unit) → Int → Option (Int ⊕ ((List Int) ⊕ Unit))) (a68 : Int → (Int ⊕ ((List Int) ⊕ Unit)) → Option (Int)) (N : Nat) (p0 : Int × List (List Int) × Unit) (sequence1 : List Int) : callF (E56 a61 a68) lv56 N en56 c56 (resOf Try.f56) 19 [.dv (.pair (.int .i64) (.pair (.sl (.sl (.int .i64))) (.unit))) p0, .dv (.sl (.int .i64)) sequence1] [] dec56 = m56 a61 a68 N p0 sequence1 := by rw [wm56]; simp only [m56, ql56a]
theorem ok56 (a61 : (Int × List (List Int) × Unit) → Int → Option (Int ⊕ ((List Int) ⊕ Unit))) (a68 : Int → (Int ⊕ ((List Int) ⊕ Unit)) → Option (Int)) (h61 : FnOk Try.prog 61 (F61 a61)) (h68 : FnOk Try.prog 68 (F68 a68)) (a : (Int × List (List Int) × Unit) → (List Int) → Option (Int)) (h : ∀ p0 sequence1 r, a p0 sequence1 = some r → (∃ N, m56 a61 a68 N p0 sequence1 = some r)) : FnOk Try.prog 56 (F56 a) := by
  intro args Of x hx
  simp only [F56] at hx
  split at hx
  · rename_i p0 sequence1
    obtain ⟨N, hN⟩ := h _ _ _ hx
    refine lifted (L := [(61, F61 a61), (68, F68 a68)]) (rc := nrc) (fz := nfz) (fn := Try.f56) (by kernel_rfl) (by kernel_rfl) (by kernel_rfl) (by kernel_rfl) rfl ?_ ((k56 a61 a68 N _ _).trans hN) ?_
    · intro p hp; simp only [List.mem_cons, List.not_mem_nil, or_false] at hp; rcases hp with rfl | rfl
      · exact h61
      · exact h68
    · intro l o hd
      simp only [dec56] at hd
      split at hd
      · obtain rfl := Option.some.inj hd; exact ⟨rfl, rfl⟩
      · cases hd
  · cases hx
def E17 (a55 : (Int × List (List Int) × Unit) → (List Int) → Int → Option (Int)) (a56 : (Int × List (List Int) × Unit) → (List Int) → Option (Int)) (a57 : Int → Option (List Int)) : Env := mkE TI TY [(55, F55 a55), (56, F56 a56), (57, F57 a57)] nrc nfz
noncomputable def c17 : Code := bodyOf Try.f17
def lv17 : Nat → Option Norm := norms []
def en17 : End := ⟨[(17, .sl (.int .i64))], ⟨[17, 18], [], [], []⟩⟩
def dec17 (l : List TV) (o : List (Nat × TO)) : Option (List Int × Int) := match l, o with | [.dv (.sl (.int .i64)) x0, .dv (.int .i64) x1], [] => some (x0, x1) | _, _ => none
def m17 (a55 : (Int × List (List Int) × Unit) → (List Int) → Int → Option (Int)) (a56 : (Int × List (List Int) × Unit) → (List Int) → Option (Int)) (a57 : Int → Option (List Int)) (N : Nat) (p0 : Int × List (List Int) × Unit) (sequence1 : List Int) : Option (List Int × Int) :=
      (a55 p0 sequence1 (12 : Int)).bind fun r1 =>
      cond (r1 != (0 : Int)) (some (([] : List Int), r1))
      ((a56 p0 sequence1).bind fun r2 =>
      (a57 r2).bind fun r3 =>
      some (r3, (0 : Int)))
theorem k17 (a55 : (Int × List (List Int) × Unit) → (List Int) → Int → Option (Int)) (a56 : (Int × List (List Int) × Unit) → (List Int) → Option (Int)) (a57 : Int → Option (List Int)) (N : Nat) (p0 : Int × List (List Int) × Unit) (sequence1 : List Int) : callF (E17 a55 a56 a57) lv17 N en17 c17 (resOf Try.f17) 15 [.dv (.pair (.int .i64) (.pair (.sl (.sl (.int .i64))) (.unit))) p0, .dv (.sl (.int .i64)) sequence1] [] dec17 = m17 a55 a56 a57 N p0 sequence1 := by kernel_rfl
theorem ok17 (a55 : (Int × List (List Int) × Unit) → (List Int) → Int → Option (Int)) (a56 : (Int × List (List Int) × Unit) → (List Int) → Option (Int)) (a57 : Int → Option (List Int)) (h55 : FnOk Try.prog 55 (F55 a55)) (h56 : FnOk Try.prog 56 (F56 a56)) (h57 : FnOk Try.prog 57 (F57 a57)) (a : (Int × List (List Int) × Unit) → (List Int) → Option (List Int × Int)) (h : ∀ p0 sequence1 r, a p0 sequence1 = some r → (∃ N, m17 a55 a56 a57 N p0 sequence1 = some r)) : FnOk Try.prog 17 (F17 a) := by
  intro args Of x hx
  simp only [F17] at hx
  split at hx
  · rename_i p0 sequence1
    obtain ⟨N, hN⟩ := h _ _ _ hx
    refine lifted (L := [(55, F55 a55), (56, F56 a56), (57, F57 a57)]) (rc := nrc) (fz := nfz) (fn := Try.f17) (by kernel_rfl) (by kernel_rfl) (by kernel_rfl) (by kernel_rfl) rfl ?_ ((k17 a55 a56 a57 N _ _).trans hN) ?_
    · intro p hp; simp only [List.mem_cons, List.not_mem_nil, or_false] at hp; rcases hp with rfl | rfl | rfl
      · exact h55
      · exact h56
      · exact h57
    · intro l o hd
      simp only [dec17] at hd
      split at hd
      · obtain rfl := Option.some.inj hd; exact ⟨rfl, rfl⟩
      · cases hd
  · cases hx
def E19 (a127 : (List Int) → Int → Option (Int)) (a55 : (Int × List (List Int) × Unit) → (List Int) → Int → Option (Int)) (a61 : (Int × List (List Int) × Unit) → Int → Option (Int ⊕ ((List Int) ⊕ Unit))) (a87 : Int → Int → Option (Int)) : Env := mkE TI TY [(127, F127 a127), (55, F55 a55), (61, F61 a61), (87, F87 a87)] nrc nfz
noncomputable def c19 : Code := bodyOf Try.f19
def nm19_0 : Norm := ⟨[2, 3, 9, 25, 26, 27], [3], [], []⟩
def lv19 : Nat → Option Norm := norms [(8, nm19_0)]
def en19 : End := ⟨[], ⟨[43, 44], [], [], []⟩⟩
def dec19 (l : List TV) (o : List (Nat × TO)) : Option (Int × Int) := match l, o with | [.dv (.int .i64) x0, .dv (.int .i64) x1], [] => some (x0, x1) | _, _ => none
noncomputable def K19_0 (a127 : (List Int) → Int → Option (Int)) (a55 : (Int × List (List Int) × Unit) → (List Int) → Int → Option (Int)) (a61 : (Int × List (List Int) × Unit) → Int → Option (Int ⊕ ((List Int) ⊕ Unit))) (a87 : Int → Int → Option (Int)) (N : Nat) : Kont (Int × Int) := kont (E19 a127 a55 a61 a87) lv19 N c19 [1, 1, 1, 1, 0, 1, 0] (fin TI en19 (resOf Try.f19) dec19)
noncomputable def R19_0 (a127 : (List Int) → Int → Option (Int)) (a55 : (Int × List (List Int) × Unit) → (List Int) → Int → Option (Int)) (a61 : (Int × List (List Int) × Unit) → Int → Option (Int ⊕ ((List Int) ⊕ Unit))) (a87 : Int → Int → Option (Int)) (N : Nat) (m : Nat) : TS → Option (Int × Int) := loopK (den (E19 a127 a55 a61 a87) lv19 N (sub c19 [1, 1, 1, 1, 0, 1, 0, 0])) (TS.norm nm19_0) (K19_0 a127 a55 a61 a87 N) m
def Sl19a (p0 : Int × List (List Int) × Unit) (sequence1 : List Int) (choice2 : List Bool) (c9_a : Int) (t27_a : Int) : TS := ⟨slots 43 [(2, .dv (.sl (.bool)) choice2), (3, .ptr 3 0 []), (9, .dv (.int .i64) c9_a), (25, .dv (.sl (.int .i64)) sequence1), (26, .dv (.int .i64) (sequence1.length : Int)), (27, .dv (.int .i64) t27_a)], [(3, .row (.pair (.int .i64) (.pair (.sl (.sl (.int .i64))) (.unit))) ([p0] : List (Int × List (List Int) × Unit)))]⟩
def l19a (a127 : (List Int) → Int → Option (Int)) (a55 : (Int × List (List Int) × Unit) → (List Int) → Int → Option (Int)) (a61 : (Int × List (List Int) × Unit) → Int → Option (Int ⊕ ((List Int) ⊕ Unit))) (a87 : Int → Int → Option (Int)) (N : Nat) (p0 : Int × List (List Int) × Unit) (sequence1 : List Int) (choice2 : List Bool) : Nat → Int → Int → Option (Int × Int)
  | 0, _, _ => none
  | n + 1, c9_a, t27_a => cond (decide (t27_a < (sequence1.length : Int))) (chk (decide (0 ≤ t27_a ∧ t27_a < (sequence1.length : Int))) (chk (decide (0 ≤ t27_a ∧ t27_a < (choice2.length : Int))) (cond (choice2.getD t27_a.toNat false) ((a61 p0 (sequence1.getD t27_a.toNat (0 : Int))).bind fun r2 =>
      ifElim r2 (fun h3 =>
      (a87 h3 c9_a).bind fun r5 =>
      (l19a a127 a55 a61 a87 N p0 sequence1 choice2 n r5 (w64 (t27_a + (1 : Int))))) (fun g4 =>
      ifElim g4 (fun h6 =>
      (a127 h6 c9_a).bind fun r8 =>
      (l19a a127 a55 a61 a87 N p0 sequence1 choice2 n r8 (w64 (t27_a + (1 : Int))))) (fun g7 =>
      none)))
      ((l19a a127 a55 a61 a87 N p0 sequence1 choice2 n c9_a (w64 (t27_a + (1 : Int))))))))
      (some (c9_a, (0 : Int)))
theorem wl19a (a127 : (List Int) → Int → Option (Int)) (a55 : (Int × List (List Int) × Unit) → (List Int) → Int → Option (Int)) (a61 : (Int × List (List Int) × Unit) → Int → Option (Int ⊕ ((List Int) ⊕ Unit))) (a87 : Int → Int → Option (Int)) (N : Nat) (p0 : Int × List (List Int) × Unit) (sequence1 : List Int) (choice2 : List Bool) (m : Nat) (c9_a : Int) (t27_a : Int) : R19_0 a127 a55 a61 a87 N (m + 1) (Sl19a p0 sequence1 choice2 c9_a t27_a) = cond (decide (t27_a < (sequence1.length : Int))) (chk (decide (0 ≤ t27_a ∧ t27_a < (sequence1.length : Int))) (chk (decide (0 ≤ t27_a ∧ t27_a < (choice2.length : Int))) (cond (choice2.getD t27_a.toNat false) ((a61 p0 (sequence1.getD t27_a.toNat (0 : Int))).bind fun r2 =>
      ifElim r2 (fun h3 =>
      (a87 h3 c9_a).bind fun r5 =>
      (R19_0 a127 a55 a61 a87 N m (Sl19a p0 sequence1 choice2 r5 (w64 (t27_a + (1 : Int)))))) (fun g4 =>
      ifElim g4 (fun h6 =>
      (a127 h6 c9_a).bind fun r8 =>
      (R19_0 a127 a55 a61 a87 N m (Sl19a p0 sequence1 choice2 r8 (w64 (t27_a + (1 : Int)))))) (fun g7 =>
      none)))
      ((R19_0 a127 a55 a61 a87 N m (Sl19a p0 sequence1 choice2 c9_a (w64 (t27_a + (1 : Int)))))))))
      (some (c9_a, (0 : Int))) := by kernel_rfl
theorem ql19a (a127 : (List Int) → Int → Option (Int)) (a55 : (Int × List (List Int) × Unit) → (List Int) → Int → Option (Int)) (a61 : (Int × List (List Int) × Unit) → Int → Option (Int ⊕ ((List Int) ⊕ Unit))) (a87 : Int → Int → Option (Int)) (N : Nat) (p0 : Int × List (List Int) × Unit) (sequence1 : List Int) (choice2 : List Bool) : ∀ (m : Nat) (c9_a : Int) (t27_a : Int), R19_0 a127 a55 a61 a87 N m (Sl19a p0 sequence1 choice2 c9_a t27_a) = l19a a127 a55 a61 a87 N p0 sequence1 choice2 m c9_a t27_a
        | 0, _, _ => rfl
        | m + 1, c9_a, t27_a => by rw [wl19a]; simp only [l19a, ql19a a127 a55 a61 a87 N p0 sequence1 choice2 m]
def m19 (a127 : (List Int) → Int → Option (Int)) (a55 : (Int × List (List Int) × Unit) → (List Int) → Int → Option (Int)) (a61 : (Int × List (List Int) × Unit) → Int → Option (Int ⊕ ((List Int) ⊕ Unit))) (a87 : Int → Int → Option (Int)) (N : Nat) (p0 : Int × List (List Int) × Unit) (sequence1 : List Int) (choice2 : List Bool) : Option (Int × Int) :=
      (a55 p0 sequence1 (12 : Int)).bind fun r1 =>
      cond (r1 != (0 : Int)) (some ((0 : Int), r1))
      (cond ((choice2.length : Int) != (sequence1.length : Int)) (some ((0 : Int), (3 : Int)))
      ((l19a a127 a55 a61 a87 N p0 sequence1 choice2 N (0 : Int) (0 : Int))))
theorem wm19 (a127 : (List Int) → Int → Option (Int)) (a55 : (Int × List (List Int) × Unit) → (List Int) → Int → Option (Int)) (a61 : (Int × List (List Int) × Unit) → Int → Option (Int ⊕ ((List Int) ⊕ Unit))) (a87 : Int → Int → Option (Int)) (N : Nat) (p0 : Int × List (List Int) × Unit) (sequence1 : List Int) (choice2 : List Bool) : callF (E19 a127 a55 a61 a87) lv19 N en19 c19 (resOf Try.f19) 40 [.dv (.pair (.int .i64) (.pair (.sl (.sl (.int .i64))) (.unit))) p0, .dv (.sl (.int .i64)) sequence1, .dv (.sl (.bool)) choice2] [] dec19 = (a55 p0 sequence1 (12 : Int)).bind fun r1 =>
      cond (r1 != (0 : Int)) (some ((0 : Int), r1))
      (cond ((choice2.length : Int) != (sequence1.length : Int)) (some ((0 : Int), (3 : Int)))
      ((R19_0 a127 a55 a61 a87 N N (Sl19a p0 sequence1 choice2 (0 : Int) (0 : Int))))) := by kernel_rfl
theorem k19 (a127 : (List Int) → Int → Option (Int)) (a55 : (Int × List (List Int) × Unit) → (List Int) → Int → Option (Int)) (a61 : (Int × List (List Int) × Unit) → Int → Option (Int ⊕ ((List Int) ⊕ Unit))) (a87 : Int → Int → Option (Int)) (N : Nat) (p0 : Int × List (List Int) × Unit) (sequence1 : List Int) (choice2 : List Bool) : callF (E19 a127 a55 a61 a87) lv19 N en19 c19 (resOf Try.f19) 40 [.dv (.pair (.int .i64) (.pair (.sl (.sl (.int .i64))) (.unit))) p0, .dv (.sl (.int .i64)) sequence1, .dv (.sl (.bool)) choice2] [] dec19 = m19 a127 a55 a61 a87 N p0 sequence1 choice2 := by rw [wm19]; simp only [m19, ql19a]
theorem ok19 (a127 : (List Int) → Int → Option (Int)) (a55 : (Int × List (List Int) × Unit) → (List Int) → Int → Option (Int)) (a61 : (Int × List (List Int) × Unit) → Int → Option (Int ⊕ ((List Int) ⊕ Unit))) (a87 : Int → Int → Option (Int)) (h127 : FnOk Try.prog 127 (F127 a127)) (h55 : FnOk Try.prog 55 (F55 a55)) (h61 : FnOk Try.prog 61 (F61 a61)) (h87 : FnOk Try.prog 87 (F87 a87)) (a : (Int × List (List Int) × Unit) → (List Int) → (List Bool) → Option (Int × Int)) (h : ∀ p0 sequence1 choice2 r, a p0 sequence1 choice2 = some r → (∃ N, m19 a127 a55 a61 a87 N p0 sequence1 choice2 = some r)) : FnOk Try.prog 19 (F19 a) := by
  intro args Of x hx
  simp only [F19] at hx
  split at hx
  · rename_i p0 sequence1 choice2
    obtain ⟨N, hN⟩ := h _ _ _ _ hx
    refine lifted (L := [(127, F127 a127), (55, F55 a55), (61, F61 a61), (87, F87 a87)]) (rc := nrc) (fz := nfz) (fn := Try.f19) (by kernel_rfl) (by kernel_rfl) (by kernel_rfl) (by kernel_rfl) rfl ?_ ((k19 a127 a55 a61 a87 N _ _ _).trans hN) ?_
    · intro p hp; simp only [List.mem_cons, List.not_mem_nil, or_false] at hp; rcases hp with rfl | rfl | rfl | rfl
      · exact h127
      · exact h55
      · exact h61
      · exact h87
    · intro l o hd
      simp only [dec19] at hd
      split at hd
      · obtain rfl := Option.some.inj hd; exact ⟨rfl, rfl⟩
      · cases hd
  · cases hx
def E84c : Env := mkE TI TY [] nrc (fun i => ([25] : List Nat).contains i)
noncomputable def c84c : Code := bodyOf Try.f84
def lv84c : Nat → Option Norm := norms []
def en84c : End := ⟨[], ⟨[], [], [(.slot 27, 1500, .int .i64)], []⟩⟩
def dec84c (l : List TV) (o : List (Nat × TO)) : Option (List Int) := match l, o with | [.row 1500], [(1500, .row (.int .i64) x0)] => some (x0) | _, _ => none
def m84c (N : Nat) (n1 : Int) : Option (List Int) :=
      cond (decide (n1 < (0 : Int))) (none)
      (cond (decide ((w64 (n1 - (0 : Int))) > (0 : Int))) (chk (decide ((0 : Int) < (w64 (n1 - (0 : Int)))) && mkOk (w64 (n1 - (0 : Int))) (w64 (n1 - (0 : Int))) 8) (chk (decide (0 ≤ (0 : Int) ∧ (0 : Int) ≤ ((List.replicate ((w64 (n1 - (0 : Int))).toNat) (0 : Int)).length : Int))) (some ((List.replicate ((w64 (n1 - (0 : Int))).toNat) (0 : Int)).take 0))))
      (some ([] : List Int)))
theorem k84c (N : Nat) (n1 : Int) : callF (E84c) lv84c N en84c c84c (resOf Try.f84) 25 [.nl, .dv (.int .i64) n1] [] dec84c = m84c N n1 := by kernel_rfl
theorem ok84c (a : Int → Option (List Int)) (h : ∀ n1 r, a n1 = some r → (∃ N, m84c N n1 = some r)) : FnOk Try.prog 84 (F84c a) := by
  intro args Of x hx
  simp only [F84c] at hx
  split at hx
  · rename_i n1
    obtain ⟨N, hN⟩ := h _ _ hx
    refine lifted (L := []) (rc := nrc) (fz := (fun i => ([25] : List Nat).contains i)) (fn := Try.f84) (by kernel_rfl) (by kernel_rfl) (by kernel_rfl) (by kernel_rfl) rfl ?_ ((k84c N _).trans hN) ?_
    · intro p hp; cases hp
    · intro l o hd
      simp only [dec84c] at hd
      split at hd
      · obtain rfl := Option.some.inj hd; exact ⟨rfl, rfl⟩
      · cases hd
  · cases hx
def E62 (a84c : Int → Option (List Int)) : Env := mkE TI TY [(84, F84c a84c)] nrc nfz
noncomputable def c62 : Code := bodyOf Try.f62
def nm62_0 : Norm := ⟨[0, 3, 9, 10, 11], [], [], []⟩
def nm62_1 : Norm := ⟨[25, 26, 27], [], [(.slot 6, 1006, .int .i64)], []⟩
def lv62 : Nat → Option Norm := norms [(3, nm62_0), (11, nm62_1)]
def en62 : End := ⟨[(36, .sl (.int .i64))], ⟨[36], [], [], []⟩⟩
def dec62 (l : List TV) (o : List (Nat × TO)) : Option (List Int) := match l, o with | [.dv (.sl (.int .i64)) x0], [] => some (x0) | _, _ => none
noncomputable def K62_0 (a84c : Int → Option (List Int)) (N : Nat) : Kont (List Int) := kont (E62 a84c) lv62 N c62 [1, 1, 0, 1, 0] (fin TI en62 (resOf Try.f62) dec62)
noncomputable def R62_0 (a84c : Int → Option (List Int)) (N : Nat) (m : Nat) : TS → Option (List Int) := loopK (den (E62 a84c) lv62 N (sub c62 [1, 1, 0, 1, 0, 0])) (TS.norm nm62_0) (K62_0 a84c N) m
noncomputable def K62_1 (a84c : Int → Option (List Int)) (N : Nat) : Kont (List Int) := kont (E62 a84c) lv62 N c62 [1, 1, 1, 1, 0, 1, 0] (fin TI en62 (resOf Try.f62) dec62)
noncomputable def R62_1 (a84c : Int → Option (List Int)) (N : Nat) (m : Nat) : TS → Option (List Int) := loopK (den (E62 a84c) lv62 N (sub c62 [1, 1, 1, 1, 0, 1, 0, 0])) (TS.norm nm62_1) (K62_1 a84c N) m
def Sl62b (slices0 : List (List Int)) (t27_b : Int) (newslice6_b : List Int) : TS := ⟨slots 36 [(6, .row 1006), (25, .dv (.sl (.sl (.int .i64))) slices0), (26, .dv (.int .i64) (slices0.length : Int)), (27, .dv (.int .i64) t27_b)], [(1006, .row (.int .i64) newslice6_b)]⟩
def Sl62a (slices0 : List (List Int)) (size3_a : Int) (t11_a : Int) : TS := ⟨slots 36 [(0, .dv (.sl (.sl (.int .i64))) slices0), (3, .dv (.int .i64) size3_a), (9, .dv (.sl (.sl (.int .i64))) slices0), (10, .dv (.int .i64) (slices0.length : Int)), (11, .dv (.int .i64) t11_a)], []⟩
def l62b (a84c : Int → Option (List Int)) (N : Nat) (slices0 : List (List Int)) : Nat → Int → (List Int) → Option (List Int)
  | 0, _, _ => none
  | n + 1, t27_b, newslice6_b => cond (decide (t27_b < (slices0.length : Int))) (chk (decide (0 ≤ t27_b ∧ t27_b < (slices0.length : Int))) (chk (small (newslice6_b.length + (slices0.getD t27_b.toNat ([] : List Int)).length) 8) ((l62b a84c N slices0 n (w64 (t27_b + (1 : Int))) (newslice6_b ++ (slices0.getD t27_b.toNat ([] : List Int)))))))
      (some newslice6_b)
theorem wl62b (a84c : Int → Option (List Int)) (N : Nat) (slices0 : List (List Int)) (m : Nat) (t27_b : Int) (newslice6_b : List Int) : R62_1 a84c N (m + 1) (Sl62b slices0 t27_b newslice6_b) = cond (decide (t27_b < (slices0.length : Int))) (chk (decide (0 ≤ t27_b ∧ t27_b < (slices0.length : Int))) (chk (small (newslice6_b.length + (slices0.getD t27_b.toNat ([] : List Int)).length) 8) ((R62_1 a84c N m (Sl62b slices0 (w64 (t27_b + (1 : Int))) (newslice6_b ++ (slices0.getD t27_b.toNat ([] : List Int))))))))
      (some newslice6_b) := by kernel_rfl
theorem ql62b (a84c : Int → Option (List Int)) (N : Nat) (slices0 : List (List Int)) : ∀ (m : Nat) (t27_b : Int) (newslice6_b : List Int), R62_1 a84c N m (Sl62b slices0 t27_b newslice6_b) = l62b a84c N slices0 m t27_b newslice6_b
        | 0, _, _ => rfl
        | m + 1, t27_b, newslice6_b => by rw [wl62b]; simp only [l62b, ql62b a84c N slices0 m]
def l62a (a84c : Int → Option (List Int)) (N : Nat) (slices0 : List (List Int)) : Nat → Int → Int → Option (List Int)
  | 0, _, _ => none
  | n + 1, size3_a, t11_a => cond (decide (t11_a < (slices0.length : Int))) (chk (decide (0 ≤ t11_a ∧ t11_a < (slices0.length : Int))) (cond (decide ((w64 (size3_a + ((slices0.getD t11_a.toNat ([] : List Int)).length : Int))) < (0 : Int))) (none)
      ((l62a a84c N slices0 n (w64 (size3_a + ((slices0.getD t11_a.toNat ([] : List Int)).length : Int))) (w64 (t11_a + (1 : Int)))))))
      ((a84c size3_a).bind fun r1 =>
      (l62b a84c N slices0 N (0 : Int) r1))
theorem wl62a (a84c : Int → Option (List Int)) (N : Nat) (slices0 : List (List Int)) (m : Nat) (size3_a : Int) (t11_a : Int) : R62_0 a84c N (m + 1) (Sl62a slices0 size3_a t11_a) = cond (decide (t11_a < (slices0.length : Int))) (chk (decide (0 ≤ t11_a ∧ t11_a < (slices0.length : Int))) (cond (decide ((w64 (size3_a + ((slices0.getD t11_a.toNat ([] : List Int)).length : Int))) < (0 : Int))) (none)
      ((R62_0 a84c N m (Sl62a slices0 (w64 (size3_a + ((slices0.getD t11_a.toNat ([] : List Int)).length : Int))) (w64 (t11_a + (1 : Int))))))))
      ((a84c size3_a).bind fun r1 =>
      (R62_1 a84c N N (Sl62b slices0 (0 : Int) r1))) := by kernel_rfl
theorem ql62a (a84c : Int → Option (List Int)) (N : Nat) (slices0 : List (List Int)) : ∀ (m : Nat) (size3_a : Int) (t11_a : Int), R62_0 a84c N m (Sl62a slices0 size3_a t11_a) = l62a a84c N slices0 m size3_a t11_a
        | 0, _, _ => rfl
        | m + 1, size3_a, t11_a => by rw [wl62a]; simp only [l62a, ql62b, ql62a a84c N slices0 m]
def m62 (a84c : Int → Option (List Int)) (N : Nat) (slices0 : List (List Int)) : Option (List Int) :=
      (l62a a84c N slices0 N (0 : Int) (0 : Int))
theorem wm62 (a84c : Int → Option (List Int)) (N : Nat) (slices0 : List (List Int)) : callF (E62 a84c) lv62 N en62 c62 (resOf Try.f62) 35 [.dv (.sl (.sl (.int .i64))) slices0] [] dec62 = (R62_0 a84c N N (Sl62a slices0 (0 : Int) (0 : Int))) := by kernel_rfl
theorem k62 (a84c : Int → Option (List Int)) (N : Nat) (slices0 : List (List Int)) : callF (E62 a84c) lv62 N en62 c62 (resOf Try.f62) 35 [.dv (.sl (.sl (.int .i64))) slices0] [] dec62 = m62 a84c N slices0 := by rw [wm62]; simp only [m62, ql62a]
theorem ok62 (a84c : Int → Option (List Int)) (h84c : FnOk Try.prog 84 (F84c a84c)) (a : (List (List Int)) → Option (List Int)) (h : ∀ slices0 r, a slices0 = some r → (∃ N, m62 a84c N slices0 = some r)) : FnOk Try.prog 62 (F62 a) := by
  intro args Of x hx
  simp only [F62] at hx
  split at hx
  · rename_i slices0
    obtain ⟨N, hN⟩ := h _ _ hx
    refine lifted (L := [(84, F84c a84c)]) (rc := nrc) (fz := nfz) (fn := Try.f62) (by kernel_rfl) (by kernel_rfl) (by kernel_rfl) (by kernel_rfl) rfl ?_ ((k62 a84c N _).trans hN) ?_
    · intro p hp; simp only [List.mem_cons, List.not_mem_nil, or_false] at hp; rcases hp with rfl; exact h84c
    · intro l o hd
      simp only [dec62] at hd
      split at hd
      · obtain rfl := Option.some.inj hd; exact ⟨rfl, rfl⟩
      · cases hd
  · cases hx
def E21 (a55 : (Int × List (List Int) × Unit) → (List Int) → Int → Option (Int)) (a56 : (Int × List (List Int) × Unit) → (List Int) → Option (Int)) (a62 : (List (List Int)) → Option (List Int)) : Env := mkE TI TY [(55, F55 a55), (56, F56 a56), (62, F62 a62)] nrc nfz
noncomputable def c21 : Code := bodyOf Try.f21
def nm21_0 : Norm := ⟨[1, 2, 16, 17], [2], [(.slot 7, 1007, .int .i64)], []⟩
def lv21 : Nat → Option Norm := norms [(6, nm21_0)]
def en21 : End := ⟨[(41, .sl (.int .i64))], ⟨[41, 42], [], [], []⟩⟩
def dec21 (l : List TV) (o : List (Nat × TO)) : Option (List Int × Int) := match l, o with | [.dv (.sl (.int .i64)) x0, .dv (.int .i64) x1], [] => some (x0, x1) | _, _ => none
noncomputable def K21_0 (a55 : (Int × List (List Int) × Unit) → (List Int) → Int → Option (Int)) (a56 : (Int × List (List Int) × Unit) → (List Int) → Option (Int)) (a62 : (List (List Int)) → Option (List Int)) (N : Nat) : Kont (List Int × Int) := kont (E21 a55 a56 a62) lv21 N c21 [1, 1, 1, 0, 1, 0] (fin TI en21 (resOf Try.f21) dec21)
noncomputable def R21_0 (a55 : (Int × List (List Int) × Unit) → (List Int) → Int → Option (Int)) (a56 : (Int × List (List Int) × Unit) → (List Int) → Option (Int)) (a62 : (List (List Int)) → Option (List Int)) (N : Nat) (m : Nat) : TS → Option (List Int × Int) := loopK (den (E21 a55 a56 a62) lv21 N (sub c21 [1, 1, 1, 0, 1, 0, 0])) (TS.norm nm21_0) (K21_0 a55 a56 a62 N) m
def Sl21a (p0 : Int × List (List Int) × Unit) (sequence1 : List Int) (t17_a : Int) (out7_a : List Int) : TS := ⟨slots 41 [(1, .dv (.sl (.int .i64)) sequence1), (2, .ptr 2 0 []), (7, .row 1007), (16, .dv (.int .i64) (sequence1.length : Int)), (17, .dv (.int .i64) t17_a)], [(1007, .row (.int .i64) out7_a), (2, .row (.pair (.int .i64) (.pair (.sl (.sl (.int .i64))) (.unit))) ([p0] : List (Int × List (List Int) × Unit)))]⟩
def l21a (a55 : (Int × List (List Int) × Unit) → (List Int) → Int → Option (Int)) (a56 : (Int × List (List Int) × Unit) → (List Int) → Option (Int)) (a62 : (List (List Int)) → Option (List Int)) (N : Nat) (p0 : Int × List (List Int) × Unit) (sequence1 : List Int) : Nat → Int → (List Int) → Option (List Int × Int)
  | 0, _, _ => none
  | n + 1, t17_a, out7_a => cond (decide (t17_a < (sequence1.length : Int))) (chk (decide (0 ≤ t17_a ∧ t17_a ≤ (sequence1.length : Int))) (chk (decide (0 ≤ w64 (t17_a + (1 : Int)) ∧ w64 (t17_a + (1 : Int)) ≤ (sequence1.length : Int))) ((a62 ([sequence1.take t17_a.toNat, sequence1.drop ((w64 (t17_a + (1 : Int))).toNat)] : List (List Int))).bind fun r2 =>
      (a56 p0 r2).bind fun r3 =>
      (a56 p0 sequence1).bind fun r4 =>
      cond (r3 == r4) (chk (small (out7_a.length + 1) 8) ((l21a a55 a56 a62 N p0 sequence1 n (w64 (t17_a + (1 : Int))) (out7_a ++ ([t17_a] : List Int)))))
      ((l21a a55 a56 a62 N p0 sequence1 n (w64 (t17_a + (1 : Int))) out7_a)))))
      (some (out7_a, (0 : Int)))
theorem wl21a (a55 : (Int × List (List Int) × Unit) → (List Int) → Int → Option (Int)) (a56 : (Int × List (List Int) × Unit) → (List Int) → Option (Int)) (a62 : (List (List Int)) → Option (List Int)) (N : Nat) (p0 : Int × List (List Int) × Unit) (sequence1 : List Int) (m : Nat) (t17_a : Int) (out7_a : List Int) : R21_0 a55 a56 a62 N (m + 1) (Sl21a p0 sequence1 t17_a out7_a) = cond (decide (t17_a < (sequence1.length : Int))) (chk (decide (0 ≤ t17_a ∧ t17_a ≤ (sequence1.length : Int))) (chk (decide (0 ≤ w64 (t17_a + (1 : Int)) ∧ w64 (t17_a + (1 : Int)) ≤ (sequence1.length : Int))) ((a62 ([sequence1.take t17_a.toNat, sequence1.drop ((w64 (t17_a + (1 : Int))).toNat)] : List (List Int))).bind fun r2 =>
      (a56 p0 r2).bind fun r3 =>
      (a56 p0 sequence1).bind fun r4 =>
      cond (r3 == r4) (chk (small (out7_a.length + 1) 8) ((R21_0 a55 a56 a62 N m (Sl21a p0 sequence1 (w64 (t17_a + (1 : Int))) (out7_a ++ ([t17_a] : List Int))))))
      ((R21_0 a55 a56 a62 N m (Sl21a p0 sequence1 (w64 (t17_a + (1 : Int))) out7_a))))))
      (some (out7_a, (0 : Int))) := by kernel_rfl
theorem ql21a (a55 : (Int × List (List Int) × Unit) → (List Int) → Int → Option (Int)) (a56 : (Int × List (List Int) × Unit) → (List Int) → Option (Int)) (a62 : (List (List Int)) → Option (List Int)) (N : Nat) (p0 : Int × List (List Int) × Unit) (sequence1 : List Int) : ∀ (m : Nat) (t17_a : Int) (out7_a : List Int), R21_0 a55 a56 a62 N m (Sl21a p0 sequence1 t17_a out7_a) = l21a a55 a56 a62 N p0 sequence1 m t17_a out7_a
        | 0, _, _ => rfl
        | m + 1, t17_a, out7_a => by rw [wl21a]; simp only [l21a, ql21a a55 a56 a62 N p0 sequence1 m]
def m21 (a55 : (Int × List (List Int) × Unit) → (List Int) → Int → Option (Int)) (a56 : (Int × List (List Int) × Unit) → (List Int) → Option (Int)) (a62 : (List (List Int)) → Option (List Int)) (N : Nat) (p0 : Int × List (List Int) × Unit) (sequence1 : List Int) : Option (List Int × Int) :=
      (a55 p0 sequence1 (12 : Int)).bind fun r1 =>
      cond (r1 != (0 : Int)) (some (([] : List Int), r1))
      ((l21a a55 a56 a62 N p0 sequence1 N (0 : Int) ([] : List Int)))
theorem wm21 (a55 : (Int × List (List Int) × Unit) → (List Int) → Int → Option (Int)) (a56 : (Int × List (List Int) × Unit) → (List Int) → Option (Int)) (a62 : (List (List Int)) → Option (List Int)) (N : Nat) (p0 : Int × List (List Int) × Unit) (sequence1 : List Int) : callF (E21 a55 a56 a62) lv21 N en21 c21 (resOf Try.f21) 39 [.dv (.pair (.int .i64) (.pair (.sl (.sl (.int .i64))) (.unit))) p0, .dv (.sl (.int .i64)) sequence1] [] dec21 = (a55 p0 sequence1 (12 : Int)).bind fun r1 =>
      cond (r1 != (0 : Int)) (some (([] : List Int), r1))
      ((R21_0 a55 a56 a62 N N (Sl21a p0 sequence1 (0 : Int) ([] : List Int)))) := by kernel_rfl
theorem k21 (a55 : (Int × List (List Int) × Unit) → (List Int) → Int → Option (Int)) (a56 : (Int × List (List Int) × Unit) → (List Int) → Option (Int)) (a62 : (List (List Int)) → Option (List Int)) (N : Nat) (p0 : Int × List (List Int) × Unit) (sequence1 : List Int) : callF (E21 a55 a56 a62) lv21 N en21 c21 (resOf Try.f21) 39 [.dv (.pair (.int .i64) (.pair (.sl (.sl (.int .i64))) (.unit))) p0, .dv (.sl (.int .i64)) sequence1] [] dec21 = m21 a55 a56 a62 N p0 sequence1 := by rw [wm21]; simp only [m21, ql21a]
theorem ok21 (a55 : (Int × List (List Int) × Unit) → (List Int) → Int → Option (Int)) (a56 : (Int × List (List Int) × Unit) → (List Int) → Option (Int)) (a62 : (List (List Int)) → Option (List Int)) (h55 : FnOk Try.prog 55 (F55 a55)) (h56 : FnOk Try.prog 56 (F56 a56)) (h62 : FnOk Try.prog 62 (F62 a62)) (a : (Int × List (List Int) × Unit) → (List Int) → Option (List Int × Int)) (h : ∀ p0 sequence1 r, a p0 sequence1 = some r → (∃ N, m21 a55 a56 a62 N p0 sequence1 = some r)) : FnOk Try.prog 21 (F21 a) := by
  intro args Of x hx
  simp only [F21] at hx
  split at hx
  · rename_i p0 sequence1
    obtain ⟨N, hN⟩ := h _ _ _ hx
    refine lifted (L := [(55, F55 a55), (56, F56 a56), (62, F62 a62)]) (rc := nrc) (fz := nfz) (fn := Try.f21) (by kernel_rfl) (by kernel_rfl) (by kernel_rfl) (by kernel_rfl) rfl ?_ ((k21 a55 a56 a62 N _ _).trans hN) ?_
    · intro p hp; simp only [List.mem_cons, List.not_mem_nil, or_false] at hp; rcases hp with rfl | rfl | rfl
      · exact h55
      · exact h56
      · exact h62
    · intro l o hd
      simp only [dec21] at hd
      split at hd
      · obtain rfl := Option.some.inj hd; exact ⟨rfl, rfl⟩
      · cases hd
  · cases hx
def E23 : Env := mkE TI TY [] nrc nfz
noncomputable def c23 : Code := bodyOf Try.f23
def nm23_0 : Norm := ⟨[0, 1, 5], [], [], []⟩
def lv23 : Nat → Option Norm := norms [(4, nm23_0)]
def en23 : End := ⟨[], ⟨[26], [], [], []⟩⟩
def dec23 (l : List TV) (o : List (Nat × TO)) : Option (Bool) := match l, o with | [.dv (.bool) x0], [] => some (x0) | _, _ => none
noncomputable def K23_0 (N : Nat) : Kont (Bool) := kont (E23) lv23 N c23 [1, 1, 0, 1, 0] (fin TI en23 (resOf Try.f23) dec23)
noncomputable def R23_0 (N : Nat) (m : Nat) : TS → Option (Bool) := loopK (den (E23) lv23 N (sub c23 [1, 1, 0, 1, 0, 0])) (TS.norm nm23_0) (K23_0 N) m
def Sl23a (a0 : List Int) (b1 : List Int) (i5_a : Int) : TS := ⟨slots 26 [(0, .dv (.sl (.int .i64)) a0), (1, .dv (.sl (.int .i64)) b1), (5, .dv (.int .i64) i5_a)], []⟩
def l23a (N : Nat) (a0 : List Int) (b1 : List Int) : Nat → Int → Option (Bool)
  | 0, _ => none
  | n + 1, i5_a => cond (decide (i5_a < (a0.length : Int))) (chk (decide (0 ≤ i5_a ∧ i5_a < (a0.length : Int))) (chk (decide (0 ≤ i5_a ∧ i5_a < (b1.length : Int))) (cond ((a0.getD i5_a.toNat (0 : Int)) != (b1.getD i5_a.toNat (0 : Int))) (some false)
      ((l23a N a0 b1 n (w64 (i5_a + (1 : Int))))))))
      (some true)
theorem wl23a (N : Nat) (a0 : List Int) (b1 : List Int) (m : Nat) (i5_a : Int) : R23_0 N (m + 1) (Sl23a a0 b1 i5_a) = cond (decide (i5_a < (a0.length : Int))) (chk (decide (0 ≤ i5_a ∧ i5_a < (a0.length : Int))) (chk (decide (0 ≤ i5_a ∧ i5_a < (b1.length : Int))) (cond ((a0.getD i5_a.toNat (0 : Int)) != (b1.getD i5_a.toNat (0 : Int))) (some false)
      ((R23_0 N m (Sl23a a0 b1 (w64 (i5_a + (1 : Int)))))))))
      (some true) := by kernel_rfl
theorem ql23a (N : Nat) (a0 : List Int) (b1 : List Int) : ∀ (m : Nat) (i5_a : Int), R23_0 N m (Sl23a a0 b1 i5_a) = l23a N a0 b1 m i5_a
        | 0, _ => rfl
        | m + 1, i5_a => by rw [wl23a]; simp only [l23a, ql23a N a0 b1 m]
def m23 (N : Nat) (a0 : List Int) (b1 : List Int) : Option (Bool) :=
      cond ((a0.length : Int) != (b1.length : Int)) (some false)
      ((l23a N a0 b1 N (0 : Int)))
theorem wm23 (N : Nat) (a0 : List Int) (b1 : List Int) : callF (E23) lv23 N en23 c23 (resOf Try.f23) 24 [.dv (.sl (.int .i64)) a0, .dv (.sl (.int .i64)) b1] [] dec23 = cond ((a0.length : Int) != (b1.length : Int)) (some false)
      ((R23_0 N N (Sl23a a0 b1 (0 : Int)))) := by kernel_rfl
theorem k23 (N : Nat) (a0 : List Int) (b1 : List Int) : callF (E23) lv23 N en23 c23 (resOf Try.f23) 24 [.dv (.sl (.int .i64)) a0, .dv (.sl (.int .i64)) b1] [] dec23 = m23 N a0 b1 := by rw [wm23]; simp only [m23, ql23a]
theorem ok23 (a : (List Int) → (List Int) → Option (Bool)) (h : ∀ a0 b1 r, a a0 b1 = some r → (∃ N, m23 N a0 b1 = some r)) : FnOk Try.prog 23 (F23 a) := by
  intro args Of x hx
  simp only [F23] at hx
  split at hx
  · rename_i a0 b1
    obtain ⟨N, hN⟩ := h _ _ _ hx
    refine lifted (L := []) (rc := nrc) (fz := nfz) (fn := Try.f23) (by kernel_rfl) (by kernel_rfl) (by kernel_rfl) (by kernel_rfl) rfl ?_ ((k23 N _ _).trans hN) ?_
    · intro p hp; cases hp
    · intro l o hd
      simp only [dec23] at hd
      split at hd
      · obtain rfl := Option.some.inj hd; exact ⟨rfl, rfl⟩
      · cases hd
  · cases hx
def E67 : Env := mkE TI TY [] nrc nfz
noncomputable def c67 : Code := bodyOf Try.f67
def lv67 : Nat → Option Norm := norms []
def en67 : End := ⟨[(9, .csl (.bool))], ⟨[9], [], [], []⟩⟩
def dec67 (l : List TV) (o : List (Nat × TO)) : Option (List Bool) := match l, o with | [.dv (.csl (.bool)) x0], [] => some (x0) | _, _ => none
def m67 (N : Nat) (s0 : List Bool) : Option (List Bool) :=
      chk (decide (0 ≤ (s0.length : Int) ∧ (s0.length : Int) ≤ (s0.length : Int)) && decide ((s0.length : Int) = (s0.length : Int))) (some (s0.take ((s0.length : Int).toNat)))
theorem k67 (N : Nat) (s0 : List Bool) : callF (E67) lv67 N en67 c67 (resOf Try.f67) 8 [.dv (.sl (.bool)) s0] [] dec67 = m67 N s0 := by kernel_rfl
theorem ok67 (a : (List Bool) → Option (List Bool)) (h : ∀ s0 r, a s0 = some r → (∃ N, m67 N s0 = some r)) : FnOk Try.prog 67 (F67 a) := by
  intro args Of x hx
  simp only [F67] at hx
  split at hx
  · rename_i s0
    obtain ⟨N, hN⟩ := h _ _ hx
    refine lifted (L := []) (rc := nrc) (fz := nfz) (fn := Try.f67) (by kernel_rfl) (by kernel_rfl) (by kernel_rfl) (by kernel_rfl) rfl ?_ ((k67 N _).trans hN) ?_
    · intro p hp; cases hp
    · intro l o hd
      simp only [dec67] at hd
      split at hd
      · obtain rfl := Option.some.inj hd; exact ⟨rfl, rfl⟩
      · cases hd
  · cases hx
def E26 (a127 : (List Int) → Int → Option (Int)) (a55 : (Int × List (List Int) × Unit) → (List Int) → Int → Option (Int)) (a61 : (Int × List (List Int) × Unit) → Int → Option (Int ⊕ ((List Int) ⊕ Unit))) (a63 : Int → Int → Int → Option (Bool)) (a67 : (List Bool) → Option (List Bool)) (a87 : Int → Int → Option (Int)) : Env := mkE TI TY [(127, F127 a127), (55, F55 a55), (61, F61 a61), (63, F63 a63), (67, F67 a67), (87, F87 a87)] nrc (fun i => ([37, 105] : List Nat).contains i)
noncomputable def c26 : Code := bodyOf Try.f26
def nm26_0 : Norm := ⟨[2, 3, 9, 39, 40, 41], [3], [], [(9, .sl (.fp (.pair (.sl (.bool)) (.pair (.int .i64) (.unit)))))]⟩
def nm26_1 : Norm := ⟨[2, 3, 11, 12, 39, 40, 41, 48, 49, 50], [3, 47], [], []⟩
def nm26_2 : Norm := ⟨[2, 3, 11, 12, 14, 39, 40, 41, 48, 49, 50, 63, 64], [3, 47], [], []⟩
def lv26 : Nat → Option Norm := norms [(9, nm26_0), (13, nm26_1), (17, nm26_2)]
def en26 : End := ⟨[(123, .sl (.bool))], ⟨[123, 124], [], [], []⟩⟩
def dec26 (l : List TV) (o : List (Nat × TO)) : Option (List Bool × Int) := match l, o with | [.dv (.sl (.bool)) x0, .dv (.int .i64) x1], [] => some (x0, x1) | _, _ => none
noncomputable def K26_0 (a127 : (List Int) → Int → Option (Int)) (a55 : (Int × List (List Int) × Unit) → (List Int) → Int → Option (Int)) (a61 : (Int × List (List Int) × Unit) → Int → Option (Int ⊕ ((List Int) ⊕ Unit))) (a63 : Int → Int → Int → Option (Bool)) (a67 : (List Bool) → Option (List Bool)) (a87 : Int → Int → Option (Int)) (N : Nat) : Kont (List Bool × Int) := kont (E26 a127 a55 a61 a63 a67 a87) lv26 N c26 [1, 1, 1, 1, 1, 0, 1, 0] (fin TI en26 (resOf Try.f26) dec26)
noncomputable def R26_0 (a127 : (List Int) → Int → Option (Int)) (a55 : (Int × List (List Int) × Unit) → (List Int) → Int → Option (Int)) (a61 : (Int × List (List Int) × Unit) → Int → Option (Int ⊕ ((List Int) ⊕ Unit))) (a63 : Int → Int → Int → Option (Bool)) (a67 : (List Bool) → Option (List Bool)) (a87 : Int → Int → Option (Int)) (N : Nat) (m : Nat) : TS → Option (List Bool × Int) := loopK (den (E26 a127 a55 a61 a63 a67 a87) lv26 N (sub c26 [1, 1, 1, 1, 1, 0, 1, 0, 0])) (TS.norm nm26_0) (K26_0 a127 a55 a61 a63 a67 a87 N) m
noncomputable def K26_1 (a127 : (List Int) → Int → Option (Int)) (a55 : (Int × List (List Int) × Unit) → (List Int) → Int → Option (Int)) (a61 : (Int × List (List Int) × Unit) → Int → Option (Int ⊕ ((List Int) ⊕ Unit))) (a63 : Int → Int → Int → Option (Bool)) (a67 : (List Bool) → Option (List Bool)) (a87 : Int → Int → Option (Int)) (N : Nat) (T26_0 : TS → Option (List Bool × Int)) : Kont (List Bool × Int) := kont (E26 a127 a55 a61 a63 a67 a87) lv26 N (sub c26 [1, 1, 1, 1, 1, 0, 1, 0, 0]) [1, 1, 0, 0, 1, 1, 0, 1, 0] (kloop (TS.norm nm26_0) (K26_0 a127 a55 a61 a63 a67 a87 N) T26_0)
noncomputable def R26_1 (a127 : (List Int) → Int → Option (Int)) (a55 : (Int × List (List Int) × Unit) → (List Int) → Int → Option (Int)) (a61 : (Int × List (List Int) × Unit) → Int → Option (Int ⊕ ((List Int) ⊕ Unit))) (a63 : Int → Int → Int → Option (Bool)) (a67 : (List Bool) → Option (List Bool)) (a87 : Int → Int → Option (Int)) (N : Nat) (T26_0 : TS → Option (List Bool × Int)) (m : Nat) : TS → Option (List Bool × Int) := loopK (den (E26 a127 a55 a61 a63 a67 a87) lv26 N (sub c26 [1, 1, 1, 1, 1, 0, 1, 0, 0, 1, 1, 0, 0, 1, 1, 0, 1, 0, 0])) (TS.norm nm26_1) (K26_1 a127 a55 a61 a63 a67 a87 N T26_0) m
noncomputable def K26_2 (a127 : (List Int) → Int → Option (Int)) (a55 : (Int × List (List Int) × Unit) → (List Int) → Int → Option (Int)) (a61 : (Int × List (List Int) × Unit) → Int → Option (Int ⊕ ((List Int) ⊕ Unit))) (a63 : Int → Int → Int → Option (Bool)) (a67 : (List Bool) → Option (List Bool)) (a87 : Int → Int → Option (Int)) (N : Nat) (T26_0 : TS → Option (List Bool × Int)) (T26_1 : TS → Option (List Bool × Int)) : Kont (List Bool × Int) := kont (E26 a127 a55 a61 a63 a67 a87) lv26 N (sub c26 [1, 1, 1, 1, 1, 0, 1, 0, 0, 1, 1, 0, 0, 1, 1, 0, 1, 0, 0]) [1, 1, 0, 0, 1, 1, 1, 0] (kloop (TS.norm nm26_1) (K26_1 a127 a55 a61 a63 a67 a87 N T26_0) T26_1)
noncomputable def R26_2 (a127 : (List Int) → Int → Option (Int)) (a55 : (Int × List (List Int) × Unit) → (List Int) → Int → Option (Int)) (a61 : (Int × List (List Int) × Unit) → Int → Option (Int ⊕ ((List Int) ⊕ Unit))) (a63 : Int → Int → Int → Option (Bool)) (a67 : (List Bool) → Option (List Bool)) (a87 : Int → Int → Option (Int)) (N : Nat) (T26_0 : TS → Option (List Bool × Int)) (T26_1 : TS → Option (List Bool × Int)) (m : Nat) : TS → Option (List Bool × Int) := loopK (den (E26 a127 a55 a61 a63 a67 a87) lv26 N (sub c26 [1, 1, 1, 1, 1, 0, 1, 0, 0, 1, 1, 0, 0, 1, 1, 0, 1, 0, 0, 1, 1, 0, 0, 1, 1, 1, 0, 0])) (TS.norm nm26_2) (K26_2 a127 a55 a61 a63 a67 a87 N T26_0 T26_1) m
def Sl26c (p0 : Int × List (List Int) × Unit) (sequence1 : List Int) (colour2 : Int) (ways9_a : List (Option (List Bool × Int × Unit))) (t41_a : Int) (t50_b : Int) (t63_c : List Int) (t64_c : Int) (o47_c : List (Option (List Bool × Int × Unit))) : TS := ⟨slots 123 [(2, .dv (.int .i64) colour2), (3, .ptr 3 0 []), (11, .dv (.int .i64) (sequence1.getD t41_a.toNat (0 : Int))), (12, .row 47), (14, .dv (.fp (.pair (.sl (.bool)) (.pair (.int .i64) (.unit)))) (ways9_a.getD t50_b.toNat (none : Option (List Bool × Int × Unit)))), (39, .dv (.sl (.int .i64)) sequence1), (40, .dv (.int .i64) (sequence1.length : Int)), (41, .dv (.int .i64) t41_a), (48, .dv (.sl (.fp (.pair (.sl (.bool)) (.pair (.int .i64) (.unit))))) ways9_a), (49, .dv (.int .i64) (ways9_a.length : Int)), (50, .dv (.int .i64) t50_b), (63, .dv (.arr 2 (.int .i64)) t63_c), (64, .dv (.int .i64) t64_c)], [(3, .row (.pair (.int .i64) (.pair (.sl (.sl (.int .i64))) (.unit))) ([p0] : List (Int × List (List Int) × Unit))), (47, .row (.fp (.pair (.sl (.bool)) (.pair (.int .i64) (.unit)))) o47_c)]⟩
def Sl26b (p0 : Int × List (List Int) × Unit) (sequence1 : List Int) (colour2 : Int) (ways9_a : List (Option (List Bool × Int × Unit))) (t41_a : Int) (t50_b : Int) (o47_b : List (Option (List Bool × Int × Unit))) : TS := ⟨slots 123 [(2, .dv (.int .i64) colour2), (3, .ptr 3 0 []), (11, .dv (.int .i64) (sequence1.getD t41_a.toNat (0 : Int))), (12, .row 47), (39, .dv (.sl (.int .i64)) sequence1), (40, .dv (.int .i64) (sequence1.length : Int)), (41, .dv (.int .i64) t41_a), (48, .dv (.sl (.fp (.pair (.sl (.bool)) (.pair (.int .i64) (.unit))))) ways9_a), (49, .dv (.int .i64) (ways9_a.length : Int)), (50, .dv (.int .i64) t50_b)], [(3, .row (.pair (.int .i64) (.pair (.sl (.sl (.int .i64))) (.unit))) ([p0] : List (Int × List (List Int) × Unit))), (47, .row (.fp (.pair (.sl (.bool)) (.pair (.int .i64) (.unit)))) o47_b)]⟩
def Sl26a (p0 : Int × List (List Int) × Unit) (sequence1 : List Int) (colour2 : Int) (ways9_a : List (Option (List Bool × Int × Unit))) (t41_a : Int) : TS := ⟨slots 123 [(2, .dv (.int .i64) colour2), (3, .ptr 3 0 []), (9, .dv (.sl (.fp (.pair (.sl (.bool)) (.pair (.int .i64) (.unit))))) ways9_a), (39, .dv (.sl (.int .i64)) sequence1), (40, .dv (.int .i64) (sequence1.length : Int)), (41, .dv (.int .i64) t41_a)], [(3, .row (.pair (.int .i64) (.pair (.sl (.sl (.int .i64))) (.unit))) ([p0] : List (Int × List (List Int) × Unit)))]⟩
def l26c (a127 : (List Int) → Int → Option (Int)) (a55 : (Int × List (List Int) × Unit) → (List Int) → Int → Option (Int)) (a61 : (Int × List (List Int) × Unit) → Int → Option (Int ⊕ ((List Int) ⊕ Unit))) (a63 : Int → Int → Int → Option (Bool)) (a67 : (List Bool) → Option (List Bool)) (a87 : Int → Int → Option (Int)) (N : Nat) (p0 : Int × List (List Int) × Unit) (sequence1 : List Int) (colour2 : Int) (ways9_a : List (Option (List Bool × Int × Unit))) (t41_a : Int) (t50_b : Int) (rec_l26b : Int → (List (Option (List Bool × Int × Unit))) → Option (List Bool × Int)) : Nat → (List Int) → Int → (List (Option (List Bool × Int × Unit))) → Option (List Bool × Int)
  | 0, _, _, _ => none
  | n + 1, t63_c, t64_c, o47_c => cond (decide (t64_c < (2 : Int))) (chk (decide (0 ≤ t64_c ∧ t64_c < (2 : Int))) (chk (decide (0 ≤ t63_c.getD t64_c.toNat (0 : Int) ∧ t63_c.getD t64_c.toNat (0 : Int) < (o47_c.length : Int))) (cond ((o47_c.getD ((t63_c.getD t64_c.toNat (0 : Int)).toNat) (none : Option (List Bool × Int × Unit))).isNone) (chk ((ways9_a.getD t50_b.toNat (none : Option (List Bool × Int × Unit))).isSome) (chk ((ways9_a.getD t50_b.toNat (none : Option (List Bool × Int × Unit))).isSome) ((a67 (((ways9_a.getD t50_b.toNat (none : Option (List Bool × Int × Unit))).getD (([] : List Bool), ((0 : Int), ()))).1)).bind fun r7 =>
      chk (small (r7.length + 1) 1) (chk ((ways9_a.getD t50_b.toNat (none : Option (List Bool × Int × Unit))).isSome) (chk ((ways9_a.getD t50_b.toNat (none : Option (List Bool × Int × Unit))).isSome) (chk (decide (0 ≤ t63_c.getD t64_c.toNat (0 : Int) ∧ t63_c.getD t64_c.toNat (0 : Int) < (o47_c.length : Int))) ((l26c a127 a55 a61 a63 a67 a87 N p0 sequence1 colour2 ways9_a t41_a t50_b rec_l26b n t63_c (w64 (t64_c + (1 : Int))) (o47_c.set ((t63_c.getD t64_c.toNat (0 : Int)).toNat) (some (r7 ++ ([t64_c == (1 : Int)] : List Bool), (w64 (((((ways9_a.getD t50_b.toNat (none : Option (List Bool × Int × Unit))).getD (([] : List Bool), ((0 : Int), ()))).2).1) + t64_c), ()))))))))))))
      (chk ((ways9_a.getD t50_b.toNat (none : Option (List Bool × Int × Unit))).isSome) (chk ((ways9_a.getD t50_b.toNat (none : Option (List Bool × Int × Unit))).isSome) (chk ((o47_c.getD ((t63_c.getD t64_c.toNat (0 : Int)).toNat) (none : Option (List Bool × Int × Unit))).isSome) (chk ((o47_c.getD ((t63_c.getD t64_c.toNat (0 : Int)).toNat) (none : Option (List Bool × Int × Unit))).isSome) (cond (decide ((w64 (((((ways9_a.getD t50_b.toNat (none : Option (List Bool × Int × Unit))).getD (([] : List Bool), ((0 : Int), ()))).2).1) + t64_c)) < ((((o47_c.getD ((t63_c.getD t64_c.toNat (0 : Int)).toNat) (none : Option (List Bool × Int × Unit))).getD (([] : List Bool), ((0 : Int), ()))).2).1))) (chk ((ways9_a.getD t50_b.toNat (none : Option (List Bool × Int × Unit))).isSome) (chk ((ways9_a.getD t50_b.toNat (none : Option (List Bool × Int × Unit))).isSome) ((a67 (((ways9_a.getD t50_b.toNat (none : Option (List Bool × Int × Unit))).getD (([] : List Bool), ((0 : Int), ()))).1)).bind fun r8 =>
      chk (small (r8.length + 1) 1) (chk ((ways9_a.getD t50_b.toNat (none : Option (List Bool × Int × Unit))).isSome) (chk ((ways9_a.getD t50_b.toNat (none : Option (List Bool × Int × Unit))).isSome) (chk (decide (0 ≤ t63_c.getD t64_c.toNat (0 : Int) ∧ t63_c.getD t64_c.toNat (0 : Int) < (o47_c.length : Int))) ((l26c a127 a55 a61 a63 a67 a87 N p0 sequence1 colour2 ways9_a t41_a t50_b rec_l26b n t63_c (w64 (t64_c + (1 : Int))) (o47_c.set ((t63_c.getD t64_c.toNat (0 : Int)).toNat) (some (r8 ++ ([t64_c == (1 : Int)] : List Bool), (w64 (((((ways9_a.getD t50_b.toNat (none : Option (List Bool × Int × Unit))).getD (([] : List Bool), ((0 : Int), ()))).2).1) + t64_c), ()))))))))))))
      ((l26c a127 a55 a61 a63 a67 a87 N p0 sequence1 colour2 ways9_a t41_a t50_b rec_l26b n t63_c (w64 (t64_c + (1 : Int))) o47_c))))))))))
      ((rec_l26b (w64 (t50_b + (1 : Int))) o47_c))
theorem wl26c (a127 : (List Int) → Int → Option (Int)) (a55 : (Int × List (List Int) × Unit) → (List Int) → Int → Option (Int)) (a61 : (Int × List (List Int) × Unit) → Int → Option (Int ⊕ ((List Int) ⊕ Unit))) (a63 : Int → Int → Int → Option (Bool)) (a67 : (List Bool) → Option (List Bool)) (a87 : Int → Int → Option (Int)) (N : Nat) (p0 : Int × List (List Int) × Unit) (sequence1 : List Int) (colour2 : Int) (ways9_a : List (Option (List Bool × Int × Unit))) (t41_a : Int) (t50_b : Int) (T26_0 : TS → Option (List Bool × Int)) (T26_1 : TS → Option (List Bool × Int)) (m : Nat) (t63_c : List Int) (t64_c : Int) (o47_c : List (Option (List Bool × Int × Unit))) : R26_2 a127 a55 a61 a63 a67 a87 N T26_0 T26_1 (m + 1) (Sl26c p0 sequence1 colour2 ways9_a t41_a t50_b t63_c t64_c o47_c) = cond (decide (t64_c < (2 : Int))) (chk (decide (0 ≤ t64_c ∧ t64_c < (2 : Int))) (chk (decide (0 ≤ t63_c.getD t64_c.toNat (0 : Int) ∧ t63_c.getD t64_c.toNat (0 : Int) < (o47_c.length : Int))) (cond ((o47_c.getD ((t63_c.getD t64_c.toNat (0 : Int)).toNat) (none : Option (List Bool × Int × Unit))).isNone) (chk ((ways9_a.getD t50_b.toNat (none : Option (List Bool × Int × Unit))).isSome) (chk ((ways9_a.getD t50_b.toNat (none : Option (List Bool × Int × Unit))).isSome) ((a67 (((ways9_a.getD t50_b.toNat (none : Option (List Bool × Int × Unit))).getD (([] : List Bool), ((0 : Int), ()))).1)).bind fun r7 =>
      chk (small (r7.length + 1) 1) (chk ((ways9_a.getD t50_b.toNat (none : Option (List Bool × Int × Unit))).isSome) (chk ((ways9_a.getD t50_b.toNat (none : Option (List Bool × Int × Unit))).isSome) (chk (decide (0 ≤ t63_c.getD t64_c.toNat (0 : Int) ∧ t63_c.getD t64_c.toNat (0 : Int) < (o47_c.length : Int))) ((R26_2 a127 a55 a61 a63 a67 a87 N T26_0 T26_1 m (Sl26c p0 sequence1 colour2 ways9_a t41_a t50_b t63_c (w64 (t64_c + (1 : Int))) (o47_c.set ((t63_c.getD t64_c.toNat (0 : Int)).toNat) (some (r7 ++ ([t64_c == (1 : Int)] : List Bool), (w64 (((((ways9_a.getD t50_b.toNat (none : Option (List Bool × Int × Unit))).getD (([] : List Bool), ((0 : Int), ()))).2).1) + t64_c), ())))))))))))))
      (chk ((ways9_a.getD t50_b.toNat (none : Option (List Bool × Int × Unit))).isSome) (chk ((ways9_a.getD t50_b.toNat (none : Option (List Bool × Int × Unit))).isSome) (chk ((o47_c.getD ((t63_c.getD t64_c.toNat (0 : Int)).toNat) (none : Option (List Bool × Int × Unit))).isSome) (chk ((o47_c.getD ((t63_c.getD t64_c.toNat (0 : Int)).toNat) (none : Option (List Bool × Int × Unit))).isSome) (cond (decide ((w64 (((((ways9_a.getD t50_b.toNat (none : Option (List Bool × Int × Unit))).getD (([] : List Bool), ((0 : Int), ()))).2).1) + t64_c)) < ((((o47_c.getD ((t63_c.getD t64_c.toNat (0 : Int)).toNat) (none : Option (List Bool × Int × Unit))).getD (([] : List Bool), ((0 : Int), ()))).2).1))) (chk ((ways9_a.getD t50_b.toNat (none : Option (List Bool × Int × Unit))).isSome) (chk ((ways9_a.getD t50_b.toNat (none : Option (List Bool × Int × Unit))).isSome) ((a67 (((ways9_a.getD t50_b.toNat (none : Option (List Bool × Int × Unit))).getD (([] : List Bool), ((0 : Int), ()))).1)).bind fun r8 =>
      chk (small (r8.length + 1) 1) (chk ((ways9_a.getD t50_b.toNat (none : Option (List Bool × Int × Unit))).isSome) (chk ((ways9_a.getD t50_b.toNat (none : Option (List Bool × Int × Unit))).isSome) (chk (decide (0 ≤ t63_c.getD t64_c.toNat (0 : Int) ∧ t63_c.getD t64_c.toNat (0 : Int) < (o47_c.length : Int))) ((R26_2 a127 a55 a61 a63 a67 a87 N T26_0 T26_1 m (Sl26c p0 sequence1 colour2 ways9_a t41_a t50_b t63_c (w64 (t64_c + (1 : Int))) (o47_c.set ((t63_c.getD t64_c.toNat (0 : Int)).toNat) (some (r8 ++ ([t64_c == (1 : Int)] : List Bool), (w64 (((((ways9_a.getD t50_b.toNat (none : Option (List Bool × Int × Unit))).getD (([] : List Bool), ((0 : Int), ()))).2).1) + t64_c), ())))))))))))))
      ((R26_2 a127 a55 a61 a63 a67 a87 N T26_0 T26_1 m (Sl26c p0 sequence1 colour2 ways9_a t41_a t50_b t63_c (w64 (t64_c + (1 : Int))) o47_c)))))))))))
      ((T26_1 (Sl26b p0 sequence1 colour2 ways9_a t41_a (w64 (t50_b + (1 : Int))) o47_c))) := by kernel_rfl
theorem ql26c (a127 : (List Int) → Int → Option (Int)) (a55 : (Int × List (List Int) × Unit) → (List Int) → Int → Option (Int)) (a61 : (Int × List (List Int) × Unit) → Int → Option (Int ⊕ ((List Int) ⊕ Unit))) (a63 : Int → Int → Int → Option (Bool)) (a67 : (List Bool) → Option (List Bool)) (a87 : Int → Int → Option (Int)) (N : Nat) (p0 : Int × List (List Int) × Unit) (sequence1 : List Int) (colour2 : Int) (ways9_a : List (Option (List Bool × Int × Unit))) (t41_a : Int) (t50_b : Int) (T26_0 : TS → Option (List Bool × Int)) (T26_1 : TS → Option (List Bool × Int)) : ∀ (m : Nat) (t63_c : List Int) (t64_c : Int) (o47_c : List (Option (List Bool × Int × Unit))), R26_2 a127 a55 a61 a63 a67 a87 N T26_0 T26_1 m (Sl26c p0 sequence1 colour2 ways9_a t41_a t50_b t63_c t64_c o47_c) = l26c a127 a55 a61 a63 a67 a87 N p0 sequence1 colour2 ways9_a t41_a t50_b (fun y0 y1 => T26_1 (Sl26b p0 sequence1 colour2 ways9_a t41_a y0 y1)) m t63_c t64_c o47_c
        | 0, _, _, _ => rfl
        | m + 1, t63_c, t64_c, o47_c => by rw [wl26c]; simp only [l26c, ql26c a127 a55 a61 a63 a67 a87 N p0 sequence1 colour2 ways9_a t41_a t50_b T26_0 T26_1 m]
def l26b (a127 : (List Int) → Int → Option (Int)) (a55 : (Int × List (List Int) × Unit) → (List Int) → Int → Option (Int)) (a61 : (Int × List (List Int) × Unit) → Int → Option (Int ⊕ ((List Int) ⊕ Unit))) (a63 : Int → Int → Int → Option (Bool)) (a67 : (List Bool) → Option (List Bool)) (a87 : Int → Int → Option (Int)) (N : Nat) (p0 : Int × List (List Int) × Unit) (sequence1 : List Int) (colour2 : Int) (ways9_a : List (Option (List Bool × Int × Unit))) (t41_a : Int) (rec_l26a : (List (Option (List Bool × Int × Unit))) → Int → Option (List Bool × Int)) : Nat → Int → (List (Option (List Bool × Int × Unit))) → Option (List Bool × Int)
  | 0, _, _ => none
  | n + 1, t50_b, o47_b => cond (decide (t50_b < (ways9_a.length : Int))) (chk (decide (0 ≤ t50_b ∧ t50_b < (ways9_a.length : Int))) (cond ((ways9_a.getD t50_b.toNat (none : Option (List Bool × Int × Unit))).isNone) ((l26b a127 a55 a61 a63 a67 a87 N p0 sequence1 colour2 ways9_a t41_a rec_l26a n (w64 (t50_b + (1 : Int))) o47_b))
      ((a61 p0 (sequence1.getD t41_a.toNat (0 : Int))).bind fun r3 =>
      ifElim r3 (fun h4 =>
      (a87 h4 t50_b).bind fun r6 =>
      (l26c a127 a55 a61 a63 a67 a87 N p0 sequence1 colour2 ways9_a t41_a t50_b (fun y0 y1 => (l26b a127 a55 a61 a63 a67 a87 N p0 sequence1 colour2 ways9_a t41_a rec_l26a n y0 y1)) N ([t50_b, r6] : List Int) (0 : Int) o47_b)) (fun g5 =>
      ifElim g5 (fun h9 =>
      (a127 h9 t50_b).bind fun r11 =>
      (l26c a127 a55 a61 a63 a67 a87 N p0 sequence1 colour2 ways9_a t41_a t50_b (fun y0 y1 => (l26b a127 a55 a61 a63 a67 a87 N p0 sequence1 colour2 ways9_a t41_a rec_l26a n y0 y1)) N ([t50_b, r11] : List Int) (0 : Int) o47_b)) (fun g10 =>
      none)))))
      ((rec_l26a o47_b (w64 (t41_a + (1 : Int)))))
theorem wl26b (a127 : (List Int) → Int → Option (Int)) (a55 : (Int × List (List Int) × Unit) → (List Int) → Int → Option (Int)) (a61 : (Int × List (List Int) × Unit) → Int → Option (Int ⊕ ((List Int) ⊕ Unit))) (a63 : Int → Int → Int → Option (Bool)) (a67 : (List Bool) → Option (List Bool)) (a87 : Int → Int → Option (Int)) (N : Nat) (p0 : Int × List (List Int) × Unit) (sequence1 : List Int) (colour2 : Int) (ways9_a : List (Option (List Bool × Int × Unit))) (t41_a : Int) (T26_0 : TS → Option (List Bool × Int)) (m : Nat) (t50_b : Int) (o47_b : List (Option (List Bool × Int × Unit))) : R26_1 a127 a55 a61 a63 a67 a87 N T26_0 (m + 1) (Sl26b p0 sequence1 colour2 ways9_a t41_a t50_b o47_b) = cond (decide (t50_b < (ways9_a.length : Int))) (chk (decide (0 ≤ t50_b ∧ t50_b < (ways9_a.length : Int))) (cond ((ways9_a.getD t50_b.toNat (none : Option (List Bool × Int × Unit))).isNone) ((R26_1 a127 a55 a61 a63 a67 a87 N T26_0 m (Sl26b p0 sequence1 colour2 ways9_a t41_a (w64 (t50_b + (1 : Int))) o47_b)))
      ((a61 p0 (sequence1.getD t41_a.toNat (0 : Int))).bind fun r3 =>
      ifElim r3 (fun h4 =>
      (a87 h4 t50_b).bind fun r6 =>
      (R26_2 a127 a55 a61 a63 a67 a87 N T26_0 (R26_1 a127 a55 a61 a63 a67 a87 N T26_0 m) N (Sl26c p0 sequence1 colour2 ways9_a t41_a t50_b ([t50_b, r6] : List Int) (0 : Int) o47_b))) (fun g5 =>
      ifElim g5 (fun h9 =>
      (a127 h9 t50_b).bind fun r11 =>
      (R26_2 a127 a55 a61 a63 a67 a87 N T26_0 (R26_1 a127 a55 a61 a63 a67 a87 N T26_0 m) N (Sl26c p0 sequence1 colour2 ways9_a t41_a t50_b ([t50_b, r11] : List Int) (0 : Int) o47_b))) (fun g10 =>
      none)))))
      ((T26_0 (Sl26a p0 sequence1 colour2 o47_b (w64 (t41_a + (1 : Int)))))) := by kernel_rfl
theorem ql26b (a127 : (List Int) → Int → Option (Int)) (a55 : (Int × List (List Int) × Unit) → (List Int) → Int → Option (Int)) (a61 : (Int × List (List Int) × Unit) → Int → Option (Int ⊕ ((List Int) ⊕ Unit))) (a63 : Int → Int → Int → Option (Bool)) (a67 : (List Bool) → Option (List Bool)) (a87 : Int → Int → Option (Int)) (N : Nat) (p0 : Int × List (List Int) × Unit) (sequence1 : List Int) (colour2 : Int) (ways9_a : List (Option (List Bool × Int × Unit))) (t41_a : Int) (T26_0 : TS → Option (List Bool × Int)) : ∀ (m : Nat) (t50_b : Int) (o47_b : List (Option (List Bool × Int × Unit))), R26_1 a127 a55 a61 a63 a67 a87 N T26_0 m (Sl26b p0 sequence1 colour2 ways9_a t41_a t50_b o47_b) = l26b a127 a55 a61 a63 a67 a87 N p0 sequence1 colour2 ways9_a t41_a (fun y0 y1 => T26_0 (Sl26a p0 sequence1 colour2 y0 y1)) m t50_b o47_b
        | 0, _, _ => rfl
        | m + 1, t50_b, o47_b => by rw [wl26b]; simp only [l26b, ql26c, ql26b a127 a55 a61 a63 a67 a87 N p0 sequence1 colour2 ways9_a t41_a T26_0 m]
def l26a (a127 : (List Int) → Int → Option (Int)) (a55 : (Int × List (List Int) × Unit) → (List Int) → Int → Option (Int)) (a61 : (Int × List (List Int) × Unit) → Int → Option (Int ⊕ ((List Int) ⊕ Unit))) (a63 : Int → Int → Int → Option (Bool)) (a67 : (List Bool) → Option (List Bool)) (a87 : Int → Int → Option (Int)) (N : Nat) (p0 : Int × List (List Int) × Unit) (sequence1 : List Int) (colour2 : Int) : Nat → (List (Option (List Bool × Int × Unit))) → Int → Option (List Bool × Int)
  | 0, _, _ => none
  | n + 1, ways9_a, t41_a => cond (decide (t41_a < (sequence1.length : Int))) (chk (decide (0 ≤ t41_a ∧ t41_a < (sequence1.length : Int))) (chk (mkOk p0.1 p0.1 8) ((l26b a127 a55 a61 a63 a67 a87 N p0 sequence1 colour2 ways9_a t41_a (fun y0 y1 => (l26a a127 a55 a61 a63 a67 a87 N p0 sequence1 colour2 n y0 y1)) N (0 : Int) (List.replicate p0.1.toNat (none : Option (List Bool × Int × Unit)))))))
      (chk (decide (0 ≤ colour2 ∧ colour2 < (ways9_a.length : Int))) (cond ((ways9_a.getD colour2.toNat (none : Option (List Bool × Int × Unit))).isNone) (some (([] : List Bool), (14 : Int)))
      (chk (decide (0 ≤ colour2 ∧ colour2 < (ways9_a.length : Int))) (chk ((ways9_a.getD colour2.toNat (none : Option (List Bool × Int × Unit))).isSome) (chk ((ways9_a.getD colour2.toNat (none : Option (List Bool × Int × Unit))).isSome) (some (((ways9_a.getD colour2.toNat (none : Option (List Bool × Int × Unit))).getD (([] : List Bool), ((0 : Int), ()))).1, (0 : Int))))))))
theorem wl26a (a127 : (List Int) → Int → Option (Int)) (a55 : (Int × List (List Int) × Unit) → (List Int) → Int → Option (Int)) (a61 : (Int × List (List Int) × Unit) → Int → Option (Int ⊕ ((List Int) ⊕ Unit))) (a63 : Int → Int → Int → Option (Bool)) (a67 : (List Bool) → Option (List Bool)) (a87 : Int → Int → Option (Int)) (N : Nat) (p0 : Int × List (List Int) × Unit) (sequence1 : List Int) (colour2 : Int) (m : Nat) (ways9_a : List (Option (List Bool × Int × Unit))) (t41_a : Int) : R26_0 a127 a55 a61 a63 a67 a87 N (m + 1) (Sl26a p0 sequence1 colour2 ways9_a t41_a) = cond (decide (t41_a < (sequence1.length : Int))) (chk (decide (0 ≤ t41_a ∧ t41_a < (sequence1.length : Int))) (chk (mkOk p0.1 p0.1 8) ((R26_1 a127 a55 a61 a63 a67 a87 N (R26_0 a127 a55 a61 a63 a67 a87 N m) N (Sl26b p0 sequence1 colour2 ways9_a t41_a (0 : Int) (List.replicate p0.1.toNat (none : Option (List Bool × Int × Unit))))))))
      (chk (decide (0 ≤ colour2 ∧ colour2 < (ways9_a.length : Int))) (cond ((ways9_a.getD colour2.toNat (none : Option (List Bool × Int × Unit))).isNone) (some (([] : List Bool), (14 : Int)))
      (chk (decide (0 ≤ colour2 ∧ colour2 < (ways9_a.length : Int))) (chk ((ways9_a.getD colour2.toNat (none : Option (List Bool × Int × Unit))).isSome) (chk ((ways9_a.getD colour2.toNat (none : Option (List Bool × Int × Unit))).isSome) (some (((ways9_a.getD colour2.toNat (none : Option (List Bool × Int × Unit))).getD (([] : List Bool), ((0 : Int), ()))).1, (0 : Int)))))))) := by kernel_rfl
theorem ql26a (a127 : (List Int) → Int → Option (Int)) (a55 : (Int × List (List Int) × Unit) → (List Int) → Int → Option (Int)) (a61 : (Int × List (List Int) × Unit) → Int → Option (Int ⊕ ((List Int) ⊕ Unit))) (a63 : Int → Int → Int → Option (Bool)) (a67 : (List Bool) → Option (List Bool)) (a87 : Int → Int → Option (Int)) (N : Nat) (p0 : Int × List (List Int) × Unit) (sequence1 : List Int) (colour2 : Int) : ∀ (m : Nat) (ways9_a : List (Option (List Bool × Int × Unit))) (t41_a : Int), R26_0 a127 a55 a61 a63 a67 a87 N m (Sl26a p0 sequence1 colour2 ways9_a t41_a) = l26a a127 a55 a61 a63 a67 a87 N p0 sequence1 colour2 m ways9_a t41_a
        | 0, _, _ => rfl
        | m + 1, ways9_a, t41_a => by rw [wl26a]; simp only [l26a, ql26b, ql26a a127 a55 a61 a63 a67 a87 N p0 sequence1 colour2 m]
def m26 (a127 : (List Int) → Int → Option (Int)) (a55 : (Int × List (List Int) × Unit) → (List Int) → Int → Option (Int)) (a61 : (Int × List (List Int) × Unit) → Int → Option (Int ⊕ ((List Int) ⊕ Unit))) (a63 : Int → Int → Int → Option (Bool)) (a67 : (List Bool) → Option (List Bool)) (a87 : Int → Int → Option (Int)) (N : Nat) (p0 : Int × List (List Int) × Unit) (sequence1 : List Int) (colour2 : Int) : Option (List Bool × Int) :=
      (a55 p0 sequence1 (12 : Int)).bind fun r1 =>
      cond (r1 != (0 : Int)) (some (([] : List Bool), r1))
      ((a63 (0 : Int) colour2 (w64 (p0.1 - (1 : Int)))).bind fun r2 =>
      cond (!r2) (some (([] : List Bool), (4 : Int)))
      (chk (mkOk p0.1 p0.1 8) (chk (decide (0 ≤ (0 : Int) ∧ (0 : Int) < ((List.replicate p0.1.toNat (none : Option (List Bool × Int × Unit))).length : Int))) ((l26a a127 a55 a61 a63 a67 a87 N p0 sequence1 colour2 N ((List.replicate p0.1.toNat (none : Option (List Bool × Int × Unit))).set 0 (some (([] : List Bool), ((0 : Int), ())))) (0 : Int))))))
theorem wm26 (a127 : (List Int) → Int → Option (Int)) (a55 : (Int × List (List Int) × Unit) → (List Int) → Int → Option (Int)) (a61 : (Int × List (List Int) × Unit) → Int → Option (Int ⊕ ((List Int) ⊕ Unit))) (a63 : Int → Int → Int → Option (Bool)) (a67 : (List Bool) → Option (List Bool)) (a87 : Int → Int → Option (Int)) (N : Nat) (p0 : Int × List (List Int) × Unit) (sequence1 : List Int) (colour2 : Int) : callF (E26 a127 a55 a61 a63 a67 a87) lv26 N en26 c26 (resOf Try.f26) 120 [.dv (.pair (.int .i64) (.pair (.sl (.sl (.int .i64))) (.unit))) p0, .dv (.sl (.int .i64)) sequence1, .dv (.int .i64) colour2] [] dec26 = (a55 p0 sequence1 (12 : Int)).bind fun r1 =>
      cond (r1 != (0 : Int)) (some (([] : List Bool), r1))
      ((a63 (0 : Int) colour2 (w64 (p0.1 - (1 : Int)))).bind fun r2 =>
      cond (!r2) (some (([] : List Bool), (4 : Int)))
      (chk (mkOk p0.1 p0.1 8) (chk (decide (0 ≤ (0 : Int) ∧ (0 : Int) < ((List.replicate p0.1.toNat (none : Option (List Bool × Int × Unit))).length : Int))) ((R26_0 a127 a55 a61 a63 a67 a87 N N (Sl26a p0 sequence1 colour2 ((List.replicate p0.1.toNat (none : Option (List Bool × Int × Unit))).set 0 (some (([] : List Bool), ((0 : Int), ())))) (0 : Int))))))) := by kernel_rfl
theorem k26 (a127 : (List Int) → Int → Option (Int)) (a55 : (Int × List (List Int) × Unit) → (List Int) → Int → Option (Int)) (a61 : (Int × List (List Int) × Unit) → Int → Option (Int ⊕ ((List Int) ⊕ Unit))) (a63 : Int → Int → Int → Option (Bool)) (a67 : (List Bool) → Option (List Bool)) (a87 : Int → Int → Option (Int)) (N : Nat) (p0 : Int × List (List Int) × Unit) (sequence1 : List Int) (colour2 : Int) : callF (E26 a127 a55 a61 a63 a67 a87) lv26 N en26 c26 (resOf Try.f26) 120 [.dv (.pair (.int .i64) (.pair (.sl (.sl (.int .i64))) (.unit))) p0, .dv (.sl (.int .i64)) sequence1, .dv (.int .i64) colour2] [] dec26 = m26 a127 a55 a61 a63 a67 a87 N p0 sequence1 colour2 := by rw [wm26]; simp only [m26, ql26a]
theorem ok26 (a127 : (List Int) → Int → Option (Int)) (a55 : (Int × List (List Int) × Unit) → (List Int) → Int → Option (Int)) (a61 : (Int × List (List Int) × Unit) → Int → Option (Int ⊕ ((List Int) ⊕ Unit))) (a63 : Int → Int → Int → Option (Bool)) (a67 : (List Bool) → Option (List Bool)) (a87 : Int → Int → Option (Int)) (h127 : FnOk Try.prog 127 (F127 a127)) (h55 : FnOk Try.prog 55 (F55 a55)) (h61 : FnOk Try.prog 61 (F61 a61)) (h63 : FnOk Try.prog 63 (F63 a63)) (h67 : FnOk Try.prog 67 (F67 a67)) (h87 : FnOk Try.prog 87 (F87 a87)) (a : (Int × List (List Int) × Unit) → (List Int) → Int → Option (List Bool × Int)) (h : ∀ p0 sequence1 colour2 r, a p0 sequence1 colour2 = some r → (∃ N, m26 a127 a55 a61 a63 a67 a87 N p0 sequence1 colour2 = some r)) : FnOk Try.prog 26 (F26 a) := by
  intro args Of x hx
  simp only [F26] at hx
  split at hx
  · rename_i p0 sequence1 colour2
    obtain ⟨N, hN⟩ := h _ _ _ _ hx
    refine lifted (L := [(127, F127 a127), (55, F55 a55), (61, F61 a61), (63, F63 a63), (67, F67 a67), (87, F87 a87)]) (rc := nrc) (fz := (fun i => ([37, 105] : List Nat).contains i)) (fn := Try.f26) (by kernel_rfl) (by kernel_rfl) (by kernel_rfl) (by kernel_rfl) rfl ?_ ((k26 a127 a55 a61 a63 a67 a87 N _ _ _).trans hN) ?_
    · intro p hp; simp only [List.mem_cons, List.not_mem_nil, or_false] at hp; rcases hp with rfl | rfl | rfl | rfl | rfl | rfl
      · exact h127
      · exact h55
      · exact h61
      · exact h63
      · exact h67
      · exact h87
    · intro l o hd
      simp only [dec26] at hd
      split at hd
      · obtain rfl := Option.some.inj hd; exact ⟨rfl, rfl⟩
      · cases hd
  · cases hx
def E29 (a24 : (Int × List (List Int) × Unit) → Option (Int)) (a57 : Int → Option (List Int)) (a61 : (Int × List (List Int) × Unit) → Int → Option (Int ⊕ ((List Int) ⊕ Unit))) (a68 : Int → (Int ⊕ ((List Int) ⊕ Unit)) → Option (Int)) : Env := mkE TI TY [(24, F24 a24), (57, F57 a57), (61, F61 a61), (68, F68 a68)] nrc nfz
noncomputable def c29 : Code := bodyOf Try.f29
def nm29_0 : Norm := ⟨[1, 5, 6], [1], [], []⟩
def nm29_1 : Norm := ⟨[1, 5, 6, 19, 20], [1], [], []⟩
def lv29 : Nat → Option Norm := norms [(5, nm29_0), (8, nm29_1)]
def en29 : End := ⟨[(31, .sl (.int .i64))], ⟨[31, 32], [], [], []⟩⟩
def dec29 (l : List TV) (o : List (Nat × TO)) : Option (List Int × Int) := match l, o with | [.dv (.sl (.int .i64)) x0, .dv (.int .i64) x1], [] => some (x0, x1) | _, _ => none
noncomputable def K29_0 (a24 : (Int × List (List Int) × Unit) → Option (Int)) (a57 : Int → Option (List Int)) (a61 : (Int × List (List Int) × Unit) → Int → Option (Int ⊕ ((List Int) ⊕ Unit))) (a68 : Int → (Int ⊕ ((List Int) ⊕ Unit)) → Option (Int)) (N : Nat) : Kont (List Int × Int) := kont (E29 a24 a57 a61 a68) lv29 N c29 [1, 1, 1, 0, 0] (fin TI en29 (resOf Try.f29) dec29)
noncomputable def R29_0 (a24 : (Int × List (List Int) × Unit) → Option (Int)) (a57 : Int → Option (List Int)) (a61 : (Int × List (List Int) × Unit) → Int → Option (Int ⊕ ((List Int) ⊕ Unit))) (a68 : Int → (Int ⊕ ((List Int) ⊕ Unit)) → Option (Int)) (N : Nat) (m : Nat) : TS → Option (List Int × Int) := loopK (den (E29 a24 a57 a61 a68) lv29 N (sub c29 [1, 1, 1, 0, 0, 0])) (TS.norm nm29_0) (K29_0 a24 a57 a61 a68 N) m
noncomputable def K29_1 (a24 : (Int × List (List Int) × Unit) → Option (Int)) (a57 : Int → Option (List Int)) (a61 : (Int × List (List Int) × Unit) → Int → Option (Int ⊕ ((List Int) ⊕ Unit))) (a68 : Int → (Int ⊕ ((List Int) ⊕ Unit)) → Option (Int)) (N : Nat) (T29_0 : TS → Option (List Int × Int)) : Kont (List Int × Int) := kont (E29 a24 a57 a61 a68) lv29 N (sub c29 [1, 1, 1, 0, 0, 0]) [1, 0, 1, 1, 0] (kloop (TS.norm nm29_0) (K29_0 a24 a57 a61 a68 N) T29_0)
noncomputable def R29_1 (a24 : (Int × List (List Int) × Unit) → Option (Int)) (a57 : Int → Option (List Int)) (a61 : (Int × List (List Int) × Unit) → Int → Option (Int ⊕ ((List Int) ⊕ Unit))) (a68 : Int → (Int ⊕ ((List Int) ⊕ Unit)) → Option (Int)) (N : Nat) (T29_0 : TS → Option (List Int × Int)) (m : Nat) : TS → Option (List Int × Int) := loopK (den (E29 a24 a57 a61 a68) lv29 N (sub c29 [1, 1, 1, 0, 0, 0, 1, 0, 1, 1, 0, 0])) (TS.norm nm29_1) (K29_1 a24 a57 a61 a68 N T29_0) m
def Sl29b (p0 : Int × List (List Int) × Unit) (s5_a : Int) (s5_b : Int) (t20_b : Int) : TS := ⟨slots 31 [(1, .ptr 1 0 []), (5, .dv (.int .u8) s5_b), (6, .dv (.int .u8) s5_a), (19, .dv (.int .i64) (p0.2.1.length : Int)), (20, .dv (.int .i64) t20_b)], [(1, .row (.pair (.int .i64) (.pair (.sl (.sl (.int .i64))) (.unit))) ([p0] : List (Int × List (List Int) × Unit)))]⟩
def Sl29a (p0 : Int × List (List Int) × Unit) (s5_a : Int) (last6_a : Int) : TS := ⟨slots 31 [(1, .ptr 1 0 []), (5, .dv (.int .u8) s5_a), (6, .dv (.int .u8) last6_a)], [(1, .row (.pair (.int .i64) (.pair (.sl (.sl (.int .i64))) (.unit))) ([p0] : List (Int × List (List Int) × Unit)))]⟩
def l29b (a24 : (Int × List (List Int) × Unit) → Option (Int)) (a57 : Int → Option (List Int)) (a61 : (Int × List (List Int) × Unit) → Int → Option (Int ⊕ ((List Int) ⊕ Unit))) (a68 : Int → (Int ⊕ ((List Int) ⊕ Unit)) → Option (Int)) (N : Nat) (p0 : Int × List (List Int) × Unit) (s5_a : Int) (rec_l29a : Int → Int → Option (List Int × Int)) : Nat → Int → Int → Option (List Int × Int)
  | 0, _, _ => none
  | n + 1, s5_b, t20_b => cond (decide (t20_b < (p0.2.1.length : Int))) ((a61 p0 t20_b).bind fun r2 =>
      (a68 s5_b r2).bind fun r3 =>
      (l29b a24 a57 a61 a68 N p0 s5_a rec_l29a n r3 (w64 (t20_b + (1 : Int)))))
      ((rec_l29a s5_b s5_a))
theorem wl29b (a24 : (Int × List (List Int) × Unit) → Option (Int)) (a57 : Int → Option (List Int)) (a61 : (Int × List (List Int) × Unit) → Int → Option (Int ⊕ ((List Int) ⊕ Unit))) (a68 : Int → (Int ⊕ ((List Int) ⊕ Unit)) → Option (Int)) (N : Nat) (p0 : Int × List (List Int) × Unit) (s5_a : Int) (T29_0 : TS → Option (List Int × Int)) (m : Nat) (s5_b : Int) (t20_b : Int) : R29_1 a24 a57 a61 a68 N T29_0 (m + 1) (Sl29b p0 s5_a s5_b t20_b) = cond (decide (t20_b < (p0.2.1.length : Int))) ((a61 p0 t20_b).bind fun r2 =>
      (a68 s5_b r2).bind fun r3 =>
      (R29_1 a24 a57 a61 a68 N T29_0 m (Sl29b p0 s5_a r3 (w64 (t20_b + (1 : Int))))))
      ((T29_0 (Sl29a p0 s5_b s5_a))) := by kernel_rfl
theorem ql29b (a24 : (Int × List (List Int) × Unit) → Option (Int)) (a57 : Int → Option (List Int)) (a61 : (Int × List (List Int) × Unit) → Int → Option (Int ⊕ ((List Int) ⊕ Unit))) (a68 : Int → (Int ⊕ ((List Int) ⊕ Unit)) → Option (Int)) (N : Nat) (p0 : Int × List (List Int) × Unit) (s5_a : Int) (T29_0 : TS → Option (List Int × Int)) : ∀ (m : Nat) (s5_b : Int) (t20_b : Int), R29_1 a24 a57 a61 a68 N T29_0 m (Sl29b p0 s5_a s5_b t20_b) = l29b a24 a57 a61 a68 N p0 s5_a (fun y0 y1 => T29_0 (Sl29a p0 y0 y1)) m s5_b t20_b
        | 0, _, _ => rfl
        | m + 1, s5_b, t20_b => by rw [wl29b]; simp only [l29b, ql29b a24 a57 a61 a68 N p0 s5_a T29_0 m]
def l29a (a24 : (Int × List (List Int) × Unit) → Option (Int)) (a57 : Int → Option (List Int)) (a61 : (Int × List (List Int) × Unit) → Int → Option (Int ⊕ ((List Int) ⊕ Unit))) (a68 : Int → (Int ⊕ ((List Int) ⊕ Unit)) → Option (Int)) (N : Nat) (p0 : Int × List (List Int) × Unit) : Nat → Int → Int → Option (List Int × Int)
  | 0, _, _ => none
  | n + 1, s5_a, last6_a => cond (s5_a != last6_a) ((l29b a24 a57 a61 a68 N p0 s5_a (fun y0 y1 => (l29a a24 a57 a61 a68 N p0 n y0 y1)) N s5_a (0 : Int)))
      ((a57 s5_a).bind fun r4 =>
      some (r4, (0 : Int)))
theorem wl29a (a24 : (Int × List (List Int) × Unit) → Option (Int)) (a57 : Int → Option (List Int)) (a61 : (Int × List (List Int) × Unit) → Int → Option (Int ⊕ ((List Int) ⊕ Unit))) (a68 : Int → (Int ⊕ ((List Int) ⊕ Unit)) → Option (Int)) (N : Nat) (p0 : Int × List (List Int) × Unit) (m : Nat) (s5_a : Int) (last6_a : Int) : R29_0 a24 a57 a61 a68 N (m + 1) (Sl29a p0 s5_a last6_a) = cond (s5_a != last6_a) ((R29_1 a24 a57 a61 a68 N (R29_0 a24 a57 a61 a68 N m) N (Sl29b p0 s5_a s5_a (0 : Int))))
      ((a57 s5_a).bind fun r4 =>
      some (r4, (0 : Int))) := by kernel_rfl
theorem ql29a (a24 : (Int × List (List Int) × Unit) → Option (Int)) (a57 : Int → Option (List Int)) (a61 : (Int × List (List Int) × Unit) → Int → Option (Int ⊕ ((List Int) ⊕ Unit))) (a68 : Int → (Int ⊕ ((List Int) ⊕ Unit)) → Option (Int)) (N : Nat) (p0 : Int × List (List Int) × Unit) : ∀ (m : Nat) (s5_a : Int) (last6_a : Int), R29_0 a24 a57 a61 a68 N m (Sl29a p0 s5_a last6_a) = l29a a24 a57 a61 a68 N p0 m s5_a last6_a
        | 0, _, _ => rfl
        | m + 1, s5_a, last6_a => by rw [wl29a]; simp only [l29a, ql29b, ql29a a24 a57 a61 a68 N p0 m]
def m29 (a24 : (Int × List (List Int) × Unit) → Option (Int)) (a57 : Int → Option (List Int)) (a61 : (Int × List (List Int) × Unit) → Int → Option (Int ⊕ ((List Int) ⊕ Unit))) (a68 : Int → (Int ⊕ ((List Int) ⊕ Unit)) → Option (Int)) (N : Nat) (p0 : Int × List (List Int) × Unit) : Option (List Int × Int) :=
      (a24 p0).bind fun r1 =>
      cond (r1 != (0 : Int)) (some (([] : List Int), r1))
      ((l29a a24 a57 a61 a68 N p0 N (1 : Int) (0 : Int)))
theorem wm29 (a24 : (Int × List (List Int) × Unit) → Option (Int)) (a57 : Int → Option (List Int)) (a61 : (Int × List (List Int) × Unit) → Int → Option (Int ⊕ ((List Int) ⊕ Unit))) (a68 : Int → (Int ⊕ ((List Int) ⊕ Unit)) → Option (Int)) (N : Nat) (p0 : Int × List (List Int) × Unit) : callF (E29 a24 a57 a61 a68) lv29 N en29 c29 (resOf Try.f29) 30 [.dv (.pair (.int .i64) (.pair (.sl (.sl (.int .i64))) (.unit))) p0] [] dec29 = (a24 p0).bind fun r1 =>
      cond (r1 != (0 : Int)) (some (([] : List Int), r1))
      ((R29_0 a24 a57 a61 a68 N N (Sl29a p0 (1 : Int) (0 : Int)))) := by kernel_rfl
theorem k29 (a24 : (Int × List (List Int) × Unit) → Option (Int)) (a57 : Int → Option (List Int)) (a61 : (Int × List (List Int) × Unit) → Int → Option (Int ⊕ ((List Int) ⊕ Unit))) (a68 : Int → (Int ⊕ ((List Int) ⊕ Unit)) → Option (Int)) (N : Nat) (p0 : Int × List (List Int) × Unit) : callF (E29 a24 a57 a61 a68) lv29 N en29 c29 (resOf Try.f29) 30 [.dv (.pair (.int .i64) (.pair (.sl (.sl (.int .i64))) (.unit))) p0] [] dec29 = m29 a24 a57 a61 a68 N p0 := by rw [wm29]; simp only [m29, ql29a]
theorem ok29 (a24 : (Int × List (List Int) × Unit) → Option (Int)) (a57 : Int → Option (List Int)) (a61 : (Int × List (List Int) × Unit) → Int → Option (Int ⊕ ((List Int) ⊕ Unit))) (a68 : Int → (Int ⊕ ((List Int) ⊕ Unit)) → Option (Int)) (h24 : FnOk Try.prog 24 (F24 a24)) (h57 : FnOk Try.prog 57 (F57 a57)) (h61 : FnOk Try.prog 61 (F61 a61)) (h68 : FnOk Try.prog 68 (F68 a68)) (a : (Int × List (List Int) × Unit) → Option (List Int × Int)) (h : ∀ p0 r, a p0 = some r → (∃ N, m29 a24 a57 a61 a68 N p0 = some r)) : FnOk Try.prog 29 (F29 a) := by
  intro args Of x hx
  simp only [F29] at hx
  split at hx
  · rename_i p0
    obtain ⟨N, hN⟩ := h _ _ hx
    refine lifted (L := [(24, F24 a24), (57, F57 a57), (61, F61 a61), (68, F68 a68)]) (rc := nrc) (fz := nfz) (fn := Try.f29) (by kernel_rfl) (by kernel_rfl) (by kernel_rfl) (by kernel_rfl) rfl ?_ ((k29 a24 a57 a61 a68 N _).trans hN) ?_
    · intro p hp; simp only [List.mem_cons, List.not_mem_nil, or_false] at hp; rcases hp with rfl | rfl | rfl | rfl
      · exact h24
      · exact h57
      · exact h61
      · exact h68
    · intro l o hd
      simp only [dec29] at hd
      split at hd
      · obtain rfl := Option.some.inj hd; exact ⟨rfl, rfl⟩
      · cases hd
  · cases hx
def E70 (a63 : Int → Int → Int → Option (Bool)) : Env := mkE TI TY [(63, F63 a63)] nrc nfz
noncomputable def c70 : Code := bodyOf Try.f70
def nm70_0 : Norm := ⟨[2, 6, 7, 10, 11, 12], [2], [], []⟩
def lv70 : Nat → Option Norm := norms [(4, nm70_0)]
def en70 : End := ⟨[], ⟨[34, 35], [], [], []⟩⟩
def dec70 (l : List TV) (o : List (Nat × TO)) : Option (Int × Int) := match l, o with | [.dv (.int .u8) x0, .dv (.int .i64) x1], [] => some (x0, x1) | _, _ => none
noncomputable def K70_0 (a63 : Int → Int → Int → Option (Bool)) (N : Nat) : Kont (Int × Int) := kont (E70 a63) lv70 N c70 [1, 1, 1, 0, 1, 0] (fin TI en70 (resOf Try.f70) dec70)
noncomputable def R70_0 (a63 : Int → Int → Int → Option (Bool)) (N : Nat) (m : Nat) : TS → Option (Int × Int) := loopK (den (E70 a63) lv70 N (sub c70 [1, 1, 1, 0, 1, 0, 0])) (TS.norm nm70_0) (K70_0 a63 N) m
def Sl70a (p0 : Int × List (List Int) × Unit) (l1 : List Int) (out6_a : Int) (last7_a : Int) (t12_a : Int) : TS := ⟨slots 34 [(2, .ptr 2 0 []), (6, .dv (.int .u8) out6_a), (7, .dv (.int .i64) last7_a), (10, .dv (.sl (.int .i64)) l1), (11, .dv (.int .i64) (l1.length : Int)), (12, .dv (.int .i64) t12_a)], [(2, .row (.pair (.int .i64) (.pair (.sl (.sl (.int .i64))) (.unit))) ([p0] : List (Int × List (List Int) × Unit)))]⟩
def l70a (a63 : Int → Int → Int → Option (Bool)) (N : Nat) (p0 : Int × List (List Int) × Unit) (l1 : List Int) : Nat → Int → Int → Int → Option (Int × Int)
  | 0, _, _, _ => none
  | n + 1, out6_a, last7_a, t12_a => cond (decide (t12_a < (l1.length : Int))) (chk (decide (0 ≤ t12_a ∧ t12_a < (l1.length : Int))) ((a63 (0 : Int) (l1.getD t12_a.toNat (0 : Int)) (w64 (p0.1 - (1 : Int)))).bind fun r1 =>
      cond (!r1) (some ((0 : Int), (5 : Int)))
      (cond (decide ((l1.getD t12_a.toNat (0 : Int)) ≤ last7_a)) (some ((0 : Int), (7 : Int)))
      (chk (decide (0 ≤ l1.getD t12_a.toNat (0 : Int))) ((l70a a63 N p0 l1 n (bOr .u8 out6_a (IntKind.wrap .u8 ((1 : Int) * 2 ^ min (Int.toNat (l1.getD t12_a.toNat (0 : Int))) 8))) (l1.getD t12_a.toNat (0 : Int)) (w64 (t12_a + (1 : Int)))))))))
      (some (out6_a, (0 : Int)))
theorem wl70a (a63 : Int → Int → Int → Option (Bool)) (N : Nat) (p0 : Int × List (List Int) × Unit) (l1 : List Int) (m : Nat) (out6_a : Int) (last7_a : Int) (t12_a : Int) : R70_0 a63 N (m + 1) (Sl70a p0 l1 out6_a last7_a t12_a) = cond (decide (t12_a < (l1.length : Int))) (chk (decide (0 ≤ t12_a ∧ t12_a < (l1.length : Int))) ((a63 (0 : Int) (l1.getD t12_a.toNat (0 : Int)) (w64 (p0.1 - (1 : Int)))).bind fun r1 =>
      cond (!r1) (some ((0 : Int), (5 : Int)))
      (cond (decide ((l1.getD t12_a.toNat (0 : Int)) ≤ last7_a)) (some ((0 : Int), (7 : Int)))
      (chk (decide (0 ≤ l1.getD t12_a.toNat (0 : Int))) ((R70_0 a63 N m (Sl70a p0 l1 (bOr .u8 out6_a (IntKind.wrap .u8 ((1 : Int) * 2 ^ min (Int.toNat (l1.getD t12_a.toNat (0 : Int))) 8))) (l1.getD t12_a.toNat (0 : Int)) (w64 (t12_a + (1 : Int))))))))))
      (some (out6_a, (0 : Int))) := by kernel_rfl
theorem ql70a (a63 : Int → Int → Int → Option (Bool)) (N : Nat) (p0 : Int × List (List Int) × Unit) (l1 : List Int) : ∀ (m : Nat) (out6_a : Int) (last7_a : Int) (t12_a : Int), R70_0 a63 N m (Sl70a p0 l1 out6_a last7_a t12_a) = l70a a63 N p0 l1 m out6_a last7_a t12_a
        | 0, _, _, _ => rfl
        | m + 1, out6_a, last7_a, t12_a => by rw [wl70a]; simp only [l70a, ql70a a63 N p0 l1 m]
def m70 (a63 : Int → Int → Int → Option (Bool)) (N : Nat) (p0 : Int × List (List Int) × Unit) (l1 : List Int) : Option (Int × Int) :=
      (l70a a63 N p0 l1 N (0 : Int) (-1 : Int) (0 : Int))
theorem wm70 (a63 : Int → Int → Int → Option (Bool)) (N : Nat) (p0 : Int × List (List Int) × Unit) (l1 : List Int) : callF (E70 a63) lv70 N en70 c70 (resOf Try.f70) 32 [.dv (.pair (.int .i64) (.pair (.sl (.sl (.int .i64))) (.unit))) p0, .dv (.sl (.int .i64)) l1] [] dec70 = (R70_0 a63 N N (Sl70a p0 l1 (0 : Int) (-1 : Int) (0 : Int))) := by kernel_rfl
theorem k70 (a63 : Int → Int → Int → Option (Bool)) (N : Nat) (p0 : Int × List (List Int) × Unit) (l1 : List Int) : callF (E70 a63) lv70 N en70 c70 (resOf Try.f70) 32 [.dv (.pair (.int .i64) (.pair (.sl (.sl (.int .i64))) (.unit))) p0, .dv (.sl (.int .i64)) l1] [] dec70 = m70 a63 N p0 l1 := by rw [wm70]; simp only [m70, ql70a]
theorem ok70 (a63 : Int → Int → Int → Option (Bool)) (h63 : FnOk Try.prog 63 (F63 a63)) (a : (Int × List (List Int) × Unit) → (List Int) → Option (Int × Int)) (h : ∀ p0 l1 r, a p0 l1 = some r → (∃ N, m70 a63 N p0 l1 = some r)) : FnOk Try.prog 70 (F70 a) := by
  intro args Of x hx
  simp only [F70] at hx
  split at hx
  · rename_i p0 l1
    obtain ⟨N, hN⟩ := h _ _ _ hx
    refine lifted (L := [(63, F63 a63)]) (rc := nrc) (fz := nfz) (fn := Try.f70) (by kernel_rfl) (by kernel_rfl) (by kernel_rfl) (by kernel_rfl) rfl ?_ ((k70 a63 N _ _).trans hN) ?_
    · intro p hp; simp only [List.mem_cons, List.not_mem_nil, or_false] at hp; rcases hp with rfl; exact h63
    · intro l o hd
      simp only [dec70] at hd
      split at hd
      · obtain rfl := Option.some.inj hd; exact ⟨rfl, rfl⟩
      · cases hd
  · cases hx
def E31 (a24 : (Int × List (List Int) × Unit) → Option (Int)) (a61 : (Int × List (List Int) × Unit) → Int → Option (Int ⊕ ((List Int) ⊕ Unit))) (a63 : Int → Int → Int → Option (Bool)) (a68 : Int → (Int ⊕ ((List Int) ⊕ Unit)) → Option (Int)) (a70 : (Int × List (List Int) × Unit) → (List Int) → Option (Int × Int)) (a71 : Int → Int → Option (Bool)) : Env := mkE TI TY [(24, F24 a24), (61, F61 a61), (63, F63 a63), (68, F68 a68), (70, F70 a70), (71, F71 a71)] nrc nfz
noncomputable def c31 : Code := bodyOf Try.f31
def nm31_0 : Norm := ⟨[2, 3, 8, 9, 38, 39], [3], [], []⟩
def lv31 : Nat → Option Norm := norms [(11, nm31_0)]
def en31 : End := ⟨[], ⟨[59], [], [], []⟩⟩
def dec31 (l : List TV) (o : List (Nat × TO)) : Option (Int) := match l, o with | [.dv (.int .i64) x0], [] => some (x0) | _, _ => none
noncomputable def K31_0 (a24 : (Int × List (List Int) × Unit) → Option (Int)) (a61 : (Int × List (List Int) × Unit) → Int → Option (Int ⊕ ((List Int) ⊕ Unit))) (a63 : Int → Int → Int → Option (Bool)) (a68 : Int → (Int ⊕ ((List Int) ⊕ Unit)) → Option (Int)) (a70 : (Int × List (List Int) × Unit) → (List Int) → Option (Int × Int)) (a71 : Int → Int → Option (Bool)) (N : Nat) : Kont (Int) := kont (E31 a24 a61 a63 a68 a70 a71) lv31 N c31 [1, 1, 1, 1, 1, 1, 0, 1, 0] (fin TI en31 (resOf Try.f31) dec31)
noncomputable def R31_0 (a24 : (Int × List (List Int) × Unit) → Option (Int)) (a61 : (Int × List (List Int) × Unit) → Int → Option (Int ⊕ ((List Int) ⊕ Unit))) (a63 : Int → Int → Int → Option (Bool)) (a68 : Int → (Int ⊕ ((List Int) ⊕ Unit)) → Option (Int)) (a70 : (Int × List (List Int) × Unit) → (List Int) → Option (Int × Int)) (a71 : Int → Int → Option (Bool)) (N : Nat) (m : Nat) : TS → Option (Int) := loopK (den (E31 a24 a61 a63 a68 a70 a71) lv31 N (sub c31 [1, 1, 1, 1, 1, 1, 0, 1, 0, 0])) (TS.norm nm31_0) (K31_0 a24 a61 a63 a68 a70 a71 N) m
def Sl31a (p0 : Int × List (List Int) × Unit) (colour2 : Int) (r3 : Int × Int) (open9_a : Bool) (t39_a : Int) : TS := ⟨slots 59 [(2, .dv (.int .i64) colour2), (3, .ptr 3 0 []), (8, .dv (.int .u8) r3.1), (9, .dv (.bool) open9_a), (38, .dv (.int .i64) (p0.2.1.length : Int)), (39, .dv (.int .i64) t39_a)], [(3, .row (.pair (.int .i64) (.pair (.sl (.sl (.int .i64))) (.unit))) ([p0] : List (Int × List (List Int) × Unit)))]⟩
def l31a (a24 : (Int × List (List Int) × Unit) → Option (Int)) (a61 : (Int × List (List Int) × Unit) → Int → Option (Int ⊕ ((List Int) ⊕ Unit))) (a63 : Int → Int → Int → Option (Bool)) (a68 : Int → (Int ⊕ ((List Int) ⊕ Unit)) → Option (Int)) (a70 : (Int × List (List Int) × Unit) → (List Int) → Option (Int × Int)) (a71 : Int → Int → Option (Bool)) (N : Nat) (p0 : Int × List (List Int) × Unit) (colour2 : Int) (r3 : Int × Int) : Nat → Bool → Int → Option (Int)
  | 0, _, _ => none
  | n + 1, open9_a, t39_a => cond (decide (t39_a < (p0.2.1.length : Int))) (cond (open9_a) ((l31a a24 a61 a63 a68 a70 a71 N p0 colour2 r3 n true (w64 (t39_a + (1 : Int)))))
      ((a61 p0 t39_a).bind fun r5 =>
      (a68 r3.1 r5).bind fun r6 =>
      (l31a a24 a61 a63 a68 a70 a71 N p0 colour2 r3 n (r6 != r3.1) (w64 (t39_a + (1 : Int))))))
      (cond (open9_a) (some (22 : Int))
      ((a71 r3.1 colour2).bind fun r7 =>
      cond (r7) (some (13 : Int))
      (some (0 : Int))))
theorem wl31a (a24 : (Int × List (List Int) × Unit) → Option (Int)) (a61 : (Int × List (List Int) × Unit) → Int → Option (Int ⊕ ((List Int) ⊕ Unit))) (a63 : Int → Int → Int → Option (Bool)) (a68 : Int → (Int ⊕ ((List Int) ⊕ Unit)) → Option (Int)) (a70 : (Int × List (List Int) × Unit) → (List Int) → Option (Int × Int)) (a71 : Int → Int → Option (Bool)) (N : Nat) (p0 : Int × List (List Int) × Unit) (colour2 : Int) (r3 : Int × Int) (m : Nat) (open9_a : Bool) (t39_a : Int) : R31_0 a24 a61 a63 a68 a70 a71 N (m + 1) (Sl31a p0 colour2 r3 open9_a t39_a) = cond (decide (t39_a < (p0.2.1.length : Int))) (cond (open9_a) ((R31_0 a24 a61 a63 a68 a70 a71 N m (Sl31a p0 colour2 r3 true (w64 (t39_a + (1 : Int))))))
      ((a61 p0 t39_a).bind fun r5 =>
      (a68 r3.1 r5).bind fun r6 =>
      (R31_0 a24 a61 a63 a68 a70 a71 N m (Sl31a p0 colour2 r3 (r6 != r3.1) (w64 (t39_a + (1 : Int)))))))
      (cond (open9_a) (some (22 : Int))
      ((a71 r3.1 colour2).bind fun r7 =>
      cond (r7) (some (13 : Int))
      (some (0 : Int)))) := by kernel_rfl
theorem ql31a (a24 : (Int × List (List Int) × Unit) → Option (Int)) (a61 : (Int × List (List Int) × Unit) → Int → Option (Int ⊕ ((List Int) ⊕ Unit))) (a63 : Int → Int → Int → Option (Bool)) (a68 : Int → (Int ⊕ ((List Int) ⊕ Unit)) → Option (Int)) (a70 : (Int × List (List Int) × Unit) → (List Int) → Option (Int × Int)) (a71 : Int → Int → Option (Bool)) (N : Nat) (p0 : Int × List (List Int) × Unit) (colour2 : Int) (r3 : Int × Int) : ∀ (m : Nat) (open9_a : Bool) (t39_a : Int), R31_0 a24 a61 a63 a68 a70 a71 N m (Sl31a p0 colour2 r3 open9_a t39_a) = l31a a24 a61 a63 a68 a70 a71 N p0 colour2 r3 m open9_a t39_a
        | 0, _, _ => rfl
        | m + 1, open9_a, t39_a => by rw [wl31a]; simp only [l31a, ql31a a24 a61 a63 a68 a70 a71 N p0 colour2 r3 m]
def m31 (a24 : (Int × List (List Int) × Unit) → Option (Int)) (a61 : (Int × List (List Int) × Unit) → Int → Option (Int ⊕ ((List Int) ⊕ Unit))) (a63 : Int → Int → Int → Option (Bool)) (a68 : Int → (Int ⊕ ((List Int) ⊕ Unit)) → Option (Int)) (a70 : (Int × List (List Int) × Unit) → (List Int) → Option (Int × Int)) (a71 : Int → Int → Option (Bool)) (N : Nat) (p0 : Int × List (List Int) × Unit) (colours1 : List Int) (colour2 : Int) : Option (Int) :=
      (a24 p0).bind fun r1 =>
      cond (r1 != (0 : Int)) (some r1)
      ((a63 (0 : Int) colour2 (w64 (p0.1 - (1 : Int)))).bind fun r2 =>
      cond (!r2) (some (4 : Int))
      ((a70 p0 colours1).bind fun r3 =>
      cond (r3.2 != (0 : Int)) (some r3.2)
      ((a71 r3.1 (0 : Int)).bind fun r4 =>
      (l31a a24 a61 a63 a68 a70 a71 N p0 colour2 r3 N (!r4) (0 : Int)))))
theorem wm31 (a24 : (Int × List (List Int) × Unit) → Option (Int)) (a61 : (Int × List (List Int) × Unit) → Int → Option (Int ⊕ ((List Int) ⊕ Unit))) (a63 : Int → Int → Int → Option (Bool)) (a68 : Int → (Int ⊕ ((List Int) ⊕ Unit)) → Option (Int)) (a70 : (Int × List (List Int) × Unit) → (List Int) → Option (Int × Int)) (a71 : Int → Int → Option (Bool)) (N : Nat) (p0 : Int × List (List Int) × Unit) (colours1 : List Int) (colour2 : Int) : callF (E31 a24 a61 a63 a68 a70 a71) lv31 N en31 c31 (resOf Try.f31) 56 [.dv (.pair (.int .i64) (.pair (.sl (.sl (.int .i64))) (.unit))) p0, .dv (.sl (.int .i64)) colours1, .dv (.int .i64) colour2] [] dec31 = (a24 p0).bind fun r1 =>
      cond (r1 != (0 : Int)) (some r1)
      ((a63 (0 : Int) colour2 (w64 (p0.1 - (1 : Int)))).bind fun r2 =>
      cond (!r2) (some (4 : Int))
      ((a70 p0 colours1).bind fun r3 =>
      cond (r3.2 != (0 : Int)) (some r3.2)
      ((a71 r3.1 (0 : Int)).bind fun r4 =>
      (R31_0 a24 a61 a63 a68 a70 a71 N N (Sl31a p0 colour2 r3 (!r4) (0 : Int)))))) := by kernel_rfl
theorem k31 (a24 : (Int × List (List Int) × Unit) → Option (Int)) (a61 : (Int × List (List Int) × Unit) → Int → Option (Int ⊕ ((List Int) ⊕ Unit))) (a63 : Int → Int → Int → Option (Bool)) (a68 : Int → (Int ⊕ ((List Int) ⊕ Unit)) → Option (Int)) (a70 : (Int × List (List Int) × Unit) → (List Int) → Option (Int × Int)) (a71 : Int → Int → Option (Bool)) (N : Nat) (p0 : Int × List (List Int) × Unit) (colours1 : List Int) (colour2 : Int) : callF (E31 a24 a61 a63 a68 a70 a71) lv31 N en31 c31 (resOf Try.f31) 56 [.dv (.pair (.int .i64) (.pair (.sl (.sl (.int .i64))) (.unit))) p0, .dv (.sl (.int .i64)) colours1, .dv (.int .i64) colour2] [] dec31 = m31 a24 a61 a63 a68 a70 a71 N p0 colours1 colour2 := by rw [wm31]; simp only [m31, ql31a]
theorem ok31 (a24 : (Int × List (List Int) × Unit) → Option (Int)) (a61 : (Int × List (List Int) × Unit) → Int → Option (Int ⊕ ((List Int) ⊕ Unit))) (a63 : Int → Int → Int → Option (Bool)) (a68 : Int → (Int ⊕ ((List Int) ⊕ Unit)) → Option (Int)) (a70 : (Int × List (List Int) × Unit) → (List Int) → Option (Int × Int)) (a71 : Int → Int → Option (Bool)) (h24 : FnOk Try.prog 24 (F24 a24)) (h61 : FnOk Try.prog 61 (F61 a61)) (h63 : FnOk Try.prog 63 (F63 a63)) (h68 : FnOk Try.prog 68 (F68 a68)) (h70 : FnOk Try.prog 70 (F70 a70)) (h71 : FnOk Try.prog 71 (F71 a71)) (a : (Int × List (List Int) × Unit) → (List Int) → Int → Option (Int)) (h : ∀ p0 colours1 colour2 r, a p0 colours1 colour2 = some r → (∃ N, m31 a24 a61 a63 a68 a70 a71 N p0 colours1 colour2 = some r)) : FnOk Try.prog 31 (F31 a) := by
  intro args Of x hx
  simp only [F31] at hx
  split at hx
  · rename_i p0 colours1 colour2
    obtain ⟨N, hN⟩ := h _ _ _ _ hx
    refine lifted (L := [(24, F24 a24), (61, F61 a61), (63, F63 a63), (68, F68 a68), (70, F70 a70), (71, F71 a71)]) (rc := nrc) (fz := nfz) (fn := Try.f31) (by kernel_rfl) (by kernel_rfl) (by kernel_rfl) (by kernel_rfl) rfl ?_ ((k31 a24 a61 a63 a68 a70 a71 N _ _ _).trans hN) ?_
    · intro p hp; simp only [List.mem_cons, List.not_mem_nil, or_false] at hp; rcases hp with rfl | rfl | rfl | rfl | rfl | rfl
      · exact h24
      · exact h61
      · exact h63
      · exact h68
      · exact h70
      · exact h71
    · intro l o hd
      simp only [dec31] at hd
      split at hd
      · obtain rfl := Option.some.inj hd; exact ⟨rfl, rfl⟩
      · cases hd
  · cases hx
def E80 : Env := mkE TI TY [] nrc nfz
noncomputable def c80 : Code := bodyOf Try.f80
def lv80 : Nat → Option Norm := norms []
def en80 : End := ⟨[(9, .csl (.int .i64))], ⟨[9], [], [], []⟩⟩
def dec80 (l : List TV) (o : List (Nat × TO)) : Option (List Int) := match l, o with | [.dv (.csl (.int .i64)) x0], [] => some (x0) | _, _ => none
def m80 (N : Nat) (s0 : List Int) : Option (List Int) :=
      chk (decide (0 ≤ (s0.length : Int) ∧ (s0.length : Int) ≤ (s0.length : Int)) && decide ((s0.length : Int) = (s0.length : Int))) (some (s0.take ((s0.length : Int).toNat)))
theorem k80 (N : Nat) (s0 : List Int) : callF (E80) lv80 N en80 c80 (resOf Try.f80) 8 [.dv (.sl (.int .i64)) s0] [] dec80 = m80 N s0 := by kernel_rfl
theorem ok80 (a : (List Int) → Option (List Int)) (h : ∀ s0 r, a s0 = some r → (∃ N, m80 N s0 = some r)) : FnOk Try.prog 80 (F80 a) := by
  intro args Of x hx
  simp only [F80] at hx
  split at hx
  · rename_i s0
    obtain ⟨N, hN⟩ := h _ _ hx
    refine lifted (L := []) (rc := nrc) (fz := nfz) (fn := Try.f80) (by kernel_rfl) (by kernel_rfl) (by kernel_rfl) (by kernel_rfl) rfl ?_ ((k80 N _).trans hN) ?_
    · intro p hp; cases hp
    · intro l o hd
      simp only [dec80] at hd
      split at hd
      · obtain rfl := Option.some.inj hd; exact ⟨rfl, rfl⟩
      · cases hd
  · cases hx
def E74 (a61 : (Int × List (List Int) × Unit) → Int → Option (Int ⊕ ((List Int) ⊕ Unit))) (a68 : Int → (Int ⊕ ((List Int) ⊕ Unit)) → Option (Int)) (a80 : (List Int) → Option (List Int)) : Env := mkE TI TY [(61, F61 a61), (68, F68 a68), (80, F80 a80)] nrc (fun i => ([27, 29] : List Nat).contains i)
noncomputable def c74 : Code := bodyOf Try.f74
def nm74_0 : Norm := ⟨[1, 2, 6], [2, 13], [(.slot 7, 1007, .int .u8), (.slot 8, 1008, .sl (.int .i64))], []⟩
def nm74_1 : Norm := ⟨[1, 2, 6, 9, 10, 38, 39], [2, 13], [(.slot 7, 1007, .int .u8), (.slot 8, 1008, .sl (.int .i64))], []⟩
def lv74 : Nat → Option Norm := norms [(4, nm74_0), (10, nm74_1)]
def en74 : End := ⟨[(66, .sl (.int .i64))], ⟨[66, 67], [], [], []⟩⟩
def dec74 (l : List TV) (o : List (Nat × TO)) : Option (List Int × Bool) := match l, o with | [.dv (.sl (.int .i64)) x0, .dv (.bool) x1], [] => some (x0, x1) | _, _ => none
noncomputable def K74_0 (a61 : (Int × List (List Int) × Unit) → Int → Option (Int ⊕ ((List Int) ⊕ Unit))) (a68 : Int → (Int ⊕ ((List Int) ⊕ Unit)) → Option (Int)) (a80 : (List Int) → Option (List Int)) (N : Nat) : Kont (List Int × Bool) := kont (E74 a61 a68 a80) lv74 N c74 [1, 1, 1, 1, 0, 0] (fin TI en74 (resOf Try.f74) dec74)
noncomputable def R74_0 (a61 : (Int × List (List Int) × Unit) → Int → Option (Int ⊕ ((List Int) ⊕ Unit))) (a68 : Int → (Int ⊕ ((List Int) ⊕ Unit)) → Option (Int)) (a80 : (List Int) → Option (List Int)) (N : Nat) (m : Nat) : TS → Option (List Int × Bool) := loopK (den (E74 a61 a68 a80) lv74 N (sub c74 [1, 1, 1, 1, 0, 0, 0])) (TS.norm nm74_0) (K74_0 a61 a68 a80 N) m
noncomputable def K74_1 (a61 : (Int × List (List Int) × Unit) → Int → Option (Int ⊕ ((List Int) ⊕ Unit))) (a68 : Int → (Int ⊕ ((List Int) ⊕ Unit)) → Option (Int)) (a80 : (List Int) → Option (List Int)) (N : Nat) (T74_0 : TS → Option (List Int × Bool)) : Kont (List Int × Bool) := kont (E74 a61 a68 a80) lv74 N (sub c74 [1, 1, 1, 1, 0, 0, 0]) [1, 0, 1, 1, 1, 1, 0] (kloop (TS.norm nm74_0) (K74_0 a61 a68 a80 N) T74_0)
noncomputable def R74_1 (a61 : (Int × List (List Int) × Unit) → Int → Option (Int ⊕ ((List Int) ⊕ Unit))) (a68 : Int → (Int ⊕ ((List Int) ⊕ Unit)) → Option (Int)) (a80 : (List Int) → Option (List Int)) (N : Nat) (T74_0 : TS → Option (List Int × Bool)) (m : Nat) : TS → Option (List Int × Bool) := loopK (den (E74 a61 a68 a80) lv74 N (sub c74 [1, 1, 1, 1, 0, 0, 0, 1, 0, 1, 1, 1, 1, 0, 0])) (TS.norm nm74_1) (K74_1 a61 a68 a80 N T74_0) m
def Sl74b (p0 : Int × List (List Int) × Unit) (want1 : Int) (open7_a : List Int) (sequences8_a : List (List Int)) (t39_b : Int) (open7_b : List Int) (sequences8_b : List (List Int)) (o13_b : List (Int × Bool)) : TS := ⟨slots 66 [(1, .dv (.int .u8) want1), (2, .ptr 2 0 []), (6, .row 13), (7, .row 1007), (8, .row 1008), (9, .dv (.int .u8) (open7_a.getD 0 (0 : Int))), (10, .dv (.sl (.int .i64)) (sequences8_a.getD 0 ([] : List Int))), (38, .dv (.int .i64) (p0.2.1.length : Int)), (39, .dv (.int .i64) t39_b)], [(1007, .row (.int .u8) open7_b), (1008, .row (.sl (.int .i64)) sequences8_b), (2, .row (.pair (.int .i64) (.pair (.sl (.sl (.int .i64))) (.unit))) ([p0] : List (Int × List (List Int) × Unit))), (13, .map (.int .u8) (.bool) o13_b)]⟩
def Sl74a (p0 : Int × List (List Int) × Unit) (want1 : Int) (open7_a : List Int) (sequences8_a : List (List Int)) (o13_a : List (Int × Bool)) : TS := ⟨slots 66 [(1, .dv (.int .u8) want1), (2, .ptr 2 0 []), (6, .row 13), (7, .row 1007), (8, .row 1008)], [(1007, .row (.int .u8) open7_a), (1008, .row (.sl (.int .i64)) sequences8_a), (2, .row (.pair (.int .i64) (.pair (.sl (.sl (.int .i64))) (.unit))) ([p0] : List (Int × List (List Int) × Unit))), (13, .map (.int .u8) (.bool) o13_a)]⟩
def l74b (a61 : (Int × List (List Int) × Unit) → Int → Option (Int ⊕ ((List Int) ⊕ Unit))) (a68 : Int → (Int ⊕ ((List Int) ⊕ Unit)) → Option (Int)) (a80 : (List Int) → Option (List Int)) (N : Nat) (p0 : Int × List (List Int) × Unit) (want1 : Int) (open7_a : List Int) (sequences8_a : List (List Int)) (rec_l74a : (List Int) → (List (List Int)) → (List (Int × Bool)) → Option (List Int × Bool)) : Nat → Int → (List Int) → (List (List Int)) → (List (Int × Bool)) → Option (List Int × Bool)
  | 0, _, _, _, _ => none
  | n + 1, t39_b, open7_b, sequences8_b, o13_b => cond (decide (t39_b < (p0.2.1.length : Int))) ((a61 p0 t39_b).bind fun r1 =>
      (a68 (open7_a.getD 0 (0 : Int)) r1).bind fun r2 =>
      cond (!((mget (kt := .int .u8) (vt := .bool) o13_b r2).getD false)) (chk (small (open7_b.length + 1) 1) ((a80 (sequences8_a.getD 0 ([] : List Int))).bind fun r3 =>
      chk (small (r3.length + 1) 8) (chk (small (sequences8_b.length + 1) 24) ((l74b a61 a68 a80 N p0 want1 open7_a sequences8_a rec_l74a n (w64 (t39_b + (1 : Int))) (open7_b ++ ([r2] : List Int)) (sequences8_b ++ ([r3 ++ ([t39_b] : List Int)] : List (List Int))) (mput (kt := .int .u8) (vt := .bool) o13_b r2 true))))))
      ((l74b a61 a68 a80 N p0 want1 open7_a sequences8_a rec_l74a n (w64 (t39_b + (1 : Int))) open7_b sequences8_b o13_b)))
      ((rec_l74a open7_b sequences8_b o13_b))
theorem wl74b (a61 : (Int × List (List Int) × Unit) → Int → Option (Int ⊕ ((List Int) ⊕ Unit))) (a68 : Int → (Int ⊕ ((List Int) ⊕ Unit)) → Option (Int)) (a80 : (List Int) → Option (List Int)) (N : Nat) (p0 : Int × List (List Int) × Unit) (want1 : Int) (open7_a : List Int) (sequences8_a : List (List Int)) (T74_0 : TS → Option (List Int × Bool)) (m : Nat) (t39_b : Int) (open7_b : List Int) (sequences8_b : List (List Int)) (o13_b : List (Int × Bool)) : R74_1 a61 a68 a80 N T74_0 (m + 1) (Sl74b p0 want1 open7_a sequences8_a t39_b open7_b sequences8_b o13_b) = cond (decide (t39_b < (p0.2.1.length : Int))) ((a61 p0 t39_b).bind fun r1 =>
      (a68 (open7_a.getD 0 (0 : Int)) r1).bind fun r2 =>
      cond (!((mget (kt := .int .u8) (vt := .bool) o13_b r2).getD false)) (chk (small (open7_b.length + 1) 1) ((a80 (sequences8_a.getD 0 ([] : List Int))).bind fun r3 =>
      chk (small (r3.length + 1) 8) (chk (small (sequences8_b.length + 1) 24) ((R74_1 a61 a68 a80 N T74_0 m (Sl74b p0 want1 open7_a sequences8_a (w64 (t39_b + (1 : Int))) (open7_b ++ ([r2] : List Int)) (sequences8_b ++ ([r3 ++ ([t39_b] : List Int)] : List (List Int))) (mput (kt := .int .u8) (vt := .bool) o13_b r2 true)))))))
      ((R74_1 a61 a68 a80 N T74_0 m (Sl74b p0 want1 open7_a sequences8_a (w64 (t39_b + (1 : Int))) open7_b sequences8_b o13_b))))
      ((T74_0 (Sl74a p0 want1 open7_b sequences8_b o13_b))) := by kernel_rfl
theorem ql74b (a61 : (Int × List (List Int) × Unit) → Int → Option (Int ⊕ ((List Int) ⊕ Unit))) (a68 : Int → (Int ⊕ ((List Int) ⊕ Unit)) → Option (Int)) (a80 : (List Int) → Option (List Int)) (N : Nat) (p0 : Int × List (List Int) × Unit) (want1 : Int) (open7_a : List Int) (sequences8_a : List (List Int)) (T74_0 : TS → Option (List Int × Bool)) : ∀ (m : Nat) (t39_b : Int) (open7_b : List Int) (sequences8_b : List (List Int)) (o13_b : List (Int × Bool)), R74_1 a61 a68 a80 N T74_0 m (Sl74b p0 want1 open7_a sequences8_a t39_b open7_b sequences8_b o13_b) = l74b a61 a68 a80 N p0 want1 open7_a sequences8_a (fun y0 y1 y2 => T74_0 (Sl74a p0 want1 y0 y1 y2)) m t39_b open7_b sequences8_b o13_b
        | 0, _, _, _, _ => rfl
        | m + 1, t39_b, open7_b, sequences8_b, o13_b => by rw [wl74b]; simp only [l74b, ql74b a61 a68 a80 N p0 want1 open7_a sequences8_a T74_0 m]
def l74a (a61 : (Int × List (List Int) × Unit) → Int → Option (Int ⊕ ((List Int) ⊕ Unit))) (a68 : Int → (Int ⊕ ((List Int) ⊕ Unit)) → Option (Int)) (a80 : (List Int) → Option (List Int)) (N : Nat) (p0 : Int × List (List Int) × Unit) (want1 : Int) : Nat → (List Int) → (List (List Int)) → (List (Int × Bool)) → Option (List Int × Bool)
  | 0, _, _, _ => none
  | n + 1, open7_a, sequences8_a, o13_a => cond (decide ((open7_a.length : Int) > (0 : Int))) (chk (decide (0 ≤ (0 : Int) ∧ (0 : Int) < (open7_a.length : Int))) (chk (decide (0 ≤ (0 : Int) ∧ (0 : Int) < (sequences8_a.length : Int))) (chk (decide (0 ≤ (1 : Int) ∧ (1 : Int) ≤ (open7_a.length : Int))) (chk (decide (0 ≤ (1 : Int) ∧ (1 : Int) ≤ (sequences8_a.length : Int))) (cond ((bAnd .u8 (open7_a.getD 0 (0 : Int)) want1) == want1) (some (sequences8_a.getD 0 ([] : List Int), true))
      ((l74b a61 a68 a80 N p0 want1 open7_a sequences8_a (fun y0 y1 y2 => (l74a a61 a68 a80 N p0 want1 n y0 y1 y2)) N (0 : Int) (open7_a.drop 1) (sequences8_a.drop 1) o13_a)))))))
      (some (([] : List Int), false))
theorem wl74a (a61 : (Int × List (List Int) × Unit) → Int → Option (Int ⊕ ((List Int) ⊕ Unit))) (a68 : Int → (Int ⊕ ((List Int) ⊕ Unit)) → Option (Int)) (a80 : (List Int) → Option (List Int)) (N : Nat) (p0 : Int × List (List Int) × Unit) (want1 : Int) (m : Nat) (open7_a : List Int) (sequences8_a : List (List Int)) (o13_a : List (Int × Bool)) : R74_0 a61 a68 a80 N (m + 1) (Sl74a p0 want1 open7_a sequences8_a o13_a) = cond (decide ((open7_a.length : Int) > (0 : Int))) (chk (decide (0 ≤ (0 : Int) ∧ (0 : Int) < (open7_a.length : Int))) (chk (decide (0 ≤ (0 : Int) ∧ (0 : Int) < (sequences8_a.length : Int))) (chk (decide (0 ≤ (1 : Int) ∧ (1 : Int) ≤ (open7_a.length : Int))) (chk (decide (0 ≤ (1 : Int) ∧ (1 : Int) ≤ (sequences8_a.length : Int))) (cond ((bAnd .u8 (open7_a.getD 0 (0 : Int)) want1) == want1) (some (sequences8_a.getD 0 ([] : List Int), true))
      ((R74_1 a61 a68 a80 N (R74_0 a61 a68 a80 N m) N (Sl74b p0 want1 open7_a sequences8_a (0 : Int) (open7_a.drop 1) (sequences8_a.drop 1) o13_a))))))))
      (some (([] : List Int), false)) := by kernel_rfl
theorem ql74a (a61 : (Int × List (List Int) × Unit) → Int → Option (Int ⊕ ((List Int) ⊕ Unit))) (a68 : Int → (Int ⊕ ((List Int) ⊕ Unit)) → Option (Int)) (a80 : (List Int) → Option (List Int)) (N : Nat) (p0 : Int × List (List Int) × Unit) (want1 : Int) : ∀ (m : Nat) (open7_a : List Int) (sequences8_a : List (List Int)) (o13_a : List (Int × Bool)), R74_0 a61 a68 a80 N m (Sl74a p0 want1 open7_a sequences8_a o13_a) = l74a a61 a68 a80 N p0 want1 m open7_a sequences8_a o13_a
        | 0, _, _, _ => rfl
        | m + 1, open7_a, sequences8_a, o13_a => by rw [wl74a]; simp only [l74a, ql74b, ql74a a61 a68 a80 N p0 want1 m]
def m74 (a61 : (Int × List (List Int) × Unit) → Int → Option (Int ⊕ ((List Int) ⊕ Unit))) (a68 : Int → (Int ⊕ ((List Int) ⊕ Unit)) → Option (Int)) (a80 : (List Int) → Option (List Int)) (N : Nat) (p0 : Int × List (List Int) × Unit) (want1 : Int) : Option (List Int × Bool) :=
      (l74a a61 a68 a80 N p0 want1 N ([(1 : Int)] : List Int) ([([] : List Int)] : List (List Int)) (mput (kt := .int .u8) (vt := .bool) ([] : List (Int × Bool)) (1 : Int) true))
theorem wm74 (a61 : (Int × List (List Int) × Unit) → Int → Option (Int ⊕ ((List Int) ⊕ Unit))) (a68 : Int → (Int ⊕ ((List Int) ⊕ Unit)) → Option (Int)) (a80 : (List Int) → Option (List Int)) (N : Nat) (p0 : Int × List (List Int) × Unit) (want1 : Int) : callF (E74 a61 a68 a80) lv74 N en74 c74 (resOf Try.f74) 64 [.dv (.pair (.int .i64) (.pair (.sl (.sl (.int .i64))) (.unit))) p0, .dv (.int .u8) want1] [] dec74 = (R74_0 a61 a68 a80 N N (Sl74a p0 want1 ([(1 : Int)] : List Int) ([([] : List Int)] : List (List Int)) (mput (kt := .int .u8) (vt := .bool) ([] : List (Int × Bool)) (1 : Int) true))) := by kernel_rfl
theorem k74 (a61 : (Int × List (List Int) × Unit) → Int → Option (Int ⊕ ((List Int) ⊕ Unit))) (a68 : Int → (Int ⊕ ((List Int) ⊕ Unit)) → Option (Int)) (a80 : (List Int) → Option (List Int)) (N : Nat) (p0 : Int × List (List Int) × Unit) (want1 : Int) : callF (E74 a61 a68 a80) lv74 N en74 c74 (resOf Try.f74) 64 [.dv (.pair (.int .i64) (.pair (.sl (.sl (.int .i64))) (.unit))) p0, .dv (.int .u8) want1] [] dec74 = m74 a61 a68 a80 N p0 want1 := by rw [wm74]; simp only [m74, ql74a]
theorem ok74 (a61 : (Int × List (List Int) × Unit) → Int → Option (Int ⊕ ((List Int) ⊕ Unit))) (a68 : Int → (Int ⊕ ((List Int) ⊕ Unit)) → Option (Int)) (a80 : (List Int) → Option (List Int)) (h61 : FnOk Try.prog 61 (F61 a61)) (h68 : FnOk Try.prog 68 (F68 a68)) (h80 : FnOk Try.prog 80 (F80 a80)) (a : (Int × List (List Int) × Unit) → Int → Option (List Int × Bool)) (h : ∀ p0 want1 r, a p0 want1 = some r → (∃ N, m74 a61 a68 a80 N p0 want1 = some r)) : FnOk Try.prog 74 (F74 a) := by
  intro args Of x hx
  simp only [F74] at hx
  split at hx
  · rename_i p0 want1
    obtain ⟨N, hN⟩ := h _ _ _ hx
    refine lifted (L := [(61, F61 a61), (68, F68 a68), (80, F80 a80)]) (rc := nrc) (fz := (fun i => ([27, 29] : List Nat).contains i)) (fn := Try.f74) (by kernel_rfl) (by kernel_rfl) (by kernel_rfl) (by kernel_rfl) rfl ?_ ((k74 a61 a68 a80 N _ _).trans hN) ?_
    · intro p hp; simp only [List.mem_cons, List.not_mem_nil, or_false] at hp; rcases hp with rfl | rfl | rfl
      · exact h61
      · exact h68
      · exact h80
    · intro l o hd
      simp only [dec74] at hd
      split at hd
      · obtain rfl := Option.some.inj hd; exact ⟨rfl, rfl⟩
      · cases hd
  · cases hx
def E33 (a24 : (Int × List (List Int) × Unit) → Option (Int)) (a70 : (Int × List (List Int) × Unit) → (List Int) → Option (Int × Int)) (a74 : (Int × List (List Int) × Unit) → Int → Option (List Int × Bool)) : Env := mkE TI TY [(24, F24 a24), (70, F70 a70), (74, F74 a74)] nrc nfz
noncomputable def c33 : Code := bodyOf Try.f33
def lv33 : Nat → Option Norm := norms []
def en33 : End := ⟨[(34, .sl (.int .i64))], ⟨[34, 35], [], [], []⟩⟩
def dec33 (l : List TV) (o : List (Nat × TO)) : Option (List Int × Int) := match l, o with | [.dv (.sl (.int .i64)) x0, .dv (.int .i64) x1], [] => some (x0, x1) | _, _ => none
def m33 (a24 : (Int × List (List Int) × Unit) → Option (Int)) (a70 : (Int × List (List Int) × Unit) → (List Int) → Option (Int × Int)) (a74 : (Int × List (List Int) × Unit) → Int → Option (List Int × Bool)) (N : Nat) (p0 : Int × List (List Int) × Unit) (sketch1 : List Int) : Option (List Int × Int) :=
      (a24 p0).bind fun r1 =>
      cond (r1 != (0 : Int)) (some (([] : List Int), r1))
      ((a70 p0 sketch1).bind fun r2 =>
      cond (r2.2 != (0 : Int)) (some (([] : List Int), r2.2))
      ((a74 p0 r2.1).bind fun r3 =>
      cond (!r3.2) (some (([] : List Int), (14 : Int)))
      (some (r3.1, (0 : Int)))))
theorem k33 (a24 : (Int × List (List Int) × Unit) → Option (Int)) (a70 : (Int × List (List Int) × Unit) → (List Int) → Option (Int × Int)) (a74 : (Int × List (List Int) × Unit) → Int → Option (List Int × Bool)) (N : Nat) (p0 : Int × List (List Int) × Unit) (sketch1 : List Int) : callF (E33 a24 a70 a74) lv33 N en33 c33 (resOf Try.f33) 32 [.dv (.pair (.int .i64) (.pair (.sl (.sl (.int .i64))) (.unit))) p0, .dv (.sl (.int .i64)) sketch1] [] dec33 = m33 a24 a70 a74 N p0 sketch1 := by kernel_rfl
theorem ok33 (a24 : (Int × List (List Int) × Unit) → Option (Int)) (a70 : (Int × List (List Int) × Unit) → (List Int) → Option (Int × Int)) (a74 : (Int × List (List Int) × Unit) → Int → Option (List Int × Bool)) (h24 : FnOk Try.prog 24 (F24 a24)) (h70 : FnOk Try.prog 70 (F70 a70)) (h74 : FnOk Try.prog 74 (F74 a74)) (a : (Int × List (List Int) × Unit) → (List Int) → Option (List Int × Int)) (h : ∀ p0 sketch1 r, a p0 sketch1 = some r → (∃ N, m33 a24 a70 a74 N p0 sketch1 = some r)) : FnOk Try.prog 33 (F33 a) := by
  intro args Of x hx
  simp only [F33] at hx
  split at hx
  · rename_i p0 sketch1
    obtain ⟨N, hN⟩ := h _ _ _ hx
    refine lifted (L := [(24, F24 a24), (70, F70 a70), (74, F74 a74)]) (rc := nrc) (fz := nfz) (fn := Try.f33) (by kernel_rfl) (by kernel_rfl) (by kernel_rfl) (by kernel_rfl) rfl ?_ ((k33 a24 a70 a74 N _ _).trans hN) ?_
    · intro p hp; simp only [List.mem_cons, List.not_mem_nil, or_false] at hp; rcases hp with rfl | rfl | rfl
      · exact h24
      · exact h70
      · exact h74
    · intro l o hd
      simp only [dec33] at hd
      split at hd
      · obtain rfl := Option.some.inj hd; exact ⟨rfl, rfl⟩
      · cases hd
  · cases hx
def E35 (a24 : (Int × List (List Int) × Unit) → Option (Int)) (a63 : Int → Int → Int → Option (Bool)) (a74 : (Int × List (List Int) × Unit) → Int → Option (List Int × Bool)) : Env := mkE TI TY [(24, F24 a24), (63, F63 a63), (74, F74 a74)] nrc nfz
noncomputable def c35 : Code := bodyOf Try.f35
def lv35 : Nat → Option Norm := norms []
def en35 : End := ⟨[], ⟨[33, 34], [], [], []⟩⟩
def dec35 (l : List TV) (o : List (Nat × TO)) : Option (Int × Int) := match l, o with | [.dv (.int .i64) x0, .dv (.int .i64) x1], [] => some (x0, x1) | _, _ => none
def m35 (a24 : (Int × List (List Int) × Unit) → Option (Int)) (a63 : Int → Int → Int → Option (Bool)) (a74 : (Int × List (List Int) × Unit) → Int → Option (List Int × Bool)) (N : Nat) (p0 : Int × List (List Int) × Unit) (colour1 : Int) : Option (Int × Int) :=
      (a24 p0).bind fun r1 =>
      cond (r1 != (0 : Int)) (some ((0 : Int), r1))
      ((a63 (0 : Int) colour1 (w64 (p0.1 - (1 : Int)))).bind fun r2 =>
      cond (!r2) (some ((0 : Int), (4 : Int)))
      (chk (decide (0 ≤ colour1)) ((a74 p0 (IntKind.wrap .u8 ((1 : Int) * 2 ^ min (Int.toNat colour1) 8))).bind fun r3 =>
      cond (!r3.2) (some ((0 : Int), (14 : Int)))
      (some ((r3.1.length : Int), (0 : Int))))))
theorem k35 (a24 : (Int × List (List Int) × Unit) → Option (Int)) (a63 : Int → Int → Int → Option (Bool)) (a74 : (Int × List (List Int) × Unit) → Int → Option (List Int × Bool)) (N : Nat) (p0 : Int × List (List Int) × Unit) (colour1 : Int) : callF (E35 a24 a63 a74) lv35 N en35 c35 (resOf Try.f35) 31 [.dv (.pair (.int .i64) (.pair (.sl (.sl (.int .i64))) (.unit))) p0, .dv (.int .i64) colour1] [] dec35 = m35 a24 a63 a74 N p0 colour1 := by kernel_rfl
theorem ok35 (a24 : (Int × List (List Int) × Unit) → Option (Int)) (a63 : Int → Int → Int → Option (Bool)) (a74 : (Int × List (List Int) × Unit) → Int → Option (List Int × Bool)) (h24 : FnOk Try.prog 24 (F24 a24)) (h63 : FnOk Try.prog 63 (F63 a63)) (h74 : FnOk Try.prog 74 (F74 a74)) (a : (Int × List (List Int) × Unit) → Int → Option (Int × Int)) (h : ∀ p0 colour1 r, a p0 colour1 = some r → (∃ N, m35 a24 a63 a74 N p0 colour1 = some r)) : FnOk Try.prog 35 (F35 a) := by
  intro args Of x hx
  simp only [F35] at hx
  split at hx
  · rename_i p0 colour1
    obtain ⟨N, hN⟩ := h _ _ _ hx
    refine lifted (L := [(24, F24 a24), (63, F63 a63), (74, F74 a74)]) (rc := nrc) (fz := nfz) (fn := Try.f35) (by kernel_rfl) (by kernel_rfl) (by kernel_rfl) (by kernel_rfl) rfl ?_ ((k35 a24 a63 a74 N _ _).trans hN) ?_
    · intro p hp; simp only [List.mem_cons, List.not_mem_nil, or_false] at hp; rcases hp with rfl | rfl | rfl
      · exact h24
      · exact h63
      · exact h74
    · intro l o hd
      simp only [dec35] at hd
      split at hd
      · obtain rfl := Option.some.inj hd; exact ⟨rfl, rfl⟩
      · cases hd
  · cases hx
def E37 (a55 : (Int × List (List Int) × Unit) → (List Int) → Int → Option (Int)) (a56 : (Int × List (List Int) × Unit) → (List Int) → Option (Int)) (a70 : (Int × List (List Int) × Unit) → (List Int) → Option (Int × Int)) : Env := mkE TI TY [(55, F55 a55), (56, F56 a56), (70, F70 a70)] nrc nfz
noncomputable def c37 : Code := bodyOf Try.f37
def lv37 : Nat → Option Norm := norms []
def en37 : End := ⟨[], ⟨[34], [], [], []⟩⟩
def dec37 (l : List TV) (o : List (Nat × TO)) : Option (Int) := match l, o with | [.dv (.int .i64) x0], [] => some (x0) | _, _ => none
def m37 (a55 : (Int × List (List Int) × Unit) → (List Int) → Int → Option (Int)) (a56 : (Int × List (List Int) × Unit) → (List Int) → Option (Int)) (a70 : (Int × List (List Int) × Unit) → (List Int) → Option (Int × Int)) (N : Nat) (p0 : Int × List (List Int) × Unit) (sketch1 : List Int) (sequence2 : List Int) : Option (Int) :=
      (a55 p0 sequence2 (12 : Int)).bind fun r1 =>
      cond (r1 != (0 : Int)) (some r1)
      ((a70 p0 sketch1).bind fun r2 =>
      cond (r2.2 != (0 : Int)) (some r2.2)
      ((a56 p0 sequence2).bind fun r3 =>
      cond ((bAnd .u8 r3 r2.1) != r2.1) (some (13 : Int))
      (some (0 : Int))))
theorem k37 (a55 : (Int × List (List Int) × Unit) → (List Int) → Int → Option (Int)) (a56 : (Int × List (List Int) × Unit) → (List Int) → Option (Int)) (a70 : (Int × List (List Int) × Unit) → (List Int) → Option (Int × Int)) (N : Nat) (p0 : Int × List (List Int) × Unit) (sketch1 : List Int) (sequence2 : List Int) : callF (E37 a55 a56 a70) lv37 N en37 c37 (resOf Try.f37) 31 [.dv (.pair (.int .i64) (.pair (.sl (.sl (.int .i64))) (.unit))) p0, .dv (.sl (.int .i64)) sketch1, .dv (.sl (.int .i64)) sequence2] [] dec37 = m37 a55 a56 a70 N p0 sketch1 sequence2 := by kernel_rfl
theorem ok37 (a55 : (Int × List (List Int) × Unit) → (List Int) → Int → Option (Int)) (a56 : (Int × List (List Int) × Unit) → (List Int) → Option (Int)) (a70 : (Int × List (List Int) × Unit) → (List Int) → Option (Int × Int)) (h55 : FnOk Try.prog 55 (F55 a55)) (h56 : FnOk Try.prog 56 (F56 a56)) (h70 : FnOk Try.prog 70 (F70 a70)) (a : (Int × List (List Int) × Unit) → (List Int) → (List Int) → Option (Int)) (h : ∀ p0 sketch1 sequence2 r, a p0 sketch1 sequence2 = some r → (∃ N, m37 a55 a56 a70 N p0 sketch1 sequence2 = some r)) : FnOk Try.prog 37 (F37 a) := by
  intro args Of x hx
  simp only [F37] at hx
  split at hx
  · rename_i p0 sketch1 sequence2
    obtain ⟨N, hN⟩ := h _ _ _ _ hx
    refine lifted (L := [(55, F55 a55), (56, F56 a56), (70, F70 a70)]) (rc := nrc) (fz := nfz) (fn := Try.f37) (by kernel_rfl) (by kernel_rfl) (by kernel_rfl) (by kernel_rfl) rfl ?_ ((k37 a55 a56 a70 N _ _ _).trans hN) ?_
    · intro p hp; simp only [List.mem_cons, List.not_mem_nil, or_false] at hp; rcases hp with rfl | rfl | rfl
      · exact h55
      · exact h56
      · exact h70
    · intro l o hd
      simp only [dec37] at hd
      split at hd
      · obtain rfl := Option.some.inj hd; exact ⟨rfl, rfl⟩
      · cases hd
  · cases hx
def E76 : Env := mkE TI TY [] nrc nfz
noncomputable def c76 : Code := bodyOf Try.f76
def lv76 : Nat → Option Norm := norms []
def en76 : End := ⟨[], ⟨[4], [1], [], []⟩⟩
def dec76 (l : List TV) (o : List (Nat × TO)) : Option (List Int) := match l, o, capsOf l o with | [.fn 90 0 1 _], [(1, .rcd [.dv (.sl (.int .i64)) x0])], [[.ptr 1 0 [0]]] => some (x0) | _, _, _ => none
def m76 (N : Nat) (s0 : List Int) : Option (List Int) :=
      some s0
theorem k76 (N : Nat) (s0 : List Int) : callF (E76) lv76 N en76 c76 (resOf Try.f76) 3 [.dv (.sl (.int .i64)) s0] [] dec76 = m76 N s0 := by kernel_rfl
theorem ok76 (a : (List Int) → Option (List Int)) (h : ∀ s0 r, a s0 = some r → (∃ N, m76 N s0 = some r)) : FnOk Try.prog 76 (F76 a) := by
  intro args Of x hx
  simp only [F76] at hx
  split at hx
  · rename_i s0
    obtain ⟨N, hN⟩ := h _ _ hx
    refine liftedS (L := []) (rc := nrc) (fz := nfz) (fn := Try.f76) (by kernel_rfl) (by kernel_rfl) (by kernel_rfl) (by kernel_rfl) rfl ?_ ((k76 N _).trans hN) ?_
    · intro p hp; cases hp
    · intro l o hd
      simp only [dec76] at hd
      split at hd
      · rename_i heqd
        have hd0 := congrArg (fun c : List (List TV) => c.getD 0 []) heqd
        obtain rfl := Option.some.inj hd; exact ⟨TV.sim_symm (TV.sim_fn hd0), ⟨rfl, TO.sim_refl _, trivial⟩⟩
      · cases hd
  · cases hx
def E78 : Env := mkE TI TY [] nrc nfz
noncomputable def c78 : Code := bodyOf Try.f78
def lv78 : Nat → Option Norm := norms []
def en78 : End := ⟨[], ⟨[6], [], [], []⟩⟩
def dec78 (l : List TV) (o : List (Nat × TO)) : Option (Int) := match l, o with | [.dv (.int .i64) x0], [] => some (x0) | _, _ => none
def m78 (N : Nat) (x0 : Int) : Option (Int) :=
      chk (decide (0 ≤ x0 ∧ x0 < (256 : Int))) (some (w64 ((((([0, 1, 1, 2, 1, 2, 2, 3, 1, 2, 2, 3, 2, 3, 3, 4, 1, 2, 2, 3, 2, 3, 3, 4, 2, 3, 3, 4, 3, 4, 4, 5, 1, 2, 2, 3, 2, 3, 3, 4, 2, 3, 3, 4, 3, 4, 4, 5, 2, 3, 3, 4, 3, 4, 4, 5, 3, 4, 4, 5, 4, 5, 5, 6, 1, 2, 2, 3, 2, 3, 3, 4, 2, 3, 3, 4, 3, 4, 4, 5, 2, 3, 3, 4, 3, 4, 4, 5, 3, 4, 4, 5, 4, 5, 5, 6, 2, 3, 3, 4, 3, 4, 4, 5, 3, 4, 4, 5, 4, 5, 5, 6, 3, 4, 4, 5, 4, 5, 5, 6, 4, 5, 5, 6, 5, 6, 6, 7, 1, 2, 2, 3, 2, 3, 3, 4, 2, 3, 3, 4, 3, 4, 4, 5, 2, 3, 3, 4, 3, 4, 4, 5, 3, 4, 4, 5, 4, 5, 5, 6, 2, 3, 3, 4, 3, 4, 4, 5, 3, 4, 4, 5, 4, 5, 5, 6, 3, 4, 4, 5, 4, 5, 5, 6, 4, 5, 5, 6, 5, 6, 6, 7, 2, 3, 3, 4, 3, 4, 4, 5, 3, 4, 4, 5, 4, 5, 5, 6, 3, 4, 4, 5, 4, 5, 5, 6, 4, 5, 5, 6, 5, 6, 6, 7, 3, 4, 4, 5, 4, 5, 5, 6, 4, 5, 5, 6, 5, 6, 6, 7, 4, 5, 5, 6, 5, 6, 6, 7, 5, 6, 6, 7, 6, 7, 7, 8] : List UInt8).getD x0.toNat 0).toNat : Nat) : Int))))
theorem k78 (N : Nat) (x0 : Int) : callF (E78) lv78 N en78 c78 (resOf Try.f78) 5 [.dv (.int .u8) x0] [] dec78 = m78 N x0 := by kernel_rfl
theorem ok78 (a : Int → Option (Int)) (h : ∀ x0 r, a x0 = some r → (∃ N, m78 N x0 = some r)) : FnOk Try.prog 78 (F78 a) := by
  intro args Of x hx
  simp only [F78] at hx
  split at hx
  · rename_i x0
    obtain ⟨N, hN⟩ := h _ _ hx
    refine lifted (L := []) (rc := nrc) (fz := nfz) (fn := Try.f78) (by kernel_rfl) (by kernel_rfl) (by kernel_rfl) (by kernel_rfl) rfl ?_ ((k78 N _).trans hN) ?_
    · intro p hp; cases hp
    · intro l o hd
      simp only [dec78] at hd
      split at hd
      · obtain rfl := Option.some.inj hd; exact ⟨rfl, rfl⟩
      · cases hd
  · cases hx
def E79 : Env := mkE TI TY [] nrc nfz
noncomputable def c79 : Code := bodyOf Try.f79
def lv79 : Nat → Option Norm := norms []
def en79 : End := ⟨[(8, .sl (.int .i64))], ⟨[8], [], [], []⟩⟩
def dec79 (l : List TV) (o : List (Nat × TO)) : Option (List Int) := match l, o with | [.dv (.sl (.int .i64)) x0], [] => some (x0) | _, _ => none
def m79 (N : Nat) (s0 : Option (List Int)) : Option (List Int) :=
      cond (s0.isNone) (some ([] : List Int))
      (chk (small (0 + (s0.getD []).length) 8) (some (([] : List Int) ++ (s0.getD []))))
theorem k79 (N : Nat) (s0 : Option (List Int)) : callF (E79) lv79 N en79 c79 (resOf Try.f79) 7 [.dv (.nsl (.int .i64)) s0] [] dec79 = m79 N s0 := by kernel_rfl
theorem ok79 (a : (Option (List Int)) → Option (List Int)) (h : ∀ s0 r, a s0 = some r → (∃ N, m79 N s0 = some r)) : FnOk Try.prog 79 (F79 a) := by
  intro args Of x hx
  simp only [F79] at hx
  split at hx
  · rename_i s0
    obtain ⟨N, hN⟩ := h _ _ hx
    refine lifted (L := []) (rc := nrc) (fz := nfz) (fn := Try.f79) (by kernel_rfl) (by kernel_rfl) (by kernel_rfl) (by kernel_rfl) rfl ?_ ((k79 N _).trans hN) ?_
    · intro p hp; cases hp
    · intro l o hd
      simp only [dec79] at hd
      split at hd
      · obtain rfl := Option.some.inj hd; exact ⟨rfl, rfl⟩
      · cases hd
  · cases hx
def E77c (a56 : (Int × List (List Int) × Unit) → (List Int) → Option (Int)) (a62 : (List (List Int)) → Option (List Int)) (a77c : (Option (List Int)) → (List Int) → (List (Int × List (List Int) × Unit)) → Int → (List Int) → Option (List (Int × List (List Int) × Unit) × Int × List Int)) (a78 : Int → Option (Int)) (a79 : (Option (List Int)) → Option (List Int)) (a80 : (List Int) → Option (List Int)) : Env := mkE TI TY [(56, F56 a56), (62, F62 a62), (77, F77c a77c), (78, F78 a78), (79, F79 a79), (80, F80 a80)] nrc nfz
noncomputable def c77c : Code := bodyOf Try.f77
def nm77c_0 : Norm := ⟨[0, 1, 5, 24, 25, 26], [9003, 9000, 9001, 9002], [], []⟩
def lv77c : Nat → Option Norm := norms [(5, nm77c_0)]
def en77c : End := ⟨[], ⟨[], [9000, 9001, 9002, 9003], [], []⟩⟩
def dec77c (l : List TV) (o : List (Nat × TO)) : Option (List (Int × List (List Int) × Unit) × Int × List Int) := match l, o, capsOf l o with | [], [(9000, .row (.pair (.int .i64) (.pair (.sl (.sl (.int .i64))) (.unit))) x0), (9001, .rcd [.dv (.int .i64) x1]), (9002, .rcd [.dv (.sl (.int .i64)) x2]), (9003, .rcd [.fn 77 0 4 _])], [[.ptr 9000 0 [], .ptr 9001 0 [0], .ptr 9002 0 [0], .ptr 9003 0 [0]]] => some (x0, x1, x2) | _, _, _ => none
noncomputable def K77c_0 (a56 : (Int × List (List Int) × Unit) → (List Int) → Option (Int)) (a62 : (List (List Int)) → Option (List Int)) (a77c : (Option (List Int)) → (List Int) → (List (Int × List (List Int) × Unit)) → Int → (List Int) → Option (List (Int × List (List Int) × Unit) × Int × List Int)) (a78 : Int → Option (Int)) (a79 : (Option (List Int)) → Option (List Int)) (a80 : (List Int) → Option (List Int)) (N : Nat) : Kont (List (Int × List (List Int) × Unit) × Int × List Int) := kont (E77c a56 a62 a77c a78 a79 a80) lv77c N c77c [1, 1, 0] (fin TI en77c (resOf Try.f77) dec77c)
noncomputable def R77c_0 (a56 : (Int × List (List Int) × Unit) → (List Int) → Option (Int)) (a62 : (List (List Int)) → Option (List Int)) (a77c : (Option (List Int)) → (List Int) → (List (Int × List (List Int) × Unit)) → Int → (List Int) → Option (List (Int × List (List Int) × Unit) × Int × List Int)) (a78 : Int → Option (Int)) (a79 : (Option (List Int)) → Option (List Int)) (a80 : (List Int) → Option (List Int)) (N : Nat) (m : Nat) : TS → Option (List (Int × List (List Int) × Unit) × Int × List Int) := loopK (den (E77c a56 a62 a77c a78 a79 a80) lv77c N (sub c77c [1, 1, 0, 0])) (TS.norm nm77c_0) (K77c_0 a56 a62 a77c a78 a79 a80 N) m
def Sl77ca (l0 : Option (List Int)) (left1 : List Int) (t26_a : Int) (o9000_a : List (Int × List (List Int) × Unit)) (o9001_af0 : Int) (o9002_af0 : List Int) : TS := ⟨slots 59 [(0, .dv (.nsl (.int .i64)) l0), (1, .dv (.sl (.int .i64)) left1), (5, .ptr 9003 0 [0]), (24, .dv (.sl (.int .i64)) left1), (25, .dv (.int .i64) (left1.length : Int)), (26, .dv (.int .i64) t26_a)], [(9003, .rcd [.fn 77 0 4 fun i => ([.ptr 9000 0 [], .ptr 9001 0 [0], .ptr 9002 0 [0], .ptr 9003 0 [0]] : List TV).getD i .any]), (9000, .row (.pair (.int .i64) (.pair (.sl (.sl (.int .i64))) (.unit))) o9000_a), (9001, .rcd [.dv (.int .i64) o9001_af0]), (9002, .rcd [.dv (.sl (.int .i64)) o9002_af0])]⟩
def l77ca (a56 : (Int × List (List Int) × Unit) → (List Int) → Option (Int)) (a62 : (List (List Int)) → Option (List Int)) (a77c : (Option (List Int)) → (List Int) → (List (Int × List (List Int) × Unit)) → Int → (List Int) → Option (List (Int × List (List Int) × Unit) × Int × List Int)) (a78 : Int → Option (Int)) (a79 : (Option (List Int)) → Option (List Int)) (a80 : (List Int) → Option (List Int)) (N : Nat) (l0 : Option (List Int)) (left1 : List Int) : Nat → Int → (List (Int × List (List Int) × Unit)) → Int → (List Int) → Option (List (Int × List (List Int) × Unit) × Int × List Int)
  | 0, _, _, _, _ => none
  | n + 1, t26_a, o9000_a, o9001_af0, o9002_af0 => cond (decide (t26_a < (left1.length : Int))) (chk (decide (0 ≤ t26_a ∧ t26_a < (left1.length : Int))) (cond (t26_a == (0 : Int)) ((a80 (l0.getD [])).bind fun r4 =>
      chk (small (r4.length + 1) 8) (chk (decide (0 ≤ t26_a ∧ t26_a ≤ (left1.length : Int))) (chk (decide (0 ≤ w64 (t26_a + (1 : Int)) ∧ w64 (t26_a + (1 : Int)) ≤ (left1.length : Int))) ((a62 ([left1.take t26_a.toNat, left1.drop ((w64 (t26_a + (1 : Int))).toNat)] : List (List Int))).bind fun r5 =>
      chk ((decide (0 < (r4 ++ ([left1.getD t26_a.toNat (0 : Int)] : List Int)).length)) && (true)) ((a77c (some (r4 ++ ([left1.getD t26_a.toNat (0 : Int)] : List Int))) r5 o9000_a o9001_af0 o9002_af0).bind fun r6 =>
      (l77ca a56 a62 a77c a78 a79 a80 N l0 left1 n (w64 (t26_a + (1 : Int))) r6.1 r6.2.1 r6.2.2))))))
      (chk (decide (0 ≤ w64 (t26_a - (1 : Int)) ∧ w64 (t26_a - (1 : Int)) < (left1.length : Int))) (cond ((left1.getD ((w64 (t26_a - (1 : Int))).toNat) (0 : Int)) != (left1.getD t26_a.toNat (0 : Int))) ((a80 (l0.getD [])).bind fun r7 =>
      chk (small (r7.length + 1) 8) (chk (decide (0 ≤ t26_a ∧ t26_a ≤ (left1.length : Int))) (chk (decide (0 ≤ w64 (t26_a + (1 : Int)) ∧ w64 (t26_a + (1 : Int)) ≤ (left1.length : Int))) ((a62 ([left1.take t26_a.toNat, left1.drop ((w64 (t26_a + (1 : Int))).toNat)] : List (List Int))).bind fun r8 =>
      chk ((decide (0 < (r7 ++ ([left1.getD t26_a.toNat (0 : Int)] : List Int)).length)) && (true)) ((a77c (some (r7 ++ ([left1.getD t26_a.toNat (0 : Int)] : List Int))) r8 o9000_a o9001_af0 o9002_af0).bind fun r9 =>
      (l77ca a56 a62 a77c a78 a79 a80 N l0 left1 n (w64 (t26_a + (1 : Int))) r9.1 r9.2.1 r9.2.2))))))
      ((l77ca a56 a62 a77c a78 a79 a80 N l0 left1 n (w64 (t26_a + (1 : Int))) o9000_a o9001_af0 o9002_af0))))))
      (some (o9000_a, o9001_af0, o9002_af0))
theorem wl77ca (a56 : (Int × List (List Int) × Unit) → (List Int) → Option (Int)) (a62 : (List (List Int)) → Option (List Int)) (a77c : (Option (List Int)) → (List Int) → (List (Int × List (List Int) × Unit)) → Int → (List Int) → Option (List (Int × List (List Int) × Unit) × Int × List Int)) (a78 : Int → Option (Int)) (a79 : (Option (List Int)) → Option (List Int)) (a80 : (List Int) → Option (List Int)) (N : Nat) (l0 : Option (List Int)) (left1 : List Int) (m : Nat) (t26_a : Int) (o9000_a : List (Int × List (List Int) × Unit)) (o9001_af0 : Int) (o9002_af0 : List Int) : R77c_0 a56 a62 a77c a78 a79 a80 N (m + 1) (Sl77ca l0 left1 t26_a o9000_a o9001_af0 o9002_af0) = cond (decide (t26_a < (left1.length : Int))) (chk (decide (0 ≤ t26_a ∧ t26_a < (left1.length : Int))) (cond (t26_a == (0 : Int)) ((a80 (l0.getD [])).bind fun r4 =>
      chk (small (r4.length + 1) 8) (chk (decide (0 ≤ t26_a ∧ t26_a ≤ (left1.length : Int))) (chk (decide (0 ≤ w64 (t26_a + (1 : Int)) ∧ w64 (t26_a + (1 : Int)) ≤ (left1.length : Int))) ((a62 ([left1.take t26_a.toNat, left1.drop ((w64 (t26_a + (1 : Int))).toNat)] : List (List Int))).bind fun r5 =>
      chk ((decide (0 < (r4 ++ ([left1.getD t26_a.toNat (0 : Int)] : List Int)).length)) && (true)) ((a77c (some (r4 ++ ([left1.getD t26_a.toNat (0 : Int)] : List Int))) r5 o9000_a o9001_af0 o9002_af0).bind fun r6 =>
      (R77c_0 a56 a62 a77c a78 a79 a80 N m (Sl77ca l0 left1 (w64 (t26_a + (1 : Int))) r6.1 r6.2.1 r6.2.2)))))))
      (chk (decide (0 ≤ w64 (t26_a - (1 : Int)) ∧ w64 (t26_a - (1 : Int)) < (left1.length : Int))) (cond ((left1.getD ((w64 (t26_a - (1 : Int))).toNat) (0 : Int)) != (left1.getD t26_a.toNat (0 : Int))) ((a80 (l0.getD [])).bind fun r7 =>
      chk (small (r7.length + 1) 8) (chk (decide (0 ≤ t26_a ∧ t26_a ≤ (left1.length : Int))) (chk (decide (0 ≤ w64 (t26_a + (1 : Int)) ∧ w64 (t26_a + (1 : Int)) ≤ (left1.length : Int))) ((a62 ([left1.take t26_a.toNat, left1.drop ((w64 (t26_a + (1 : Int))).toNat)] : List (List Int))).bind fun r8 =>
      chk ((decide (0 < (r7 ++ ([left1.getD t26_a.toNat (0 : Int)] : List Int)).length)) && (true)) ((a77c (some (r7 ++ ([left1.getD t26_a.toNat (0 : Int)] : List Int))) r8 o9000_a o9001_af0 o9002_af0).bind fun r9 =>
      (R77c_0 a56 a62 a77c a78 a79 a80 N m (Sl77ca l0 left1 (w64 (t26_a + (1 : Int))) r9.1 r9.2.1 r9.2.2)))))))
      ((R77c_0 a56 a62 a77c a78 a79 a80 N m (Sl77ca l0 left1 (w64 (t26_a + (1 : Int))) o9000_a o9001_af0 o9002_af0)))))))
      (some (o9000_a, o9001_af0, o9002_af0)) := by kernel_rfl
theorem ql77ca (a56 : (Int × List (List Int) × Unit) → (List Int) → Option (Int)) (a62 : (List (List Int)) → Option (List Int)) (a77c : (Option (List Int)) → (List Int) → (List (Int × List (List Int) × Unit)) → Int → (List Int) → Option (List (Int × List (List Int) × Unit) × Int × List Int)) (a78 : Int → Option (Int)) (a79 : (Option (List Int)) → Option (List Int)) (a80 : (List Int) → Option (List Int)) (N : Nat) (l0 : Option (List Int)) (left1 : List Int) : ∀ (m : Nat) (t26_a : Int) (o9000_a : List (Int × List (List Int) × Unit)) (o9001_af0 : Int) (o9002_af0 : List Int), R77c_0 a56 a62 a77c a78 a79 a80 N m (Sl77ca l0 left1 t26_a o9000_a o9001_af0 o9002_af0) = l77ca a56 a62 a77c a78 a79 a80 N l0 left1 m t26_a o9000_a o9001_af0 o9002_af0
        | 0, _, _, _, _ => rfl
        | m + 1, t26_a, o9000_a, o9001_af0, o9002_af0 => by rw [wl77ca]; simp only [l77ca, ql77ca a56 a62 a77c a78 a79 a80 N l0 left1 m]
def m77c (a56 : (Int × List (List Int) × Unit) → (List Int) → Option (Int)) (a62 : (List (List Int)) → Option (List Int)) (a77c : (Option (List Int)) → (List Int) → (List (Int × List (List Int) × Unit)) → Int → (List Int) → Option (List (Int × List (List Int) × Unit) × Int × List Int)) (a78 : Int → Option (Int)) (a79 : (Option (List Int)) → Option (List Int)) (a80 : (List Int) → Option (List Int)) (N : Nat) (l0 : Option (List Int)) (left1 : List Int) (p2 : List (Int × List (List Int) × Unit)) (p3 : Int) (p4 : List Int) : Option (List (Int × List (List Int) × Unit) × Int × List Int) :=
      cond ((left1.length : Int) == (0 : Int)) ((a56 (p2.getD 0 ((0 : Int), (([] : List (List Int)), ()))) (l0.getD [])).bind fun r1 =>
      (a78 r1).bind fun r2 =>
      cond (decide (r2 > p3)) ((a79 l0).bind fun r3 =>
      some (p2, r2, r3))
      (some (p2, p3, p4)))
      ((l77ca a56 a62 a77c a78 a79 a80 N l0 left1 N (0 : Int) p2 p3 p4))
theorem wm77c (a56 : (Int × List (List Int) × Unit) → (List Int) → Option (Int)) (a62 : (List (List Int)) → Option (List Int)) (a77c : (Option (List Int)) → (List Int) → (List (Int × List (List Int) × Unit)) → Int → (List Int) → Option (List (Int × List (List Int) × Unit) × Int × List Int)) (a78 : Int → Option (Int)) (a79 : (Option (List Int)) → Option (List Int)) (a80 : (List Int) → Option (List Int)) (N : Nat) (l0 : Option (List Int)) (left1 : List Int) (p2 : List (Int × List (List Int) × Unit)) (p3 : Int) (p4 : List Int) : callF (E77c a56 a62 a77c a78 a79 a80) lv77c N en77c c77c (resOf Try.f77) 53 [.dv (.nsl (.int .i64)) l0, .dv (.sl (.int .i64)) left1, .ptr 9000 0 [], .ptr 9001 0 [0], .ptr 9002 0 [0], .ptr 9003 0 [0]] [(9000, .row (.pair (.int .i64) (.pair (.sl (.sl (.int .i64))) (.unit))) p2), (9001, .rcd [.dv (.int .i64) p3]), (9002, .rcd [.dv (.sl (.int .i64)) p4]), (9003, .rcd [.fn 77 0 4 fun i => ([.ptr 9000 0 [], .ptr 9001 0 [0], .ptr 9002 0 [0], .ptr 9003 0 [0]] : List TV).getD i .any])] dec77c = cond ((left1.length : Int) == (0 : Int)) ((a56 (p2.getD 0 ((0 : Int), (([] : List (List Int)), ()))) (l0.getD [])).bind fun r1 =>
      (a78 r1).bind fun r2 =>
      cond (decide (r2 > p3)) ((a79 l0).bind fun r3 =>
      some (p2, r2, r3))
      (some (p2, p3, p4)))
      ((R77c_0 a56 a62 a77c a78 a79 a80 N N (Sl77ca l0 left1 (0 : Int) p2 p3 p4))) := by kernel_rfl
theorem k77c (a56 : (Int × List (List Int) × Unit) → (List Int) → Option (Int)) (a62 : (List (List Int)) → Option (List Int)) (a77c : (Option (List Int)) → (List Int) → (List (Int × List (List Int) × Unit)) → Int → (List Int) → Option (List (Int × List (List Int) × Unit) × Int × List Int)) (a78 : Int → Option (Int)) (a79 : (Option (List Int)) → Option (List Int)) (a80 : (List Int) → Option (List Int)) (N : Nat) (l0 : Option (List Int)) (left1 : List Int) (p2 : List (Int × List (List Int) × Unit)) (p3 : Int) (p4 : List Int) : callF (E77c a56 a62 a77c a78 a79 a80) lv77c N en77c c77c (resOf Try.f77) 53 [.dv (.nsl (.int .i64)) l0, .dv (.sl (.int .i64)) left1, .ptr 9000 0 [], .ptr 9001 0 [0], .ptr 9002 0 [0], .ptr 9003 0 [0]] [(9000, .row (.pair (.int .i64) (.pair (.sl (.sl (.int .i64))) (.unit))) p2), (9001, .rcd [.dv (.int .i64) p3]), (9002, .rcd [.dv (.sl (.int .i64)) p4]), (9003, .rcd [.fn 77 0 4 fun i => ([.ptr 9000 0 [], .ptr 9001 0 [0], .ptr 9002 0 [0], .ptr 9003 0 [0]] : List TV).getD i .any])] dec77c = m77c a56 a62 a77c a78 a79 a80 N l0 left1 p2 p3 p4 := by rw [wm77c]; simp only [m77c, ql77ca]
theorem ok77c (a56 : (Int × List (List Int) × Unit) → (List Int) → Option (Int)) (a62 : (List (List Int)) → Option (List Int)) (a77c : (Option (List Int)) → (List Int) → (List (Int × List (List Int) × Unit)) → Int → (List Int) → Option (List (Int × List (List Int) × Unit) × Int × List Int)) (a78 : Int → Option (Int)) (a79 : (Option (List Int)) → Option (List Int)) (a80 : (List Int) → Option (List Int)) (h56 : FnOk Try.prog 56 (F56 a56)) (h62 : FnOk Try.prog 62 (F62 a62)) (h77c : FnOk Try.prog 77 (F77c a77c)) (h78 : FnOk Try.prog 78 (F78 a78)) (h79 : FnOk Try.prog 79 (F79 a79)) (h80 : FnOk Try.prog 80 (F80 a80)) (a : (Option (List Int)) → (List Int) → (List (Int × List (List Int) × Unit)) → Int → (List Int) → Option (List (Int × List (List Int) × Unit) × Int × List Int)) (h : ∀ l0 left1 p2 p3 p4 r, a l0 left1 p2 p3 p4 = some r → (∃ N, m77c a56 a62 a77c a78 a79 a80 N l0 left1 p2 p3 p4 = some r)) : FnOk Try.prog 77 (F77c a) := by
  intro args Of x hx
  simp only [F77c] at hx
  split at hx
  · rename_i l0 left1 p2 p3 p4 f_0 heqc
    have hc0 := congrArg (fun c : List (List TV) => c.getD 0 []) heqc
    obtain ⟨N, hN⟩ := h _ _ _ _ _ _ hx
    refine HSpec.etaL (args := [.dv (.nsl (.int .i64)) l0, .dv (.sl (.int .i64)) left1, .ptr 9000 0 [], .ptr 9001 0 [0], .ptr 9002 0 [0], .ptr 9003 0 [0]]) (O := [(9000, .row (.pair (.int .i64) (.pair (.sl (.sl (.int .i64))) (.unit))) p2), (9001, .rcd [.dv (.int .i64) p3]), (9002, .rcd [.dv (.sl (.int .i64)) p4]), (9003, .rcd [.fn 77 0 4 fun i => ([.ptr 9000 0 [], .ptr 9001 0 [0], .ptr 9002 0 [0], .ptr 9003 0 [0]] : List TV).getD i .any])]) ⟨TV.sim_refl _, TV.sim_refl _, TV.sim_refl _, TV.sim_refl _, TV.sim_refl _, TV.sim_refl _, trivial⟩ ⟨rfl, TO.sim_refl _, rfl, TO.sim_refl _, rfl, TO.sim_refl _, rfl, TO.sim_rcd ⟨TV.sim_fn hc0, trivial⟩, trivial⟩ (liftedS (L := [(56, F56 a56), (62, F62 a62), (77, F77c a77c), (78, F78 a78), (79, F79 a79), (80, F80 a80)]) (rc := nrc) (fz := nfz) (fn := Try.f77) (by kernel_rfl) (by kernel_rfl) (by kernel_rfl) (by kernel_rfl) rfl ?_ ((k77c a56 a62 a77c a78 a79 a80 N _ _ _ _ _).trans hN) ?_)
    · intro p hp; simp only [List.mem_cons, List.not_mem_nil, or_false] at hp; rcases hp with rfl | rfl | rfl | rfl | rfl | rfl
      · exact h56
      · exact h62
      · exact h77c
      · exact h78
      · exact h79
      · exact h80
    · intro l o hd
      simp only [dec77c] at hd
      split at hd
      · rename_i heqd
        have hd0 := congrArg (fun c : List (List TV) => c.getD 0 []) heqd
        obtain rfl := Option.some.inj hd; exact ⟨TV.sim_refl _, ⟨rfl, TO.sim_refl _, rfl, TO.sim_refl _, rfl, TO.sim_refl _, rfl, TO.sim_rcd ⟨TV.sim_symm (TV.sim_fn hd0), trivial⟩, trivial⟩⟩
      · cases hd
  · cases hx
def E39 (a55 : (Int × List (List Int) × Unit) → (List Int) → Int → Option (Int)) (a75c90 : (List Int) → Option (List Int × List Int)) (a76 : (List Int) → Option (List Int)) (a77c : (Option (List Int)) → (List Int) → (List (Int × List (List Int) × Unit)) → Int → (List Int) → Option (List (Int × List (List Int) × Unit) × Int × List Int)) : Env := mkE TI TY [(55, F55 a55), (75, F75c90 a75c90), (76, F76 a76), (77, F77c a77c)] (fun i => ([(4, [some (.sl (.int .i64))])] : List (Nat × List (Option DT))).lookup i) nfz
noncomputable def c39 : Code := bodyOf Try.f39
def lv39 : Nat → Option Norm := norms []
def en39 : End := ⟨[(25, .sl (.int .i64))], ⟨[25, 26, 27], [], [], []⟩⟩
def dec39 (l : List TV) (o : List (Nat × TO)) : Option (List Int × Int × Int) := match l, o with | [.dv (.sl (.int .i64)) x0, .dv (.int .i64) x1, .dv (.int .i64) x2], [] => some (x0, x1, x2) | _, _ => none
def m39 (a55 : (Int × List (List Int) × Unit) → (List Int) → Int → Option (Int)) (a75c90 : (List Int) → Option (List Int × List Int)) (a76 : (List Int) → Option (List Int)) (a77c : (Option (List Int)) → (List Int) → (List (Int × List (List Int) × Unit)) → Int → (List Int) → Option (List (Int × List (List Int) × Unit) × Int × List Int)) (N : Nat) (p0 : Int × List (List Int) × Unit) (stones1 : List Int) : Option (List Int × Int × Int) :=
      (a55 p0 stones1 (6 : Int)).bind fun r1 =>
      cond (r1 != (0 : Int)) (some (([] : List Int), (0 : Int), r1))
      ((a76 stones1).bind fun r2 =>
      (a75c90 r2).bind fun r3 =>
      (a77c (none : Option (List Int)) r3.1 ([p0] : List (Int × List (List Int) × Unit)) (0 : Int) ([] : List Int)).bind fun r4 =>
      some (r4.2.2, r4.2.1, (0 : Int)))
theorem k39 (a55 : (Int × List (List Int) × Unit) → (List Int) → Int → Option (Int)) (a75c90 : (List Int) → Option (List Int × List Int)) (a76 : (List Int) → Option (List Int)) (a77c : (Option (List Int)) → (List Int) → (List (Int × List (List Int) × Unit)) → Int → (List Int) → Option (List (Int × List (List Int) × Unit) × Int × List Int)) (N : Nat) (p0 : Int × List (List Int) × Unit) (stones1 : List Int) : callF (E39 a55 a75c90 a76 a77c) lv39 N en39 c39 (resOf Try.f39) 23 [.dv (.pair (.int .i64) (.pair (.sl (.sl (.int .i64))) (.unit))) p0, .dv (.sl (.int .i64)) stones1] [] dec39 = m39 a55 a75c90 a76 a77c N p0 stones1 := by kernel_rfl
theorem ok39 (a55 : (Int × List (List Int) × Unit) → (List Int) → Int → Option (Int)) (a75c90 : (List Int) → Option (List Int × List Int)) (a76 : (List Int) → Option (List Int)) (a77c : (Option (List Int)) → (List Int) → (List (Int × List (List Int) × Unit)) → Int → (List Int) → Option (List (Int × List (List Int) × Unit) × Int × List Int)) (h55 : FnOk Try.prog 55 (F55 a55)) (h75c90 : FnOk Try.prog 75 (F75c90 a75c90)) (h76 : FnOk Try.prog 76 (F76 a76)) (h77c : FnOk Try.prog 77 (F77c a77c)) (a : (Int × List (List Int) × Unit) → (List Int) → Option (List Int × Int × Int)) (h : ∀ p0 stones1 r, a p0 stones1 = some r → (∃ N, m39 a55 a75c90 a76 a77c N p0 stones1 = some r)) : FnOk Try.prog 39 (F39 a) := by
  intro args Of x hx
  simp only [F39] at hx
  split at hx
  · rename_i p0 stones1
    obtain ⟨N, hN⟩ := h _ _ _ hx
    refine lifted (L := [(55, F55 a55), (75, F75c90 a75c90), (76, F76 a76), (77, F77c a77c)]) (rc := (fun i => ([(4, [some (.sl (.int .i64))])] : List (Nat × List (Option DT))).lookup i)) (fz := nfz) (fn := Try.f39) (by kernel_rfl) (by kernel_rfl) (by kernel_rfl) (by kernel_rfl) rfl ?_ ((k39 a55 a75c90 a76 a77c N _ _).trans hN) ?_
    · intro p hp; simp only [List.mem_cons, List.not_mem_nil, or_false] at hp; rcases hp with rfl | rfl | rfl | rfl
      · exact h55
      · exact h75c90
      · exact h76
      · exact h77c
    · intro l o hd
      simp only [dec39] at hd
      split at hd
      · obtain rfl := Option.some.inj hd; exact ⟨rfl, rfl⟩
      · cases hd
  · cases hx
def E52 : Env := mkE TI TY [] nrc nfz
noncomputable def c52 : Code := bodyOf Try.f52
def lv52 : Nat → Option Norm := norms []
def en52 : End := ⟨[(6, .pair (.int .i64) (.pair (.sl (.sl (.int .i64))) (.unit)))], ⟨[6], [], [], []⟩⟩
def dec52 (l : List TV) (o : List (Nat × TO)) : Option (Int × List (List Int) × Unit) := match l, o with | [.dv (.pair (.int .i64) (.pair (.sl (.sl (.int .i64))) (.unit))) x0], [] => some (x0) | _, _ => none
def m52 (N : Nat) : Option (Int × List (List Int) × Unit) :=
      some ((5 : Int), (([([(1 : Int), (1 : Int), (3 : Int), (3 : Int), (4 : Int)] : List Int), ([(2 : Int), (3 : Int), (2 : Int), (3 : Int), (4 : Int)] : List Int), ([(4 : Int), (4 : Int), (4 : Int), (4 : Int), (4 : Int)] : List Int)] : List (List Int)), ()))
theorem k52 (N : Nat) : callF (E52) lv52 N en52 c52 (resOf Try.f52) 6 [] [] dec52 = m52 N := by kernel_rfl
theorem ok52 (a : Option (Int × List (List Int) × Unit)) (h : ∀ r, a = some r → (∃ N, m52 N = some r)) : FnOk Try.prog 52 (F52 a) := by
  intro args Of x hx
  simp only [F52] at hx
  split at hx
  · skip
    obtain ⟨N, hN⟩ := h _ hx
    refine lifted (L := []) (rc := nrc) (fz := nfz) (fn := Try.f52) (by kernel_rfl) (by kernel_rfl) (by kernel_rfl) (by kernel_rfl) rfl ?_ ((k52 N).trans hN) ?_
    · intro p hp; cases hp
    · intro l o hd
      simp only [dec52] at hd
      split at hd
      · obtain rfl := Option.some.inj hd; exact ⟨rfl, rfl⟩
      · cases hd
  · cases hx
def E53 : Env := mkE TI TY [] nrc nfz
noncomputable def c53 : Code := bodyOf Try.f53
def lv53 : Nat → Option Norm := norms []
def en53 : End := ⟨[(4, .sl (.int .i64))], ⟨[4], [], [], []⟩⟩
def dec53 (l : List TV) (o : List (Nat × TO)) : Option (List Int) := match l, o with | [.dv (.sl (.int .i64)) x0], [] => some (x0) | _, _ => none
def m53 (N : Nat) (l0 : List Int) : Option (List Int) :=
      some l0
theorem k53 (N : Nat) (l0 : List Int) : callF (E53) lv53 N en53 c53 (resOf Try.f53) 3 [.dv (.sl (.int .i64)) l0] [] dec53 = m53 N l0 := by kernel_rfl
theorem ok53 (a : (List Int) → Option (List Int)) (h : ∀ l0 r, a l0 = some r → (∃ N, m53 N l0 = some r)) : FnOk Try.prog 53 (F53 a) := by
  intro args Of x hx
  simp only [F53] at hx
  split at hx
  · rename_i l0
    obtain ⟨N, hN⟩ := h _ _ hx
    refine lifted (L := []) (rc := nrc) (fz := nfz) (fn := Try.f53) (by kernel_rfl) (by kernel_rfl) (by kernel_rfl) (by kernel_rfl) rfl ?_ ((k53 N _).trans hN) ?_
    · intro p hp; cases hp
    · intro l o hd
      simp only [dec53] at hd
      split at hd
      · obtain rfl := Option.some.inj hd; exact ⟨rfl, rfl⟩
      · cases hd
  · cases hx
def E54 : Env := mkE TI TY [] nrc nfz
noncomputable def c54 : Code := bodyOf Try.f54
def lv54 : Nat → Option Norm := norms []
def en54 : End := ⟨[(5, .pair (.int .i64) (.pair (.sl (.sl (.int .i64))) (.unit)))], ⟨[5], [], [], []⟩⟩
def dec54 (l : List TV) (o : List (Nat × TO)) : Option (Int × List (List Int) × Unit) := match l, o with | [.dv (.pair (.int .i64) (.pair (.sl (.sl (.int .i64))) (.unit))) x0], [] => some (x0) | _, _ => none
def m54 (N : Nat) : Option (Int × List (List Int) × Unit) :=
      some ((5 : Int), (([([(1 : Int), (1 : Int), (3 : Int), (3 : Int), (4 : Int)] : List Int), ([(2 : Int), (3 : Int), (2 : Int), (3 : Int), (4 : Int)] : List Int)] : List (List Int)), ()))
theorem k54 (N : Nat) : callF (E54) lv54 N en54 c54 (resOf Try.f54) 5 [] [] dec54 = m54 N := by kernel_rfl
theorem ok54 (a : Option (Int × List (List Int) × Unit)) (h : ∀ r, a = some r → (∃ N, m54 N = some r)) : FnOk Try.prog 54 (F54 a) := by
  intro args Of x hx
  simp only [F54] at hx
  split at hx
  · skip
    obtain ⟨N, hN⟩ := h _ hx
    refine lifted (L := []) (rc := nrc) (fz := nfz) (fn := Try.f54) (by kernel_rfl) (by kernel_rfl) (by kernel_rfl) (by kernel_rfl) rfl ?_ ((k54 N).trans hN) ?_
    · intro p hp; cases hp
    · intro l o hd
      simp only [dec54] at hd
      split at hd
      · obtain rfl := Option.some.inj hd; exact ⟨rfl, rfl⟩
      · cases hd
  · cases hx
def E16 (a17 : (Int × List (List Int) × Unit) → (List Int) → Option (List Int × Int)) (a19 : (Int × List (List Int) × Unit) → (List Int) → (List Bool) → Option (Int × Int)) (a21 : (Int × List (List Int) × Unit) → (List Int) → Option (List Int × Int)) (a23 : (List Int) → (List Int) → Option (Bool)) (a26 : (Int × List (List Int) × Unit) → (List Int) → Int → Option (List Bool × Int)) (a29 : (Int × List (List Int) × Unit) → Option (List Int × Int)) (a31 : (Int × List (List Int) × Unit) → (List Int) → Int → Option (Int)) (a33 : (Int × List (List Int) × Unit) → (List Int) → Option (List Int × Int)) (a35 : (Int × List (List Int) × Unit) → Int → Option (Int × Int)) (a37 : (Int × List (List Int) × Unit) → (List Int) → (List Int) → Option (Int)) (a39 : (Int × List (List Int) × Unit) → (List Int) → Option (List Int × Int × Int)) (a52 : Option (Int × List (List Int) × Unit)) (a53 : (List Int) → Option (List Int)) (a54 : Option (Int × List (List Int) × Unit)) : Env := mkE TI TY [(17, F17 a17), (19, F19 a19), (21, F21 a21), (23, F23 a23), (26, F26 a26), (29, F29 a29), (31, F31 a31), (33, F33 a33), (35, F35 a35), (37, F37 a37), (39, F39 a39), (52, F52 a52), (53, F53 a53), (54, F54 a54)] nrc nfz
noncomputable def c16 : Code := bodyOf Try.f16
def lv16 : Nat → Option Norm := norms []
def en16 : End := ⟨[], ⟨[193], [], [], []⟩⟩
def dec16 (l : List TV) (o : List (Nat × TO)) : Option (Bool) := match l, o with | [.dv (.bool) x0], [] => some (x0) | _, _ => none
def m16 (a17 : (Int × List (List Int) × Unit) → (List Int) → Option (List Int × Int)) (a19 : (Int × List (List Int) × Unit) → (List Int) → (List Bool) → Option (Int × Int)) (a21 : (Int × List (List Int) × Unit) → (List Int) → Option (List Int × Int)) (a23 : (List Int) → (List Int) → Option (Bool)) (a26 : (Int × List (List Int) × Unit) → (List Int) → Int → Option (List Bool × Int)) (a29 : (Int × List (List Int) × Unit) → Option (List Int × Int)) (a31 : (Int × List (List Int) × Unit) → (List Int) → Int → Option (Int)) (a33 : (Int × List (List Int) × Unit) → (List Int) → Option (List Int × Int)) (a35 : (Int × List (List Int) × Unit) → Int → Option (Int × Int)) (a37 : (Int × List (List Int) × Unit) → (List Int) → (List Int) → Option (Int)) (a39 : (Int × List (List Int) × Unit) → (List Int) → Option (List Int × Int × Int)) (a52 : Option (Int × List (List Int) × Unit)) (a53 : (List Int) → Option (List Int)) (a54 : Option (Int × List (List Int) × Unit)) (N : Nat) : Option (Bool) :=
      (a52).bind fun r1 =>
      (a53 ([(2 : Int), (0 : Int)] : List Int)).bind fun r2 =>
      (a17 r1 r2).bind fun r3 =>
      (a52).bind fun r4 =>
      (a53 ([(0 : Int), (1 : Int)] : List Int)).bind fun r5 =>
      (a19 r4 r5 ([true, true] : List Bool)).bind fun r6 =>
      (a52).bind fun r7 =>
      (a53 ([(0 : Int), (1 : Int), (2 : Int)] : List Int)).bind fun r8 =>
      (a26 r7 r8 (4 : Int)).bind fun r9 =>
      (a52).bind fun r10 =>
      (a53 ([(2 : Int), (0 : Int)] : List Int)).bind fun r11 =>
      (a26 r10 r11 (3 : Int)).bind fun r12 =>
      (a52).bind fun r13 =>
      (a53 ([(3 : Int), (4 : Int)] : List Int)).bind fun r14 =>
      (a33 r13 r14).bind fun r15 =>
      (a52).bind fun r16 =>
      (a35 r16 (3 : Int)).bind fun r17 =>
      (a52).bind fun r18 =>
      (a53 ([(0 : Int), (0 : Int), (1 : Int)] : List Int)).bind fun r19 =>
      (a21 r18 r19).bind fun r20 =>
      (a52).bind fun r21 =>
      (a53 ([(2 : Int), (1 : Int), (0 : Int)] : List Int)).bind fun r22 =>
      (a39 r21 r22).bind fun r23 =>
      (a52).bind fun r24 =>
      (a29 r24).bind fun r25 =>
      cond (r3.2 != (0 : Int)) (some false)
      (cond (r6.2 != (0 : Int)) (some false)
      (cond (r9.2 != (0 : Int)) (some false)
      (cond (r12.2 != (14 : Int)) (some false)
      (cond (r15.2 != (0 : Int)) (some false)
      (cond (r17.2 != (0 : Int)) (some false)
      (cond (r20.2 != (0 : Int)) (some false)
      (cond (r23.2.2 != (0 : Int)) (some false)
      (cond (r25.2 != (0 : Int)) (some false)
      ((a53 ([(0 : Int), (1 : Int), (4 : Int)] : List Int)).bind fun r26 =>
      (a23 r3.1 r26).bind fun r27 =>
      cond (r27) (cond (r6.1 == (3 : Int)) (cond ((r9.1.length : Int) == (3 : Int)) (chk (decide (0 ≤ (0 : Int) ∧ (0 : Int) < (r9.1.length : Int))) (cond (!(r9.1.getD 0 false)) (chk (decide (0 ≤ (1 : Int) ∧ (1 : Int) < (r9.1.length : Int))) (cond (!(r9.1.getD 1 false)) (chk (decide (0 ≤ (2 : Int) ∧ (2 : Int) < (r9.1.length : Int))) (cond (r9.1.getD 2 false) ((a53 ([(0 : Int), (1 : Int), (2 : Int)] : List Int)).bind fun r28 =>
      (a23 r15.1 r28).bind fun r29 =>
      cond (r29) (cond (r17.1 == (2 : Int)) ((a53 ([(0 : Int), (1 : Int)] : List Int)).bind fun r30 =>
      (a23 r20.1 r30).bind fun r31 =>
      cond (r31) ((a53 ([(0 : Int), (1 : Int), (2 : Int)] : List Int)).bind fun r32 =>
      (a23 r23.1 r32).bind fun r33 =>
      cond (r33) (cond (r23.2.1 == (5 : Int)) ((a53 ([(0 : Int), (1 : Int), (2 : Int), (3 : Int), (4 : Int)] : List Int)).bind fun r34 =>
      (a23 r25.1 r34).bind fun r35 =>
      cond (r35) ((a54).bind fun r36 =>
      (a53 ([(0 : Int), (1 : Int), (2 : Int), (3 : Int)] : List Int)).bind fun r37 =>
      (a31 r36 r37 (4 : Int)).bind fun r38 =>
      cond (r38 == (0 : Int)) ((a52).bind fun r39 =>
      (a53 ([(1 : Int), (2 : Int)] : List Int)).bind fun r40 =>
      (a53 ([(0 : Int), (1 : Int)] : List Int)).bind fun r41 =>
      (a37 r39 r40 r41).bind fun r42 =>
      some (r42 == (0 : Int)))
      (some false))
      (some false))
      (some false))
      (some false))
      (some false))
      (some false))
      (some false))
      (some false)))
      (some false)))
      (some false)))
      (some false))
      (some false))
      (some false))))))))))
theorem k16 (a17 : (Int × List (List Int) × Unit) → (List Int) → Option (List Int × Int)) (a19 : (Int × List (List Int) × Unit) → (List Int) → (List Bool) → Option (Int × Int)) (a21 : (Int × List (List Int) × Unit) → (List Int) → Option (List Int × Int)) (a23 : (List Int) → (List Int) → Option (Bool)) (a26 : (Int × List (List Int) × Unit) → (List Int) → Int → Option (List Bool × Int)) (a29 : (Int × List (List Int) × Unit) → Option (List Int × Int)) (a31 : (Int × List (List Int) × Unit) → (List Int) → Int → Option (Int)) (a33 : (Int × List (List Int) × Unit) → (List Int) → Option (List Int × Int)) (a35 : (Int × List (List Int) × Unit) → Int → Option (Int × Int)) (a37 : (Int × List (List Int) × Unit) → (List Int) → (List Int) → Option (Int)) (a39 : (Int × List (List Int) × Unit) → (List Int) → Option (List Int × Int × Int)) (a52 : Option (Int × List (List Int) × Unit)) (a53 : (List Int) → Option (List Int)) (a54 : Option (Int × List (List Int) × Unit)) (N : Nat) : callF (E16 a17 a19 a21 a23 a26 a29 a31 a33 a35 a37 a39 a52 a53 a54) lv16 N en16 c16 (resOf Try.f16) 193 [] [] dec16 = m16 a17 a19 a21 a23 a26 a29 a31 a33 a35 a37 a39 a52 a53 a54 N := by kernel_rfl
theorem ok16 (a17 : (Int × List (List Int) × Unit) → (List Int) → Option (List Int × Int)) (a19 : (Int × List (List Int) × Unit) → (List Int) → (List Bool) → Option (Int × Int)) (a21 : (Int × List (List Int) × Unit) → (List Int) → Option (List Int × Int)) (a23 : (List Int) → (List Int) → Option (Bool)) (a26 : (Int × List (List Int) × Unit) → (List Int) → Int → Option (List Bool × Int)) (a29 : (Int × List (List Int) × Unit) → Option (List Int × Int)) (a31 : (Int × List (List Int) × Unit) → (List Int) → Int → Option (Int)) (a33 : (Int × List (List Int) × Unit) → (List Int) → Option (List Int × Int)) (a35 : (Int × List (List Int) × Unit) → Int → Option (Int × Int)) (a37 : (Int × List (List Int) × Unit) → (List Int) → (List Int) → Option (Int)) (a39 : (Int × List (List Int) × Unit) → (List Int) → Option (List Int × Int × Int)) (a52 : Option (Int × List (List Int) × Unit)) (a53 : (List Int) → Option (List Int)) (a54 : Option (Int × List (List Int) × Unit)) (h17 : FnOk Try.prog 17 (F17 a17)) (h19 : FnOk Try.prog 19 (F19 a19)) (h21 : FnOk Try.prog 21 (F21 a21)) (h23 : FnOk Try.prog 23 (F23 a23)) (h26 : FnOk Try.prog 26 (F26 a26)) (h29 : FnOk Try.prog 29 (F29 a29)) (h31 : FnOk Try.prog 31 (F31 a31)) (h33 : FnOk Try.prog 33 (F33 a33)) (h35 : FnOk Try.prog 35 (F35 a35)) (h37 : FnOk Try.prog 37 (F37 a37)) (h39 : FnOk Try.prog 39 (F39 a39)) (h52 : FnOk Try.prog 52 (F52 a52)) (h53 : FnOk Try.prog 53 (F53 a53)) (h54 : FnOk Try.prog 54 (F54 a54)) (a : Option (Bool)) (h : ∀ r, a = some r → (∃ N, m16 a17 a19 a21 a23 a26 a29 a31 a33 a35 a37 a39 a52 a53 a54 N = some r)) : FnOk Try.prog 16 (F16 a) := by
  intro args Of x hx
  simp only [F16] at hx
  split at hx
  · skip
    obtain ⟨N, hN⟩ := h _ hx
    refine lifted (L := [(17, F17 a17), (19, F19 a19), (21, F21 a21), (23, F23 a23), (26, F26 a26), (29, F29 a29), (31, F31 a31), (33, F33 a33), (35, F35 a35), (37, F37 a37), (39, F39 a39), (52, F52 a52), (53, F53 a53), (54, F54 a54)]) (rc := nrc) (fz := nfz) (fn := Try.f16) (by kernel_rfl) (by kernel_rfl) (by kernel_rfl) (by kernel_rfl) rfl ?_ ((k16 a17 a19 a21 a23 a26 a29 a31 a33 a35 a37 a39 a52 a53 a54 N).trans hN) ?_
    · intro p hp; simp only [List.mem_cons, List.not_mem_nil, or_false] at hp; rcases hp with rfl | rfl | rfl | rfl | rfl | rfl | rfl | rfl | rfl | rfl | rfl | rfl | rfl | rfl
      · exact h17
      · exact h19
      · exact h21
      · exact h23
      · exact h26
      · exact h29
      · exact h31
      · exact h33
      · exact h35
      · exact h37
      · exact h39
      · exact h52
      · exact h53
      · exact h54
    · intro l o hd
      simp only [dec16] at hd
      split at hd
      · obtain rfl := Option.some.inj hd; exact ⟨rfl, rfl⟩
      · cases hd
  · cases hx
end Go.Proofs.Ytaioadjcdjmkdaa
