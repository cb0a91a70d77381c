/-
 The functions that the law reaches, told as plain functions.
-/
import Derived.Test.YtjcnfpfldocpdaaGreatDoorQFI
namespace Go.Proofs.YtjcnfpfldocpdaaGreatDoor
open Go.RowKit
set_option linter.unusedVariables false
def E34 : Env := mkE TI TY [] nrc nfz
noncomputable def c34 : Code := bodyOf Tryz.f34
def lv34 : Nat → Option Norm := norms []
def en34 : End := ⟨[], ⟨[15], [], [], []⟩⟩
def dec34 (l : List TV) (o : List (Nat × TO)) : Option (Bool) := match l, o with | [.dv (.bool) x0], [] => some (x0) | _, _ => none
def m34 (N : Nat) (lo0 : Int) (n1 : Int) (hi2 : Int) : Option (Bool) :=
   cond (decide (lo0 ≤ n1)) (some (decide (n1 ≤ hi2)))
   (some false)
theorem k34 (N : Nat) (lo0 : Int) (n1 : Int) (hi2 : Int) : callF (E34) lv34 N en34 c34 (resOf Tryz.f34) 12 [.dv (.int .i64) lo0, .dv (.int .i64) n1, .dv (.int .i64) hi2] [] dec34 = m34 N lo0 n1 hi2 := by kernel_rfl
theorem ok34 (a : Y34) (h : ∀ lo0 n1 hi2 r, a lo0 n1 hi2 = some r → (∃ N, m34 N lo0 n1 hi2 = some r)) : FnOk Tryz.prog 34 (F34 a) := by
 intro args Of x hx
 simp only [F34] at hx
 split at hx
 ·rename_i lo0 n1 hi2
  obtain ⟨N, hN⟩ := h _ _ _ _ hx
  refine lifted (L := []) (rc := nrc) (fz := nfz) (fn := Tryz.f34) (by kernel_rfl) (by kernel_rfl) (by kernel_rfl) (by kernel_rfl) rfl ?_ ((k34 N _ _ _).trans hN) ?_
  ·intro p hp; cases hp
  ·intro l o hd
   simp only [dec34] at hd
   split at hd
   ·obtain rfl := Option.some.inj hd; exact ⟨rfl, rfl⟩
   ·cases hd
 ·cases hx
def E62 (a34 : Y34) : Env := mkE TI TY [(34, F34 a34)] nrc nfz
noncomputable def c62 : Code := bodyOf Tryz.f62
def lv62 : Nat → Option Norm := norms []
def en62 : End := ⟨[], ⟨[13], [], [], []⟩⟩
def dec62 (l : List TV) (o : List (Nat × TO)) : Option (Bool) := match l, o with | [.dv (.bool) x0], [] => some (x0) | _, _ => none
def m62 (a34 : Y34) (N : Nat) (o0 : Int × Int × Unit) : Option (Bool) :=
   (a34 (1 : Int) o0.1 (30 : Int)).bind fun r1 =>
   cond (!r1) (some true)
   ((a34 (0 : Int) o0.2.1 (10000 : Int)).bind fun r2 =>
   some (!r2))
theorem k62 (a34 : Y34) (N : Nat) (o0 : Int × Int × Unit) : callF (E62 a34) lv62 N en62 c62 (resOf Tryz.f62) 12 [.dv (.pair (.int .i64) (.pair (.int .i64) (.unit))) o0] [] dec62 = m62 a34 N o0 := by kernel_rfl
theorem ok62 (a34 : Y34) (h34 : FnOk Tryz.prog 34 (F34 a34)) (a : Y62) (h : ∀ o0 r, a o0 = some r → (∃ N, m62 a34 N o0 = some r)) : FnOk Tryz.prog 62 (F62 a) := by
 intro args Of x hx
 simp only [F62] at hx
 split at hx
 ·rename_i o0
  obtain ⟨N, hN⟩ := h _ _ hx
  refine lifted (L := [(34, F34 a34)]) (rc := nrc) (fz := nfz) (fn := Tryz.f62) (by kernel_rfl) (by kernel_rfl) (by kernel_rfl) (by kernel_rfl) rfl ?_ ((k62 a34 N _).trans hN) ?_
  ·intro p hp; simp only [List.mem_cons, List.not_mem_nil, or_false] at hp; rcases hp with rfl; exact h34
  ·intro l o hd
   simp only [dec62] at hd
   split at hd
   ·obtain rfl := Option.some.inj hd; exact ⟨rfl, rfl⟩
   ·cases hd
 ·cases hx
def E39c62 (a62 : Y62) : Env := mkE TI TY [(62, F62 a62)] nrc nfz
noncomputable def c39c62 : Code := bodyOf Tryz.f39
def nm39c62_0 : Norm := ⟨[0, 1, 7, 8], [], [], []⟩
def lv39c62 : Nat → Option Norm := norms [(2, nm39c62_0)]
def en39c62 : End := ⟨[], ⟨[19], [], [], []⟩⟩
def dec39c62 (l : List TV) (o : List (Nat × TO)) : Option (Int) := match l, o with | [.dv (.int .i64) x0], [] => some (x0) | _, _ => none
def Sl39c62a (s0 : List Tr) (t8_a : Int) : TS := ⟨slots 19 [(0, .dv (.sl (.pair (.int .i64) (.pair (.int .i64) (.unit)))) s0), (1, .fn 62 0 0 fun i => ([] : List TV).getD i .any), (7, .dv (.int .i64) (s0.length : Int)), (8, .dv (.int .i64) t8_a)], []⟩
noncomputable def K39c62_0 (a62 : Y62) (N : Nat) : Kont (Int) := kont (E39c62 a62) lv39c62 N c39c62 [1, 0, 1, 0] (fin TI en39c62 (resOf Tryz.f39) dec39c62)
noncomputable def R39c62_0 (a62 : Y62) (N : Nat) (m : Nat) : TS → Option (Int) := loopK (den (E39c62 a62) lv39c62 N (sub c39c62 [1, 0, 1, 0, 0])) (TS.norm nm39c62_0) (K39c62_0 a62 N) m
def l39c62a (a62 : Y62) (N : Nat) (s0 : List Tr) : Nat → Int → Option (Int)
 | 0, _ => none
 | n + 1, t8_a => cond (decide (t8_a < (s0.length : Int))) (chk (decide (0 ≤ t8_a ∧ t8_a < (s0.length : Int))) ((a62 (s0.getD t8_a.toNat ((0 : Int), ((0 : Int), ())))).bind fun r1 =>
   cond (r1) (some t8_a)
   ((l39c62a a62 N s0 n (w64 (t8_a + (1 : Int)))))))
   (some (-1 : Int))
theorem wl39c62a (a62 : Y62) (N : Nat) (s0 : List Tr) (m : Nat) (t8_a : Int) : R39c62_0 a62 N (m + 1) (Sl39c62a s0 t8_a) = cond (decide (t8_a < (s0.length : Int))) (chk (decide (0 ≤ t8_a ∧ t8_a < (s0.length : Int))) ((a62 (s0.getD t8_a.toNat ((0 : Int), ((0 : Int), ())))).bind fun r1 =>
   cond (r1) (some t8_a)
   ((R39c62_0 a62 N m (Sl39c62a s0 (w64 (t8_a + (1 : Int))))))))
   (some (-1 : Int)) := by kernel_rfl
theorem ql39c62a (a62 : Y62) (N : Nat) (s0 : List Tr) : ∀ (m : Nat) (t8_a : Int), R39c62_0 a62 N m (Sl39c62a s0 t8_a) = l39c62a a62 N s0 m t8_a
        | 0, _ => rfl
        | m + 1, t8_a => by rw [wl39c62a]; simp only [l39c62a, ql39c62a a62 N s0 m]
def m39c62 (a62 : Y62) (N : Nat) (s0 : List Tr) : Option (Int) :=
   (l39c62a a62 N s0 N (0 : Int))
theorem wm39c62 (a62 : Y62) (N : Nat) (s0 : List Tr) : callF (E39c62 a62) lv39c62 N en39c62 c39c62 (resOf Tryz.f39) 17 [.dv (.sl (.pair (.int .i64) (.pair (.int .i64) (.unit)))) s0, .fn 62 0 0 fun i => ([] : List TV).getD i .any] [] dec39c62 = (R39c62_0 a62 N N (Sl39c62a s0 (0 : Int))) := by kernel_rfl
theorem k39c62 (a62 : Y62) (N : Nat) (s0 : List Tr) : callF (E39c62 a62) lv39c62 N en39c62 c39c62 (resOf Tryz.f39) 17 [.dv (.sl (.pair (.int .i64) (.pair (.int .i64) (.unit)))) s0, .fn 62 0 0 fun i => ([] : List TV).getD i .any] [] dec39c62 = m39c62 a62 N s0 := by rw [wm39c62]; simp only [m39c62, ql39c62a]
theorem ok39c62 (a62 : Y62) (h62 : FnOk Tryz.prog 62 (F62 a62)) (a : Y39c62) (h : ∀ s0 r, a s0 = some r → (∃ N, m39c62 a62 N s0 = some r)) : FnOk Tryz.prog 39 (F39c62 a) := by
 intro args Of x hx
 simp only [F39c62] at hx
 split at hx
 ·rename_i s0 f_0 heqc
  have hc0 := congrArg (fun c : List (List TV) => c.getD 0 []) heqc
  obtain ⟨N, hN⟩ := h _ _ hx
  refine HSpec.etaL (args := [.dv (.sl (.pair (.int .i64) (.pair (.int .i64) (.unit)))) s0, .fn 62 0 0 fun i => ([] : List TV).getD i .any]) (O := []) ⟨TV.sim_refl _, TV.sim_fn hc0, trivial⟩ trivial (lifted (L := [(62, F62 a62)]) (rc := nrc) (fz := nfz) (fn := Tryz.f39) (by kernel_rfl) (by kernel_rfl) (by kernel_rfl) (by kernel_rfl) rfl ?_ ((k39c62 a62 N _).trans hN) ?_)
  ·intro p hp; simp only [List.mem_cons, List.not_mem_nil, or_false] at hp; rcases hp with rfl; exact h62
  ·intro l o hd
   simp only [dec39c62] at hd
   split at hd
   ·obtain rfl := Option.some.inj hd; exact ⟨rfl, rfl⟩
   ·cases hd
 ·cases hx
def E61c62 (a39c62 : Y39c62) : Env := mkE TI TY [(39, F39c62 a39c62)] nrc nfz
noncomputable def c61c62 : Code := bodyOf Tryz.f61
def lv61c62 : Nat → Option Norm := norms []
def en61c62 : End := ⟨[], ⟨[9], [], [], []⟩⟩
def dec61c62 (l : List TV) (o : List (Nat × TO)) : Option (Bool) := match l, o with | [.dv (.bool) x0], [] => some (x0) | _, _ => none
def m61c62 (a39c62 : Y39c62) (N : Nat) (s0 : List Tr) : Option (Bool) :=
   (a39c62 s0).bind fun r1 =>
   some (decide (r1 ≥ (0 : Int)))
theorem k61c62 (a39c62 : Y39c62) (N : Nat) (s0 : List Tr) : callF (E61c62 a39c62) lv61c62 N en61c62 c61c62 (resOf Tryz.f61) 7 [.dv (.sl (.pair (.int .i64) (.pair (.int .i64) (.unit)))) s0, .fn 62 0 0 fun i => ([] : List TV).getD i .any] [] dec61c62 = m61c62 a39c62 N s0 := by kernel_rfl
theorem ok61c62 (a39c62 : Y39c62) (h39c62 : FnOk Tryz.prog 39 (F39c62 a39c62)) (a : Y61c62) (h : ∀ s0 r, a s0 = some r → (∃ N, m61c62 a39c62 N s0 = some r)) : FnOk Tryz.prog 61 (F61c62 a) := by
 intro args Of x hx
 simp only [F61c62] at hx
 split at hx
 ·rename_i s0 f_0 heqc
  have hc0 := congrArg (fun c : List (List TV) => c.getD 0 []) heqc
  obtain ⟨N, hN⟩ := h _ _ hx
  refine HSpec.etaL (args := [.dv (.sl (.pair (.int .i64) (.pair (.int .i64) (.unit)))) s0, .fn 62 0 0 fun i => ([] : List TV).getD i .any]) (O := []) ⟨TV.sim_refl _, TV.sim_fn hc0, trivial⟩ trivial (lifted (L := [(39, F39c62 a39c62)]) (rc := nrc) (fz := nfz) (fn := Tryz.f61) (by kernel_rfl) (by kernel_rfl) (by kernel_rfl) (by kernel_rfl) rfl ?_ ((k61c62 a39c62 N _).trans hN) ?_)
  ·intro p hp; simp only [List.mem_cons, List.not_mem_nil, or_false] at hp; rcases hp with rfl; exact h39c62
  ·intro l o hd
   simp only [dec61c62] at hd
   split at hd
   ·obtain rfl := Option.some.inj hd; exact ⟨rfl, rfl⟩
   ·cases hd
 ·cases hx
def E33 (a61c62 : Y61c62) : Env := mkE TI TY [(61, F61c62 a61c62)] nrc nfz
noncomputable def c33 : Code := bodyOf Tryz.f33
def lv33 : Nat → Option Norm := norms []
def en33 : End := ⟨[], ⟨[14], [], [], []⟩⟩
def dec33 (l : List TV) (o : List (Nat × TO)) : Option (Int) := match l, o with | [.dv (.int .i64) x0], [] => some (x0) | _, _ => none
def m33 (a61c62 : Y61c62) (N : Nat) (lx0 : List Tr) : Option (Int) :=
   cond ((lx0.length : Int) == (0 : Int)) (some (1 : Int))
   (cond (decide ((lx0.length : Int) > (12 : Int))) (some (2 : Int))
   ((a61c62 lx0).bind fun r1 =>
   cond (r1) (some (4 : Int))
   (some (0 : Int))))
theorem k33 (a61c62 : Y61c62) (N : Nat) (lx0 : List Tr) : callF (E33 a61c62) lv33 N en33 c33 (resOf Tryz.f33) 13 [.dv (.sl (.pair (.int .i64) (.pair (.int .i64) (.unit)))) lx0] [] dec33 = m33 a61c62 N lx0 := by kernel_rfl
theorem ok33 (a61c62 : Y61c62) (h61c62 : FnOk Tryz.prog 61 (F61c62 a61c62)) (a : Y33) (h : ∀ lx0 r, a lx0 = some r → (∃ N, m33 a61c62 N lx0 = some r)) : FnOk Tryz.prog 33 (F33 a) := by
 intro args Of x hx
 simp only [F33] at hx
 split at hx
 ·rename_i lx0
  obtain ⟨N, hN⟩ := h _ _ hx
  refine lifted (L := [(61, F61c62 a61c62)]) (rc := nrc) (fz := nfz) (fn := Tryz.f33) (by kernel_rfl) (by kernel_rfl) (by kernel_rfl) (by kernel_rfl) rfl ?_ ((k33 a61c62 N _).trans hN) ?_
  ·intro p hp; simp only [List.mem_cons, List.not_mem_nil, or_false] at hp; rcases hp with rfl; exact h61c62
  ·intro l o hd
   simp only [dec33] at hd
   split at hd
   ·obtain rfl := Option.some.inj hd; exact ⟨rfl, rfl⟩
   ·cases hd
 ·cases hx
def E85 : Env := mkE TI TY [] nrc nfz
noncomputable def c85 : Code := bodyOf Tryz.f85
def lv85 : Nat → Option Norm := norms []
def en85 : End := ⟨[], ⟨[6], [], [], []⟩⟩
def dec85 (l : List TV) (o : List (Nat × TO)) : Option (Bool) := match l, o with | [.dv (.bool) x0], [] => some (x0) | _, _ => none
def m85 (N : Nat) (x0 : Int) : Option (Bool) :=
   some (x0 != x0)
theorem k85 (N : Nat) (x0 : Int) : callF (E85) lv85 N en85 c85 (resOf Tryz.f85) 5 [.dv (.int .i64) x0] [] dec85 = m85 N x0 := by kernel_rfl
theorem ok85 (a : Y85) (h : ∀ x0 r, a x0 = some r → (∃ N, m85 N x0 = some r)) : FnOk Tryz.prog 85 (F85 a) := by
 intro args Of x hx
 simp only [F85] at hx
 split at hx
 ·rename_i x0
  obtain ⟨N, hN⟩ := h _ _ hx
  refine lifted (L := []) (rc := nrc) (fz := nfz) (fn := Tryz.f85) (by kernel_rfl) (by kernel_rfl) (by kernel_rfl) (by kernel_rfl) rfl ?_ ((k85 N _).trans hN) ?_
  ·intro p hp; cases hp
  ·intro l o hd
   simp only [dec85] at hd
   split at hd
   ·obtain rfl := Option.some.inj hd; exact ⟨rfl, rfl⟩
   ·cases hd
 ·cases hx
def E65 (a85 : Y85) : Env := mkE TI TY [(85, F85 a85)] nrc nfz
noncomputable def c65 : Code := bodyOf Tryz.f65
def lv65 : Nat → Option Norm := norms []
def en65 : End := ⟨[], ⟨[20], [], [], []⟩⟩
def dec65 (l : List TV) (o : List (Nat × TO)) : Option (Int) := match l, o with | [.dv (.int .i64) x0], [] => some (x0) | _, _ => none
def m65 (a85 : Y85) (N : Nat) (x0 : Int) (y1 : Int) : Option (Int) :=
   (a85 x0).bind fun r1 =>
   (a85 y1).bind fun r2 =>
   cond (r1) (cond (r2) (some (0 : Int))
   (some (-1 : Int)))
   (cond (r2) (some (1 : Int))
   (cond (decide (x0 < y1)) (some (-1 : Int))
   (cond (decide (x0 > y1)) (some (1 : Int))
   (some (0 : Int)))))
theorem k65 (a85 : Y85) (N : Nat) (x0 : Int) (y1 : Int) : callF (E65 a85) lv65 N en65 c65 (resOf Tryz.f65) 18 [.dv (.int .i64) x0, .dv (.int .i64) y1] [] dec65 = m65 a85 N x0 y1 := by kernel_rfl
theorem ok65 (a85 : Y85) (h85 : FnOk Tryz.prog 85 (F85 a85)) (a : Y65) (h : ∀ x0 y1 r, a x0 y1 = some r → (∃ N, m65 a85 N x0 y1 = some r)) : FnOk Tryz.prog 65 (F65 a) := by
 intro args Of x hx
 simp only [F65] at hx
 split at hx
 ·rename_i x0 y1
  obtain ⟨N, hN⟩ := h _ _ _ hx
  refine lifted (L := [(85, F85 a85)]) (rc := nrc) (fz := nfz) (fn := Tryz.f65) (by kernel_rfl) (by kernel_rfl) (by kernel_rfl) (by kernel_rfl) rfl ?_ ((k65 a85 N _ _).trans hN) ?_
  ·intro p hp; simp only [List.mem_cons, List.not_mem_nil, or_false] at hp; rcases hp with rfl; exact h85
  ·intro l o hd
   simp only [dec65] at hd
   split at hd
   ·obtain rfl := Option.some.inj hd; exact ⟨rfl, rfl⟩
   ·cases hd
 ·cases hx
def E64 (a65 : Y65) : Env := mkE TI TY [(65, F65 a65)] nrc nfz
noncomputable def c64 : Code := bodyOf Tryz.f64
def lv64 : Nat → Option Norm := norms []
def en64 : End := ⟨[], ⟨[10], [], [], []⟩⟩
def dec64 (l : List TV) (o : List (Nat × TO)) : Option (Int) := match l, o with | [.dv (.int .i64) x0], [] => some (x0) | _, _ => none
def m64 (a65 : Y65) (N : Nat) (ax0 : Int × Int × Unit) (b1 : Int × Int × Unit) : Option (Int) :=
   (a65 ax0.2.1 b1.2.1).bind fun r1 =>
   some r1
theorem k64 (a65 : Y65) (N : Nat) (ax0 : Int × Int × Unit) (b1 : Int × Int × Unit) : callF (E64 a65) lv64 N en64 c64 (resOf Tryz.f64) 8 [.dv (.pair (.int .i64) (.pair (.int .i64) (.unit))) ax0, .dv (.pair (.int .i64) (.pair (.int .i64) (.unit))) b1] [] dec64 = m64 a65 N ax0 b1 := by kernel_rfl
theorem ok64 (a65 : Y65) (h65 : FnOk Tryz.prog 65 (F65 a65)) (a : Y64) (h : ∀ ax0 b1 r, a ax0 b1 = some r → (∃ N, m64 a65 N ax0 b1 = some r)) : FnOk Tryz.prog 64 (F64 a) := by
 intro args Of x hx
 simp only [F64] at hx
 split at hx
 ·rename_i ax0 b1
  obtain ⟨N, hN⟩ := h _ _ _ hx
  refine lifted (L := [(65, F65 a65)]) (rc := nrc) (fz := nfz) (fn := Tryz.f64) (by kernel_rfl) (by kernel_rfl) (by kernel_rfl) (by kernel_rfl) rfl ?_ ((k64 a65 N _ _).trans hN) ?_
  ·intro p hp; simp only [List.mem_cons, List.not_mem_nil, or_false] at hp; rcases hp with rfl; exact h65
  ·intro l o hd
   simp only [dec64] at hd
   split at hd
   ·obtain rfl := Option.some.inj hd; exact ⟨rfl, rfl⟩
   ·cases hd
 ·cases hx
def E66c (a64 : Y64) (a86c : Y86c) : Env := mkE TI TY [(64, F64 a64), (86, F86c a86c)] nrc nfz
noncomputable def c66c : Code := bodyOf Tryz.f66
def nm66c_0 : Norm := ⟨[0, 3, 4], [9000, 3, 9001], [], []⟩
def lv66c : Nat → Option Norm := norms [(2, nm66c_0)]
def en66c : End := ⟨[], ⟨[], [9000, 9001], [(.fld 9000 0, 2000, .pair (.int .i64) (.pair (.int .i64) (.unit)))], []⟩⟩
def dec66c (l : List TV) (o : List (Nat × TO)) : Option Tq := match l, o, capsOf l o with | [], [(2000, .row (.pair (.int .i64) (.pair (.int .i64) (.unit))) x0), (9000, .rcd [.row 2000, .fn 64 0 0 _]), (9001, .dead)], [[]] => some (x0) | _, _, _ => none
def Sl66ca (x1 : Int × Int × Unit) (p1 : List Tr) (at4_a : Int) : TS := ⟨slots 42 [(0, .ptr 9000 0 []), (3, .ptr 3 0 []), (4, .dv (.int .i64) at4_a)], [(9000, .rcd [.row 9001, .fn 64 0 0 fun i => ([] : List TV).getD i .any]), (3, .row (.pair (.int .i64) (.pair (.int .i64) (.unit))) ([x1] : List Tr)), (9001, .row (.pair (.int .i64) (.pair (.int .i64) (.unit))) p1)]⟩
noncomputable def K66c_0 (a64 : Y64) (a86c : Y86c) (N : Nat) : Kont Tq := kont (E66c a64 a86c) lv66c N c66c [1, 1, 0, 0] (fin TI en66c (resOf Tryz.f66) dec66c)
noncomputable def R66c_0 (a64 : Y64) (a86c : Y86c) (N : Nat) (m : Nat) : TS → Option Tq := loopK (den (E66c a64 a86c) lv66c N (sub c66c [1, 1, 0, 0, 0])) (TS.norm nm66c_0) (K66c_0 a64 a86c N) m
def l66ca (a64 : Y64) (a86c : Y86c) (N : Nat) (x1 : Int × Int × Unit) (p1 : List Tr) : Nat → Int → Option Tq
 | 0, _ => none
 | n + 1, at4_a => cond (decide (at4_a > (0 : Int))) (chk (decide (0 ≤ w64 (at4_a - (1 : Int)) ∧ w64 (at4_a - (1 : Int)) < (p1.length : Int))) ((a64 (p1.getD ((w64 (at4_a - (1 : Int))).toNat) ((0 : Int), ((0 : Int), ()))) x1).bind fun r1 =>
   cond (decide (r1 < (0 : Int))) ((l66ca a64 a86c N x1 p1 n (w64 (at4_a - (1 : Int)))))
   ((a86c at4_a ([x1] : List Tr) p1).bind fun r2 =>
   some r2)))
   ((a86c at4_a ([x1] : List Tr) p1).bind fun r3 =>
   some r3)
theorem wl66ca (a64 : Y64) (a86c : Y86c) (N : Nat) (x1 : Int × Int × Unit) (p1 : List Tr) (m : Nat) (at4_a : Int) : R66c_0 a64 a86c N (m + 1) (Sl66ca x1 p1 at4_a) = cond (decide (at4_a > (0 : Int))) (chk (decide (0 ≤ w64 (at4_a - (1 : Int)) ∧ w64 (at4_a - (1 : Int)) < (p1.length : Int))) ((a64 (p1.getD ((w64 (at4_a - (1 : Int))).toNat) ((0 : Int), ((0 : Int), ()))) x1).bind fun r1 =>
   cond (decide (r1 < (0 : Int))) ((R66c_0 a64 a86c N m (Sl66ca x1 p1 (w64 (at4_a - (1 : Int))))))
   ((a86c at4_a ([x1] : List Tr) p1).bind fun r2 =>
   some r2)))
   ((a86c at4_a ([x1] : List Tr) p1).bind fun r3 =>
   some r3) := by kernel_rfl
theorem ql66ca (a64 : Y64) (a86c : Y86c) (N : Nat) (x1 : Int × Int × Unit) (p1 : List Tr) : ∀ (m : Nat) (at4_a : Int), R66c_0 a64 a86c N m (Sl66ca x1 p1 at4_a) = l66ca a64 a86c N x1 p1 m at4_a
        | 0, _ => rfl
        | m + 1, at4_a => by rw [wl66ca]; simp only [l66ca, ql66ca a64 a86c N x1 p1 m]
def m66c (a64 : Y64) (a86c : Y86c) (N : Nat) (x1 : Int × Int × Unit) (p1 : List Tr) : Option Tq :=
   (l66ca a64 a86c N x1 p1 N (p1.length : Int))
theorem wm66c (a64 : Y64) (a86c : Y86c) (N : Nat) (x1 : Int × Int × Unit) (p1 : List Tr) : callF (E66c a64 a86c) lv66c N en66c c66c (resOf Tryz.f66) 40 [.ptr 9000 0 [], .dv (.pair (.int .i64) (.pair (.int .i64) (.unit))) x1] [(9000, .rcd [.row 9001, .fn 64 0 0 fun i => ([] : List TV).getD i .any]), (9001, .row (.pair (.int .i64) (.pair (.int .i64) (.unit))) p1)] dec66c = (R66c_0 a64 a86c N N (Sl66ca x1 p1 (p1.length : Int))) := by kernel_rfl
theorem k66c (a64 : Y64) (a86c : Y86c) (N : Nat) (x1 : Int × Int × Unit) (p1 : List Tr) : callF (E66c a64 a86c) lv66c N en66c c66c (resOf Tryz.f66) 40 [.ptr 9000 0 [], .dv (.pair (.int .i64) (.pair (.int .i64) (.unit))) x1] [(9000, .rcd [.row 9001, .fn 64 0 0 fun i => ([] : List TV).getD i .any]), (9001, .row (.pair (.int .i64) (.pair (.int .i64) (.unit))) p1)] dec66c = m66c a64 a86c N x1 p1 := by rw [wm66c]; simp only [m66c, ql66ca]
theorem ok66c (a64 : Y64) (a86c : Y86c) (h64 : FnOk Tryz.prog 64 (F64 a64)) (h86c : FnOk Tryz.prog 86 (F86c a86c)) (a : Y66c) (h : ∀ x1 p1 r, a x1 p1 = some r → (∃ N, m66c a64 a86c N x1 p1 = some r)) : FnOk Tryz.prog 66 (F66c a) := by
 intro args Of x hx
 simp only [F66c] at hx
 split at hx
 ·rename_i x1 f_0 p1 heqc
  have hc0 := congrArg (fun c : List (List TV) => c.getD 0 []) heqc
  obtain ⟨N, hN⟩ := h _ _ _ hx
  refine HSpec.etaL (args := [.ptr 9000 0 [], .dv (.pair (.int .i64) (.pair (.int .i64) (.unit))) x1]) (O := [(9000, .rcd [.row 9001, .fn 64 0 0 fun i => ([] : List TV).getD i .any]), (9001, .row (.pair (.int .i64) (.pair (.int .i64) (.unit))) p1)]) ⟨TV.sim_refl _, TV.sim_refl _, trivial⟩ ⟨rfl, TO.sim_rcd ⟨TV.sim_refl _, TV.sim_fn hc0, trivial⟩, rfl, TO.sim_refl _, trivial⟩ (liftedS (L := [(64, F64 a64), (86, F86c a86c)]) (rc := nrc) (fz := nfz) (fn := Tryz.f66) (by kernel_rfl) (by kernel_rfl) (by kernel_rfl) (by kernel_rfl) rfl ?_ ((k66c a64 a86c N _ _).trans hN) ?_)
  ·intro p hp; simp only [List.mem_cons, List.not_mem_nil, or_false] at hp; rcases hp with rfl | rfl
   ·exact h64
   ·exact h86c
  ·intro l o hd
   simp only [dec66c] at hd
   split at hd
   ·rename_i heqd
    have hd0 := congrArg (fun c : List (List TV) => c.getD 0 []) heqd
    obtain rfl := Option.some.inj hd; exact ⟨TV.sim_refl _, ⟨rfl, TO.sim_refl _, rfl, TO.sim_rcd ⟨TV.sim_refl _, TV.sim_symm (TV.sim_fn hd0), trivial⟩, rfl, TO.sim_refl _, trivial⟩⟩
   ·cases hd
 ·cases hx
def E67c : Env := mkE TI TY [] nrc (fun i => ([22] : List Nat).contains i)
noncomputable def c67c : Code := bodyOf Tryz.f67
def lv67c : Nat → Option Norm := norms []
def en67c : End := ⟨[(26, .pair (.int .i64) (.pair (.int .i64) (.unit)))], ⟨[26, 27], [9000, 9001], [(.fld 9000 0, 2000, .pair (.int .i64) (.pair (.int .i64) (.unit)))], []⟩⟩
def dec67c (l : List TV) (o : List (Nat × TO)) : Option (Tr × Bool × List Tr) := match l, o, capsOf l o with | [.dv (.pair (.int .i64) (.pair (.int .i64) (.unit))) x0, .dv (.bool) x1], [(2000, .row (.pair (.int .i64) (.pair (.int .i64) (.unit))) x2), (9000, .rcd [.row 2000, .fn 64 0 0 _]), (9001, .dead)], [[]] => some (x0, x1, x2) | _, _, _ => none
def m67c (N : Nat) (p0 : List Tr) : Option (Tr × Bool × List Tr) :=
   cond ((p0.length : Int) == (0 : Int)) (some (((0 : Int), ((0 : Int), ())), false, p0))
   (chk (decide (0 ≤ (0 : Int) ∧ (0 : Int) < (p0.length : Int))) (chk (decide (0 ≤ (1 : Int) ∧ (1 : Int) ≤ (p0.length : Int))) (some (p0.getD 0 ((0 : Int), ((0 : Int), ())), true, p0.drop 1))))
theorem k67c (N : Nat) (p0 : List Tr) : callF (E67c) lv67c N en67c c67c (resOf Tryz.f67) 25 [.ptr 9000 0 []] [(9000, .rcd [.row 9001, .fn 64 0 0 fun i => ([] : List TV).getD i .any]), (9001, .row (.pair (.int .i64) (.pair (.int .i64) (.unit))) p0)] dec67c = m67c N p0 := by kernel_rfl
theorem ok67c (a : Y67c) (h : ∀ p0 r, a p0 = some r → (∃ N, m67c N p0 = some r)) : FnOk Tryz.prog 67 (F67c a) := by
 intro args Of x hx
 simp only [F67c] at hx
 split at hx
 ·rename_i f_0 p0 heqc
  have hc0 := congrArg (fun c : List (List TV) => c.getD 0 []) heqc
  obtain ⟨N, hN⟩ := h _ _ hx
  refine HSpec.etaL (args := [.ptr 9000 0 []]) (O := [(9000, .rcd [.row 9001, .fn 64 0 0 fun i => ([] : List TV).getD i .any]), (9001, .row (.pair (.int .i64) (.pair (.int .i64) (.unit))) p0)]) ⟨TV.sim_refl _, trivial⟩ ⟨rfl, TO.sim_rcd ⟨TV.sim_refl _, TV.sim_fn hc0, trivial⟩, rfl, TO.sim_refl _, trivial⟩ (liftedS (L := []) (rc := nrc) (fz := (fun i => ([22] : List Nat).contains i)) (fn := Tryz.f67) (by kernel_rfl) (by kernel_rfl) (by kernel_rfl) (by kernel_rfl) rfl ?_ ((k67c N _).trans hN) ?_)
  ·intro p hp; cases hp
  ·intro l o hd
   simp only [dec67c] at hd
   split at hd
   ·rename_i heqd
    have hd0 := congrArg (fun c : List (List TV) => c.getD 0 []) heqd
    obtain rfl := Option.some.inj hd; exact ⟨TV.sim_refl _, ⟨rfl, TO.sim_refl _, rfl, TO.sim_rcd ⟨TV.sim_refl _, TV.sim_symm (TV.sim_fn hd0), trivial⟩, rfl, TO.sim_refl _, trivial⟩⟩
   ·cases hd
 ·cases hx
def E36 (a66c : Y66c) (a67c : Y67c) : Env := mkE TI TY [(66, F66c a66c), (67, F67c a67c)] (fun i => ([(29, [none, none]), (28, [none, none])] : List (Nat × List (Option DT))).lookup i) nfz
noncomputable def c36 : Code := bodyOf Tryz.f36
def nm36_0 : Norm := ⟨[0, 3, 4, 13, 14, 15], [], [], []⟩
def nm36_1 : Norm := ⟨[0, 3, 4, 7, 30, 31], [29], [(.fld 29 0, 2100, .pair (.int .i64) (.pair (.int .i64) (.unit)))], []⟩
def nm36_2 : Norm := ⟨[0, 3, 4, 7, 8, 30, 31, 34, 35, 36], [29], [(.fld 29 0, 2100, .pair (.int .i64) (.pair (.int .i64) (.unit)))], []⟩
def lv36 : Nat → Option Norm := norms [(3, nm36_0), (9, nm36_1), (12, nm36_2)]
def en36 : End := ⟨[], ⟨[62], [], [], []⟩⟩
def dec36 (l : List TV) (o : List (Nat × TO)) : Option (Int) := match l, o with | [.dv (.int .i64) x0], [] => some (x0) | _, _ => none
def Sl36c (lx0 : List Tr) (last3_a : Int) (n4_b : Int) (t31_b : Int) (t36_c : Int) (o2100_c : List Tr) : TS := ⟨slots 62 [(0, .dv (.sl (.pair (.int .i64) (.pair (.int .i64) (.unit)))) lx0), (3, .dv (.int .i64) last3_a), (4, .dv (.int .i64) n4_b), (7, .ptr 29 0 []), (8, .dv (.int .i64) t31_b), (30, .dv (.int .i64) last3_a), (31, .dv (.int .i64) t31_b), (34, .dv (.sl (.pair (.int .i64) (.pair (.int .i64) (.unit)))) lx0), (35, .dv (.int .i64) (lx0.length : Int)), (36, .dv (.int .i64) t36_c)], [(2100, .row (.pair (.int .i64) (.pair (.int .i64) (.unit))) o2100_c), (29, .rcd [.row 2100, .fn 64 0 0 fun i => ([] : List TV).getD i .any])]⟩
def Sl36b (lx0 : List Tr) (last3_a : Int) (n4_b : Int) (t31_b : Int) (o2100_b : List Tr) : TS := ⟨slots 62 [(0, .dv (.sl (.pair (.int .i64) (.pair (.int .i64) (.unit)))) lx0), (3, .dv (.int .i64) last3_a), (4, .dv (.int .i64) n4_b), (7, .ptr 29 0 []), (30, .dv (.int .i64) last3_a), (31, .dv (.int .i64) t31_b)], [(2100, .row (.pair (.int .i64) (.pair (.int .i64) (.unit))) o2100_b), (29, .rcd [.row 2100, .fn 64 0 0 fun i => ([] : List TV).getD i .any])]⟩
def Sl36a (lx0 : List Tr) (last3_a : Int) (n4_a : Int) (t15_a : Int) : TS := ⟨slots 62 [(0, .dv (.sl (.pair (.int .i64) (.pair (.int .i64) (.unit)))) lx0), (3, .dv (.int .i64) last3_a), (4, .dv (.int .i64) n4_a), (13, .dv (.sl (.pair (.int .i64) (.pair (.int .i64) (.unit)))) lx0), (14, .dv (.int .i64) (lx0.length : Int)), (15, .dv (.int .i64) t15_a)], []⟩
noncomputable def K36_0 (a66c : Y66c) (a67c : Y67c) (N : Nat) : Kont (Int) := kont (E36 a66c a67c) lv36 N c36 [1, 1, 0, 1, 0] (fin TI en36 (resOf Tryz.f36) dec36)
noncomputable def R36_0 (a66c : Y66c) (a67c : Y67c) (N : Nat) (m : Nat) : TS → Option (Int) := loopK (den (E36 a66c a67c) lv36 N (sub c36 [1, 1, 0, 1, 0, 0])) (TS.norm nm36_0) (K36_0 a66c a67c N) m
noncomputable def K36_1 (a66c : Y66c) (a67c : Y67c) (N : Nat) : Kont (Int) := kont (E36 a66c a67c) lv36 N c36 [1, 1, 1, 1, 0, 1, 0] (fin TI en36 (resOf Tryz.f36) dec36)
noncomputable def R36_1 (a66c : Y66c) (a67c : Y67c) (N : Nat) (m : Nat) : TS → Option (Int) := loopK (den (E36 a66c a67c) lv36 N (sub c36 [1, 1, 1, 1, 0, 1, 0, 0])) (TS.norm nm36_1) (K36_1 a66c a67c N) m
noncomputable def K36_2 (a66c : Y66c) (a67c : Y67c) (N : Nat) (T36_1 : TS → Option (Int)) : Kont (Int) := kont (E36 a66c a67c) lv36 N (sub c36 [1, 1, 1, 1, 0, 1, 0, 0]) [1, 1, 0, 0, 1, 0, 1, 0] (kloop (TS.norm nm36_1) (K36_1 a66c a67c N) T36_1)
noncomputable def R36_2 (a66c : Y66c) (a67c : Y67c) (N : Nat) (T36_1 : TS → Option (Int)) (m : Nat) : TS → Option (Int) := loopK (den (E36 a66c a67c) lv36 N (sub c36 [1, 1, 1, 1, 0, 1, 0, 0, 1, 1, 0, 0, 1, 0, 1, 0, 0])) (TS.norm nm36_2) (K36_2 a66c a67c N T36_1) m
def l36c (a66c : Y66c) (a67c : Y67c) (N : Nat) (lx0 : List Tr) (last3_a : Int) (n4_b : Int) (t31_b : Int) (rec_l36b : Int → Int → Tq → Option (Int)) : Nat → Int → Tq → Option (Int)
 | 0, _, _ => none
 | n + 1, t36_c, o2100_c => cond (decide (t36_c < (lx0.length : Int))) (chk (decide (0 ≤ t36_c ∧ t36_c < (lx0.length : Int))) (cond (((lx0.getD t36_c.toNat ((0 : Int), ((0 : Int), ()))).1) == (w64 (last3_a - t31_b))) ((a66c (lx0.getD t36_c.toNat ((0 : Int), ((0 : Int), ()))) o2100_c).bind fun r1 =>
   (l36c a66c a67c N lx0 last3_a n4_b t31_b rec_l36b n (w64 (t36_c + (1 : Int))) r1))
   ((l36c a66c a67c N lx0 last3_a n4_b t31_b rec_l36b n (w64 (t36_c + (1 : Int))) o2100_c))))
   ((a67c o2100_c).bind fun r2 =>
   cond (r2.2.1) ((rec_l36b (w64 (n4_b - r2.1.2.1)) (w64 (t31_b + (1 : Int))) r2.2.2))
   ((rec_l36b n4_b (w64 (t31_b + (1 : Int))) r2.2.2)))
theorem wl36c (a66c : Y66c) (a67c : Y67c) (N : Nat) (lx0 : List Tr) (last3_a : Int) (n4_b : Int) (t31_b : Int) (T36_1 : TS → Option (Int)) (m : Nat) (t36_c : Int) (o2100_c : List Tr) : R36_2 a66c a67c N T36_1 (m + 1) (Sl36c lx0 last3_a n4_b t31_b t36_c o2100_c) = cond (decide (t36_c < (lx0.length : Int))) (chk (decide (0 ≤ t36_c ∧ t36_c < (lx0.length : Int))) (cond (((lx0.getD t36_c.toNat ((0 : Int), ((0 : Int), ()))).1) == (w64 (last3_a - t31_b))) ((a66c (lx0.getD t36_c.toNat ((0 : Int), ((0 : Int), ()))) o2100_c).bind fun r1 =>
   (R36_2 a66c a67c N T36_1 m (Sl36c lx0 last3_a n4_b t31_b (w64 (t36_c + (1 : Int))) r1)))
   ((R36_2 a66c a67c N T36_1 m (Sl36c lx0 last3_a n4_b t31_b (w64 (t36_c + (1 : Int))) o2100_c)))))
   ((a67c o2100_c).bind fun r2 =>
   cond (r2.2.1) ((T36_1 (Sl36b lx0 last3_a (w64 (n4_b - r2.1.2.1)) (w64 (t31_b + (1 : Int))) r2.2.2)))
   ((T36_1 (Sl36b lx0 last3_a n4_b (w64 (t31_b + (1 : Int))) r2.2.2)))) := by kernel_rfl
theorem ql36c (a66c : Y66c) (a67c : Y67c) (N : Nat) (lx0 : List Tr) (last3_a : Int) (n4_b : Int) (t31_b : Int) (T36_1 : TS → Option (Int)) : ∀ (m : Nat) (t36_c : Int) (o2100_c : List Tr), R36_2 a66c a67c N T36_1 m (Sl36c lx0 last3_a n4_b t31_b t36_c o2100_c) = l36c a66c a67c N lx0 last3_a n4_b t31_b (fun y0 y1 y2 => T36_1 (Sl36b lx0 last3_a y0 y1 y2)) m t36_c o2100_c
        | 0, _, _ => rfl
        | m + 1, t36_c, o2100_c => by rw [wl36c]; simp only [l36c, ql36c a66c a67c N lx0 last3_a n4_b t31_b T36_1 m]
def l36b (a66c : Y66c) (a67c : Y67c) (N : Nat) (lx0 : List Tr) (last3_a : Int) : Nat → Int → Int → Tq → Option (Int)
 | 0, _, _, _ => none
 | n + 1, n4_b, t31_b, o2100_b => cond (decide (t31_b < last3_a)) ((l36c a66c a67c N lx0 last3_a n4_b t31_b (fun y0 y1 y2 => (l36b a66c a67c N lx0 last3_a n y0 y1 y2)) N (0 : Int) o2100_b))
   (some n4_b)
theorem wl36b (a66c : Y66c) (a67c : Y67c) (N : Nat) (lx0 : List Tr) (last3_a : Int) (m : Nat) (n4_b : Int) (t31_b : Int) (o2100_b : List Tr) : R36_1 a66c a67c N (m + 1) (Sl36b lx0 last3_a n4_b t31_b o2100_b) = cond (decide (t31_b < last3_a)) ((R36_2 a66c a67c N (R36_1 a66c a67c N m) N (Sl36c lx0 last3_a n4_b t31_b (0 : Int) o2100_b)))
   (some n4_b) := by kernel_rfl
theorem ql36b (a66c : Y66c) (a67c : Y67c) (N : Nat) (lx0 : List Tr) (last3_a : Int) : ∀ (m : Nat) (n4_b : Int) (t31_b : Int) (o2100_b : List Tr), R36_1 a66c a67c N m (Sl36b lx0 last3_a n4_b t31_b o2100_b) = l36b a66c a67c N lx0 last3_a m n4_b t31_b o2100_b
        | 0, _, _, _ => rfl
        | m + 1, n4_b, t31_b, o2100_b => by rw [wl36b]; simp only [l36b, ql36c, ql36b a66c a67c N lx0 last3_a m]
def l36a (a66c : Y66c) (a67c : Y67c) (N : Nat) (lx0 : List Tr) : Nat → Int → Int → Int → Option (Int)
 | 0, _, _, _ => none
 | n + 1, last3_a, n4_a, t15_a => cond (decide (t15_a < (lx0.length : Int))) (chk (decide (0 ≤ t15_a ∧ t15_a < (lx0.length : Int))) ((l36a a66c a67c N lx0 n (imax last3_a ((lx0.getD t15_a.toNat ((0 : Int), ((0 : Int), ()))).1)) (w64 (n4_a + (((lx0.getD t15_a.toNat ((0 : Int), ((0 : Int), ()))).2).1))) (w64 (t15_a + (1 : Int))))))
   ((l36b a66c a67c N lx0 last3_a N n4_a (0 : Int) ([] : List Tr)))
theorem wl36a (a66c : Y66c) (a67c : Y67c) (N : Nat) (lx0 : List Tr) (m : Nat) (last3_a : Int) (n4_a : Int) (t15_a : Int) : R36_0 a66c a67c N (m + 1) (Sl36a lx0 last3_a n4_a t15_a) = cond (decide (t15_a < (lx0.length : Int))) (chk (decide (0 ≤ t15_a ∧ t15_a < (lx0.length : Int))) ((R36_0 a66c a67c N m (Sl36a lx0 (imax last3_a ((lx0.getD t15_a.toNat ((0 : Int), ((0 : Int), ()))).1)) (w64 (n4_a + (((lx0.getD t15_a.toNat ((0 : Int), ((0 : Int), ()))).2).1))) (w64 (t15_a + (1 : Int)))))))
   ((R36_1 a66c a67c N N (Sl36b lx0 last3_a n4_a (0 : Int) ([] : List Tr)))) := by kernel_rfl
theorem ql36a (a66c : Y66c) (a67c : Y67c) (N : Nat) (lx0 : List Tr) : ∀ (m : Nat) (last3_a : Int) (n4_a : Int) (t15_a : Int), R36_0 a66c a67c N m (Sl36a lx0 last3_a n4_a t15_a) = l36a a66c a67c N lx0 m last3_a n4_a t15_a
        | 0, _, _, _ => rfl
        | m + 1, last3_a, n4_a, t15_a => by rw [wl36a]; simp only [l36a, ql36b, ql36a a66c a67c N lx0 m]
def m36 (a66c : Y66c) (a67c : Y67c) (N : Nat) (lx0 : List Tr) : Option (Int) :=
   (l36a a66c a67c N lx0 N (0 : Int) (0 : Int) (0 : Int))
theorem wm36 (a66c : Y66c) (a67c : Y67c) (N : Nat) (lx0 : List Tr) : callF (E36 a66c a67c) lv36 N en36 c36 (resOf Tryz.f36) 61 [.dv (.sl (.pair (.int .i64) (.pair (.int .i64) (.unit)))) lx0] [] dec36 = (R36_0 a66c a67c N N (Sl36a lx0 (0 : Int) (0 : Int) (0 : Int))) := by kernel_rfl
theorem k36 (a66c : Y66c) (a67c : Y67c) (N : Nat) (lx0 : List Tr) : callF (E36 a66c a67c) lv36 N en36 c36 (resOf Tryz.f36) 61 [.dv (.sl (.pair (.int .i64) (.pair (.int .i64) (.unit)))) lx0] [] dec36 = m36 a66c a67c N lx0 := by rw [wm36]; simp only [m36, ql36a]
theorem ok36 (a66c : Y66c) (a67c : Y67c) (h66c : FnOk Tryz.prog 66 (F66c a66c)) (h67c : FnOk Tryz.prog 67 (F67c a67c)) (a : Y36) (h : ∀ lx0 r, a lx0 = some r → (∃ N, m36 a66c a67c N lx0 = some r)) : FnOk Tryz.prog 36 (F36 a) := by
 intro args Of x hx
 simp only [F36] at hx
 split at hx
 ·rename_i lx0
  obtain ⟨N, hN⟩ := h _ _ hx
  refine lifted (L := [(66, F66c a66c), (67, F67c a67c)]) (rc := (fun i => ([(29, [none, none]), (28, [none, none])] : List (Nat × List (Option DT))).lookup i)) (fz := nfz) (fn := Tryz.f36) (by kernel_rfl) (by kernel_rfl) (by kernel_rfl) (by kernel_rfl) rfl ?_ ((k36 a66c a67c N _).trans hN) ?_
  ·intro p hp; simp only [List.mem_cons, List.not_mem_nil, or_false] at hp; rcases hp with rfl | rfl
   ·exact h66c
   ·exact h67c
  ·intro l o hd
   simp only [dec36] at hd
   split at hd
   ·obtain rfl := Option.some.inj hd; exact ⟨rfl, rfl⟩
   ·cases hd
 ·cases hx
def E10 (a33 : Y33) (a36 : Y36) : Env := mkE TI TY [(33, F33 a33), (36, F36 a36)] nrc nfz
noncomputable def c10 : Code := bodyOf Tryz.f10
def lv10 : Nat → Option Norm := norms []
def en10 : End := ⟨[], ⟨[12, 13], [], [], []⟩⟩
def dec10 (l : List TV) (o : List (Nat × TO)) : Option (Int × Int) := match l, o with | [.dv (.int .i64) x0, .dv (.int .i64) x1], [] => some (x0, x1) | _, _ => none
def m10 (a33 : Y33) (a36 : Y36) (N : Nat) (lx0 : List Tr) : Option (Int × Int) :=
   (a33 lx0).bind fun r1 =>
   cond (r1 != (0 : Int)) (some ((0 : Int), r1))
   ((a36 lx0).bind fun r2 =>
   some (r2, (0 : Int)))
theorem k10 (a33 : Y33) (a36 : Y36) (N : Nat) (lx0 : List Tr) : callF (E10 a33 a36) lv10 N en10 c10 (resOf Tryz.f10) 11 [.dv (.sl (.pair (.int .i64) (.pair (.int .i64) (.unit)))) lx0] [] dec10 = m10 a33 a36 N lx0 := by kernel_rfl
theorem ok10 (a33 : Y33) (a36 : Y36) (h33 : FnOk Tryz.prog 33 (F33 a33)) (h36 : FnOk Tryz.prog 36 (F36 a36)) (a : Y10) (h : ∀ lx0 r, a lx0 = some r → (∃ N, m10 a33 a36 N lx0 = some r)) : FnOk Tryz.prog 10 (F10 a) := by
 intro args Of x hx
 simp only [F10] at hx
 split at hx
 ·rename_i lx0
  obtain ⟨N, hN⟩ := h _ _ hx
  refine lifted (L := [(33, F33 a33), (36, F36 a36)]) (rc := nrc) (fz := nfz) (fn := Tryz.f10) (by kernel_rfl) (by kernel_rfl) (by kernel_rfl) (by kernel_rfl) rfl ?_ ((k10 a33 a36 N _).trans hN) ?_
  ·intro p hp; simp only [List.mem_cons, List.not_mem_nil, or_false] at hp; rcases hp with rfl | rfl
   ·exact h33
   ·exact h36
  ·intro l o hd
   simp only [dec10] at hd
   split at hd
   ·obtain rfl := Option.some.inj hd; exact ⟨rfl, rfl⟩
   ·cases hd
 ·cases hx
def E92c : Env := mkE TI TY [] nrc (fun i => ([25] : List Nat).contains i)
noncomputable def c92c : Code := bodyOf Tryz.f92
def lv92c : Nat → Option Norm := norms []
def en92c : End := ⟨[], ⟨[], [], [(.slot 27, 1500, .pair (.int .i64) (.pair (.int .i64) (.unit)))], []⟩⟩
def dec92c (l : List TV) (o : List (Nat × TO)) : Option Tq := match l, o with | [.row 1500], [(1500, .row (.pair (.int .i64) (.pair (.int .i64) (.unit))) x0)] => some (x0) | _, _ => none
def m92c (N : Nat) (n1 : Int) : Option Tq :=
   cond (decide (n1 < (0 : Int))) (none)
   (cond (decide ((w64 (n1 - (0 : Int))) > (0 : Int))) (chk (decide ((0 : Int) < (w64 (n1 - (0 : Int)))) && mkOk (w64 (n1 - (0 : Int))) (w64 (n1 - (0 : Int))) 16) (chk (decide (0 ≤ (0 : Int) ∧ (0 : Int) ≤ ((List.replicate ((w64 (n1 - (0 : Int))).toNat) ((0 : Int), ((0 : Int), ()))).length : Int))) (some ((List.replicate ((w64 (n1 - (0 : Int))).toNat) ((0 : Int), ((0 : Int), ()))).take 0))))
   (some ([] : List Tr)))
theorem k92c (N : Nat) (n1 : Int) : callF (E92c) lv92c N en92c c92c (resOf Tryz.f92) 25 [.nl, .dv (.int .i64) n1] [] dec92c = m92c N n1 := by kernel_rfl
theorem ok92c (a : Y92c) (h : ∀ n1 r, a n1 = some r → (∃ N, m92c N n1 = some r)) : FnOk Tryz.prog 92 (F92c a) := by
 intro args Of x hx
 simp only [F92c] at hx
 split at hx
 ·rename_i n1
  obtain ⟨N, hN⟩ := h _ _ hx
  refine lifted (L := []) (rc := nrc) (fz := (fun i => ([25] : List Nat).contains i)) (fn := Tryz.f92) (by kernel_rfl) (by kernel_rfl) (by kernel_rfl) (by kernel_rfl) rfl ?_ ((k92c N _).trans hN) ?_
  ·intro p hp; cases hp
  ·intro l o hd
   simp only [dec92c] at hd
   split at hd
   ·obtain rfl := Option.some.inj hd; exact ⟨rfl, rfl⟩
   ·cases hd
 ·cases hx
def E70 (a92c : Y92c) : Env := mkE TI TY [(92, F92c a92c)] nrc nfz
noncomputable def c70 : Code := bodyOf Tryz.f70
def nm70_0 : Norm := ⟨[0, 3, 9, 10, 11], [], [], []⟩
def nm70_1 : Norm := ⟨[25, 26, 27], [], [(.slot 6, 1006, .pair (.int .i64) (.pair (.int .i64) (.unit)))], []⟩
def lv70 : Nat → Option Norm := norms [(3, nm70_0), (11, nm70_1)]
def en70 : End := ⟨[(36, .sl (.pair (.int .i64) (.pair (.int .i64) (.unit))))], ⟨[36], [], [], []⟩⟩
def dec70 (l : List TV) (o : List (Nat × TO)) : Option Tq := match l, o with | [.dv (.sl (.pair (.int .i64) (.pair (.int .i64) (.unit)))) x0], [] => some (x0) | _, _ => none
def Sl70b (slices0 : List Tq) (t27_b : Int) (newslice6_b : List Tr) : TS := ⟨slots 36 [(6, .row 1006), (25, .dv (.sl (.sl (.pair (.int .i64) (.pair (.int .i64) (.unit))))) slices0), (26, .dv (.int .i64) (slices0.length : Int)), (27, .dv (.int .i64) t27_b)], [(1006, .row (.pair (.int .i64) (.pair (.int .i64) (.unit))) newslice6_b)]⟩
def Sl70a (slices0 : List Tq) (size3_a : Int) (t11_a : Int) : TS := ⟨slots 36 [(0, .dv (.sl (.sl (.pair (.int .i64) (.pair (.int .i64) (.unit))))) slices0), (3, .dv (.int .i64) size3_a), (9, .dv (.sl (.sl (.pair (.int .i64) (.pair (.int .i64) (.unit))))) slices0), (10, .dv (.int .i64) (slices0.length : Int)), (11, .dv (.int .i64) t11_a)], []⟩
noncomputable def K70_0 (a92c : Y92c) (N : Nat) : Kont Tq := kont (E70 a92c) lv70 N c70 [1, 1, 0, 1, 0] (fin TI en70 (resOf Tryz.f70) dec70)
noncomputable def R70_0 (a92c : Y92c) (N : Nat) (m : Nat) : TS → Option Tq := loopK (den (E70 a92c) lv70 N (sub c70 [1, 1, 0, 1, 0, 0])) (TS.norm nm70_0) (K70_0 a92c N) m
noncomputable def K70_1 (a92c : Y92c) (N : Nat) : Kont Tq := kont (E70 a92c) lv70 N c70 [1, 1, 1, 1, 0, 1, 0] (fin TI en70 (resOf Tryz.f70) dec70)
noncomputable def R70_1 (a92c : Y92c) (N : Nat) (m : Nat) : TS → Option Tq := loopK (den (E70 a92c) lv70 N (sub c70 [1, 1, 1, 1, 0, 1, 0, 0])) (TS.norm nm70_1) (K70_1 a92c N) m
def l70b (a92c : Y92c) (N : Nat) (slices0 : List Tq) : Nat → Int → Tq → Option Tq
 | 0, _, _ => none
 | n + 1, t27_b, newslice6_b => cond (decide (t27_b < (slices0.length : Int))) (chk (decide (0 ≤ t27_b ∧ t27_b < (slices0.length : Int))) (chk (small (newslice6_b.length + (slices0.getD t27_b.toNat ([] : List Tr)).length) 16) ((l70b a92c N slices0 n (w64 (t27_b + (1 : Int))) (newslice6_b ++ (slices0.getD t27_b.toNat ([] : List Tr)))))))
   (some newslice6_b)
theorem wl70b (a92c : Y92c) (N : Nat) (slices0 : List Tq) (m : Nat) (t27_b : Int) (newslice6_b : List Tr) : R70_1 a92c N (m + 1) (Sl70b slices0 t27_b newslice6_b) = cond (decide (t27_b < (slices0.length : Int))) (chk (decide (0 ≤ t27_b ∧ t27_b < (slices0.length : Int))) (chk (small (newslice6_b.length + (slices0.getD t27_b.toNat ([] : List Tr)).length) 16) ((R70_1 a92c N m (Sl70b slices0 (w64 (t27_b + (1 : Int))) (newslice6_b ++ (slices0.getD t27_b.toNat ([] : List Tr))))))))
   (some newslice6_b) := by kernel_rfl
theorem ql70b (a92c : Y92c) (N : Nat) (slices0 : List Tq) : ∀ (m : Nat) (t27_b : Int) (newslice6_b : List Tr), R70_1 a92c N m (Sl70b slices0 t27_b newslice6_b) = l70b a92c N slices0 m t27_b newslice6_b
        | 0, _, _ => rfl
        | m + 1, t27_b, newslice6_b => by rw [wl70b]; simp only [l70b, ql70b a92c N slices0 m]
def l70a (a92c : Y92c) (N : Nat) (slices0 : List Tq) : Nat → Int → Int → Option Tq
 | 0, _, _ => none
 | n + 1, size3_a, t11_a => cond (decide (t11_a < (slices0.length : Int))) (chk (decide (0 ≤ t11_a ∧ t11_a < (slices0.length : Int))) (cond (decide ((w64 (size3_a + ((slices0.getD t11_a.toNat ([] : List Tr)).length : Int))) < (0 : Int))) (none)
   ((l70a a92c N slices0 n (w64 (size3_a + ((slices0.getD t11_a.toNat ([] : List Tr)).length : Int))) (w64 (t11_a + (1 : Int)))))))
   ((a92c size3_a).bind fun r1 =>
   (l70b a92c N slices0 N (0 : Int) r1))
theorem wl70a (a92c : Y92c) (N : Nat) (slices0 : List Tq) (m : Nat) (size3_a : Int) (t11_a : Int) : R70_0 a92c N (m + 1) (Sl70a slices0 size3_a t11_a) = cond (decide (t11_a < (slices0.length : Int))) (chk (decide (0 ≤ t11_a ∧ t11_a < (slices0.length : Int))) (cond (decide ((w64 (size3_a + ((slices0.getD t11_a.toNat ([] : List Tr)).length : Int))) < (0 : Int))) (none)
   ((R70_0 a92c N m (Sl70a slices0 (w64 (size3_a + ((slices0.getD t11_a.toNat ([] : List Tr)).length : Int))) (w64 (t11_a + (1 : Int))))))))
   ((a92c size3_a).bind fun r1 =>
   (R70_1 a92c N N (Sl70b slices0 (0 : Int) r1))) := by kernel_rfl
theorem ql70a (a92c : Y92c) (N : Nat) (slices0 : List Tq) : ∀ (m : Nat) (size3_a : Int) (t11_a : Int), R70_0 a92c N m (Sl70a slices0 size3_a t11_a) = l70a a92c N slices0 m size3_a t11_a
        | 0, _, _ => rfl
        | m + 1, size3_a, t11_a => by rw [wl70a]; simp only [l70a, ql70b, ql70a a92c N slices0 m]
def m70 (a92c : Y92c) (N : Nat) (slices0 : List Tq) : Option Tq :=
   (l70a a92c N slices0 N (0 : Int) (0 : Int))
theorem wm70 (a92c : Y92c) (N : Nat) (slices0 : List Tq) : callF (E70 a92c) lv70 N en70 c70 (resOf Tryz.f70) 35 [.dv (.sl (.sl (.pair (.int .i64) (.pair (.int .i64) (.unit))))) slices0] [] dec70 = (R70_0 a92c N N (Sl70a slices0 (0 : Int) (0 : Int))) := by kernel_rfl
theorem k70 (a92c : Y92c) (N : Nat) (slices0 : List Tq) : callF (E70 a92c) lv70 N en70 c70 (resOf Tryz.f70) 35 [.dv (.sl (.sl (.pair (.int .i64) (.pair (.int .i64) (.unit))))) slices0] [] dec70 = m70 a92c N slices0 := by rw [wm70]; simp only [m70, ql70a]
theorem ok70 (a92c : Y92c) (h92c : FnOk Tryz.prog 92 (F92c a92c)) (a : Y70) (h : ∀ slices0 r, a slices0 = some r → (∃ N, m70 a92c N slices0 = some r)) : FnOk Tryz.prog 70 (F70 a) := by
 intro args Of x hx
 simp only [F70] at hx
 split at hx
 ·rename_i slices0
  obtain ⟨N, hN⟩ := h _ _ hx
  refine lifted (L := [(92, F92c a92c)]) (rc := nrc) (fz := nfz) (fn := Tryz.f70) (by kernel_rfl) (by kernel_rfl) (by kernel_rfl) (by kernel_rfl) rfl ?_ ((k70 a92c N _).trans hN) ?_
  ·intro p hp; simp only [List.mem_cons, List.not_mem_nil, or_false] at hp; rcases hp with rfl; exact h92c
  ·intro l o hd
   simp only [dec70] at hd
   split at hd
   ·obtain rfl := Option.some.inj hd; exact ⟨rfl, rfl⟩
   ·cases hd
 ·cases hx
def E38 (a70 : Y70) : Env := mkE TI TY [(70, F70 a70)] nrc nfz
noncomputable def c38 : Code := bodyOf Tryz.f38
def lv38 : Nat → Option Norm := norms []
def en38 : End := ⟨[(14, .sl (.pair (.int .i64) (.pair (.int .i64) (.unit))))], ⟨[14], [], [], []⟩⟩
def dec38 (l : List TV) (o : List (Nat × TO)) : Option Tq := match l, o with | [.dv (.sl (.pair (.int .i64) (.pair (.int .i64) (.unit)))) x0], [] => some (x0) | _, _ => none
def m38 (a70 : Y70) (N : Nat) (lx0 : List Tr) (i1 : Int) : Option Tq :=
   chk (decide (0 ≤ i1 ∧ i1 ≤ (lx0.length : Int))) (chk (decide (0 ≤ w64 (i1 + (1 : Int)) ∧ w64 (i1 + (1 : Int)) ≤ (lx0.length : Int))) ((a70 ([lx0.take i1.toNat, lx0.drop ((w64 (i1 + (1 : Int))).toNat)] : List Tq)).bind fun r1 =>
   some r1))
theorem k38 (a70 : Y70) (N : Nat) (lx0 : List Tr) (i1 : Int) : callF (E38 a70) lv38 N en38 c38 (resOf Tryz.f38) 12 [.dv (.sl (.pair (.int .i64) (.pair (.int .i64) (.unit)))) lx0, .dv (.int .i64) i1] [] dec38 = m38 a70 N lx0 i1 := by kernel_rfl
theorem ok38 (a70 : Y70) (h70 : FnOk Tryz.prog 70 (F70 a70)) (a : Y38) (h : ∀ lx0 i1 r, a lx0 i1 = some r → (∃ N, m38 a70 N lx0 i1 = some r)) : FnOk Tryz.prog 38 (F38 a) := by
 intro args Of x hx
 simp only [F38] at hx
 split at hx
 ·rename_i lx0 i1
  obtain ⟨N, hN⟩ := h _ _ _ hx
  refine lifted (L := [(70, F70 a70)]) (rc := nrc) (fz := nfz) (fn := Tryz.f38) (by kernel_rfl) (by kernel_rfl) (by kernel_rfl) (by kernel_rfl) rfl ?_ ((k38 a70 N _ _).trans hN) ?_
  ·intro p hp; simp only [List.mem_cons, List.not_mem_nil, or_false] at hp; rcases hp with rfl; exact h70
  ·intro l o hd
   simp only [dec38] at hd
   split at hd
   ·obtain rfl := Option.some.inj hd; exact ⟨rfl, rfl⟩
   ·cases hd
 ·cases hx
def E13 (a33 : Y33) (a36 : Y36) (a38 : Y38) : Env := mkE TI TY [(33, F33 a33), (36, F36 a36), (38, F38 a38)] nrc nfz
noncomputable def c13 : Code := bodyOf Tryz.f13
def nm13_0 : Norm := ⟨[0, 5, 16, 17, 18], [], [(.slot 6, 1006, .int .i64)], []⟩
def lv13 : Nat → Option Norm := norms [(7, nm13_0)]
def en13 : End := ⟨[(38, .sl (.int .i64))], ⟨[38, 39], [], [], []⟩⟩
def dec13 (l : List TV) (o : List (Nat × TO)) : Option (List Int × Int) := match l, o with | [.dv (.sl (.int .i64)) x0, .dv (.int .i64) x1], [] => some (x0, x1) | _, _ => none
def Sl13a (lx0 : List Tr) (r2 : Int) (t18_a : Int) (out6_a : List Int) : TS := ⟨slots 38 [(0, .dv (.sl (.pair (.int .i64) (.pair (.int .i64) (.unit)))) lx0), (5, .dv (.int .i64) r2), (6, .row 1006), (16, .dv (.sl (.pair (.int .i64) (.pair (.int .i64) (.unit)))) lx0), (17, .dv (.int .i64) (lx0.length : Int)), (18, .dv (.int .i64) t18_a)], [(1006, .row (.int .i64) out6_a)]⟩
noncomputable def K13_0 (a33 : Y33) (a36 : Y36) (a38 : Y38) (N : Nat) : Kont (List Int × Int) := kont (E13 a33 a36 a38) lv13 N c13 [1, 1, 1, 1, 0, 1, 0] (fin TI en13 (resOf Tryz.f13) dec13)
noncomputable def R13_0 (a33 : Y33) (a36 : Y36) (a38 : Y38) (N : Nat) (m : Nat) : TS → Option (List Int × Int) := loopK (den (E13 a33 a36 a38) lv13 N (sub c13 [1, 1, 1, 1, 0, 1, 0, 0])) (TS.norm nm13_0) (K13_0 a33 a36 a38 N) m
def l13a (a33 : Y33) (a36 : Y36) (a38 : Y38) (N : Nat) (lx0 : List Tr) (r2 : Int) : Nat → Int → Ti → Option (List Int × Int)
 | 0, _, _ => none
 | n + 1, t18_a, out6_a => cond (decide (t18_a < (lx0.length : Int))) (chk (decide (0 ≤ t18_a ∧ t18_a < (lx0.length : Int))) ((a38 lx0 t18_a).bind fun r3 =>
   (a36 r3).bind fun r4 =>
   cond (decide ((w64 ((((lx0.getD t18_a.toNat ((0 : Int), ((0 : Int), ()))).2).1) + r4)) > r2)) (chk (small (out6_a.length + 1) 8) ((l13a a33 a36 a38 N lx0 r2 n (w64 (t18_a + (1 : Int))) (out6_a ++ ([t18_a] : List Int)))))
   ((l13a a33 a36 a38 N lx0 r2 n (w64 (t18_a + (1 : Int))) out6_a))))
   (some (out6_a, (0 : Int)))
theorem wl13a (a33 : Y33) (a36 : Y36) (a38 : Y38) (N : Nat) (lx0 : List Tr) (r2 : Int) (m : Nat) (t18_a : Int) (out6_a : List Int) : R13_0 a33 a36 a38 N (m + 1) (Sl13a lx0 r2 t18_a out6_a) = cond (decide (t18_a < (lx0.length : Int))) (chk (decide (0 ≤ t18_a ∧ t18_a < (lx0.length : Int))) ((a38 lx0 t18_a).bind fun r3 =>
   (a36 r3).bind fun r4 =>
   cond (decide ((w64 ((((lx0.getD t18_a.toNat ((0 : Int), ((0 : Int), ()))).2).1) + r4)) > r2)) (chk (small (out6_a.length + 1) 8) ((R13_0 a33 a36 a38 N m (Sl13a lx0 r2 (w64 (t18_a + (1 : Int))) (out6_a ++ ([t18_a] : List Int))))))
   ((R13_0 a33 a36 a38 N m (Sl13a lx0 r2 (w64 (t18_a + (1 : Int))) out6_a)))))
   (some (out6_a, (0 : Int))) := by kernel_rfl
theorem ql13a (a33 : Y33) (a36 : Y36) (a38 : Y38) (N : Nat) (lx0 : List Tr) (r2 : Int) : ∀ (m : Nat) (t18_a : Int) (out6_a : List Int), R13_0 a33 a36 a38 N m (Sl13a lx0 r2 t18_a out6_a) = l13a a33 a36 a38 N lx0 r2 m t18_a out6_a
        | 0, _, _ => rfl
        | m + 1, t18_a, out6_a => by rw [wl13a]; simp only [l13a, ql13a a33 a36 a38 N lx0 r2 m]
def m13 (a33 : Y33) (a36 : Y36) (a38 : Y38) (N : Nat) (lx0 : List Tr) : Option (List Int × Int) :=
   (a33 lx0).bind fun r1 =>
   cond (r1 != (0 : Int)) (some (([] : List Int), r1))
   ((a36 lx0).bind fun r2 =>
   (l13a a33 a36 a38 N lx0 r2 N (0 : Int) ([] : List Int)))
theorem wm13 (a33 : Y33) (a36 : Y36) (a38 : Y38) (N : Nat) (lx0 : List Tr) : callF (E13 a33 a36 a38) lv13 N en13 c13 (resOf Tryz.f13) 37 [.dv (.sl (.pair (.int .i64) (.pair (.int .i64) (.unit)))) lx0] [] dec13 = (a33 lx0).bind fun r1 =>
   cond (r1 != (0 : Int)) (some (([] : List Int), r1))
   ((a36 lx0).bind fun r2 =>
   (R13_0 a33 a36 a38 N N (Sl13a lx0 r2 (0 : Int) ([] : List Int)))) := by kernel_rfl
theorem k13 (a33 : Y33) (a36 : Y36) (a38 : Y38) (N : Nat) (lx0 : List Tr) : callF (E13 a33 a36 a38) lv13 N en13 c13 (resOf Tryz.f13) 37 [.dv (.sl (.pair (.int .i64) (.pair (.int .i64) (.unit)))) lx0] [] dec13 = m13 a33 a36 a38 N lx0 := by rw [wm13]; simp only [m13, ql13a]
theorem ok13 (a33 : Y33) (a36 : Y36) (a38 : Y38) (h33 : FnOk Tryz.prog 33 (F33 a33)) (h36 : FnOk Tryz.prog 36 (F36 a36)) (h38 : FnOk Tryz.prog 38 (F38 a38)) (a : Y13) (h : ∀ lx0 r, a lx0 = some r → (∃ N, m13 a33 a36 a38 N lx0 = some r)) : FnOk Tryz.prog 13 (F13 a) := by
 intro args Of x hx
 simp only [F13] at hx
 split at hx
 ·rename_i lx0
  obtain ⟨N, hN⟩ := h _ _ hx
  refine lifted (L := [(33, F33 a33), (36, F36 a36), (38, F38 a38)]) (rc := nrc) (fz := nfz) (fn := Tryz.f13) (by kernel_rfl) (by kernel_rfl) (by kernel_rfl) (by kernel_rfl) rfl ?_ ((k13 a33 a36 a38 N _).trans hN) ?_
  ·intro p hp; simp only [List.mem_cons, List.not_mem_nil, or_false] at hp; rcases hp with rfl | rfl | rfl
   ·exact h33
   ·exact h36
   ·exact h38
  ·intro l o hd
   simp only [dec13] at hd
   split at hd
   ·obtain rfl := Option.some.inj hd; exact ⟨rfl, rfl⟩
   ·cases hd
 ·cases hx
def E63 : Env := mkE TI TY [] nrc nfz
noncomputable def c63 : Code := bodyOf Tryz.f63
def nm63_0 : Norm := ⟨[0, 1, 7, 8], [], [], []⟩
def lv63 : Nat → Option Norm := norms [(2, nm63_0)]
def en63 : End := ⟨[], ⟨[19], [], [], []⟩⟩
def dec63 (l : List TV) (o : List (Nat × TO)) : Option (Int) := match l, o with | [.dv (.int .i64) x0], [] => some (x0) | _, _ => none
def Sl63a (s0 : List Int) (v1 : Int) (t8_a : Int) : TS := ⟨slots 19 [(0, .dv (.sl (.int .i64)) s0), (1, .dv (.int .i64) v1), (7, .dv (.int .i64) (s0.length : Int)), (8, .dv (.int .i64) t8_a)], []⟩
noncomputable def K63_0 (N : Nat) : Kont (Int) := kont (E63) lv63 N c63 [1, 0, 1, 0] (fin TI en63 (resOf Tryz.f63) dec63)
noncomputable def R63_0 (N : Nat) (m : Nat) : TS → Option (Int) := loopK (den (E63) lv63 N (sub c63 [1, 0, 1, 0, 0])) (TS.norm nm63_0) (K63_0 N) m
def l63a (N : Nat) (s0 : List Int) (v1 : Int) : Nat → Int → Option (Int)
 | 0, _ => none
 | n + 1, t8_a => cond (decide (t8_a < (s0.length : Int))) (chk (decide (0 ≤ t8_a ∧ t8_a < (s0.length : Int))) (cond (v1 == (s0.getD t8_a.toNat (0 : Int))) (some t8_a)
   ((l63a N s0 v1 n (w64 (t8_a + (1 : Int)))))))
   (some (-1 : Int))
theorem wl63a (N : Nat) (s0 : List Int) (v1 : Int) (m : Nat) (t8_a : Int) : R63_0 N (m + 1) (Sl63a s0 v1 t8_a) = cond (decide (t8_a < (s0.length : Int))) (chk (decide (0 ≤ t8_a ∧ t8_a < (s0.length : Int))) (cond (v1 == (s0.getD t8_a.toNat (0 : Int))) (some t8_a)
   ((R63_0 N m (Sl63a s0 v1 (w64 (t8_a + (1 : Int))))))))
   (some (-1 : Int)) := by kernel_rfl
theorem ql63a (N : Nat) (s0 : List Int) (v1 : Int) : ∀ (m : Nat) (t8_a : Int), R63_0 N m (Sl63a s0 v1 t8_a) = l63a N s0 v1 m t8_a
        | 0, _ => rfl
        | m + 1, t8_a => by rw [wl63a]; simp only [l63a, ql63a N s0 v1 m]
def m63 (N : Nat) (s0 : List Int) (v1 : Int) : Option (Int) :=
   (l63a N s0 v1 N (0 : Int))
theorem wm63 (N : Nat) (s0 : List Int) (v1 : Int) : callF (E63) lv63 N en63 c63 (resOf Tryz.f63) 17 [.dv (.sl (.int .i64)) s0, .dv (.int .i64) v1] [] dec63 = (R63_0 N N (Sl63a s0 v1 (0 : Int))) := by kernel_rfl
theorem k63 (N : Nat) (s0 : List Int) (v1 : Int) : callF (E63) lv63 N en63 c63 (resOf Tryz.f63) 17 [.dv (.sl (.int .i64)) s0, .dv (.int .i64) v1] [] dec63 = m63 N s0 v1 := by rw [wm63]; simp only [m63, ql63a]
theorem ok63 (a : Y63) (h : ∀ s0 v1 r, a s0 v1 = some r → (∃ N, m63 N s0 v1 = some r)) : FnOk Tryz.prog 63 (F63 a) := by
 intro args Of x hx
 simp only [F63] at hx
 split at hx
 ·rename_i s0 v1
  obtain ⟨N, hN⟩ := h _ _ _ hx
  refine lifted (L := []) (rc := nrc) (fz := nfz) (fn := Tryz.f63) (by kernel_rfl) (by kernel_rfl) (by kernel_rfl) (by kernel_rfl) rfl ?_ ((k63 N _ _).trans hN) ?_
  ·intro p hp; cases hp
  ·intro l o hd
   simp only [dec63] at hd
   split at hd
   ·obtain rfl := Option.some.inj hd; exact ⟨rfl, rfl⟩
   ·cases hd
 ·cases hx
def E35 (a63 : Y63) : Env := mkE TI TY [(63, F63 a63)] nrc nfz
noncomputable def c35 : Code := bodyOf Tryz.f35
def lv35 : Nat → Option Norm := norms []
def en35 : End := ⟨[], ⟨[9], [], [], []⟩⟩
def dec35 (l : List TV) (o : List (Nat × TO)) : Option (Bool) := match l, o with | [.dv (.bool) x0], [] => some (x0) | _, _ => none
def m35 (a63 : Y63) (N : Nat) (s0 : List Int) (v1 : Int) : Option (Bool) :=
   (a63 s0 v1).bind fun r1 =>
   some (decide (r1 ≥ (0 : Int)))
theorem k35 (a63 : Y63) (N : Nat) (s0 : List Int) (v1 : Int) : callF (E35 a63) lv35 N en35 c35 (resOf Tryz.f35) 7 [.dv (.sl (.int .i64)) s0, .dv (.int .i64) v1] [] dec35 = m35 a63 N s0 v1 := by kernel_rfl
theorem ok35 (a63 : Y63) (h63 : FnOk Tryz.prog 63 (F63 a63)) (a : Y35) (h : ∀ s0 v1 r, a s0 v1 = some r → (∃ N, m35 a63 N s0 v1 = some r)) : FnOk Tryz.prog 35 (F35 a) := by
 intro args Of x hx
 simp only [F35] at hx
 split at hx
 ·rename_i s0 v1
  obtain ⟨N, hN⟩ := h _ _ _ hx
  refine lifted (L := [(63, F63 a63)]) (rc := nrc) (fz := nfz) (fn := Tryz.f35) (by kernel_rfl) (by kernel_rfl) (by kernel_rfl) (by kernel_rfl) rfl ?_ ((k35 a63 N _ _).trans hN) ?_
  ·intro p hp; simp only [List.mem_cons, List.not_mem_nil, or_false] at hp; rcases hp with rfl; exact h63
  ·intro l o hd
   simp only [dec35] at hd
   split at hd
   ·obtain rfl := Option.some.inj hd; exact ⟨rfl, rfl⟩
   ·cases hd
 ·cases hx
def E40c : Env := mkE TI TY [] nrc nfz
noncomputable def c40c : Code := bodyOf Tryz.f40
def lv40c : Nat → Option Norm := norms []
def en40c : End := ⟨[], ⟨[7], [9000], [], []⟩⟩
def dec40c (l : List TV) (o : List (Nat × TO)) : Option (Bool × List Tr) := match l, o with | [.dv (.bool) x0], [(9000, .row (.pair (.int .i64) (.pair (.int .i64) (.unit))) x1)] => some (x0, x1) | _, _ => none
def m40c (N : Nat) (x0 : Int × Int × Unit) (p1 : List Tr) : Option (Bool × List Tr) :=
   some (DT.beq (.pair (.int .i64) (.pair (.int .i64) (.unit))) x0 (p1.getD 0 ((0 : Int), ((0 : Int), ()))), p1)
theorem k40c (N : Nat) (x0 : Int × Int × Unit) (p1 : List Tr) : callF (E40c) lv40c N en40c c40c (resOf Tryz.f40) 5 [.dv (.pair (.int .i64) (.pair (.int .i64) (.unit))) x0, .ptr 9000 0 []] [(9000, .row (.pair (.int .i64) (.pair (.int .i64) (.unit))) p1)] dec40c = m40c N x0 p1 := by kernel_rfl
theorem ok40c (a : Y40c) (h : ∀ x0 p1 r, a x0 p1 = some r → (∃ N, m40c N x0 p1 = some r)) : FnOk Tryz.prog 40 (F40c a) := by
 intro args Of x hx
 simp only [F40c] at hx
 split at hx
 ·rename_i x0 p1
  obtain ⟨N, hN⟩ := h _ _ _ hx
  refine lifted (L := []) (rc := nrc) (fz := nfz) (fn := Tryz.f40) (by kernel_rfl) (by kernel_rfl) (by kernel_rfl) (by kernel_rfl) rfl ?_ ((k40c N _ _).trans hN) ?_
  ·intro p hp; cases hp
  ·intro l o hd
   simp only [dec40c] at hd
   split at hd
   ·obtain rfl := Option.some.inj hd; exact ⟨rfl, rfl⟩
   ·cases hd
 ·cases hx
def E39c40 (a40c : Y40c) : Env := mkE TI TY [(40, F40c a40c)] nrc nfz
noncomputable def c39c40 : Code := bodyOf Tryz.f39
def nm39c40_0 : Norm := ⟨[0, 1, 7, 8], [9000], [], []⟩
def lv39c40 : Nat → Option Norm := norms [(2, nm39c40_0)]
def en39c40 : End := ⟨[], ⟨[19], [9000], [], []⟩⟩
def dec39c40 (l : List TV) (o : List (Nat × TO)) : Option (Int × List Tr) := match l, o with | [.dv (.int .i64) x0], [(9000, .row (.pair (.int .i64) (.pair (.int .i64) (.unit))) x1)] => some (x0, x1) | _, _ => none
def Sl39c40a (s0 : List Tr) (t8_a : Int) (o9000_a : List Tr) : TS := ⟨slots 19 [(0, .dv (.sl (.pair (.int .i64) (.pair (.int .i64) (.unit)))) s0), (1, .fn 40 0 1 fun i => ([.ptr 9000 0 []] : List TV).getD i .any), (7, .dv (.int .i64) (s0.length : Int)), (8, .dv (.int .i64) t8_a)], [(9000, .row (.pair (.int .i64) (.pair (.int .i64) (.unit))) o9000_a)]⟩
noncomputable def K39c40_0 (a40c : Y40c) (N : Nat) : Kont (Int × List Tr) := kont (E39c40 a40c) lv39c40 N c39c40 [1, 0, 1, 0] (fin TI en39c40 (resOf Tryz.f39) dec39c40)
noncomputable def R39c40_0 (a40c : Y40c) (N : Nat) (m : Nat) : TS → Option (Int × List Tr) := loopK (den (E39c40 a40c) lv39c40 N (sub c39c40 [1, 0, 1, 0, 0])) (TS.norm nm39c40_0) (K39c40_0 a40c N) m
def l39c40a (a40c : Y40c) (N : Nat) (s0 : List Tr) : Nat → Int → Tq → Option (Int × List Tr)
 | 0, _, _ => none
 | n + 1, t8_a, o9000_a => cond (decide (t8_a < (s0.length : Int))) (chk (decide (0 ≤ t8_a ∧ t8_a < (s0.length : Int))) ((a40c (s0.getD t8_a.toNat ((0 : Int), ((0 : Int), ()))) o9000_a).bind fun r1 =>
   cond (r1.1) (some (t8_a, r1.2))
   ((l39c40a a40c N s0 n (w64 (t8_a + (1 : Int))) r1.2))))
   (some ((-1 : Int), o9000_a))
theorem wl39c40a (a40c : Y40c) (N : Nat) (s0 : List Tr) (m : Nat) (t8_a : Int) (o9000_a : List Tr) : R39c40_0 a40c N (m + 1) (Sl39c40a s0 t8_a o9000_a) = cond (decide (t8_a < (s0.length : Int))) (chk (decide (0 ≤ t8_a ∧ t8_a < (s0.length : Int))) ((a40c (s0.getD t8_a.toNat ((0 : Int), ((0 : Int), ()))) o9000_a).bind fun r1 =>
   cond (r1.1) (some (t8_a, r1.2))
   ((R39c40_0 a40c N m (Sl39c40a s0 (w64 (t8_a + (1 : Int))) r1.2)))))
   (some ((-1 : Int), o9000_a)) := by kernel_rfl
theorem ql39c40a (a40c : Y40c) (N : Nat) (s0 : List Tr) : ∀ (m : Nat) (t8_a : Int) (o9000_a : List Tr), R39c40_0 a40c N m (Sl39c40a s0 t8_a o9000_a) = l39c40a a40c N s0 m t8_a o9000_a
        | 0, _, _ => rfl
        | m + 1, t8_a, o9000_a => by rw [wl39c40a]; simp only [l39c40a, ql39c40a a40c N s0 m]
def m39c40 (a40c : Y40c) (N : Nat) (s0 : List Tr) (p1 : List Tr) : Option (Int × List Tr) :=
   (l39c40a a40c N s0 N (0 : Int) p1)
theorem wm39c40 (a40c : Y40c) (N : Nat) (s0 : List Tr) (p1 : List Tr) : callF (E39c40 a40c) lv39c40 N en39c40 c39c40 (resOf Tryz.f39) 17 [.dv (.sl (.pair (.int .i64) (.pair (.int .i64) (.unit)))) s0, .fn 40 0 1 fun i => ([.ptr 9000 0 []] : List TV).getD i .any] [(9000, .row (.pair (.int .i64) (.pair (.int .i64) (.unit))) p1)] dec39c40 = (R39c40_0 a40c N N (Sl39c40a s0 (0 : Int) p1)) := by kernel_rfl
theorem k39c40 (a40c : Y40c) (N : Nat) (s0 : List Tr) (p1 : List Tr) : callF (E39c40 a40c) lv39c40 N en39c40 c39c40 (resOf Tryz.f39) 17 [.dv (.sl (.pair (.int .i64) (.pair (.int .i64) (.unit)))) s0, .fn 40 0 1 fun i => ([.ptr 9000 0 []] : List TV).getD i .any] [(9000, .row (.pair (.int .i64) (.pair (.int .i64) (.unit))) p1)] dec39c40 = m39c40 a40c N s0 p1 := by rw [wm39c40]; simp only [m39c40, ql39c40a]
theorem ok39c40 (a40c : Y40c) (h40c : FnOk Tryz.prog 40 (F40c a40c)) (a : Y39c40) (h : ∀ s0 p1 r, a s0 p1 = some r → (∃ N, m39c40 a40c N s0 p1 = some r)) : FnOk Tryz.prog 39 (F39c40 a) := by
 intro args Of x hx
 simp only [F39c40] at hx
 split at hx
 ·rename_i s0 f_0 p1 heqc
  have hc0 := congrArg (fun c : List (List TV) => c.getD 0 []) heqc
  obtain ⟨N, hN⟩ := h _ _ _ hx
  refine HSpec.etaL (args := [.dv (.sl (.pair (.int .i64) (.pair (.int .i64) (.unit)))) s0, .fn 40 0 1 fun i => ([.ptr 9000 0 []] : List TV).getD i .any]) (O := [(9000, .row (.pair (.int .i64) (.pair (.int .i64) (.unit))) p1)]) ⟨TV.sim_refl _, TV.sim_fn hc0, trivial⟩ ⟨rfl, TO.sim_refl _, trivial⟩ (lifted (L := [(40, F40c a40c)]) (rc := nrc) (fz := nfz) (fn := Tryz.f39) (by kernel_rfl) (by kernel_rfl) (by kernel_rfl) (by kernel_rfl) rfl ?_ ((k39c40 a40c N _ _).trans hN) ?_)
  ·intro p hp; simp only [List.mem_cons, List.not_mem_nil, or_false] at hp; rcases hp with rfl; exact h40c
  ·intro l o hd
   simp only [dec39c40] at hd
   split at hd
   ·obtain rfl := Option.some.inj hd; exact ⟨rfl, rfl⟩
   ·cases hd
 ·cases hx
def E44 : Env := mkE TI TY [] nrc nfz
noncomputable def c44 : Code := bodyOf Tryz.f44
def lv44 : Nat → Option Norm := norms []
def en44 : End := ⟨[(9, .csl (.int .i64))], ⟨[9], [], [], []⟩⟩
def dec44 (l : List TV) (o : List (Nat × TO)) : Option Ti := match l, o with | [.dv (.csl (.int .i64)) x0], [] => some (x0) | _, _ => none
def m44 (N : Nat) (s0 : List Int) : Option Ti :=
   chk (decide (0 ≤ (s0.length : Int) ∧ (s0.length : Int) ≤ (s0.length : Int)) && decide ((s0.length : Int) = (s0.length : Int))) (some (s0.take ((s0.length : Int).toNat)))
theorem k44 (N : Nat) (s0 : List Int) : callF (E44) lv44 N en44 c44 (resOf Tryz.f44) 8 [.dv (.sl (.int .i64)) s0] [] dec44 = m44 N s0 := by kernel_rfl
theorem ok44 (a : Y44) (h : ∀ s0 r, a s0 = some r → (∃ N, m44 N s0 = some r)) : FnOk Tryz.prog 44 (F44 a) := by
 intro args Of x hx
 simp only [F44] at hx
 split at hx
 ·rename_i s0
  obtain ⟨N, hN⟩ := h _ _ hx
  refine lifted (L := []) (rc := nrc) (fz := nfz) (fn := Tryz.f44) (by kernel_rfl) (by kernel_rfl) (by kernel_rfl) (by kernel_rfl) rfl ?_ ((k44 N _).trans hN) ?_
  ·intro p hp; cases hp
  ·intro l o hd
   simp only [dec44] at hd
   split at hd
   ·obtain rfl := Option.some.inj hd; exact ⟨rfl, rfl⟩
   ·cases hd
 ·cases hx
def E72 (a75c : Y75c) : Env := mkE TI TY [(75, F75c a75c)] nrc nfz
noncomputable def c72 : Code := bodyOf Tryz.f72
def nm72_0 : Norm := ⟨[0, 13, 14, 15], [], [(.slot 5, 1005, .int .i64)], []⟩
def nm72_1 : Norm := ⟨[30, 31, 32], [1005], [], []⟩
def lv72 : Nat → Option Norm := norms [(3, nm72_0), (9, nm72_1)]
def en72 : End := ⟨[], ⟨[43], [], [], []⟩⟩
def dec72 (l : List TV) (o : List (Nat × TO)) : Option (Int) := match l, o with | [.dv (.int .i64) x0], [] => some (x0) | _, _ => none
def Sl72b (r1 : List Int) (t32_b : Int) : TS := ⟨slots 43 [(30, .row 1005), (31, .dv (.int .i64) (r1.length : Int)), (32, .dv (.int .i64) t32_b)], [(1005, .row (.int .i64) r1)]⟩
def Sl72a (lx0 : List Tr) (set1 : List Int) (t15_a : Int) (days5_a : List Int) : TS := ⟨slots 43 [(0, .dv (.sl (.pair (.int .i64) (.pair (.int .i64) (.unit)))) lx0), (5, .row 1005), (13, .dv (.sl (.int .i64)) set1), (14, .dv (.int .i64) (set1.length : Int)), (15, .dv (.int .i64) t15_a)], [(1005, .row (.int .i64) days5_a)]⟩
noncomputable def K72_0 (a75c : Y75c) (N : Nat) : Kont (Int) := kont (E72 a75c) lv72 N c72 [1, 1, 0, 1, 0] (fin TI en72 (resOf Tryz.f72) dec72)
noncomputable def R72_0 (a75c : Y75c) (N : Nat) (m : Nat) : TS → Option (Int) := loopK (den (E72 a75c) lv72 N (sub c72 [1, 1, 0, 1, 0, 0])) (TS.norm nm72_0) (K72_0 a75c N) m
noncomputable def K72_1 (a75c : Y75c) (N : Nat) : Kont (Int) := kont (E72 a75c) lv72 N c72 [1, 1, 1, 1, 0, 1, 0] (fin TI en72 (resOf Tryz.f72) dec72)
noncomputable def R72_1 (a75c : Y75c) (N : Nat) (m : Nat) : TS → Option (Int) := loopK (den (E72 a75c) lv72 N (sub c72 [1, 1, 1, 1, 0, 1, 0, 0])) (TS.norm nm72_1) (K72_1 a75c N) m
def l72b (a75c : Y75c) (N : Nat) (r1 : List Int) : Nat → Int → Option (Int)
 | 0, _ => none
 | n + 1, t32_b => cond (decide (t32_b < (r1.length : Int))) (chk (decide (0 ≤ t32_b ∧ t32_b < (r1.length : Int))) (cond (decide ((w64 (t32_b + (1 : Int))) > (r1.getD t32_b.toNat (0 : Int)))) (some (r1.getD t32_b.toNat (0 : Int)))
   ((l72b a75c N r1 n (w64 (t32_b + (1 : Int)))))))
   (some (0 : Int))
theorem wl72b (a75c : Y75c) (N : Nat) (r1 : List Int) (m : Nat) (t32_b : Int) : R72_1 a75c N (m + 1) (Sl72b r1 t32_b) = cond (decide (t32_b < (r1.length : Int))) (chk (decide (0 ≤ t32_b ∧ t32_b < (r1.length : Int))) (cond (decide ((w64 (t32_b + (1 : Int))) > (r1.getD t32_b.toNat (0 : Int)))) (some (r1.getD t32_b.toNat (0 : Int)))
   ((R72_1 a75c N m (Sl72b r1 (w64 (t32_b + (1 : Int))))))))
   (some (0 : Int)) := by kernel_rfl
theorem ql72b (a75c : Y75c) (N : Nat) (r1 : List Int) : ∀ (m : Nat) (t32_b : Int), R72_1 a75c N m (Sl72b r1 t32_b) = l72b a75c N r1 m t32_b
        | 0, _ => rfl
        | m + 1, t32_b => by rw [wl72b]; simp only [l72b, ql72b a75c N r1 m]
def l72a (a75c : Y75c) (N : Nat) (lx0 : List Tr) (set1 : List Int) : Nat → Int → Ti → Option (Int)
 | 0, _, _ => none
 | n + 1, t15_a, days5_a => cond (decide (t15_a < (set1.length : Int))) (chk (decide (0 ≤ t15_a ∧ t15_a < (set1.length : Int))) (chk (decide (0 ≤ set1.getD t15_a.toNat (0 : Int) ∧ set1.getD t15_a.toNat (0 : Int) < (lx0.length : Int))) (chk (small (days5_a.length + 1) 8) ((l72a a75c N lx0 set1 n (w64 (t15_a + (1 : Int))) (days5_a ++ ([(lx0.getD ((set1.getD t15_a.toNat (0 : Int)).toNat) ((0 : Int), ((0 : Int), ()))).1] : List Int)))))))
   ((a75c days5_a).bind fun r1 =>
   (l72b a75c N r1 N (0 : Int)))
theorem wl72a (a75c : Y75c) (N : Nat) (lx0 : List Tr) (set1 : List Int) (m : Nat) (t15_a : Int) (days5_a : List Int) : R72_0 a75c N (m + 1) (Sl72a lx0 set1 t15_a days5_a) = cond (decide (t15_a < (set1.length : Int))) (chk (decide (0 ≤ t15_a ∧ t15_a < (set1.length : Int))) (chk (decide (0 ≤ set1.getD t15_a.toNat (0 : Int) ∧ set1.getD t15_a.toNat (0 : Int) < (lx0.length : Int))) (chk (small (days5_a.length + 1) 8) ((R72_0 a75c N m (Sl72a lx0 set1 (w64 (t15_a + (1 : Int))) (days5_a ++ ([(lx0.getD ((set1.getD t15_a.toNat (0 : Int)).toNat) ((0 : Int), ((0 : Int), ()))).1] : List Int))))))))
   ((a75c days5_a).bind fun r1 =>
   (R72_1 a75c N N (Sl72b r1 (0 : Int)))) := by kernel_rfl
theorem ql72a (a75c : Y75c) (N : Nat) (lx0 : List Tr) (set1 : List Int) : ∀ (m : Nat) (t15_a : Int) (days5_a : List Int), R72_0 a75c N m (Sl72a lx0 set1 t15_a days5_a) = l72a a75c N lx0 set1 m t15_a days5_a
        | 0, _, _ => rfl
        | m + 1, t15_a, days5_a => by rw [wl72a]; simp only [l72a, ql72b, ql72a a75c N lx0 set1 m]
def m72 (a75c : Y75c) (N : Nat) (lx0 : List Tr) (set1 : List Int) : Option (Int) :=
   chk (mkOk (0 : Int) (set1.length : Int) 8) ((l72a a75c N lx0 set1 N (0 : Int) (List.replicate 0 (0 : Int))))
theorem wm72 (a75c : Y75c) (N : Nat) (lx0 : List Tr) (set1 : List Int) : callF (E72 a75c) lv72 N en72 c72 (resOf Tryz.f72) 41 [.dv (.sl (.pair (.int .i64) (.pair (.int .i64) (.unit)))) lx0, .dv (.sl (.int .i64)) set1] [] dec72 = chk (mkOk (0 : Int) (set1.length : Int) 8) ((R72_0 a75c N N (Sl72a lx0 set1 (0 : Int) (List.replicate 0 (0 : Int))))) := by kernel_rfl
theorem k72 (a75c : Y75c) (N : Nat) (lx0 : List Tr) (set1 : List Int) : callF (E72 a75c) lv72 N en72 c72 (resOf Tryz.f72) 41 [.dv (.sl (.pair (.int .i64) (.pair (.int .i64) (.unit)))) lx0, .dv (.sl (.int .i64)) set1] [] dec72 = m72 a75c N lx0 set1 := by rw [wm72]; simp only [m72, ql72a]
theorem ok72 (a75c : Y75c) (h75c : FnOk Tryz.prog 75 (F75c a75c)) (a : Y72) (h : ∀ lx0 set1 r, a lx0 set1 = some r → (∃ N, m72 a75c N lx0 set1 = some r)) : FnOk Tryz.prog 72 (F72 a) := by
 intro args Of x hx
 simp only [F72] at hx
 split at hx
 ·rename_i lx0 set1
  obtain ⟨N, hN⟩ := h _ _ _ hx
  refine lifted (L := [(75, F75c a75c)]) (rc := nrc) (fz := nfz) (fn := Tryz.f72) (by kernel_rfl) (by kernel_rfl) (by kernel_rfl) (by kernel_rfl) rfl ?_ ((k72 a75c N _ _).trans hN) ?_
  ·intro p hp; simp only [List.mem_cons, List.not_mem_nil, or_false] at hp; rcases hp with rfl; exact h75c
  ·intro l o hd
   simp only [dec72] at hd
   split at hd
   ·obtain rfl := Option.some.inj hd; exact ⟨rfl, rfl⟩
   ·cases hd
 ·cases hx
def E71c (a44 : Y44) (a72 : Y72) : Env := mkE TI TY [(44, F44 a44), (72, F72 a72)] nrc nfz
noncomputable def c71c : Code := bodyOf Tryz.f71
def lv71c : Nat → Option Norm := norms []
def en71c : End := ⟨[], ⟨[13], [], [], []⟩⟩
def dec71c (l : List TV) (o : List (Nat × TO)) : Option (Bool) := match l, o with | [.dv (.bool) x0], [] => some (x0) | _, _ => none
def m71c (a44 : Y44) (a72 : Y72) (N : Nat) (i0 : Int) (p1 : List Tr) (p2 : List Int) : Option (Bool) :=
   (a44 p2).bind fun r1 =>
   chk (small (r1.length + 1) 8) ((a72 p1 (r1 ++ ([i0] : List Int))).bind fun r2 =>
   some (r2 == (0 : Int)))
theorem k71c (a44 : Y44) (a72 : Y72) (N : Nat) (i0 : Int) (p1 : List Tr) (p2 : List Int) : callF (E71c a44 a72) lv71c N en71c c71c (resOf Tryz.f71) 10 [.dv (.int .i64) i0, .el (.sl (.pair (.int .i64) (.pair (.int .i64) (.unit)))) p1 [], .el (.sl (.int .i64)) p2 []] [] dec71c = m71c a44 a72 N i0 p1 p2 := by kernel_rfl
theorem ok71c (a44 : Y44) (a72 : Y72) (h44 : FnOk Tryz.prog 44 (F44 a44)) (h72 : FnOk Tryz.prog 72 (F72 a72)) (a : Y71c) (h : ∀ i0 p1 p2 r, a i0 p1 p2 = some r → (∃ N, m71c a44 a72 N i0 p1 p2 = some r)) : FnOk Tryz.prog 71 (F71c a) := by
 intro args Of x hx
 simp only [F71c] at hx
 split at hx
 ·rename_i i0 p1 p2
  obtain ⟨N, hN⟩ := h _ _ _ _ hx
  refine lifted (L := [(44, F44 a44), (72, F72 a72)]) (rc := nrc) (fz := nfz) (fn := Tryz.f71) (by kernel_rfl) (by kernel_rfl) (by kernel_rfl) (by kernel_rfl) rfl ?_ ((k71c a44 a72 N _ _ _).trans hN) ?_
  ·intro p hp; simp only [List.mem_cons, List.not_mem_nil, or_false] at hp; rcases hp with rfl | rfl
   ·exact h44
   ·exact h72
  ·intro l o hd
   simp only [dec71c] at hd
   split at hd
   ·obtain rfl := Option.some.inj hd; exact ⟨rfl, rfl⟩
   ·cases hd
 ·cases hx
def E74c (a65 : Y65) : Env := mkE TI TY [(65, F65 a65)] nrc nfz
noncomputable def c74c : Code := bodyOf Tryz.f74
def lv74c : Nat → Option Norm := norms []
def en74c : End := ⟨[], ⟨[17], [9000], [], []⟩⟩
def dec74c (l : List TV) (o : List (Nat × TO)) : Option (Int × List Tr) := match l, o with | [.dv (.int .i64) x0], [(9000, .rcd [.dv (.sl (.pair (.int .i64) (.pair (.int .i64) (.unit)))) x1])] => some (x0, x1) | _, _ => none
def m74c (a65 : Y65) (N : Nat) (ax0 : Int) (b1 : Int) (p2 : List Tr) : Option (Int × List Tr) :=
   chk (decide (0 ≤ b1 ∧ b1 < (p2.length : Int))) (chk (decide (0 ≤ ax0 ∧ ax0 < (p2.length : Int))) ((a65 (((p2.getD b1.toNat ((0 : Int), ((0 : Int), ()))).2).1) (((p2.getD ax0.toNat ((0 : Int), ((0 : Int), ()))).2).1)).bind fun r1 =>
   some (r1, p2)))
theorem k74c (a65 : Y65) (N : Nat) (ax0 : Int) (b1 : Int) (p2 : List Tr) : callF (E74c a65) lv74c N en74c c74c (resOf Tryz.f74) 14 [.dv (.int .i64) ax0, .dv (.int .i64) b1, .ptr 9000 0 [0]] [(9000, .rcd [.dv (.sl (.pair (.int .i64) (.pair (.int .i64) (.unit)))) p2])] dec74c = m74c a65 N ax0 b1 p2 := by kernel_rfl
theorem ok74c (a65 : Y65) (h65 : FnOk Tryz.prog 65 (F65 a65)) (a : Y74c) (h : ∀ ax0 b1 p2 r, a ax0 b1 p2 = some r → (∃ N, m74c a65 N ax0 b1 p2 = some r)) : FnOk Tryz.prog 74 (F74c a) := by
 intro args Of x hx
 simp only [F74c] at hx
 split at hx
 ·rename_i ax0 b1 p2
  obtain ⟨N, hN⟩ := h _ _ _ _ hx
  refine lifted (L := [(65, F65 a65)]) (rc := nrc) (fz := nfz) (fn := Tryz.f74) (by kernel_rfl) (by kernel_rfl) (by kernel_rfl) (by kernel_rfl) rfl ?_ ((k74c a65 N _ _ _).trans hN) ?_
  ·intro p hp; simp only [List.mem_cons, List.not_mem_nil, or_false] at hp; rcases hp with rfl; exact h65
  ·intro l o hd
   simp only [dec74c] at hd
   split at hd
   ·obtain rfl := Option.some.inj hd; exact ⟨rfl, rfl⟩
   ·cases hd
 ·cases hx
def E108c74 (a74c : Y74c) : Env := mkE TI TY [(74, F74c a74c)] nrc nfz
noncomputable def c108c74 : Code := bodyOf Tryz.f108
def nm108c74_0 : Norm := ⟨[0, 1, 2, 3, 8], [9000, 9001], [], []⟩
def nm108c74_1 : Norm := ⟨[0, 1, 2, 3, 8, 9], [9000, 9001], [], []⟩
def lv108c74 : Nat → Option Norm := norms [(1, nm108c74_0), (4, nm108c74_1)]
def en108c74 : End := ⟨[], ⟨[], [9000, 9001], [], []⟩⟩
def dec108c74 (l : List TV) (o : List (Nat × TO)) : Option (List Int × List Tr) := match l, o with | [], [(9000, .row (.int .i64) x0), (9001, .rcd [.dv (.sl (.pair (.int .i64) (.pair (.int .i64) (.unit)))) x1])] => some (x0, x1) | _, _ => none
def Sl108c74b (ax1 : Int) (b2 : Int) (i8_a : Int) (j9_b : Int) (o9000_b : List Int) (o9001_bf0 : List Tr) : TS := ⟨slots 53 [(0, .row 9000), (1, .dv (.int .i64) ax1), (2, .dv (.int .i64) b2), (3, .fn 74 0 1 fun i => ([.ptr 9001 0 [0]] : List TV).getD i .any), (8, .dv (.int .i64) i8_a), (9, .dv (.int .i64) j9_b)], [(9000, .row (.int .i64) o9000_b), (9001, .rcd [.dv (.sl (.pair (.int .i64) (.pair (.int .i64) (.unit)))) o9001_bf0])]⟩
def Sl108c74a (ax1 : Int) (b2 : Int) (i8_a : Int) (o9000_a : List Int) (o9001_af0 : List Tr) : TS := ⟨slots 53 [(0, .row 9000), (1, .dv (.int .i64) ax1), (2, .dv (.int .i64) b2), (3, .fn 74 0 1 fun i => ([.ptr 9001 0 [0]] : List TV).getD i .any), (8, .dv (.int .i64) i8_a)], [(9000, .row (.int .i64) o9000_a), (9001, .rcd [.dv (.sl (.pair (.int .i64) (.pair (.int .i64) (.unit)))) o9001_af0])]⟩
noncomputable def K108c74_0 (a74c : Y74c) (N : Nat) : Kont (List Int × List Tr) := kont (E108c74 a74c) lv108c74 N c108c74 [1, 0] (fin TI en108c74 (resOf Tryz.f108) dec108c74)
noncomputable def R108c74_0 (a74c : Y74c) (N : Nat) (m : Nat) : TS → Option (List Int × List Tr) := loopK (den (E108c74 a74c) lv108c74 N (sub c108c74 [1, 0, 0])) (TS.norm nm108c74_0) (K108c74_0 a74c N) m
noncomputable def K108c74_1 (a74c : Y74c) (N : Nat) (T108c74_0 : TS → Option (List Int × List Tr)) : Kont (List Int × List Tr) := kont (E108c74 a74c) lv108c74 N (sub c108c74 [1, 0, 0]) [1, 0, 0, 1, 0] (kloop (TS.norm nm108c74_0) (K108c74_0 a74c N) T108c74_0)
noncomputable def R108c74_1 (a74c : Y74c) (N : Nat) (T108c74_0 : TS → Option (List Int × List Tr)) (m : Nat) : TS → Option (List Int × List Tr) := loopK (den (E108c74 a74c) lv108c74 N (sub c108c74 [1, 0, 0, 1, 0, 0, 1, 0, 0])) (TS.norm nm108c74_1) (K108c74_1 a74c N T108c74_0) m
def l108c74b (a74c : Y74c) (N : Nat) (ax1 : Int) (b2 : Int) (i8_a : Int) (rec_l108c74a : Int → Ti → Tq → Option (List Int × List Tr)) : Nat → Int → Ti → Tq → Option (List Int × List Tr)
 | 0, _, _, _ => none
 | n + 1, j9_b, o9000_b, o9001_bf0 => cond (decide (j9_b > ax1)) (chk (decide (0 ≤ j9_b ∧ j9_b < (o9000_b.length : Int))) (chk (decide (0 ≤ w64 (j9_b - (1 : Int)) ∧ w64 (j9_b - (1 : Int)) < (o9000_b.length : Int))) ((a74c (o9000_b.getD j9_b.toNat (0 : Int)) (o9000_b.getD ((w64 (j9_b - (1 : Int))).toNat) (0 : Int)) o9001_bf0).bind fun r1 =>
   cond (decide (r1.1 < (0 : Int))) (chk (decide (0 ≤ w64 (j9_b - (1 : Int)) ∧ w64 (j9_b - (1 : Int)) < (o9000_b.length : Int))) (chk (decide (0 ≤ j9_b ∧ j9_b < (o9000_b.length : Int))) (chk (decide (0 ≤ j9_b ∧ j9_b < (o9000_b.length : Int))) (chk (decide (0 ≤ w64 (j9_b - (1 : Int)) ∧ w64 (j9_b - (1 : Int)) < ((o9000_b.set j9_b.toNat (o9000_b.getD ((w64 (j9_b - (1 : Int))).toNat) (0 : Int))).length : Int))) ((l108c74b a74c N ax1 b2 i8_a rec_l108c74a n (w64 (j9_b - (1 : Int))) ((o9000_b.set j9_b.toNat (o9000_b.getD ((w64 (j9_b - (1 : Int))).toNat) (0 : Int))).set ((w64 (j9_b - (1 : Int))).toNat) (o9000_b.getD j9_b.toNat (0 : Int))) r1.2))))))
   ((rec_l108c74a (w64 (i8_a + (1 : Int))) o9000_b r1.2)))))
   ((rec_l108c74a (w64 (i8_a + (1 : Int))) o9000_b o9001_bf0))
theorem wl108c74b (a74c : Y74c) (N : Nat) (ax1 : Int) (b2 : Int) (i8_a : Int) (T108c74_0 : TS → Option (List Int × List Tr)) (m : Nat) (j9_b : Int) (o9000_b : List Int) (o9001_bf0 : List Tr) : R108c74_1 a74c N T108c74_0 (m + 1) (Sl108c74b ax1 b2 i8_a j9_b o9000_b o9001_bf0) = cond (decide (j9_b > ax1)) (chk (decide (0 ≤ j9_b ∧ j9_b < (o9000_b.length : Int))) (chk (decide (0 ≤ w64 (j9_b - (1 : Int)) ∧ w64 (j9_b - (1 : Int)) < (o9000_b.length : Int))) ((a74c (o9000_b.getD j9_b.toNat (0 : Int)) (o9000_b.getD ((w64 (j9_b - (1 : Int))).toNat) (0 : Int)) o9001_bf0).bind fun r1 =>
   cond (decide (r1.1 < (0 : Int))) (chk (decide (0 ≤ w64 (j9_b - (1 : Int)) ∧ w64 (j9_b - (1 : Int)) < (o9000_b.length : Int))) (chk (decide (0 ≤ j9_b ∧ j9_b < (o9000_b.length : Int))) (chk (decide (0 ≤ j9_b ∧ j9_b < (o9000_b.length : Int))) (chk (decide (0 ≤ w64 (j9_b - (1 : Int)) ∧ w64 (j9_b - (1 : Int)) < ((o9000_b.set j9_b.toNat (o9000_b.getD ((w64 (j9_b - (1 : Int))).toNat) (0 : Int))).length : Int))) ((R108c74_1 a74c N T108c74_0 m (Sl108c74b ax1 b2 i8_a (w64 (j9_b - (1 : Int))) ((o9000_b.set j9_b.toNat (o9000_b.getD ((w64 (j9_b - (1 : Int))).toNat) (0 : Int))).set ((w64 (j9_b - (1 : Int))).toNat) (o9000_b.getD j9_b.toNat (0 : Int))) r1.2)))))))
   ((T108c74_0 (Sl108c74a ax1 b2 (w64 (i8_a + (1 : Int))) o9000_b r1.2))))))
   ((T108c74_0 (Sl108c74a ax1 b2 (w64 (i8_a + (1 : Int))) o9000_b o9001_bf0))) := by kernel_rfl
theorem ql108c74b (a74c : Y74c) (N : Nat) (ax1 : Int) (b2 : Int) (i8_a : Int) (T108c74_0 : TS → Option (List Int × List Tr)) : ∀ (m : Nat) (j9_b : Int) (o9000_b : List Int) (o9001_bf0 : List Tr), R108c74_1 a74c N T108c74_0 m (Sl108c74b ax1 b2 i8_a j9_b o9000_b o9001_bf0) = l108c74b a74c N ax1 b2 i8_a (fun y0 y1 y2 => T108c74_0 (Sl108c74a ax1 b2 y0 y1 y2)) m j9_b o9000_b o9001_bf0
        | 0, _, _, _ => rfl
        | m + 1, j9_b, o9000_b, o9001_bf0 => by rw [wl108c74b]; simp only [l108c74b, ql108c74b a74c N ax1 b2 i8_a T108c74_0 m]
def l108c74a (a74c : Y74c) (N : Nat) (ax1 : Int) (b2 : Int) : Nat → Int → Ti → Tq → Option (List Int × List Tr)
 | 0, _, _, _ => none
 | n + 1, i8_a, o9000_a, o9001_af0 => cond (decide (i8_a < b2)) ((l108c74b a74c N ax1 b2 i8_a (fun y0 y1 y2 => (l108c74a a74c N ax1 b2 n y0 y1 y2)) N i8_a o9000_a o9001_af0))
   (some (o9000_a, o9001_af0))
theorem wl108c74a (a74c : Y74c) (N : Nat) (ax1 : Int) (b2 : Int) (m : Nat) (i8_a : Int) (o9000_a : List Int) (o9001_af0 : List Tr) : R108c74_0 a74c N (m + 1) (Sl108c74a ax1 b2 i8_a o9000_a o9001_af0) = cond (decide (i8_a < b2)) ((R108c74_1 a74c N (R108c74_0 a74c N m) N (Sl108c74b ax1 b2 i8_a i8_a o9000_a o9001_af0)))
   (some (o9000_a, o9001_af0)) := by kernel_rfl
theorem ql108c74a (a74c : Y74c) (N : Nat) (ax1 : Int) (b2 : Int) : ∀ (m : Nat) (i8_a : Int) (o9000_a : List Int) (o9001_af0 : List Tr), R108c74_0 a74c N m (Sl108c74a ax1 b2 i8_a o9000_a o9001_af0) = l108c74a a74c N ax1 b2 m i8_a o9000_a o9001_af0
        | 0, _, _, _ => rfl
        | m + 1, i8_a, o9000_a, o9001_af0 => by rw [wl108c74a]; simp only [l108c74a, ql108c74b, ql108c74a a74c N ax1 b2 m]
def m108c74 (a74c : Y74c) (N : Nat) (ax1 : Int) (b2 : Int) (p2 : List Int) (p3 : List Tr) : Option (List Int × List Tr) :=
   (l108c74a a74c N ax1 b2 N (w64 (ax1 + (1 : Int))) p2 p3)
theorem wm108c74 (a74c : Y74c) (N : Nat) (ax1 : Int) (b2 : Int) (p2 : List Int) (p3 : List Tr) : callF (E108c74 a74c) lv108c74 N en108c74 c108c74 (resOf Tryz.f108) 49 [.row 9000, .dv (.int .i64) ax1, .dv (.int .i64) b2, .fn 74 0 1 fun i => ([.ptr 9001 0 [0]] : List TV).getD i .any] [(9000, .row (.int .i64) p2), (9001, .rcd [.dv (.sl (.pair (.int .i64) (.pair (.int .i64) (.unit)))) p3])] dec108c74 = (R108c74_0 a74c N N (Sl108c74a ax1 b2 (w64 (ax1 + (1 : Int))) p2 p3)) := by kernel_rfl
theorem k108c74 (a74c : Y74c) (N : Nat) (ax1 : Int) (b2 : Int) (p2 : List Int) (p3 : List Tr) : callF (E108c74 a74c) lv108c74 N en108c74 c108c74 (resOf Tryz.f108) 49 [.row 9000, .dv (.int .i64) ax1, .dv (.int .i64) b2, .fn 74 0 1 fun i => ([.ptr 9001 0 [0]] : List TV).getD i .any] [(9000, .row (.int .i64) p2), (9001, .rcd [.dv (.sl (.pair (.int .i64) (.pair (.int .i64) (.unit)))) p3])] dec108c74 = m108c74 a74c N ax1 b2 p2 p3 := by rw [wm108c74]; simp only [m108c74, ql108c74a]
theorem ok108c74 (a74c : Y74c) (h74c : FnOk Tryz.prog 74 (F74c a74c)) (a : Y108c74) (h : ∀ ax1 b2 p2 p3 r, a ax1 b2 p2 p3 = some r → (∃ N, m108c74 a74c N ax1 b2 p2 p3 = some r)) : FnOk Tryz.prog 108 (F108c74 a) := by
 intro args Of x hx
 simp only [F108c74] at hx
 split at hx
 ·rename_i ax1 b2 f_0 p2 p3 heqc
  have hc0 := congrArg (fun c : List (List TV) => c.getD 0 []) heqc
  obtain ⟨N, hN⟩ := h _ _ _ _ _ hx
  refine HSpec.etaL (args := [.row 9000, .dv (.int .i64) ax1, .dv (.int .i64) b2, .fn 74 0 1 fun i => ([.ptr 9001 0 [0]] : List TV).getD i .any]) (O := [(9000, .row (.int .i64) p2), (9001, .rcd [.dv (.sl (.pair (.int .i64) (.pair (.int .i64) (.unit)))) p3])]) ⟨TV.sim_refl _, TV.sim_refl _, TV.sim_refl _, TV.sim_fn hc0, trivial⟩ ⟨rfl, TO.sim_refl _, rfl, TO.sim_refl _, trivial⟩ (lifted (L := [(74, F74c a74c)]) (rc := nrc) (fz := nfz) (fn := Tryz.f108) (by kernel_rfl) (by kernel_rfl) (by kernel_rfl) (by kernel_rfl) rfl ?_ ((k108c74 a74c N _ _ _ _).trans hN) ?_)
  ·intro p hp; simp only [List.mem_cons, List.not_mem_nil, or_false] at hp; rcases hp with rfl; exact h74c
  ·intro l o hd
   simp only [dec108c74] at hd
   split at hd
   ·obtain rfl := Option.some.inj hd; exact ⟨rfl, rfl⟩
   ·cases hd
 ·cases hx
def E93c74 (a108c74 : Y108c74) (a109c74 : Y109c74) : Env := mkE TI TY [(108, F108c74 a108c74), (109, F109c74 a109c74)] nrc nfz
noncomputable def c93c74 : Code := bodyOf Tryz.f93
def nm93c74_0 : Norm := ⟨[0, 1, 2, 6, 7, 8], [9000, 9001], [], []⟩
def nm93c74_1 : Norm := ⟨[0, 1, 2, 6], [9000, 9001], [], []⟩
def nm93c74_2 : Norm := ⟨[0, 1, 2, 6, 7, 8], [9000, 9001], [], []⟩
def lv93c74 : Nat → Option Norm := norms [(2, nm93c74_0), (7, nm93c74_1), (9, nm93c74_2)]
def en93c74 : End := ⟨[], ⟨[], [9000, 9001], [], []⟩⟩
def dec93c74 (l : List TV) (o : List (Nat × TO)) : Option (List Int × List Tr) := match l, o with | [], [(9000, .row (.int .i64) x0), (9001, .rcd [.dv (.sl (.pair (.int .i64) (.pair (.int .i64) (.unit)))) x1])] => some (x0, x1) | _, _ => none
def Sl93c74c (n1 : Int) (blockSize6_b : Int) (a7_c : Int) (b8_c : Int) (o9000_c : List Int) (o9001_cf0 : List Tr) : TS := ⟨slots 63 [(0, .row 9000), (1, .dv (.int .i64) n1), (2, .fn 74 0 1 fun i => ([.ptr 9001 0 [0]] : List TV).getD i .any), (6, .dv (.int .i64) blockSize6_b), (7, .dv (.int .i64) a7_c), (8, .dv (.int .i64) b8_c)], [(9000, .row (.int .i64) o9000_c), (9001, .rcd [.dv (.sl (.pair (.int .i64) (.pair (.int .i64) (.unit)))) o9001_cf0])]⟩
def Sl93c74b (n1 : Int) (blockSize6_b : Int) (o9000_b : List Int) (o9001_bf0 : List Tr) : TS := ⟨slots 63 [(0, .row 9000), (1, .dv (.int .i64) n1), (2, .fn 74 0 1 fun i => ([.ptr 9001 0 [0]] : List TV).getD i .any), (6, .dv (.int .i64) blockSize6_b)], [(9000, .row (.int .i64) o9000_b), (9001, .rcd [.dv (.sl (.pair (.int .i64) (.pair (.int .i64) (.unit)))) o9001_bf0])]⟩
def Sl93c74a (n1 : Int) (a7_a : Int) (b8_a : Int) (o9000_a : List Int) (o9001_af0 : List Tr) : TS := ⟨slots 63 [(0, .row 9000), (1, .dv (.int .i64) n1), (2, .fn 74 0 1 fun i => ([.ptr 9001 0 [0]] : List TV).getD i .any), (6, .dv (.int .i64) (20 : Int)), (7, .dv (.int .i64) a7_a), (8, .dv (.int .i64) b8_a)], [(9000, .row (.int .i64) o9000_a), (9001, .rcd [.dv (.sl (.pair (.int .i64) (.pair (.int .i64) (.unit)))) o9001_af0])]⟩
noncomputable def K93c74_0 (a108c74 : Y108c74) (a109c74 : Y109c74) (N : Nat) : Kont (List Int × List Tr) := kont (E93c74 a108c74 a109c74) lv93c74 N c93c74 [1, 1, 0, 0] (fin TI en93c74 (resOf Tryz.f93) dec93c74)
noncomputable def R93c74_0 (a108c74 : Y108c74) (a109c74 : Y109c74) (N : Nat) (m : Nat) : TS → Option (List Int × List Tr) := loopK (den (E93c74 a108c74 a109c74) lv93c74 N (sub c93c74 [1, 1, 0, 0, 0])) (TS.norm nm93c74_0) (K93c74_0 a108c74 a109c74 N) m
noncomputable def K93c74_1 (a108c74 : Y108c74) (a109c74 : Y109c74) (N : Nat) : Kont (List Int × List Tr) := kont (E93c74 a108c74 a109c74) lv93c74 N c93c74 [1, 1, 1, 1, 0] (fin TI en93c74 (resOf Tryz.f93) dec93c74)
noncomputable def R93c74_1 (a108c74 : Y108c74) (a109c74 : Y109c74) (N : Nat) (m : Nat) : TS → Option (List Int × List Tr) := loopK (den (E93c74 a108c74 a109c74) lv93c74 N (sub c93c74 [1, 1, 1, 1, 0, 0])) (TS.norm nm93c74_1) (K93c74_1 a108c74 a109c74 N) m
noncomputable def K93c74_2 (a108c74 : Y108c74) (a109c74 : Y109c74) (N : Nat) (T93c74_1 : TS → Option (List Int × List Tr)) : Kont (List Int × List Tr) := kont (E93c74 a108c74 a109c74) lv93c74 N (sub c93c74 [1, 1, 1, 1, 0, 0]) [1, 0, 1, 0, 0] (kloop (TS.norm nm93c74_1) (K93c74_1 a108c74 a109c74 N) T93c74_1)
noncomputable def R93c74_2 (a108c74 : Y108c74) (a109c74 : Y109c74) (N : Nat) (T93c74_1 : TS → Option (List Int × List Tr)) (m : Nat) : TS → Option (List Int × List Tr) := loopK (den (E93c74 a108c74 a109c74) lv93c74 N (sub c93c74 [1, 1, 1, 1, 0, 0, 1, 0, 1, 0, 0, 0])) (TS.norm nm93c74_2) (K93c74_2 a108c74 a109c74 N T93c74_1) m
def l93c74c (a108c74 : Y108c74) (a109c74 : Y109c74) (N : Nat) (n1 : Int) (blockSize6_b : Int) (rec_l93c74b : Int → Ti → Tq → Option (List Int × List Tr)) : Nat → Int → Int → Ti → Tq → Option (List Int × List Tr)
 | 0, _, _, _, _ => none
 | n + 1, a7_c, b8_c, o9000_c, o9001_cf0 => cond (decide (b8_c ≤ n1)) ((a109c74 a7_c (w64 (a7_c + blockSize6_b)) b8_c o9000_c o9001_cf0).bind fun r3 =>
   (l93c74c a108c74 a109c74 N n1 blockSize6_b rec_l93c74b n b8_c (w64 (b8_c + (w64 ((2 : Int) * blockSize6_b)))) r3.1 r3.2))
   (cond (decide ((w64 (a7_c + blockSize6_b)) < n1)) ((a109c74 a7_c (w64 (a7_c + blockSize6_b)) n1 o9000_c o9001_cf0).bind fun r4 =>
   (rec_l93c74b (w64 (blockSize6_b * (2 : Int))) r4.1 r4.2))
   ((rec_l93c74b (w64 (blockSize6_b * (2 : Int))) o9000_c o9001_cf0)))
theorem wl93c74c (a108c74 : Y108c74) (a109c74 : Y109c74) (N : Nat) (n1 : Int) (blockSize6_b : Int) (T93c74_1 : TS → Option (List Int × List Tr)) (m : Nat) (a7_c : Int) (b8_c : Int) (o9000_c : List Int) (o9001_cf0 : List Tr) : R93c74_2 a108c74 a109c74 N T93c74_1 (m + 1) (Sl93c74c n1 blockSize6_b a7_c b8_c o9000_c o9001_cf0) = cond (decide (b8_c ≤ n1)) ((a109c74 a7_c (w64 (a7_c + blockSize6_b)) b8_c o9000_c o9001_cf0).bind fun r3 =>
   (R93c74_2 a108c74 a109c74 N T93c74_1 m (Sl93c74c n1 blockSize6_b b8_c (w64 (b8_c + (w64 ((2 : Int) * blockSize6_b)))) r3.1 r3.2)))
   (cond (decide ((w64 (a7_c + blockSize6_b)) < n1)) ((a109c74 a7_c (w64 (a7_c + blockSize6_b)) n1 o9000_c o9001_cf0).bind fun r4 =>
   (T93c74_1 (Sl93c74b n1 (w64 (blockSize6_b * (2 : Int))) r4.1 r4.2)))
   ((T93c74_1 (Sl93c74b n1 (w64 (blockSize6_b * (2 : Int))) o9000_c o9001_cf0)))) := by kernel_rfl
theorem ql93c74c (a108c74 : Y108c74) (a109c74 : Y109c74) (N : Nat) (n1 : Int) (blockSize6_b : Int) (T93c74_1 : TS → Option (List Int × List Tr)) : ∀ (m : Nat) (a7_c : Int) (b8_c : Int) (o9000_c : List Int) (o9001_cf0 : List Tr), R93c74_2 a108c74 a109c74 N T93c74_1 m (Sl93c74c n1 blockSize6_b a7_c b8_c o9000_c o9001_cf0) = l93c74c a108c74 a109c74 N n1 blockSize6_b (fun y0 y1 y2 => T93c74_1 (Sl93c74b n1 y0 y1 y2)) m a7_c b8_c o9000_c o9001_cf0
        | 0, _, _, _, _ => rfl
        | m + 1, a7_c, b8_c, o9000_c, o9001_cf0 => by rw [wl93c74c]; simp only [l93c74c, ql93c74c a108c74 a109c74 N n1 blockSize6_b T93c74_1 m]
def l93c74b (a108c74 : Y108c74) (a109c74 : Y109c74) (N : Nat) (n1 : Int) : Nat → Int → Ti → Tq → Option (List Int × List Tr)
 | 0, _, _, _ => none
 | n + 1, blockSize6_b, o9000_b, o9001_bf0 => cond (decide (blockSize6_b < n1)) ((l93c74c a108c74 a109c74 N n1 blockSize6_b (fun y0 y1 y2 => (l93c74b a108c74 a109c74 N n1 n y0 y1 y2)) N (0 : Int) (w64 ((2 : Int) * blockSize6_b)) o9000_b o9001_bf0))
   (some (o9000_b, o9001_bf0))
theorem wl93c74b (a108c74 : Y108c74) (a109c74 : Y109c74) (N : Nat) (n1 : Int) (m : Nat) (blockSize6_b : Int) (o9000_b : List Int) (o9001_bf0 : List Tr) : R93c74_1 a108c74 a109c74 N (m + 1) (Sl93c74b n1 blockSize6_b o9000_b o9001_bf0) = cond (decide (blockSize6_b < n1)) ((R93c74_2 a108c74 a109c74 N (R93c74_1 a108c74 a109c74 N m) N (Sl93c74c n1 blockSize6_b (0 : Int) (w64 ((2 : Int) * blockSize6_b)) o9000_b o9001_bf0)))
   (some (o9000_b, o9001_bf0)) := by kernel_rfl
theorem ql93c74b (a108c74 : Y108c74) (a109c74 : Y109c74) (N : Nat) (n1 : Int) : ∀ (m : Nat) (blockSize6_b : Int) (o9000_b : List Int) (o9001_bf0 : List Tr), R93c74_1 a108c74 a109c74 N m (Sl93c74b n1 blockSize6_b o9000_b o9001_bf0) = l93c74b a108c74 a109c74 N n1 m blockSize6_b o9000_b o9001_bf0
        | 0, _, _, _ => rfl
        | m + 1, blockSize6_b, o9000_b, o9001_bf0 => by rw [wl93c74b]; simp only [l93c74b, ql93c74c, ql93c74b a108c74 a109c74 N n1 m]
def l93c74a (a108c74 : Y108c74) (a109c74 : Y109c74) (N : Nat) (n1 : Int) : Nat → Int → Int → Ti → Tq → Option (List Int × List Tr)
 | 0, _, _, _, _ => none
 | n + 1, a7_a, b8_a, o9000_a, o9001_af0 => cond (decide (b8_a ≤ n1)) ((a108c74 a7_a b8_a o9000_a o9001_af0).bind fun r1 =>
   (l93c74a a108c74 a109c74 N n1 n b8_a (w64 (b8_a + (20 : Int))) r1.1 r1.2))
   ((a108c74 a7_a n1 o9000_a o9001_af0).bind fun r2 =>
   (l93c74b a108c74 a109c74 N n1 N (20 : Int) r2.1 r2.2))
theorem wl93c74a (a108c74 : Y108c74) (a109c74 : Y109c74) (N : Nat) (n1 : Int) (m : Nat) (a7_a : Int) (b8_a : Int) (o9000_a : List Int) (o9001_af0 : List Tr) : R93c74_0 a108c74 a109c74 N (m + 1) (Sl93c74a n1 a7_a b8_a o9000_a o9001_af0) = cond (decide (b8_a ≤ n1)) ((a108c74 a7_a b8_a o9000_a o9001_af0).bind fun r1 =>
   (R93c74_0 a108c74 a109c74 N m (Sl93c74a n1 b8_a (w64 (b8_a + (20 : Int))) r1.1 r1.2)))
   ((a108c74 a7_a n1 o9000_a o9001_af0).bind fun r2 =>
   (R93c74_1 a108c74 a109c74 N N (Sl93c74b n1 (20 : Int) r2.1 r2.2))) := by kernel_rfl
theorem ql93c74a (a108c74 : Y108c74) (a109c74 : Y109c74) (N : Nat) (n1 : Int) : ∀ (m : Nat) (a7_a : Int) (b8_a : Int) (o9000_a : List Int) (o9001_af0 : List Tr), R93c74_0 a108c74 a109c74 N m (Sl93c74a n1 a7_a b8_a o9000_a o9001_af0) = l93c74a a108c74 a109c74 N n1 m a7_a b8_a o9000_a o9001_af0
        | 0, _, _, _, _ => rfl
        | m + 1, a7_a, b8_a, o9000_a, o9001_af0 => by rw [wl93c74a]; simp only [l93c74a, ql93c74b, ql93c74a a108c74 a109c74 N n1 m]
def m93c74 (a108c74 : Y108c74) (a109c74 : Y109c74) (N : Nat) (n1 : Int) (p1 : List Int) (p2 : List Tr) : Option (List Int × List Tr) :=
   (l93c74a a108c74 a109c74 N n1 N (0 : Int) (20 : Int) p1 p2)
theorem wm93c74 (a108c74 : Y108c74) (a109c74 : Y109c74) (N : Nat) (n1 : Int) (p1 : List Int) (p2 : List Tr) : callF (E93c74 a108c74 a109c74) lv93c74 N en93c74 c93c74 (resOf Tryz.f93) 60 [.row 9000, .dv (.int .i64) n1, .fn 74 0 1 fun i => ([.ptr 9001 0 [0]] : List TV).getD i .any] [(9000, .row (.int .i64) p1), (9001, .rcd [.dv (.sl (.pair (.int .i64) (.pair (.int .i64) (.unit)))) p2])] dec93c74 = (R93c74_0 a108c74 a109c74 N N (Sl93c74a n1 (0 : Int) (20 : Int) p1 p2)) := by kernel_rfl
theorem k93c74 (a108c74 : Y108c74) (a109c74 : Y109c74) (N : Nat) (n1 : Int) (p1 : List Int) (p2 : List Tr) : callF (E93c74 a108c74 a109c74) lv93c74 N en93c74 c93c74 (resOf Tryz.f93) 60 [.row 9000, .dv (.int .i64) n1, .fn 74 0 1 fun i => ([.ptr 9001 0 [0]] : List TV).getD i .any] [(9000, .row (.int .i64) p1), (9001, .rcd [.dv (.sl (.pair (.int .i64) (.pair (.int .i64) (.unit)))) p2])] dec93c74 = m93c74 a108c74 a109c74 N n1 p1 p2 := by rw [wm93c74]; simp only [m93c74, ql93c74a]
theorem ok93c74 (a108c74 : Y108c74) (a109c74 : Y109c74) (h108c74 : FnOk Tryz.prog 108 (F108c74 a108c74)) (h109c74 : FnOk Tryz.prog 109 (F109c74 a109c74)) (a : Y93c74) (h : ∀ n1 p1 p2 r, a n1 p1 p2 = some r → (∃ N, m93c74 a108c74 a109c74 N n1 p1 p2 = some r)) : FnOk Tryz.prog 93 (F93c74 a) := by
 intro args Of x hx
 simp only [F93c74] at hx
 split at hx
 ·rename_i n1 f_0 p1 p2 heqc
  have hc0 := congrArg (fun c : List (List TV) => c.getD 0 []) heqc
  obtain ⟨N, hN⟩ := h _ _ _ _ hx
  refine HSpec.etaL (args := [.row 9000, .dv (.int .i64) n1, .fn 74 0 1 fun i => ([.ptr 9001 0 [0]] : List TV).getD i .any]) (O := [(9000, .row (.int .i64) p1), (9001, .rcd [.dv (.sl (.pair (.int .i64) (.pair (.int .i64) (.unit)))) p2])]) ⟨TV.sim_refl _, TV.sim_refl _, TV.sim_fn hc0, trivial⟩ ⟨rfl, TO.sim_refl _, rfl, TO.sim_refl _, trivial⟩ (lifted (L := [(108, F108c74 a108c74), (109, F109c74 a109c74)]) (rc := nrc) (fz := nfz) (fn := Tryz.f93) (by kernel_rfl) (by kernel_rfl) (by kernel_rfl) (by kernel_rfl) rfl ?_ ((k93c74 a108c74 a109c74 N _ _ _).trans hN) ?_)
  ·intro p hp; simp only [List.mem_cons, List.not_mem_nil, or_false] at hp; rcases hp with rfl | rfl
   ·exact h108c74
   ·exact h109c74
  ·intro l o hd
   simp only [dec93c74] at hd
   split at hd
   ·obtain rfl := Option.some.inj hd; exact ⟨rfl, rfl⟩
   ·cases hd
 ·cases hx
def E73c74 (a93c74 : Y93c74) : Env := mkE TI TY [(93, F93c74 a93c74)] nrc nfz
noncomputable def c73c74 : Code := bodyOf Tryz.f73
def lv73c74 : Nat → Option Norm := norms []
def en73c74 : End := ⟨[], ⟨[], [9000, 9001], [], []⟩⟩
def dec73c74 (l : List TV) (o : List (Nat × TO)) : Option (List Int × List Tr) := match l, o with | [], [(9000, .row (.int .i64) x0), (9001, .rcd [.dv (.sl (.pair (.int .i64) (.pair (.int .i64) (.unit)))) x1])] => some (x0, x1) | _, _ => none
def m73c74 (a93c74 : Y93c74) (N : Nat) (p0 : List Int) (p1 : List Tr) : Option (List Int × List Tr) :=
   (a93c74 (p0.length : Int) p0 p1).bind fun r1 =>
   some (r1.1, r1.2)
theorem k73c74 (a93c74 : Y93c74) (N : Nat) (p0 : List Int) (p1 : List Tr) : callF (E73c74 a93c74) lv73c74 N en73c74 c73c74 (resOf Tryz.f73) 7 [.row 9000, .fn 74 0 1 fun i => ([.ptr 9001 0 [0]] : List TV).getD i .any] [(9000, .row (.int .i64) p0), (9001, .rcd [.dv (.sl (.pair (.int .i64) (.pair (.int .i64) (.unit)))) p1])] dec73c74 = m73c74 a93c74 N p0 p1 := by kernel_rfl
theorem ok73c74 (a93c74 : Y93c74) (h93c74 : FnOk Tryz.prog 93 (F93c74 a93c74)) (a : Y73c74) (h : ∀ p0 p1 r, a p0 p1 = some r → (∃ N, m73c74 a93c74 N p0 p1 = some r)) : FnOk Tryz.prog 73 (F73c74 a) := by
 intro args Of x hx
 simp only [F73c74] at hx
 split at hx
 ·rename_i f_0 p0 p1 heqc
  have hc0 := congrArg (fun c : List (List TV) => c.getD 0 []) heqc
  obtain ⟨N, hN⟩ := h _ _ _ hx
  refine HSpec.etaL (args := [.row 9000, .fn 74 0 1 fun i => ([.ptr 9001 0 [0]] : List TV).getD i .any]) (O := [(9000, .row (.int .i64) p0), (9001, .rcd [.dv (.sl (.pair (.int .i64) (.pair (.int .i64) (.unit)))) p1])]) ⟨TV.sim_refl _, TV.sim_fn hc0, trivial⟩ ⟨rfl, TO.sim_refl _, rfl, TO.sim_refl _, trivial⟩ (lifted (L := [(93, F93c74 a93c74)]) (rc := nrc) (fz := nfz) (fn := Tryz.f73) (by kernel_rfl) (by kernel_rfl) (by kernel_rfl) (by kernel_rfl) rfl ?_ ((k73c74 a93c74 N _ _).trans hN) ?_)
  ·intro p hp; simp only [List.mem_cons, List.not_mem_nil, or_false] at hp; rcases hp with rfl; exact h93c74
  ·intro l o hd
   simp only [dec73c74] at hd
   split at hd
   ·obtain rfl := Option.some.inj hd; exact ⟨rfl, rfl⟩
   ·cases hd
 ·cases hx
def E41c (a35 : Y35) (a71cv1 : Y71cv1) (a73c74 : Y73c74) (a75c : Y75c) : Env := mkE TI TY [(35, F35 a35), (71, F71cv1 a71cv1), (73, F73c74 a73c74), (75, F75c a75c)] nrc nfz
noncomputable def c41c : Code := bodyOf Tryz.f41
def nm41c_0 : Norm := ⟨[2, 3, 5, 6, 15, 16], [2, 3, 13, 9000], [], []⟩
def nm41c_1 : Norm := ⟨[3, 5, 27, 28, 29], [3, 2, 13, 9000], [(.fld 3 0, 2100, .int .i64)], []⟩
def lv41c : Nat → Option Norm := norms [(4, nm41c_0), (10, nm41c_1)]
def en41c : End := ⟨[], ⟨[], [9000], [(.slot 50, 1500, .int .i64)], []⟩⟩
def dec41c (l : List TV) (o : List (Nat × TO)) : Option Ti := match l, o with | [.row 1500], [(1500, .row (.int .i64) x0), (9000, .dead)] => some (x0) | _, _ => none
def Sl41cb (r1 : List Int × List Tr) (t29_b : Int) (o2100_b : List Int) (o2_bf0 : List Tr) : TS := ⟨slots 50 [(3, .ptr 3 0 [0]), (5, .fn 71 0 2 fun i => ([.ptr 2 0 [0], .ptr 3 0 [0]] : List TV).getD i .any), (27, .row 13), (28, .dv (.int .i64) (r1.1.length : Int)), (29, .dv (.int .i64) t29_b)], [(2100, .row (.int .i64) o2100_b), (3, .rcd [.row 2100]), (2, .rcd [.dv (.sl (.pair (.int .i64) (.pair (.int .i64) (.unit)))) o2_bf0]), (13, .row (.int .i64) r1.1), (9000, .dead)]⟩
def Sl41ca (lx0 : List Tr) (p1 : List Int) (t16_a : Int) (o13_a : List Int) : TS := ⟨slots 50 [(2, .ptr 2 0 [0]), (3, .ptr 3 0 [0]), (5, .fn 71 0 2 fun i => ([.ptr 2 0 [0], .ptr 3 0 [0]] : List TV).getD i .any), (6, .row 13), (15, .dv (.int .i64) ((List.replicate ((lx0.length : Int).toNat) (0 : Int)).length : Int)), (16, .dv (.int .i64) t16_a)], [(2, .rcd [.dv (.sl (.pair (.int .i64) (.pair (.int .i64) (.unit)))) lx0]), (3, .rcd [.row 9000]), (13, .row (.int .i64) o13_a), (9000, .row (.int .i64) p1)]⟩
noncomputable def K41c_0 (a35 : Y35) (a71cv1 : Y71cv1) (a73c74 : Y73c74) (a75c : Y75c) (N : Nat) : Kont Ti := kont (E41c a35 a71cv1 a73c74 a75c) lv41c N c41c [1, 1, 1, 0, 1, 0] (fin TI en41c (resOf Tryz.f41) dec41c)
noncomputable def R41c_0 (a35 : Y35) (a71cv1 : Y71cv1) (a73c74 : Y73c74) (a75c : Y75c) (N : Nat) (m : Nat) : TS → Option Ti := loopK (den (E41c a35 a71cv1 a73c74 a75c) lv41c N (sub c41c [1, 1, 1, 0, 1, 0, 0])) (TS.norm nm41c_0) (K41c_0 a35 a71cv1 a73c74 a75c N) m
noncomputable def K41c_1 (a35 : Y35) (a71cv1 : Y71cv1) (a73c74 : Y73c74) (a75c : Y75c) (N : Nat) : Kont Ti := kont (E41c a35 a71cv1 a73c74 a75c) lv41c N c41c [1, 1, 1, 1, 1, 0, 1, 0] (fin TI en41c (resOf Tryz.f41) dec41c)
noncomputable def R41c_1 (a35 : Y35) (a71cv1 : Y71cv1) (a73c74 : Y73c74) (a75c : Y75c) (N : Nat) (m : Nat) : TS → Option Ti := loopK (den (E41c a35 a71cv1 a73c74 a75c) lv41c N (sub c41c [1, 1, 1, 1, 1, 0, 1, 0, 0])) (TS.norm nm41c_1) (K41c_1 a35 a71cv1 a73c74 a75c N) m
def l41cb (a35 : Y35) (a71cv1 : Y71cv1) (a73c74 : Y73c74) (a75c : Y75c) (N : Nat) (r1 : List Int × List Tr) : Nat → Int → Ti → Tq → Option Ti
 | 0, _, _, _ => none
 | n + 1, t29_b, o2100_b, o2_bf0 => cond (decide (t29_b < (r1.1.length : Int))) (chk (decide (0 ≤ t29_b ∧ t29_b < (r1.1.length : Int))) ((a35 o2100_b (r1.1.getD t29_b.toNat (0 : Int))).bind fun r2 =>
   cond (!r2) ((a71cv1 (r1.1.getD t29_b.toNat (0 : Int)) o2_bf0 o2100_b).bind fun r3 =>
   cond (r3.1) (chk (small (r3.2.2.length + 1) 8) ((l41cb a35 a71cv1 a73c74 a75c N r1 n (w64 (t29_b + (1 : Int))) (r3.2.2 ++ ([r1.1.getD t29_b.toNat (0 : Int)] : List Int)) r3.2.1)))
   ((l41cb a35 a71cv1 a73c74 a75c N r1 n (w64 (t29_b + (1 : Int))) r3.2.2 r3.2.1)))
   ((l41cb a35 a71cv1 a73c74 a75c N r1 n (w64 (t29_b + (1 : Int))) o2100_b o2_bf0))))
   ((a75c o2100_b).bind fun r4 =>
   some r4)
theorem wl41cb (a35 : Y35) (a71cv1 : Y71cv1) (a73c74 : Y73c74) (a75c : Y75c) (N : Nat) (r1 : List Int × List Tr) (m : Nat) (t29_b : Int) (o2100_b : List Int) (o2_bf0 : List Tr) : R41c_1 a35 a71cv1 a73c74 a75c N (m + 1) (Sl41cb r1 t29_b o2100_b o2_bf0) = cond (decide (t29_b < (r1.1.length : Int))) (chk (decide (0 ≤ t29_b ∧ t29_b < (r1.1.length : Int))) ((a35 o2100_b (r1.1.getD t29_b.toNat (0 : Int))).bind fun r2 =>
   cond (!r2) ((a71cv1 (r1.1.getD t29_b.toNat (0 : Int)) o2_bf0 o2100_b).bind fun r3 =>
   cond (r3.1) (chk (small (r3.2.2.length + 1) 8) ((R41c_1 a35 a71cv1 a73c74 a75c N m (Sl41cb r1 (w64 (t29_b + (1 : Int))) (r3.2.2 ++ ([r1.1.getD t29_b.toNat (0 : Int)] : List Int)) r3.2.1))))
   ((R41c_1 a35 a71cv1 a73c74 a75c N m (Sl41cb r1 (w64 (t29_b + (1 : Int))) r3.2.2 r3.2.1))))
   ((R41c_1 a35 a71cv1 a73c74 a75c N m (Sl41cb r1 (w64 (t29_b + (1 : Int))) o2100_b o2_bf0)))))
   ((a75c o2100_b).bind fun r4 =>
   some r4) := by kernel_rfl
theorem ql41cb (a35 : Y35) (a71cv1 : Y71cv1) (a73c74 : Y73c74) (a75c : Y75c) (N : Nat) (r1 : List Int × List Tr) : ∀ (m : Nat) (t29_b : Int) (o2100_b : List Int) (o2_bf0 : List Tr), R41c_1 a35 a71cv1 a73c74 a75c N m (Sl41cb r1 t29_b o2100_b o2_bf0) = l41cb a35 a71cv1 a73c74 a75c N r1 m t29_b o2100_b o2_bf0
        | 0, _, _, _ => rfl
        | m + 1, t29_b, o2100_b, o2_bf0 => by rw [wl41cb]; simp only [l41cb, ql41cb a35 a71cv1 a73c74 a75c N r1 m]
def l41ca (a35 : Y35) (a71cv1 : Y71cv1) (a73c74 : Y73c74) (a75c : Y75c) (N : Nat) (lx0 : List Tr) (p1 : List Int) : Nat → Int → Ti → Option Ti
 | 0, _, _ => none
 | n + 1, t16_a, o13_a => cond (decide (t16_a < ((List.replicate ((lx0.length : Int).toNat) (0 : Int)).length : Int))) (chk (decide (0 ≤ t16_a ∧ t16_a < (o13_a.length : Int))) ((l41ca a35 a71cv1 a73c74 a75c N lx0 p1 n (w64 (t16_a + (1 : Int))) (o13_a.set t16_a.toNat t16_a))))
   ((a73c74 o13_a lx0).bind fun r1 =>
   (l41cb a35 a71cv1 a73c74 a75c N r1 N (0 : Int) p1 r1.2))
theorem wl41ca (a35 : Y35) (a71cv1 : Y71cv1) (a73c74 : Y73c74) (a75c : Y75c) (N : Nat) (lx0 : List Tr) (p1 : List Int) (m : Nat) (t16_a : Int) (o13_a : List Int) : R41c_0 a35 a71cv1 a73c74 a75c N (m + 1) (Sl41ca lx0 p1 t16_a o13_a) = cond (decide (t16_a < ((List.replicate ((lx0.length : Int).toNat) (0 : Int)).length : Int))) (chk (decide (0 ≤ t16_a ∧ t16_a < (o13_a.length : Int))) ((R41c_0 a35 a71cv1 a73c74 a75c N m (Sl41ca lx0 p1 (w64 (t16_a + (1 : Int))) (o13_a.set t16_a.toNat t16_a)))))
   ((a73c74 o13_a lx0).bind fun r1 =>
   (R41c_1 a35 a71cv1 a73c74 a75c N N (Sl41cb r1 (0 : Int) p1 r1.2))) := by kernel_rfl
theorem ql41ca (a35 : Y35) (a71cv1 : Y71cv1) (a73c74 : Y73c74) (a75c : Y75c) (N : Nat) (lx0 : List Tr) (p1 : List Int) : ∀ (m : Nat) (t16_a : Int) (o13_a : List Int), R41c_0 a35 a71cv1 a73c74 a75c N m (Sl41ca lx0 p1 t16_a o13_a) = l41ca a35 a71cv1 a73c74 a75c N lx0 p1 m t16_a o13_a
        | 0, _, _ => rfl
        | m + 1, t16_a, o13_a => by rw [wl41ca]; simp only [l41ca, ql41cb, ql41ca a35 a71cv1 a73c74 a75c N lx0 p1 m]
def m41c (a35 : Y35) (a71cv1 : Y71cv1) (a73c74 : Y73c74) (a75c : Y75c) (N : Nat) (lx0 : List Tr) (p1 : List Int) : Option Ti :=
   chk (mkOk (lx0.length : Int) (lx0.length : Int) 8) ((l41ca a35 a71cv1 a73c74 a75c N lx0 p1 N (0 : Int) (List.replicate ((lx0.length : Int).toNat) (0 : Int))))
theorem wm41c (a35 : Y35) (a71cv1 : Y71cv1) (a73c74 : Y73c74) (a75c : Y75c) (N : Nat) (lx0 : List Tr) (p1 : List Int) : callF (E41c a35 a71cv1 a73c74 a75c) lv41c N en41c c41c (resOf Tryz.f41) 48 [.dv (.sl (.pair (.int .i64) (.pair (.int .i64) (.unit)))) lx0, .row 9000] [(9000, .row (.int .i64) p1)] dec41c = chk (mkOk (lx0.length : Int) (lx0.length : Int) 8) ((R41c_0 a35 a71cv1 a73c74 a75c N N (Sl41ca lx0 p1 (0 : Int) (List.replicate ((lx0.length : Int).toNat) (0 : Int))))) := by kernel_rfl
theorem k41c (a35 : Y35) (a71cv1 : Y71cv1) (a73c74 : Y73c74) (a75c : Y75c) (N : Nat) (lx0 : List Tr) (p1 : List Int) : callF (E41c a35 a71cv1 a73c74 a75c) lv41c N en41c c41c (resOf Tryz.f41) 48 [.dv (.sl (.pair (.int .i64) (.pair (.int .i64) (.unit)))) lx0, .row 9000] [(9000, .row (.int .i64) p1)] dec41c = m41c a35 a71cv1 a73c74 a75c N lx0 p1 := by rw [wm41c]; simp only [m41c, ql41ca]
theorem ok41c (a35 : Y35) (a71cv1 : Y71cv1) (a73c74 : Y73c74) (a75c : Y75c) (h35 : FnOk Tryz.prog 35 (F35 a35)) (h71cv1 : FnOk Tryz.prog 71 (F71cv1 a71cv1)) (h73c74 : FnOk Tryz.prog 73 (F73c74 a73c74)) (h75c : FnOk Tryz.prog 75 (F75c a75c)) (a : Y41c) (h : ∀ lx0 p1 r, a lx0 p1 = some r → (∃ N, m41c a35 a71cv1 a73c74 a75c N lx0 p1 = some r)) : FnOk Tryz.prog 41 (F41c a) := by
 intro args Of x hx
 simp only [F41c] at hx
 split at hx
 ·rename_i lx0 p1
  obtain ⟨N, hN⟩ := h _ _ _ hx
  refine lifted (L := [(35, F35 a35), (71, F71cv1 a71cv1), (73, F73c74 a73c74), (75, F75c a75c)]) (rc := nrc) (fz := nfz) (fn := Tryz.f41) (by kernel_rfl) (by kernel_rfl) (by kernel_rfl) (by kernel_rfl) rfl ?_ ((k41c a35 a71cv1 a73c74 a75c N _ _).trans hN) ?_
  ·intro p hp; simp only [List.mem_cons, List.not_mem_nil, or_false] at hp; rcases hp with rfl | rfl | rfl | rfl
   ·exact h35
   ·exact h71cv1
   ·exact h73c74
   ·exact h75c
  ·intro l o hd
   simp only [dec41c] at hd
   split at hd
   ·obtain rfl := Option.some.inj hd; exact ⟨rfl, rfl⟩
   ·cases hd
 ·cases hx
def E14 (a33 : Y33) (a35 : Y35) (a36 : Y36) (a39c40 : Y39c40) (a41c : Y41c) : Env := mkE TI TY [(33, F33 a33), (35, F35 a35), (36, F36 a36), (39, F39c40 a39c40), (41, F41c a41c)] nrc nfz
noncomputable def c14 : Code := bodyOf Tryz.f14
def nm14_0 : Norm := ⟨[0, 5, 21, 22, 23], [], [(.slot 6, 1006, .int .i64)], []⟩
def nm14_1 : Norm := ⟨[0, 5, 6, 7, 10, 11, 21, 22, 23, 35, 36, 37], [1006, 1341500], [], []⟩
def lv14 : Nat → Option Norm := norms [(7, nm14_0), (13, nm14_1)]
def en14 : End := ⟨[(60, .sl (.int .i64))], ⟨[60, 61], [], [], []⟩⟩
def dec14 (l : List TV) (o : List (Nat × TO)) : Option (List Int × Int) := match l, o with | [.dv (.sl (.int .i64)) x0, .dv (.int .i64) x1], [] => some (x0, x1) | _, _ => none
def Sl14b (lx0 : List Tr) (r2 : Int) (t23_a : Int) (out6_a : List Int) (r4 : List Int) (fines10_b : Int) (t37_b : Int) : TS := ⟨slots 60 [(0, .dv (.sl (.pair (.int .i64) (.pair (.int .i64) (.unit)))) lx0), (5, .dv (.int .i64) r2), (6, .row 1006), (7, .dv (.int .i64) t23_a), (10, .dv (.int .i64) fines10_b), (11, .row 1341500), (21, .dv (.sl (.pair (.int .i64) (.pair (.int .i64) (.unit)))) lx0), (22, .dv (.int .i64) (lx0.length : Int)), (23, .dv (.int .i64) t23_a), (35, .dv (.sl (.pair (.int .i64) (.pair (.int .i64) (.unit)))) lx0), (36, .dv (.int .i64) (lx0.length : Int)), (37, .dv (.int .i64) t37_b)], [(1006, .row (.int .i64) out6_a), (1341500, .row (.int .i64) r4)]⟩
def Sl14a (lx0 : List Tr) (r2 : Int) (t23_a : Int) (out6_a : List Int) : TS := ⟨slots 60 [(0, .dv (.sl (.pair (.int .i64) (.pair (.int .i64) (.unit)))) lx0), (5, .dv (.int .i64) r2), (6, .row 1006), (21, .dv (.sl (.pair (.int .i64) (.pair (.int .i64) (.unit)))) lx0), (22, .dv (.int .i64) (lx0.length : Int)), (23, .dv (.int .i64) t23_a)], [(1006, .row (.int .i64) out6_a)]⟩
noncomputable def K14_0 (a33 : Y33) (a35 : Y35) (a36 : Y36) (a39c40 : Y39c40) (a41c : Y41c) (N : Nat) : Kont (List Int × Int) := kont (E14 a33 a35 a36 a39c40 a41c) lv14 N c14 [1, 1, 1, 1, 0, 1, 0] (fin TI en14 (resOf Tryz.f14) dec14)
noncomputable def R14_0 (a33 : Y33) (a35 : Y35) (a36 : Y36) (a39c40 : Y39c40) (a41c : Y41c) (N : Nat) (m : Nat) : TS → Option (List Int × Int) := loopK (den (E14 a33 a35 a36 a39c40 a41c) lv14 N (sub c14 [1, 1, 1, 1, 0, 1, 0, 0])) (TS.norm nm14_0) (K14_0 a33 a35 a36 a39c40 a41c N) m
noncomputable def K14_1 (a33 : Y33) (a35 : Y35) (a36 : Y36) (a39c40 : Y39c40) (a41c : Y41c) (N : Nat) (T14_0 : TS → Option (List Int × Int)) : Kont (List Int × Int) := kont (E14 a33 a35 a36 a39c40 a41c) lv14 N (sub c14 [1, 1, 1, 1, 0, 1, 0, 0]) [1, 1, 0, 0, 1, 1, 1, 1, 0, 1, 0] (kloop (TS.norm nm14_0) (K14_0 a33 a35 a36 a39c40 a41c N) T14_0)
noncomputable def R14_1 (a33 : Y33) (a35 : Y35) (a36 : Y36) (a39c40 : Y39c40) (a41c : Y41c) (N : Nat) (T14_0 : TS → Option (List Int × Int)) (m : Nat) : TS → Option (List Int × Int) := loopK (den (E14 a33 a35 a36 a39c40 a41c) lv14 N (sub c14 [1, 1, 1, 1, 0, 1, 0, 0, 1, 1, 0, 0, 1, 1, 1, 1, 0, 1, 0, 0])) (TS.norm nm14_1) (K14_1 a33 a35 a36 a39c40 a41c N T14_0) m
def l14b (a33 : Y33) (a35 : Y35) (a36 : Y36) (a39c40 : Y39c40) (a41c : Y41c) (N : Nat) (lx0 : List Tr) (r2 : Int) (t23_a : Int) (out6_a : List Int) (r4 : List Int) (rec_l14a : Int → Ti → Option (List Int × Int)) : Nat → Int → Int → Option (List Int × Int)
 | 0, _, _ => none
 | n + 1, fines10_b, t37_b => cond (decide (t37_b < (lx0.length : Int))) (chk (decide (0 ≤ t37_b ∧ t37_b < (lx0.length : Int))) ((a35 r4 t37_b).bind fun r5 =>
   cond (!r5) ((l14b a33 a35 a36 a39c40 a41c N lx0 r2 t23_a out6_a r4 rec_l14a n (w64 (fines10_b + (((lx0.getD t37_b.toNat ((0 : Int), ((0 : Int), ()))).2).1))) (w64 (t37_b + (1 : Int)))))
   ((l14b a33 a35 a36 a39c40 a41c N lx0 r2 t23_a out6_a r4 rec_l14a n fines10_b (w64 (t37_b + (1 : Int)))))))
   (cond (decide (fines10_b > r2)) (chk (small (out6_a.length + 1) 8) ((rec_l14a (w64 (t23_a + (1 : Int))) (out6_a ++ ([t23_a] : List Int)))))
   ((rec_l14a (w64 (t23_a + (1 : Int))) out6_a)))
theorem wl14b (a33 : Y33) (a35 : Y35) (a36 : Y36) (a39c40 : Y39c40) (a41c : Y41c) (N : Nat) (lx0 : List Tr) (r2 : Int) (t23_a : Int) (out6_a : List Int) (r4 : List Int) (T14_0 : TS → Option (List Int × Int)) (m : Nat) (fines10_b : Int) (t37_b : Int) : R14_1 a33 a35 a36 a39c40 a41c N T14_0 (m + 1) (Sl14b lx0 r2 t23_a out6_a r4 fines10_b t37_b) = cond (decide (t37_b < (lx0.length : Int))) (chk (decide (0 ≤ t37_b ∧ t37_b < (lx0.length : Int))) ((a35 r4 t37_b).bind fun r5 =>
   cond (!r5) ((R14_1 a33 a35 a36 a39c40 a41c N T14_0 m (Sl14b lx0 r2 t23_a out6_a r4 (w64 (fines10_b + (((lx0.getD t37_b.toNat ((0 : Int), ((0 : Int), ()))).2).1))) (w64 (t37_b + (1 : Int))))))
   ((R14_1 a33 a35 a36 a39c40 a41c N T14_0 m (Sl14b lx0 r2 t23_a out6_a r4 fines10_b (w64 (t37_b + (1 : Int))))))))
   (cond (decide (fines10_b > r2)) (chk (small (out6_a.length + 1) 8) ((T14_0 (Sl14a lx0 r2 (w64 (t23_a + (1 : Int))) (out6_a ++ ([t23_a] : List Int))))))
   ((T14_0 (Sl14a lx0 r2 (w64 (t23_a + (1 : Int))) out6_a)))) := by kernel_rfl
theorem ql14b (a33 : Y33) (a35 : Y35) (a36 : Y36) (a39c40 : Y39c40) (a41c : Y41c) (N : Nat) (lx0 : List Tr) (r2 : Int) (t23_a : Int) (out6_a : List Int) (r4 : List Int) (T14_0 : TS → Option (List Int × Int)) : ∀ (m : Nat) (fines10_b : Int) (t37_b : Int), R14_1 a33 a35 a36 a39c40 a41c N T14_0 m (Sl14b lx0 r2 t23_a out6_a r4 fines10_b t37_b) = l14b a33 a35 a36 a39c40 a41c N lx0 r2 t23_a out6_a r4 (fun y0 y1 => T14_0 (Sl14a lx0 r2 y0 y1)) m fines10_b t37_b
        | 0, _, _ => rfl
        | m + 1, fines10_b, t37_b => by rw [wl14b]; simp only [l14b, ql14b a33 a35 a36 a39c40 a41c N lx0 r2 t23_a out6_a r4 T14_0 m]
def l14a (a33 : Y33) (a35 : Y35) (a36 : Y36) (a39c40 : Y39c40) (a41c : Y41c) (N : Nat) (lx0 : List Tr) (r2 : Int) : Nat → Int → Ti → Option (List Int × Int)
 | 0, _, _ => none
 | n + 1, t23_a, out6_a => cond (decide (t23_a < (lx0.length : Int))) (chk (decide (0 ≤ t23_a ∧ t23_a < (lx0.length : Int))) ((a39c40 lx0 ([lx0.getD t23_a.toNat ((0 : Int), ((0 : Int), ()))] : List Tr)).bind fun r3 =>
   (a41c lx0 ([r3.1] : List Int)).bind fun r4 =>
   (l14b a33 a35 a36 a39c40 a41c N lx0 r2 t23_a out6_a r4 (fun y0 y1 => (l14a a33 a35 a36 a39c40 a41c N lx0 r2 n y0 y1)) N (0 : Int) (0 : Int))))
   (some (out6_a, (0 : Int)))
theorem wl14a (a33 : Y33) (a35 : Y35) (a36 : Y36) (a39c40 : Y39c40) (a41c : Y41c) (N : Nat) (lx0 : List Tr) (r2 : Int) (m : Nat) (t23_a : Int) (out6_a : List Int) : R14_0 a33 a35 a36 a39c40 a41c N (m + 1) (Sl14a lx0 r2 t23_a out6_a) = cond (decide (t23_a < (lx0.length : Int))) (chk (decide (0 ≤ t23_a ∧ t23_a < (lx0.length : Int))) ((a39c40 lx0 ([lx0.getD t23_a.toNat ((0 : Int), ((0 : Int), ()))] : List Tr)).bind fun r3 =>
   (a41c lx0 ([r3.1] : List Int)).bind fun r4 =>
   (R14_1 a33 a35 a36 a39c40 a41c N (R14_0 a33 a35 a36 a39c40 a41c N m) N (Sl14b lx0 r2 t23_a out6_a r4 (0 : Int) (0 : Int)))))
   (some (out6_a, (0 : Int))) := by kernel_rfl
theorem ql14a (a33 : Y33) (a35 : Y35) (a36 : Y36) (a39c40 : Y39c40) (a41c : Y41c) (N : Nat) (lx0 : List Tr) (r2 : Int) : ∀ (m : Nat) (t23_a : Int) (out6_a : List Int), R14_0 a33 a35 a36 a39c40 a41c N m (Sl14a lx0 r2 t23_a out6_a) = l14a a33 a35 a36 a39c40 a41c N lx0 r2 m t23_a out6_a
        | 0, _, _ => rfl
        | m + 1, t23_a, out6_a => by rw [wl14a]; simp only [l14a, ql14b, ql14a a33 a35 a36 a39c40 a41c N lx0 r2 m]
def m14 (a33 : Y33) (a35 : Y35) (a36 : Y36) (a39c40 : Y39c40) (a41c : Y41c) (N : Nat) (lx0 : List Tr) : Option (List Int × Int) :=
   (a33 lx0).bind fun r1 =>
   cond (r1 != (0 : Int)) (some (([] : List Int), r1))
   ((a36 lx0).bind fun r2 =>
   (l14a a33 a35 a36 a39c40 a41c N lx0 r2 N (0 : Int) ([] : List Int)))
theorem wm14 (a33 : Y33) (a35 : Y35) (a36 : Y36) (a39c40 : Y39c40) (a41c : Y41c) (N : Nat) (lx0 : List Tr) : callF (E14 a33 a35 a36 a39c40 a41c) lv14 N en14 c14 (resOf Tryz.f14) 59 [.dv (.sl (.pair (.int .i64) (.pair (.int .i64) (.unit)))) lx0] [] dec14 = (a33 lx0).bind fun r1 =>
   cond (r1 != (0 : Int)) (some (([] : List Int), r1))
   ((a36 lx0).bind fun r2 =>
   (R14_0 a33 a35 a36 a39c40 a41c N N (Sl14a lx0 r2 (0 : Int) ([] : List Int)))) := by kernel_rfl
theorem k14 (a33 : Y33) (a35 : Y35) (a36 : Y36) (a39c40 : Y39c40) (a41c : Y41c) (N : Nat) (lx0 : List Tr) : callF (E14 a33 a35 a36 a39c40 a41c) lv14 N en14 c14 (resOf Tryz.f14) 59 [.dv (.sl (.pair (.int .i64) (.pair (.int .i64) (.unit)))) lx0] [] dec14 = m14 a33 a35 a36 a39c40 a41c N lx0 := by rw [wm14]; simp only [m14, ql14a]
theorem ok14 (a33 : Y33) (a35 : Y35) (a36 : Y36) (a39c40 : Y39c40) (a41c : Y41c) (h33 : FnOk Tryz.prog 33 (F33 a33)) (h35 : FnOk Tryz.prog 35 (F35 a35)) (h36 : FnOk Tryz.prog 36 (F36 a36)) (h39c40 : FnOk Tryz.prog 39 (F39c40 a39c40)) (h41c : FnOk Tryz.prog 41 (F41c a41c)) (a : Y14) (h : ∀ lx0 r, a lx0 = some r → (∃ N, m14 a33 a35 a36 a39c40 a41c N lx0 = some r)) : FnOk Tryz.prog 14 (F14 a) := by
 intro args Of x hx
 simp only [F14] at hx
 split at hx
 ·rename_i lx0
  obtain ⟨N, hN⟩ := h _ _ hx
  refine lifted (L := [(33, F33 a33), (35, F35 a35), (36, F36 a36), (39, F39c40 a39c40), (41, F41c a41c)]) (rc := nrc) (fz := nfz) (fn := Tryz.f14) (by kernel_rfl) (by kernel_rfl) (by kernel_rfl) (by kernel_rfl) rfl ?_ ((k14 a33 a35 a36 a39c40 a41c N _).trans hN) ?_
  ·intro p hp; simp only [List.mem_cons, List.not_mem_nil, or_false] at hp; rcases hp with rfl | rfl | rfl | rfl | rfl
   ·exact h33
   ·exact h35
   ·exact h36
   ·exact h39c40
   ·exact h41c
  ·intro l o hd
   simp only [dec14] at hd
   split at hd
   ·obtain rfl := Option.some.inj hd; exact ⟨rfl, rfl⟩
   ·cases hd
 ·cases hx
def E41cv1 (a35 : Y35) (a71cv1 : Y71cv1) (a73c74 : Y73c74) (a75c : Y75c) : Env := mkE TI TY [(35, F35 a35), (71, F71cv1 a71cv1), (73, F73c74 a73c74), (75, F75c a75c)] nrc nfz
noncomputable def c41cv1 : Code := bodyOf Tryz.f41
def nm41cv1_0 : Norm := ⟨[2, 3, 5, 6, 15, 16], [2, 3, 13], [], []⟩
def nm41cv1_1 : Norm := ⟨[3, 5, 27, 28, 29], [3, 2, 13], [(.fld 3 0, 2100, .int .i64)], []⟩
def lv41cv1 : Nat → Option Norm := norms [(4, nm41cv1_0), (10, nm41cv1_1)]
def en41cv1 : End := ⟨[], ⟨[], [], [(.slot 50, 1500, .int .i64)], []⟩⟩
def dec41cv1 (l : List TV) (o : List (Nat × TO)) : Option Ti := match l, o with | [.row 1500], [(1500, .row (.int .i64) x0)] => some (x0) | _, _ => none
def Sl41cv1b (r1 : List Int × List Tr) (t29_b : Int) (o2100_b : List Int) (o2_bf0 : List Tr) : TS := ⟨slots 50 [(3, .ptr 3 0 [0]), (5, .fn 71 0 2 fun i => ([.ptr 2 0 [0], .ptr 3 0 [0]] : List TV).getD i .any), (27, .row 13), (28, .dv (.int .i64) (r1.1.length : Int)), (29, .dv (.int .i64) t29_b)], [(2100, .row (.int .i64) o2100_b), (3, .rcd [.row 2100]), (2, .rcd [.dv (.sl (.pair (.int .i64) (.pair (.int .i64) (.unit)))) o2_bf0]), (13, .row (.int .i64) r1.1)]⟩
def Sl41cv1a (lx0 : List Tr) (t16_a : Int) (o13_a : List Int) : TS := ⟨slots 50 [(2, .ptr 2 0 [0]), (3, .ptr 3 0 [0]), (5, .fn 71 0 2 fun i => ([.ptr 2 0 [0], .ptr 3 0 [0]] : List TV).getD i .any), (6, .row 13), (15, .dv (.int .i64) ((List.replicate ((lx0.length : Int).toNat) (0 : Int)).length : Int)), (16, .dv (.int .i64) t16_a)], [(2, .rcd [.dv (.sl (.pair (.int .i64) (.pair (.int .i64) (.unit)))) lx0]), (3, .rcd [.nl]), (13, .row (.int .i64) o13_a)]⟩
noncomputable def K41cv1_0 (a35 : Y35) (a71cv1 : Y71cv1) (a73c74 : Y73c74) (a75c : Y75c) (N : Nat) : Kont Ti := kont (E41cv1 a35 a71cv1 a73c74 a75c) lv41cv1 N c41cv1 [1, 1, 1, 0, 1, 0] (fin TI en41cv1 (resOf Tryz.f41) dec41cv1)
noncomputable def R41cv1_0 (a35 : Y35) (a71cv1 : Y71cv1) (a73c74 : Y73c74) (a75c : Y75c) (N : Nat) (m : Nat) : TS → Option Ti := loopK (den (E41cv1 a35 a71cv1 a73c74 a75c) lv41cv1 N (sub c41cv1 [1, 1, 1, 0, 1, 0, 0])) (TS.norm nm41cv1_0) (K41cv1_0 a35 a71cv1 a73c74 a75c N) m
noncomputable def K41cv1_1 (a35 : Y35) (a71cv1 : Y71cv1) (a73c74 : Y73c74) (a75c : Y75c) (N : Nat) : Kont Ti := kont (E41cv1 a35 a71cv1 a73c74 a75c) lv41cv1 N c41cv1 [1, 1, 1, 1, 1, 0, 1, 0] (fin TI en41cv1 (resOf Tryz.f41) dec41cv1)
noncomputable def R41cv1_1 (a35 : Y35) (a71cv1 : Y71cv1) (a73c74 : Y73c74) (a75c : Y75c) (N : Nat) (m : Nat) : TS → Option Ti := loopK (den (E41cv1 a35 a71cv1 a73c74 a75c) lv41cv1 N (sub c41cv1 [1, 1, 1, 1, 1, 0, 1, 0, 0])) (TS.norm nm41cv1_1) (K41cv1_1 a35 a71cv1 a73c74 a75c N) m
def l41cv1b (a35 : Y35) (a71cv1 : Y71cv1) (a73c74 : Y73c74) (a75c : Y75c) (N : Nat) (r1 : List Int × List Tr) : Nat → Int → Ti → Tq → Option Ti
 | 0, _, _, _ => none
 | n + 1, t29_b, o2100_b, o2_bf0 => cond (decide (t29_b < (r1.1.length : Int))) (chk (decide (0 ≤ t29_b ∧ t29_b < (r1.1.length : Int))) ((a35 o2100_b (r1.1.getD t29_b.toNat (0 : Int))).bind fun r2 =>
   cond (!r2) ((a71cv1 (r1.1.getD t29_b.toNat (0 : Int)) o2_bf0 o2100_b).bind fun r3 =>
   cond (r3.1) (chk (small (r3.2.2.length + 1) 8) ((l41cv1b a35 a71cv1 a73c74 a75c N r1 n (w64 (t29_b + (1 : Int))) (r3.2.2 ++ ([r1.1.getD t29_b.toNat (0 : Int)] : List Int)) r3.2.1)))
   ((l41cv1b a35 a71cv1 a73c74 a75c N r1 n (w64 (t29_b + (1 : Int))) r3.2.2 r3.2.1)))
   ((l41cv1b a35 a71cv1 a73c74 a75c N r1 n (w64 (t29_b + (1 : Int))) o2100_b o2_bf0))))
   ((a75c o2100_b).bind fun r4 =>
   some r4)
theorem wl41cv1b (a35 : Y35) (a71cv1 : Y71cv1) (a73c74 : Y73c74) (a75c : Y75c) (N : Nat) (r1 : List Int × List Tr) (m : Nat) (t29_b : Int) (o2100_b : List Int) (o2_bf0 : List Tr) : R41cv1_1 a35 a71cv1 a73c74 a75c N (m + 1) (Sl41cv1b r1 t29_b o2100_b o2_bf0) = cond (decide (t29_b < (r1.1.length : Int))) (chk (decide (0 ≤ t29_b ∧ t29_b < (r1.1.length : Int))) ((a35 o2100_b (r1.1.getD t29_b.toNat (0 : Int))).bind fun r2 =>
   cond (!r2) ((a71cv1 (r1.1.getD t29_b.toNat (0 : Int)) o2_bf0 o2100_b).bind fun r3 =>
   cond (r3.1) (chk (small (r3.2.2.length + 1) 8) ((R41cv1_1 a35 a71cv1 a73c74 a75c N m (Sl41cv1b r1 (w64 (t29_b + (1 : Int))) (r3.2.2 ++ ([r1.1.getD t29_b.toNat (0 : Int)] : List Int)) r3.2.1))))
   ((R41cv1_1 a35 a71cv1 a73c74 a75c N m (Sl41cv1b r1 (w64 (t29_b + (1 : Int))) r3.2.2 r3.2.1))))
   ((R41cv1_1 a35 a71cv1 a73c74 a75c N m (Sl41cv1b r1 (w64 (t29_b + (1 : Int))) o2100_b o2_bf0)))))
   ((a75c o2100_b).bind fun r4 =>
   some r4) := by kernel_rfl
theorem ql41cv1b (a35 : Y35) (a71cv1 : Y71cv1) (a73c74 : Y73c74) (a75c : Y75c) (N : Nat) (r1 : List Int × List Tr) : ∀ (m : Nat) (t29_b : Int) (o2100_b : List Int) (o2_bf0 : List Tr), R41cv1_1 a35 a71cv1 a73c74 a75c N m (Sl41cv1b r1 t29_b o2100_b o2_bf0) = l41cv1b a35 a71cv1 a73c74 a75c N r1 m t29_b o2100_b o2_bf0
        | 0, _, _, _ => rfl
        | m + 1, t29_b, o2100_b, o2_bf0 => by rw [wl41cv1b]; simp only [l41cv1b, ql41cv1b a35 a71cv1 a73c74 a75c N r1 m]
def l41cv1a (a35 : Y35) (a71cv1 : Y71cv1) (a73c74 : Y73c74) (a75c : Y75c) (N : Nat) (lx0 : List Tr) : Nat → Int → Ti → Option Ti
 | 0, _, _ => none
 | n + 1, t16_a, o13_a => cond (decide (t16_a < ((List.replicate ((lx0.length : Int).toNat) (0 : Int)).length : Int))) (chk (decide (0 ≤ t16_a ∧ t16_a < (o13_a.length : Int))) ((l41cv1a a35 a71cv1 a73c74 a75c N lx0 n (w64 (t16_a + (1 : Int))) (o13_a.set t16_a.toNat t16_a))))
   ((a73c74 o13_a lx0).bind fun r1 =>
   (l41cv1b a35 a71cv1 a73c74 a75c N r1 N (0 : Int) ([] : List Int) r1.2))
theorem wl41cv1a (a35 : Y35) (a71cv1 : Y71cv1) (a73c74 : Y73c74) (a75c : Y75c) (N : Nat) (lx0 : List Tr) (m : Nat) (t16_a : Int) (o13_a : List Int) : R41cv1_0 a35 a71cv1 a73c74 a75c N (m + 1) (Sl41cv1a lx0 t16_a o13_a) = cond (decide (t16_a < ((List.replicate ((lx0.length : Int).toNat) (0 : Int)).length : Int))) (chk (decide (0 ≤ t16_a ∧ t16_a < (o13_a.length : Int))) ((R41cv1_0 a35 a71cv1 a73c74 a75c N m (Sl41cv1a lx0 (w64 (t16_a + (1 : Int))) (o13_a.set t16_a.toNat t16_a)))))
   ((a73c74 o13_a lx0).bind fun r1 =>
   (R41cv1_1 a35 a71cv1 a73c74 a75c N N (Sl41cv1b r1 (0 : Int) ([] : List Int) r1.2))) := by kernel_rfl
theorem ql41cv1a (a35 : Y35) (a71cv1 : Y71cv1) (a73c74 : Y73c74) (a75c : Y75c) (N : Nat) (lx0 : List Tr) : ∀ (m : Nat) (t16_a : Int) (o13_a : List Int), R41cv1_0 a35 a71cv1 a73c74 a75c N m (Sl41cv1a lx0 t16_a o13_a) = l41cv1a a35 a71cv1 a73c74 a75c N lx0 m t16_a o13_a
        | 0, _, _ => rfl
        | m + 1, t16_a, o13_a => by rw [wl41cv1a]; simp only [l41cv1a, ql41cv1b, ql41cv1a a35 a71cv1 a73c74 a75c N lx0 m]
def m41cv1 (a35 : Y35) (a71cv1 : Y71cv1) (a73c74 : Y73c74) (a75c : Y75c) (N : Nat) (lx0 : List Tr) : Option Ti :=
   chk (mkOk (lx0.length : Int) (lx0.length : Int) 8) ((l41cv1a a35 a71cv1 a73c74 a75c N lx0 N (0 : Int) (List.replicate ((lx0.length : Int).toNat) (0 : Int))))
theorem wm41cv1 (a35 : Y35) (a71cv1 : Y71cv1) (a73c74 : Y73c74) (a75c : Y75c) (N : Nat) (lx0 : List Tr) : callF (E41cv1 a35 a71cv1 a73c74 a75c) lv41cv1 N en41cv1 c41cv1 (resOf Tryz.f41) 48 [.dv (.sl (.pair (.int .i64) (.pair (.int .i64) (.unit)))) lx0, .nl] [] dec41cv1 = chk (mkOk (lx0.length : Int) (lx0.length : Int) 8) ((R41cv1_0 a35 a71cv1 a73c74 a75c N N (Sl41cv1a lx0 (0 : Int) (List.replicate ((lx0.length : Int).toNat) (0 : Int))))) := by kernel_rfl
theorem k41cv1 (a35 : Y35) (a71cv1 : Y71cv1) (a73c74 : Y73c74) (a75c : Y75c) (N : Nat) (lx0 : List Tr) : callF (E41cv1 a35 a71cv1 a73c74 a75c) lv41cv1 N en41cv1 c41cv1 (resOf Tryz.f41) 48 [.dv (.sl (.pair (.int .i64) (.pair (.int .i64) (.unit)))) lx0, .nl] [] dec41cv1 = m41cv1 a35 a71cv1 a73c74 a75c N lx0 := by rw [wm41cv1]; simp only [m41cv1, ql41cv1a]
theorem ok41cv1 (a35 : Y35) (a71cv1 : Y71cv1) (a73c74 : Y73c74) (a75c : Y75c) (h35 : FnOk Tryz.prog 35 (F35 a35)) (h71cv1 : FnOk Tryz.prog 71 (F71cv1 a71cv1)) (h73c74 : FnOk Tryz.prog 73 (F73c74 a73c74)) (h75c : FnOk Tryz.prog 75 (F75c a75c)) (a : Y41cv1) (h : ∀ lx0 r, a lx0 = some r → (∃ N, m41cv1 a35 a71cv1 a73c74 a75c N lx0 = some r)) : FnOk Tryz.prog 41 (F41cv1 a) := by
 intro args Of x hx
 simp only [F41cv1] at hx
 split at hx
 ·rename_i lx0
  obtain ⟨N, hN⟩ := h _ _ hx
  refine lifted (L := [(35, F35 a35), (71, F71cv1 a71cv1), (73, F73c74 a73c74), (75, F75c a75c)]) (rc := nrc) (fz := nfz) (fn := Tryz.f41) (by kernel_rfl) (by kernel_rfl) (by kernel_rfl) (by kernel_rfl) rfl ?_ ((k41cv1 a35 a71cv1 a73c74 a75c N _).trans hN) ?_
  ·intro p hp; simp only [List.mem_cons, List.not_mem_nil, or_false] at hp; rcases hp with rfl | rfl | rfl | rfl
   ·exact h35
   ·exact h71cv1
   ·exact h73c74
   ·exact h75c
  ·intro l o hd
   simp only [dec41cv1] at hd
   split at hd
   ·obtain rfl := Option.some.inj hd; exact ⟨rfl, rfl⟩
   ·cases hd
 ·cases hx
def E15 (a33 : Y33) (a41cv1 : Y41cv1) : Env := mkE TI TY [(33, F33 a33), (41, F41cv1 a41cv1)] nrc nfz
noncomputable def c15 : Code := bodyOf Tryz.f15
def lv15 : Nat → Option Norm := norms []
def en15 : End := ⟨[], ⟨[13], [], [(.slot 12, 1500, .int .i64)], []⟩⟩
def dec15 (l : List TV) (o : List (Nat × TO)) : Option (List Int × Int) := match l, o with | [.row 1500, .dv (.int .i64) x1], [(1500, .row (.int .i64) x0)] => some (x0, x1) | _, _ => none
def m15 (a33 : Y33) (a41cv1 : Y41cv1) (N : Nat) (lx0 : List Tr) : Option (List Int × Int) :=
   (a33 lx0).bind fun r1 =>
   cond (r1 != (0 : Int)) (some (([] : List Int), r1))
   ((a41cv1 lx0).bind fun r2 =>
   some (r2, (0 : Int)))
theorem k15 (a33 : Y33) (a41cv1 : Y41cv1) (N : Nat) (lx0 : List Tr) : callF (E15 a33 a41cv1) lv15 N en15 c15 (resOf Tryz.f15) 11 [.dv (.sl (.pair (.int .i64) (.pair (.int .i64) (.unit)))) lx0] [] dec15 = m15 a33 a41cv1 N lx0 := by kernel_rfl
theorem ok15 (a33 : Y33) (a41cv1 : Y41cv1) (h33 : FnOk Tryz.prog 33 (F33 a33)) (h41cv1 : FnOk Tryz.prog 41 (F41cv1 a41cv1)) (a : Y15) (h : ∀ lx0 r, a lx0 = some r → (∃ N, m15 a33 a41cv1 N lx0 = some r)) : FnOk Tryz.prog 15 (F15 a) := by
 intro args Of x hx
 simp only [F15] at hx
 split at hx
 ·rename_i lx0
  obtain ⟨N, hN⟩ := h _ _ hx
  refine lifted (L := [(33, F33 a33), (41, F41cv1 a41cv1)]) (rc := nrc) (fz := nfz) (fn := Tryz.f15) (by kernel_rfl) (by kernel_rfl) (by kernel_rfl) (by kernel_rfl) rfl ?_ ((k15 a33 a41cv1 N _).trans hN) ?_
  ·intro p hp; simp only [List.mem_cons, List.not_mem_nil, or_false] at hp; rcases hp with rfl | rfl
   ·exact h33
   ·exact h41cv1
  ·intro l o hd
   simp only [dec15] at hd
   split at hd
   ·obtain rfl := Option.some.inj hd; exact ⟨rfl, rfl⟩
   ·cases hd
 ·cases hx
def E47 : Env := mkE TI TY [] nrc nfz
noncomputable def c47 : Code := bodyOf Tryz.f47
def lv47 : Nat → Option Norm := norms []
def en47 : End := ⟨[], ⟨[15], [], [], []⟩⟩
def dec47 (l : List TV) (o : List (Nat × TO)) : Option (Bool) := match l, o with | [.dv (.bool) x0], [] => some (x0) | _, _ => none
def m47 (N : Nat) (lo0 : Int) (n1 : Int) (hi2 : Int) : Option (Bool) :=
   cond (decide (lo0 ≤ n1)) (some (decide (n1 ≤ hi2)))
   (some false)
theorem k47 (N : Nat) (lo0 : Int) (n1 : Int) (hi2 : Int) : callF (E47) lv47 N en47 c47 (resOf Tryz.f47) 12 [.dv (.int .i64) lo0, .dv (.int .i64) n1, .dv (.int .i64) hi2] [] dec47 = m47 N lo0 n1 hi2 := by kernel_rfl
theorem ok47 (a : Y47) (h : ∀ lo0 n1 hi2 r, a lo0 n1 hi2 = some r → (∃ N, m47 N lo0 n1 hi2 = some r)) : FnOk Tryz.prog 47 (F47 a) := by
 intro args Of x hx
 simp only [F47] at hx
 split at hx
 ·rename_i lo0 n1 hi2
  obtain ⟨N, hN⟩ := h _ _ _ _ hx
  refine lifted (L := []) (rc := nrc) (fz := nfz) (fn := Tryz.f47) (by kernel_rfl) (by kernel_rfl) (by kernel_rfl) (by kernel_rfl) rfl ?_ ((k47 N _ _ _).trans hN) ?_
  ·intro p hp; cases hp
  ·intro l o hd
   simp only [dec47] at hd
   split at hd
   ·obtain rfl := Option.some.inj hd; exact ⟨rfl, rfl⟩
   ·cases hd
 ·cases hx
def E42 (a47 : Y47) : Env := mkE TI TY [(47, F47 a47)] nrc nfz
noncomputable def c42 : Code := bodyOf Tryz.f42
def nm42_0 : Norm := ⟨[3, 14, 15, 16], [], [], []⟩
def lv42 : Nat → Option Norm := norms [(7, nm42_0)]
def en42 : End := ⟨[], ⟨[30], [], [], []⟩⟩
def dec42 (l : List TV) (o : List (Nat × TO)) : Option (Int) := match l, o with | [.dv (.int .i64) x0], [] => some (x0) | _, _ => none
def Sl42a (weights0 : List Int) (last3_a : Int) (t16_a : Int) : TS := ⟨slots 30 [(3, .dv (.int .i64) last3_a), (14, .dv (.sl (.int .i64)) weights0), (15, .dv (.int .i64) (weights0.length : Int)), (16, .dv (.int .i64) t16_a)], []⟩
noncomputable def K42_0 (a47 : Y47) (N : Nat) : Kont (Int) := kont (E42 a47) lv42 N c42 [1, 1, 1, 0, 1, 0] (fin TI en42 (resOf Tryz.f42) dec42)
noncomputable def R42_0 (a47 : Y47) (N : Nat) (m : Nat) : TS → Option (Int) := loopK (den (E42 a47) lv42 N (sub c42 [1, 1, 1, 0, 1, 0, 0])) (TS.norm nm42_0) (K42_0 a47 N) m
def l42a (a47 : Y47) (N : Nat) (weights0 : List Int) : Nat → Int → Int → Option (Int)
 | 0, _, _ => none
 | n + 1, last3_a, t16_a => cond (decide (t16_a < (weights0.length : Int))) (chk (decide (0 ≤ t16_a ∧ t16_a < (weights0.length : Int))) ((a47 (1 : Int) (weights0.getD t16_a.toNat (0 : Int)) (2000 : Int)).bind fun r1 =>
   cond (!r1) (some (3 : Int))
   (cond (decide ((weights0.getD t16_a.toNat (0 : Int)) < last3_a)) (some (7 : Int))
   ((l42a a47 N weights0 n (weights0.getD t16_a.toNat (0 : Int)) (w64 (t16_a + (1 : Int))))))))
   (some (0 : Int))
theorem wl42a (a47 : Y47) (N : Nat) (weights0 : List Int) (m : Nat) (last3_a : Int) (t16_a : Int) : R42_0 a47 N (m + 1) (Sl42a weights0 last3_a t16_a) = cond (decide (t16_a < (weights0.length : Int))) (chk (decide (0 ≤ t16_a ∧ t16_a < (weights0.length : Int))) ((a47 (1 : Int) (weights0.getD t16_a.toNat (0 : Int)) (2000 : Int)).bind fun r1 =>
   cond (!r1) (some (3 : Int))
   (cond (decide ((weights0.getD t16_a.toNat (0 : Int)) < last3_a)) (some (7 : Int))
   ((R42_0 a47 N m (Sl42a weights0 (weights0.getD t16_a.toNat (0 : Int)) (w64 (t16_a + (1 : Int)))))))))
   (some (0 : Int)) := by kernel_rfl
theorem ql42a (a47 : Y47) (N : Nat) (weights0 : List Int) : ∀ (m : Nat) (last3_a : Int) (t16_a : Int), R42_0 a47 N m (Sl42a weights0 last3_a t16_a) = l42a a47 N weights0 m last3_a t16_a
        | 0, _, _ => rfl
        | m + 1, last3_a, t16_a => by rw [wl42a]; simp only [l42a, ql42a a47 N weights0 m]
def m42 (a47 : Y47) (N : Nat) (weights0 : List Int) : Option (Int) :=
   cond ((weights0.length : Int) == (0 : Int)) (some (1 : Int))
   (cond (decide ((weights0.length : Int) > (7 : Int))) (some (2 : Int))
   ((l42a a47 N weights0 N (0 : Int) (0 : Int))))
theorem wm42 (a47 : Y47) (N : Nat) (weights0 : List Int) : callF (E42 a47) lv42 N en42 c42 (resOf Tryz.f42) 29 [.dv (.sl (.int .i64)) weights0] [] dec42 = cond ((weights0.length : Int) == (0 : Int)) (some (1 : Int))
   (cond (decide ((weights0.length : Int) > (7 : Int))) (some (2 : Int))
   ((R42_0 a47 N N (Sl42a weights0 (0 : Int) (0 : Int))))) := by kernel_rfl
theorem k42 (a47 : Y47) (N : Nat) (weights0 : List Int) : callF (E42 a47) lv42 N en42 c42 (resOf Tryz.f42) 29 [.dv (.sl (.int .i64)) weights0] [] dec42 = m42 a47 N weights0 := by rw [wm42]; simp only [m42, ql42a]
theorem ok42 (a47 : Y47) (h47 : FnOk Tryz.prog 47 (F47 a47)) (a : Y42) (h : ∀ weights0 r, a weights0 = some r → (∃ N, m42 a47 N weights0 = some r)) : FnOk Tryz.prog 42 (F42 a) := by
 intro args Of x hx
 simp only [F42] at hx
 split at hx
 ·rename_i weights0
  obtain ⟨N, hN⟩ := h _ _ hx
  refine lifted (L := [(47, F47 a47)]) (rc := nrc) (fz := nfz) (fn := Tryz.f42) (by kernel_rfl) (by kernel_rfl) (by kernel_rfl) (by kernel_rfl) rfl ?_ ((k42 a47 N _).trans hN) ?_
  ·intro p hp; simp only [List.mem_cons, List.not_mem_nil, or_false] at hp; rcases hp with rfl; exact h47
  ·intro l o hd
   simp only [dec42] at hd
   split at hd
   ·obtain rfl := Option.some.inj hd; exact ⟨rfl, rfl⟩
   ·cases hd
 ·cases hx
def E24 : Env := mkE TI TY [] nrc nfz
noncomputable def c24 : Code := bodyOf Tryz.f24
def lv24 : Nat → Option Norm := norms []
def en24 : End := ⟨[(8, .nsl (.int .i64))], ⟨[8], [], [], []⟩⟩
def dec24 (l : List TV) (o : List (Nat × TO)) : Option (Option Ti) := match l, o with | [.dv (.nsl (.int .i64)) x0], [] => some (x0) | _, _ => none
def m24 (N : Nat) (s0 : Option Ti) : Option (Option Ti) :=
   cond (s0.isNone) (some (none : Option Ti))
   (chk (small (0 + (s0.getD []).length) 8) (chk ((decide (0 < (([] : List Int) ++ (s0.getD [])).length)) && (true)) (some (some (([] : List Int) ++ (s0.getD []))))))
theorem k24 (N : Nat) (s0 : Option Ti) : callF (E24) lv24 N en24 c24 (resOf Tryz.f24) 7 [.dv (.nsl (.int .i64)) s0] [] dec24 = m24 N s0 := by kernel_rfl
theorem ok24 (a : Y24) (h : ∀ s0 r, a s0 = some r → (∃ N, m24 N s0 = some r)) : FnOk Tryz.prog 24 (F24 a) := by
 intro args Of x hx
 simp only [F24] at hx
 split at hx
 ·rename_i s0
  obtain ⟨N, hN⟩ := h _ _ hx
  refine lifted (L := []) (rc := nrc) (fz := nfz) (fn := Tryz.f24) (by kernel_rfl) (by kernel_rfl) (by kernel_rfl) (by kernel_rfl) rfl ?_ ((k24 N _).trans hN) ?_
  ·intro p hp; cases hp
  ·intro l o hd
   simp only [dec24] at hd
   split at hd
   ·obtain rfl := Option.some.inj hd; exact ⟨rfl, rfl⟩
   ·cases hd
 ·cases hx
def E43c (a24 : Y24) (a43c : Y43c) (a44 : Y44) : Env := mkE TI TY [(24, F24 a24), (43, F43c a43c), (44, F44 a44)] nrc nfz
noncomputable def c43c : Code := bodyOf Tryz.f43
def nm43c_0 : Norm := ⟨[0, 1, 2, 3, 5, 11, 42, 43], [9001, 9000], [], []⟩
def lv43c : Nat → Option Norm := norms [(7, nm43c_0)]
def en43c : End := ⟨[(70, .nsl (.int .i64))], ⟨[70], [9000, 9001], [], []⟩⟩
def dec43c (l : List TV) (o : List (Nat × TO)) : Option (Option Ti × List Int) := match l, o, capsOf l o with | [.dv (.nsl (.int .i64)) x0], [(9000, .rcd [.dv (.sl (.int .i64)) x1]), (9001, .rcd [.fn 43 0 2 _])], [[.ptr 9000 0 [0], .ptr 9001 0 [0]]] => some (x0, x1) | _, _, _ => none
def Sl43ca (laying0 : List Int) (left1 : Int) (rest2 : Int) (use3 : Int) (p4 : List Int) (t43_a : Int) (o9000_af0 : List Int) : TS := ⟨slots 70 [(0, .dv (.sl (.int .i64)) laying0), (1, .dv (.int .i64) left1), (2, .dv (.int .i64) rest2), (3, .dv (.int .i64) use3), (5, .ptr 9001 0 [0]), (11, .dv (.int .i64) (p4.getD ((laying0.length : Int).toNat) (0 : Int))), (42, .dv (.arr 3 (.int .i64)) ([(1 : Int), (0 : Int), (-1 : Int)] : List Int)), (43, .dv (.int .i64) t43_a)], [(9001, .rcd [.fn 43 0 2 fun i => ([.ptr 9000 0 [0], .ptr 9001 0 [0]] : List TV).getD i .any]), (9000, .rcd [.dv (.sl (.int .i64)) o9000_af0])]⟩
noncomputable def K43c_0 (a24 : Y24) (a43c : Y43c) (a44 : Y44) (N : Nat) : Kont (Option Ti × List Int) := kont (E43c a24 a43c a44) lv43c N c43c [1, 1, 1, 0, 1, 0] (fin TI en43c (resOf Tryz.f43) dec43c)
noncomputable def R43c_0 (a24 : Y24) (a43c : Y43c) (a44 : Y44) (N : Nat) (m : Nat) : TS → Option (Option Ti × List Int) := loopK (den (E43c a24 a43c a44) lv43c N (sub c43c [1, 1, 1, 0, 1, 0, 0])) (TS.norm nm43c_0) (K43c_0 a24 a43c a44 N) m
def l43ca (a24 : Y24) (a43c : Y43c) (a44 : Y44) (N : Nat) (laying0 : List Int) (left1 : Int) (rest2 : Int) (use3 : Int) (p4 : List Int) : Nat → Int → Ti → Option (Option Ti × List Int)
 | 0, _, _ => none
 | n + 1, t43_a, o9000_af0 => cond (decide (t43_a < (3 : Int))) (chk (decide (0 ≤ t43_a ∧ t43_a < (3 : Int))) ((a44 laying0).bind fun r2 =>
   chk (small (r2.length + 1) 8) ((a43c (r2 ++ ([([(1 : Int), (0 : Int), (-1 : Int)] : List Int).getD t43_a.toNat (0 : Int)] : List Int)) (w64 (left1 - (w64 ((([(1 : Int), (0 : Int), (-1 : Int)] : List Int).getD t43_a.toNat (0 : Int)) * (p4.getD ((laying0.length : Int).toNat) (0 : Int)))))) (w64 (rest2 - (p4.getD ((laying0.length : Int).toNat) (0 : Int)))) (w64 (use3 - (w64 ((([(1 : Int), (0 : Int), (-1 : Int)] : List Int).getD t43_a.toNat (0 : Int)) * (([(1 : Int), (0 : Int), (-1 : Int)] : List Int).getD t43_a.toNat (0 : Int)))))) o9000_af0).bind fun r3 =>
   cond (!r3.1.isNone) (some (r3.1, r3.2))
   ((l43ca a24 a43c a44 N laying0 left1 rest2 use3 p4 n (w64 (t43_a + (1 : Int))) r3.2)))))
   (some ((none : Option Ti), o9000_af0))
theorem wl43ca (a24 : Y24) (a43c : Y43c) (a44 : Y44) (N : Nat) (laying0 : List Int) (left1 : Int) (rest2 : Int) (use3 : Int) (p4 : List Int) (m : Nat) (t43_a : Int) (o9000_af0 : List Int) : R43c_0 a24 a43c a44 N (m + 1) (Sl43ca laying0 left1 rest2 use3 p4 t43_a o9000_af0) = cond (decide (t43_a < (3 : Int))) (chk (decide (0 ≤ t43_a ∧ t43_a < (3 : Int))) ((a44 laying0).bind fun r2 =>
   chk (small (r2.length + 1) 8) ((a43c (r2 ++ ([([(1 : Int), (0 : Int), (-1 : Int)] : List Int).getD t43_a.toNat (0 : Int)] : List Int)) (w64 (left1 - (w64 ((([(1 : Int), (0 : Int), (-1 : Int)] : List Int).getD t43_a.toNat (0 : Int)) * (p4.getD ((laying0.length : Int).toNat) (0 : Int)))))) (w64 (rest2 - (p4.getD ((laying0.length : Int).toNat) (0 : Int)))) (w64 (use3 - (w64 ((([(1 : Int), (0 : Int), (-1 : Int)] : List Int).getD t43_a.toNat (0 : Int)) * (([(1 : Int), (0 : Int), (-1 : Int)] : List Int).getD t43_a.toNat (0 : Int)))))) o9000_af0).bind fun r3 =>
   cond (!r3.1.isNone) (some (r3.1, r3.2))
   ((R43c_0 a24 a43c a44 N m (Sl43ca laying0 left1 rest2 use3 p4 (w64 (t43_a + (1 : Int))) r3.2))))))
   (some ((none : Option Ti), o9000_af0)) := by kernel_rfl
theorem ql43ca (a24 : Y24) (a43c : Y43c) (a44 : Y44) (N : Nat) (laying0 : List Int) (left1 : Int) (rest2 : Int) (use3 : Int) (p4 : List Int) : ∀ (m : Nat) (t43_a : Int) (o9000_af0 : List Int), R43c_0 a24 a43c a44 N m (Sl43ca laying0 left1 rest2 use3 p4 t43_a o9000_af0) = l43ca a24 a43c a44 N laying0 left1 rest2 use3 p4 m t43_a o9000_af0
        | 0, _, _ => rfl
        | m + 1, t43_a, o9000_af0 => by rw [wl43ca]; simp only [l43ca, ql43ca a24 a43c a44 N laying0 left1 rest2 use3 p4 m]
def m43c (a24 : Y24) (a43c : Y43c) (a44 : Y44) (N : Nat) (laying0 : List Int) (left1 : Int) (rest2 : Int) (use3 : Int) (p4 : List Int) : Option (Option Ti × List Int) :=
   cond (decide (use3 < (0 : Int))) (some ((none : Option Ti), p4))
   (cond (decide (left1 > rest2)) (some ((none : Option Ti), p4))
   (cond (decide (left1 < (w64 (0 - rest2)))) (some ((none : Option Ti), p4))
   (cond ((laying0.length : Int) == (p4.length : Int)) (chk ((decide (0 < laying0.length)) && (true)) ((a24 (some laying0)).bind fun r1 =>
   some (r1, p4)))
   (chk (decide (0 ≤ (laying0.length : Int) ∧ (laying0.length : Int) < (p4.length : Int))) ((l43ca a24 a43c a44 N laying0 left1 rest2 use3 p4 N (0 : Int) p4))))))
theorem wm43c (a24 : Y24) (a43c : Y43c) (a44 : Y44) (N : Nat) (laying0 : List Int) (left1 : Int) (rest2 : Int) (use3 : Int) (p4 : List Int) : callF (E43c a24 a43c a44) lv43c N en43c c43c (resOf Tryz.f43) 64 [.dv (.sl (.int .i64)) laying0, .dv (.int .i64) left1, .dv (.int .i64) rest2, .dv (.int .i64) use3, .ptr 9000 0 [0], .ptr 9001 0 [0]] [(9000, .rcd [.dv (.sl (.int .i64)) p4]), (9001, .rcd [.fn 43 0 2 fun i => ([.ptr 9000 0 [0], .ptr 9001 0 [0]] : List TV).getD i .any])] dec43c = cond (decide (use3 < (0 : Int))) (some ((none : Option Ti), p4))
   (cond (decide (left1 > rest2)) (some ((none : Option Ti), p4))
   (cond (decide (left1 < (w64 (0 - rest2)))) (some ((none : Option Ti), p4))
   (cond ((laying0.length : Int) == (p4.length : Int)) (chk ((decide (0 < laying0.length)) && (true)) ((a24 (some laying0)).bind fun r1 =>
   some (r1, p4)))
   (chk (decide (0 ≤ (laying0.length : Int) ∧ (laying0.length : Int) < (p4.length : Int))) ((R43c_0 a24 a43c a44 N N (Sl43ca laying0 left1 rest2 use3 p4 (0 : Int) p4))))))) := by kernel_rfl
theorem k43c (a24 : Y24) (a43c : Y43c) (a44 : Y44) (N : Nat) (laying0 : List Int) (left1 : Int) (rest2 : Int) (use3 : Int) (p4 : List Int) : callF (E43c a24 a43c a44) lv43c N en43c c43c (resOf Tryz.f43) 64 [.dv (.sl (.int .i64)) laying0, .dv (.int .i64) left1, .dv (.int .i64) rest2, .dv (.int .i64) use3, .ptr 9000 0 [0], .ptr 9001 0 [0]] [(9000, .rcd [.dv (.sl (.int .i64)) p4]), (9001, .rcd [.fn 43 0 2 fun i => ([.ptr 9000 0 [0], .ptr 9001 0 [0]] : List TV).getD i .any])] dec43c = m43c a24 a43c a44 N laying0 left1 rest2 use3 p4 := by rw [wm43c]; simp only [m43c, ql43ca]
theorem ok43c (a24 : Y24) (a43c : Y43c) (a44 : Y44) (h24 : FnOk Tryz.prog 24 (F24 a24)) (h43c : FnOk Tryz.prog 43 (F43c a43c)) (h44 : FnOk Tryz.prog 44 (F44 a44)) (a : Y43c) (h : ∀ laying0 left1 rest2 use3 p4 r, a laying0 left1 rest2 use3 p4 = some r → (∃ N, m43c a24 a43c a44 N laying0 left1 rest2 use3 p4 = some r)) : FnOk Tryz.prog 43 (F43c a) := by
 intro args Of x hx
 simp only [F43c] at hx
 split at hx
 ·rename_i laying0 left1 rest2 use3 p4 f_0 heqc
  have hc0 := congrArg (fun c : List (List TV) => c.getD 0 []) heqc
  obtain ⟨N, hN⟩ := h _ _ _ _ _ _ hx
  refine HSpec.etaL (args := [.dv (.sl (.int .i64)) laying0, .dv (.int .i64) left1, .dv (.int .i64) rest2, .dv (.int .i64) use3, .ptr 9000 0 [0], .ptr 9001 0 [0]]) (O := [(9000, .rcd [.dv (.sl (.int .i64)) p4]), (9001, .rcd [.fn 43 0 2 fun i => ([.ptr 9000 0 [0], .ptr 9001 0 [0]] : List TV).getD i .any])]) ⟨TV.sim_refl _, TV.sim_refl _, TV.sim_refl _, TV.sim_refl _, TV.sim_refl _, TV.sim_refl _, trivial⟩ ⟨rfl, TO.sim_refl _, rfl, TO.sim_rcd ⟨TV.sim_fn hc0, trivial⟩, trivial⟩ (liftedS (L := [(24, F24 a24), (43, F43c a43c), (44, F44 a44)]) (rc := nrc) (fz := nfz) (fn := Tryz.f43) (by kernel_rfl) (by kernel_rfl) (by kernel_rfl) (by kernel_rfl) rfl ?_ ((k43c a24 a43c a44 N _ _ _ _ _).trans hN) ?_)
  ·intro p hp; simp only [List.mem_cons, List.not_mem_nil, or_false] at hp; rcases hp with rfl | rfl | rfl
   ·exact h24
   ·exact h43c
   ·exact h44
  ·intro l o hd
   simp only [dec43c] at hd
   split at hd
   ·rename_i heqd
    have hd0 := congrArg (fun c : List (List TV) => c.getD 0 []) heqd
    obtain rfl := Option.some.inj hd; exact ⟨TV.sim_refl _, ⟨rfl, TO.sim_refl _, rfl, TO.sim_rcd ⟨TV.sim_symm (TV.sim_fn hd0), trivial⟩, trivial⟩⟩
   ·cases hd
 ·cases hx
def E16 (a42 : Y42) (a43c : Y43c) : Env := mkE TI TY [(42, F42 a42), (43, F43c a43c)] nrc nfz
noncomputable def c16 : Code := bodyOf Tryz.f16
def nm16_0 : Norm := ⟨[1, 2, 7, 18, 19, 20], [2], [], []⟩
def nm16_1 : Norm := ⟨[1, 7, 10, 31, 32], [10, 2], [], []⟩
def lv16 : Nat → Option Norm := norms [(6, nm16_0), (13, nm16_1)]
def en16 : End := ⟨[(45, .sl (.int .i64))], ⟨[45, 46], [], [], []⟩⟩
def dec16 (l : List TV) (o : List (Nat × TO)) : Option (List Int × Int) := match l, o with | [.dv (.sl (.int .i64)) x0, .dv (.int .i64) x1], [] => some (x0, x1) | _, _ => none
def Sl16b (weights0 : List Int) (load1 : Int) (all7_a : Int) (t32_b : Int) (o2_bf0 : List Int) : TS := ⟨slots 45 [(1, .dv (.int .i64) load1), (7, .dv (.int .i64) all7_a), (10, .ptr 10 0 [0]), (31, .dv (.int .i64) (w64 ((weights0.length : Int) + (1 : Int)))), (32, .dv (.int .i64) t32_b)], [(10, .rcd [.fn 43 0 2 fun i => ([.ptr 2 0 [0], .ptr 10 0 [0]] : List TV).getD i .any]), (2, .rcd [.dv (.sl (.int .i64)) o2_bf0])]⟩
def Sl16a (weights0 : List Int) (load1 : Int) (all7_a : Int) (t20_a : Int) : TS := ⟨slots 45 [(1, .dv (.int .i64) load1), (2, .ptr 2 0 [0]), (7, .dv (.int .i64) all7_a), (18, .dv (.sl (.int .i64)) weights0), (19, .dv (.int .i64) (weights0.length : Int)), (20, .dv (.int .i64) t20_a)], [(2, .rcd [.dv (.sl (.int .i64)) weights0])]⟩
noncomputable def K16_0 (a42 : Y42) (a43c : Y43c) (N : Nat) : Kont (List Int × Int) := kont (E16 a42 a43c) lv16 N c16 [1, 1, 1, 0, 1, 0] (fin TI en16 (resOf Tryz.f16) dec16)
noncomputable def R16_0 (a42 : Y42) (a43c : Y43c) (N : Nat) (m : Nat) : TS → Option (List Int × Int) := loopK (den (E16 a42 a43c) lv16 N (sub c16 [1, 1, 1, 0, 1, 0, 0])) (TS.norm nm16_0) (K16_0 a42 a43c N) m
noncomputable def K16_1 (a42 : Y42) (a43c : Y43c) (N : Nat) : Kont (List Int × Int) := kont (E16 a42 a43c) lv16 N c16 [1, 1, 1, 1, 1, 1, 0, 1, 0] (fin TI en16 (resOf Tryz.f16) dec16)
noncomputable def R16_1 (a42 : Y42) (a43c : Y43c) (N : Nat) (m : Nat) : TS → Option (List Int × Int) := loopK (den (E16 a42 a43c) lv16 N (sub c16 [1, 1, 1, 1, 1, 1, 0, 1, 0, 0])) (TS.norm nm16_1) (K16_1 a42 a43c N) m
def l16b (a42 : Y42) (a43c : Y43c) (N : Nat) (weights0 : List Int) (load1 : Int) (all7_a : Int) : Nat → Int → Ti → Option (List Int × Int)
 | 0, _, _ => none
 | n + 1, t32_b, o2_bf0 => cond (decide (t32_b < (w64 ((weights0.length : Int) + (1 : Int))))) ((a43c ([] : List Int) load1 all7_a t32_b o2_bf0).bind fun r2 =>
   cond (!r2.1.isNone) (some (r2.1.getD [], (0 : Int)))
   ((l16b a42 a43c N weights0 load1 all7_a n (w64 (t32_b + (1 : Int))) r2.2)))
   (some (([] : List Int), (14 : Int)))
theorem wl16b (a42 : Y42) (a43c : Y43c) (N : Nat) (weights0 : List Int) (load1 : Int) (all7_a : Int) (m : Nat) (t32_b : Int) (o2_bf0 : List Int) : R16_1 a42 a43c N (m + 1) (Sl16b weights0 load1 all7_a t32_b o2_bf0) = cond (decide (t32_b < (w64 ((weights0.length : Int) + (1 : Int))))) ((a43c ([] : List Int) load1 all7_a t32_b o2_bf0).bind fun r2 =>
   cond (!r2.1.isNone) (some (r2.1.getD [], (0 : Int)))
   ((R16_1 a42 a43c N m (Sl16b weights0 load1 all7_a (w64 (t32_b + (1 : Int))) r2.2))))
   (some (([] : List Int), (14 : Int))) := by kernel_rfl
theorem ql16b (a42 : Y42) (a43c : Y43c) (N : Nat) (weights0 : List Int) (load1 : Int) (all7_a : Int) : ∀ (m : Nat) (t32_b : Int) (o2_bf0 : List Int), R16_1 a42 a43c N m (Sl16b weights0 load1 all7_a t32_b o2_bf0) = l16b a42 a43c N weights0 load1 all7_a m t32_b o2_bf0
        | 0, _, _ => rfl
        | m + 1, t32_b, o2_bf0 => by rw [wl16b]; simp only [l16b, ql16b a42 a43c N weights0 load1 all7_a m]
def l16a (a42 : Y42) (a43c : Y43c) (N : Nat) (weights0 : List Int) (load1 : Int) : Nat → Int → Int → Option (List Int × Int)
 | 0, _, _ => none
 | n + 1, all7_a, t20_a => cond (decide (t20_a < (weights0.length : Int))) (chk (decide (0 ≤ t20_a ∧ t20_a < (weights0.length : Int))) ((l16a a42 a43c N weights0 load1 n (w64 (all7_a + (weights0.getD t20_a.toNat (0 : Int)))) (w64 (t20_a + (1 : Int))))))
   ((l16b a42 a43c N weights0 load1 all7_a N (0 : Int) weights0))
theorem wl16a (a42 : Y42) (a43c : Y43c) (N : Nat) (weights0 : List Int) (load1 : Int) (m : Nat) (all7_a : Int) (t20_a : Int) : R16_0 a42 a43c N (m + 1) (Sl16a weights0 load1 all7_a t20_a) = cond (decide (t20_a < (weights0.length : Int))) (chk (decide (0 ≤ t20_a ∧ t20_a < (weights0.length : Int))) ((R16_0 a42 a43c N m (Sl16a weights0 load1 (w64 (all7_a + (weights0.getD t20_a.toNat (0 : Int)))) (w64 (t20_a + (1 : Int)))))))
   ((R16_1 a42 a43c N N (Sl16b weights0 load1 all7_a (0 : Int) weights0))) := by kernel_rfl
theorem ql16a (a42 : Y42) (a43c : Y43c) (N : Nat) (weights0 : List Int) (load1 : Int) : ∀ (m : Nat) (all7_a : Int) (t20_a : Int), R16_0 a42 a43c N m (Sl16a weights0 load1 all7_a t20_a) = l16a a42 a43c N weights0 load1 m all7_a t20_a
        | 0, _, _ => rfl
        | m + 1, all7_a, t20_a => by rw [wl16a]; simp only [l16a, ql16b, ql16a a42 a43c N weights0 load1 m]
def m16 (a42 : Y42) (a43c : Y43c) (N : Nat) (weights0 : List Int) (load1 : Int) : Option (List Int × Int) :=
   (a42 weights0).bind fun r1 =>
   cond (r1 != (0 : Int)) (some (([] : List Int), r1))
   ((l16a a42 a43c N weights0 load1 N (0 : Int) (0 : Int)))
theorem wm16 (a42 : Y42) (a43c : Y43c) (N : Nat) (weights0 : List Int) (load1 : Int) : callF (E16 a42 a43c) lv16 N en16 c16 (resOf Tryz.f16) 43 [.dv (.sl (.int .i64)) weights0, .dv (.int .i64) load1] [] dec16 = (a42 weights0).bind fun r1 =>
   cond (r1 != (0 : Int)) (some (([] : List Int), r1))
   ((R16_0 a42 a43c N N (Sl16a weights0 load1 (0 : Int) (0 : Int)))) := by kernel_rfl
theorem k16 (a42 : Y42) (a43c : Y43c) (N : Nat) (weights0 : List Int) (load1 : Int) : callF (E16 a42 a43c) lv16 N en16 c16 (resOf Tryz.f16) 43 [.dv (.sl (.int .i64)) weights0, .dv (.int .i64) load1] [] dec16 = m16 a42 a43c N weights0 load1 := by rw [wm16]; simp only [m16, ql16a]
theorem ok16 (a42 : Y42) (a43c : Y43c) (h42 : FnOk Tryz.prog 42 (F42 a42)) (h43c : FnOk Tryz.prog 43 (F43c a43c)) (a : Y16) (h : ∀ weights0 load1 r, a weights0 load1 = some r → (∃ N, m16 a42 a43c N weights0 load1 = some r)) : FnOk Tryz.prog 16 (F16 a) := by
 intro args Of x hx
 simp only [F16] at hx
 split at hx
 ·rename_i weights0 load1
  obtain ⟨N, hN⟩ := h _ _ _ hx
  refine lifted (L := [(42, F42 a42), (43, F43c a43c)]) (rc := nrc) (fz := nfz) (fn := Tryz.f16) (by kernel_rfl) (by kernel_rfl) (by kernel_rfl) (by kernel_rfl) rfl ?_ ((k16 a42 a43c N _ _).trans hN) ?_
  ·intro p hp; simp only [List.mem_cons, List.not_mem_nil, or_false] at hp; rcases hp with rfl | rfl
   ·exact h42
   ·exact h43c
  ·intro l o hd
   simp only [dec16] at hd
   split at hd
   ·obtain rfl := Option.some.inj hd; exact ⟨rfl, rfl⟩
   ·cases hd
 ·cases hx
def E76 (a75c : Y75c) (a96c : Y96c) : Env := mkE TI TY [(75, F75c a75c), (96, F96c a96c)] nrc nfz
noncomputable def c76 : Code := bodyOf Tryz.f76
def nm76_0 : Norm := ⟨[3, 10, 11, 12], [], [], [(3, .sl (.int .i64))]⟩
def nm76_1 : Norm := ⟨[5, 10, 11, 12, 16, 17, 18], [], [(.slot 6, 1006, .int .i64)], []⟩
def lv76 : Nat → Option Norm := norms [(3, nm76_0), (7, nm76_1)]
def en76 : End := ⟨[(39, .sl (.int .i64))], ⟨[39], [], [], []⟩⟩
def dec76 (l : List TV) (o : List (Nat × TO)) : Option Ti := match l, o with | [.dv (.sl (.int .i64)) x0], [] => some (x0) | _, _ => none
def Sl76b (weights0 : List Int) (out3_a : List Int) (t12_a : Int) (t18_b : Int) (next6_b : List Int) : TS := ⟨slots 39 [(5, .dv (.int .i64) (weights0.getD t12_a.toNat (0 : Int))), (6, .row 1006), (10, .dv (.sl (.int .i64)) weights0), (11, .dv (.int .i64) (weights0.length : Int)), (12, .dv (.int .i64) t12_a), (16, .dv (.sl (.int .i64)) out3_a), (17, .dv (.int .i64) (out3_a.length : Int)), (18, .dv (.int .i64) t18_b)], [(1006, .row (.int .i64) next6_b)]⟩
def Sl76a (weights0 : List Int) (out3_a : List Int) (t12_a : Int) : TS := ⟨slots 39 [(3, .dv (.sl (.int .i64)) out3_a), (10, .dv (.sl (.int .i64)) weights0), (11, .dv (.int .i64) (weights0.length : Int)), (12, .dv (.int .i64) t12_a)], []⟩
noncomputable def K76_0 (a75c : Y75c) (a96c : Y96c) (N : Nat) : Kont Ti := kont (E76 a75c a96c) lv76 N c76 [1, 1, 0, 1, 0] (fin TI en76 (resOf Tryz.f76) dec76)
noncomputable def R76_0 (a75c : Y75c) (a96c : Y96c) (N : Nat) (m : Nat) : TS → Option Ti := loopK (den (E76 a75c a96c) lv76 N (sub c76 [1, 1, 0, 1, 0, 0])) (TS.norm nm76_0) (K76_0 a75c a96c N) m
noncomputable def K76_1 (a75c : Y75c) (a96c : Y96c) (N : Nat) (T76_0 : TS → Option Ti) : Kont Ti := kont (E76 a75c a96c) lv76 N (sub c76 [1, 1, 0, 1, 0, 0]) [1, 1, 0, 0, 1, 1, 0, 1, 0] (kloop (TS.norm nm76_0) (K76_0 a75c a96c N) T76_0)
noncomputable def R76_1 (a75c : Y75c) (a96c : Y96c) (N : Nat) (T76_0 : TS → Option Ti) (m : Nat) : TS → Option Ti := loopK (den (E76 a75c a96c) lv76 N (sub c76 [1, 1, 0, 1, 0, 0, 1, 1, 0, 0, 1, 1, 0, 1, 0, 0])) (TS.norm nm76_1) (K76_1 a75c a96c N T76_0) m
def l76b (a75c : Y75c) (a96c : Y96c) (N : Nat) (weights0 : List Int) (out3_a : List Int) (t12_a : Int) (rec_l76a : Ti → Int → Option Ti) : Nat → Int → Ti → Option Ti
 | 0, _, _ => none
 | n + 1, t18_b, next6_b => cond (decide (t18_b < (out3_a.length : Int))) (chk (decide (0 ≤ t18_b ∧ t18_b < (out3_a.length : Int))) (chk (small (next6_b.length + 3) 8) ((l76b a75c a96c N weights0 out3_a t12_a rec_l76a n (w64 (t18_b + (1 : Int))) (next6_b ++ ([w64 ((out3_a.getD t18_b.toNat (0 : Int)) - (weights0.getD t12_a.toNat (0 : Int))), out3_a.getD t18_b.toNat (0 : Int), w64 ((out3_a.getD t18_b.toNat (0 : Int)) + (weights0.getD t12_a.toNat (0 : Int)))] : List Int))))))
   ((a75c next6_b).bind fun r1 =>
   (a96c r1).bind fun r2 =>
   (rec_l76a r2 (w64 (t12_a + (1 : Int)))))
theorem wl76b (a75c : Y75c) (a96c : Y96c) (N : Nat) (weights0 : List Int) (out3_a : List Int) (t12_a : Int) (T76_0 : TS → Option Ti) (m : Nat) (t18_b : Int) (next6_b : List Int) : R76_1 a75c a96c N T76_0 (m + 1) (Sl76b weights0 out3_a t12_a t18_b next6_b) = cond (decide (t18_b < (out3_a.length : Int))) (chk (decide (0 ≤ t18_b ∧ t18_b < (out3_a.length : Int))) (chk (small (next6_b.length + 3) 8) ((R76_1 a75c a96c N T76_0 m (Sl76b weights0 out3_a t12_a (w64 (t18_b + (1 : Int))) (next6_b ++ ([w64 ((out3_a.getD t18_b.toNat (0 : Int)) - (weights0.getD t12_a.toNat (0 : Int))), out3_a.getD t18_b.toNat (0 : Int), w64 ((out3_a.getD t18_b.toNat (0 : Int)) + (weights0.getD t12_a.toNat (0 : Int)))] : List Int)))))))
   ((a75c next6_b).bind fun r1 =>
   (a96c r1).bind fun r2 =>
   (T76_0 (Sl76a weights0 r2 (w64 (t12_a + (1 : Int)))))) := by kernel_rfl
theorem ql76b (a75c : Y75c) (a96c : Y96c) (N : Nat) (weights0 : List Int) (out3_a : List Int) (t12_a : Int) (T76_0 : TS → Option Ti) : ∀ (m : Nat) (t18_b : Int) (next6_b : List Int), R76_1 a75c a96c N T76_0 m (Sl76b weights0 out3_a t12_a t18_b next6_b) = l76b a75c a96c N weights0 out3_a t12_a (fun y0 y1 => T76_0 (Sl76a weights0 y0 y1)) m t18_b next6_b
        | 0, _, _ => rfl
        | m + 1, t18_b, next6_b => by rw [wl76b]; simp only [l76b, ql76b a75c a96c N weights0 out3_a t12_a T76_0 m]
def l76a (a75c : Y75c) (a96c : Y96c) (N : Nat) (weights0 : List Int) : Nat → Ti → Int → Option Ti
 | 0, _, _ => none
 | n + 1, out3_a, t12_a => cond (decide (t12_a < (weights0.length : Int))) (chk (decide (0 ≤ t12_a ∧ t12_a < (weights0.length : Int))) ((l76b a75c a96c N weights0 out3_a t12_a (fun y0 y1 => (l76a a75c a96c N weights0 n y0 y1)) N (0 : Int) ([] : List Int))))
   (some out3_a)
theorem wl76a (a75c : Y75c) (a96c : Y96c) (N : Nat) (weights0 : List Int) (m : Nat) (out3_a : List Int) (t12_a : Int) : R76_0 a75c a96c N (m + 1) (Sl76a weights0 out3_a t12_a) = cond (decide (t12_a < (weights0.length : Int))) (chk (decide (0 ≤ t12_a ∧ t12_a < (weights0.length : Int))) ((R76_1 a75c a96c N (R76_0 a75c a96c N m) N (Sl76b weights0 out3_a t12_a (0 : Int) ([] : List Int)))))
   (some out3_a) := by kernel_rfl
theorem ql76a (a75c : Y75c) (a96c : Y96c) (N : Nat) (weights0 : List Int) : ∀ (m : Nat) (out3_a : List Int) (t12_a : Int), R76_0 a75c a96c N m (Sl76a weights0 out3_a t12_a) = l76a a75c a96c N weights0 m out3_a t12_a
        | 0, _, _ => rfl
        | m + 1, out3_a, t12_a => by rw [wl76a]; simp only [l76a, ql76b, ql76a a75c a96c N weights0 m]
def m76 (a75c : Y75c) (a96c : Y96c) (N : Nat) (weights0 : List Int) : Option Ti :=
   (l76a a75c a96c N weights0 N ([(0 : Int)] : List Int) (0 : Int))
theorem wm76 (a75c : Y75c) (a96c : Y96c) (N : Nat) (weights0 : List Int) : callF (E76 a75c a96c) lv76 N en76 c76 (resOf Tryz.f76) 38 [.dv (.sl (.int .i64)) weights0] [] dec76 = (R76_0 a75c a96c N N (Sl76a weights0 ([(0 : Int)] : List Int) (0 : Int))) := by kernel_rfl
theorem k76 (a75c : Y75c) (a96c : Y96c) (N : Nat) (weights0 : List Int) : callF (E76 a75c a96c) lv76 N en76 c76 (resOf Tryz.f76) 38 [.dv (.sl (.int .i64)) weights0] [] dec76 = m76 a75c a96c N weights0 := by rw [wm76]; simp only [m76, ql76a]
theorem ok76 (a75c : Y75c) (a96c : Y96c) (h75c : FnOk Tryz.prog 75 (F75c a75c)) (h96c : FnOk Tryz.prog 96 (F96c a96c)) (a : Y76) (h : ∀ weights0 r, a weights0 = some r → (∃ N, m76 a75c a96c N weights0 = some r)) : FnOk Tryz.prog 76 (F76 a) := by
 intro args Of x hx
 simp only [F76] at hx
 split at hx
 ·rename_i weights0
  obtain ⟨N, hN⟩ := h _ _ hx
  refine lifted (L := [(75, F75c a75c), (96, F96c a96c)]) (rc := nrc) (fz := nfz) (fn := Tryz.f76) (by kernel_rfl) (by kernel_rfl) (by kernel_rfl) (by kernel_rfl) rfl ?_ ((k76 a75c a96c N _).trans hN) ?_
  ·intro p hp; simp only [List.mem_cons, List.not_mem_nil, or_false] at hp; rcases hp with rfl | rfl
   ·exact h75c
   ·exact h96c
  ·intro l o hd
   simp only [dec76] at hd
   split at hd
   ·obtain rfl := Option.some.inj hd; exact ⟨rfl, rfl⟩
   ·cases hd
 ·cases hx
def E45 (a42 : Y42) (a76 : Y76) : Env := mkE TI TY [(42, F42 a42), (76, F76 a76)] nrc nfz
noncomputable def c45 : Code := bodyOf Tryz.f45
def lv45 : Nat → Option Norm := norms []
def en45 : End := ⟨[(19, .sl (.int .i64))], ⟨[19, 20], [], [], []⟩⟩
def dec45 (l : List TV) (o : List (Nat × TO)) : Option (List Int × Int) := match l, o with | [.dv (.sl (.int .i64)) x0, .dv (.int .i64) x1], [] => some (x0, x1) | _, _ => none
def m45 (a42 : Y42) (a76 : Y76) (N : Nat) (weights0 : List Int) : Option (List Int × Int) :=
   (a42 weights0).bind fun r1 =>
   cond (r1 != (0 : Int)) (some (([] : List Int), r1))
   ((a76 weights0).bind fun r2 =>
   chk (decide (0 ≤ w64 ((w64 (Int.tdiv (r2.length : Int) (2 : Int))) + (1 : Int)) ∧ w64 ((w64 (Int.tdiv (r2.length : Int) (2 : Int))) + (1 : Int)) ≤ (r2.length : Int))) (some (r2.drop ((w64 ((w64 (Int.tdiv (r2.length : Int) (2 : Int))) + (1 : Int))).toNat), (0 : Int))))
theorem k45 (a42 : Y42) (a76 : Y76) (N : Nat) (weights0 : List Int) : callF (E45 a42 a76) lv45 N en45 c45 (resOf Tryz.f45) 18 [.dv (.sl (.int .i64)) weights0] [] dec45 = m45 a42 a76 N weights0 := by kernel_rfl
theorem ok45 (a42 : Y42) (a76 : Y76) (h42 : FnOk Tryz.prog 42 (F42 a42)) (h76 : FnOk Tryz.prog 76 (F76 a76)) (a : Y45) (h : ∀ weights0 r, a weights0 = some r → (∃ N, m45 a42 a76 N weights0 = some r)) : FnOk Tryz.prog 45 (F45 a) := by
 intro args Of x hx
 simp only [F45] at hx
 split at hx
 ·rename_i weights0
  obtain ⟨N, hN⟩ := h _ _ hx
  refine lifted (L := [(42, F42 a42), (76, F76 a76)]) (rc := nrc) (fz := nfz) (fn := Tryz.f45) (by kernel_rfl) (by kernel_rfl) (by kernel_rfl) (by kernel_rfl) rfl ?_ ((k45 a42 a76 N _).trans hN) ?_
  ·intro p hp; simp only [List.mem_cons, List.not_mem_nil, or_false] at hp; rcases hp with rfl | rfl
   ·exact h42
   ·exact h76
  ·intro l o hd
   simp only [dec45] at hd
   split at hd
   ·obtain rfl := Option.some.inj hd; exact ⟨rfl, rfl⟩
   ·cases hd
 ·cases hx
def E17 (a45 : Y45) : Env := mkE TI TY [(45, F45 a45)] nrc nfz
noncomputable def c17 : Code := bodyOf Tryz.f17
def nm17_0 : Norm := ⟨[4, 6], [], [], []⟩
def lv17 : Nat → Option Norm := norms [(5, nm17_0)]
def en17 : End := ⟨[], ⟨[31, 32], [], [], []⟩⟩
def dec17 (l : List TV) (o : List (Nat × TO)) : Option (Int × Int) := match l, o with | [.dv (.int .i64) x0, .dv (.int .i64) x1], [] => some (x0, x1) | _, _ => none
def Sl17a (r1 : List Int × Int) (n6_a : Int) : TS := ⟨slots 31 [(4, .dv (.sl (.int .i64)) r1.1), (6, .dv (.int .i64) n6_a)], []⟩
noncomputable def K17_0 (a45 : Y45) (N : Nat) : Kont (Int × Int) := kont (E17 a45) lv17 N c17 [1, 1, 1, 1, 0, 0] (fin TI en17 (resOf Tryz.f17) dec17)
noncomputable def R17_0 (a45 : Y45) (N : Nat) (m : Nat) : TS → Option (Int × Int) := loopK (den (E17 a45) lv17 N (sub c17 [1, 1, 1, 1, 0, 0, 0])) (TS.norm nm17_0) (K17_0 a45 N) m
def l17a (a45 : Y45) (N : Nat) (r1 : List Int × Int) : Nat → Int → Option (Int × Int)
 | 0, _ => none
 | n + 1, n6_a => cond (decide (n6_a < (r1.1.length : Int))) (chk (decide (0 ≤ n6_a ∧ n6_a < (r1.1.length : Int))) (cond ((r1.1.getD n6_a.toNat (0 : Int)) == (w64 (n6_a + (1 : Int)))) ((l17a a45 N r1 n (w64 (n6_a + (1 : Int)))))
   (some (n6_a, (0 : Int)))))
   (some (n6_a, (0 : Int)))
theorem wl17a (a45 : Y45) (N : Nat) (r1 : List Int × Int) (m : Nat) (n6_a : Int) : R17_0 a45 N (m + 1) (Sl17a r1 n6_a) = cond (decide (n6_a < (r1.1.length : Int))) (chk (decide (0 ≤ n6_a ∧ n6_a < (r1.1.length : Int))) (cond ((r1.1.getD n6_a.toNat (0 : Int)) == (w64 (n6_a + (1 : Int)))) ((R17_0 a45 N m (Sl17a r1 (w64 (n6_a + (1 : Int))))))
   (some (n6_a, (0 : Int)))))
   (some (n6_a, (0 : Int))) := by kernel_rfl
theorem ql17a (a45 : Y45) (N : Nat) (r1 : List Int × Int) : ∀ (m : Nat) (n6_a : Int), R17_0 a45 N m (Sl17a r1 n6_a) = l17a a45 N r1 m n6_a
        | 0, _ => rfl
        | m + 1, n6_a => by rw [wl17a]; simp only [l17a, ql17a a45 N r1 m]
def m17 (a45 : Y45) (N : Nat) (weights0 : List Int) : Option (Int × Int) :=
   (a45 weights0).bind fun r1 =>
   cond (r1.2 != (0 : Int)) (some ((0 : Int), r1.2))
   ((l17a a45 N r1 N (0 : Int)))
theorem wm17 (a45 : Y45) (N : Nat) (weights0 : List Int) : callF (E17 a45) lv17 N en17 c17 (resOf Tryz.f17) 30 [.dv (.sl (.int .i64)) weights0] [] dec17 = (a45 weights0).bind fun r1 =>
   cond (r1.2 != (0 : Int)) (some ((0 : Int), r1.2))
   ((R17_0 a45 N N (Sl17a r1 (0 : Int)))) := by kernel_rfl
theorem k17 (a45 : Y45) (N : Nat) (weights0 : List Int) : callF (E17 a45) lv17 N en17 c17 (resOf Tryz.f17) 30 [.dv (.sl (.int .i64)) weights0] [] dec17 = m17 a45 N weights0 := by rw [wm17]; simp only [m17, ql17a]
theorem ok17 (a45 : Y45) (h45 : FnOk Tryz.prog 45 (F45 a45)) (a : Y17) (h : ∀ weights0 r, a weights0 = some r → (∃ N, m17 a45 N weights0 = some r)) : FnOk Tryz.prog 17 (F17 a) := by
 intro args Of x hx
 simp only [F17] at hx
 split at hx
 ·rename_i weights0
  obtain ⟨N, hN⟩ := h _ _ hx
  refine lifted (L := [(45, F45 a45)]) (rc := nrc) (fz := nfz) (fn := Tryz.f17) (by kernel_rfl) (by kernel_rfl) (by kernel_rfl) (by kernel_rfl) rfl ?_ ((k17 a45 N _).trans hN) ?_
  ·intro p hp; simp only [List.mem_cons, List.not_mem_nil, or_false] at hp; rcases hp with rfl; exact h45
  ·intro l o hd
   simp only [dec17] at hd
   split at hd
   ·obtain rfl := Option.some.inj hd; exact ⟨rfl, rfl⟩
   ·cases hd
 ·cases hx
def E18 (a33 : Y33) (a34 : Y34) (a36 : Y36) (a38 : Y38) : Env := mkE TI TY [(33, F33 a33), (34, F34 a34), (36, F36 a36), (38, F38 a38)] nrc nfz
noncomputable def c18 : Code := bodyOf Tryz.f18
def lv18 : Nat → Option Norm := norms []
def en18 : End := ⟨[], ⟨[27, 28], [], [], []⟩⟩
def dec18 (l : List TV) (o : List (Nat × TO)) : Option (Int × Int) := match l, o with | [.dv (.int .i64) x0, .dv (.int .i64) x1], [] => some (x0, x1) | _, _ => none
def m18 (a33 : Y33) (a34 : Y34) (a36 : Y36) (a38 : Y38) (N : Nat) (lx0 : List Tr) (order1 : Int) : Option (Int × Int) :=
   (a33 lx0).bind fun r1 =>
   cond (r1 != (0 : Int)) (some ((0 : Int), r1))
   ((a34 (0 : Int) order1 (w64 ((lx0.length : Int) - (1 : Int)))).bind fun r2 =>
   cond (!r2) (some ((0 : Int), (5 : Int)))
   ((a36 lx0).bind fun r3 =>
   (a38 lx0 order1).bind fun r4 =>
   (a36 r4).bind fun r5 =>
   some (w64 (r3 - r5), (0 : Int))))
theorem k18 (a33 : Y33) (a34 : Y34) (a36 : Y36) (a38 : Y38) (N : Nat) (lx0 : List Tr) (order1 : Int) : callF (E18 a33 a34 a36 a38) lv18 N en18 c18 (resOf Tryz.f18) 25 [.dv (.sl (.pair (.int .i64) (.pair (.int .i64) (.unit)))) lx0, .dv (.int .i64) order1] [] dec18 = m18 a33 a34 a36 a38 N lx0 order1 := by kernel_rfl
theorem ok18 (a33 : Y33) (a34 : Y34) (a36 : Y36) (a38 : Y38) (h33 : FnOk Tryz.prog 33 (F33 a33)) (h34 : FnOk Tryz.prog 34 (F34 a34)) (h36 : FnOk Tryz.prog 36 (F36 a36)) (h38 : FnOk Tryz.prog 38 (F38 a38)) (a : Y18) (h : ∀ lx0 order1 r, a lx0 order1 = some r → (∃ N, m18 a33 a34 a36 a38 N lx0 order1 = some r)) : FnOk Tryz.prog 18 (F18 a) := by
 intro args Of x hx
 simp only [F18] at hx
 split at hx
 ·rename_i lx0 order1
  obtain ⟨N, hN⟩ := h _ _ _ hx
  refine lifted (L := [(33, F33 a33), (34, F34 a34), (36, F36 a36), (38, F38 a38)]) (rc := nrc) (fz := nfz) (fn := Tryz.f18) (by kernel_rfl) (by kernel_rfl) (by kernel_rfl) (by kernel_rfl) rfl ?_ ((k18 a33 a34 a36 a38 N _ _).trans hN) ?_
  ·intro p hp; simp only [List.mem_cons, List.not_mem_nil, or_false] at hp; rcases hp with rfl | rfl | rfl | rfl
   ·exact h33
   ·exact h34
   ·exact h36
   ·exact h38
  ·intro l o hd
   simp only [dec18] at hd
   split at hd
   ·obtain rfl := Option.some.inj hd; exact ⟨rfl, rfl⟩
   ·cases hd
 ·cases hx
def E46 (a47 : Y47) : Env := mkE TI TY [(47, F47 a47)] nrc nfz
noncomputable def c46 : Code := bodyOf Tryz.f46
def lv46 : Nat → Option Norm := norms []
def en46 : End := ⟨[], ⟨[6], [], [], []⟩⟩
def dec46 (l : List TV) (o : List (Nat × TO)) : Option (Bool) := match l, o with | [.dv (.bool) x0], [] => some (x0) | _, _ => none
def m46 (a47 : Y47) (N : Nat) (n0 : Int) : Option (Bool) :=
   (a47 (-1 : Int) n0 (1 : Int)).bind fun r1 =>
   some (!r1)
theorem k46 (a47 : Y47) (N : Nat) (n0 : Int) : callF (E46 a47) lv46 N en46 c46 (resOf Tryz.f46) 5 [.dv (.int .i64) n0] [] dec46 = m46 a47 N n0 := by kernel_rfl
theorem ok46 (a47 : Y47) (h47 : FnOk Tryz.prog 47 (F47 a47)) (a : Y46) (h : ∀ n0 r, a n0 = some r → (∃ N, m46 a47 N n0 = some r)) : FnOk Tryz.prog 46 (F46 a) := by
 intro args Of x hx
 simp only [F46] at hx
 split at hx
 ·rename_i n0
  obtain ⟨N, hN⟩ := h _ _ hx
  refine lifted (L := [(47, F47 a47)]) (rc := nrc) (fz := nfz) (fn := Tryz.f46) (by kernel_rfl) (by kernel_rfl) (by kernel_rfl) (by kernel_rfl) rfl ?_ ((k46 a47 N _).trans hN) ?_
  ·intro p hp; simp only [List.mem_cons, List.not_mem_nil, or_false] at hp; rcases hp with rfl; exact h47
  ·intro l o hd
   simp only [dec46] at hd
   split at hd
   ·obtain rfl := Option.some.inj hd; exact ⟨rfl, rfl⟩
   ·cases hd
 ·cases hx
def E57c46 (a46 : Y46) : Env := mkE TI TY [(46, F46 a46)] nrc nfz
noncomputable def c57c46 : Code := bodyOf Tryz.f57
def nm57c46_0 : Norm := ⟨[0, 1, 7, 8], [], [], []⟩
def lv57c46 : Nat → Option Norm := norms [(2, nm57c46_0)]
def en57c46 : End := ⟨[], ⟨[19], [], [], []⟩⟩
def dec57c46 (l : List TV) (o : List (Nat × TO)) : Option (Int) := match l, o with | [.dv (.int .i64) x0], [] => some (x0) | _, _ => none
def Sl57c46a (s0 : List Int) (t8_a : Int) : TS := ⟨slots 19 [(0, .dv (.sl (.int .i64)) s0), (1, .fn 46 0 0 fun i => ([] : List TV).getD i .any), (7, .dv (.int .i64) (s0.length : Int)), (8, .dv (.int .i64) t8_a)], []⟩
noncomputable def K57c46_0 (a46 : Y46) (N : Nat) : Kont (Int) := kont (E57c46 a46) lv57c46 N c57c46 [1, 0, 1, 0] (fin TI en57c46 (resOf Tryz.f57) dec57c46)
noncomputable def R57c46_0 (a46 : Y46) (N : Nat) (m : Nat) : TS → Option (Int) := loopK (den (E57c46 a46) lv57c46 N (sub c57c46 [1, 0, 1, 0, 0])) (TS.norm nm57c46_0) (K57c46_0 a46 N) m
def l57c46a (a46 : Y46) (N : Nat) (s0 : List Int) : Nat → Int → Option (Int)
 | 0, _ => none
 | n + 1, t8_a => cond (decide (t8_a < (s0.length : Int))) (chk (decide (0 ≤ t8_a ∧ t8_a < (s0.length : Int))) ((a46 (s0.getD t8_a.toNat (0 : Int))).bind fun r1 =>
   cond (r1) (some t8_a)
   ((l57c46a a46 N s0 n (w64 (t8_a + (1 : Int)))))))
   (some (-1 : Int))
theorem wl57c46a (a46 : Y46) (N : Nat) (s0 : List Int) (m : Nat) (t8_a : Int) : R57c46_0 a46 N (m + 1) (Sl57c46a s0 t8_a) = cond (decide (t8_a < (s0.length : Int))) (chk (decide (0 ≤ t8_a ∧ t8_a < (s0.length : Int))) ((a46 (s0.getD t8_a.toNat (0 : Int))).bind fun r1 =>
   cond (r1) (some t8_a)
   ((R57c46_0 a46 N m (Sl57c46a s0 (w64 (t8_a + (1 : Int))))))))
   (some (-1 : Int)) := by kernel_rfl
theorem ql57c46a (a46 : Y46) (N : Nat) (s0 : List Int) : ∀ (m : Nat) (t8_a : Int), R57c46_0 a46 N m (Sl57c46a s0 t8_a) = l57c46a a46 N s0 m t8_a
        | 0, _ => rfl
        | m + 1, t8_a => by rw [wl57c46a]; simp only [l57c46a, ql57c46a a46 N s0 m]
def m57c46 (a46 : Y46) (N : Nat) (s0 : List Int) : Option (Int) :=
   (l57c46a a46 N s0 N (0 : Int))
theorem wm57c46 (a46 : Y46) (N : Nat) (s0 : List Int) : callF (E57c46 a46) lv57c46 N en57c46 c57c46 (resOf Tryz.f57) 17 [.dv (.sl (.int .i64)) s0, .fn 46 0 0 fun i => ([] : List TV).getD i .any] [] dec57c46 = (R57c46_0 a46 N N (Sl57c46a s0 (0 : Int))) := by kernel_rfl
theorem k57c46 (a46 : Y46) (N : Nat) (s0 : List Int) : callF (E57c46 a46) lv57c46 N en57c46 c57c46 (resOf Tryz.f57) 17 [.dv (.sl (.int .i64)) s0, .fn 46 0 0 fun i => ([] : List TV).getD i .any] [] dec57c46 = m57c46 a46 N s0 := by rw [wm57c46]; simp only [m57c46, ql57c46a]
theorem ok57c46 (a46 : Y46) (h46 : FnOk Tryz.prog 46 (F46 a46)) (a : Y57c46) (h : ∀ s0 r, a s0 = some r → (∃ N, m57c46 a46 N s0 = some r)) : FnOk Tryz.prog 57 (F57c46 a) := by
 intro args Of x hx
 simp only [F57c46] at hx
 split at hx
 ·rename_i s0 f_0 heqc
  have hc0 := congrArg (fun c : List (List TV) => c.getD 0 []) heqc
  obtain ⟨N, hN⟩ := h _ _ hx
  refine HSpec.etaL (args := [.dv (.sl (.int .i64)) s0, .fn 46 0 0 fun i => ([] : List TV).getD i .any]) (O := []) ⟨TV.sim_refl _, TV.sim_fn hc0, trivial⟩ trivial (lifted (L := [(46, F46 a46)]) (rc := nrc) (fz := nfz) (fn := Tryz.f57) (by kernel_rfl) (by kernel_rfl) (by kernel_rfl) (by kernel_rfl) rfl ?_ ((k57c46 a46 N _).trans hN) ?_)
  ·intro p hp; simp only [List.mem_cons, List.not_mem_nil, or_false] at hp; rcases hp with rfl; exact h46
  ·intro l o hd
   simp only [dec57c46] at hd
   split at hd
   ·obtain rfl := Option.some.inj hd; exact ⟨rfl, rfl⟩
   ·cases hd
 ·cases hx
def E26c46 (a57c46 : Y57c46) : Env := mkE TI TY [(57, F57c46 a57c46)] nrc nfz
noncomputable def c26c46 : Code := bodyOf Tryz.f26
def lv26c46 : Nat → Option Norm := norms []
def en26c46 : End := ⟨[], ⟨[9], [], [], []⟩⟩
def dec26c46 (l : List TV) (o : List (Nat × TO)) : Option (Bool) := match l, o with | [.dv (.bool) x0], [] => some (x0) | _, _ => none
def m26c46 (a57c46 : Y57c46) (N : Nat) (s0 : List Int) : Option (Bool) :=
   (a57c46 s0).bind fun r1 =>
   some (decide (r1 ≥ (0 : Int)))
theorem k26c46 (a57c46 : Y57c46) (N : Nat) (s0 : List Int) : callF (E26c46 a57c46) lv26c46 N en26c46 c26c46 (resOf Tryz.f26) 7 [.dv (.sl (.int .i64)) s0, .fn 46 0 0 fun i => ([] : List TV).getD i .any] [] dec26c46 = m26c46 a57c46 N s0 := by kernel_rfl
theorem ok26c46 (a57c46 : Y57c46) (h57c46 : FnOk Tryz.prog 57 (F57c46 a57c46)) (a : Y26c46) (h : ∀ s0 r, a s0 = some r → (∃ N, m26c46 a57c46 N s0 = some r)) : FnOk Tryz.prog 26 (F26c46 a) := by
 intro args Of x hx
 simp only [F26c46] at hx
 split at hx
 ·rename_i s0 f_0 heqc
  have hc0 := congrArg (fun c : List (List TV) => c.getD 0 []) heqc
  obtain ⟨N, hN⟩ := h _ _ hx
  refine HSpec.etaL (args := [.dv (.sl (.int .i64)) s0, .fn 46 0 0 fun i => ([] : List TV).getD i .any]) (O := []) ⟨TV.sim_refl _, TV.sim_fn hc0, trivial⟩ trivial (lifted (L := [(57, F57c46 a57c46)]) (rc := nrc) (fz := nfz) (fn := Tryz.f26) (by kernel_rfl) (by kernel_rfl) (by kernel_rfl) (by kernel_rfl) rfl ?_ ((k26c46 a57c46 N _).trans hN) ?_)
  ·intro p hp; simp only [List.mem_cons, List.not_mem_nil, or_false] at hp; rcases hp with rfl; exact h57c46
  ·intro l o hd
   simp only [dec26c46] at hd
   split at hd
   ·obtain rfl := Option.some.inj hd; exact ⟨rfl, rfl⟩
   ·cases hd
 ·cases hx
def E19 (a26c46 : Y26c46) (a42 : Y42) : Env := mkE TI TY [(26, F26c46 a26c46), (42, F42 a42)] nrc nfz
noncomputable def c19 : Code := bodyOf Tryz.f19
def nm19_0 : Norm := ⟨[0, 2, 26, 27, 28], [], [], []⟩
def lv19 : Nat → Option Norm := norms [(7, nm19_0)]
def en19 : End := ⟨[], ⟨[44], [], [], []⟩⟩
def dec19 (l : List TV) (o : List (Nat × TO)) : Option (Int) := match l, o with | [.dv (.int .i64) x0], [] => some (x0) | _, _ => none
def Sl19a (weights0 : List Int) (laying1 : List Int) (load2_a : Int) (t28_a : Int) : TS := ⟨slots 44 [(0, .dv (.sl (.int .i64)) weights0), (2, .dv (.int .i64) load2_a), (26, .dv (.sl (.int .i64)) laying1), (27, .dv (.int .i64) (laying1.length : Int)), (28, .dv (.int .i64) t28_a)], []⟩
noncomputable def K19_0 (a26c46 : Y26c46) (a42 : Y42) (N : Nat) : Kont (Int) := kont (E19 a26c46 a42) lv19 N c19 [1, 1, 1, 0, 1, 0] (fin TI en19 (resOf Tryz.f19) dec19)
noncomputable def R19_0 (a26c46 : Y26c46) (a42 : Y42) (N : Nat) (m : Nat) : TS → Option (Int) := loopK (den (E19 a26c46 a42) lv19 N (sub c19 [1, 1, 1, 0, 1, 0, 0])) (TS.norm nm19_0) (K19_0 a26c46 a42 N) m
def l19a (a26c46 : Y26c46) (a42 : Y42) (N : Nat) (weights0 : List Int) (laying1 : List Int) : Nat → Int → Int → Option (Int)
 | 0, _, _ => none
 | n + 1, load2_a, t28_a => cond (decide (t28_a < (laying1.length : Int))) (chk (decide (0 ≤ t28_a ∧ t28_a < (laying1.length : Int))) (chk (decide (0 ≤ t28_a ∧ t28_a < (weights0.length : Int))) ((l19a a26c46 a42 N weights0 laying1 n (w64 (load2_a - (w64 ((laying1.getD t28_a.toNat (0 : Int)) * (weights0.getD t28_a.toNat (0 : Int)))))) (w64 (t28_a + (1 : Int)))))))
   (cond (load2_a != (0 : Int)) (some (13 : Int))
   (some (0 : Int)))
theorem wl19a (a26c46 : Y26c46) (a42 : Y42) (N : Nat) (weights0 : List Int) (laying1 : List Int) (m : Nat) (load2_a : Int) (t28_a : Int) : R19_0 a26c46 a42 N (m + 1) (Sl19a weights0 laying1 load2_a t28_a) = cond (decide (t28_a < (laying1.length : Int))) (chk (decide (0 ≤ t28_a ∧ t28_a < (laying1.length : Int))) (chk (decide (0 ≤ t28_a ∧ t28_a < (weights0.length : Int))) ((R19_0 a26c46 a42 N m (Sl19a weights0 laying1 (w64 (load2_a - (w64 ((laying1.getD t28_a.toNat (0 : Int)) * (weights0.getD t28_a.toNat (0 : Int)))))) (w64 (t28_a + (1 : Int))))))))
   (cond (load2_a != (0 : Int)) (some (13 : Int))
   (some (0 : Int))) := by kernel_rfl
theorem ql19a (a26c46 : Y26c46) (a42 : Y42) (N : Nat) (weights0 : List Int) (laying1 : List Int) : ∀ (m : Nat) (load2_a : Int) (t28_a : Int), R19_0 a26c46 a42 N m (Sl19a weights0 laying1 load2_a t28_a) = l19a a26c46 a42 N weights0 laying1 m load2_a t28_a
        | 0, _, _ => rfl
        | m + 1, load2_a, t28_a => by rw [wl19a]; simp only [l19a, ql19a a26c46 a42 N weights0 laying1 m]
def m19 (a26c46 : Y26c46) (a42 : Y42) (N : Nat) (weights0 : List Int) (laying1 : List Int) (load2 : Int) : Option (Int) :=
   (a42 weights0).bind fun r1 =>
   cond (r1 != (0 : Int)) (some r1)
   (cond ((laying1.length : Int) != (weights0.length : Int)) (some (9 : Int))
   ((a26c46 laying1).bind fun r2 =>
   cond (r2) (some (9 : Int))
   ((l19a a26c46 a42 N weights0 laying1 N load2 (0 : Int)))))
theorem wm19 (a26c46 : Y26c46) (a42 : Y42) (N : Nat) (weights0 : List Int) (laying1 : List Int) (load2 : Int) : callF (E19 a26c46 a42) lv19 N en19 c19 (resOf Tryz.f19) 41 [.dv (.sl (.int .i64)) weights0, .dv (.sl (.int .i64)) laying1, .dv (.int .i64) load2] [] dec19 = (a42 weights0).bind fun r1 =>
   cond (r1 != (0 : Int)) (some r1)
   (cond ((laying1.length : Int) != (weights0.length : Int)) (some (9 : Int))
   ((a26c46 laying1).bind fun r2 =>
   cond (r2) (some (9 : Int))
   ((R19_0 a26c46 a42 N N (Sl19a weights0 laying1 load2 (0 : Int)))))) := by kernel_rfl
theorem k19 (a26c46 : Y26c46) (a42 : Y42) (N : Nat) (weights0 : List Int) (laying1 : List Int) (load2 : Int) : callF (E19 a26c46 a42) lv19 N en19 c19 (resOf Tryz.f19) 41 [.dv (.sl (.int .i64)) weights0, .dv (.sl (.int .i64)) laying1, .dv (.int .i64) load2] [] dec19 = m19 a26c46 a42 N weights0 laying1 load2 := by rw [wm19]; simp only [m19, ql19a]
theorem ok19 (a26c46 : Y26c46) (a42 : Y42) (h26c46 : FnOk Tryz.prog 26 (F26c46 a26c46)) (h42 : FnOk Tryz.prog 42 (F42 a42)) (a : Y19) (h : ∀ weights0 laying1 load2 r, a weights0 laying1 load2 = some r → (∃ N, m19 a26c46 a42 N weights0 laying1 load2 = some r)) : FnOk Tryz.prog 19 (F19 a) := by
 intro args Of x hx
 simp only [F19] at hx
 split at hx
 ·rename_i weights0 laying1 load2
  obtain ⟨N, hN⟩ := h _ _ _ _ hx
  refine lifted (L := [(26, F26c46 a26c46), (42, F42 a42)]) (rc := nrc) (fz := nfz) (fn := Tryz.f19) (by kernel_rfl) (by kernel_rfl) (by kernel_rfl) (by kernel_rfl) rfl ?_ ((k19 a26c46 a42 N _ _ _).trans hN) ?_
  ·intro p hp; simp only [List.mem_cons, List.not_mem_nil, or_false] at hp; rcases hp with rfl | rfl
   ·exact h26c46
   ·exact h42
  ·intro l o hd
   simp only [dec19] at hd
   split at hd
   ·obtain rfl := Option.some.inj hd; exact ⟨rfl, rfl⟩
   ·cases hd
 ·cases hx
def E5 : Env := mkE TI TY [] nrc nfz
noncomputable def c5 : Code := bodyOf Tryz.f5
def nm5_0 : Norm := ⟨[0, 9, 10, 11], [], [(.slot 5, 1005, .pair (.int .i64) (.pair (.int .i64) (.unit)))], []⟩
def lv5 : Nat → Option Norm := norms [(3, nm5_0)]
def en5 : End := ⟨[(36, .sl (.pair (.int .i64) (.pair (.int .i64) (.unit))))], ⟨[36], [], [], []⟩⟩
def dec5 (l : List TV) (o : List (Nat × TO)) : Option Tq := match l, o with | [.dv (.sl (.pair (.int .i64) (.pair (.int .i64) (.unit)))) x0], [] => some (x0) | _, _ => none
def Sl5a (days0 : List Int) (fines1 : List Int) (t11_a : Int) (l5_a : List Tr) : TS := ⟨slots 36 [(0, .dv (.sl (.int .u8)) days0), (5, .row 1005), (9, .dv (.sl (.int .i64)) fines1), (10, .dv (.int .i64) (fines1.length : Int)), (11, .dv (.int .i64) t11_a)], [(1005, .row (.pair (.int .i64) (.pair (.int .i64) (.unit))) l5_a)]⟩
noncomputable def K5_0 (N : Nat) : Kont Tq := kont (E5) lv5 N c5 [1, 1, 0, 1, 0] (fin TI en5 (resOf Tryz.f5) dec5)
noncomputable def R5_0 (N : Nat) (m : Nat) : TS → Option Tq := loopK (den (E5) lv5 N (sub c5 [1, 1, 0, 1, 0, 0])) (TS.norm nm5_0) (K5_0 N) m
def l5a (N : Nat) (days0 : List Int) (fines1 : List Int) : Nat → Int → Tq → Option Tq
 | 0, _, _ => none
 | n + 1, t11_a, l5_a => cond (decide (t11_a < (fines1.length : Int))) (chk (decide (0 ≤ t11_a ∧ t11_a < (fines1.length : Int))) (cond (decide (t11_a < (days0.length : Int))) (chk (decide (0 ≤ t11_a ∧ t11_a < (days0.length : Int))) (chk (small (l5_a.length + 1) 16) ((l5a N days0 fines1 n (w64 (t11_a + (1 : Int))) (l5_a ++ ([(w64 ((1 : Int) + (Int.tmod (w64 (days0.getD t11_a.toNat (0 : Int))) (5 : Int))), (fines1.getD t11_a.toNat (0 : Int), ()))] : List Tr))))))
   (chk (small (l5_a.length + 1) 16) ((l5a N days0 fines1 n (w64 (t11_a + (1 : Int))) (l5_a ++ ([((1 : Int), (fines1.getD t11_a.toNat (0 : Int), ()))] : List Tr)))))))
   (some l5_a)
theorem wl5a (N : Nat) (days0 : List Int) (fines1 : List Int) (m : Nat) (t11_a : Int) (l5_a : List Tr) : R5_0 N (m + 1) (Sl5a days0 fines1 t11_a l5_a) = cond (decide (t11_a < (fines1.length : Int))) (chk (decide (0 ≤ t11_a ∧ t11_a < (fines1.length : Int))) (cond (decide (t11_a < (days0.length : Int))) (chk (decide (0 ≤ t11_a ∧ t11_a < (days0.length : Int))) (chk (small (l5_a.length + 1) 16) ((R5_0 N m (Sl5a days0 fines1 (w64 (t11_a + (1 : Int))) (l5_a ++ ([(w64 ((1 : Int) + (Int.tmod (w64 (days0.getD t11_a.toNat (0 : Int))) (5 : Int))), (fines1.getD t11_a.toNat (0 : Int), ()))] : List Tr)))))))
   (chk (small (l5_a.length + 1) 16) ((R5_0 N m (Sl5a days0 fines1 (w64 (t11_a + (1 : Int))) (l5_a ++ ([((1 : Int), (fines1.getD t11_a.toNat (0 : Int), ()))] : List Tr))))))))
   (some l5_a) := by kernel_rfl
theorem ql5a (N : Nat) (days0 : List Int) (fines1 : List Int) : ∀ (m : Nat) (t11_a : Int) (l5_a : List Tr), R5_0 N m (Sl5a days0 fines1 t11_a l5_a) = l5a N days0 fines1 m t11_a l5_a
        | 0, _, _ => rfl
        | m + 1, t11_a, l5_a => by rw [wl5a]; simp only [l5a, ql5a N days0 fines1 m]
def m5 (N : Nat) (days0 : List Int) (fines1 : List Int) : Option Tq :=
   (l5a N days0 fines1 N (0 : Int) ([] : List Tr))
theorem wm5 (N : Nat) (days0 : List Int) (fines1 : List Int) : callF (E5) lv5 N en5 c5 (resOf Tryz.f5) 34 [.dv (.sl (.int .u8)) days0, .dv (.sl (.int .i64)) fines1] [] dec5 = (R5_0 N N (Sl5a days0 fines1 (0 : Int) ([] : List Tr))) := by kernel_rfl
theorem k5 (N : Nat) (days0 : List Int) (fines1 : List Int) : callF (E5) lv5 N en5 c5 (resOf Tryz.f5) 34 [.dv (.sl (.int .u8)) days0, .dv (.sl (.int .i64)) fines1] [] dec5 = m5 N days0 fines1 := by rw [wm5]; simp only [m5, ql5a]
theorem ok5 (a : Y5) (h : ∀ days0 fines1 r, a days0 fines1 = some r → (∃ N, m5 N days0 fines1 = some r)) : FnOk Tryz.prog 5 (F5 a) := by
 intro args Of x hx
 simp only [F5] at hx
 split at hx
 ·rename_i days0 fines1
  obtain ⟨N, hN⟩ := h _ _ _ hx
  refine lifted (L := []) (rc := nrc) (fz := nfz) (fn := Tryz.f5) (by kernel_rfl) (by kernel_rfl) (by kernel_rfl) (by kernel_rfl) rfl ?_ ((k5 N _ _).trans hN) ?_
  ·intro p hp; cases hp
  ·intro l o hd
   simp only [dec5] at hd
   split at hd
   ·obtain rfl := Option.some.inj hd; exact ⟨rfl, rfl⟩
   ·cases hd
 ·cases hx
def E4 (a10 : Y10) (a12 : Y12) (a13 : Y13) (a14 : Y14) (a15 : Y15) (a16 : Y16) (a17 : Y17) (a18 : Y18) (a19 : Y19) (a5 : Y5) : Env := mkE TI TY [(10, F10 a10), (12, F12 a12), (13, F13 a13), (14, F14 a14), (15, F15 a15), (16, F16 a16), (17, F17 a17), (18, F18 a18), (19, F19 a19), (5, F5 a5)] nrc nfz
noncomputable def c4 : Code := bodyOf Tryz.f4
def nm4_0 : Norm := ⟨[0, 5, 7], [], [(.slot 6, 1006, .int .i64)], []⟩
def nm4_1 : Norm := ⟨[5, 6, 8, 9, 17, 21, 130, 131, 132], [1006, 129], [], []⟩
def nm4_2 : Norm := ⟨[6, 8, 9, 17, 21, 148, 149], [1006, 129], [], []⟩
def lv4 : Nat → Option Norm := norms [(4, nm4_0), (18, nm4_1), (25, nm4_2)]
def en4 : End := ⟨[], ⟨[193], [], [], []⟩⟩
def dec4 (l : List TV) (o : List (Nat × TO)) : Option (Bool) := match l, o with | [.dv (.bool) x0], [] => some (x0) | _, _ => none
def Sl4c (w6_a : List Int) (r1 : List Tr) (r2 : Int × Int) (r6 : List Int × Int) (o129_b : List Int) (t149_c : Int) : TS := ⟨slots 193 [(6, .row 1006), (8, .dv (.sl (.pair (.int .i64) (.pair (.int .i64) (.unit)))) r1), (9, .dv (.int .i64) r2.1), (17, .dv (.sl (.int .i64)) r6.1), (21, .row 129), (148, .dv (.int .i64) (o129_b.length : Int)), (149, .dv (.int .i64) t149_c)], [(1006, .frz (.int .i64) w6_a), (129, .row (.int .i64) o129_b)]⟩
def Sl4b (orders1 : Int) (w6_a : List Int) (r1 : List Tr) (r2 : Int × Int) (r4 : List Int × Int) (r6 : List Int × Int) (t132_b : Int) (o129_b : List Int) : TS := ⟨slots 193 [(5, .dv (.int .i64) (w64 ((1 : Int) + (Int.tmod (w64 (orders1)) (7 : Int))))), (6, .row 1006), (8, .dv (.sl (.pair (.int .i64) (.pair (.int .i64) (.unit)))) r1), (9, .dv (.int .i64) r2.1), (17, .dv (.sl (.int .i64)) r6.1), (21, .row 129), (130, .dv (.sl (.int .i64)) r4.1), (131, .dv (.int .i64) (r4.1.length : Int)), (132, .dv (.int .i64) t132_b)], [(1006, .frz (.int .i64) w6_a), (129, .row (.int .i64) o129_b)]⟩
def Sl4a (days0 : List Int) (orders1 : Int) (x7_a : Int) (w6_a : List Int) : TS := ⟨slots 193 [(0, .dv (.sl (.int .u8)) days0), (5, .dv (.int .i64) (w64 ((1 : Int) + (Int.tmod (w64 (orders1)) (7 : Int))))), (6, .row 1006), (7, .dv (.int .i64) x7_a)], [(1006, .row (.int .i64) w6_a)]⟩
noncomputable def K4_0 (a10 : Y10) (a12 : Y12) (a13 : Y13) (a14 : Y14) (a15 : Y15) (a16 : Y16) (a17 : Y17) (a18 : Y18) (a19 : Y19) (a5 : Y5) (N : Nat) : Kont (Bool) := kont (E4 a10 a12 a13 a14 a15 a16 a17 a18 a19 a5) lv4 N c4 [1, 1, 1, 0, 1, 0] (fin TI en4 (resOf Tryz.f4) dec4)
noncomputable def R4_0 (a10 : Y10) (a12 : Y12) (a13 : Y13) (a14 : Y14) (a15 : Y15) (a16 : Y16) (a17 : Y17) (a18 : Y18) (a19 : Y19) (a5 : Y5) (N : Nat) (m : Nat) : TS → Option (Bool) := loopK (den (E4 a10 a12 a13 a14 a15 a16 a17 a18 a19 a5) lv4 N (sub c4 [1, 1, 1, 0, 1, 0, 0])) (TS.norm nm4_0) (K4_0 a10 a12 a13 a14 a15 a16 a17 a18 a19 a5 N) m
noncomputable def K4_1 (a10 : Y10) (a12 : Y12) (a13 : Y13) (a14 : Y14) (a15 : Y15) (a16 : Y16) (a17 : Y17) (a18 : Y18) (a19 : Y19) (a5 : Y5) (N : Nat) : Kont (Bool) := kont (E4 a10 a12 a13 a14 a15 a16 a17 a18 a19 a5) lv4 N c4 [1, 1, 1, 1, 1, 1, 1, 1, 1, 1, 1, 1, 1, 0, 1, 0] (fin TI en4 (resOf Tryz.f4) dec4)
noncomputable def R4_1 (a10 : Y10) (a12 : Y12) (a13 : Y13) (a14 : Y14) (a15 : Y15) (a16 : Y16) (a17 : Y17) (a18 : Y18) (a19 : Y19) (a5 : Y5) (N : Nat) (m : Nat) : TS → Option (Bool) := loopK (den (E4 a10 a12 a13 a14 a15 a16 a17 a18 a19 a5) lv4 N (sub c4 [1, 1, 1, 1, 1, 1, 1, 1, 1, 1, 1, 1, 1, 0, 1, 0, 0])) (TS.norm nm4_1) (K4_1 a10 a12 a13 a14 a15 a16 a17 a18 a19 a5 N) m
noncomputable def K4_2 (a10 : Y10) (a12 : Y12) (a13 : Y13) (a14 : Y14) (a15 : Y15) (a16 : Y16) (a17 : Y17) (a18 : Y18) (a19 : Y19) (a5 : Y5) (N : Nat) : Kont (Bool) := kont (E4 a10 a12 a13 a14 a15 a16 a17 a18 a19 a5) lv4 N c4 [1, 1, 1, 1, 1, 1, 1, 1, 1, 1, 1, 1, 1, 1, 0, 1, 0] (fin TI en4 (resOf Tryz.f4) dec4)
noncomputable def R4_2 (a10 : Y10) (a12 : Y12) (a13 : Y13) (a14 : Y14) (a15 : Y15) (a16 : Y16) (a17 : Y17) (a18 : Y18) (a19 : Y19) (a5 : Y5) (N : Nat) (m : Nat) : TS → Option (Bool) := loopK (den (E4 a10 a12 a13 a14 a15 a16 a17 a18 a19 a5) lv4 N (sub c4 [1, 1, 1, 1, 1, 1, 1, 1, 1, 1, 1, 1, 1, 1, 0, 1, 0, 0])) (TS.norm nm4_2) (K4_2 a10 a12 a13 a14 a15 a16 a17 a18 a19 a5 N) m
def l4c (a10 : Y10) (a12 : Y12) (a13 : Y13) (a14 : Y14) (a15 : Y15) (a16 : Y16) (a17 : Y17) (a18 : Y18) (a19 : Y19) (a5 : Y5) (N : Nat) (w6_a : List Int) (r1 : List Tr) (r2 : Int × Int) (r6 : List Int × Int) (o129_b : List Int) : Nat → Int → Option (Bool)
 | 0, _ => none
 | n + 1, t149_c => cond (decide (t149_c < (o129_b.length : Int))) (chk (decide (0 ≤ t149_c ∧ t149_c < (r6.1.length : Int))) (chk (decide (0 ≤ t149_c ∧ t149_c < (o129_b.length : Int))) (cond ((r6.1.getD t149_c.toNat (0 : Int)) != (o129_b.getD t149_c.toNat (0 : Int))) (some false)
   ((a18 r1 t149_c).bind fun r8 =>
   cond (r8.2 != (0 : Int)) (some false)
   (chk (decide (0 ≤ t149_c ∧ t149_c < (r1.length : Int))) (chk (decide (0 ≤ t149_c ∧ t149_c < (o129_b.length : Int))) (cond ((r8.1 == (((r1.getD t149_c.toNat ((0 : Int), ((0 : Int), ()))).2).1)) != ((o129_b.getD t149_c.toNat (0 : Int)) == (1 : Int))) (some false)
   ((l4c a10 a12 a13 a14 a15 a16 a17 a18 a19 a5 N w6_a r1 r2 r6 o129_b n (w64 (t149_c + (1 : Int))))))))))))
   ((a19 w6_a o129_b r2.1).bind fun r9 =>
   cond (r9 == (0 : Int)) ((a12).bind fun r10 =>
   some r10)
   (some false))
theorem wl4c (a10 : Y10) (a12 : Y12) (a13 : Y13) (a14 : Y14) (a15 : Y15) (a16 : Y16) (a17 : Y17) (a18 : Y18) (a19 : Y19) (a5 : Y5) (N : Nat) (w6_a : List Int) (r1 : List Tr) (r2 : Int × Int) (r6 : List Int × Int) (o129_b : List Int) (m : Nat) (t149_c : Int) : R4_2 a10 a12 a13 a14 a15 a16 a17 a18 a19 a5 N (m + 1) (Sl4c w6_a r1 r2 r6 o129_b t149_c) = cond (decide (t149_c < (o129_b.length : Int))) (chk (decide (0 ≤ t149_c ∧ t149_c < (r6.1.length : Int))) (chk (decide (0 ≤ t149_c ∧ t149_c < (o129_b.length : Int))) (cond ((r6.1.getD t149_c.toNat (0 : Int)) != (o129_b.getD t149_c.toNat (0 : Int))) (some false)
   ((a18 r1 t149_c).bind fun r8 =>
   cond (r8.2 != (0 : Int)) (some false)
   (chk (decide (0 ≤ t149_c ∧ t149_c < (r1.length : Int))) (chk (decide (0 ≤ t149_c ∧ t149_c < (o129_b.length : Int))) (cond ((r8.1 == (((r1.getD t149_c.toNat ((0 : Int), ((0 : Int), ()))).2).1)) != ((o129_b.getD t149_c.toNat (0 : Int)) == (1 : Int))) (some false)
   ((R4_2 a10 a12 a13 a14 a15 a16 a17 a18 a19 a5 N m (Sl4c w6_a r1 r2 r6 o129_b (w64 (t149_c + (1 : Int)))))))))))))
   ((a19 w6_a o129_b r2.1).bind fun r9 =>
   cond (r9 == (0 : Int)) ((a12).bind fun r10 =>
   some r10)
   (some false)) := by kernel_rfl
theorem ql4c (a10 : Y10) (a12 : Y12) (a13 : Y13) (a14 : Y14) (a15 : Y15) (a16 : Y16) (a17 : Y17) (a18 : Y18) (a19 : Y19) (a5 : Y5) (N : Nat) (w6_a : List Int) (r1 : List Tr) (r2 : Int × Int) (r6 : List Int × Int) (o129_b : List Int) : ∀ (m : Nat) (t149_c : Int), R4_2 a10 a12 a13 a14 a15 a16 a17 a18 a19 a5 N m (Sl4c w6_a r1 r2 r6 o129_b t149_c) = l4c a10 a12 a13 a14 a15 a16 a17 a18 a19 a5 N w6_a r1 r2 r6 o129_b m t149_c
        | 0, _ => rfl
        | m + 1, t149_c => by rw [wl4c]; simp only [l4c, ql4c a10 a12 a13 a14 a15 a16 a17 a18 a19 a5 N w6_a r1 r2 r6 o129_b m]
def l4b (a10 : Y10) (a12 : Y12) (a13 : Y13) (a14 : Y14) (a15 : Y15) (a16 : Y16) (a17 : Y17) (a18 : Y18) (a19 : Y19) (a5 : Y5) (N : Nat) (orders1 : Int) (w6_a : List Int) (r1 : List Tr) (r2 : Int × Int) (r4 : List Int × Int) (r6 : List Int × Int) : Nat → Int → Ti → Option (Bool)
 | 0, _, _ => none
 | n + 1, t132_b, o129_b => cond (decide (t132_b < (r4.1.length : Int))) (chk (decide (0 ≤ t132_b ∧ t132_b < (r4.1.length : Int))) (cond (decide ((r4.1.getD t132_b.toNat (0 : Int)) < (0 : Int))) (some false)
   (cond (decide ((r4.1.getD t132_b.toNat (0 : Int)) ≥ (w64 ((1 : Int) + (Int.tmod (w64 (orders1)) (7 : Int)))))) (some false)
   (chk (decide (0 ≤ r4.1.getD t132_b.toNat (0 : Int) ∧ r4.1.getD t132_b.toNat (0 : Int) < (o129_b.length : Int))) ((l4b a10 a12 a13 a14 a15 a16 a17 a18 a19 a5 N orders1 w6_a r1 r2 r4 r6 n (w64 (t132_b + (1 : Int))) (o129_b.set ((r4.1.getD t132_b.toNat (0 : Int)).toNat) (1 : Int))))))))
   ((l4c a10 a12 a13 a14 a15 a16 a17 a18 a19 a5 N w6_a r1 r2 r6 o129_b N (0 : Int)))
theorem wl4b (a10 : Y10) (a12 : Y12) (a13 : Y13) (a14 : Y14) (a15 : Y15) (a16 : Y16) (a17 : Y17) (a18 : Y18) (a19 : Y19) (a5 : Y5) (N : Nat) (orders1 : Int) (w6_a : List Int) (r1 : List Tr) (r2 : Int × Int) (r4 : List Int × Int) (r6 : List Int × Int) (m : Nat) (t132_b : Int) (o129_b : List Int) : R4_1 a10 a12 a13 a14 a15 a16 a17 a18 a19 a5 N (m + 1) (Sl4b orders1 w6_a r1 r2 r4 r6 t132_b o129_b) = cond (decide (t132_b < (r4.1.length : Int))) (chk (decide (0 ≤ t132_b ∧ t132_b < (r4.1.length : Int))) (cond (decide ((r4.1.getD t132_b.toNat (0 : Int)) < (0 : Int))) (some false)
   (cond (decide ((r4.1.getD t132_b.toNat (0 : Int)) ≥ (w64 ((1 : Int) + (Int.tmod (w64 (orders1)) (7 : Int)))))) (some false)
   (chk (decide (0 ≤ r4.1.getD t132_b.toNat (0 : Int) ∧ r4.1.getD t132_b.toNat (0 : Int) < (o129_b.length : Int))) ((R4_1 a10 a12 a13 a14 a15 a16 a17 a18 a19 a5 N m (Sl4b orders1 w6_a r1 r2 r4 r6 (w64 (t132_b + (1 : Int))) (o129_b.set ((r4.1.getD t132_b.toNat (0 : Int)).toNat) (1 : Int)))))))))
   ((R4_2 a10 a12 a13 a14 a15 a16 a17 a18 a19 a5 N N (Sl4c w6_a r1 r2 r6 o129_b (0 : Int)))) := by kernel_rfl
theorem ql4b (a10 : Y10) (a12 : Y12) (a13 : Y13) (a14 : Y14) (a15 : Y15) (a16 : Y16) (a17 : Y17) (a18 : Y18) (a19 : Y19) (a5 : Y5) (N : Nat) (orders1 : Int) (w6_a : List Int) (r1 : List Tr) (r2 : Int × Int) (r4 : List Int × Int) (r6 : List Int × Int) : ∀ (m : Nat) (t132_b : Int) (o129_b : List Int), R4_1 a10 a12 a13 a14 a15 a16 a17 a18 a19 a5 N m (Sl4b orders1 w6_a r1 r2 r4 r6 t132_b o129_b) = l4b a10 a12 a13 a14 a15 a16 a17 a18 a19 a5 N orders1 w6_a r1 r2 r4 r6 m t132_b o129_b
        | 0, _, _ => rfl
        | m + 1, t132_b, o129_b => by rw [wl4b]; simp only [l4b, ql4c, ql4b a10 a12 a13 a14 a15 a16 a17 a18 a19 a5 N orders1 w6_a r1 r2 r4 r6 m]
def l4a (a10 : Y10) (a12 : Y12) (a13 : Y13) (a14 : Y14) (a15 : Y15) (a16 : Y16) (a17 : Y17) (a18 : Y18) (a19 : Y19) (a5 : Y5) (N : Nat) (days0 : List Int) (orders1 : Int) : Nat → Int → Ti → Option (Bool)
 | 0, _, _ => none
 | n + 1, x7_a, w6_a => cond (decide ((w6_a.length : Int) < (w64 ((1 : Int) + (Int.tmod (w64 (orders1)) (7 : Int)))))) (chk (small (w6_a.length + 1) 8) ((l4a a10 a12 a13 a14 a15 a16 a17 a18 a19 a5 N days0 orders1 n (w64 (x7_a * (3 : Int))) (w6_a ++ ([x7_a] : List Int)))))
   ((a5 days0 w6_a).bind fun r1 =>
   (a10 r1).bind fun r2 =>
   (a13 r1).bind fun r3 =>
   (a14 r1).bind fun r4 =>
   (a15 r1).bind fun r5 =>
   (a16 w6_a r2.1).bind fun r6 =>
   (a17 w6_a).bind fun r7 =>
   cond (r2.2 != (0 : Int)) (some false)
   (cond (r3.2 != (0 : Int)) (some false)
   (cond (r4.2 != (0 : Int)) (some false)
   (cond (r5.2 != (0 : Int)) (some false)
   (cond (r6.2 != (0 : Int)) (some false)
   (cond (r7.2 != (0 : Int)) (some false)
   (cond ((w64 ((r3.1.length : Int) + (r4.1.length : Int))) != (w64 ((1 : Int) + (Int.tmod (w64 (orders1)) (7 : Int))))) (some false)
   (cond ((r5.1.length : Int) != (r3.1.length : Int)) (some false)
   (cond ((r6.1.length : Int) != (w64 ((1 : Int) + (Int.tmod (w64 (orders1)) (7 : Int))))) (some false)
   (cond (decide (r2.1 < (0 : Int))) (some false)
   (cond (decide (r2.1 > r7.1)) (some false)
   (chk (mkOk (w64 ((1 : Int) + (Int.tmod (w64 (orders1)) (7 : Int)))) (w64 ((1 : Int) + (Int.tmod (w64 (orders1)) (7 : Int)))) 8) ((l4b a10 a12 a13 a14 a15 a16 a17 a18 a19 a5 N orders1 w6_a r1 r2 r4 r6 N (0 : Int) (List.replicate ((w64 ((1 : Int) + (Int.tmod (w64 (orders1)) (7 : Int)))).toNat) (0 : Int))))))))))))))))
theorem wl4a (a10 : Y10) (a12 : Y12) (a13 : Y13) (a14 : Y14) (a15 : Y15) (a16 : Y16) (a17 : Y17) (a18 : Y18) (a19 : Y19) (a5 : Y5) (N : Nat) (days0 : List Int) (orders1 : Int) (m : Nat) (x7_a : Int) (w6_a : List Int) : R4_0 a10 a12 a13 a14 a15 a16 a17 a18 a19 a5 N (m + 1) (Sl4a days0 orders1 x7_a w6_a) = cond (decide ((w6_a.length : Int) < (w64 ((1 : Int) + (Int.tmod (w64 (orders1)) (7 : Int)))))) (chk (small (w6_a.length + 1) 8) ((R4_0 a10 a12 a13 a14 a15 a16 a17 a18 a19 a5 N m (Sl4a days0 orders1 (w64 (x7_a * (3 : Int))) (w6_a ++ ([x7_a] : List Int))))))
   ((a5 days0 w6_a).bind fun r1 =>
   (a10 r1).bind fun r2 =>
   (a13 r1).bind fun r3 =>
   (a14 r1).bind fun r4 =>
   (a15 r1).bind fun r5 =>
   (a16 w6_a r2.1).bind fun r6 =>
   (a17 w6_a).bind fun r7 =>
   cond (r2.2 != (0 : Int)) (some false)
   (cond (r3.2 != (0 : Int)) (some false)
   (cond (r4.2 != (0 : Int)) (some false)
   (cond (r5.2 != (0 : Int)) (some false)
   (cond (r6.2 != (0 : Int)) (some false)
   (cond (r7.2 != (0 : Int)) (some false)
   (cond ((w64 ((r3.1.length : Int) + (r4.1.length : Int))) != (w64 ((1 : Int) + (Int.tmod (w64 (orders1)) (7 : Int))))) (some false)
   (cond ((r5.1.length : Int) != (r3.1.length : Int)) (some false)
   (cond ((r6.1.length : Int) != (w64 ((1 : Int) + (Int.tmod (w64 (orders1)) (7 : Int))))) (some false)
   (cond (decide (r2.1 < (0 : Int))) (some false)
   (cond (decide (r2.1 > r7.1)) (some false)
   (chk (mkOk (w64 ((1 : Int) + (Int.tmod (w64 (orders1)) (7 : Int)))) (w64 ((1 : Int) + (Int.tmod (w64 (orders1)) (7 : Int)))) 8) ((R4_1 a10 a12 a13 a14 a15 a16 a17 a18 a19 a5 N N (Sl4b orders1 w6_a r1 r2 r4 r6 (0 : Int) (List.replicate ((w64 ((1 : Int) + (Int.tmod (w64 (orders1)) (7 : Int)))).toNat) (0 : Int))))))))))))))))) := by kernel_rfl
theorem ql4a (a10 : Y10) (a12 : Y12) (a13 : Y13) (a14 : Y14) (a15 : Y15) (a16 : Y16) (a17 : Y17) (a18 : Y18) (a19 : Y19) (a5 : Y5) (N : Nat) (days0 : List Int) (orders1 : Int) : ∀ (m : Nat) (x7_a : Int) (w6_a : List Int), R4_0 a10 a12 a13 a14 a15 a16 a17 a18 a19 a5 N m (Sl4a days0 orders1 x7_a w6_a) = l4a a10 a12 a13 a14 a15 a16 a17 a18 a19 a5 N days0 orders1 m x7_a w6_a
        | 0, _, _ => rfl
        | m + 1, x7_a, w6_a => by rw [wl4a]; simp only [l4a, ql4b, ql4a a10 a12 a13 a14 a15 a16 a17 a18 a19 a5 N days0 orders1 m]
def m4 (a10 : Y10) (a12 : Y12) (a13 : Y13) (a14 : Y14) (a15 : Y15) (a16 : Y16) (a17 : Y17) (a18 : Y18) (a19 : Y19) (a5 : Y5) (N : Nat) (days0 : List Int) (orders1 : Int) : Option (Bool) :=
   (l4a a10 a12 a13 a14 a15 a16 a17 a18 a19 a5 N days0 orders1 N (1 : Int) ([] : List Int))
theorem wm4 (a10 : Y10) (a12 : Y12) (a13 : Y13) (a14 : Y14) (a15 : Y15) (a16 : Y16) (a17 : Y17) (a18 : Y18) (a19 : Y19) (a5 : Y5) (N : Nat) (days0 : List Int) (orders1 : Int) : callF (E4 a10 a12 a13 a14 a15 a16 a17 a18 a19 a5) lv4 N en4 c4 (resOf Tryz.f4) 191 [.dv (.sl (.int .u8)) days0, .dv (.int .u8) orders1] [] dec4 = (R4_0 a10 a12 a13 a14 a15 a16 a17 a18 a19 a5 N N (Sl4a days0 orders1 (1 : Int) ([] : List Int))) := by kernel_rfl
theorem k4 (a10 : Y10) (a12 : Y12) (a13 : Y13) (a14 : Y14) (a15 : Y15) (a16 : Y16) (a17 : Y17) (a18 : Y18) (a19 : Y19) (a5 : Y5) (N : Nat) (days0 : List Int) (orders1 : Int) : callF (E4 a10 a12 a13 a14 a15 a16 a17 a18 a19 a5) lv4 N en4 c4 (resOf Tryz.f4) 191 [.dv (.sl (.int .u8)) days0, .dv (.int .u8) orders1] [] dec4 = m4 a10 a12 a13 a14 a15 a16 a17 a18 a19 a5 N days0 orders1 := by rw [wm4]; simp only [m4, ql4a]
theorem ok4 (a10 : Y10) (a12 : Y12) (a13 : Y13) (a14 : Y14) (a15 : Y15) (a16 : Y16) (a17 : Y17) (a18 : Y18) (a19 : Y19) (a5 : Y5) (h10 : FnOk Tryz.prog 10 (F10 a10)) (h12 : FnOk Tryz.prog 12 (F12 a12)) (h13 : FnOk Tryz.prog 13 (F13 a13)) (h14 : FnOk Tryz.prog 14 (F14 a14)) (h15 : FnOk Tryz.prog 15 (F15 a15)) (h16 : FnOk Tryz.prog 16 (F16 a16)) (h17 : FnOk Tryz.prog 17 (F17 a17)) (h18 : FnOk Tryz.prog 18 (F18 a18)) (h19 : FnOk Tryz.prog 19 (F19 a19)) (h5 : FnOk Tryz.prog 5 (F5 a5)) (a : Y4) (h : ∀ days0 orders1 r, a days0 orders1 = some r → (∃ N, m4 a10 a12 a13 a14 a15 a16 a17 a18 a19 a5 N days0 orders1 = some r)) : FnOk Tryz.prog 4 (F4 a) := by
 intro args Of x hx
 simp only [F4] at hx
 split at hx
 ·rename_i days0 orders1
  obtain ⟨N, hN⟩ := h _ _ _ hx
  refine lifted (L := [(10, F10 a10), (12, F12 a12), (13, F13 a13), (14, F14 a14), (15, F15 a15), (16, F16 a16), (17, F17 a17), (18, F18 a18), (19, F19 a19), (5, F5 a5)]) (rc := nrc) (fz := nfz) (fn := Tryz.f4) (by kernel_rfl) (by kernel_rfl) (by kernel_rfl) (by kernel_rfl) rfl ?_ ((k4 a10 a12 a13 a14 a15 a16 a17 a18 a19 a5 N _ _).trans hN) ?_
  ·intro p hp; simp only [List.mem_cons, List.not_mem_nil, or_false] at hp; rcases hp with rfl | rfl | rfl | rfl | rfl | rfl | rfl | rfl | rfl | rfl
   ·exact h10
   ·exact h12
   ·exact h13
   ·exact h14
   ·exact h15
   ·exact h16
   ·exact h17
   ·exact h18
   ·exact h19
   ·exact h5
  ·intro l o hd
   simp only [dec4] at hd
   split at hd
   ·obtain rfl := Option.some.inj hd; exact ⟨rfl, rfl⟩
   ·cases hd
 ·cases hx
end Go.Proofs.YtjcnfpfldocpdaaGreatDoor
