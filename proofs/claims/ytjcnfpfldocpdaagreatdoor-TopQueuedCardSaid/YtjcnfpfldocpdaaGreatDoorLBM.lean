/-
 The functions that the law reaches, told as plain functions.
-/
import Derived.Test.YtjcnfpfldocpdaaGreatDoorQFI
namespace Go.Proofs.YtjcnfpfldocpdaaGreatDoor
open Go.RowKit
set_option linter.unusedVariables false
def E34 : Env := mkE TI TY [] nrc nfz
noncomputable def c34 : Code := bodyOf Tryz.f34
def lv34 : Nat → Option Norm := norms []
def en34 : End := ⟨[], ⟨[15], [], [], []⟩⟩
def dec34 (l : List TV) (o : List (Nat × TO)) : Option (Bool) := match l, o with | [.dv (.bool) x0], [] => some (x0) | _, _ => none
def m34 (N : Nat) (lo0 : Int) (n1 : Int) (hi2 : Int) : Option (Bool) :=
   cond (decide (lo0 ≤ n1)) (some (decide (n1 ≤ hi2)))
   (some false)
theorem k34 (N : Nat) (lo0 : Int) (n1 : Int) (hi2 : Int) : callF (E34) lv34 N en34 c34 (resOf Tryz.f34) 12 [.dv (.int .i64) lo0, .dv (.int .i64) n1, .dv (.int .i64) hi2] [] dec34 = m34 N lo0 n1 hi2 := by kernel_rfl
theorem ok34 (a : Y34) (h : ∀ lo0 n1 hi2 r, a lo0 n1 hi2 = some r → (∃ N, m34 N lo0 n1 hi2 = some r)) : FnOk Tryz.prog 34 (F34 a) := by
 intro args Of x hx
 simp only [F34] at hx
 split at hx
 ·rename_i lo0 n1 hi2
  obtain ⟨N, hN⟩ := h _ _ _ _ hx
  refine lifted (L := []) (rc := nrc) (fz := nfz) (fn := Tryz.f34) (by kernel_rfl) (by kernel_rfl) (by kernel_rfl) (by kernel_rfl) rfl ?_ ((k34 N _ _ _).trans hN) ?_
  ·intro p hp; cases hp
  ·intro l o hd
   simp only [dec34] at hd
   split at hd
   ·obtain rfl := Option.some.inj hd; exact ⟨rfl, rfl⟩
   ·cases hd
 ·cases hx
def E62 (a34 : Y34) : Env := mkE TI TY [(34, F34 a34)] nrc nfz
noncomputable def c62 : Code := bodyOf Tryz.f62
def lv62 : Nat → Option Norm := norms []
def en62 : End := ⟨[], ⟨[13], [], [], []⟩⟩
def dec62 (l : List TV) (o : List (Nat × TO)) : Option (Bool) := match l, o with | [.dv (.bool) x0], [] => some (x0) | _, _ => none
def m62 (a34 : Y34) (N : Nat) (o0 : Int × Int × Unit) : Option (Bool) :=
   (a34 (1 : Int) o0.1 (30 : Int)).bind fun r1 =>
   cond (!r1) (some true)
   ((a34 (0 : Int) o0.2.1 (10000 : Int)).bind fun r2 =>
   some (!r2))
theorem k62 (a34 : Y34) (N : Nat) (o0 : Int × Int × Unit) : callF (E62 a34) lv62 N en62 c62 (resOf Tryz.f62) 12 [.dv (.pair (.int .i64) (.pair (.int .i64) (.unit))) o0] [] dec62 = m62 a34 N o0 := by kernel_rfl
theorem ok62 (a34 : Y34) (h34 : FnOk Tryz.prog 34 (F34 a34)) (a : Y62) (h : ∀ o0 r, a o0 = some r → (∃ N, m62 a34 N o0 = some r)) : FnOk Tryz.prog 62 (F62 a) := by
 intro args Of x hx
 simp only [F62] at hx
 split at hx
 ·rename_i o0
  obtain ⟨N, hN⟩ := h _ _ hx
  refine lifted (L := [(34, F34 a34)]) (rc := nrc) (fz := nfz) (fn := Tryz.f62) (by kernel_rfl) (by kernel_rfl) (by kernel_rfl) (by kernel_rfl) rfl ?_ ((k62 a34 N _).trans hN) ?_
  ·intro p hp; simp only [List.mem_cons, List.not_mem_nil, or_false] at hp; rcases hp with rfl; exact h34
  ·intro l o hd
   simp only [dec62] at hd
   split at hd
   ·obtain rfl := Option.some.inj hd; exact ⟨rfl, rfl⟩
   ·cases hd
 ·cases hx
def E39c62 (a62 : Y62) : Env := mkE TI TY [(62, F62 a62)] nrc nfz
noncomputable def c39c62 : Code := bodyOf Tryz.f39
def nm39c62_0 : Norm := ⟨[0, 1, 7, 8], [], [], []⟩
def lv39c62 : Nat → Option Norm := norms [(2, nm39c62_0)]
def en39c62 : End := ⟨[], ⟨[19], [], [], []⟩⟩
def dec39c62 (l : List TV) (o : List (Nat × TO)) : Option (Int) := match l, o with | [.dv (.int .i64) x0], [] => some (x0) | _, _ => none
def Sl39c62a (s0 : List Tr) (t8_a : Int) : TS := ⟨slots 19 [(0, .dv (.sl (.pair (.int .i64) (.pair (.int .i64) (.unit)))) s0), (1, .fn 62 0 0 fun i => ([] : List TV).getD i .any), (7, .dv (.int .i64) (s0.length : Int)), (8, .dv (.int .i64) t8_a)], []⟩
noncomputable def K39c62_0 (a62 : Y62) (N : Nat) : Kont (Int) := kont (E39c62 a62) lv39c62 N c39c62 [1, 0, 1, 0] (fin TI en39c62 (resOf Tryz.f39) dec39c62)
noncomputable def R39c62_0 (a62 : Y62) (N : Nat) (m : Nat) : TS → Option (Int) := loopK (den (E39c62 a62) lv39c62 N (sub c39c62 [1, 0, 1, 0, 0])) (TS.norm nm39c62_0) (K39c62_0 a62 N) m
def l39c62a (a62 : Y62) (N : Nat) (s0 : List Tr) : Nat → Int → Option (Int)
 | 0, _ => none
 | n + 1, t8_a => cond (decide (t8_a < (s0.length : Int))) (chk (decide (0 ≤ t8_a ∧ t8_a < (s0.length : Int))) ((a62 (s0.getD t8_a.toNat ((0 : Int), ((0 : Int), ())))).bind fun r1 =>
   cond (r1) (some t8_a)
   ((l39c62a a62 N s0 n (w64 (t8_a + (1 : Int)))))))
   (some (-1 : Int))
theorem wl39c62a (a62 : Y62) (N : Nat) (s0 : List Tr) (m : Nat) (t8_a : Int) : R39c62_0 a62 N (m + 1) (Sl39c62a s0 t8_a) = cond (decide (t8_a < (s0.length : Int))) (chk (decide (0 ≤ t8_a ∧ t8_a < (s0.length : Int))) ((a62 (s0.getD t8_a.toNat ((0 : Int), ((0 : Int), ())))).bind fun r1 =>
   cond (r1) (some t8_a)
   ((R39c62_0 a62 N m (Sl39c62a s0 (w64 (t8_a + (1 : Int))))))))
   (some (-1 : Int)) := by kernel_rfl
theorem ql39c62a (a62 : Y62) (N : Nat) (s0 : List Tr) : ∀ (m : Nat) (t8_a : Int), R39c62_0 a62 N m (Sl39c62a s0 t8_a) = l39c62a a62 N s0 m t8_a
        | 0, _ => rfl
        | m + 1, t8_a => by rw [wl39c62a]; simp only [l39c62a, ql39c62a a62 N s0 m]
def m39c62 (a62 : Y62) (N : Nat) (s0 : List Tr) : Option (Int) :=
   (l39c62a a62 N s0 N (0 : Int))
theorem wm39c62 (a62 : Y62) (N : Nat) (s0 : List Tr) : callF (E39c62 a62) lv39c62 N en39c62 c39c62 (resOf Tryz.f39) 17 [.dv (.sl (.pair (.int .i64) (.pair (.int .i64) (.unit)))) s0, .fn 62 0 0 fun i => ([] : List TV).getD i .any] [] dec39c62 = (R39c62_0 a62 N N (Sl39c62a s0 (0 : Int))) := by kernel_rfl
theorem k39c62 (a62 : Y62) (N : Nat) (s0 : List Tr) : callF (E39c62 a62) lv39c62 N en39c62 c39c62 (resOf Tryz.f39) 17 [.dv (.sl (.pair (.int .i64) (.pair (.int .i64) (.unit)))) s0, .fn 62 0 0 fun i => ([] : List TV).getD i .any] [] dec39c62 = m39c62 a62 N s0 := by rw [wm39c62]; simp only [m39c62, ql39c62a]
theorem ok39c62 (a62 : Y62) (h62 : FnOk Tryz.prog 62 (F62 a62)) (a : Y39c62) (h : ∀ s0 r, a s0 = some r → (∃ N, m39c62 a62 N s0 = some r)) : FnOk Tryz.prog 39 (F39c62 a) := by
 intro args Of x hx
 simp only [F39c62] at hx
 split at hx
 ·rename_i s0 f_0 heqc
  have hc0 := congrArg (fun c : List (List TV) => c.getD 0 []) heqc
  obtain ⟨N, hN⟩ := h _ _ hx
  refine HSpec.etaL (args := [.dv (.sl (.pair (.int .i64) (.pair (.int .i64) (.unit)))) s0, .fn 62 0 0 fun i => ([] : List TV).getD i .any]) (O := []) ⟨TV.sim_refl _, TV.sim_fn hc0, trivial⟩ trivial (lifted (L := [(62, F62 a62)]) (rc := nrc) (fz := nfz) (fn := Tryz.f39) (by kernel_rfl) (by kernel_rfl) (by kernel_rfl) (by kernel_rfl) rfl ?_ ((k39c62 a62 N _).trans hN) ?_)
  ·intro p hp; simp only [List.mem_cons, List.not_mem_nil, or_false] at hp; rcases hp with rfl; exact h62
  ·intro l o hd
   simp only [dec39c62] at hd
   split at hd
   ·obtain rfl := Option.some.inj hd; exact ⟨rfl, rfl⟩
   ·cases hd
 ·cases hx
def E61c62 (a39c62 : Y39c62) : Env := mkE TI TY [(39, F39c62 a39c62)] nrc nfz
noncomputable def c61c62 : Code := bodyOf Tryz.f61
def lv61c62 : Nat → Option Norm := norms []
def en61c62 : End := ⟨[], ⟨[9], [], [], []⟩⟩
def dec61c62 (l : List TV) (o : List (Nat × TO)) : Option (Bool) := match l, o with | [.dv (.bool) x0], [] => some (x0) | _, _ => none
def m61c62 (a39c62 : Y39c62) (N : Nat) (s0 : List Tr) : Option (Bool) :=
   (a39c62 s0).bind fun r1 =>
   some (decide (r1 ≥ (0 : Int)))
theorem k61c62 (a39c62 : Y39c62) (N : Nat) (s0 : List Tr) : callF (E61c62 a39c62) lv61c62 N en61c62 c61c62 (resOf Tryz.f61) 7 [.dv (.sl (.pair (.int .i64) (.pair (.int .i64) (.unit)))) s0, .fn 62 0 0 fun i => ([] : List TV).getD i .any] [] dec61c62 = m61c62 a39c62 N s0 := by kernel_rfl
theorem ok61c62 (a39c62 : Y39c62) (h39c62 : FnOk Tryz.prog 39 (F39c62 a39c62)) (a : Y61c62) (h : ∀ s0 r, a s0 = some r → (∃ N, m61c62 a39c62 N s0 = some r)) : FnOk Tryz.prog 61 (F61c62 a) := by
 intro args Of x hx
 simp only [F61c62] at hx
 split at hx
 ·rename_i s0 f_0 heqc
  have hc0 := congrArg (fun c : List (List TV) => c.getD 0 []) heqc
  obtain ⟨N, hN⟩ := h _ _ hx
  refine HSpec.etaL (args := [.dv (.sl (.pair (.int .i64) (.pair (.int .i64) (.unit)))) s0, .fn 62 0 0 fun i => ([] : List TV).getD i .any]) (O := []) ⟨TV.sim_refl _, TV.sim_fn hc0, trivial⟩ trivial (lifted (L := [(39, F39c62 a39c62)]) (rc := nrc) (fz := nfz) (fn := Tryz.f61) (by kernel_rfl) (by kernel_rfl) (by kernel_rfl) (by kernel_rfl) rfl ?_ ((k61c62 a39c62 N _).trans hN) ?_)
  ·intro p hp; simp only [List.mem_cons, List.not_mem_nil, or_false] at hp; rcases hp with rfl; exact h39c62
  ·intro l o hd
   simp only [dec61c62] at hd
   split at hd
   ·obtain rfl := Option.some.inj hd; exact ⟨rfl, rfl⟩
   ·cases hd
 ·cases hx
def E33 (a61c62 : Y61c62) : Env := mkE TI TY [(61, F61c62 a61c62)] nrc nfz
noncomputable def c33 : Code := bodyOf Tryz.f33
def lv33 : Nat → Option Norm := norms []
def en33 : End := ⟨[], ⟨[14], [], [], []⟩⟩
def dec33 (l : List TV) (o : List (Nat × TO)) : Option (Int) := match l, o with | [.dv (.int .i64) x0], [] => some (x0) | _, _ => none
def m33 (a61c62 : Y61c62) (N : Nat) (lx0 : List Tr) : Option (Int) :=
   cond ((lx0.length : Int) == (0 : Int)) (some (1 : Int))
   (cond (decide ((lx0.length : Int) > (12 : Int))) (some (2 : Int))
   ((a61c62 lx0).bind fun r1 =>
   cond (r1) (some (4 : Int))
   (some (0 : Int))))
theorem k33 (a61c62 : Y61c62) (N : Nat) (lx0 : List Tr) : callF (E33 a61c62) lv33 N en33 c33 (resOf Tryz.f33) 13 [.dv (.sl (.pair (.int .i64) (.pair (.int .i64) (.unit)))) lx0] [] dec33 = m33 a61c62 N lx0 := by kernel_rfl
theorem ok33 (a61c62 : Y61c62) (h61c62 : FnOk Tryz.prog 61 (F61c62 a61c62)) (a : Y33) (h : ∀ lx0 r, a lx0 = some r → (∃ N, m33 a61c62 N lx0 = some r)) : FnOk Tryz.prog 33 (F33 a) := by
 intro args Of x hx
 simp only [F33] at hx
 split at hx
 ·rename_i lx0
  obtain ⟨N, hN⟩ := h _ _ hx
  refine lifted (L := [(61, F61c62 a61c62)]) (rc := nrc) (fz := nfz) (fn := Tryz.f33) (by kernel_rfl) (by kernel_rfl) (by kernel_rfl) (by kernel_rfl) rfl ?_ ((k33 a61c62 N _).trans hN) ?_
  ·intro p hp; simp only [List.mem_cons, List.not_mem_nil, or_false] at hp; rcases hp with rfl; exact h61c62
  ·intro l o hd
   simp only [dec33] at hd
   split at hd
   ·obtain rfl := Option.some.inj hd; exact ⟨rfl, rfl⟩
   ·cases hd
 ·cases hx
def E85 : Env := mkE TI TY [] nrc nfz
noncomputable def c85 : Code := bodyOf Tryz.f85
def lv85 : Nat → Option Norm := norms []
def en85 : End := ⟨[], ⟨[6], [], [], []⟩⟩
def dec85 (l : List TV) (o : List (Nat × TO)) : Option (Bool) := match l, o with | [.dv (.bool) x0], [] => some (x0) | _, _ => none
def m85 (N : Nat) (x0 : Int) : Option (Bool) :=
   some (x0 != x0)
theorem k85 (N : Nat) (x0 : Int) : callF (E85) lv85 N en85 c85 (resOf Tryz.f85) 5 [.dv (.int .i64) x0] [] dec85 = m85 N x0 := by kernel_rfl
theorem ok85 (a : Y85) (h : ∀ x0 r, a x0 = some r → (∃ N, m85 N x0 = some r)) : FnOk Tryz.prog 85 (F85 a) := by
 intro args Of x hx
 simp only [F85] at hx
 split at hx
 ·rename_i x0
  obtain ⟨N, hN⟩ := h _ _ hx
  refine lifted (L := []) (rc := nrc) (fz := nfz) (fn := Tryz.f85) (by kernel_rfl) (by kernel_rfl) (by kernel_rfl) (by kernel_rfl) rfl ?_ ((k85 N _).trans hN) ?_
  ·intro p hp; cases hp
  ·intro l o hd
   simp only [dec85] at hd
   split at hd
   ·obtain rfl := Option.some.inj hd; exact ⟨rfl, rfl⟩
   ·cases hd
 ·cases hx
def E65 (a85 : Y85) : Env := mkE TI TY [(85, F85 a85)] nrc nfz
noncomputable def c65 : Code := bodyOf Tryz.f65
def lv65 : Nat → Option Norm := norms []
def en65 : End := ⟨[], ⟨[20], [], [], []⟩⟩
def dec65 (l : List TV) (o : List (Nat × TO)) : Option (Int) := match l, o with | [.dv (.int .i64) x0], [] => some (x0) | _, _ => none
def m65 (a85 : Y85) (N : Nat) (x0 : Int) (y1 : Int) : Option (Int) :=
   (a85 x0).bind fun r1 =>
   (a85 y1).bind fun r2 =>
   cond (r1) (cond (r2) (some (0 : Int))
   (some (-1 : Int)))
   (cond (r2) (some (1 : Int))
   (cond (decide (x0 < y1)) (some (-1 : Int))
   (cond (decide (x0 > y1)) (some (1 : Int))
   (some (0 : Int)))))
theorem k65 (a85 : Y85) (N : Nat) (x0 : Int) (y1 : Int) : callF (E65 a85) lv65 N en65 c65 (resOf Tryz.f65) 18 [.dv (.int .i64) x0, .dv (.int .i64) y1] [] dec65 = m65 a85 N x0 y1 := by kernel_rfl
theorem ok65 (a85 : Y85) (h85 : FnOk Tryz.prog 85 (F85 a85)) (a : Y65) (h : ∀ x0 y1 r, a x0 y1 = some r → (∃ N, m65 a85 N x0 y1 = some r)) : FnOk Tryz.prog 65 (F65 a) := by
 intro args Of x hx
 simp only [F65] at hx
 split at hx
 ·rename_i x0 y1
  obtain ⟨N, hN⟩ := h _ _ _ hx
  refine lifted (L := [(85, F85 a85)]) (rc := nrc) (fz := nfz) (fn := Tryz.f65) (by kernel_rfl) (by kernel_rfl) (by kernel_rfl) (by kernel_rfl) rfl ?_ ((k65 a85 N _ _).trans hN) ?_
  ·intro p hp; simp only [List.mem_cons, List.not_mem_nil, or_false] at hp; rcases hp with rfl; exact h85
  ·intro l o hd
   simp only [dec65] at hd
   split at hd
   ·obtain rfl := Option.some.inj hd; exact ⟨rfl, rfl⟩
   ·cases hd
 ·cases hx
def E64 (a65 : Y65) : Env := mkE TI TY [(65, F65 a65)] nrc nfz
noncomputable def c64 : Code := bodyOf Tryz.f64
def lv64 : Nat → Option Norm := norms []
def en64 : End := ⟨[], ⟨[10], [], [], []⟩⟩
def dec64 (l : List TV) (o : List (Nat × TO)) : Option (Int) := match l, o with | [.dv (.int .i64) x0], [] => some (x0) | _, _ => none
def m64 (a65 : Y65) (N : Nat) (ax0 : Int × Int × Unit) (b1 : Int × Int × Unit) : Option (Int) :=
   (a65 ax0.2.1 b1.2.1).bind fun r1 =>
   some r1
theorem k64 (a65 : Y65) (N : Nat) (ax0 : Int × Int × Unit) (b1 : Int × Int × Unit) : callF (E64 a65) lv64 N en64 c64 (resOf Tryz.f64) 8 [.dv (.pair (.int .i64) (.pair (.int .i64) (.unit))) ax0, .dv (.pair (.int .i64) (.pair (.int .i64) (.unit))) b1] [] dec64 = m64 a65 N ax0 b1 := by kernel_rfl
theorem ok64 (a65 : Y65) (h65 : FnOk Tryz.prog 65 (F65 a65)) (a : Y64) (h : ∀ ax0 b1 r, a ax0 b1 = some r → (∃ N, m64 a65 N ax0 b1 = some r)) : FnOk Tryz.prog 64 (F64 a) := by
 intro args Of x hx
 simp only [F64] at hx
 split at hx
 ·rename_i ax0 b1
  obtain ⟨N, hN⟩ := h _ _ _ hx
  refine lifted (L := [(65, F65 a65)]) (rc := nrc) (fz := nfz) (fn := Tryz.f64) (by kernel_rfl) (by kernel_rfl) (by kernel_rfl) (by kernel_rfl) rfl ?_ ((k64 a65 N _ _).trans hN) ?_
  ·intro p hp; simp only [List.mem_cons, List.not_mem_nil, or_false] at hp; rcases hp with rfl; exact h65
  ·intro l o hd
   simp only [dec64] at hd
   split at hd
   ·obtain rfl := Option.some.inj hd; exact ⟨rfl, rfl⟩
   ·cases hd
 ·cases hx
def E66c (a64 : Y64) (a86c : Y86c) : Env := mkE TI TY [(64, F64 a64), (86, F86c a86c)] nrc nfz
noncomputable def c66c : Code := bodyOf Tryz.f66
def nm66c_0 : Norm := ⟨[0, 3, 4], [9000, 3, 9001], [], []⟩
def lv66c : Nat → Option Norm := norms [(2, nm66c_0)]
def en66c : End := ⟨[], ⟨[], [9000, 9001], [(.fld 9000 0, 2000, .pair (.int .i64) (.pair (.int .i64) (.unit)))], []⟩⟩
def dec66c (l : List TV) (o : List (Nat × TO)) : Option Tq := match l, o, capsOf l o with | [], [(2000, .row (.pair (.int .i64) (.pair (.int .i64) (.unit))) x0), (9000, .rcd [.row 2000, .fn 64 0 0 _]), (9001, .dead)], [[]] => some (x0) | _, _, _ => none
def Sl66ca (x1 : Int × Int × Unit) (p1 : List Tr) (at4_a : Int) : TS := ⟨slots 42 [(0, .ptr 9000 0 []), (3, .ptr 3 0 []), (4, .dv (.int .i64) at4_a)], [(9000, .rcd [.row 9001, .fn 64 0 0 fun i => ([] : List TV).getD i .any]), (3, .row (.pair (.int .i64) (.pair (.int .i64) (.unit))) ([x1] : List Tr)), (9001, .row (.pair (.int .i64) (.pair (.int .i64) (.unit))) p1)]⟩
noncomputable def K66c_0 (a64 : Y64) (a86c : Y86c) (N : Nat) : Kont Tq := kont (E66c a64 a86c) lv66c N c66c [1, 1, 0, 0] (fin TI en66c (resOf Tryz.f66) dec66c)
noncomputable def R66c_0 (a64 : Y64) (a86c : Y86c) (N : Nat) (m : Nat) : TS → Option Tq := loopK (den (E66c a64 a86c) lv66c N (sub c66c [1, 1, 0, 0, 0])) (TS.norm nm66c_0) (K66c_0 a64 a86c N) m
def l66ca (a64 : Y64) (a86c : Y86c) (N : Nat) (x1 : Int × Int × Unit) (p1 : List Tr) : Nat → Int → Option Tq
 | 0, _ => none
 | n + 1, at4_a => cond (decide (at4_a > (0 : Int))) (chk (decide (0 ≤ w64 (at4_a - (1 : Int)) ∧ w64 (at4_a - (1 : Int)) < (p1.length : Int))) ((a64 (p1.getD ((w64 (at4_a - (1 : Int))).toNat) ((0 : Int), ((0 : Int), ()))) x1).bind fun r1 =>
   cond (decide (r1 < (0 : Int))) ((l66ca a64 a86c N x1 p1 n (w64 (at4_a - (1 : Int)))))
   ((a86c at4_a ([x1] : List Tr) p1).bind fun r2 =>
   some r2)))
   ((a86c at4_a ([x1] : List Tr) p1).bind fun r3 =>
   some r3)
theorem wl66ca (a64 : Y64) (a86c : Y86c) (N : Nat) (x1 : Int × Int × Unit) (p1 : List Tr) (m : Nat) (at4_a : Int) : R66c_0 a64 a86c N (m + 1) (Sl66ca x1 p1 at4_a) = cond (decide (at4_a > (0 : Int))) (chk (decide (0 ≤ w64 (at4_a - (1 : Int)) ∧ w64 (at4_a - (1 : Int)) < (p1.length : Int))) ((a64 (p1.getD ((w64 (at4_a - (1 : Int))).toNat) ((0 : Int), ((0 : Int), ()))) x1).bind fun r1 =>
   cond (decide (r1 < (0 : Int))) ((R66c_0 a64 a86c N m (Sl66ca x1 p1 (w64 (at4_a - (1 : Int))))))
   ((a86c at4_a ([x1] : List Tr) p1).bind fun r2 =>
   some r2)))
   ((a86c at4_a ([x1] : List Tr) p1).bind fun r3 =>
   some r3) := by kernel_rfl
theorem ql66ca (a64 : Y64) (a86c : Y86c) (N : Nat) (x1 : Int × Int × Unit) (p1 : List Tr) : ∀ (m : Nat) (at4_a : Int), R66c_0 a64 a86c N m (Sl66ca x1 p1 at4_a) = l66ca a64 a86c N x1 p1 m at4_a
        | 0, _ => rfl
        | m + 1, at4_a => by rw [wl66ca]; simp only [l66ca, ql66ca a64 a86c N x1 p1 m]
def m66c (a64 : Y64) (a86c : Y86c) (N : Nat) (x1 : Int × Int × Unit) (p1 : List Tr) : Option Tq :=
   (l66ca a64 a86c N x1 p1 N (p1.length : Int))
theorem wm66c (a64 : Y64) (a86c : Y86c) (N : Nat) (x1 : Int × Int × Unit) (p1 : List Tr) : callF (E66c a64 a86c) lv66c N en66c c66c (resOf Tryz.f66) 40 [.ptr 9000 0 [], .dv (.pair (.int .i64) (.pair (.int .i64) (.unit))) x1] [(9000, .rcd [.row 9001, .fn 64 0 0 fun i => ([] : List TV).getD i .any]), (9001, .row (.pair (.int .i64) (.pair (.int .i64) (.unit))) p1)] dec66c = (R66c_0 a64 a86c N N (Sl66ca x1 p1 (p1.length : Int))) := by kernel_rfl
theorem k66c (a64 : Y64) (a86c : Y86c) (N : Nat) (x1 : Int × Int × Unit) (p1 : List Tr) : callF (E66c a64 a86c) lv66c N en66c c66c (resOf Tryz.f66) 40 [.ptr 9000 0 [], .dv (.pair (.int .i64) (.pair (.int .i64) (.unit))) x1] [(9000, .rcd [.row 9001, .fn 64 0 0 fun i => ([] : List TV).getD i .any]), (9001, .row (.pair (.int .i64) (.pair (.int .i64) (.unit))) p1)] dec66c = m66c a64 a86c N x1 p1 := by rw [wm66c]; simp only [m66c, ql66ca]
theorem ok66c (a64 : Y64) (a86c : Y86c) (h64 : FnOk Tryz.prog 64 (F64 a64)) (h86c : FnOk Tryz.prog 86 (F86c a86c)) (a : Y66c) (h : ∀ x1 p1 r, a x1 p1 = some r → (∃ N, m66c a64 a86c N x1 p1 = some r)) : FnOk Tryz.prog 66 (F66c a) := by
 intro args Of x hx
 simp only [F66c] at hx
 split at hx
 ·rename_i x1 f_0 p1 heqc
  have hc0 := congrArg (fun c : List (List TV) => c.getD 0 []) heqc
  obtain ⟨N, hN⟩ := h _ _ _ hx
  refine HSpec.etaL (args := [.ptr 9000 0 [], .dv (.pair (.int .i64) (.pair (.int .i64) (.unit))) x1]) (O := [(9000, .rcd [.row 9001, .fn 64 0 0 fun i => ([] : List TV).getD i .any]), (9001, .row (.pair (.int .i64) (.pair (.int .i64) (.unit))) p1)]) ⟨TV.sim_refl _, TV.sim_refl _, trivial⟩ ⟨rfl, TO.sim_rcd ⟨TV.sim_refl _, TV.sim_fn hc0, trivial⟩, rfl, TO.sim_refl _, trivial⟩ (liftedS (L := [(64, F64 a64), (86, F86c a86c)]) (rc := nrc) (fz := nfz) (fn := Tryz.f66) (by kernel_rfl) (by kernel_rfl) (by kernel_rfl) (by kernel_rfl) rfl ?_ ((k66c a64 a86c N _ _).trans hN) ?_)
  ·intro p hp; simp only [List.mem_cons, List.not_mem_nil, or_false] at hp; rcases hp with rfl | rfl
   ·exact h64
   ·exact h86c
  ·intro l o hd
   simp only [dec66c] at hd
   split at hd
   ·rename_i heqd
    have hd0 := congrArg (fun c : List (List TV) => c.getD 0 []) heqd
    obtain rfl := Option.some.inj hd; exact ⟨TV.sim_refl _, ⟨rfl, TO.sim_refl _, rfl, TO.sim_rcd ⟨TV.sim_refl _, TV.sim_symm (TV.sim_fn hd0), trivial⟩, rfl, TO.sim_refl _, trivial⟩⟩
   ·cases hd
 ·cases hx
def E67c : Env := mkE TI TY [] nrc (fun i => ([22] : List Nat).contains i)
noncomputable def c67c : Code := bodyOf Tryz.f67
def lv67c : Nat → Option Norm := norms []
def en67c : End := ⟨[(26, .pair (.int .i64) (.pair (.int .i64) (.unit)))], ⟨[26, 27], [9000, 9001], [(.fld 9000 0, 2000, .pair (.int .i64) (.pair (.int .i64) (.unit)))], []⟩⟩
def dec67c (l : List TV) (o : List (Nat × TO)) : Option (Tr × Bool × List Tr) := match l, o, capsOf l o with | [.dv (.pair (.int .i64) (.pair (.int .i64) (.unit))) x0, .dv (.bool) x1], [(2000, .row (.pair (.int .i64) (.pair (.int .i64) (.unit))) x2), (9000, .rcd [.row 2000, .fn 64 0 0 _]), (9001, .dead)], [[]] => some (x0, x1, x2) | _, _, _ => none
def m67c (N : Nat) (p0 : List Tr) : Option (Tr × Bool × List Tr) :=
   cond ((p0.length : Int) == (0 : Int)) (some (((0 : Int), ((0 : Int), ())), false, p0))
   (chk (decide (0 ≤ (0 : Int) ∧ (0 : Int) < (p0.length : Int))) (chk (decide (0 ≤ (1 : Int) ∧ (1 : Int) ≤ (p0.length : Int))) (some (p0.getD 0 ((0 : Int), ((0 : Int), ())), true, p0.drop 1))))
theorem k67c (N : Nat) (p0 : List Tr) : callF (E67c) lv67c N en67c c67c (resOf Tryz.f67) 25 [.ptr 9000 0 []] [(9000, .rcd [.row 9001, .fn 64 0 0 fun i => ([] : List TV).getD i .any]), (9001, .row (.pair (.int .i64) (.pair (.int .i64) (.unit))) p0)] dec67c = m67c N p0 := by kernel_rfl
theorem ok67c (a : Y67c) (h : ∀ p0 r, a p0 = some r → (∃ N, m67c N p0 = some r)) : FnOk Tryz.prog 67 (F67c a) := by
 intro args Of x hx
 simp only [F67c] at hx
 split at hx
 ·rename_i f_0 p0 heqc
  have hc0 := congrArg (fun c : List (List TV) => c.getD 0 []) heqc
  obtain ⟨N, hN⟩ := h _ _ hx
  refine HSpec.etaL (args := [.ptr 9000 0 []]) (O := [(9000, .rcd [.row 9001, .fn 64 0 0 fun i => ([] : List TV).getD i .any]), (9001, .row (.pair (.int .i64) (.pair (.int .i64) (.unit))) p0)]) ⟨TV.sim_refl _, trivial⟩ ⟨rfl, TO.sim_rcd ⟨TV.sim_refl _, TV.sim_fn hc0, trivial⟩, rfl, TO.sim_refl _, trivial⟩ (liftedS (L := []) (rc := nrc) (fz := (fun i => ([22] : List Nat).contains i)) (fn := Tryz.f67) (by kernel_rfl) (by kernel_rfl) (by kernel_rfl) (by kernel_rfl) rfl ?_ ((k67c N _).trans hN) ?_)
  ·intro p hp; cases hp
  ·intro l o hd
   simp only [dec67c] at hd
   split at hd
   ·rename_i heqd
    have hd0 := congrArg (fun c : List (List TV) => c.getD 0 []) heqd
    obtain rfl := Option.some.inj hd; exact ⟨TV.sim_refl _, ⟨rfl, TO.sim_refl _, rfl, TO.sim_rcd ⟨TV.sim_refl _, TV.sim_symm (TV.sim_fn hd0), trivial⟩, rfl, TO.sim_refl _, trivial⟩⟩
   ·cases hd
 ·cases hx
def E36 (a66c : Y66c) (a67c : Y67c) : Env := mkE TI TY [(66, F66c a66c), (67, F67c a67c)] (fun i => ([(29, [none, none]), (28, [none, none])] : List (Nat × List (Option DT))).lookup i) nfz
noncomputable def c36 : Code := bodyOf Tryz.f36
def nm36_0 : Norm := ⟨[0, 3, 4, 13, 14, 15], [], [], []⟩
def nm36_1 : Norm := ⟨[0, 3, 4, 7, 30, 31], [29], [(.fld 29 0, 2100, .pair (.int .i64) (.pair (.int .i64) (.unit)))], []⟩
def nm36_2 : Norm := ⟨[0, 3, 4, 7, 8, 30, 31, 34, 35, 36], [29], [(.fld 29 0, 2100, .pair (.int .i64) (.pair (.int .i64) (.unit)))], []⟩
def lv36 : Nat → Option Norm := norms [(3, nm36_0), (9, nm36_1), (12, nm36_2)]
def en36 : End := ⟨[], ⟨[62], [], [], []⟩⟩
def dec36 (l : List TV) (o : List (Nat × TO)) : Option (Int) := match l, o with | [.dv (.int .i64) x0], [] => some (x0) | _, _ => none
def Sl36c (lx0 : List Tr) (last3_a : Int) (n4_b : Int) (t31_b : Int) (t36_c : Int) (o2100_c : List Tr) : TS := ⟨slots 62 [(0, .dv (.sl (.pair (.int .i64) (.pair (.int .i64) (.unit)))) lx0), (3, .dv (.int .i64) last3_a), (4, .dv (.int .i64) n4_b), (7, .ptr 29 0 []), (8, .dv (.int .i64) t31_b), (30, .dv (.int .i64) last3_a), (31, .dv (.int .i64) t31_b), (34, .dv (.sl (.pair (.int .i64) (.pair (.int .i64) (.unit)))) lx0), (35, .dv (.int .i64) (lx0.length : Int)), (36, .dv (.int .i64) t36_c)], [(2100, .row (.pair (.int .i64) (.pair (.int .i64) (.unit))) o2100_c), (29, .rcd [.row 2100, .fn 64 0 0 fun i => ([] : List TV).getD i .any])]⟩
def Sl36b (lx0 : List Tr) (last3_a : Int) (n4_b : Int) (t31_b : Int) (o2100_b : List Tr) : TS := ⟨slots 62 [(0, .dv (.sl (.pair (.int .i64) (.pair (.int .i64) (.unit)))) lx0), (3, .dv (.int .i64) last3_a), (4, .dv (.int .i64) n4_b), (7, .ptr 29 0 []), (30, .dv (.int .i64) last3_a), (31, .dv (.int .i64) t31_b)], [(2100, .row (.pair (.int .i64) (.pair (.int .i64) (.unit))) o2100_b), (29, .rcd [.row 2100, .fn 64 0 0 fun i => ([] : List TV).getD i .any])]⟩
def Sl36a (lx0 : List Tr) (last3_a : Int) (n4_a : Int) (t15_a : Int) : TS := ⟨slots 62 [(0, .dv (.sl (.pair (.int .i64) (.pair (.int .i64) (.unit)))) lx0), (3, .dv (.int .i64) last3_a), (4, .dv (.int .i64) n4_a), (13, .dv (.sl (.pair (.int .i64) (.pair (.int .i64) (.unit)))) lx0), (14, .dv (.int .i64) (lx0.length : Int)), (15, .dv (.int .i64) t15_a)], []⟩
noncomputable def K36_0 (a66c : Y66c) (a67c : Y67c) (N : Nat) : Kont (Int) := kont (E36 a66c a67c) lv36 N c36 [1, 1, 0, 1, 0] (fin TI en36 (resOf Tryz.f36) dec36)
noncomputable def R36_0 (a66c : Y66c) (a67c : Y67c) (N : Nat) (m : Nat) : TS → Option (Int) := loopK (den (E36 a66c a67c) lv36 N (sub c36 [1, 1, 0, 1, 0, 0])) (TS.norm nm36_0) (K36_0 a66c a67c N) m
noncomputable def K36_1 (a66c : Y66c) (a67c : Y67c) (N : Nat) : Kont (Int) := kont (E36 a66c a67c) lv36 N c36 [1, 1, 1, 1, 0, 1, 0] (fin TI en36 (resOf Tryz.f36) dec36)
noncomputable def R36_1 (a66c : Y66c) (a67c : Y67c) (N : Nat) (m : Nat) : TS → Option (Int) := loopK (den (E36 a66c a67c) lv36 N (sub c36 [1, 1, 1, 1, 0, 1, 0, 0])) (TS.norm nm36_1) (K36_1 a66c a67c N) m
noncomputable def K36_2 (a66c : Y66c) (a67c : Y67c) (N : Nat) (T36_1 : TS → Option (Int)) : Kont (Int) := kont (E36 a66c a67c) lv36 N (sub c36 [1, 1, 1, 1, 0, 1, 0, 0]) [1, 1, 0, 0, 1, 0, 1, 0] (kloop (TS.norm nm36_1) (K36_1 a66c a67c N) T36_1)
noncomputable def R36_2 (a66c : Y66c) (a67c : Y67c) (N : Nat) (T36_1 : TS → Option (Int)) (m : Nat) : TS → Option (Int) := loopK (den (E36 a66c a67c) lv36 N (sub c36 [1, 1, 1, 1, 0, 1, 0, 0, 1, 1, 0, 0, 1, 0, 1, 0, 0])) (TS.norm nm36_2) (K36_2 a66c a67c N T36_1) m
def l36c (a66c : Y66c) (a67c : Y67c) (N : Nat) (lx0 : List Tr) (last3_a : Int) (n4_b : Int) (t31_b : Int) (rec_l36b : Int → Int → Tq → Option (Int)) : Nat → Int → Tq → Option (Int)
 | 0, _, _ => none
 | n + 1, t36_c, o2100_c => cond (decide (t36_c < (lx0.length : Int))) (chk (decide (0 ≤ t36_c ∧ t36_c < (lx0.length : Int))) (cond (((lx0.getD t36_c.toNat ((0 : Int), ((0 : Int), ()))).1) == (w64 (last3_a - t31_b))) ((a66c (lx0.getD t36_c.toNat ((0 : Int), ((0 : Int), ()))) o2100_c).bind fun r1 =>
   (l36c a66c a67c N lx0 last3_a n4_b t31_b rec_l36b n (w64 (t36_c + (1 : Int))) r1))
   ((l36c a66c a67c N lx0 last3_a n4_b t31_b rec_l36b n (w64 (t36_c + (1 : Int))) o2100_c))))
   ((a67c o2100_c).bind fun r2 =>
   cond (r2.2.1) ((rec_l36b (w64 (n4_b - r2.1.2.1)) (w64 (t31_b + (1 : Int))) r2.2.2))
   ((rec_l36b n4_b (w64 (t31_b + (1 : Int))) r2.2.2)))
theorem wl36c (a66c : Y66c) (a67c : Y67c) (N : Nat) (lx0 : List Tr) (last3_a : Int) (n4_b : Int) (t31_b : Int) (T36_1 : TS → Option (Int)) (m : Nat) (t36_c : Int) (o2100_c : List Tr) : R36_2 a66c a67c N T36_1 (m + 1) (Sl36c lx0 last3_a n4_b t31_b t36_c o2100_c) = cond (decide (t36_c < (lx0.length : Int))) (chk (decide (0 ≤ t36_c ∧ t36_c < (lx0.length : Int))) (cond (((lx0.getD t36_c.toNat ((0 : Int), ((0 : Int), ()))).1) == (w64 (last3_a - t31_b))) ((a66c (lx0.getD t36_c.toNat ((0 : Int), ((0 : Int), ()))) o2100_c).bind fun r1 =>
   (R36_2 a66c a67c N T36_1 m (Sl36c lx0 last3_a n4_b t31_b (w64 (t36_c + (1 : Int))) r1)))
   ((R36_2 a66c a67c N T36_1 m (Sl36c lx0 last3_a n4_b t31_b (w64 (t36_c + (1 : Int))) o2100_c)))))
   ((a67c o2100_c).bind fun r2 =>
   cond (r2.2.1) ((T36_1 (Sl36b lx0 last3_a (w64 (n4_b - r2.1.2.1)) (w64 (t31_b + (1 : Int))) r2.2.2)))
   ((T36_1 (Sl36b lx0 last3_a n4_b (w64 (t31_b + (1 : Int))) r2.2.2)))) := by kernel_rfl
theorem ql36c (a66c : Y66c) (a67c : Y67c) (N : Nat) (lx0 : List Tr) (last3_a : Int) (n4_b : Int) (t31_b : Int) (T36_1 : TS → Option (Int)) : ∀ (m : Nat) (t36_c : Int) (o2100_c : List Tr), R36_2 a66c a67c N T36_1 m (Sl36c lx0 last3_a n4_b t31_b t36_c o2100_c) = l36c a66c a67c N lx0 last3_a n4_b t31_b (fun y0 y1 y2 => T36_1 (Sl36b lx0 last3_a y0 y1 y2)) m t36_c o2100_c
        | 0, _, _ => rfl
        | m + 1, t36_c, o2100_c => by rw [wl36c]; simp only [l36c, ql36c a66c a67c N lx0 last3_a n4_b t31_b T36_1 m]
def l36b (a66c : Y66c) (a67c : Y67c) (N : Nat) (lx0 : List Tr) (last3_a : Int) : Nat → Int → Int → Tq → Option (Int)
 | 0, _, _, _ => none
 | n + 1, n4_b, t31_b, o2100_b => cond (decide (t31_b < last3_a)) ((l36c a66c a67c N lx0 last3_a n4_b t31_b (fun y0 y1 y2 => (l36b a66c a67c N lx0 last3_a n y0 y1 y2)) N (0 : Int) o2100_b))
   (some n4_b)
theorem wl36b (a66c : Y66c) (a67c : Y67c) (N : Nat) (lx0 : List Tr) (last3_a : Int) (m : Nat) (n4_b : Int) (t31_b : Int) (o2100_b : List Tr) : R36_1 a66c a67c N (m + 1) (Sl36b lx0 last3_a n4_b t31_b o2100_b) = cond (decide (t31_b < last3_a)) ((R36_2 a66c a67c N (R36_1 a66c a67c N m) N (Sl36c lx0 last3_a n4_b t31_b (0 : Int) o2100_b)))
   (some n4_b) := by kernel_rfl
theorem ql36b (a66c : Y66c) (a67c : Y67c) (N : Nat) (lx0 : List Tr) (last3_a : Int) : ∀ (m : Nat) (n4_b : Int) (t31_b : Int) (o2100_b : List Tr), R36_1 a66c a67c N m (Sl36b lx0 last3_a n4_b t31_b o2100_b) = l36b a66c a67c N lx0 last3_a m n4_b t31_b o2100_b
        | 0, _, _, _ => rfl
        | m + 1, n4_b, t31_b, o2100_b => by rw [wl36b]; simp only [l36b, ql36c, ql36b a66c a67c N lx0 last3_a m]
def l36a (a66c : Y66c) (a67c : Y67c) (N : Nat) (lx0 : List Tr) : Nat → Int → Int → Int → Option (Int)
 | 0, _, _, _ => none
 | n + 1, last3_a, n4_a, t15_a => cond (decide (t15_a < (lx0.length : Int))) (chk (decide (0 ≤ t15_a ∧ t15_a < (lx0.length : Int))) ((l36a a66c a67c N lx0 n (imax last3_a ((lx0.getD t15_a.toNat ((0 : Int), ((0 : Int), ()))).1)) (w64 (n4_a + (((lx0.getD t15_a.toNat ((0 : Int), ((0 : Int), ()))).2).1))) (w64 (t15_a + (1 : Int))))))
   ((l36b a66c a67c N lx0 last3_a N n4_a (0 : Int) ([] : List Tr)))
theorem wl36a (a66c : Y66c) (a67c : Y67c) (N : Nat) (lx0 : List Tr) (m : Nat) (last3_a : Int) (n4_a : Int) (t15_a : Int) : R36_0 a66c a67c N (m + 1) (Sl36a lx0 last3_a n4_a t15_a) = cond (decide (t15_a < (lx0.length : Int))) (chk (decide (0 ≤ t15_a ∧ t15_a < (lx0.length : Int))) ((R36_0 a66c a67c N m (Sl36a lx0 (imax last3_a ((lx0.getD t15_a.toNat ((0 : Int), ((0 : Int), ()))).1)) (w64 (n4_a + (((lx0.getD t15_a.toNat ((0 : Int), ((0 : Int), ()))).2).1))) (w64 (t15_a + (1 : Int)))))))
   ((R36_1 a66c a67c N N (Sl36b lx0 last3_a n4_a (0 : Int) ([] : List Tr)))) := by kernel_rfl
theorem ql36a (a66c : Y66c) (a67c : Y67c) (N : Nat) (lx0 : List Tr) : ∀ (m : Nat) (last3_a : Int) (n4_a : Int) (t15_a : Int), R36_0 a66c a67c N m (Sl36a lx0 last3_a n4_a t15_a) = l36a a66c a67c N lx0 m last3_a n4_a t15_a
        | 0, _, _, _ => rfl
        | m + 1, last3_a, n4_a, t15_a => by rw [wl36a]; simp only [l36a, ql36b, ql36a a66c a67c N lx0 m]
def m36 (a66c : Y66c) (a67c : Y67c) (N : Nat) (lx0 : List Tr) : Option (Int) :=
   (l36a a66c a67c N lx0 N (0 : Int) (0 : Int) (0 : Int))
theorem wm36 (a66c : Y66c) (a67c : Y67c) (N : Nat) (lx0 : List Tr) : callF (E36 a66c a67c) lv36 N en36 c36 (resOf Tryz.f36) 61 [.dv (.sl (.pair (.int .i64) (.pair (.int .i64) (.unit)))) lx0] [] dec36 = (R36_0 a66c a67c N N (Sl36a lx0 (0 : Int) (0 : Int) (0 : Int))) := by kernel_rfl
theorem k36 (a66c : Y66c) (a67c : Y67c) (N : Nat) (lx0 : List Tr) : callF (E36 a66c a67c) lv36 N en36 c36 (resOf Tryz.f36) 61 [.dv (.sl (.pair (.int .i64) (.pair (.int .i64) (.unit)))) lx0] [] dec36 = m36 a66c a67c N lx0 := by rw [wm36]; simp only [m36, ql36a]
theorem ok36 (a66c : Y66c) (a67c : Y67c) (h66c : FnOk Tryz.prog 66 (F66c a66c)) (h67c : FnOk Tryz.prog 67 (F67c a67c)) (a : Y36) (h : ∀ lx0 r, a lx0 = some r → (∃ N, m36 a66c a67c N lx0 = some r)) : FnOk Tryz.prog 36 (F36 a) := by
 intro args Of x hx
 simp only [F36] at hx
 split at hx
 ·rename_i lx0
  obtain ⟨N, hN⟩ := h _ _ hx
  refine lifted (L := [(66, F66c a66c), (67, F67c a67c)]) (rc := (fun i => ([(29, [none, none]), (28, [none, none])] : List (Nat × List (Option DT))).lookup i)) (fz := nfz) (fn := Tryz.f36) (by kernel_rfl) (by kernel_rfl) (by kernel_rfl) (by kernel_rfl) rfl ?_ ((k36 a66c a67c N _).trans hN) ?_
  ·intro p hp; simp only [List.mem_cons, List.not_mem_nil, or_false] at hp; rcases hp with rfl | rfl
   ·exact h66c
   ·exact h67c
  ·intro l o hd
   simp only [dec36] at hd
   split at hd
   ·obtain rfl := Option.some.inj hd; exact ⟨rfl, rfl⟩
   ·cases hd
 ·cases hx
def E10 (a33 : Y33) (a36 : Y36) : Env := mkE TI TY [(33, F33 a33), (36, F36 a36)] nrc nfz
noncomputable def c10 : Code := bodyOf Tryz.f10
def lv10 : Nat → Option Norm := norms []
def en10 : End := ⟨[], ⟨[12, 13], [], [], []⟩⟩
def dec10 (l : List TV) (o : List (Nat × TO)) : Option (Int × Int) := match l, o with | [.dv (.int .i64) x0, .dv (.int .i64) x1], [] => some (x0, x1) | _, _ => none
def m10 (a33 : Y33) (a36 : Y36) (N : Nat) (lx0 : List Tr) : Option (Int × Int) :=
   (a33 lx0).bind fun r1 =>
   cond (r1 != (0 : Int)) (some ((0 : Int), r1))
   ((a36 lx0).bind fun r2 =>
   some (r2, (0 : Int)))
theorem k10 (a33 : Y33) (a36 : Y36) (N : Nat) (lx0 : List Tr) : callF (E10 a33 a36) lv10 N en10 c10 (resOf Tryz.f10) 11 [.dv (.sl (.pair (.int .i64) (.pair (.int .i64) (.unit)))) lx0] [] dec10 = m10 a33 a36 N lx0 := by kernel_rfl
theorem ok10 (a33 : Y33) (a36 : Y36) (h33 : FnOk Tryz.prog 33 (F33 a33)) (h36 : FnOk Tryz.prog 36 (F36 a36)) (a : Y10) (h : ∀ lx0 r, a lx0 = some r → (∃ N, m10 a33 a36 N lx0 = some r)) : FnOk Tryz.prog 10 (F10 a) := by
 intro args Of x hx
 simp only [F10] at hx
 split at hx
 ·rename_i lx0
  obtain ⟨N, hN⟩ := h _ _ hx
  refine lifted (L := [(33, F33 a33), (36, F36 a36)]) (rc := nrc) (fz := nfz) (fn := Tryz.f10) (by kernel_rfl) (by kernel_rfl) (by kernel_rfl) (by kernel_rfl) rfl ?_ ((k10 a33 a36 N _).trans hN) ?_
  ·intro p hp; simp only [List.mem_cons, List.not_mem_nil, or_false] at hp; rcases hp with rfl | rfl
   ·exact h33
   ·exact h36
  ·intro l o hd
   simp only [dec10] at hd
   split at hd
   ·obtain rfl := Option.some.inj hd; exact ⟨rfl, rfl⟩
   ·cases hd
 ·cases hx
def E63 : Env := mkE TI TY [] nrc nfz
noncomputable def c63 : Code := bodyOf Tryz.f63
def nm63_0 : Norm := ⟨[0, 1, 7, 8], [], [], []⟩
def lv63 : Nat → Option Norm := norms [(2, nm63_0)]
def en63 : End := ⟨[], ⟨[19], [], [], []⟩⟩
def dec63 (l : List TV) (o : List (Nat × TO)) : Option (Int) := match l, o with | [.dv (.int .i64) x0], [] => some (x0) | _, _ => none
def Sl63a (s0 : List Int) (v1 : Int) (t8_a : Int) : TS := ⟨slots 19 [(0, .dv (.sl (.int .i64)) s0), (1, .dv (.int .i64) v1), (7, .dv (.int .i64) (s0.length : Int)), (8, .dv (.int .i64) t8_a)], []⟩
noncomputable def K63_0 (N : Nat) : Kont (Int) := kont (E63) lv63 N c63 [1, 0, 1, 0] (fin TI en63 (resOf Tryz.f63) dec63)
noncomputable def R63_0 (N : Nat) (m : Nat) : TS → Option (Int) := loopK (den (E63) lv63 N (sub c63 [1, 0, 1, 0, 0])) (TS.norm nm63_0) (K63_0 N) m
def l63a (N : Nat) (s0 : List Int) (v1 : Int) : Nat → Int → Option (Int)
 | 0, _ => none
 | n + 1, t8_a => cond (decide (t8_a < (s0.length : Int))) (chk (decide (0 ≤ t8_a ∧ t8_a < (s0.length : Int))) (cond (v1 == (s0.getD t8_a.toNat (0 : Int))) (some t8_a)
   ((l63a N s0 v1 n (w64 (t8_a + (1 : Int)))))))
   (some (-1 : Int))
theorem wl63a (N : Nat) (s0 : List Int) (v1 : Int) (m : Nat) (t8_a : Int) : R63_0 N (m + 1) (Sl63a s0 v1 t8_a) = cond (decide (t8_a < (s0.length : Int))) (chk (decide (0 ≤ t8_a ∧ t8_a < (s0.length : Int))) (cond (v1 == (s0.getD t8_a.toNat (0 : Int))) (some t8_a)
   ((R63_0 N m (Sl63a s0 v1 (w64 (t8_a + (1 : Int))))))))
   (some (-1 : Int)) := by kernel_rfl
theorem ql63a (N : Nat) (s0 : List Int) (v1 : Int) : ∀ (m : Nat) (t8_a : Int), R63_0 N m (Sl63a s0 v1 t8_a) = l63a N s0 v1 m t8_a
        | 0, _ => rfl
        | m + 1, t8_a => by rw [wl63a]; simp only [l63a, ql63a N s0 v1 m]
def m63 (N : Nat) (s0 : List Int) (v1 : Int) : Option (Int) :=
   (l63a N s0 v1 N (0 : Int))
theorem wm63 (N : Nat) (s0 : List Int) (v1 : Int) : callF (E63) lv63 N en63 c63 (resOf Tryz.f63) 17 [.dv (.sl (.int .i64)) s0, .dv (.int .i64) v1] [] dec63 = (R63_0 N N (Sl63a s0 v1 (0 : Int))) := by kernel_rfl
theorem k63 (N : Nat) (s0 : List Int) (v1 : Int) : callF (E63) lv63 N en63 c63 (resOf Tryz.f63) 17 [.dv (.sl (.int .i64)) s0, .dv (.int .i64) v1] [] dec63 = m63 N s0 v1 := by rw [wm63]; simp only [m63, ql63a]
theorem ok63 (a : Y63) (h : ∀ s0 v1 r, a s0 v1 = some r → (∃ N, m63 N s0 v1 = some r)) : FnOk Tryz.prog 63 (F63 a) := by
 intro args Of x hx
 simp only [F63] at hx
 split at hx
 ·rename_i s0 v1
  obtain ⟨N, hN⟩ := h _ _ _ hx
  refine lifted (L := []) (rc := nrc) (fz := nfz) (fn := Tryz.f63) (by kernel_rfl) (by kernel_rfl) (by kernel_rfl) (by kernel_rfl) rfl ?_ ((k63 N _ _).trans hN) ?_
  ·intro p hp; cases hp
  ·intro l o hd
   simp only [dec63] at hd
   split at hd
   ·obtain rfl := Option.some.inj hd; exact ⟨rfl, rfl⟩
   ·cases hd
 ·cases hx
def E35 (a63 : Y63) : Env := mkE TI TY [(63, F63 a63)] nrc nfz
noncomputable def c35 : Code := bodyOf Tryz.f35
def lv35 : Nat → Option Norm := norms []
def en35 : End := ⟨[], ⟨[9], [], [], []⟩⟩
def dec35 (l : List TV) (o : List (Nat × TO)) : Option (Bool) := match l, o with | [.dv (.bool) x0], [] => some (x0) | _, _ => none
def m35 (a63 : Y63) (N : Nat) (s0 : List Int) (v1 : Int) : Option (Bool) :=
   (a63 s0 v1).bind fun r1 =>
   some (decide (r1 ≥ (0 : Int)))
theorem k35 (a63 : Y63) (N : Nat) (s0 : List Int) (v1 : Int) : callF (E35 a63) lv35 N en35 c35 (resOf Tryz.f35) 7 [.dv (.sl (.int .i64)) s0, .dv (.int .i64) v1] [] dec35 = m35 a63 N s0 v1 := by kernel_rfl
theorem ok35 (a63 : Y63) (h63 : FnOk Tryz.prog 63 (F63 a63)) (a : Y35) (h : ∀ s0 v1 r, a s0 v1 = some r → (∃ N, m35 a63 N s0 v1 = some r)) : FnOk Tryz.prog 35 (F35 a) := by
 intro args Of x hx
 simp only [F35] at hx
 split at hx
 ·rename_i s0 v1
  obtain ⟨N, hN⟩ := h _ _ _ hx
  refine lifted (L := [(63, F63 a63)]) (rc := nrc) (fz := nfz) (fn := Tryz.f35) (by kernel_rfl) (by kernel_rfl) (by kernel_rfl) (by kernel_rfl) rfl ?_ ((k35 a63 N _ _).trans hN) ?_
  ·intro p hp; simp only [List.mem_cons, List.not_mem_nil, or_false] at hp; rcases hp with rfl; exact h63
  ·intro l o hd
   simp only [dec35] at hd
   split at hd
   ·obtain rfl := Option.some.inj hd; exact ⟨rfl, rfl⟩
   ·cases hd
 ·cases hx
def E9 (a33 : Y33) (a34 : Y34) (a35 : Y35) : Env := mkE TI TY [(33, F33 a33), (34, F34 a34), (35, F35 a35)] nrc nfz
noncomputable def c9 : Code := bodyOf Tryz.f9
def nm9_0 : Norm := ⟨[0, 1, 7, 22, 23, 24], [], [], []⟩
def lv9 : Nat → Option Norm := norms [(8, nm9_0)]
def en9 : End := ⟨[], ⟨[56, 57], [], [], []⟩⟩
def dec9 (l : List TV) (o : List (Nat × TO)) : Option (Int × Int) := match l, o with | [.dv (.int .i64) x0, .dv (.int .i64) x1], [] => some (x0, x1) | _, _ => none
def Sl9a (lx0 : List Tr) (plan1 : List Int) (n7_a : Int) (t24_a : Int) : TS := ⟨slots 56 [(0, .dv (.sl (.pair (.int .i64) (.pair (.int .i64) (.unit)))) lx0), (1, .dv (.sl (.int .i64)) plan1), (7, .dv (.int .i64) n7_a), (22, .dv (.sl (.int .i64)) plan1), (23, .dv (.int .i64) (plan1.length : Int)), (24, .dv (.int .i64) t24_a)], []⟩
noncomputable def K9_0 (a33 : Y33) (a34 : Y34) (a35 : Y35) (N : Nat) : Kont (Int × Int) := kont (E9 a33 a34 a35) lv9 N c9 [1, 1, 1, 1, 0, 1, 0] (fin TI en9 (resOf Tryz.f9) dec9)
noncomputable def R9_0 (a33 : Y33) (a34 : Y34) (a35 : Y35) (N : Nat) (m : Nat) : TS → Option (Int × Int) := loopK (den (E9 a33 a34 a35) lv9 N (sub c9 [1, 1, 1, 1, 0, 1, 0, 0])) (TS.norm nm9_0) (K9_0 a33 a34 a35 N) m
def l9a (a33 : Y33) (a34 : Y34) (a35 : Y35) (N : Nat) (lx0 : List Tr) (plan1 : List Int) : Nat → Int → Int → Option (Int × Int)
 | 0, _, _ => none
 | n + 1, n7_a, t24_a => cond (decide (t24_a < (plan1.length : Int))) (chk (decide (0 ≤ t24_a ∧ t24_a < (plan1.length : Int))) ((a34 (1 : Int) (plan1.getD t24_a.toNat (0 : Int)) (42 : Int)).bind fun r2 =>
   cond (!r2) (some ((0 : Int), (4 : Int)))
   (chk (decide (0 ≤ t24_a ∧ t24_a ≤ (plan1.length : Int))) ((a35 (plan1.take t24_a.toNat) (plan1.getD t24_a.toNat (0 : Int))).bind fun r3 =>
   cond (r3) (some ((0 : Int), (6 : Int)))
   (chk (decide (0 ≤ t24_a ∧ t24_a < (lx0.length : Int))) (cond (decide ((plan1.getD t24_a.toNat (0 : Int)) > ((lx0.getD t24_a.toNat ((0 : Int), ((0 : Int), ()))).1))) (chk (decide (0 ≤ t24_a ∧ t24_a < (lx0.length : Int))) ((l9a a33 a34 a35 N lx0 plan1 n (w64 (n7_a + (((lx0.getD t24_a.toNat ((0 : Int), ((0 : Int), ()))).2).1))) (w64 (t24_a + (1 : Int))))))
   ((l9a a33 a34 a35 N lx0 plan1 n n7_a (w64 (t24_a + (1 : Int)))))))))))
   (some (n7_a, (0 : Int)))
theorem wl9a (a33 : Y33) (a34 : Y34) (a35 : Y35) (N : Nat) (lx0 : List Tr) (plan1 : List Int) (m : Nat) (n7_a : Int) (t24_a : Int) : R9_0 a33 a34 a35 N (m + 1) (Sl9a lx0 plan1 n7_a t24_a) = cond (decide (t24_a < (plan1.length : Int))) (chk (decide (0 ≤ t24_a ∧ t24_a < (plan1.length : Int))) ((a34 (1 : Int) (plan1.getD t24_a.toNat (0 : Int)) (42 : Int)).bind fun r2 =>
   cond (!r2) (some ((0 : Int), (4 : Int)))
   (chk (decide (0 ≤ t24_a ∧ t24_a ≤ (plan1.length : Int))) ((a35 (plan1.take t24_a.toNat) (plan1.getD t24_a.toNat (0 : Int))).bind fun r3 =>
   cond (r3) (some ((0 : Int), (6 : Int)))
   (chk (decide (0 ≤ t24_a ∧ t24_a < (lx0.length : Int))) (cond (decide ((plan1.getD t24_a.toNat (0 : Int)) > ((lx0.getD t24_a.toNat ((0 : Int), ((0 : Int), ()))).1))) (chk (decide (0 ≤ t24_a ∧ t24_a < (lx0.length : Int))) ((R9_0 a33 a34 a35 N m (Sl9a lx0 plan1 (w64 (n7_a + (((lx0.getD t24_a.toNat ((0 : Int), ((0 : Int), ()))).2).1))) (w64 (t24_a + (1 : Int)))))))
   ((R9_0 a33 a34 a35 N m (Sl9a lx0 plan1 n7_a (w64 (t24_a + (1 : Int))))))))))))
   (some (n7_a, (0 : Int))) := by kernel_rfl
theorem ql9a (a33 : Y33) (a34 : Y34) (a35 : Y35) (N : Nat) (lx0 : List Tr) (plan1 : List Int) : ∀ (m : Nat) (n7_a : Int) (t24_a : Int), R9_0 a33 a34 a35 N m (Sl9a lx0 plan1 n7_a t24_a) = l9a a33 a34 a35 N lx0 plan1 m n7_a t24_a
        | 0, _, _ => rfl
        | m + 1, n7_a, t24_a => by rw [wl9a]; simp only [l9a, ql9a a33 a34 a35 N lx0 plan1 m]
def m9 (a33 : Y33) (a34 : Y34) (a35 : Y35) (N : Nat) (lx0 : List Tr) (plan1 : List Int) : Option (Int × Int) :=
   (a33 lx0).bind fun r1 =>
   cond (r1 != (0 : Int)) (some ((0 : Int), r1))
   (cond ((plan1.length : Int) != (lx0.length : Int)) (some ((0 : Int), (3 : Int)))
   ((l9a a33 a34 a35 N lx0 plan1 N (0 : Int) (0 : Int))))
theorem wm9 (a33 : Y33) (a34 : Y34) (a35 : Y35) (N : Nat) (lx0 : List Tr) (plan1 : List Int) : callF (E9 a33 a34 a35) lv9 N en9 c9 (resOf Tryz.f9) 54 [.dv (.sl (.pair (.int .i64) (.pair (.int .i64) (.unit)))) lx0, .dv (.sl (.int .i64)) plan1] [] dec9 = (a33 lx0).bind fun r1 =>
   cond (r1 != (0 : Int)) (some ((0 : Int), r1))
   (cond ((plan1.length : Int) != (lx0.length : Int)) (some ((0 : Int), (3 : Int)))
   ((R9_0 a33 a34 a35 N N (Sl9a lx0 plan1 (0 : Int) (0 : Int))))) := by kernel_rfl
theorem k9 (a33 : Y33) (a34 : Y34) (a35 : Y35) (N : Nat) (lx0 : List Tr) (plan1 : List Int) : callF (E9 a33 a34 a35) lv9 N en9 c9 (resOf Tryz.f9) 54 [.dv (.sl (.pair (.int .i64) (.pair (.int .i64) (.unit)))) lx0, .dv (.sl (.int .i64)) plan1] [] dec9 = m9 a33 a34 a35 N lx0 plan1 := by rw [wm9]; simp only [m9, ql9a]
theorem ok9 (a33 : Y33) (a34 : Y34) (a35 : Y35) (h33 : FnOk Tryz.prog 33 (F33 a33)) (h34 : FnOk Tryz.prog 34 (F34 a34)) (h35 : FnOk Tryz.prog 35 (F35 a35)) (a : Y9) (h : ∀ lx0 plan1 r, a lx0 plan1 = some r → (∃ N, m9 a33 a34 a35 N lx0 plan1 = some r)) : FnOk Tryz.prog 9 (F9 a) := by
 intro args Of x hx
 simp only [F9] at hx
 split at hx
 ·rename_i lx0 plan1
  obtain ⟨N, hN⟩ := h _ _ _ hx
  refine lifted (L := [(33, F33 a33), (34, F34 a34), (35, F35 a35)]) (rc := nrc) (fz := nfz) (fn := Tryz.f9) (by kernel_rfl) (by kernel_rfl) (by kernel_rfl) (by kernel_rfl) rfl ?_ ((k9 a33 a34 a35 N _ _).trans hN) ?_
  ·intro p hp; simp only [List.mem_cons, List.not_mem_nil, or_false] at hp; rcases hp with rfl | rfl | rfl
   ·exact h33
   ·exact h34
   ·exact h35
  ·intro l o hd
   simp only [dec9] at hd
   split at hd
   ·obtain rfl := Option.some.inj hd; exact ⟨rfl, rfl⟩
   ·cases hd
 ·cases hx
def E11 (a36 : Y36) (a9 : Y9) : Env := mkE TI TY [(36, F36 a36), (9, F9 a9)] nrc nfz
noncomputable def c11 : Code := bodyOf Tryz.f11
def lv11 : Nat → Option Norm := norms []
def en11 : End := ⟨[], ⟨[22], [], [], []⟩⟩
def dec11 (l : List TV) (o : List (Nat × TO)) : Option (Int) := match l, o with | [.dv (.int .i64) x0], [] => some (x0) | _, _ => none
def m11 (a36 : Y36) (a9 : Y9) (N : Nat) (lx0 : List Tr) (plan1 : List Int) : Option (Int) :=
   (a9 lx0 plan1).bind fun r1 =>
   cond (r1.2 == (0 : Int)) ((a36 lx0).bind fun r2 =>
   cond (decide (r1.1 > r2)) (some (14 : Int))
   (some r1.2))
   (some r1.2)
theorem k11 (a36 : Y36) (a9 : Y9) (N : Nat) (lx0 : List Tr) (plan1 : List Int) : callF (E11 a36 a9) lv11 N en11 c11 (resOf Tryz.f11) 20 [.dv (.sl (.pair (.int .i64) (.pair (.int .i64) (.unit)))) lx0, .dv (.sl (.int .i64)) plan1] [] dec11 = m11 a36 a9 N lx0 plan1 := by kernel_rfl
theorem ok11 (a36 : Y36) (a9 : Y9) (h36 : FnOk Tryz.prog 36 (F36 a36)) (h9 : FnOk Tryz.prog 9 (F9 a9)) (a : Y11) (h : ∀ lx0 plan1 r, a lx0 plan1 = some r → (∃ N, m11 a36 a9 N lx0 plan1 = some r)) : FnOk Tryz.prog 11 (F11 a) := by
 intro args Of x hx
 simp only [F11] at hx
 split at hx
 ·rename_i lx0 plan1
  obtain ⟨N, hN⟩ := h _ _ _ hx
  refine lifted (L := [(36, F36 a36), (9, F9 a9)]) (rc := nrc) (fz := nfz) (fn := Tryz.f11) (by kernel_rfl) (by kernel_rfl) (by kernel_rfl) (by kernel_rfl) rfl ?_ ((k11 a36 a9 N _ _).trans hN) ?_
  ·intro p hp; simp only [List.mem_cons, List.not_mem_nil, or_false] at hp; rcases hp with rfl | rfl
   ·exact h36
   ·exact h9
  ·intro l o hd
   simp only [dec11] at hd
   split at hd
   ·obtain rfl := Option.some.inj hd; exact ⟨rfl, rfl⟩
   ·cases hd
 ·cases hx
def E5 : Env := mkE TI TY [] nrc nfz
noncomputable def c5 : Code := bodyOf Tryz.f5
def nm5_0 : Norm := ⟨[0, 9, 10, 11], [], [(.slot 5, 1005, .pair (.int .i64) (.pair (.int .i64) (.unit)))], []⟩
def lv5 : Nat → Option Norm := norms [(3, nm5_0)]
def en5 : End := ⟨[(36, .sl (.pair (.int .i64) (.pair (.int .i64) (.unit))))], ⟨[36], [], [], []⟩⟩
def dec5 (l : List TV) (o : List (Nat × TO)) : Option Tq := match l, o with | [.dv (.sl (.pair (.int .i64) (.pair (.int .i64) (.unit)))) x0], [] => some (x0) | _, _ => none
def Sl5a (days0 : List Int) (fines1 : List Int) (t11_a : Int) (l5_a : List Tr) : TS := ⟨slots 36 [(0, .dv (.sl (.int .u8)) days0), (5, .row 1005), (9, .dv (.sl (.int .i64)) fines1), (10, .dv (.int .i64) (fines1.length : Int)), (11, .dv (.int .i64) t11_a)], [(1005, .row (.pair (.int .i64) (.pair (.int .i64) (.unit))) l5_a)]⟩
noncomputable def K5_0 (N : Nat) : Kont Tq := kont (E5) lv5 N c5 [1, 1, 0, 1, 0] (fin TI en5 (resOf Tryz.f5) dec5)
noncomputable def R5_0 (N : Nat) (m : Nat) : TS → Option Tq := loopK (den (E5) lv5 N (sub c5 [1, 1, 0, 1, 0, 0])) (TS.norm nm5_0) (K5_0 N) m
def l5a (N : Nat) (days0 : List Int) (fines1 : List Int) : Nat → Int → Tq → Option Tq
 | 0, _, _ => none
 | n + 1, t11_a, l5_a => cond (decide (t11_a < (fines1.length : Int))) (chk (decide (0 ≤ t11_a ∧ t11_a < (fines1.length : Int))) (cond (decide (t11_a < (days0.length : Int))) (chk (decide (0 ≤ t11_a ∧ t11_a < (days0.length : Int))) (chk (small (l5_a.length + 1) 16) ((l5a N days0 fines1 n (w64 (t11_a + (1 : Int))) (l5_a ++ ([(w64 ((1 : Int) + (Int.tmod (w64 (days0.getD t11_a.toNat (0 : Int))) (5 : Int))), (fines1.getD t11_a.toNat (0 : Int), ()))] : List Tr))))))
   (chk (small (l5_a.length + 1) 16) ((l5a N days0 fines1 n (w64 (t11_a + (1 : Int))) (l5_a ++ ([((1 : Int), (fines1.getD t11_a.toNat (0 : Int), ()))] : List Tr)))))))
   (some l5_a)
theorem wl5a (N : Nat) (days0 : List Int) (fines1 : List Int) (m : Nat) (t11_a : Int) (l5_a : List Tr) : R5_0 N (m + 1) (Sl5a days0 fines1 t11_a l5_a) = cond (decide (t11_a < (fines1.length : Int))) (chk (decide (0 ≤ t11_a ∧ t11_a < (fines1.length : Int))) (cond (decide (t11_a < (days0.length : Int))) (chk (decide (0 ≤ t11_a ∧ t11_a < (days0.length : Int))) (chk (small (l5_a.length + 1) 16) ((R5_0 N m (Sl5a days0 fines1 (w64 (t11_a + (1 : Int))) (l5_a ++ ([(w64 ((1 : Int) + (Int.tmod (w64 (days0.getD t11_a.toNat (0 : Int))) (5 : Int))), (fines1.getD t11_a.toNat (0 : Int), ()))] : List Tr)))))))
   (chk (small (l5_a.length + 1) 16) ((R5_0 N m (Sl5a days0 fines1 (w64 (t11_a + (1 : Int))) (l5_a ++ ([((1 : Int), (fines1.getD t11_a.toNat (0 : Int), ()))] : List Tr))))))))
   (some l5_a) := by kernel_rfl
theorem ql5a (N : Nat) (days0 : List Int) (fines1 : List Int) : ∀ (m : Nat) (t11_a : Int) (l5_a : List Tr), R5_0 N m (Sl5a days0 fines1 t11_a l5_a) = l5a N days0 fines1 m t11_a l5_a
        | 0, _, _ => rfl
        | m + 1, t11_a, l5_a => by rw [wl5a]; simp only [l5a, ql5a N days0 fines1 m]
def m5 (N : Nat) (days0 : List Int) (fines1 : List Int) : Option Tq :=
   (l5a N days0 fines1 N (0 : Int) ([] : List Tr))
theorem wm5 (N : Nat) (days0 : List Int) (fines1 : List Int) : callF (E5) lv5 N en5 c5 (resOf Tryz.f5) 34 [.dv (.sl (.int .u8)) days0, .dv (.sl (.int .i64)) fines1] [] dec5 = (R5_0 N N (Sl5a days0 fines1 (0 : Int) ([] : List Tr))) := by kernel_rfl
theorem k5 (N : Nat) (days0 : List Int) (fines1 : List Int) : callF (E5) lv5 N en5 c5 (resOf Tryz.f5) 34 [.dv (.sl (.int .u8)) days0, .dv (.sl (.int .i64)) fines1] [] dec5 = m5 N days0 fines1 := by rw [wm5]; simp only [m5, ql5a]
theorem ok5 (a : Y5) (h : ∀ days0 fines1 r, a days0 fines1 = some r → (∃ N, m5 N days0 fines1 = some r)) : FnOk Tryz.prog 5 (F5 a) := by
 intro args Of x hx
 simp only [F5] at hx
 split at hx
 ·rename_i days0 fines1
  obtain ⟨N, hN⟩ := h _ _ _ hx
  refine lifted (L := []) (rc := nrc) (fz := nfz) (fn := Tryz.f5) (by kernel_rfl) (by kernel_rfl) (by kernel_rfl) (by kernel_rfl) rfl ?_ ((k5 N _ _).trans hN) ?_
  ·intro p hp; cases hp
  ·intro l o hd
   simp only [dec5] at hd
   split at hd
   ·obtain rfl := Option.some.inj hd; exact ⟨rfl, rfl⟩
   ·cases hd
 ·cases hx
def E21 (a31 : Y31) : Env := mkE TI TY [(31, F31 a31)] nrc (fun i => ([32, 109] : List Nat).contains i)
noncomputable def c21 : Code := bodyOf Tryz.f21
def nm21_0 : Norm := ⟨[0, 1, 2, 7, 8, 9, 33, 34, 35], [1271500, 1271501, 32], [], []⟩
def nm21_1 : Norm := ⟨[2, 7, 9, 57, 58], [1271500, 32], [(.slot 8, 1008, .int .i64)], []⟩
def nm21_2 : Norm := ⟨[2, 7, 8, 9, 12, 57, 58, 62, 63], [1271500, 1008, 32], [], []⟩
def nm21_3 : Norm := ⟨[2, 7, 8, 9, 15, 16, 17, 111, 112], [1271500, 1008, 32, 109], [], []⟩
def nm21_4 : Norm := ⟨[2, 7, 8, 15, 16, 17, 123, 124, 125], [1271500, 1008, 109], [], [(123, .sl (.sl (.int .i64)))]⟩
def nm21_5 : Norm := ⟨[2, 7, 8, 15, 16, 17, 19, 123, 124, 125, 150, 151, 152], [1271500, 1008, 109], [], [(123, .sl (.sl (.int .i64)))]⟩
def nm21_6 : Norm := ⟨[2, 15, 17, 170, 171, 172], [109, 1008], [], []⟩
def lv21 : Nat → Option Norm := norms [(4, nm21_0), (10, nm21_1), (13, nm21_2), (25, nm21_3), (30, nm21_4), (35, nm21_5), (41, nm21_6)]
def en21 : End := ⟨[], ⟨[], [], [(.slot 190, 1500, .tup (.sl (.int .i64)))], []⟩⟩
def dec21 (l : List TV) (o : List (Nat × TO)) : Option (List Ti) := match l, o with | [.row 1500], [(1500, .mat (.int .i64) x0 none)] => some (x0) | _, _ => none
def Sl21c (work0 : List Ti) (seats1 : Int) (length2 : Int) (t58_b : Int) (machines8_b : List Int) (o32_b : List Ti) (left12_c : Int) (t63_c : Int) (o1271500_c : List Int) (o32_c : List Ti) : TS := ⟨slots 190 [(2, .dv (.int .i64) length2), (7, .row 1271500), (8, .row 1008), (9, .row 32), (12, .dv (.int .i64) left12_c), (57, .dv (.int .i64) (imax (0 : Int) (w64 ((work0.length : Int) - seats1)))), (58, .dv (.int .i64) t58_b), (62, .dv (.int .i64) (o32_b.length : Int)), (63, .dv (.int .i64) t63_c)], [(1271500, .row (.int .i64) o1271500_c), (1008, .row (.int .i64) machines8_b), (32, .mat (.int .i64) o32_c none)]⟩
def Sl21f (length2 : Int) (machines8_b : List Int) (o1271500_b : List Int) (o32_b : List Ti) (t125_e : Int) (t152_f : Int) (o109_f : List Ti) : TS := ⟨slots 190 [(2, .dv (.int .i64) length2), (7, .row 1271500), (8, .row 1008), (15, .dv (.int .i64) (o32_b.length : Int)), (16, .dv (.int .i64) (machines8_b.length : Int)), (17, .row 109), (19, .dv (.int .i64) t125_e), (123, .dv (.sl (.sl (.int .i64))) o32_b), (124, .dv (.int .i64) (o32_b.length : Int)), (125, .dv (.int .i64) t125_e), (150, .dv (.sl (.int .i64)) (o32_b.getD t125_e.toNat ([] : List Int))), (151, .dv (.int .i64) ((o32_b.getD t125_e.toNat ([] : List Int)).length : Int)), (152, .dv (.int .i64) t152_f)], [(1271500, .row (.int .i64) o1271500_b), (1008, .row (.int .i64) machines8_b), (109, .mat (.int .i64) o109_f none)]⟩
def Sl21g (length2 : Int) (machines8_b : List Int) (o32_b : List Ti) (t172_g : Int) (o109_g : List Ti) : TS := ⟨slots 190 [(2, .dv (.int .i64) length2), (15, .dv (.int .i64) (o32_b.length : Int)), (17, .row 109), (170, .row 1008), (171, .dv (.int .i64) (machines8_b.length : Int)), (172, .dv (.int .i64) t172_g)], [(109, .mat (.int .i64) o109_g none), (1008, .row (.int .i64) machines8_b)]⟩
def Sl21e (length2 : Int) (machines8_b : List Int) (o1271500_b : List Int) (o32_b : List Ti) (t125_e : Int) (o109_e : List Ti) : TS := ⟨slots 190 [(2, .dv (.int .i64) length2), (7, .row 1271500), (8, .row 1008), (15, .dv (.int .i64) (o32_b.length : Int)), (16, .dv (.int .i64) (machines8_b.length : Int)), (17, .row 109), (123, .dv (.sl (.sl (.int .i64))) o32_b), (124, .dv (.int .i64) (o32_b.length : Int)), (125, .dv (.int .i64) t125_e)], [(1271500, .row (.int .i64) o1271500_b), (1008, .row (.int .i64) machines8_b), (109, .mat (.int .i64) o109_e none)]⟩
def Sl21d (length2 : Int) (machines8_b : List Int) (o1271500_b : List Int) (o32_b : List Ti) (t112_d : Int) (o109_d : List Ti) : TS := ⟨slots 190 [(2, .dv (.int .i64) length2), (7, .row 1271500), (8, .row 1008), (9, .row 32), (15, .dv (.int .i64) (o32_b.length : Int)), (16, .dv (.int .i64) (machines8_b.length : Int)), (17, .row 109), (111, .dv (.int .i64) ((List.replicate ((w64 ((o32_b.length : Int) + (machines8_b.length : Int))).toNat) ([] : List Int)).length : Int)), (112, .dv (.int .i64) t112_d)], [(1271500, .row (.int .i64) o1271500_b), (1008, .row (.int .i64) machines8_b), (32, .mat (.int .i64) o32_b none), (109, .mat (.int .i64) o109_d none)]⟩
def Sl21b (work0 : List Ti) (seats1 : Int) (length2 : Int) (t58_b : Int) (machines8_b : List Int) (o1271500_b : List Int) (o32_b : List Ti) : TS := ⟨slots 190 [(2, .dv (.int .i64) length2), (7, .row 1271500), (8, .row 1008), (9, .row 32), (57, .dv (.int .i64) (imax (0 : Int) (w64 ((work0.length : Int) - seats1)))), (58, .dv (.int .i64) t58_b)], [(1008, .row (.int .i64) machines8_b), (1271500, .row (.int .i64) o1271500_b), (32, .mat (.int .i64) o32_b none)]⟩
def Sl21a (work0 : List Ti) (seats1 : Int) (length2 : Int) (r1 : List Int × List Int) (t35_a : Int) (o32_a : List Ti) : TS := ⟨slots 190 [(0, .dv (.sl (.sl (.int .i64))) work0), (1, .dv (.int .i64) seats1), (2, .dv (.int .i64) length2), (7, .row 1271500), (8, .row 1271501), (9, .row 32), (33, .dv (.sl (.sl (.int .i64))) work0), (34, .dv (.int .i64) (work0.length : Int)), (35, .dv (.int .i64) t35_a)], [(1271500, .row (.int .i64) r1.1), (1271501, .row (.int .i64) r1.2), (32, .mat (.int .i64) o32_a none)]⟩
noncomputable def K21_0 (a31 : Y31) (N : Nat) : Kont (List Ti) := kont (E21 a31) lv21 N c21 [1, 1, 1, 0, 1, 0] (fin TI en21 (resOf Tryz.f21) dec21)
noncomputable def R21_0 (a31 : Y31) (N : Nat) (m : Nat) : TS → Option (List Ti) := loopK (den (E21 a31) lv21 N (sub c21 [1, 1, 1, 0, 1, 0, 0])) (TS.norm nm21_0) (K21_0 a31 N) m
noncomputable def K21_1 (a31 : Y31) (N : Nat) : Kont (List Ti) := kont (E21 a31) lv21 N c21 [1, 1, 1, 1, 0, 1, 0] (fin TI en21 (resOf Tryz.f21) dec21)
noncomputable def R21_1 (a31 : Y31) (N : Nat) (m : Nat) : TS → Option (List Ti) := loopK (den (E21 a31) lv21 N (sub c21 [1, 1, 1, 1, 0, 1, 0, 0])) (TS.norm nm21_1) (K21_1 a31 N) m
noncomputable def K21_2 (a31 : Y31) (N : Nat) (T21_1 : TS → Option (List Ti)) : Kont (List Ti) := kont (E21 a31) lv21 N (sub c21 [1, 1, 1, 1, 0, 1, 0, 0]) [1, 1, 0, 0, 1, 0, 1, 0] (kloop (TS.norm nm21_1) (K21_1 a31 N) T21_1)
noncomputable def R21_2 (a31 : Y31) (N : Nat) (T21_1 : TS → Option (List Ti)) (m : Nat) : TS → Option (List Ti) := loopK (den (E21 a31) lv21 N (sub c21 [1, 1, 1, 1, 0, 1, 0, 0, 1, 1, 0, 0, 1, 0, 1, 0, 0])) (TS.norm nm21_2) (K21_2 a31 N T21_1) m
noncomputable def K21_3 (a31 : Y31) (N : Nat) : Kont (List Ti) := kont (E21 a31) lv21 N c21 [1, 1, 1, 1, 1, 1, 1, 0, 1, 0] (fin TI en21 (resOf Tryz.f21) dec21)
noncomputable def R21_3 (a31 : Y31) (N : Nat) (m : Nat) : TS → Option (List Ti) := loopK (den (E21 a31) lv21 N (sub c21 [1, 1, 1, 1, 1, 1, 1, 0, 1, 0, 0])) (TS.norm nm21_3) (K21_3 a31 N) m
noncomputable def K21_4 (a31 : Y31) (N : Nat) : Kont (List Ti) := kont (E21 a31) lv21 N c21 [1, 1, 1, 1, 1, 1, 1, 1, 0, 1, 0] (fin TI en21 (resOf Tryz.f21) dec21)
noncomputable def R21_4 (a31 : Y31) (N : Nat) (m : Nat) : TS → Option (List Ti) := loopK (den (E21 a31) lv21 N (sub c21 [1, 1, 1, 1, 1, 1, 1, 1, 0, 1, 0, 0])) (TS.norm nm21_4) (K21_4 a31 N) m
noncomputable def K21_5 (a31 : Y31) (N : Nat) (T21_4 : TS → Option (List Ti)) : Kont (List Ti) := kont (E21 a31) lv21 N (sub c21 [1, 1, 1, 1, 1, 1, 1, 1, 0, 1, 0, 0]) [1, 1, 0, 0, 1, 1, 1, 1, 0] (kloop (TS.norm nm21_4) (K21_4 a31 N) T21_4)
noncomputable def R21_5 (a31 : Y31) (N : Nat) (T21_4 : TS → Option (List Ti)) (m : Nat) : TS → Option (List Ti) := loopK (den (E21 a31) lv21 N (sub c21 [1, 1, 1, 1, 1, 1, 1, 1, 0, 1, 0, 0, 1, 1, 0, 0, 1, 1, 1, 1, 0, 0])) (TS.norm nm21_5) (K21_5 a31 N T21_4) m
noncomputable def K21_6 (a31 : Y31) (N : Nat) : Kont (List Ti) := kont (E21 a31) lv21 N c21 [1, 1, 1, 1, 1, 1, 1, 1, 1, 0, 1, 0] (fin TI en21 (resOf Tryz.f21) dec21)
noncomputable def R21_6 (a31 : Y31) (N : Nat) (m : Nat) : TS → Option (List Ti) := loopK (den (E21 a31) lv21 N (sub c21 [1, 1, 1, 1, 1, 1, 1, 1, 1, 0, 1, 0, 0])) (TS.norm nm21_6) (K21_6 a31 N) m
def l21c (a31 : Y31) (N : Nat) (work0 : List Ti) (seats1 : Int) (length2 : Int) (t58_b : Int) (machines8_b : List Int) (o32_b : List Ti) (rec_l21b : Int → Ti → Ti → (List Ti) → Option (List Ti)) : Nat → Int → Int → Ti → (List Ti) → Option (List Ti)
 | 0, _, _, _, _ => none
 | n + 1, left12_c, t63_c, o1271500_c, o32_c => cond (decide (t63_c < (o32_b.length : Int))) (chk (decide (0 ≤ t63_c ∧ t63_c < (o1271500_c.length : Int))) (chk (decide (0 ≤ t63_c ∧ t63_c < (o32_c.length : Int))) (chk (small ((o32_c.getD t63_c.toNat ([] : List Int)).length + 1) 8) (chk (decide (0 ≤ t63_c ∧ t63_c < (o32_c.length : Int))) (chk (decide (t63_c.toNat = t63_c.toNat)) (chk (decide (0 ≤ t63_c ∧ t63_c < (o1271500_c.length : Int))) (chk (decide (0 ≤ t63_c ∧ t63_c < (o1271500_c.length : Int))) ((l21c a31 N work0 seats1 length2 t58_b machines8_b o32_b rec_l21b n (w64 (left12_c - (imin left12_c (w64 (length2 - (o1271500_c.getD t63_c.toNat (0 : Int))))))) (w64 (t63_c + (1 : Int))) (o1271500_c.set t63_c.toNat (w64 ((o1271500_c.getD t63_c.toNat (0 : Int)) + (imin left12_c (w64 (length2 - (o1271500_c.getD t63_c.toNat (0 : Int)))))))) (o32_c.set t63_c.toNat ((o32_c.getD t63_c.toNat ([] : List Int)) ++ ([imin left12_c (w64 (length2 - (o1271500_c.getD t63_c.toNat (0 : Int))))] : List Int))))))))))))
   (chk (small (machines8_b.length + 1) 8) ((rec_l21b (w64 (t58_b + (1 : Int))) (machines8_b ++ ([w64 (length2 - left12_c)] : List Int)) o1271500_c o32_c)))
theorem wl21c (a31 : Y31) (N : Nat) (work0 : List Ti) (seats1 : Int) (length2 : Int) (t58_b : Int) (machines8_b : List Int) (o32_b : List Ti) (T21_1 : TS → Option (List Ti)) (m : Nat) (left12_c : Int) (t63_c : Int) (o1271500_c : List Int) (o32_c : List Ti) : R21_2 a31 N T21_1 (m + 1) (Sl21c work0 seats1 length2 t58_b machines8_b o32_b left12_c t63_c o1271500_c o32_c) = cond (decide (t63_c < (o32_b.length : Int))) (chk (decide (0 ≤ t63_c ∧ t63_c < (o1271500_c.length : Int))) (chk (decide (0 ≤ t63_c ∧ t63_c < (o32_c.length : Int))) (chk (small ((o32_c.getD t63_c.toNat ([] : List Int)).length + 1) 8) (chk (decide (0 ≤ t63_c ∧ t63_c < (o32_c.length : Int))) (chk (decide (t63_c.toNat = t63_c.toNat)) (chk (decide (0 ≤ t63_c ∧ t63_c < (o1271500_c.length : Int))) (chk (decide (0 ≤ t63_c ∧ t63_c < (o1271500_c.length : Int))) ((R21_2 a31 N T21_1 m (Sl21c work0 seats1 length2 t58_b machines8_b o32_b (w64 (left12_c - (imin left12_c (w64 (length2 - (o1271500_c.getD t63_c.toNat (0 : Int))))))) (w64 (t63_c + (1 : Int))) (o1271500_c.set t63_c.toNat (w64 ((o1271500_c.getD t63_c.toNat (0 : Int)) + (imin left12_c (w64 (length2 - (o1271500_c.getD t63_c.toNat (0 : Int)))))))) (o32_c.set t63_c.toNat ((o32_c.getD t63_c.toNat ([] : List Int)) ++ ([imin left12_c (w64 (length2 - (o1271500_c.getD t63_c.toNat (0 : Int))))] : List Int)))))))))))))
   (chk (small (machines8_b.length + 1) 8) ((T21_1 (Sl21b work0 seats1 length2 (w64 (t58_b + (1 : Int))) (machines8_b ++ ([w64 (length2 - left12_c)] : List Int)) o1271500_c o32_c)))) := by kernel_rfl
theorem ql21c (a31 : Y31) (N : Nat) (work0 : List Ti) (seats1 : Int) (length2 : Int) (t58_b : Int) (machines8_b : List Int) (o32_b : List Ti) (T21_1 : TS → Option (List Ti)) : ∀ (m : Nat) (left12_c : Int) (t63_c : Int) (o1271500_c : List Int) (o32_c : List Ti), R21_2 a31 N T21_1 m (Sl21c work0 seats1 length2 t58_b machines8_b o32_b left12_c t63_c o1271500_c o32_c) = l21c a31 N work0 seats1 length2 t58_b machines8_b o32_b (fun y0 y1 y2 y3 => T21_1 (Sl21b work0 seats1 length2 y0 y1 y2 y3)) m left12_c t63_c o1271500_c o32_c
        | 0, _, _, _, _ => rfl
        | m + 1, left12_c, t63_c, o1271500_c, o32_c => by rw [wl21c]; simp only [l21c, ql21c a31 N work0 seats1 length2 t58_b machines8_b o32_b T21_1 m]
def l21f (a31 : Y31) (N : Nat) (length2 : Int) (machines8_b : List Int) (o1271500_b : List Int) (o32_b : List Ti) (t125_e : Int) (rec_l21e : Int → (List Ti) → Option (List Ti)) : Nat → Int → (List Ti) → Option (List Ti)
 | 0, _, _ => none
 | n + 1, t152_f, o109_f => cond (decide (t152_f < ((o32_b.getD t125_e.toNat ([] : List Int)).length : Int))) (chk (decide (0 ≤ t152_f ∧ t152_f < ((o32_b.getD t125_e.toNat ([] : List Int)).length : Int))) (chk (decide (0 ≤ w64 ((o32_b.length : Int) + t152_f) ∧ w64 ((o32_b.length : Int) + t152_f) < (o109_f.length : Int))) (chk (decide (0 ≤ w64 ((machines8_b.length : Int) + t125_e) ∧ w64 ((machines8_b.length : Int) + t125_e) < ((o109_f.getD ((w64 ((o32_b.length : Int) + t152_f)).toNat) ([] : List Int)).length : Int))) ((l21f a31 N length2 machines8_b o1271500_b o32_b t125_e rec_l21e n (w64 (t152_f + (1 : Int))) (o109_f.set ((w64 ((o32_b.length : Int) + t152_f)).toNat) ((o109_f.getD ((w64 ((o32_b.length : Int) + t152_f)).toNat) ([] : List Int)).set ((w64 ((machines8_b.length : Int) + t125_e)).toNat) ((o32_b.getD t125_e.toNat ([] : List Int)).getD t152_f.toNat (0 : Int)))))))))
   ((rec_l21e (w64 (t125_e + (1 : Int))) o109_f))
theorem wl21f (a31 : Y31) (N : Nat) (length2 : Int) (machines8_b : List Int) (o1271500_b : List Int) (o32_b : List Ti) (t125_e : Int) (T21_4 : TS → Option (List Ti)) (m : Nat) (t152_f : Int) (o109_f : List Ti) : R21_5 a31 N T21_4 (m + 1) (Sl21f length2 machines8_b o1271500_b o32_b t125_e t152_f o109_f) = cond (decide (t152_f < ((o32_b.getD t125_e.toNat ([] : List Int)).length : Int))) (chk (decide (0 ≤ t152_f ∧ t152_f < ((o32_b.getD t125_e.toNat ([] : List Int)).length : Int))) (chk (decide (0 ≤ w64 ((o32_b.length : Int) + t152_f) ∧ w64 ((o32_b.length : Int) + t152_f) < (o109_f.length : Int))) (chk (decide (0 ≤ w64 ((machines8_b.length : Int) + t125_e) ∧ w64 ((machines8_b.length : Int) + t125_e) < ((o109_f.getD ((w64 ((o32_b.length : Int) + t152_f)).toNat) ([] : List Int)).length : Int))) ((R21_5 a31 N T21_4 m (Sl21f length2 machines8_b o1271500_b o32_b t125_e (w64 (t152_f + (1 : Int))) (o109_f.set ((w64 ((o32_b.length : Int) + t152_f)).toNat) ((o109_f.getD ((w64 ((o32_b.length : Int) + t152_f)).toNat) ([] : List Int)).set ((w64 ((machines8_b.length : Int) + t125_e)).toNat) ((o32_b.getD t125_e.toNat ([] : List Int)).getD t152_f.toNat (0 : Int))))))))))
   ((T21_4 (Sl21e length2 machines8_b o1271500_b o32_b (w64 (t125_e + (1 : Int))) o109_f))) := by kernel_rfl
theorem ql21f (a31 : Y31) (N : Nat) (length2 : Int) (machines8_b : List Int) (o1271500_b : List Int) (o32_b : List Ti) (t125_e : Int) (T21_4 : TS → Option (List Ti)) : ∀ (m : Nat) (t152_f : Int) (o109_f : List Ti), R21_5 a31 N T21_4 m (Sl21f length2 machines8_b o1271500_b o32_b t125_e t152_f o109_f) = l21f a31 N length2 machines8_b o1271500_b o32_b t125_e (fun y0 y1 => T21_4 (Sl21e length2 machines8_b o1271500_b o32_b y0 y1)) m t152_f o109_f
        | 0, _, _ => rfl
        | m + 1, t152_f, o109_f => by rw [wl21f]; simp only [l21f, ql21f a31 N length2 machines8_b o1271500_b o32_b t125_e T21_4 m]
def l21g (a31 : Y31) (N : Nat) (length2 : Int) (machines8_b : List Int) (o32_b : List Ti) : Nat → Int → (List Ti) → Option (List Ti)
 | 0, _, _ => none
 | n + 1, t172_g, o109_g => cond (decide (t172_g < (machines8_b.length : Int))) (chk (decide (0 ≤ t172_g ∧ t172_g < (machines8_b.length : Int))) (chk (decide (0 ≤ w64 ((o32_b.length : Int) + t172_g) ∧ w64 ((o32_b.length : Int) + t172_g) < (o109_g.length : Int))) (chk (decide (0 ≤ t172_g ∧ t172_g < ((o109_g.getD ((w64 ((o32_b.length : Int) + t172_g)).toNat) ([] : List Int)).length : Int))) ((l21g a31 N length2 machines8_b o32_b n (w64 (t172_g + (1 : Int))) (o109_g.set ((w64 ((o32_b.length : Int) + t172_g)).toNat) ((o109_g.getD ((w64 ((o32_b.length : Int) + t172_g)).toNat) ([] : List Int)).set t172_g.toNat (w64 (length2 - (machines8_b.getD t172_g.toNat (0 : Int)))))))))))
   (some o109_g)
theorem wl21g (a31 : Y31) (N : Nat) (length2 : Int) (machines8_b : List Int) (o32_b : List Ti) (m : Nat) (t172_g : Int) (o109_g : List Ti) : R21_6 a31 N (m + 1) (Sl21g length2 machines8_b o32_b t172_g o109_g) = cond (decide (t172_g < (machines8_b.length : Int))) (chk (decide (0 ≤ t172_g ∧ t172_g < (machines8_b.length : Int))) (chk (decide (0 ≤ w64 ((o32_b.length : Int) + t172_g) ∧ w64 ((o32_b.length : Int) + t172_g) < (o109_g.length : Int))) (chk (decide (0 ≤ t172_g ∧ t172_g < ((o109_g.getD ((w64 ((o32_b.length : Int) + t172_g)).toNat) ([] : List Int)).length : Int))) ((R21_6 a31 N m (Sl21g length2 machines8_b o32_b (w64 (t172_g + (1 : Int))) (o109_g.set ((w64 ((o32_b.length : Int) + t172_g)).toNat) ((o109_g.getD ((w64 ((o32_b.length : Int) + t172_g)).toNat) ([] : List Int)).set t172_g.toNat (w64 (length2 - (machines8_b.getD t172_g.toNat (0 : Int))))))))))))
   (some o109_g) := by kernel_rfl
theorem ql21g (a31 : Y31) (N : Nat) (length2 : Int) (machines8_b : List Int) (o32_b : List Ti) : ∀ (m : Nat) (t172_g : Int) (o109_g : List Ti), R21_6 a31 N m (Sl21g length2 machines8_b o32_b t172_g o109_g) = l21g a31 N length2 machines8_b o32_b m t172_g o109_g
        | 0, _, _ => rfl
        | m + 1, t172_g, o109_g => by rw [wl21g]; simp only [l21g, ql21g a31 N length2 machines8_b o32_b m]
def l21e (a31 : Y31) (N : Nat) (length2 : Int) (machines8_b : List Int) (o1271500_b : List Int) (o32_b : List Ti) : Nat → Int → (List Ti) → Option (List Ti)
 | 0, _, _ => none
 | n + 1, t125_e, o109_e => cond (decide (t125_e < (o32_b.length : Int))) (chk (decide (0 ≤ t125_e ∧ t125_e < (o32_b.length : Int))) (chk (decide (0 ≤ t125_e ∧ t125_e < (o109_e.length : Int))) (chk (decide (0 < (o109_e.getD t125_e.toNat ([] : List Int)).length) && decide ((o32_b.getD t125_e.toNat ([] : List Int)).length ≤ (o109_e.getD t125_e.toNat ([] : List Int)).length)) (chk (decide (0 ≤ t125_e ∧ t125_e < (o109_e.length : Int))) (chk (decide (0 ≤ t125_e ∧ t125_e < (o1271500_b.length : Int))) (chk (decide (0 ≤ w64 ((machines8_b.length : Int) + t125_e) ∧ w64 ((machines8_b.length : Int) + t125_e) < (((o109_e.set t125_e.toNat ((o32_b.getD t125_e.toNat ([] : List Int)) ++ (o109_e.getD t125_e.toNat ([] : List Int)).drop ((o32_b.getD t125_e.toNat ([] : List Int)).length))).getD t125_e.toNat ([] : List Int)).length : Int))) ((l21f a31 N length2 machines8_b o1271500_b o32_b t125_e (fun y0 y1 => (l21e a31 N length2 machines8_b o1271500_b o32_b n y0 y1)) N (0 : Int) ((o109_e.set t125_e.toNat ((o32_b.getD t125_e.toNat ([] : List Int)) ++ (o109_e.getD t125_e.toNat ([] : List Int)).drop ((o32_b.getD t125_e.toNat ([] : List Int)).length))).set t125_e.toNat (((o109_e.set t125_e.toNat ((o32_b.getD t125_e.toNat ([] : List Int)) ++ (o109_e.getD t125_e.toNat ([] : List Int)).drop ((o32_b.getD t125_e.toNat ([] : List Int)).length))).getD t125_e.toNat ([] : List Int)).set ((w64 ((machines8_b.length : Int) + t125_e)).toNat) (w64 (length2 - (o1271500_b.getD t125_e.toNat (0 : Int))))))))))))))
   ((l21g a31 N length2 machines8_b o32_b N (0 : Int) o109_e))
theorem wl21e (a31 : Y31) (N : Nat) (length2 : Int) (machines8_b : List Int) (o1271500_b : List Int) (o32_b : List Ti) (m : Nat) (t125_e : Int) (o109_e : List Ti) : R21_4 a31 N (m + 1) (Sl21e length2 machines8_b o1271500_b o32_b t125_e o109_e) = cond (decide (t125_e < (o32_b.length : Int))) (chk (decide (0 ≤ t125_e ∧ t125_e < (o32_b.length : Int))) (chk (decide (0 ≤ t125_e ∧ t125_e < (o109_e.length : Int))) (chk (decide (0 < (o109_e.getD t125_e.toNat ([] : List Int)).length) && decide ((o32_b.getD t125_e.toNat ([] : List Int)).length ≤ (o109_e.getD t125_e.toNat ([] : List Int)).length)) (chk (decide (0 ≤ t125_e ∧ t125_e < (o109_e.length : Int))) (chk (decide (0 ≤ t125_e ∧ t125_e < (o1271500_b.length : Int))) (chk (decide (0 ≤ w64 ((machines8_b.length : Int) + t125_e) ∧ w64 ((machines8_b.length : Int) + t125_e) < (((o109_e.set t125_e.toNat ((o32_b.getD t125_e.toNat ([] : List Int)) ++ (o109_e.getD t125_e.toNat ([] : List Int)).drop ((o32_b.getD t125_e.toNat ([] : List Int)).length))).getD t125_e.toNat ([] : List Int)).length : Int))) ((R21_5 a31 N (R21_4 a31 N m) N (Sl21f length2 machines8_b o1271500_b o32_b t125_e (0 : Int) ((o109_e.set t125_e.toNat ((o32_b.getD t125_e.toNat ([] : List Int)) ++ (o109_e.getD t125_e.toNat ([] : List Int)).drop ((o32_b.getD t125_e.toNat ([] : List Int)).length))).set t125_e.toNat (((o109_e.set t125_e.toNat ((o32_b.getD t125_e.toNat ([] : List Int)) ++ (o109_e.getD t125_e.toNat ([] : List Int)).drop ((o32_b.getD t125_e.toNat ([] : List Int)).length))).getD t125_e.toNat ([] : List Int)).set ((w64 ((machines8_b.length : Int) + t125_e)).toNat) (w64 (length2 - (o1271500_b.getD t125_e.toNat (0 : Int)))))))))))))))
   ((R21_6 a31 N N (Sl21g length2 machines8_b o32_b (0 : Int) o109_e))) := by kernel_rfl
theorem ql21e (a31 : Y31) (N : Nat) (length2 : Int) (machines8_b : List Int) (o1271500_b : List Int) (o32_b : List Ti) : ∀ (m : Nat) (t125_e : Int) (o109_e : List Ti), R21_4 a31 N m (Sl21e length2 machines8_b o1271500_b o32_b t125_e o109_e) = l21e a31 N length2 machines8_b o1271500_b o32_b m t125_e o109_e
        | 0, _, _ => rfl
        | m + 1, t125_e, o109_e => by rw [wl21e]; simp only [l21e, ql21f, ql21g, ql21e a31 N length2 machines8_b o1271500_b o32_b m]
def l21d (a31 : Y31) (N : Nat) (length2 : Int) (machines8_b : List Int) (o1271500_b : List Int) (o32_b : List Ti) : Nat → Int → (List Ti) → Option (List Ti)
 | 0, _, _ => none
 | n + 1, t112_d, o109_d => cond (decide (t112_d < ((List.replicate ((w64 ((o32_b.length : Int) + (machines8_b.length : Int))).toNat) ([] : List Int)).length : Int))) (chk (mkOk (w64 ((o32_b.length : Int) + (machines8_b.length : Int))) (w64 ((o32_b.length : Int) + (machines8_b.length : Int))) 8) (chk (decide (0 ≤ t112_d ∧ t112_d < (o109_d.length : Int))) ((l21d a31 N length2 machines8_b o1271500_b o32_b n (w64 (t112_d + (1 : Int))) (o109_d.set t112_d.toNat (List.replicate ((w64 ((o32_b.length : Int) + (machines8_b.length : Int))).toNat) (0 : Int)))))))
   ((l21e a31 N length2 machines8_b o1271500_b o32_b N (0 : Int) o109_d))
theorem wl21d (a31 : Y31) (N : Nat) (length2 : Int) (machines8_b : List Int) (o1271500_b : List Int) (o32_b : List Ti) (m : Nat) (t112_d : Int) (o109_d : List Ti) : R21_3 a31 N (m + 1) (Sl21d length2 machines8_b o1271500_b o32_b t112_d o109_d) = cond (decide (t112_d < ((List.replicate ((w64 ((o32_b.length : Int) + (machines8_b.length : Int))).toNat) ([] : List Int)).length : Int))) (chk (mkOk (w64 ((o32_b.length : Int) + (machines8_b.length : Int))) (w64 ((o32_b.length : Int) + (machines8_b.length : Int))) 8) (chk (decide (0 ≤ t112_d ∧ t112_d < (o109_d.length : Int))) ((R21_3 a31 N m (Sl21d length2 machines8_b o1271500_b o32_b (w64 (t112_d + (1 : Int))) (o109_d.set t112_d.toNat (List.replicate ((w64 ((o32_b.length : Int) + (machines8_b.length : Int))).toNat) (0 : Int))))))))
   ((R21_4 a31 N N (Sl21e length2 machines8_b o1271500_b o32_b (0 : Int) o109_d))) := by kernel_rfl
theorem ql21d (a31 : Y31) (N : Nat) (length2 : Int) (machines8_b : List Int) (o1271500_b : List Int) (o32_b : List Ti) : ∀ (m : Nat) (t112_d : Int) (o109_d : List Ti), R21_3 a31 N m (Sl21d length2 machines8_b o1271500_b o32_b t112_d o109_d) = l21d a31 N length2 machines8_b o1271500_b o32_b m t112_d o109_d
        | 0, _, _ => rfl
        | m + 1, t112_d, o109_d => by rw [wl21d]; simp only [l21d, ql21e, ql21d a31 N length2 machines8_b o1271500_b o32_b m]
def l21b (a31 : Y31) (N : Nat) (work0 : List Ti) (seats1 : Int) (length2 : Int) : Nat → Int → Ti → Ti → (List Ti) → Option (List Ti)
 | 0, _, _, _, _ => none
 | n + 1, t58_b, machines8_b, o1271500_b, o32_b => cond (decide (t58_b < (imax (0 : Int) (w64 ((work0.length : Int) - seats1))))) ((l21c a31 N work0 seats1 length2 t58_b machines8_b o32_b (fun y0 y1 y2 y3 => (l21b a31 N work0 seats1 length2 n y0 y1 y2 y3)) N length2 (0 : Int) o1271500_b o32_b))
   (chk (mkOk (w64 ((o32_b.length : Int) + (machines8_b.length : Int))) (w64 ((o32_b.length : Int) + (machines8_b.length : Int))) 24) ((l21d a31 N length2 machines8_b o1271500_b o32_b N (0 : Int) (List.replicate ((w64 ((o32_b.length : Int) + (machines8_b.length : Int))).toNat) ([] : List Int)))))
theorem wl21b (a31 : Y31) (N : Nat) (work0 : List Ti) (seats1 : Int) (length2 : Int) (m : Nat) (t58_b : Int) (machines8_b : List Int) (o1271500_b : List Int) (o32_b : List Ti) : R21_1 a31 N (m + 1) (Sl21b work0 seats1 length2 t58_b machines8_b o1271500_b o32_b) = cond (decide (t58_b < (imax (0 : Int) (w64 ((work0.length : Int) - seats1))))) ((R21_2 a31 N (R21_1 a31 N m) N (Sl21c work0 seats1 length2 t58_b machines8_b o32_b length2 (0 : Int) o1271500_b o32_b)))
   (chk (mkOk (w64 ((o32_b.length : Int) + (machines8_b.length : Int))) (w64 ((o32_b.length : Int) + (machines8_b.length : Int))) 24) ((R21_3 a31 N N (Sl21d length2 machines8_b o1271500_b o32_b (0 : Int) (List.replicate ((w64 ((o32_b.length : Int) + (machines8_b.length : Int))).toNat) ([] : List Int)))))) := by kernel_rfl
theorem ql21b (a31 : Y31) (N : Nat) (work0 : List Ti) (seats1 : Int) (length2 : Int) : ∀ (m : Nat) (t58_b : Int) (machines8_b : List Int) (o1271500_b : List Int) (o32_b : List Ti), R21_1 a31 N m (Sl21b work0 seats1 length2 t58_b machines8_b o1271500_b o32_b) = l21b a31 N work0 seats1 length2 m t58_b machines8_b o1271500_b o32_b
        | 0, _, _, _, _ => rfl
        | m + 1, t58_b, machines8_b, o1271500_b, o32_b => by rw [wl21b]; simp only [l21b, ql21c, ql21d, ql21b a31 N work0 seats1 length2 m]
def l21a (a31 : Y31) (N : Nat) (work0 : List Ti) (seats1 : Int) (length2 : Int) (r1 : List Int × List Int) : Nat → Int → (List Ti) → Option (List Ti)
 | 0, _, _ => none
 | n + 1, t35_a, o32_a => cond (decide (t35_a < (work0.length : Int))) (chk (decide (0 ≤ t35_a ∧ t35_a < (work0.length : Int))) (chk (mkOk ((work0.getD t35_a.toNat ([] : List Int)).length : Int) ((work0.getD t35_a.toNat ([] : List Int)).length : Int) 8) (chk (decide (0 ≤ t35_a ∧ t35_a < (o32_a.length : Int))) (chk (decide (0 ≤ t35_a ∧ t35_a < ((o32_a.set t35_a.toNat (List.replicate (((work0.getD t35_a.toNat ([] : List Int)).length : Int).toNat) (0 : Int))).length : Int))) (chk (decide (0 < ((o32_a.set t35_a.toNat (List.replicate (((work0.getD t35_a.toNat ([] : List Int)).length : Int).toNat) (0 : Int))).getD t35_a.toNat ([] : List Int)).length) && decide ((work0.getD t35_a.toNat ([] : List Int)).length ≤ ((o32_a.set t35_a.toNat (List.replicate (((work0.getD t35_a.toNat ([] : List Int)).length : Int).toNat) (0 : Int))).getD t35_a.toNat ([] : List Int)).length)) ((l21a a31 N work0 seats1 length2 r1 n (w64 (t35_a + (1 : Int))) ((o32_a.set t35_a.toNat (List.replicate (((work0.getD t35_a.toNat ([] : List Int)).length : Int).toNat) (0 : Int))).set t35_a.toNat ((work0.getD t35_a.toNat ([] : List Int)) ++ ((o32_a.set t35_a.toNat (List.replicate (((work0.getD t35_a.toNat ([] : List Int)).length : Int).toNat) (0 : Int))).getD t35_a.toNat ([] : List Int)).drop ((work0.getD t35_a.toNat ([] : List Int)).length))))))))))
   ((l21b a31 N work0 seats1 length2 N (0 : Int) r1.2 r1.1 o32_a))
theorem wl21a (a31 : Y31) (N : Nat) (work0 : List Ti) (seats1 : Int) (length2 : Int) (r1 : List Int × List Int) (m : Nat) (t35_a : Int) (o32_a : List Ti) : R21_0 a31 N (m + 1) (Sl21a work0 seats1 length2 r1 t35_a o32_a) = cond (decide (t35_a < (work0.length : Int))) (chk (decide (0 ≤ t35_a ∧ t35_a < (work0.length : Int))) (chk (mkOk ((work0.getD t35_a.toNat ([] : List Int)).length : Int) ((work0.getD t35_a.toNat ([] : List Int)).length : Int) 8) (chk (decide (0 ≤ t35_a ∧ t35_a < (o32_a.length : Int))) (chk (decide (0 ≤ t35_a ∧ t35_a < ((o32_a.set t35_a.toNat (List.replicate (((work0.getD t35_a.toNat ([] : List Int)).length : Int).toNat) (0 : Int))).length : Int))) (chk (decide (0 < ((o32_a.set t35_a.toNat (List.replicate (((work0.getD t35_a.toNat ([] : List Int)).length : Int).toNat) (0 : Int))).getD t35_a.toNat ([] : List Int)).length) && decide ((work0.getD t35_a.toNat ([] : List Int)).length ≤ ((o32_a.set t35_a.toNat (List.replicate (((work0.getD t35_a.toNat ([] : List Int)).length : Int).toNat) (0 : Int))).getD t35_a.toNat ([] : List Int)).length)) ((R21_0 a31 N m (Sl21a work0 seats1 length2 r1 (w64 (t35_a + (1 : Int))) ((o32_a.set t35_a.toNat (List.replicate (((work0.getD t35_a.toNat ([] : List Int)).length : Int).toNat) (0 : Int))).set t35_a.toNat ((work0.getD t35_a.toNat ([] : List Int)) ++ ((o32_a.set t35_a.toNat (List.replicate (((work0.getD t35_a.toNat ([] : List Int)).length : Int).toNat) (0 : Int))).getD t35_a.toNat ([] : List Int)).drop ((work0.getD t35_a.toNat ([] : List Int)).length)))))))))))
   ((R21_1 a31 N N (Sl21b work0 seats1 length2 (0 : Int) r1.2 r1.1 o32_a))) := by kernel_rfl
theorem ql21a (a31 : Y31) (N : Nat) (work0 : List Ti) (seats1 : Int) (length2 : Int) (r1 : List Int × List Int) : ∀ (m : Nat) (t35_a : Int) (o32_a : List Ti), R21_0 a31 N m (Sl21a work0 seats1 length2 r1 t35_a o32_a) = l21a a31 N work0 seats1 length2 r1 m t35_a o32_a
        | 0, _, _ => rfl
        | m + 1, t35_a, o32_a => by rw [wl21a]; simp only [l21a, ql21b, ql21a a31 N work0 seats1 length2 r1 m]
def m21 (a31 : Y31) (N : Nat) (work0 : List Ti) (seats1 : Int) (length2 : Int) : Option (List Ti) :=
   (a31 work0).bind fun r1 =>
   chk (mkOk (work0.length : Int) (work0.length : Int) 24) ((l21a a31 N work0 seats1 length2 r1 N (0 : Int) (List.replicate ((work0.length : Int).toNat) ([] : List Int))))
theorem wm21 (a31 : Y31) (N : Nat) (work0 : List Ti) (seats1 : Int) (length2 : Int) : callF (E21 a31) lv21 N en21 c21 (resOf Tryz.f21) 187 [.dv (.sl (.sl (.int .i64))) work0, .dv (.int .i64) seats1, .dv (.int .i64) length2] [] dec21 = (a31 work0).bind fun r1 =>
   chk (mkOk (work0.length : Int) (work0.length : Int) 24) ((R21_0 a31 N N (Sl21a work0 seats1 length2 r1 (0 : Int) (List.replicate ((work0.length : Int).toNat) ([] : List Int))))) := by kernel_rfl
theorem k21 (a31 : Y31) (N : Nat) (work0 : List Ti) (seats1 : Int) (length2 : Int) : callF (E21 a31) lv21 N en21 c21 (resOf Tryz.f21) 187 [.dv (.sl (.sl (.int .i64))) work0, .dv (.int .i64) seats1, .dv (.int .i64) length2] [] dec21 = m21 a31 N work0 seats1 length2 := by rw [wm21]; simp only [m21, ql21a]
theorem ok21 (a31 : Y31) (h31 : FnOk Tryz.prog 31 (F31 a31)) (a : Y21) (h : ∀ work0 seats1 length2 r, a work0 seats1 length2 = some r → (∃ N, m21 a31 N work0 seats1 length2 = some r)) : FnOk Tryz.prog 21 (F21 a) := by
 intro args Of x hx
 simp only [F21] at hx
 split at hx
 ·rename_i work0 seats1 length2
  obtain ⟨N, hN⟩ := h _ _ _ _ hx
  refine lifted (L := [(31, F31 a31)]) (rc := nrc) (fz := (fun i => ([32, 109] : List Nat).contains i)) (fn := Tryz.f21) (by kernel_rfl) (by kernel_rfl) (by kernel_rfl) (by kernel_rfl) rfl ?_ ((k21 a31 N _ _ _).trans hN) ?_
  ·intro p hp; simp only [List.mem_cons, List.not_mem_nil, or_false] at hp; rcases hp with rfl; exact h31
  ·intro l o hd
   simp only [dec21] at hd
   split at hd
   ·obtain rfl := Option.some.inj hd; exact ⟨rfl, rfl⟩
   ·cases hd
 ·cases hx
def E50c (a50c : Y50c) : Env := mkE TI TY [(50, F50c a50c)] nrc nfz
noncomputable def c50c : Code := bodyOf Tryz.f50
def nm50c_0 : Norm := ⟨[0, 1, 3, 4, 13, 14, 15], [9000, 9002, 9003, 9001, 9004], [], []⟩
def lv50c : Nat → Option Norm := norms [(2, nm50c_0)]
def en50c : End := ⟨[], ⟨[50], [9000, 9001, 9002, 9003, 9004], [], []⟩⟩
def dec50c (l : List TV) (o : List (Nat × TO)) : Option (Bool × List Bool × List Ti × List Int) := match l, o, capsOf l o with | [.dv (.bool) x0], [(9000, .row (.bool) x1), (9001, .rcd [.dv (.sl (.sl (.int .i64))) x2]), (9002, .rcd [.row 9004]), (9003, .rcd [.fn 50 0 3 _]), (9004, .row (.int .i64) x3)], [[.ptr 9001 0 [0], .ptr 9002 0 [0], .ptr 9003 0 [0]]] => some (x0, x1, x2, x3) | _, _, _ => none
def Sl50ca (i0 : Int) (p2 : List Ti) (t15_a : Int) (o9000_a : List Bool) (o9001_af0 : List Ti) (o9004_a : List Int) : TS := ⟨slots 50 [(0, .dv (.int .i64) i0), (1, .row 9000), (3, .ptr 9002 0 [0]), (4, .ptr 9003 0 [0]), (13, .dv (.sl (.int .i64)) (p2.getD i0.toNat ([] : List Int))), (14, .dv (.int .i64) ((p2.getD i0.toNat ([] : List Int)).length : Int)), (15, .dv (.int .i64) t15_a)], [(9000, .row (.bool) o9000_a), (9002, .rcd [.row 9004]), (9003, .rcd [.fn 50 0 3 fun i => ([.ptr 9001 0 [0], .ptr 9002 0 [0], .ptr 9003 0 [0]] : List TV).getD i .any]), (9001, .rcd [.dv (.sl (.sl (.int .i64))) o9001_af0]), (9004, .row (.int .i64) o9004_a)]⟩
noncomputable def K50c_0 (a50c : Y50c) (N : Nat) : Kont (Bool × List Bool × List Ti × List Int) := kont (E50c a50c) lv50c N c50c [1, 0, 1, 0] (fin TI en50c (resOf Tryz.f50) dec50c)
noncomputable def R50c_0 (a50c : Y50c) (N : Nat) (m : Nat) : TS → Option (Bool × List Bool × List Ti × List Int) := loopK (den (E50c a50c) lv50c N (sub c50c [1, 0, 1, 0, 0])) (TS.norm nm50c_0) (K50c_0 a50c N) m
def l50ca (a50c : Y50c) (N : Nat) (i0 : Int) (p2 : List Ti) : Nat → Int → (List Bool) → (List Ti) → Ti → Option (Bool × List Bool × List Ti × List Int)
 | 0, _, _, _, _ => none
 | n + 1, t15_a, o9000_a, o9001_af0, o9004_a => cond (decide (t15_a < ((p2.getD i0.toNat ([] : List Int)).length : Int))) (chk (decide (0 ≤ t15_a ∧ t15_a < ((p2.getD i0.toNat ([] : List Int)).length : Int))) (cond (((p2.getD i0.toNat ([] : List Int)).getD t15_a.toNat (0 : Int)) == (0 : Int)) ((l50ca a50c N i0 p2 n (w64 (t15_a + (1 : Int))) o9000_a o9001_af0 o9004_a))
   (chk (decide (0 ≤ t15_a ∧ t15_a < (o9000_a.length : Int))) (cond (o9000_a.getD t15_a.toNat false) ((l50ca a50c N i0 p2 n (w64 (t15_a + (1 : Int))) o9000_a o9001_af0 o9004_a))
   (chk (decide (0 ≤ t15_a ∧ t15_a < (o9000_a.length : Int))) (chk (decide (0 ≤ t15_a ∧ t15_a < (o9004_a.length : Int))) (cond (decide ((o9004_a.getD t15_a.toNat (0 : Int)) < (0 : Int))) (chk (decide (0 ≤ t15_a ∧ t15_a < (o9004_a.length : Int))) (some (true, o9000_a.set t15_a.toNat true, o9001_af0, o9004_a.set t15_a.toNat i0)))
   (chk (decide (0 ≤ t15_a ∧ t15_a < (o9004_a.length : Int))) ((a50c (o9004_a.getD t15_a.toNat (0 : Int)) (o9000_a.set t15_a.toNat true) o9001_af0 o9004_a).bind fun r1 =>
   cond (r1.1) (chk (decide (0 ≤ t15_a ∧ t15_a < (r1.2.2.2.length : Int))) (some (true, r1.2.1, r1.2.2.1, r1.2.2.2.set t15_a.toNat i0)))
   ((l50ca a50c N i0 p2 n (w64 (t15_a + (1 : Int))) r1.2.1 r1.2.2.1 r1.2.2.2)))))))))))
   (some (false, o9000_a, o9001_af0, o9004_a))
theorem wl50ca (a50c : Y50c) (N : Nat) (i0 : Int) (p2 : List Ti) (m : Nat) (t15_a : Int) (o9000_a : List Bool) (o9001_af0 : List Ti) (o9004_a : List Int) : R50c_0 a50c N (m + 1) (Sl50ca i0 p2 t15_a o9000_a o9001_af0 o9004_a) = cond (decide (t15_a < ((p2.getD i0.toNat ([] : List Int)).length : Int))) (chk (decide (0 ≤ t15_a ∧ t15_a < ((p2.getD i0.toNat ([] : List Int)).length : Int))) (cond (((p2.getD i0.toNat ([] : List Int)).getD t15_a.toNat (0 : Int)) == (0 : Int)) ((R50c_0 a50c N m (Sl50ca i0 p2 (w64 (t15_a + (1 : Int))) o9000_a o9001_af0 o9004_a)))
   (chk (decide (0 ≤ t15_a ∧ t15_a < (o9000_a.length : Int))) (cond (o9000_a.getD t15_a.toNat false) ((R50c_0 a50c N m (Sl50ca i0 p2 (w64 (t15_a + (1 : Int))) o9000_a o9001_af0 o9004_a)))
   (chk (decide (0 ≤ t15_a ∧ t15_a < (o9000_a.length : Int))) (chk (decide (0 ≤ t15_a ∧ t15_a < (o9004_a.length : Int))) (cond (decide ((o9004_a.getD t15_a.toNat (0 : Int)) < (0 : Int))) (chk (decide (0 ≤ t15_a ∧ t15_a < (o9004_a.length : Int))) (some (true, o9000_a.set t15_a.toNat true, o9001_af0, o9004_a.set t15_a.toNat i0)))
   (chk (decide (0 ≤ t15_a ∧ t15_a < (o9004_a.length : Int))) ((a50c (o9004_a.getD t15_a.toNat (0 : Int)) (o9000_a.set t15_a.toNat true) o9001_af0 o9004_a).bind fun r1 =>
   cond (r1.1) (chk (decide (0 ≤ t15_a ∧ t15_a < (r1.2.2.2.length : Int))) (some (true, r1.2.1, r1.2.2.1, r1.2.2.2.set t15_a.toNat i0)))
   ((R50c_0 a50c N m (Sl50ca i0 p2 (w64 (t15_a + (1 : Int))) r1.2.1 r1.2.2.1 r1.2.2.2))))))))))))
   (some (false, o9000_a, o9001_af0, o9004_a)) := by kernel_rfl
theorem ql50ca (a50c : Y50c) (N : Nat) (i0 : Int) (p2 : List Ti) : ∀ (m : Nat) (t15_a : Int) (o9000_a : List Bool) (o9001_af0 : List Ti) (o9004_a : List Int), R50c_0 a50c N m (Sl50ca i0 p2 t15_a o9000_a o9001_af0 o9004_a) = l50ca a50c N i0 p2 m t15_a o9000_a o9001_af0 o9004_a
        | 0, _, _, _, _ => rfl
        | m + 1, t15_a, o9000_a, o9001_af0, o9004_a => by rw [wl50ca]; simp only [l50ca, ql50ca a50c N i0 p2 m]
def m50c (a50c : Y50c) (N : Nat) (i0 : Int) (p1 : List Bool) (p2 : List Ti) (p3 : List Int) : Option (Bool × List Bool × List Ti × List Int) :=
   chk (decide (0 ≤ i0 ∧ i0 < (p2.length : Int))) ((l50ca a50c N i0 p2 N (0 : Int) p1 p2 p3))
theorem wm50c (a50c : Y50c) (N : Nat) (i0 : Int) (p1 : List Bool) (p2 : List Ti) (p3 : List Int) : callF (E50c a50c) lv50c N en50c c50c (resOf Tryz.f50) 45 [.dv (.int .i64) i0, .row 9000, .ptr 9001 0 [0], .ptr 9002 0 [0], .ptr 9003 0 [0]] [(9000, .row (.bool) p1), (9001, .rcd [.dv (.sl (.sl (.int .i64))) p2]), (9002, .rcd [.row 9004]), (9003, .rcd [.fn 50 0 3 fun i => ([.ptr 9001 0 [0], .ptr 9002 0 [0], .ptr 9003 0 [0]] : List TV).getD i .any]), (9004, .row (.int .i64) p3)] dec50c = chk (decide (0 ≤ i0 ∧ i0 < (p2.length : Int))) ((R50c_0 a50c N N (Sl50ca i0 p2 (0 : Int) p1 p2 p3))) := by kernel_rfl
theorem k50c (a50c : Y50c) (N : Nat) (i0 : Int) (p1 : List Bool) (p2 : List Ti) (p3 : List Int) : callF (E50c a50c) lv50c N en50c c50c (resOf Tryz.f50) 45 [.dv (.int .i64) i0, .row 9000, .ptr 9001 0 [0], .ptr 9002 0 [0], .ptr 9003 0 [0]] [(9000, .row (.bool) p1), (9001, .rcd [.dv (.sl (.sl (.int .i64))) p2]), (9002, .rcd [.row 9004]), (9003, .rcd [.fn 50 0 3 fun i => ([.ptr 9001 0 [0], .ptr 9002 0 [0], .ptr 9003 0 [0]] : List TV).getD i .any]), (9004, .row (.int .i64) p3)] dec50c = m50c a50c N i0 p1 p2 p3 := by rw [wm50c]; simp only [m50c, ql50ca]
theorem ok50c (a50c : Y50c) (h50c : FnOk Tryz.prog 50 (F50c a50c)) (a : Y50c) (h : ∀ i0 p1 p2 p3 r, a i0 p1 p2 p3 = some r → (∃ N, m50c a50c N i0 p1 p2 p3 = some r)) : FnOk Tryz.prog 50 (F50c a) := by
 intro args Of x hx
 simp only [F50c] at hx
 split at hx
 ·rename_i i0 p1 p2 f_0 p3 heqc
  have hc0 := congrArg (fun c : List (List TV) => c.getD 0 []) heqc
  obtain ⟨N, hN⟩ := h _ _ _ _ _ hx
  refine HSpec.etaL (args := [.dv (.int .i64) i0, .row 9000, .ptr 9001 0 [0], .ptr 9002 0 [0], .ptr 9003 0 [0]]) (O := [(9000, .row (.bool) p1), (9001, .rcd [.dv (.sl (.sl (.int .i64))) p2]), (9002, .rcd [.row 9004]), (9003, .rcd [.fn 50 0 3 fun i => ([.ptr 9001 0 [0], .ptr 9002 0 [0], .ptr 9003 0 [0]] : List TV).getD i .any]), (9004, .row (.int .i64) p3)]) ⟨TV.sim_refl _, TV.sim_refl _, TV.sim_refl _, TV.sim_refl _, TV.sim_refl _, trivial⟩ ⟨rfl, TO.sim_refl _, rfl, TO.sim_refl _, rfl, TO.sim_refl _, rfl, TO.sim_rcd ⟨TV.sim_fn hc0, trivial⟩, rfl, TO.sim_refl _, trivial⟩ (liftedS (L := [(50, F50c a50c)]) (rc := nrc) (fz := nfz) (fn := Tryz.f50) (by kernel_rfl) (by kernel_rfl) (by kernel_rfl) (by kernel_rfl) rfl ?_ ((k50c a50c N _ _ _ _).trans hN) ?_)
  ·intro p hp; simp only [List.mem_cons, List.not_mem_nil, or_false] at hp; rcases hp with rfl; exact h50c
  ·intro l o hd
   simp only [dec50c] at hd
   split at hd
   ·rename_i heqd
    have hd0 := congrArg (fun c : List (List TV) => c.getD 0 []) heqd
    obtain rfl := Option.some.inj hd; exact ⟨TV.sim_refl _, ⟨rfl, TO.sim_refl _, rfl, TO.sim_refl _, rfl, TO.sim_refl _, rfl, TO.sim_rcd ⟨TV.sim_symm (TV.sim_fn hd0), trivial⟩, rfl, TO.sim_refl _, trivial⟩⟩
   ·cases hd
 ·cases hx
def E22 (a49 : Y49) (a50c : Y50c) : Env := mkE TI TY [(49, F49 a49), (50, F50c a50c)] (fun i => ([(3, [some (.arr 0 (.int .i64))])] : List (Nat × List (Option DT))).lookup i) nfz
noncomputable def c22 : Code := bodyOf Tryz.f22
def nm22_0 : Norm := ⟨[1, 3, 4, 5, 18, 19], [1, 3, 4, 16, 1121500], [], []⟩
def nm22_1 : Norm := ⟨[5, 29, 30, 31], [16, 1121500], [], []⟩
def lv22 : Nat → Option Norm := norms [(6, nm22_0), (11, nm22_1)]
def en22 : End := ⟨[], ⟨[], [], [(.slot 42, 1500, .int .i64)], []⟩⟩
def dec22 (l : List TV) (o : List (Nat × TO)) : Option Ti := match l, o with | [.row 1500], [(1500, .row (.int .i64) x0)] => some (x0) | _, _ => none
def Sl22b (o1121500_a : List Int) (t31_b : Int) (o16_b : List Int) : TS := ⟨slots 42 [(5, .row 16), (29, .row 1121500), (30, .dv (.int .i64) (o1121500_a.length : Int)), (31, .dv (.int .i64) t31_b)], [(16, .row (.int .i64) o16_b), (1121500, .row (.int .i64) o1121500_a)]⟩
def Sl22a (s0 : List Ti) (t19_a : Int) (o1_af0 : List Ti) (o1121500_a : List Int) : TS := ⟨slots 42 [(1, .ptr 1 0 [0]), (3, .ptr 3 0 [0]), (4, .ptr 4 0 [0]), (5, .row 16), (18, .dv (.int .i64) (s0.length : Int)), (19, .dv (.int .i64) t19_a)], [(1, .rcd [.dv (.sl (.sl (.int .i64))) o1_af0]), (3, .rcd [.row 1121500]), (4, .rcd [.fn 50 0 3 fun i => ([.ptr 1 0 [0], .ptr 3 0 [0], .ptr 4 0 [0]] : List TV).getD i .any]), (16, .row (.int .i64) (List.replicate ((s0.length : Int).toNat) (0 : Int))), (1121500, .row (.int .i64) o1121500_a)]⟩
noncomputable def K22_0 (a49 : Y49) (a50c : Y50c) (N : Nat) : Kont Ti := kont (E22 a49 a50c) lv22 N c22 [1, 1, 1, 1, 1, 0, 1, 0] (fin TI en22 (resOf Tryz.f22) dec22)
noncomputable def R22_0 (a49 : Y49) (a50c : Y50c) (N : Nat) (m : Nat) : TS → Option Ti := loopK (den (E22 a49 a50c) lv22 N (sub c22 [1, 1, 1, 1, 1, 0, 1, 0, 0])) (TS.norm nm22_0) (K22_0 a49 a50c N) m
noncomputable def K22_1 (a49 : Y49) (a50c : Y50c) (N : Nat) : Kont Ti := kont (E22 a49 a50c) lv22 N c22 [1, 1, 1, 1, 1, 1, 0, 1, 0] (fin TI en22 (resOf Tryz.f22) dec22)
noncomputable def R22_1 (a49 : Y49) (a50c : Y50c) (N : Nat) (m : Nat) : TS → Option Ti := loopK (den (E22 a49 a50c) lv22 N (sub c22 [1, 1, 1, 1, 1, 1, 0, 1, 0, 0])) (TS.norm nm22_1) (K22_1 a49 a50c N) m
def l22b (a49 : Y49) (a50c : Y50c) (N : Nat) (o1121500_a : List Int) : Nat → Int → Ti → Option Ti
 | 0, _, _ => none
 | n + 1, t31_b, o16_b => cond (decide (t31_b < (o1121500_a.length : Int))) (chk (decide (0 ≤ t31_b ∧ t31_b < (o1121500_a.length : Int))) (chk (decide (0 ≤ o1121500_a.getD t31_b.toNat (0 : Int) ∧ o1121500_a.getD t31_b.toNat (0 : Int) < (o16_b.length : Int))) ((l22b a49 a50c N o1121500_a n (w64 (t31_b + (1 : Int))) (o16_b.set ((o1121500_a.getD t31_b.toNat (0 : Int)).toNat) t31_b)))))
   (some o16_b)
theorem wl22b (a49 : Y49) (a50c : Y50c) (N : Nat) (o1121500_a : List Int) (m : Nat) (t31_b : Int) (o16_b : List Int) : R22_1 a49 a50c N (m + 1) (Sl22b o1121500_a t31_b o16_b) = cond (decide (t31_b < (o1121500_a.length : Int))) (chk (decide (0 ≤ t31_b ∧ t31_b < (o1121500_a.length : Int))) (chk (decide (0 ≤ o1121500_a.getD t31_b.toNat (0 : Int) ∧ o1121500_a.getD t31_b.toNat (0 : Int) < (o16_b.length : Int))) ((R22_1 a49 a50c N m (Sl22b o1121500_a (w64 (t31_b + (1 : Int))) (o16_b.set ((o1121500_a.getD t31_b.toNat (0 : Int)).toNat) t31_b))))))
   (some o16_b) := by kernel_rfl
theorem ql22b (a49 : Y49) (a50c : Y50c) (N : Nat) (o1121500_a : List Int) : ∀ (m : Nat) (t31_b : Int) (o16_b : List Int), R22_1 a49 a50c N m (Sl22b o1121500_a t31_b o16_b) = l22b a49 a50c N o1121500_a m t31_b o16_b
        | 0, _, _ => rfl
        | m + 1, t31_b, o16_b => by rw [wl22b]; simp only [l22b, ql22b a49 a50c N o1121500_a m]
def l22a (a49 : Y49) (a50c : Y50c) (N : Nat) (s0 : List Ti) : Nat → Int → (List Ti) → Ti → Option Ti
 | 0, _, _, _ => none
 | n + 1, t19_a, o1_af0, o1121500_a => cond (decide (t19_a < (s0.length : Int))) (chk (mkOk (o1_af0.length : Int) (o1_af0.length : Int) 1) ((a50c t19_a (List.replicate ((o1_af0.length : Int).toNat) false) o1_af0 o1121500_a).bind fun r2 =>
   (l22a a49 a50c N s0 n (w64 (t19_a + (1 : Int))) r2.2.2.1 r2.2.2.2)))
   ((l22b a49 a50c N o1121500_a N (0 : Int) (List.replicate ((s0.length : Int).toNat) (0 : Int))))
theorem wl22a (a49 : Y49) (a50c : Y50c) (N : Nat) (s0 : List Ti) (m : Nat) (t19_a : Int) (o1_af0 : List Ti) (o1121500_a : List Int) : R22_0 a49 a50c N (m + 1) (Sl22a s0 t19_a o1_af0 o1121500_a) = cond (decide (t19_a < (s0.length : Int))) (chk (mkOk (o1_af0.length : Int) (o1_af0.length : Int) 1) ((a50c t19_a (List.replicate ((o1_af0.length : Int).toNat) false) o1_af0 o1121500_a).bind fun r2 =>
   (R22_0 a49 a50c N m (Sl22a s0 (w64 (t19_a + (1 : Int))) r2.2.2.1 r2.2.2.2))))
   ((R22_1 a49 a50c N N (Sl22b o1121500_a (0 : Int) (List.replicate ((s0.length : Int).toNat) (0 : Int))))) := by kernel_rfl
theorem ql22a (a49 : Y49) (a50c : Y50c) (N : Nat) (s0 : List Ti) : ∀ (m : Nat) (t19_a : Int) (o1_af0 : List Ti) (o1121500_a : List Int), R22_0 a49 a50c N m (Sl22a s0 t19_a o1_af0 o1121500_a) = l22a a49 a50c N s0 m t19_a o1_af0 o1121500_a
        | 0, _, _, _ => rfl
        | m + 1, t19_a, o1_af0, o1121500_a => by rw [wl22a]; simp only [l22a, ql22b, ql22a a49 a50c N s0 m]
def m22 (a49 : Y49) (a50c : Y50c) (N : Nat) (s0 : List Ti) : Option Ti :=
   (a49 ([(-1 : Int)] : List Int) (s0.length : Int)).bind fun r1 =>
   chk (mkOk (s0.length : Int) (s0.length : Int) 8) ((l22a a49 a50c N s0 N (0 : Int) s0 r1))
theorem wm22 (a49 : Y49) (a50c : Y50c) (N : Nat) (s0 : List Ti) : callF (E22 a49 a50c) lv22 N en22 c22 (resOf Tryz.f22) 41 [.dv (.sl (.sl (.int .i64))) s0] [] dec22 = (a49 ([(-1 : Int)] : List Int) (s0.length : Int)).bind fun r1 =>
   chk (mkOk (s0.length : Int) (s0.length : Int) 8) ((R22_0 a49 a50c N N (Sl22a s0 (0 : Int) s0 r1))) := by kernel_rfl
theorem k22 (a49 : Y49) (a50c : Y50c) (N : Nat) (s0 : List Ti) : callF (E22 a49 a50c) lv22 N en22 c22 (resOf Tryz.f22) 41 [.dv (.sl (.sl (.int .i64))) s0] [] dec22 = m22 a49 a50c N s0 := by rw [wm22]; simp only [m22, ql22a]
theorem ok22 (a49 : Y49) (a50c : Y50c) (h49 : FnOk Tryz.prog 49 (F49 a49)) (h50c : FnOk Tryz.prog 50 (F50c a50c)) (a : Y22) (h : ∀ s0 r, a s0 = some r → (∃ N, m22 a49 a50c N s0 = some r)) : FnOk Tryz.prog 22 (F22 a) := by
 intro args Of x hx
 simp only [F22] at hx
 split at hx
 ·rename_i s0
  obtain ⟨N, hN⟩ := h _ _ hx
  refine lifted (L := [(49, F49 a49), (50, F50c a50c)]) (rc := (fun i => ([(3, [some (.arr 0 (.int .i64))])] : List (Nat × List (Option DT))).lookup i)) (fz := nfz) (fn := Tryz.f22) (by kernel_rfl) (by kernel_rfl) (by kernel_rfl) (by kernel_rfl) rfl ?_ ((k22 a49 a50c N _).trans hN) ?_
  ·intro p hp; simp only [List.mem_cons, List.not_mem_nil, or_false] at hp; rcases hp with rfl | rfl
   ·exact h49
   ·exact h50c
  ·intro l o hd
   simp only [dec22] at hd
   split at hd
   ·obtain rfl := Option.some.inj hd; exact ⟨rfl, rfl⟩
   ·cases hd
 ·cases hx
def E6 (a20 : Y20) (a21 : Y21) (a22 : Y22) : Env := mkE TI TY [(20, F20 a20), (21, F21 a21), (22, F22 a22)] (fun i => ([(14, [some (.int .i64), none]), (56, [some (.int .i64), none])] : List (Nat × List (Option DT))).lookup i) nfz
noncomputable def c6 : Code := bodyOf Tryz.f6
def nm6_0 : Norm := ⟨[0, 6, 8], [1291500], [(.slot 9, 1009, .pair (.int .i64) (.pair (.sl (.int .i64)) (.unit)))], []⟩
def nm6_1 : Norm := ⟨[0, 6, 8, 9, 10, 11, 35, 36, 37], [1291500, 1009, 1331500], [], []⟩
def nm6_2 : Norm := ⟨[0, 6, 8, 9, 11, 14, 57, 58, 59], [1291500, 1009, 14, 1331500, 55], [], []⟩
def lv6 : Nat → Option Norm := norms [(6, nm6_0), (10, nm6_1), (16, nm6_2)]
def en6 : End := ⟨[(102, .sl (.pair (.int .i64) (.pair (.sl (.int .i64)) (.unit))))], ⟨[102, 103], [], [], []⟩⟩
def dec6 (l : List TV) (o : List (Nat × TO)) : Option (List (Int × List Int × Unit) × Int) := match l, o with | [.dv (.sl (.pair (.int .i64) (.pair (.sl (.int .i64)) (.unit)))) x0, .dv (.int .i64) x1], [] => some (x0, x1) | _, _ => none
def Sl6c (work0 : List Ti) (left6_a : Int) (out9_a : List (Int × List Int × Unit)) (r3 : List Int) (n11_b : Int) (t59_c : Int) (o1291500_c : List Ti) (o55_c : List Int) : TS := ⟨slots 102 [(0, .dv (.sl (.sl (.int .i64))) work0), (6, .dv (.int .i64) left6_a), (8, .row 1291500), (9, .row 1009), (11, .dv (.int .i64) n11_b), (14, .ptr 14 0 []), (57, .row 1331500), (58, .dv (.int .i64) (r3.length : Int)), (59, .dv (.int .i64) t59_c)], [(1291500, .mat (.int .i64) o1291500_c none), (1009, .row (.pair (.int .i64) (.pair (.sl (.int .i64)) (.unit))) out9_a), (14, .rcd [.dv (.int .i64) n11_b, .row 55]), (1331500, .row (.int .i64) r3), (55, .row (.int .i64) o55_c)]⟩
def Sl6b (work0 : List Ti) (left6_a : Int) (out9_a : List (Int × List Int × Unit)) (r3 : List Int) (n11_b : Int) (t37_b : Int) (o1291500_b : List Ti) : TS := ⟨slots 102 [(0, .dv (.sl (.sl (.int .i64))) work0), (6, .dv (.int .i64) left6_a), (8, .row 1291500), (9, .row 1009), (10, .row 1331500), (11, .dv (.int .i64) n11_b), (35, .row 1331500), (36, .dv (.int .i64) (r3.length : Int)), (37, .dv (.int .i64) t37_b)], [(1291500, .mat (.int .i64) o1291500_b none), (1009, .row (.pair (.int .i64) (.pair (.sl (.int .i64)) (.unit))) out9_a), (1331500, .row (.int .i64) r3)]⟩
def Sl6a (work0 : List Ti) (left6_a : Int) (out9_a : List (Int × List Int × Unit)) (o1291500_a : List Ti) : TS := ⟨slots 102 [(0, .dv (.sl (.sl (.int .i64))) work0), (6, .dv (.int .i64) left6_a), (8, .row 1291500), (9, .row 1009)], [(1009, .row (.pair (.int .i64) (.pair (.sl (.int .i64)) (.unit))) out9_a), (1291500, .mat (.int .i64) o1291500_a none)]⟩
noncomputable def K6_0 (a20 : Y20) (a21 : Y21) (a22 : Y22) (N : Nat) : Kont (List (Int × List Int × Unit) × Int) := kont (E6 a20 a21 a22) lv6 N c6 [1, 1, 1, 1, 1, 0, 0] (fin TI en6 (resOf Tryz.f6) dec6)
noncomputable def R6_0 (a20 : Y20) (a21 : Y21) (a22 : Y22) (N : Nat) (m : Nat) : TS → Option (List (Int × List Int × Unit) × Int) := loopK (den (E6 a20 a21 a22) lv6 N (sub c6 [1, 1, 1, 1, 1, 0, 0, 0])) (TS.norm nm6_0) (K6_0 a20 a21 a22 N) m
noncomputable def K6_1 (a20 : Y20) (a21 : Y21) (a22 : Y22) (N : Nat) (T6_0 : TS → Option (List (Int × List Int × Unit) × Int)) : Kont (List (Int × List Int × Unit) × Int) := kont (E6 a20 a21 a22) lv6 N (sub c6 [1, 1, 1, 1, 1, 0, 0, 0]) [1, 0, 1, 1, 0, 1, 0] (kloop (TS.norm nm6_0) (K6_0 a20 a21 a22 N) T6_0)
noncomputable def R6_1 (a20 : Y20) (a21 : Y21) (a22 : Y22) (N : Nat) (T6_0 : TS → Option (List (Int × List Int × Unit) × Int)) (m : Nat) : TS → Option (List (Int × List Int × Unit) × Int) := loopK (den (E6 a20 a21 a22) lv6 N (sub c6 [1, 1, 1, 1, 1, 0, 0, 0, 1, 0, 1, 1, 0, 1, 0, 0])) (TS.norm nm6_1) (K6_1 a20 a21 a22 N T6_0) m
noncomputable def K6_2 (a20 : Y20) (a21 : Y21) (a22 : Y22) (N : Nat) (T6_0 : TS → Option (List (Int × List Int × Unit) × Int)) : Kont (List (Int × List Int × Unit) × Int) := kont (E6 a20 a21 a22) lv6 N (sub c6 [1, 1, 1, 1, 1, 0, 0, 0]) [1, 0, 1, 1, 1, 1, 0, 1, 0] (kloop (TS.norm nm6_0) (K6_0 a20 a21 a22 N) T6_0)
noncomputable def R6_2 (a20 : Y20) (a21 : Y21) (a22 : Y22) (N : Nat) (T6_0 : TS → Option (List (Int × List Int × Unit) × Int)) (m : Nat) : TS → Option (List (Int × List Int × Unit) × Int) := loopK (den (E6 a20 a21 a22) lv6 N (sub c6 [1, 1, 1, 1, 1, 0, 0, 0, 1, 0, 1, 1, 1, 1, 0, 1, 0, 0])) (TS.norm nm6_2) (K6_2 a20 a21 a22 N T6_0) m
def l6c (a20 : Y20) (a21 : Y21) (a22 : Y22) (N : Nat) (work0 : List Ti) (left6_a : Int) (out9_a : List (Int × List Int × Unit)) (r3 : List Int) (n11_b : Int) (rec_l6a : Int → (List (Int × List Int × Unit)) → (List Ti) → Option (List (Int × List Int × Unit) × Int)) : Nat → Int → (List Ti) → Ti → Option (List (Int × List Int × Unit) × Int)
 | 0, _, _, _ => none
 | n + 1, t59_c, o1291500_c, o55_c => cond (decide (t59_c < (r3.length : Int))) (chk (decide (0 ≤ t59_c ∧ t59_c < (r3.length : Int))) (chk (decide (0 ≤ t59_c ∧ t59_c < (o1291500_c.length : Int))) (chk (decide (0 ≤ r3.getD t59_c.toNat (0 : Int) ∧ r3.getD t59_c.toNat (0 : Int) < ((o1291500_c.getD t59_c.toNat ([] : List Int)).length : Int))) (chk (decide (0 ≤ r3.getD t59_c.toNat (0 : Int) ∧ r3.getD t59_c.toNat (0 : Int) < ((o1291500_c.getD t59_c.toNat ([] : List Int)).length : Int))) (cond (decide (t59_c < (work0.length : Int))) (chk (decide (0 ≤ t59_c ∧ t59_c < (o55_c.length : Int))) (chk (decide (0 ≤ (0 : Int) ∧ (0 : Int) < (work0.length : Int))) (cond (decide ((r3.getD t59_c.toNat (0 : Int)) ≥ ((work0.getD 0 ([] : List Int)).length : Int))) (chk (decide (0 ≤ t59_c ∧ t59_c < ((o55_c.set t59_c.toNat (r3.getD t59_c.toNat (0 : Int))).length : Int))) ((l6c a20 a21 a22 N work0 left6_a out9_a r3 n11_b rec_l6a n (w64 (t59_c + (1 : Int))) (o1291500_c.set t59_c.toNat ((o1291500_c.getD t59_c.toNat ([] : List Int)).set ((r3.getD t59_c.toNat (0 : Int)).toNat) (w64 (((o1291500_c.getD t59_c.toNat ([] : List Int)).getD ((r3.getD t59_c.toNat (0 : Int)).toNat) (0 : Int)) - n11_b)))) ((o55_c.set t59_c.toNat (r3.getD t59_c.toNat (0 : Int))).set t59_c.toNat (-1 : Int)))))
   ((l6c a20 a21 a22 N work0 left6_a out9_a r3 n11_b rec_l6a n (w64 (t59_c + (1 : Int))) (o1291500_c.set t59_c.toNat ((o1291500_c.getD t59_c.toNat ([] : List Int)).set ((r3.getD t59_c.toNat (0 : Int)).toNat) (w64 (((o1291500_c.getD t59_c.toNat ([] : List Int)).getD ((r3.getD t59_c.toNat (0 : Int)).toNat) (0 : Int)) - n11_b)))) (o55_c.set t59_c.toNat (r3.getD t59_c.toNat (0 : Int))))))))
   ((l6c a20 a21 a22 N work0 left6_a out9_a r3 n11_b rec_l6a n (w64 (t59_c + (1 : Int))) (o1291500_c.set t59_c.toNat ((o1291500_c.getD t59_c.toNat ([] : List Int)).set ((r3.getD t59_c.toNat (0 : Int)).toNat) (w64 (((o1291500_c.getD t59_c.toNat ([] : List Int)).getD ((r3.getD t59_c.toNat (0 : Int)).toNat) (0 : Int)) - n11_b)))) o55_c)))))))
   (chk (small (out9_a.length + 1) 32) ((rec_l6a (w64 (left6_a - n11_b)) (out9_a ++ ([(n11_b, (o55_c, ()))] : List (Int × List Int × Unit))) o1291500_c)))
theorem wl6c (a20 : Y20) (a21 : Y21) (a22 : Y22) (N : Nat) (work0 : List Ti) (left6_a : Int) (out9_a : List (Int × List Int × Unit)) (r3 : List Int) (n11_b : Int) (T6_0 : TS → Option (List (Int × List Int × Unit) × Int)) (m : Nat) (t59_c : Int) (o1291500_c : List Ti) (o55_c : List Int) : R6_2 a20 a21 a22 N T6_0 (m + 1) (Sl6c work0 left6_a out9_a r3 n11_b t59_c o1291500_c o55_c) = cond (decide (t59_c < (r3.length : Int))) (chk (decide (0 ≤ t59_c ∧ t59_c < (r3.length : Int))) (chk (decide (0 ≤ t59_c ∧ t59_c < (o1291500_c.length : Int))) (chk (decide (0 ≤ r3.getD t59_c.toNat (0 : Int) ∧ r3.getD t59_c.toNat (0 : Int) < ((o1291500_c.getD t59_c.toNat ([] : List Int)).length : Int))) (chk (decide (0 ≤ r3.getD t59_c.toNat (0 : Int) ∧ r3.getD t59_c.toNat (0 : Int) < ((o1291500_c.getD t59_c.toNat ([] : List Int)).length : Int))) (cond (decide (t59_c < (work0.length : Int))) (chk (decide (0 ≤ t59_c ∧ t59_c < (o55_c.length : Int))) (chk (decide (0 ≤ (0 : Int) ∧ (0 : Int) < (work0.length : Int))) (cond (decide ((r3.getD t59_c.toNat (0 : Int)) ≥ ((work0.getD 0 ([] : List Int)).length : Int))) (chk (decide (0 ≤ t59_c ∧ t59_c < ((o55_c.set t59_c.toNat (r3.getD t59_c.toNat (0 : Int))).length : Int))) ((R6_2 a20 a21 a22 N T6_0 m (Sl6c work0 left6_a out9_a r3 n11_b (w64 (t59_c + (1 : Int))) (o1291500_c.set t59_c.toNat ((o1291500_c.getD t59_c.toNat ([] : List Int)).set ((r3.getD t59_c.toNat (0 : Int)).toNat) (w64 (((o1291500_c.getD t59_c.toNat ([] : List Int)).getD ((r3.getD t59_c.toNat (0 : Int)).toNat) (0 : Int)) - n11_b)))) ((o55_c.set t59_c.toNat (r3.getD t59_c.toNat (0 : Int))).set t59_c.toNat (-1 : Int))))))
   ((R6_2 a20 a21 a22 N T6_0 m (Sl6c work0 left6_a out9_a r3 n11_b (w64 (t59_c + (1 : Int))) (o1291500_c.set t59_c.toNat ((o1291500_c.getD t59_c.toNat ([] : List Int)).set ((r3.getD t59_c.toNat (0 : Int)).toNat) (w64 (((o1291500_c.getD t59_c.toNat ([] : List Int)).getD ((r3.getD t59_c.toNat (0 : Int)).toNat) (0 : Int)) - n11_b)))) (o55_c.set t59_c.toNat (r3.getD t59_c.toNat (0 : Int)))))))))
   ((R6_2 a20 a21 a22 N T6_0 m (Sl6c work0 left6_a out9_a r3 n11_b (w64 (t59_c + (1 : Int))) (o1291500_c.set t59_c.toNat ((o1291500_c.getD t59_c.toNat ([] : List Int)).set ((r3.getD t59_c.toNat (0 : Int)).toNat) (w64 (((o1291500_c.getD t59_c.toNat ([] : List Int)).getD ((r3.getD t59_c.toNat (0 : Int)).toNat) (0 : Int)) - n11_b)))) o55_c))))))))
   (chk (small (out9_a.length + 1) 32) ((T6_0 (Sl6a work0 (w64 (left6_a - n11_b)) (out9_a ++ ([(n11_b, (o55_c, ()))] : List (Int × List Int × Unit))) o1291500_c)))) := by kernel_rfl
theorem ql6c (a20 : Y20) (a21 : Y21) (a22 : Y22) (N : Nat) (work0 : List Ti) (left6_a : Int) (out9_a : List (Int × List Int × Unit)) (r3 : List Int) (n11_b : Int) (T6_0 : TS → Option (List (Int × List Int × Unit) × Int)) : ∀ (m : Nat) (t59_c : Int) (o1291500_c : List Ti) (o55_c : List Int), R6_2 a20 a21 a22 N T6_0 m (Sl6c work0 left6_a out9_a r3 n11_b t59_c o1291500_c o55_c) = l6c a20 a21 a22 N work0 left6_a out9_a r3 n11_b (fun y0 y1 y2 => T6_0 (Sl6a work0 y0 y1 y2)) m t59_c o1291500_c o55_c
        | 0, _, _, _ => rfl
        | m + 1, t59_c, o1291500_c, o55_c => by rw [wl6c]; simp only [l6c, ql6c a20 a21 a22 N work0 left6_a out9_a r3 n11_b T6_0 m]
def l6b (a20 : Y20) (a21 : Y21) (a22 : Y22) (N : Nat) (work0 : List Ti) (left6_a : Int) (out9_a : List (Int × List Int × Unit)) (r3 : List Int) (rec_l6a : Int → (List (Int × List Int × Unit)) → (List Ti) → Option (List (Int × List Int × Unit) × Int)) : Nat → Int → Int → (List Ti) → Option (List (Int × List Int × Unit) × Int)
 | 0, _, _, _ => none
 | n + 1, n11_b, t37_b, o1291500_b => cond (decide (t37_b < (r3.length : Int))) (chk (decide (0 ≤ t37_b ∧ t37_b < (r3.length : Int))) (chk (decide (0 ≤ t37_b ∧ t37_b < (o1291500_b.length : Int))) (chk (decide (0 ≤ r3.getD t37_b.toNat (0 : Int) ∧ r3.getD t37_b.toNat (0 : Int) < ((o1291500_b.getD t37_b.toNat ([] : List Int)).length : Int))) ((l6b a20 a21 a22 N work0 left6_a out9_a r3 rec_l6a n (imin n11_b ((o1291500_b.getD t37_b.toNat ([] : List Int)).getD ((r3.getD t37_b.toNat (0 : Int)).toNat) (0 : Int))) (w64 (t37_b + (1 : Int))) (o1291500_b.set t37_b.toNat (o1291500_b.getD t37_b.toNat ([] : List Int))))))))
   (chk (mkOk (work0.length : Int) (work0.length : Int) 8) ((l6c a20 a21 a22 N work0 left6_a out9_a r3 n11_b rec_l6a N (0 : Int) o1291500_b (List.replicate ((work0.length : Int).toNat) (0 : Int)))))
theorem wl6b (a20 : Y20) (a21 : Y21) (a22 : Y22) (N : Nat) (work0 : List Ti) (left6_a : Int) (out9_a : List (Int × List Int × Unit)) (r3 : List Int) (T6_0 : TS → Option (List (Int × List Int × Unit) × Int)) (m : Nat) (n11_b : Int) (t37_b : Int) (o1291500_b : List Ti) : R6_1 a20 a21 a22 N T6_0 (m + 1) (Sl6b work0 left6_a out9_a r3 n11_b t37_b o1291500_b) = cond (decide (t37_b < (r3.length : Int))) (chk (decide (0 ≤ t37_b ∧ t37_b < (r3.length : Int))) (chk (decide (0 ≤ t37_b ∧ t37_b < (o1291500_b.length : Int))) (chk (decide (0 ≤ r3.getD t37_b.toNat (0 : Int) ∧ r3.getD t37_b.toNat (0 : Int) < ((o1291500_b.getD t37_b.toNat ([] : List Int)).length : Int))) ((R6_1 a20 a21 a22 N T6_0 m (Sl6b work0 left6_a out9_a r3 (imin n11_b ((o1291500_b.getD t37_b.toNat ([] : List Int)).getD ((r3.getD t37_b.toNat (0 : Int)).toNat) (0 : Int))) (w64 (t37_b + (1 : Int))) (o1291500_b.set t37_b.toNat (o1291500_b.getD t37_b.toNat ([] : List Int)))))))))
   (chk (mkOk (work0.length : Int) (work0.length : Int) 8) ((R6_2 a20 a21 a22 N T6_0 N (Sl6c work0 left6_a out9_a r3 n11_b (0 : Int) o1291500_b (List.replicate ((work0.length : Int).toNat) (0 : Int)))))) := by kernel_rfl
theorem ql6b (a20 : Y20) (a21 : Y21) (a22 : Y22) (N : Nat) (work0 : List Ti) (left6_a : Int) (out9_a : List (Int × List Int × Unit)) (r3 : List Int) (T6_0 : TS → Option (List (Int × List Int × Unit) × Int)) : ∀ (m : Nat) (n11_b : Int) (t37_b : Int) (o1291500_b : List Ti), R6_1 a20 a21 a22 N T6_0 m (Sl6b work0 left6_a out9_a r3 n11_b t37_b o1291500_b) = l6b a20 a21 a22 N work0 left6_a out9_a r3 (fun y0 y1 y2 => T6_0 (Sl6a work0 y0 y1 y2)) m n11_b t37_b o1291500_b
        | 0, _, _, _ => rfl
        | m + 1, n11_b, t37_b, o1291500_b => by rw [wl6b]; simp only [l6b, ql6c, ql6b a20 a21 a22 N work0 left6_a out9_a r3 T6_0 m]
def l6a (a20 : Y20) (a21 : Y21) (a22 : Y22) (N : Nat) (work0 : List Ti) : Nat → Int → (List (Int × List Int × Unit)) → (List Ti) → Option (List (Int × List Int × Unit) × Int)
 | 0, _, _, _ => none
 | n + 1, left6_a, out9_a, o1291500_a => cond (decide (left6_a > (0 : Int))) ((a22 o1291500_a).bind fun r3 =>
   (l6b a20 a21 a22 N work0 left6_a out9_a r3 (fun y0 y1 y2 => (l6a a20 a21 a22 N work0 n y0 y1 y2)) N left6_a (0 : Int) o1291500_a))
   (some (out9_a, (0 : Int)))
theorem wl6a (a20 : Y20) (a21 : Y21) (a22 : Y22) (N : Nat) (work0 : List Ti) (m : Nat) (left6_a : Int) (out9_a : List (Int × List Int × Unit)) (o1291500_a : List Ti) : R6_0 a20 a21 a22 N (m + 1) (Sl6a work0 left6_a out9_a o1291500_a) = cond (decide (left6_a > (0 : Int))) ((a22 o1291500_a).bind fun r3 =>
   (R6_1 a20 a21 a22 N (R6_0 a20 a21 a22 N m) N (Sl6b work0 left6_a out9_a r3 left6_a (0 : Int) o1291500_a)))
   (some (out9_a, (0 : Int))) := by kernel_rfl
theorem ql6a (a20 : Y20) (a21 : Y21) (a22 : Y22) (N : Nat) (work0 : List Ti) : ∀ (m : Nat) (left6_a : Int) (out9_a : List (Int × List Int × Unit)) (o1291500_a : List Ti), R6_0 a20 a21 a22 N m (Sl6a work0 left6_a out9_a o1291500_a) = l6a a20 a21 a22 N work0 m left6_a out9_a o1291500_a
        | 0, _, _, _ => rfl
        | m + 1, left6_a, out9_a, o1291500_a => by rw [wl6a]; simp only [l6a, ql6b, ql6a a20 a21 a22 N work0 m]
def m6 (a20 : Y20) (a21 : Y21) (a22 : Y22) (N : Nat) (work0 : List Ti) (seats1 : Int) : Option (List (Int × List Int × Unit) × Int) :=
   (a20 work0 seats1).bind fun r1 =>
   cond (r1.2 != (0 : Int)) (some (([] : List (Int × List Int × Unit)), r1.2))
   ((a21 work0 seats1 r1.1).bind fun r2 =>
   (l6a a20 a21 a22 N work0 N r1.1 ([] : List (Int × List Int × Unit)) r2))
theorem wm6 (a20 : Y20) (a21 : Y21) (a22 : Y22) (N : Nat) (work0 : List Ti) (seats1 : Int) : callF (E6 a20 a21 a22) lv6 N en6 c6 (resOf Tryz.f6) 100 [.dv (.sl (.sl (.int .i64))) work0, .dv (.int .i64) seats1] [] dec6 = (a20 work0 seats1).bind fun r1 =>
   cond (r1.2 != (0 : Int)) (some (([] : List (Int × List Int × Unit)), r1.2))
   ((a21 work0 seats1 r1.1).bind fun r2 =>
   (R6_0 a20 a21 a22 N N (Sl6a work0 r1.1 ([] : List (Int × List Int × Unit)) r2))) := by kernel_rfl
theorem k6 (a20 : Y20) (a21 : Y21) (a22 : Y22) (N : Nat) (work0 : List Ti) (seats1 : Int) : callF (E6 a20 a21 a22) lv6 N en6 c6 (resOf Tryz.f6) 100 [.dv (.sl (.sl (.int .i64))) work0, .dv (.int .i64) seats1] [] dec6 = m6 a20 a21 a22 N work0 seats1 := by rw [wm6]; simp only [m6, ql6a]
theorem ok6 (a20 : Y20) (a21 : Y21) (a22 : Y22) (h20 : FnOk Tryz.prog 20 (F20 a20)) (h21 : FnOk Tryz.prog 21 (F21 a21)) (h22 : FnOk Tryz.prog 22 (F22 a22)) (a : Y6) (h : ∀ work0 seats1 r, a work0 seats1 = some r → (∃ N, m6 a20 a21 a22 N work0 seats1 = some r)) : FnOk Tryz.prog 6 (F6 a) := by
 intro args Of x hx
 simp only [F6] at hx
 split at hx
 ·rename_i work0 seats1
  obtain ⟨N, hN⟩ := h _ _ _ hx
  refine lifted (L := [(20, F20 a20), (21, F21 a21), (22, F22 a22)]) (rc := (fun i => ([(14, [some (.int .i64), none]), (56, [some (.int .i64), none])] : List (Nat × List (Option DT))).lookup i)) (fz := nfz) (fn := Tryz.f6) (by kernel_rfl) (by kernel_rfl) (by kernel_rfl) (by kernel_rfl) rfl ?_ ((k6 a20 a21 a22 N _ _).trans hN) ?_
  ·intro p hp; simp only [List.mem_cons, List.not_mem_nil, or_false] at hp; rcases hp with rfl | rfl | rfl
   ·exact h20
   ·exact h21
   ·exact h22
  ·intro l o hd
   simp only [dec6] at hd
   split at hd
   ·obtain rfl := Option.some.inj hd; exact ⟨rfl, rfl⟩
   ·cases hd
 ·cases hx
def E3 (a10 : Y10) (a11 : Y11) (a12 : Y12) (a5 : Y5) (a6 : Y6) (a7 : Y7) (a8 : Y8) (a9 : Y9) : Env := mkE TI TY [(10, F10 a10), (11, F11 a11), (12, F12 a12), (5, F5 a5), (6, F6 a6), (7, F7 a7), (8, F8 a8), (9, F9 a9)] nrc nfz
noncomputable def c3 : Code := bodyOf Tryz.f3
def nm3_0 : Norm := ⟨[0, 1, 6], [], [(.slot 5, 1005, .int .i64)], []⟩
def nm3_1 : Norm := ⟨[7, 56, 57], [], [(.slot 8, 1008, .sl (.int .i64))], []⟩
def nm3_2 : Norm := ⟨[7, 16, 17, 105, 106, 107], [104], [], []⟩
def nm3_3 : Norm := ⟨[7, 16, 17, 19, 105, 106, 107, 128, 129, 130], [104, 19], [], []⟩
def nm3_4 : Norm := ⟨[7, 16, 22, 148, 149, 150], [104], [], []⟩
def lv3 : Nat → Option Norm := norms [(3, nm3_0), (11, nm3_1), (22, nm3_2), (27, nm3_3), (36, nm3_4)]
def en3 : End := ⟨[], ⟨[219], [], [], []⟩⟩
def dec3 (l : List TV) (o : List (Nat × TO)) : Option (Bool) := match l, o with | [.dv (.bool) x0], [] => some (x0) | _, _ => none
def Sl3d (l7_b : List Tr) (r2 : List (Int × List Int × Unit) × Int) (day17_c : Int) (t107_c : Int) (t130_d : Int) (o104_d : List Int) : TS := ⟨slots 219 [(7, .dv (.sl (.pair (.int .i64) (.pair (.int .i64) (.unit)))) l7_b), (16, .row 104), (17, .dv (.int .i64) day17_c), (19, .ptr 19 0 []), (105, .dv (.sl (.pair (.int .i64) (.pair (.sl (.int .i64)) (.unit)))) r2.1), (106, .dv (.int .i64) (r2.1.length : Int)), (107, .dv (.int .i64) t107_c), (128, .dv (.sl (.int .i64)) (((r2.1.getD t107_c.toNat ((0 : Int), (([] : List Int), ()))).2).1)), (129, .dv (.int .i64) ((((r2.1.getD t107_c.toNat ((0 : Int), (([] : List Int), ()))).2).1).length : Int)), (130, .dv (.int .i64) t130_d)], [(104, .row (.int .i64) o104_d), (19, .row (.pair (.int .i64) (.pair (.sl (.int .i64)) (.unit))) ([r2.1.getD t107_c.toNat ((0 : Int), (([] : List Int), ()))] : List (Int × List Int × Unit)))]⟩
def Sl3e (l7_b : List Tr) (o104_c : List Int) (late22_e : Int) (t150_e : Int) : TS := ⟨slots 219 [(7, .dv (.sl (.pair (.int .i64) (.pair (.int .i64) (.unit)))) l7_b), (16, .row 104), (22, .dv (.int .i64) late22_e), (148, .dv (.sl (.pair (.int .i64) (.pair (.int .i64) (.unit)))) l7_b), (149, .dv (.int .i64) (l7_b.length : Int)), (150, .dv (.int .i64) t150_e)], [(104, .row (.int .i64) o104_c)]⟩
def Sl3c (l7_b : List Tr) (r2 : List (Int × List Int × Unit) × Int) (day17_c : Int) (t107_c : Int) (o104_c : List Int) : TS := ⟨slots 219 [(7, .dv (.sl (.pair (.int .i64) (.pair (.int .i64) (.unit)))) l7_b), (16, .row 104), (17, .dv (.int .i64) day17_c), (105, .dv (.sl (.pair (.int .i64) (.pair (.sl (.int .i64)) (.unit)))) r2.1), (106, .dv (.int .i64) (r2.1.length : Int)), (107, .dv (.int .i64) t107_c)], [(104, .row (.int .i64) o104_c)]⟩
def Sl3b (l7_b : List Tr) (t56_b : Int) (t57_b : Int) (work8_b : List Ti) : TS := ⟨slots 219 [(7, .dv (.sl (.pair (.int .i64) (.pair (.int .i64) (.unit)))) l7_b), (8, .row 1008), (56, .dv (.int .i64) t56_b), (57, .dv (.int .i64) t57_b)], [(1008, .row (.sl (.int .i64)) work8_b)]⟩
def Sl3a (days0 : List Int) (fines1 : List Int) (i6_a : Int) (f5_a : List Int) : TS := ⟨slots 219 [(0, .dv (.sl (.int .u8)) days0), (1, .dv (.sl (.int .u8)) fines1), (5, .row 1005), (6, .dv (.int .i64) i6_a)], [(1005, .row (.int .i64) f5_a)]⟩
noncomputable def K3_0 (a10 : Y10) (a11 : Y11) (a12 : Y12) (a5 : Y5) (a6 : Y6) (a7 : Y7) (a8 : Y8) (a9 : Y9) (N : Nat) : Kont (Bool) := kont (E3 a10 a11 a12 a5 a6 a7 a8 a9) lv3 N c3 [1, 1, 0, 1, 0] (fin TI en3 (resOf Tryz.f3) dec3)
noncomputable def R3_0 (a10 : Y10) (a11 : Y11) (a12 : Y12) (a5 : Y5) (a6 : Y6) (a7 : Y7) (a8 : Y8) (a9 : Y9) (N : Nat) (m : Nat) : TS → Option (Bool) := loopK (den (E3 a10 a11 a12 a5 a6 a7 a8 a9) lv3 N (sub c3 [1, 1, 0, 1, 0, 0])) (TS.norm nm3_0) (K3_0 a10 a11 a12 a5 a6 a7 a8 a9 N) m
noncomputable def K3_1 (a10 : Y10) (a11 : Y11) (a12 : Y12) (a5 : Y5) (a6 : Y6) (a7 : Y7) (a8 : Y8) (a9 : Y9) (N : Nat) : Kont (Bool) := kont (E3 a10 a11 a12 a5 a6 a7 a8 a9) lv3 N c3 [1, 1, 1, 1, 1, 1, 0, 1, 0] (fin TI en3 (resOf Tryz.f3) dec3)
noncomputable def R3_1 (a10 : Y10) (a11 : Y11) (a12 : Y12) (a5 : Y5) (a6 : Y6) (a7 : Y7) (a8 : Y8) (a9 : Y9) (N : Nat) (m : Nat) : TS → Option (Bool) := loopK (den (E3 a10 a11 a12 a5 a6 a7 a8 a9) lv3 N (sub c3 [1, 1, 1, 1, 1, 1, 0, 1, 0, 0])) (TS.norm nm3_1) (K3_1 a10 a11 a12 a5 a6 a7 a8 a9 N) m
noncomputable def K3_2 (a10 : Y10) (a11 : Y11) (a12 : Y12) (a5 : Y5) (a6 : Y6) (a7 : Y7) (a8 : Y8) (a9 : Y9) (N : Nat) : Kont (Bool) := kont (E3 a10 a11 a12 a5 a6 a7 a8 a9) lv3 N c3 [1, 1, 1, 1, 1, 1, 1, 1, 1, 1, 1, 1, 1, 0, 1, 0] (fin TI en3 (resOf Tryz.f3) dec3)
noncomputable def R3_2 (a10 : Y10) (a11 : Y11) (a12 : Y12) (a5 : Y5) (a6 : Y6) (a7 : Y7) (a8 : Y8) (a9 : Y9) (N : Nat) (m : Nat) : TS → Option (Bool) := loopK (den (E3 a10 a11 a12 a5 a6 a7 a8 a9) lv3 N (sub c3 [1, 1, 1, 1, 1, 1, 1, 1, 1, 1, 1, 1, 1, 0, 1, 0, 0])) (TS.norm nm3_2) (K3_2 a10 a11 a12 a5 a6 a7 a8 a9 N) m
noncomputable def K3_3 (a10 : Y10) (a11 : Y11) (a12 : Y12) (a5 : Y5) (a6 : Y6) (a7 : Y7) (a8 : Y8) (a9 : Y9) (N : Nat) (T3_2 : TS → Option (Bool)) : Kont (Bool) := kont (E3 a10 a11 a12 a5 a6 a7 a8 a9) lv3 N (sub c3 [1, 1, 1, 1, 1, 1, 1, 1, 1, 1, 1, 1, 1, 0, 1, 0, 0]) [1, 1, 0, 0, 1, 1, 0, 1, 0] (kloop (TS.norm nm3_2) (K3_2 a10 a11 a12 a5 a6 a7 a8 a9 N) T3_2)
noncomputable def R3_3 (a10 : Y10) (a11 : Y11) (a12 : Y12) (a5 : Y5) (a6 : Y6) (a7 : Y7) (a8 : Y8) (a9 : Y9) (N : Nat) (T3_2 : TS → Option (Bool)) (m : Nat) : TS → Option (Bool) := loopK (den (E3 a10 a11 a12 a5 a6 a7 a8 a9) lv3 N (sub c3 [1, 1, 1, 1, 1, 1, 1, 1, 1, 1, 1, 1, 1, 0, 1, 0, 0, 1, 1, 0, 0, 1, 1, 0, 1, 0, 0])) (TS.norm nm3_3) (K3_3 a10 a11 a12 a5 a6 a7 a8 a9 N T3_2) m
noncomputable def K3_4 (a10 : Y10) (a11 : Y11) (a12 : Y12) (a5 : Y5) (a6 : Y6) (a7 : Y7) (a8 : Y8) (a9 : Y9) (N : Nat) : Kont (Bool) := kont (E3 a10 a11 a12 a5 a6 a7 a8 a9) lv3 N c3 [1, 1, 1, 1, 1, 1, 1, 1, 1, 1, 1, 1, 1, 1, 1, 0, 1, 0] (fin TI en3 (resOf Tryz.f3) dec3)
noncomputable def R3_4 (a10 : Y10) (a11 : Y11) (a12 : Y12) (a5 : Y5) (a6 : Y6) (a7 : Y7) (a8 : Y8) (a9 : Y9) (N : Nat) (m : Nat) : TS → Option (Bool) := loopK (den (E3 a10 a11 a12 a5 a6 a7 a8 a9) lv3 N (sub c3 [1, 1, 1, 1, 1, 1, 1, 1, 1, 1, 1, 1, 1, 1, 1, 0, 1, 0, 0])) (TS.norm nm3_4) (K3_4 a10 a11 a12 a5 a6 a7 a8 a9 N) m
def l3d (a10 : Y10) (a11 : Y11) (a12 : Y12) (a5 : Y5) (a6 : Y6) (a7 : Y7) (a8 : Y8) (a9 : Y9) (N : Nat) (l7_b : List Tr) (r2 : List (Int × List Int × Unit) × Int) (day17_c : Int) (t107_c : Int) (rec_l3c : Int → Int → Ti → Option (Bool)) : Nat → Int → Ti → Option (Bool)
 | 0, _, _ => none
 | n + 1, t130_d, o104_d => cond (decide (t130_d < ((((r2.1.getD t107_c.toNat ((0 : Int), (([] : List Int), ()))).2).1).length : Int))) (chk (decide (0 ≤ t130_d ∧ t130_d < ((((r2.1.getD t107_c.toNat ((0 : Int), (([] : List Int), ()))).2).1).length : Int))) (cond (((((r2.1.getD t107_c.toNat ((0 : Int), (([] : List Int), ()))).2).1).getD t130_d.toNat (0 : Int)) == (0 : Int)) (chk (decide (0 ≤ t130_d ∧ t130_d < (o104_d.length : Int))) ((l3d a10 a11 a12 a5 a6 a7 a8 a9 N l7_b r2 day17_c t107_c rec_l3c n (w64 (t130_d + (1 : Int))) (o104_d.set t130_d.toNat (w64 (day17_c + (1 : Int)))))))
   ((l3d a10 a11 a12 a5 a6 a7 a8 a9 N l7_b r2 day17_c t107_c rec_l3c n (w64 (t130_d + (1 : Int))) o104_d))))
   ((rec_l3c (w64 (day17_c + ((r2.1.getD t107_c.toNat ((0 : Int), (([] : List Int), ()))).1))) (w64 (t107_c + (1 : Int))) o104_d))
theorem wl3d (a10 : Y10) (a11 : Y11) (a12 : Y12) (a5 : Y5) (a6 : Y6) (a7 : Y7) (a8 : Y8) (a9 : Y9) (N : Nat) (l7_b : List Tr) (r2 : List (Int × List Int × Unit) × Int) (day17_c : Int) (t107_c : Int) (T3_2 : TS → Option (Bool)) (m : Nat) (t130_d : Int) (o104_d : List Int) : R3_3 a10 a11 a12 a5 a6 a7 a8 a9 N T3_2 (m + 1) (Sl3d l7_b r2 day17_c t107_c t130_d o104_d) = cond (decide (t130_d < ((((r2.1.getD t107_c.toNat ((0 : Int), (([] : List Int), ()))).2).1).length : Int))) (chk (decide (0 ≤ t130_d ∧ t130_d < ((((r2.1.getD t107_c.toNat ((0 : Int), (([] : List Int), ()))).2).1).length : Int))) (cond (((((r2.1.getD t107_c.toNat ((0 : Int), (([] : List Int), ()))).2).1).getD t130_d.toNat (0 : Int)) == (0 : Int)) (chk (decide (0 ≤ t130_d ∧ t130_d < (o104_d.length : Int))) ((R3_3 a10 a11 a12 a5 a6 a7 a8 a9 N T3_2 m (Sl3d l7_b r2 day17_c t107_c (w64 (t130_d + (1 : Int))) (o104_d.set t130_d.toNat (w64 (day17_c + (1 : Int))))))))
   ((R3_3 a10 a11 a12 a5 a6 a7 a8 a9 N T3_2 m (Sl3d l7_b r2 day17_c t107_c (w64 (t130_d + (1 : Int))) o104_d)))))
   ((T3_2 (Sl3c l7_b r2 (w64 (day17_c + ((r2.1.getD t107_c.toNat ((0 : Int), (([] : List Int), ()))).1))) (w64 (t107_c + (1 : Int))) o104_d))) := by kernel_rfl
theorem ql3d (a10 : Y10) (a11 : Y11) (a12 : Y12) (a5 : Y5) (a6 : Y6) (a7 : Y7) (a8 : Y8) (a9 : Y9) (N : Nat) (l7_b : List Tr) (r2 : List (Int × List Int × Unit) × Int) (day17_c : Int) (t107_c : Int) (T3_2 : TS → Option (Bool)) : ∀ (m : Nat) (t130_d : Int) (o104_d : List Int), R3_3 a10 a11 a12 a5 a6 a7 a8 a9 N T3_2 m (Sl3d l7_b r2 day17_c t107_c t130_d o104_d) = l3d a10 a11 a12 a5 a6 a7 a8 a9 N l7_b r2 day17_c t107_c (fun y0 y1 y2 => T3_2 (Sl3c l7_b r2 y0 y1 y2)) m t130_d o104_d
        | 0, _, _ => rfl
        | m + 1, t130_d, o104_d => by rw [wl3d]; simp only [l3d, ql3d a10 a11 a12 a5 a6 a7 a8 a9 N l7_b r2 day17_c t107_c T3_2 m]
def l3e (a10 : Y10) (a11 : Y11) (a12 : Y12) (a5 : Y5) (a6 : Y6) (a7 : Y7) (a8 : Y8) (a9 : Y9) (N : Nat) (l7_b : List Tr) (o104_c : List Int) : Nat → Int → Int → Option (Bool)
 | 0, _, _ => none
 | n + 1, late22_e, t150_e => cond (decide (t150_e < (l7_b.length : Int))) (chk (decide (0 ≤ t150_e ∧ t150_e < (l7_b.length : Int))) (chk (decide (0 ≤ t150_e ∧ t150_e < (o104_c.length : Int))) (cond (decide ((o104_c.getD t150_e.toNat (0 : Int)) < (1 : Int))) (some false)
   (chk (decide (0 ≤ t150_e ∧ t150_e < (o104_c.length : Int))) (cond (decide ((o104_c.getD t150_e.toNat (0 : Int)) > (l7_b.length : Int))) (some false)
   (chk (decide (0 ≤ t150_e ∧ t150_e < (o104_c.length : Int))) (cond (decide ((o104_c.getD t150_e.toNat (0 : Int)) > ((l7_b.getD t150_e.toNat ((0 : Int), ((0 : Int), ()))).1))) ((l3e a10 a11 a12 a5 a6 a7 a8 a9 N l7_b o104_c n (w64 (late22_e + (((l7_b.getD t150_e.toNat ((0 : Int), ((0 : Int), ()))).2).1))) (w64 (t150_e + (1 : Int)))))
   ((l3e a10 a11 a12 a5 a6 a7 a8 a9 N l7_b o104_c n late22_e (w64 (t150_e + (1 : Int))))))))))))
   ((a9 l7_b o104_c).bind fun r5 =>
   (a10 l7_b).bind fun r6 =>
   cond (r5.2 != (0 : Int)) (some false)
   (cond (r6.2 != (0 : Int)) (some false)
   (cond (r5.1 != late22_e) (some false)
   (cond (decide (r6.1 > late22_e)) (some false)
   ((a11 l7_b o104_c).bind fun r7 =>
   cond ((r7 == (0 : Int)) == (late22_e == r6.1)) ((a12).bind fun r8 =>
   some r8)
   (some false))))))
theorem wl3e (a10 : Y10) (a11 : Y11) (a12 : Y12) (a5 : Y5) (a6 : Y6) (a7 : Y7) (a8 : Y8) (a9 : Y9) (N : Nat) (l7_b : List Tr) (o104_c : List Int) (m : Nat) (late22_e : Int) (t150_e : Int) : R3_4 a10 a11 a12 a5 a6 a7 a8 a9 N (m + 1) (Sl3e l7_b o104_c late22_e t150_e) = cond (decide (t150_e < (l7_b.length : Int))) (chk (decide (0 ≤ t150_e ∧ t150_e < (l7_b.length : Int))) (chk (decide (0 ≤ t150_e ∧ t150_e < (o104_c.length : Int))) (cond (decide ((o104_c.getD t150_e.toNat (0 : Int)) < (1 : Int))) (some false)
   (chk (decide (0 ≤ t150_e ∧ t150_e < (o104_c.length : Int))) (cond (decide ((o104_c.getD t150_e.toNat (0 : Int)) > (l7_b.length : Int))) (some false)
   (chk (decide (0 ≤ t150_e ∧ t150_e < (o104_c.length : Int))) (cond (decide ((o104_c.getD t150_e.toNat (0 : Int)) > ((l7_b.getD t150_e.toNat ((0 : Int), ((0 : Int), ()))).1))) ((R3_4 a10 a11 a12 a5 a6 a7 a8 a9 N m (Sl3e l7_b o104_c (w64 (late22_e + (((l7_b.getD t150_e.toNat ((0 : Int), ((0 : Int), ()))).2).1))) (w64 (t150_e + (1 : Int))))))
   ((R3_4 a10 a11 a12 a5 a6 a7 a8 a9 N m (Sl3e l7_b o104_c late22_e (w64 (t150_e + (1 : Int)))))))))))))
   ((a9 l7_b o104_c).bind fun r5 =>
   (a10 l7_b).bind fun r6 =>
   cond (r5.2 != (0 : Int)) (some false)
   (cond (r6.2 != (0 : Int)) (some false)
   (cond (r5.1 != late22_e) (some false)
   (cond (decide (r6.1 > late22_e)) (some false)
   ((a11 l7_b o104_c).bind fun r7 =>
   cond ((r7 == (0 : Int)) == (late22_e == r6.1)) ((a12).bind fun r8 =>
   some r8)
   (some false)))))) := by kernel_rfl
theorem ql3e (a10 : Y10) (a11 : Y11) (a12 : Y12) (a5 : Y5) (a6 : Y6) (a7 : Y7) (a8 : Y8) (a9 : Y9) (N : Nat) (l7_b : List Tr) (o104_c : List Int) : ∀ (m : Nat) (late22_e : Int) (t150_e : Int), R3_4 a10 a11 a12 a5 a6 a7 a8 a9 N m (Sl3e l7_b o104_c late22_e t150_e) = l3e a10 a11 a12 a5 a6 a7 a8 a9 N l7_b o104_c m late22_e t150_e
        | 0, _, _ => rfl
        | m + 1, late22_e, t150_e => by rw [wl3e]; simp only [l3e, ql3e a10 a11 a12 a5 a6 a7 a8 a9 N l7_b o104_c m]
def l3c (a10 : Y10) (a11 : Y11) (a12 : Y12) (a5 : Y5) (a6 : Y6) (a7 : Y7) (a8 : Y8) (a9 : Y9) (N : Nat) (l7_b : List Tr) (r2 : List (Int × List Int × Unit) × Int) : Nat → Int → Int → Ti → Option (Bool)
 | 0, _, _, _ => none
 | n + 1, day17_c, t107_c, o104_c => cond (decide (t107_c < (r2.1.length : Int))) (chk (decide (0 ≤ t107_c ∧ t107_c < (r2.1.length : Int))) (cond (decide (((r2.1.getD t107_c.toNat ((0 : Int), (([] : List Int), ()))).1) < (1 : Int))) (some false)
   (cond (decide (((r2.1.getD t107_c.toNat ((0 : Int), (([] : List Int), ()))).1) > (6 : Int))) (some false)
   (cond (((((r2.1.getD t107_c.toNat ((0 : Int), (([] : List Int), ()))).2).1).length : Int) != (l7_b.length : Int)) (some false)
   ((l3d a10 a11 a12 a5 a6 a7 a8 a9 N l7_b r2 day17_c t107_c (fun y0 y1 y2 => (l3c a10 a11 a12 a5 a6 a7 a8 a9 N l7_b r2 n y0 y1 y2)) N (0 : Int) o104_c))))))
   ((l3e a10 a11 a12 a5 a6 a7 a8 a9 N l7_b o104_c N (0 : Int) (0 : Int)))
theorem wl3c (a10 : Y10) (a11 : Y11) (a12 : Y12) (a5 : Y5) (a6 : Y6) (a7 : Y7) (a8 : Y8) (a9 : Y9) (N : Nat) (l7_b : List Tr) (r2 : List (Int × List Int × Unit) × Int) (m : Nat) (day17_c : Int) (t107_c : Int) (o104_c : List Int) : R3_2 a10 a11 a12 a5 a6 a7 a8 a9 N (m + 1) (Sl3c l7_b r2 day17_c t107_c o104_c) = cond (decide (t107_c < (r2.1.length : Int))) (chk (decide (0 ≤ t107_c ∧ t107_c < (r2.1.length : Int))) (cond (decide (((r2.1.getD t107_c.toNat ((0 : Int), (([] : List Int), ()))).1) < (1 : Int))) (some false)
   (cond (decide (((r2.1.getD t107_c.toNat ((0 : Int), (([] : List Int), ()))).1) > (6 : Int))) (some false)
   (cond (((((r2.1.getD t107_c.toNat ((0 : Int), (([] : List Int), ()))).2).1).length : Int) != (l7_b.length : Int)) (some false)
   ((R3_3 a10 a11 a12 a5 a6 a7 a8 a9 N (R3_2 a10 a11 a12 a5 a6 a7 a8 a9 N m) N (Sl3d l7_b r2 day17_c t107_c (0 : Int) o104_c)))))))
   ((R3_4 a10 a11 a12 a5 a6 a7 a8 a9 N N (Sl3e l7_b o104_c (0 : Int) (0 : Int)))) := by kernel_rfl
theorem ql3c (a10 : Y10) (a11 : Y11) (a12 : Y12) (a5 : Y5) (a6 : Y6) (a7 : Y7) (a8 : Y8) (a9 : Y9) (N : Nat) (l7_b : List Tr) (r2 : List (Int × List Int × Unit) × Int) : ∀ (m : Nat) (day17_c : Int) (t107_c : Int) (o104_c : List Int), R3_2 a10 a11 a12 a5 a6 a7 a8 a9 N m (Sl3c l7_b r2 day17_c t107_c o104_c) = l3c a10 a11 a12 a5 a6 a7 a8 a9 N l7_b r2 m day17_c t107_c o104_c
        | 0, _, _, _ => rfl
        | m + 1, day17_c, t107_c, o104_c => by rw [wl3c]; simp only [l3c, ql3d, ql3e, ql3c a10 a11 a12 a5 a6 a7 a8 a9 N l7_b r2 m]
def l3b (a10 : Y10) (a11 : Y11) (a12 : Y12) (a5 : Y5) (a6 : Y6) (a7 : Y7) (a8 : Y8) (a9 : Y9) (N : Nat) : Nat → Tq → Int → Int → (List Ti) → Option (Bool)
 | 0, _, _, _, _ => none
 | n + 1, l7_b, t56_b, t57_b, work8_b => cond (decide (t57_b < t56_b)) (chk (small (work8_b.length + 1) 24) ((l3b a10 a11 a12 a5 a6 a7 a8 a9 N n l7_b t56_b (w64 (t57_b + (1 : Int))) (work8_b ++ ([([(1 : Int)] : List Int)] : List Ti)))))
   ((a6 work8_b (1 : Int)).bind fun r2 =>
   (a7 work8_b (1 : Int) r2.1).bind fun r3 =>
   (a8 work8_b (1 : Int)).bind fun r4 =>
   cond (r2.2 != (0 : Int)) (some false)
   (cond (r3.2 != (0 : Int)) (some false)
   (cond (r4.2.2 != (0 : Int)) (some false)
   (cond (r3.1 != (l7_b.length : Int)) (some false)
   (cond ((r4.2.1.length : Int) != (1 : Int)) (some false)
   (chk (mkOk (l7_b.length : Int) (l7_b.length : Int) 8) ((l3c a10 a11 a12 a5 a6 a7 a8 a9 N l7_b r2 N (0 : Int) (0 : Int) (List.replicate ((l7_b.length : Int).toNat) (0 : Int))))))))))
theorem wl3b (a10 : Y10) (a11 : Y11) (a12 : Y12) (a5 : Y5) (a6 : Y6) (a7 : Y7) (a8 : Y8) (a9 : Y9) (N : Nat) (m : Nat) (l7_b : List Tr) (t56_b : Int) (t57_b : Int) (work8_b : List Ti) : R3_1 a10 a11 a12 a5 a6 a7 a8 a9 N (m + 1) (Sl3b l7_b t56_b t57_b work8_b) = cond (decide (t57_b < t56_b)) (chk (small (work8_b.length + 1) 24) ((R3_1 a10 a11 a12 a5 a6 a7 a8 a9 N m (Sl3b l7_b t56_b (w64 (t57_b + (1 : Int))) (work8_b ++ ([([(1 : Int)] : List Int)] : List Ti))))))
   ((a6 work8_b (1 : Int)).bind fun r2 =>
   (a7 work8_b (1 : Int) r2.1).bind fun r3 =>
   (a8 work8_b (1 : Int)).bind fun r4 =>
   cond (r2.2 != (0 : Int)) (some false)
   (cond (r3.2 != (0 : Int)) (some false)
   (cond (r4.2.2 != (0 : Int)) (some false)
   (cond (r3.1 != (l7_b.length : Int)) (some false)
   (cond ((r4.2.1.length : Int) != (1 : Int)) (some false)
   (chk (mkOk (l7_b.length : Int) (l7_b.length : Int) 8) ((R3_2 a10 a11 a12 a5 a6 a7 a8 a9 N N (Sl3c l7_b r2 (0 : Int) (0 : Int) (List.replicate ((l7_b.length : Int).toNat) (0 : Int))))))))))) := by kernel_rfl
theorem ql3b (a10 : Y10) (a11 : Y11) (a12 : Y12) (a5 : Y5) (a6 : Y6) (a7 : Y7) (a8 : Y8) (a9 : Y9) (N : Nat) : ∀ (m : Nat) (l7_b : List Tr) (t56_b : Int) (t57_b : Int) (work8_b : List Ti), R3_1 a10 a11 a12 a5 a6 a7 a8 a9 N m (Sl3b l7_b t56_b t57_b work8_b) = l3b a10 a11 a12 a5 a6 a7 a8 a9 N m l7_b t56_b t57_b work8_b
        | 0, _, _, _, _ => rfl
        | m + 1, l7_b, t56_b, t57_b, work8_b => by rw [wl3b]; simp only [l3b, ql3c, ql3b a10 a11 a12 a5 a6 a7 a8 a9 N m]
def l3a (a10 : Y10) (a11 : Y11) (a12 : Y12) (a5 : Y5) (a6 : Y6) (a7 : Y7) (a8 : Y8) (a9 : Y9) (N : Nat) (days0 : List Int) (fines1 : List Int) : Nat → Int → Ti → Option (Bool)
 | 0, _, _ => none
 | n + 1, i6_a, f5_a => cond (decide (i6_a < (fines1.length : Int))) (cond (decide (i6_a < (6 : Int))) (chk (decide (0 ≤ i6_a ∧ i6_a < (fines1.length : Int))) (chk (small (f5_a.length + 1) 8) ((l3a a10 a11 a12 a5 a6 a7 a8 a9 N days0 fines1 n (w64 (i6_a + (1 : Int))) (f5_a ++ ([Int.tmod (w64 (fines1.getD i6_a.toNat (0 : Int))) (50 : Int)] : List Int))))))
   (cond ((f5_a.length : Int) == (0 : Int)) (chk (small (f5_a.length + 1) 8) ((a5 days0 (f5_a ++ ([(3 : Int)] : List Int))).bind fun r1 =>
   (l3b a10 a11 a12 a5 a6 a7 a8 a9 N N r1 (r1.length : Int) (0 : Int) ([] : List Ti))))
   ((a5 days0 f5_a).bind fun r9 =>
   (l3b a10 a11 a12 a5 a6 a7 a8 a9 N N r9 (r9.length : Int) (0 : Int) ([] : List Ti)))))
   (cond ((f5_a.length : Int) == (0 : Int)) (chk (small (f5_a.length + 1) 8) ((a5 days0 (f5_a ++ ([(3 : Int)] : List Int))).bind fun r10 =>
   (l3b a10 a11 a12 a5 a6 a7 a8 a9 N N r10 (r10.length : Int) (0 : Int) ([] : List Ti))))
   ((a5 days0 f5_a).bind fun r11 =>
   (l3b a10 a11 a12 a5 a6 a7 a8 a9 N N r11 (r11.length : Int) (0 : Int) ([] : List Ti))))
theorem wl3a (a10 : Y10) (a11 : Y11) (a12 : Y12) (a5 : Y5) (a6 : Y6) (a7 : Y7) (a8 : Y8) (a9 : Y9) (N : Nat) (days0 : List Int) (fines1 : List Int) (m : Nat) (i6_a : Int) (f5_a : List Int) : R3_0 a10 a11 a12 a5 a6 a7 a8 a9 N (m + 1) (Sl3a days0 fines1 i6_a f5_a) = cond (decide (i6_a < (fines1.length : Int))) (cond (decide (i6_a < (6 : Int))) (chk (decide (0 ≤ i6_a ∧ i6_a < (fines1.length : Int))) (chk (small (f5_a.length + 1) 8) ((R3_0 a10 a11 a12 a5 a6 a7 a8 a9 N m (Sl3a days0 fines1 (w64 (i6_a + (1 : Int))) (f5_a ++ ([Int.tmod (w64 (fines1.getD i6_a.toNat (0 : Int))) (50 : Int)] : List Int)))))))
   (cond ((f5_a.length : Int) == (0 : Int)) (chk (small (f5_a.length + 1) 8) ((a5 days0 (f5_a ++ ([(3 : Int)] : List Int))).bind fun r1 =>
   (R3_1 a10 a11 a12 a5 a6 a7 a8 a9 N N (Sl3b r1 (r1.length : Int) (0 : Int) ([] : List Ti)))))
   ((a5 days0 f5_a).bind fun r9 =>
   (R3_1 a10 a11 a12 a5 a6 a7 a8 a9 N N (Sl3b r9 (r9.length : Int) (0 : Int) ([] : List Ti))))))
   (cond ((f5_a.length : Int) == (0 : Int)) (chk (small (f5_a.length + 1) 8) ((a5 days0 (f5_a ++ ([(3 : Int)] : List Int))).bind fun r10 =>
   (R3_1 a10 a11 a12 a5 a6 a7 a8 a9 N N (Sl3b r10 (r10.length : Int) (0 : Int) ([] : List Ti)))))
   ((a5 days0 f5_a).bind fun r11 =>
   (R3_1 a10 a11 a12 a5 a6 a7 a8 a9 N N (Sl3b r11 (r11.length : Int) (0 : Int) ([] : List Ti))))) := by kernel_rfl
theorem ql3a (a10 : Y10) (a11 : Y11) (a12 : Y12) (a5 : Y5) (a6 : Y6) (a7 : Y7) (a8 : Y8) (a9 : Y9) (N : Nat) (days0 : List Int) (fines1 : List Int) : ∀ (m : Nat) (i6_a : Int) (f5_a : List Int), R3_0 a10 a11 a12 a5 a6 a7 a8 a9 N m (Sl3a days0 fines1 i6_a f5_a) = l3a a10 a11 a12 a5 a6 a7 a8 a9 N days0 fines1 m i6_a f5_a
        | 0, _, _ => rfl
        | m + 1, i6_a, f5_a => by rw [wl3a]; simp only [l3a, ql3b, ql3a a10 a11 a12 a5 a6 a7 a8 a9 N days0 fines1 m]
def m3 (a10 : Y10) (a11 : Y11) (a12 : Y12) (a5 : Y5) (a6 : Y6) (a7 : Y7) (a8 : Y8) (a9 : Y9) (N : Nat) (days0 : List Int) (fines1 : List Int) : Option (Bool) :=
   (l3a a10 a11 a12 a5 a6 a7 a8 a9 N days0 fines1 N (0 : Int) ([] : List Int))
theorem wm3 (a10 : Y10) (a11 : Y11) (a12 : Y12) (a5 : Y5) (a6 : Y6) (a7 : Y7) (a8 : Y8) (a9 : Y9) (N : Nat) (days0 : List Int) (fines1 : List Int) : callF (E3 a10 a11 a12 a5 a6 a7 a8 a9) lv3 N en3 c3 (resOf Tryz.f3) 217 [.dv (.sl (.int .u8)) days0, .dv (.sl (.int .u8)) fines1] [] dec3 = (R3_0 a10 a11 a12 a5 a6 a7 a8 a9 N N (Sl3a days0 fines1 (0 : Int) ([] : List Int))) := by kernel_rfl
theorem k3 (a10 : Y10) (a11 : Y11) (a12 : Y12) (a5 : Y5) (a6 : Y6) (a7 : Y7) (a8 : Y8) (a9 : Y9) (N : Nat) (days0 : List Int) (fines1 : List Int) : callF (E3 a10 a11 a12 a5 a6 a7 a8 a9) lv3 N en3 c3 (resOf Tryz.f3) 217 [.dv (.sl (.int .u8)) days0, .dv (.sl (.int .u8)) fines1] [] dec3 = m3 a10 a11 a12 a5 a6 a7 a8 a9 N days0 fines1 := by rw [wm3]; simp only [m3, ql3a]
theorem ok3 (a10 : Y10) (a11 : Y11) (a12 : Y12) (a5 : Y5) (a6 : Y6) (a7 : Y7) (a8 : Y8) (a9 : Y9) (h10 : FnOk Tryz.prog 10 (F10 a10)) (h11 : FnOk Tryz.prog 11 (F11 a11)) (h12 : FnOk Tryz.prog 12 (F12 a12)) (h5 : FnOk Tryz.prog 5 (F5 a5)) (h6 : FnOk Tryz.prog 6 (F6 a6)) (h7 : FnOk Tryz.prog 7 (F7 a7)) (h8 : FnOk Tryz.prog 8 (F8 a8)) (h9 : FnOk Tryz.prog 9 (F9 a9)) (a : Y3) (h : ∀ days0 fines1 r, a days0 fines1 = some r → (∃ N, m3 a10 a11 a12 a5 a6 a7 a8 a9 N days0 fines1 = some r)) : FnOk Tryz.prog 3 (F3 a) := by
 intro args Of x hx
 simp only [F3] at hx
 split at hx
 ·rename_i days0 fines1
  obtain ⟨N, hN⟩ := h _ _ _ hx
  refine lifted (L := [(10, F10 a10), (11, F11 a11), (12, F12 a12), (5, F5 a5), (6, F6 a6), (7, F7 a7), (8, F8 a8), (9, F9 a9)]) (rc := nrc) (fz := nfz) (fn := Tryz.f3) (by kernel_rfl) (by kernel_rfl) (by kernel_rfl) (by kernel_rfl) rfl ?_ ((k3 a10 a11 a12 a5 a6 a7 a8 a9 N _ _).trans hN) ?_
  ·intro p hp; simp only [List.mem_cons, List.not_mem_nil, or_false] at hp; rcases hp with rfl | rfl | rfl | rfl | rfl | rfl | rfl | rfl
   ·exact h10
   ·exact h11
   ·exact h12
   ·exact h5
   ·exact h6
   ·exact h7
   ·exact h8
   ·exact h9
  ·intro l o hd
   simp only [dec3] at hd
   split at hd
   ·obtain rfl := Option.some.inj hd; exact ⟨rfl, rfl⟩
   ·cases hd
 ·cases hx
noncomputable def c4 : Code := bodyOf Tryz.f4
end Go.Proofs.YtjcnfpfldocpdaaGreatDoor
