/-
 Lifting Go functions to plain Lean functions, parts A GV B C Y D E F G H.
-/
import Derived.WalkKit
import Derived.RangeFuncNested
import Derived.RangeFuncIn
import Derived.RangeFuncLeaves
import Derived.TacticsIn
import Derived.OrdersIn
import Derived.ControlIn
import Derived.RangeFuncCalls
namespace Go.Proofs.YtfopcfnggdonkaaGreatDoor
open Go.RowKit
set_option linter.unusedVariables false
theorem aC.{u} {α : Type u} {a b : α} (h : some a = some b) : a = b := Option.some.inj h
theorem aS.{u} {α : Type u} {a b : α} : (some a = some b) = (a = b) := Option.some.injEq a b
theorem bC (a b : Bool) : ((a && b) = true) = (a = true /\ b = true) := Bool.and_eq_true a b
theorem fH {p : Prop} [Decidable p] : (decide p = true) = p := decide_eq_true_eq
theorem bJ.{u, v} {α : Type u} {β : Type v} {a c : α} {b d : β} : ((a, b) = (c, d)) = (a = c /\ b = d) := Prod.mk.injEq a b c d
section
inductive DT where
 | unit
 | int (k : IntKind)
 | bool
 | str
 | sl (t : DT)
 | jT (t : DT)
 | fJ (t : DT)
 | fp (t : DT)
 | arr (n : Nat) (t : DT)
 | pair (a b : DT)
 | dM (t : DT)
 | rY
 | iT (T : Nat) (t r : DT)
 deriving DecidableEq
@[reducible] def DT.den : DT -> Type
 | .unit => Unit
 | .int _ => Int
 | .bool => Bool
 | .str => List UInt8
 | .sl t => List t.den
 | .jT t => List t.den
 | .fJ t => Option (List t.den)
 | .fp t => Option t.den
 | .arr _ t => List t.den
 | .pair a b => a.den × b.den
 | .dM t => t.den
 | .rY => Unit
 | .iT _ t r => t.den ⊕ r.den
def DT.dflt : (t : DT) -> t.den
 | .unit => ()
 | .int _ => (0 : Int)
 | .bool => false
 | .str => []
 | .sl _ => []
 | .jT _ => []
 | .fJ _ => none
 | .fp _ => none
 | .arr n t => List.replicate n t.dflt
 | .pair a b => (a.dflt, b.dflt)
 | .dM t => t.dflt
 | .rY => ()
 | .iT _ _ r => .inr r.dflt
def DT.size : DT -> Nat
 | .unit => 0
 | .arr n t => n * t.size
 | .pair a b => a.size + b.size
 | .dM _ => 0
 | _ => 1
def DT.agg : DT -> Bool
 | .unit => true
 | .arr _ _ => true
 | .pair _ _ => true
 | _ => false
def DT.plain : DT -> Bool
 | .sl t => t.plain
 | .jT t => t.plain
 | .fJ t => t.plain
 | .fp t => t.plain
 | .arr _ t => t.plain
 | .pair a b => a.plain && b.plain
 | .iT _ t r => t.plain && r.plain
 | .dM _ => false
 | _ => true
abbrev CP := World -> (Nat -> Prop) -> Value -> Prop
def lX (fl : Option Addr -> Nat -> Nat -> Prop) (k n : Nat) (f : Nat -> Nat -> CP) : CP := fun w G v =>
 ∃ p cap, v = .slice p n cap /\ n <= cap /\ cap <= maxLen /\ (p = none -> cap = 0) /\ fl p n cap /\
  (0 < n -> ∃ b o, p = some ⟨b, o, none⟩ /\ G b /\ ∀ i, i < n -> ∀ c, c < k -> ∃ u, w.cell? ⟨b, o + i * k + c, none⟩ = some u /\ u.oneCell' = true /\ f i c w G u)
def DT.cell : (t : DT) -> t.den -> Nat -> CP
 | .unit, _, _ => fun _ _ _ => False
 | .int k, x, _ => fun _ _ v => v = .int k x
 | .bool, x, _ => fun _ _ v => v = .bool x
 | .str, x, _ => fun _ _ v => v = .string ⟨⟨x⟩⟩
 | .sl t, l, _ => lX (fun _ _ _ => True) t.size l.length fun i c => t.cell (l.getD i t.dflt) c
 | .jT t, l, _ => lX (fun _ n cap => cap = n) t.size l.length fun i c => t.cell (l.getD i t.dflt) c
 | .fJ t, x, _ => match x with
  | none => fun _ _ v => v = .slice none 0 0
  | some l => lX (fun p _ _ => p ≠ none) t.size l.length fun i c => t.cell (l.getD i t.dflt) c
 | .fp t, x, _ => match x with
  | none => fun _ _ v => v = .pointer none
  | some y => fun w G v => ∃ b o, v = .pointer (some ⟨b, o, none⟩) /\ G b /\ ∀ c, c < t.size -> ∃ u, w.cell? ⟨b, o + c, none⟩ = some u /\ u.oneCell' = true /\ t.cell y c w G u
 | .arr n t, l, j => t.cell (l.getD (j / t.size) t.dflt) (j % t.size)
 | .pair a b, x, j => if j < a.size then a.cell x.1 j else b.cell x.2 (j - a.size)
 | .dM _, _, _ => fun _ _ _ => False
 | .rY, _, _ => fun _ _ v => v = .nilIface
 | .iT T t r, x, _ => match x with
  | .inl y => fun w G v => ∃ u, v = .iface T u /\ u.oneCell' = true /\ t.cell y 0 w G u
  | .inr y => r.cell y 0
def DT.val (t : DT) (x : t.den) : CP := fun w G v =>
 if t.agg = true then ∃ vs : Array Value, v = .agg vs /\ vs.size = t.size /\ ∀ j, j < t.size -> ∃ u, vs[j]? = some u /\ u.oneCell' = true /\ t.cell x j w G u
 else t.cell x 0 w G v
def fG (w : World) (G : Nat -> Prop) (w' : World) (G' : Nat -> Prop) : Prop := ∀ b, G b -> G' b /\ w'.heap[b]? = w.heap[b]?
theorem fG.cell {w w' : World} {G G' : Nat -> Prop} (h : fG w G w' G') {b o : Nat} (hb : G b) : w'.cell? ⟨b, o, none⟩ = w.cell? ⟨b, o, none⟩ :=
 World.cell?_of_block (w := w) (a := ⟨b, o, none⟩) (h b hb).2
theorem lX.mono {w w' : World} {G G' : Nat -> Prop} (h : fG w G w' G') {fl : Option Addr -> Nat -> Nat -> Prop} {k n : Nat} {f g : Nat -> Nat -> CP} (hf : ∀ i c v, f i c w G v -> g i c w' G' v) {v : Value} (hv : lX fl k n f w G v) : lX fl k n g w' G' v := by
 obtain ⟨p, cap, h1, h2, h3, h4, h5, h6⟩ := hv
 refine ⟨p, cap, h1, h2, h3, h4, h5, fun hn => ?_⟩
 obtain ⟨b, o, a1, a2, a3⟩ := h6 hn
 refine ⟨b, o, a1, (h b a2).1, fun i hi c hc => ?_⟩
 obtain ⟨u, b1, b2, b3⟩ := a3 i hi c hc
 exact ⟨u, (h.cell a2).trans b1, b2, hf i c u b3⟩
theorem DT.iE {w w' : World} {G G' : Nat -> Prop} (h : fG w G w' G') : ∀ {t : DT} {x : t.den} {j : Nat} {v : Value}, t.cell x j w G v -> t.cell x j w' G' v := by
 intro t
 induction t with
 | unit => intro x j v hv; exact hv
 | int k => intro x j v hv; exact hv
 | bool => intro x j v hv; exact hv
 | str => intro x j v hv; exact hv
 | sl t ih => intro x j v hv; exact lX.mono h (fun i c v hv => ih hv) hv
 | jT t ih => intro x j v hv; exact lX.mono h (fun i c v hv => ih hv) hv
 | fJ t ih =>
  intro x j v hv
  cases x with
  | none => exact hv
  | some l => exact lX.mono (fl := fun p _ _ => p ≠ none) (k := t.size) (n := l.length) (f := fun i c => t.cell (l.getD i t.dflt) c) (g := fun i c => t.cell (l.getD i t.dflt) c) h (fun i c v hv => ih hv) hv
 | fp t ih =>
  intro x j v hv
  cases x with
  | none => exact hv
  | some y =>
   obtain ⟨b, o, h1, h2, h3⟩ := hv
   refine ⟨b, o, h1, (h b h2).1, fun c hc => ?_⟩
   obtain ⟨u, b1, b2, b3⟩ := h3 c hc
   exact ⟨u, (h.cell h2).trans b1, b2, ih b3⟩
 | arr n t ih => intro x j v hv; exact ih (x := x.getD (j / t.size) t.dflt) (j := j % t.size) hv
 | pair a b iha ihb =>
  intro x j v hv
  simp only [DT.cell] at hv ⊢
  split
  ·rename_i hj; rw [if_pos hj] at hv; exact iha hv
  ·rename_i hj; rw [if_neg hj] at hv; exact ihb hv
 | dM t ih => intro x j v hv; exact hv
 | rY => intro x j v hv; exact hv
 | iT T t r Eh ihr =>
  intro x j v hv
  cases x with
  | inl y => obtain ⟨u, h1, h2, h3⟩ := hv; exact ⟨u, h1, h2, Eh h3⟩
  | inr y => exact ihr (x := y) (j := 0) hv
theorem DT.iD {w w' : World} {G G' : Nat -> Prop} (h : fG w G w' G') {t : DT} {x : t.den} {v : Value} (hv : t.val x w G v) : t.val x w' G' v := by
 unfold DT.val at hv ⊢
 split at hv
 ·rename_i ha
  obtain ⟨vs, h1, h2, h3⟩ := hv
  rw [if_pos ha]
  refine ⟨vs, h1, h2, fun j hj => ?_⟩
  obtain ⟨u, a1, a2, a3⟩ := h3 j hj
  exact ⟨u, a1, a2, DT.iE h a3⟩
 ·rename_i ha; rw [if_neg ha]; exact DT.iE h hv
theorem lX.one {w : World} {G : Nat -> Prop} {fl : Option Addr -> Nat -> Nat -> Prop} {k n : Nat} {f : Nat -> Nat -> CP} {v : Value} (h : lX fl k n f w G v) : v.oneCell' = true := by
 obtain ⟨p, cap, rfl, _⟩ := h; rfl
theorem DT.SG {w : World} {G : Nat -> Prop} : ∀ {t : DT} {x : t.den} {j : Nat} {v : Value}, t.cell x j w G v -> v.oneCell' = true := by
 intro t
 induction t with
 | unit => intro x j v hv; exact hv.elim
 | int k => intro x j v hv; have : v = _ := hv; subst this; rfl
 | bool => intro x j v hv; have : v = _ := hv; subst this; rfl
 | str => intro x j v hv; have : v = _ := hv; subst this; rfl
 | sl t ih => intro x j v hv; exact lX.one hv
 | jT t ih => intro x j v hv; exact lX.one hv
 | fJ t ih =>
  intro x j v hv
  cases x with
  | none => have : v = _ := hv; subst this; rfl
  | some l => exact lX.one (fl := fun p _ _ => p ≠ none) (k := t.size) (n := l.length) (f := fun i c => t.cell (l.getD i t.dflt) c) hv
 | fp t ih =>
  intro x j v hv
  cases x with
  | none => have : v = _ := hv; subst this; rfl
  | some y => obtain ⟨b, o, rfl, _⟩ := hv; rfl
 | arr n t ih => intro x j v hv; exact ih (x := x.getD (j / t.size) t.dflt) (j := j % t.size) hv
 | pair a b iha ihb =>
  intro x j v hv
  simp only [DT.cell] at hv
  split at hv
  ·exact iha hv
  ·exact ihb hv
 | dM t ih => intro x j v hv; exact hv.elim
 | rY => intro x j v hv; have : v = _ := hv; subst this; rfl
 | iT T t r Eh ihr =>
  intro x j v hv
  cases x with
  | inl y => obtain ⟨u, rfl, _⟩ := hv; rfl
  | inr y => exact ihr (x := y) (j := 0) hv
theorem DT.oG {t : DT} (ha : t.agg = true) {x : t.den} {w : World} {G : Nat -> Prop} {v : Value} : t.val x w G v ↔ ∃ vs : Array Value, v = .agg vs /\ vs.size = t.size /\ ∀ j, j < t.size -> ∃ u, vs[j]? = some u /\ u.oneCell' = true /\ t.cell x j w G u := by
 unfold DT.val; rw [if_pos ha]
theorem DT.val_one {t : DT} (ha : t.agg = false) {x : t.den} {w : World} {G : Nat -> Prop} {v : Value} : t.val x w G v ↔ t.cell x 0 w G v := by
 unfold DT.val; rw [if_neg (by simp [ha])]
theorem DT.O5 {t : DT} (ha : t.agg = false) (hp : t.plain = true) : t.size = 1 := by
 cases t <;> first | rfl | (simp [DT.agg] at ha; done) | (simp [DT.plain] at hp; done)
theorem DT.sK {t : DT} (hp : t.plain = true) {x : t.den} {w : World} {G : Nat -> Prop} {v : Value} (h : t.val x w G v) : v.cells.size = t.size /\ ∀ c, c < t.size -> ∃ u, v.cells[c]? = some u /\ u.oneCell' = true /\ t.cell x c w G u := by
 cases ha : t.agg with
 | true =>
  rw [DT.oG ha] at h
  obtain ⟨vs, rfl, h2, h3⟩ := h
  exact ⟨h2, h3⟩
 | false =>
  rw [DT.val_one ha] at h
  have h1 := DT.SG h
  have hc : v.cells = #[v] := by cases v <;> first | rfl | (simp [Value.oneCell'] at h1)
  have hs := DT.O5 ha hp
  rw [hc, hs]
  refine ⟨rfl, fun c hc => ?_⟩
  obtain rfl : c = 0 := by omega
  exact ⟨v, rfl, h1, h⟩
structure Lens (t : DT) where
 u : DT
 get : t.den -> u.den
 put : t.den -> u.den -> t.den
 off : Nat
 fits : t.den -> Bool
def DT.at : (t : DT) -> List Nat -> Option (Lens t)
 | t, [] => some ⟨t, fun x => x, fun _ y => y, 0, fun _ => true⟩
 | .pair a b, i :: p => match i with
  | 0 => match a.at p with
   | some s => some ⟨s.u, fun x => s.get x.1, fun x y => (s.put x.1 y, x.2), s.off, fun x => s.fits x.1⟩
   | none => none
  | j + 1 => match b.at (j :: p) with
   | some s => some ⟨s.u, fun x => s.get x.2, fun x y => (x.1, s.put x.2 y), a.size + s.off, fun x => s.fits x.2⟩
   | none => none
 | .arr n t, i :: p => match t.at p with
  | some s => some ⟨s.u, fun l => s.get (l.getD i t.dflt), fun l y => l.set i (s.put (l.getD i t.dflt) y), i * t.size + s.off, fun l => decide (i < l.length) && s.fits (l.getD i t.dflt)⟩
  | none => none
 | _, _ => none
def DT.inb : (t : DT) -> List Nat -> Prop
 | _, [] => True
 | .pair a b, i :: p => match i with
  | 0 => a.inb p
  | j + 1 => b.inb (j :: p)
 | .arr n t, i :: p => i < n /\ t.inb p
 | _, _ => False
theorem DT.at_nil (t : DT) : t.at [] = some ⟨t, fun x => x, fun _ y => y, 0, fun _ => true⟩ := by cases t <;> rfl
theorem DT.wO (t : DT) : t.inb [] := by cases t <;> trivial
theorem agY {i n k : Nat} (hi : i < n) : i * k + k <= n * k := by
 have := Nat.mul_le_mul_right k (Nat.succ_le_of_lt hi)
 rw [Nat.succ_mul] at this; exact this
theorem DT.DW : ∀ {t : DT} {p : List Nat} {s : Lens t}, t.at p = some s -> t.inb p -> s.off + s.u.size <= t.size /\ ∀ (x : t.den) (c : Nat), c < s.u.size -> t.cell x (s.off + c) = s.u.cell (s.get x) c := by
 intro t p s h hb
 match p with
 | [] => rw [DT.at_nil] at h; obtain rfl := aC h; exact ⟨by simp, fun x c hc => by simp⟩
 | i :: p =>
 induction t generalizing p i with
 | arr n t ih =>
   simp only [DT.at] at h
   simp only [DT.inb] at hb
   split at h
   ·rename_i s' hs'
    obtain rfl := aC h
    have key : s'.off + s'.u.size <= t.size /\ ∀ (x : t.den) (c : Nat), c < s'.u.size -> t.cell x (s'.off + c) = s'.u.cell (s'.get x) c := by
     match p with
     | [] => rw [DT.at_nil] at hs'; obtain rfl := aC hs'; exact ⟨by simp, fun x c hc => by simp⟩
     | j :: p => exact ih j p hs' hb.2
    obtain ⟨h1, h2⟩ := key
    refine ⟨?_, fun x c hc => ?_⟩
    ·show i * t.size + s'.off + s'.u.size <= n * t.size
     have := agY (k := t.size) hb.1
     omega
    ·have hc' : c < s'.u.size := hc
     have hpos : 0 < t.size := by omega
     show t.cell (x.getD ((i * t.size + s'.off + c) / t.size) t.dflt) ((i * t.size + s'.off + c) % t.size) = s'.u.cell (s'.get (x.getD i t.dflt)) c
     rw [show i * t.size + s'.off + c = (s'.off + c) + i * t.size by omega, Nat.add_mul_div_right _ _ hpos, Nat.add_mul_mod_self_right, Nat.div_eq_of_lt (by omega), Nat.mod_eq_of_lt (by omega), Nat.zero_add]
     exact h2 _ c hc'
   ·cases h
 | pair a b iha ihb =>
   cases i with
   | zero =>
    simp only [DT.at] at h
    simp only [DT.inb] at hb
    split at h
    ·rename_i s' hs'
     obtain rfl := aC h
     have key : s'.off + s'.u.size <= a.size /\ ∀ (x : a.den) (c : Nat), c < s'.u.size -> a.cell x (s'.off + c) = s'.u.cell (s'.get x) c := by
      match p with
      | [] => rw [DT.at_nil] at hs'; obtain rfl := aC hs'; exact ⟨by simp, fun x c hc => by simp⟩
      | j :: p => exact iha j p hs' hb
     obtain ⟨h1, h2⟩ := key
     refine ⟨?_, fun x c hc => ?_⟩
     ·show s'.off + s'.u.size <= a.size + b.size; omega
     ·have hc' : c < s'.u.size := hc
      show (if s'.off + c < a.size then a.cell x.1 (s'.off + c) else _) = _
      rw [if_pos (by omega)]; exact h2 _ c hc'
    ·cases h
   | succ i =>
    simp only [DT.at] at h
    simp only [DT.inb] at hb
    split at h
    ·rename_i s' hs'
     obtain rfl := aC h
     obtain ⟨h1, h2⟩ := ihb i p hs' hb
     refine ⟨?_, fun x c hc => ?_⟩
     ·show a.size + s'.off + s'.u.size <= a.size + b.size; omega
     ·have hc' : c < s'.u.size := hc
      show (if a.size + s'.off + c < a.size then a.cell x.1 _ else b.cell x.2 (a.size + s'.off + c - a.size)) = _
      rw [if_neg (by omega), show a.size + s'.off + c - a.size = s'.off + c by omega]; exact h2 _ c hc'
    ·cases h
 | _ => simp [DT.at] at h
theorem Rw {α : Type} (l : List α) (i : Nat) (x d : α) (h : i < l.length) : (l.set i x).getD i d = x := by simp [h]
theorem getD_set_ne {α : Type} (l : List α) (i j : Nat) (x d : α) (h : i ≠ j) : (l.set i x).getD j d = l.getD j d := by simp [List.getD, List.getElem?_set_ne h]
theorem DT.Oi : ∀ {t : DT} {p : List Nat} {s : Lens t}, t.at p = some s -> t.inb p -> ∀ (x : t.den) (y : s.u.den), s.fits x = true -> ∀ c, c < t.size -> t.cell (s.put x y) c = if s.off <= c /\ c < s.off + s.u.size then s.u.cell y (c - s.off) else t.cell x c := by
 intro t p s h hb
 match p with
 | [] => rw [DT.at_nil] at h; obtain rfl := aC h; intro x y hf c hc; simp; intro h; omega
 | i :: p =>
 induction t generalizing p i with
 | arr n t ih =>
   simp only [DT.at] at h
   simp only [DT.inb] at hb
   split at h
   ·rename_i s' hs'
    obtain rfl := aC h
    obtain ⟨h1, h2⟩ := DT.DW hs' hb.2
    have key : ∀ (x : t.den) (y : s'.u.den), s'.fits x = true -> ∀ c, c < t.size -> t.cell (s'.put x y) c = if s'.off <= c /\ c < s'.off + s'.u.size then s'.u.cell y (c - s'.off) else t.cell x c := by
     match p with
     | [] => rw [DT.at_nil] at hs'; obtain rfl := aC hs'; intro x y hf c hc; simp; intro h; omega
     | j :: p => exact ih j p hs' hb.2
    intro x y hf c hc
    simp only [bC, fH] at hf
    have hc' : c < n * t.size := hc
    have hpos : 0 < t.size := by
     rcases Nat.eq_zero_or_pos t.size with h | h
     ·rw [h] at hc'; simp at hc'
     ·exact h
    have hm : c % t.size < t.size := Nat.mod_lt _ hpos
    have hd : c = t.size * (c / t.size) + c % t.size := (Nat.div_add_mod c t.size).symm
    show t.cell ((x.set i (s'.put (x.getD i t.dflt) y)).getD (c / t.size) t.dflt) (c % t.size) = if i * t.size + s'.off <= c /\ c < i * t.size + s'.off + s'.u.size then s'.u.cell y (c - (i * t.size + s'.off)) else t.cell (x.getD (c / t.size) t.dflt) (c % t.size)
    by_cases e : i = c / t.size
    ·rw [<- e, Rw _ _ _ _ hf.1, key _ y hf.2 _ hm]
     rw [<- e, Nat.mul_comm] at hd
     by_cases q : s'.off <= c % t.size /\ c % t.size < s'.off + s'.u.size
     ·rw [if_pos q, if_pos (by omega), show c - (i * t.size + s'.off) = c % t.size - s'.off by omega]
     ·rw [if_neg q, if_neg (by omega)]
    ·rw [getD_set_ne _ _ _ _ _ e, if_neg]
     intro ⟨q1, q2⟩
     apply e
     have : c / t.size = i := by
      rw [show c = (c - i * t.size) + i * t.size by omega, Nat.add_mul_div_right _ _ hpos, Nat.div_eq_of_lt (by omega), Nat.zero_add]
     exact this.symm
   ·cases h
 | pair a b iha ihb =>
   cases i with
   | zero =>
    simp only [DT.at] at h
    simp only [DT.inb] at hb
    split at h
    ·rename_i s' hs'
     obtain rfl := aC h
     obtain ⟨h1, h2⟩ := DT.DW hs' hb
     have key : ∀ (x : a.den) (y : s'.u.den), s'.fits x = true -> ∀ c, c < a.size -> a.cell (s'.put x y) c = if s'.off <= c /\ c < s'.off + s'.u.size then s'.u.cell y (c - s'.off) else a.cell x c := by
      match p with
      | [] => rw [DT.at_nil] at hs'; obtain rfl := aC hs'; intro x y hf c hc; simp; intro h; omega
      | j :: p => exact iha j p hs' hb
     intro x y hf c hc
     show (if c < a.size then a.cell (s'.put x.1 y) c else b.cell x.2 (c - a.size)) = if s'.off <= c /\ c < s'.off + s'.u.size then s'.u.cell y (c - s'.off) else (if c < a.size then a.cell x.1 c else b.cell x.2 (c - a.size))
     by_cases q : c < a.size
     ·rw [if_pos q, if_pos q]; exact key _ y hf _ q
     ·rw [if_neg q, if_neg q, if_neg (by omega)]
    ·cases h
   | succ i =>
    simp only [DT.at] at h
    simp only [DT.inb] at hb
    split at h
    ·rename_i s' hs'
     obtain rfl := aC h
     obtain ⟨h1, h2⟩ := DT.DW hs' hb
     intro x y hf c hc
     have hc' : c < a.size + b.size := hc
     show (if c < a.size then a.cell x.1 c else b.cell (s'.put x.2 y) (c - a.size)) = if a.size + s'.off <= c /\ c < a.size + s'.off + s'.u.size then s'.u.cell y (c - (a.size + s'.off)) else (if c < a.size then a.cell x.1 c else b.cell x.2 (c - a.size))
     by_cases q : c < a.size
     ·rw [if_pos q, if_pos q, if_neg (by omega)]
     ·rw [if_neg q, if_neg q, ihb i p hs' hb _ y hf _ (by omega)]
      by_cases q2 : s'.off <= c - a.size /\ c - a.size < s'.off + s'.u.size
      ·rw [if_pos q2, if_pos (by omega), show c - (a.size + s'.off) = c - a.size - s'.off by omega]
      ·rw [if_neg q2, if_neg (by omega)]
    ·cases h
 | _ => simp [DT.at] at h
theorem DT.acN : ∀ {t : DT} {p : List Nat} {s : Lens t} {i : Nat} {r : Lens s.u}, t.at p = some s -> s.u.at [i] = some r -> ∃ q, t.at (p ++ [i]) = some q /\ q.u = r.u /\ q.off = s.off + r.off := by
 intro t p s i r h hr
 match p with
 | [] => rw [DT.at_nil] at h; obtain rfl := aC h; exact ⟨r, hr, rfl, by simp⟩
 | i' :: p =>
 induction t generalizing p i' with
 | arr n t ih =>
   simp only [DT.at] at h
   split at h
   ·rename_i s' hs'
    obtain rfl := aC h
    have key : ∃ q, t.at (p ++ [i]) = some q /\ q.u = r.u /\ q.off = s'.off + r.off := by
     match p with
     | [] => rw [DT.at_nil] at hs'; obtain rfl := aC hs'; exact ⟨r, hr, rfl, by simp⟩
     | j :: p => exact ih hr j p hs'
    obtain ⟨q, h1, h2, h3⟩ := key
    simp only [List.cons_append, DT.at, h1]
    exact ⟨_, rfl, h2, by show i' * t.size + q.off = i' * t.size + s'.off + r.off; omega⟩
   ·cases h
 | pair a b iha ihb =>
   cases i' with
   | zero =>
    simp only [DT.at] at h
    split at h
    ·rename_i s' hs'
     obtain rfl := aC h
     have key : ∃ q, a.at (p ++ [i]) = some q /\ q.u = r.u /\ q.off = s'.off + r.off := by
      match p with
      | [] => rw [DT.at_nil] at hs'; obtain rfl := aC hs'; exact ⟨r, hr, rfl, by simp⟩
      | j :: p => exact iha hr j p hs'
     obtain ⟨q, h1, h2, h3⟩ := key
     simp only [List.cons_append, DT.at, h1]
     exact ⟨_, rfl, h2, h3⟩
    ·cases h
   | succ i' =>
    simp only [DT.at] at h
    split at h
    ·rename_i s' hs'
     obtain rfl := aC h
     obtain ⟨q, h1, h2, h3⟩ := ihb hr i' p hs'
     simp only [List.cons_append] at h1
     simp only [List.cons_append, DT.at, h1]
     exact ⟨_, rfl, h2, by show a.size + q.off = a.size + s'.off + r.off; omega⟩
    ·cases h
 | _ => simp [DT.at] at h
theorem DT.Uj : ∀ {t : DT} {p : List Nat} {s : Lens t} {i : Nat}, t.at p = some s -> t.inb p -> s.u.inb [i] -> t.inb (p ++ [i]) := by
 intro t p s i h hb hi
 match p with
 | [] => rw [DT.at_nil] at h; obtain rfl := aC h; exact hi
 | i' :: p =>
 induction t generalizing p i' with
 | arr n t ih =>
   simp only [DT.at] at h
   simp only [DT.inb] at hb
   split at h
   ·rename_i s' hs'
    obtain rfl := aC h
    simp only [List.cons_append, DT.inb]
    refine ⟨hb.1, ?_⟩
    match p with
    | [] => rw [DT.at_nil] at hs'; obtain rfl := aC hs'; exact hi
    | j :: p => exact ih hi j p hs' hb.2
   ·cases h
 | pair a b iha ihb =>
   cases i' with
   | zero =>
    simp only [DT.at] at h
    simp only [DT.inb] at hb
    split at h
    ·rename_i s' hs'
     obtain rfl := aC h
     show a.inb (p ++ [i])
     match p with
     | [] => rw [DT.at_nil] at hs'; obtain rfl := aC hs'; exact hi
     | j :: p => exact iha hi j p hs' hb
    ·cases h
   | succ i' =>
    simp only [DT.at] at h
    simp only [DT.inb] at hb
    split at h
    ·rename_i s' hs'
     obtain rfl := aC h
     exact ihb hi i' p hs' hb
    ·cases h
 | _ => simp [DT.at] at h
end
section
def SBK : Bool := true
def QQ : Nat -> Option ((t : DT) × t.den)
 | 0 => some ⟨.arr 256 (.int .u8), ([240, 240, 240, 240, 240, 240, 240, 240, 240, 240, 240, 240, 240, 240, 240, 240, 240, 240, 240, 240, 240, 240, 240, 240, 240, 240, 240, 240, 240, 240, 240, 240, 240, 240, 240, 240, 240, 240, 240, 240, 240, 240, 240, 240, 240, 240, 240, 240, 240, 240, 240, 240, 240, 240, 240, 240, 240, 240, 240, 240, 240, 240, 240, 240, 240, 240, 240, 240, 240, 240, 240, 240, 240, 240, 240, 240, 240, 240, 240, 240, 240, 240, 240, 240, 240, 240, 240, 240, 240, 240, 240, 240, 240, 240, 240, 240, 240, 240, 240, 240, 240, 240, 240, 240, 240, 240, 240, 240, 240, 240, 240, 240, 240, 240, 240, 240, 240, 240, 240, 240, 240, 240, 240, 240, 240, 240, 240, 240, 241, 241, 241, 241, 241, 241, 241, 241, 241, 241, 241, 241, 241, 241, 241, 241, 241, 241, 241, 241, 241, 241, 241, 241, 241, 241, 241, 241, 241, 241, 241, 241, 241, 241, 241, 241, 241, 241, 241, 241, 241, 241, 241, 241, 241, 241, 241, 241, 241, 241, 241, 241, 241, 241, 241, 241, 241, 241, 241, 241, 241, 241, 241, 241, 241, 241, 2, 2, 2, 2, 2, 2, 2, 2, 2, 2, 2, 2, 2, 2, 2, 2, 2, 2, 2, 2, 2, 2, 2, 2, 2, 2, 2, 2, 2, 2, 19, 3, 3, 3, 3, 3, 3, 3, 3, 3, 3, 3, 3, 35, 3, 3, 52, 4, 4, 4, 68, 241, 241, 241, 241, 241, 241, 241, 241, 241, 241, 241] : List Int)⟩
 | 1 => some ⟨.arr 16 (.pair (.int .u8) (.pair (.int .u8) .unit)), ([(128, 191, ()), (160, 191, ()), (128, 159, ()), (144, 191, ()), (128, 143, ()), (0, 0, ()), (0, 0, ()), (0, 0, ()), (0, 0, ()), (0, 0, ()), (0, 0, ()), (0, 0, ()), (0, 0, ()), (0, 0, ()), (0, 0, ()), (0, 0, ())] : List (Int × Int × Unit))⟩
  | _ => none
end
section
inductive TV where
 | any
 | dv (t : DT) (x : t.den)
 | nl
 | cst (v : Value)
 | row (id : Nat)
 | iP (id a b : Nat)
 | ptr (id i : Nat) (p : List Nat)
 | view (id i : Nat) (p : List Nat) (k n a b : Nat)
 | el (t : DT) (x : t.den) (p : List Nat)
 | fn (g : FuncId) (k n : Nat) (f : Nat -> TV)
 | dM (n : Nat) (f : Nat -> TV)
 | st (n : Nat) (f : Nat -> TV)
inductive TO where
 | row (t : DT) (l : List t.den)
 | aV (fs : List TV)
 | map (kt vt : DT) (l : List (kt.den × vt.den))
 | dG (t : DT) (l : List t.den)
 | iter (kt vt : DT) (l : List (kt.den × vt.den)) (cur : Option (kt.den × vt.den))
 | sit (l : List (Int × Int))
 | iI (kt vt : DT) (l : List (kt.den × vt.den))
 | bD (t : DT) (ls : List (List t.den)) (out : Option (Nat × Nat))
 | dead
def TO.live : TO -> Bool
 | .row _ _ => true
 | .aV _ => true
 | .map _ _ _ => true
 | .iter _ _ _ _ => true
 | .sit _ => true
 | .bD _ _ _ => true
 | _ => false
def TO.rZ : TO -> Bool
 | .bD _ _ _ => true
 | _ => false
def TV.size : TV -> Nat
 | .dv t _ => t.size
 | _ => 1
def aP : List TV -> Nat -> Nat
 | x :: r, j + 1 => x.size + aP r j
 | _, _ => 0
def TV.iF (x : TV) (o : Nat) (p : List Nat) : Option Nat :=
 match x with
 | .dv t _ => (t.at p).map fun L => o + L.off
 | _ => match p with
  | [] => some o
  | _ => none
def TV.nU (x : TV) (p : List Nat) : Prop :=
 match x with
 | .dv t _ => t.inb p
 | _ => True
def TO.loc : TO -> Nat -> List Nat -> Option Nat
 | .row t l, i, p => (t.at p).map fun L => i * t.size + L.off
 | .aV fs, i, [] => some i
 | .aV fs, _, j :: p => match fs[j]? with
  | some x => x.iF (aP fs j) p
  | none => none
 | .bD _ _ _, i, [] => some i
 | _, _, _ => none
def TO.oO : TO -> Nat -> List Nat -> Prop
 | .row t l, i, p => i < l.length /\ t.inb p
 | .aV fs, i, [] => True
 | .aV fs, i, j :: p => match fs[j]? with
  | some x => x.nU p
  | none => True
 | .bD _ ls _, i, _ => i < ls.length
 | _, _, _ => True
structure IL where
 g : Option Nat
 q : Nat
 cap : Nat
def iU : Nat -> IL := fun _ => ⟨none, 0, 0⟩
structure Pl where
 g : Option Nat
 q : Nat
 cap : Nat
 sub : Nat -> IL
def IL.pl (p : IL) : Pl := ⟨p.g, p.q, p.cap, iU⟩
def Pl.jB (p : Pl) : IL := ⟨p.g, p.q, p.cap⟩
def Pl.hdr (P : Pl) (n : Nat) : Value :=
 match P.g with
 | none => .slice none 0 0
 | some g => .slice (some ⟨g, P.q, none⟩) n P.cap
theorem Pl.awL {p p' : Pl} (hg : p'.g = p.g) (hq : p'.q = p.q) (hc : p'.cap = p.cap) (n : Nat) : p'.hdr n = p.hdr n := by
 unfold Pl.hdr; rw [hg, hq, hc]
theorem Pl.JC (p : Pl) (n : Nat) : (p.hdr n).oneCell' = true := by unfold Pl.hdr; split <;> rfl
abbrev bF := Nat -> Option TO
def TV.JF : TV -> Bool
 | .dv _ _ => true
 | _ => false
def TV.DY (w : World) (G : Nat -> Prop) (x : TV) (c : Nat) (u : Value) : Prop :=
 match x with
 | .dv t y => t.cell y c w G u
 | _ => True
theorem TV.asQ {w w' : World} {G G' : Nat -> Prop} (h : fG w G w' G') {x : TV} {c : Nat} {u : Value} (hx : x.DY w G c u) : x.DY w' G' c u := by
 cases x with
 | dv t y => exact DT.iE h hx
 | _ => trivial
def IC (w : World) (G : Nat -> Prop) (kt vt : DT) (l : List (kt.den × vt.den)) (v : Value) : Prop :=
 ∃ (lx : List (kt.den × vt.den)), lx.Perm l /\ ∃ (g : Nat) (es : Array MapEntry) (ck : Nat), v = .map (some g) /\ G g /\ w.heap[g]? = some (.map es ck) /\ es.size = lx.length /\
  (∀ (i : Nat) (e : MapEntry), es[i]? = some e -> e.born < ck) /\ (∀ (i j : Nat) (e e' : MapEntry), es[i]? = some e -> es[j]? = some e' -> e.born = e'.born -> i = j) /\
  ∀ (i : Nat) (e : MapEntry), es[i]? = some e -> ∃ x, lx[i]? = some x /\ kt.val x.1 w G e.key /\ vt.val x.2 w G e.val
theorem IC.mono {w w' : World} {G G' : Nat -> Prop} {kt vt : DT} {l : List (kt.den × vt.den)} {v : Value} (h : IC w G kt vt l v) (fz : fG w G w' G') : IC w' G' kt vt l v := by
 obtain ⟨lx, h0, g, es, ck, h1, h2, h3, h4, hb1, hb2, h5⟩ := h
 refine ⟨lx, h0, g, es, ck, h1, (fz g h2).1, (fz g h2).2.trans h3, h4, hb1, hb2, fun i e he => ?_⟩
 obtain ⟨x, a1, a2, a3⟩ := h5 i e he
 exact ⟨x, a1, DT.iD fz a2, DT.iD fz a3⟩
def VR (w : World) (G : Nat -> Prop) (π : Nat -> Pl) (O : bF) : TV -> Value -> Prop
 | .any, _ => True
 | .dv t x, v => t.val x w G v
 | .nl, v => v = .slice none 0 0
 | .cst u, v => v = u
 | .row id, v => match O id with
  | some (.row t l) => v = (π id).hdr l.length
  | some (.map _ _ _) => ∃ g, (π id).g = some g /\ v = .map (some g)
  | some (.iter _ _ _ _) => ∃ g, (π id).g = some g /\ v = .pointer (some ⟨g, 0, none⟩)
  | some (.sit _) => ∃ g, (π id).g = some g /\ v = .pointer (some ⟨g, 0, none⟩)
  | some (.dG t l) => (DT.sl t).cell l 0 w G v
  | some (.iI kt vt l) => IC w G kt vt l v
  | some (.bD _ ls _) => v = (π id).hdr ls.length
  | some _ => True
  | none => False
 | .iP id a b, v => match O id with
  | some (.bD _ _ _) => False
  | some (.row t l) => a <= b /\ b <= l.length /\ ∃ p cp, v = .slice p (b - a) cp /\ b - a <= cp /\ cp <= maxLen /\ (p = none -> cp = 0) /\ (a < b -> ∃ g, (π id).g = some g /\ p = some ⟨g, (π id).q + a * t.size, none⟩)
  | some (.dG t l) => (DT.sl t).cell ((l.take b).drop a) 0 w G v
  | some _ => True
  | none => False
 | .ptr id i p, v => match O id with
  | some o => o.live = true -> ∃ c g, o.loc i p = some c /\ o.oO i p /\ (π id).g = some g /\ v = .pointer (some ⟨g, (π id).q + c, none⟩)
  | none => False
 | .view id i p k n a b, v => match O id with
  | some o => o.live = true -> ∃ c g pp, o.loc i p = some c /\ o.oO i p /\ (π id).g = some g /\ a <= b /\ b <= n /\ n <= maxLen /\ v = .slice (some pp) (b - a) (n - a) /\ (a < b -> pp = ⟨g, (π id).q + c + a * k, none⟩)
  | none => False
 | .el t x p, v => ∃ b o L, t.at p = some L /\ t.inb p /\ v = .pointer (some ⟨b, o + L.off, none⟩) /\ G b /\ ∀ c, c < t.size -> ∃ u, w.cell? ⟨b, o + c, none⟩ = some u /\ u.oneCell' = true /\ t.cell x c w G u
 | .fn g k n f, v => ∃ fs cs : Array Value, v = .func (.func g) fs cs /\ fs.size = k /\ cs.size = n /\ (∀ j, j < k -> ∃ u, fs[j]? = some u /\ VR w G π O (f j) u) /\ ∀ j, j < n -> ∃ u, cs[j]? = some u /\ VR w G π O (f (k + j)) u
 | .dM n f, v => ∃ vs : Array Value, v = .tuple vs /\ vs.size = n /\ ∀ j, j < n -> ∃ u, vs[j]? = some u /\ VR w G π O (f j) u
 | .st n f, v => ∃ vs : Array Value, v = .agg vs /\ vs.size = aP ((List.range n).map f) n /\ ∀ j, j < n -> ∀ c, c < (f j).size -> ∃ u, vs[aP ((List.range n).map f) j + c]? = some u /\ u.oneCell' = true /\ (f j).DY w G c u /\ ((f j).JF = false -> VR w G π O (f j) u)
def TV.mG (w : World) (G : Nat -> Prop) (π : Nat -> Pl) (O : bF) (x : TV) (c : Nat) (u : Value) : Prop :=
 match x with
 | .dv t y => t.cell y c w G u
 | y => VR w G π O y u
theorem TV.auS {w : World} {G : Nat -> Prop} {π : Nat -> Pl} {O : bF} {x : TV} {c : Nat} {u : Value} (h1 : x.DY w G c u) (h2 : x.JF = false -> VR w G π O x u) : x.mG w G π O c u := by
 cases x <;> first | exact h1 | exact h2 rfl
theorem TV.aAK {w : World} {G : Nat -> Prop} {π : Nat -> Pl} {O : bF} {x : TV} {c : Nat} {u : Value} (h : x.mG w G π O c u) : x.DY w G c u /\ (x.JF = false -> VR w G π O x u) := by
 cases x with
 | dv t y => exact ⟨h, fun h => by cases h⟩
 | _ => exact ⟨trivial, fun _ => h⟩
def XN (w : World) (G : Nat -> Prop) (r : Nat) (kt vt : DT) (l : List (kt.den × vt.den)) (cur : Option (kt.den × vt.den)) : Prop :=
 ∃ (lx : List (kt.den × vt.den)), lx.Perm l /\ ∃ (g : Nat) (es : Array MapEntry) (ck : Nat) (seen : Array Nat) (ls : List MapEntry), w.heap[r]? = some (.mapIter (some g) ck seen ck) /\ G g /\ w.heap[g]? = some (.map es ck) /\ (∀ e ∈ es.toList, e.born < ck) /\ (es.toList.map (·.born)).Nodup /\
  ls = (es.toList.filter fun e => !seen.contains e.born) /\ ls.length = lx.length /\ (∀ (i : Nat) (e : MapEntry), ls[i]? = some e -> ∃ x, lx[i]? = some x /\ kt.val x.1 w G e.key /\ vt.val x.2 w G e.val) /\
  ∀ p, cur = some p -> ∃ (e : MapEntry) (aDM : Array Nat), e ∈ es.toList /\ seen = aDM.push e.born /\ kt.val p.1 w G e.key /\ vt.val p.2 w G e.val
theorem XN.mono {w w' : World} {G G' : Nat -> Prop} {r : Nat} {kt vt : DT} {l : List (kt.den × vt.den)} {cur : Option (kt.den × vt.den)} (h : XN w G r kt vt l cur) (fz : fG w G w' G') (hr : w'.heap[r]? = w.heap[r]?) : XN w' G' r kt vt l cur := by
 obtain ⟨lx, h0, g, es, ck, seen, ls, h1, h2, h3, h4, h5, h6, h7, h8, h9⟩ := h
 obtain ⟨f1, f2⟩ := fz g h2
 refine ⟨lx, h0, g, es, ck, seen, ls, hr.trans h1, f1, f2.trans h3, h4, h5, h6, h7, fun i e he => ?_, fun p hp => ?_⟩
 ·obtain ⟨x, a1, a2, a3⟩ := h8 i e he
  exact ⟨x, a1, DT.iD fz a2, DT.iD fz a3⟩
 ·obtain ⟨e, s0, a1, a2, a3, a4⟩ := h9 p hp
  exact ⟨e, s0, a1, a2, DT.iD fz a3, DT.iD fz a4⟩
def kQ (w : World) (g : Nat) (cur : Array Value) (e : TypeId) : Prop := ∃ z : Nat × Nat, w.heap[g]? = some (.cells cur e z) /\ (z = (0, 0) \/ SBK = true /\ cur.size <= z.1)
theorem kQ.of {w : World} {g : Nat} {cur : Array Value} {e : TypeId} (h : w.heap[g]? = some (.cells cur e (0, 0))) : kQ w g cur e := ⟨_, h, .inl rfl⟩
theorem kQ.move {w w' : World} {g : Nat} {cur : Array Value} {e : TypeId} (h : kQ w g cur e) (hw : w'.heap[g]? = w.heap[g]?) : kQ w' g cur e := by
 obtain ⟨z, h1, h2⟩ := h
 exact ⟨z, hw.trans h1, h2⟩
theorem kQ.lt {w : World} {g : Nat} {cur : Array Value} {e : TypeId} (h : kQ w g cur e) : g < w.heap.size := by
 obtain ⟨z, h1, h2⟩ := h
 exact (Array.getElem?_eq_some_iff.1 h1).1
theorem kQ.inj {w : World} {g : Nat} {cur cur' : Array Value} {e e' : TypeId} (h : kQ w g cur e) (h' : kQ w g cur' e') : cur = cur' /\ e = e' := by
 obtain ⟨z, h1, _⟩ := h
 obtain ⟨z', h2, _⟩ := h'
 rw [h1] at h2
 simp only [aS, Obj.cells.injEq] at h2
 exact ⟨h2.1, h2.2.1⟩
def alL : DT -> Option Nat
 | .arr 0 (.arr T .unit) => some T
 | _ => none
def TV.tag : TV -> Option Nat
 | .dv t _ => alL t
 | _ => none
def mW (fs : List TV) : Option Nat := fs.getLast?.bind TV.tag
def Whole (fs : List TV) (cur : Array Value) (e : TypeId) (q : Nat) : Prop := ∀ T, mW fs = some T -> q = 0 /\ e = T /\ cur.size = aP fs fs.length
theorem Whole.on {fs fs' : List TV} {cur cur' : Array Value} {e : TypeId} {q : Nat} (h : Whole fs cur e q) (ht : mW fs' = mW fs) (hs : cur'.size = cur.size) (ho : aP fs' fs'.length = aP fs fs.length) : Whole fs' cur' e q := fun T hT => by
 obtain ⟨h1, h2, h3⟩ := h T (ht ▸ hT)
 exact ⟨h1, h2, by rw [hs, ho]; exact h3⟩
theorem aEA {x : TV} {T : Nat} (h : x.tag = some T) : x.size = 0 := by
 cases x with
 | dv t y =>
  simp only [TV.tag] at h
  unfold alL at h
  split at h
  ·simp [TV.size, DT.size]
  ·cases h
 | _ => cases h
theorem KH {x : TV} (h : 0 < x.size) : x.tag = none := by
 cases ht : x.tag with
 | none => rfl
 | some T => rw [aEA ht] at h; omega
theorem aD9 {fs : List TV} {j : Nat} {x y : TV} (hj : fs[j]? = some x) (hx : 0 < x.size) (hy : 0 < y.size) : mW (fs.set j y) = mW fs := by
 unfold mW
 rw [List.getLast?_eq_getElem?, List.getLast?_eq_getElem?, List.length_set, List.getElem?_set]
 split
 ·rename_i e
  subst e
  split
  ·rw [hj]; simp [KH hx, KH hy]
  ·rename_i h; rw [List.getElem?_eq_none (by omega)]
 ·rfl
theorem Whole.none {fs : List TV} {cur : Array Value} {e : TypeId} {q : Nat} (h : mW fs = none) : Whole fs cur e q := fun T hT => by rw [h] at hT; cases hT
def Ny (x : ByteArray) : Nat -> List (Int × Int) -> Prop
 | n, [] => x.size <= n
 | n, p :: r => n < x.size /\ p = ((n : Int), ((Utf8.decode x n).1 : Int)) /\ Ny x (n + (Utf8.decode x n).2) r
def qJ (w : World) (G : Nat -> Prop) (p : Pl) (t : DT) (l : List t.den) : Prop :=
 (p.g = none /\ l = []) \/ ∃ g cur e, p.g = some g /\ kQ w g cur e /\ l.length <= p.cap /\ p.cap <= maxLen /\ p.q + p.cap * t.size <= cur.size /\
   ∀ i, i < l.length -> ∀ c, c < t.size -> ∃ u, cur[p.q + i * t.size + c]? = some u /\ u.oneCell' = true /\ t.cell (l.getD i t.dflt) c w G u
structure XQ (w : World) (G : Nat -> Prop) (π : Nat -> Pl) (O : bF) (p : Pl) (t : DT) (ls : List (List t.den)) (out : Option (Nat × Nat)) (g : Nat) (cur : Array Value) : Prop where
 cell : ∀ i, i < ls.length -> ∃ u, cur[p.q + i]? = some u /\ u.oneCell' = true /\ ((∀ r, out ≠ some (i, r)) -> u = (p.sub i).pl.hdr (ls.getD i []).length /\ qJ w G (p.sub i).pl t (ls.getD i [])) /\
  ∀ r, out = some (i, r) -> ∃ o, O r = some o /\ ∀ (t' : DT) (l' : List t'.den), o = .row t' l' -> t' = t /\ u = (π r).hdr l'.length
 OI : ∀ i r, out = some (i, r) -> i < ls.length /\ ∃ o, O r = some o /\ o.rZ = false
 apart : ∀ i b, i < ls.length -> (∀ r, out ≠ some (i, r)) -> (p.sub i).g = some b -> b ≠ g /\ ∀ j, j < ls.length -> (∀ r, out ≠ some (j, r)) -> (p.sub j).g = some b -> j = i
def OR (w : World) (G : Nat -> Prop) (π : Nat -> Pl) (O : bF) (id : Nat) : TO -> Prop
 | .row t l => ((π id).g = none /\ l = []) \/ ∃ g cur e, (π id).g = some g /\ kQ w g cur e /\ l.length <= (π id).cap /\ (π id).cap <= maxLen /\ (π id).q + (π id).cap * t.size <= cur.size /\
   ∀ i, i < l.length -> ∀ c, c < t.size -> ∃ u, cur[(π id).q + i * t.size + c]? = some u /\ u.oneCell' = true /\ t.cell (l.getD i t.dflt) c w G u
 | .aV fs => ∃ g cur e, (π id).g = some g /\ (kQ w g cur e /\ Whole fs cur e (π id).q) /\ ∀ (j : Nat) (x : TV), fs[j]? = some x -> ∀ c, c < x.size -> ∃ u, cur[(π id).q + aP fs j + c]? = some u /\ u.oneCell' = true /\ x.mG w G π O c u
 | .map kt vt l => ∃ g es ck, (π id).g = some g /\ w.heap[g]? = some (.map es ck) /\ es.size = l.length /\ (∀ (i : Nat) (e : MapEntry), es[i]? = some e -> e.born < ck) /\ (∀ (i j : Nat) (e e' : MapEntry), es[i]? = some e -> es[j]? = some e' -> e.born = e'.born -> i = j) /\ ∀ (i : Nat) (e : MapEntry), es[i]? = some e -> ∃ x, l[i]? = some x /\ kt.val x.1 w G e.key /\ vt.val x.2 w G e.val
 | .iter kt vt l cur => ∃ r, (π id).g = some r /\ XN w G r kt vt l cur
 | .sit l => ∃ r x n, (π id).g = some r /\ w.heap[r]? = some (.stringIter x n) /\ Ny x n l
 | .bD t ls out => ((π id).g = none /\ ls = [] /\ out = none) \/ ∃ g cur e, (π id).g = some g /\ kQ w g cur e /\ ls.length <= (π id).cap /\ (π id).cap <= maxLen /\ (π id).q + (π id).cap <= cur.size /\ XQ w G π O (π id) t ls out g cur
 | _ => True
theorem XR {w : World} {G : Nat -> Prop} {π : Nat -> Pl} {O : bF} {id : Nat} {t : DT} {l : List t.den} : OR w G π O id (.row t l) ↔ qJ w G (π id) t l := Iff.rfl
structure TS where
 sl : List TV
 ob : List (Nat × TO)
def aA : List (Nat × TO) -> bF
 | [], _ => none
 | (t, o) :: r, i => if i = t then some o else aA r i
def TO.inn : TO -> Pl -> Nat -> Prop
 | .bD _ ls out, p, g => ∃ i, i < ls.length /\ (∀ r, out ≠ some (i, r)) /\ (p.sub i).g = some g
 | _, _, _ => False
def o9 (p : Pl) (o : TO) (g : Nat) : Prop := o.live = true /\ (p.g = some g \/ o.inn p g)
def Own (π : Nat -> Pl) (O : bF) (id g : Nat) : Prop := ∃ o, O id = some o /\ o9 (π id) o g
theorem Own.of {π : Nat -> Pl} {O : bF} {id g : Nat} {o : TO} (h1 : (π id).g = some g) (h2 : O id = some o) (h3 : o.live = true) : Own π O id g := ⟨o, h2, h3, .inl h1⟩
theorem TO.aw' {o : TO} {p : Pl} {g : Nat} (h : o.rZ = false) : ¬ o.inn p g := by
 cases o with
 | bD t ls out => cases h
 | _ => exact fun h => h
theorem o9.g {p : Pl} {o : TO} {g : Nat} (h : o9 p o g) (hm : o.rZ = false) : p.g = some g := h.2.elim (fun h => h) fun h => absurd h (TO.aw' hm)
theorem o9.of {p : Pl} {o : TO} {g : Nat} (h1 : p.g = some g) (h2 : o.live = true) : o9 p o g := ⟨h2, .inl h1⟩
theorem o9.not {p : Pl} {o : TO} {g : Nat} (h : o9 p o g) (hl : o.live = false) : False := by rw [h.1] at hl; cases hl
def Gz (F : Nat -> Prop) (w : World) (π : Nat -> Pl) (O : bF) (b : Nat) : Prop := F b /\ b < w.heap.size /\ ∀ id, ¬ Own π O id b
structure Cx where
 w : World
 kp : Nat -> Prop
 pin : Nat -> Option (Pl × TO)
 EP : Option Nat
 ds : List Nat
 no : List Nat
def Cx.bar (c : Cx) (b : Nat) : Prop := (c.kp b /\ b < c.w.heap.size) \/ b ∈ c.ds \/ b ∈ c.no
def Cx.blk (c : Cx) (b : Nat) : Option Obj := if b ∈ c.ds then some (.deferred (some [])) else c.w.heap[b]?
def FN (D : Nat) : Deferred := { target := .collected D, args := #[] }
structure Kept (c : Cx) (w' : World) : Prop where
 os : w'.os = c.w.os
 tape : w'.tape = c.w.tape
 output : w'.output = c.w.output
 size : c.w.heap.size <= w'.heap.size
 block : ∀ b, c.bar b -> b ∉ c.no -> w'.heap[b]? = c.blk b
 no : ∀ b, b ∈ c.no -> b < w'.heap.size
theorem Kept.lt {c : Cx} {w : World} (h : Kept c w) {b : Nat} (hb : c.bar b) : b < w.heap.size := by
 by_cases q : b ∈ c.no
 ·exact h.no b q
 ·have h1 := h.block b hb q
  unfold Cx.blk at h1
  rcases hb with hb | hb | hb
  ·exact Nat.lt_of_lt_of_le hb.2 h.size
  ·rw [if_pos hb] at h1; exact (Array.getElem?_eq_some_iff.1 h1).1
  ·exact absurd hb q
theorem Kept.onN {c : Cx} {w w' : World} (h : Kept c w) (hos : w'.os = w.os /\ w'.tape = w.tape /\ w'.output = w.output) (hsz : w.heap.size <= w'.heap.size) (hb : ∀ b, c.bar b -> b ∉ c.no -> w'.heap[b]? = w.heap[b]?) : Kept c w' :=
 ⟨hos.1.trans h.os, hos.2.1.trans h.tape, hos.2.2.trans h.output, Nat.le_trans h.size hsz, fun b hb' q => (hb b hb' q).trans (h.block b hb' q), fun b hb => Nat.lt_of_lt_of_le (h.no b hb) hsz⟩
theorem Kept.on {c : Cx} {w w' : World} (h : Kept c w) (hos : w'.os = w.os /\ w'.tape = w.tape /\ w'.output = w.output) (hsz : w.heap.size <= w'.heap.size) (hb : ∀ b, c.bar b -> w'.heap[b]? = w.heap[b]?) : Kept c w' := h.onN hos hsz fun b hb' _ => hb b hb'
def qO : TO -> TO -> Prop
 | .row t l, .row t' l' => t' = t /\ l'.length = l.length
 | .aV fs, .aV fs' => fs'.length = fs.length /\ ∀ (j : Nat) (x : TV), fs[j]? = some x -> ∃ y : TV, fs'[j]? = some y /\ y.size = x.size /\ ∀ o p c, x.iF o p = some c -> x.nU p -> y.iF o p = some c /\ y.nU p
 | .map _ _ _, .map _ _ _ => True
 | .iter _ _ _ _, .iter _ _ _ _ => True
 | .sit _, .sit _ => True
 | _, _ => False
theorem qO.trans {a b d : TO} (h : qO a b) (g : qO b d) : qO a d := by
 cases a <;> cases b <;> first | exact h.elim | (cases d <;> first | exact g.elim | skip)
 ·exact ⟨g.1.trans h.1, g.2.trans h.2⟩
 ·refine ⟨g.1.trans h.1, fun j x hx => ?_⟩
  obtain ⟨y, a1, a2, a3⟩ := h.2 j x hx
  obtain ⟨z, b1, b2, b3⟩ := g.2 j y a1
  exact ⟨z, b1, b2.trans a2, fun o p c h1 h2 => let ⟨q1, q2⟩ := a3 o p c h1 h2; b3 o p c q1 q2⟩
 ·trivial
 ·trivial
 ·trivial
theorem qO.OE {a b : TO} (h : qO a b) : a.rZ = false /\ b.rZ = false := by
 cases a <;> cases b <;> first | exact h.elim | exact ⟨rfl, rfl⟩
theorem qO.refl {o : TO} (h : o.live = true) (hm : o.rZ = false) : qO o o := by
 cases o with
 | bD t ls out => cases hm
 | row t l => exact ⟨rfl, rfl⟩
 | aV fs => exact ⟨rfl, fun j x hx => ⟨x, hx, rfl, fun _ _ _ a b => ⟨a, b⟩⟩⟩
 | map kt vt l => trivial
 | iter kt vt l cur => trivial
 | sit l => trivial
 | dG t l => simp [TO.live] at h
 | iI kt vt l => simp [TO.live] at h
 | dead => simp [TO.live] at h
def wF (w : World) (G : Nat -> Prop) : Prop := ∀ (g : Nat) (t : DT) (x : t.den), QQ g = some ⟨t, x⟩ -> VR w G (fun _ => ⟨none, 0, 0, iU⟩) (fun _ => none) (.el t x []) (.pointer (some ⟨g, 0, none⟩))
structure aI (c : Cx) (F : Nat -> Prop) (π : Nat -> Pl) (s : TS) (a : Act) (w : World) : Prop where
 kept : Kept c w
 hF : ∀ b, ¬ c.bar b -> F b
 defers : a.defers = c.ds.map FN
 size : a.tmps.size = s.sl.length
 slot : ∀ i x, s.sl[i]? = some x -> VR w (Gz F w π (aA s.ob)) π (aA s.ob) x (a.tmps.getD i undef)
 obj : ∀ id o, aA s.ob id = some o -> OR w (Gz F w π (aA s.ob)) π (aA s.ob) id o
 inj : ∀ i j g, Own π (aA s.ob) i g -> Own π (aA s.ob) j g -> i = j
 new : ∀ id g, Own π (aA s.ob) id g -> ¬ c.bar g /\ g < w.heap.size
 pin : ∀ id p o0, c.pin id = some (p, o0) -> ∃ o, aA s.ob id = some o /\ (o.live = true -> π id = p /\ qO o0 o)
 rW : wF w (Gz F w π (aA s.ob))
def Rel (c : Cx) (F : Nat -> Prop) (s : TS) (a : Act) (w : World) : Prop := ∃ π, aI c F π s a w
def Step (w' : World) (G' : Nat -> Prop) (p p' : Pl) : TO -> TO -> Prop
 | _, .dead => True
 | .row t l, .row t' l' => p' = p /\ t' = t /\ l'.length = l.length
 | .row t l, .dG t' l' => TO.dG t' l' = .dG t l /\ (DT.sl t).cell l 0 w' G' (p.hdr l.length)
 | .aV fs, .aV fs' => p' = p /\ fs'.length = fs.length /\ ∀ (j : Nat) (x : TV), fs[j]? = some x -> ∃ y : TV, fs'[j]? = some y /\ y.size = x.size /\ ∀ o p c, x.iF o p = some c -> x.nU p -> y.iF o p = some c /\ y.nU p
 | .map _ _ _, .map _ _ _ => p' = p
 | .iter _ _ _ _, .iter _ _ _ _ => p' = p
 | .sit _, .sit _ => p' = p
 | .map kt vt l, .iI pX qG l' => ∃ l2, TO.iI pX qG l' = .iI kt vt l2 /\ ∀ g, p.g = some g -> IC w' G' kt vt l2 (.map (some g))
 | .iI kt vt l, .iI pX qG l' => TO.iI pX qG l' = .iI kt vt l
 | .dG t l, .dG t' l' => TO.dG t' l' = .dG t l
 | .bD t ls _, .bD t' ls' _ => p'.g = p.g /\ p'.q = p.q /\ p'.cap = p.cap /\ t' = t /\ ls'.length = ls.length
 | .bD t ls _, .dG t' l' => TO.dG t' l' = .dG (.sl t) ls /\ (DT.sl (.sl t)).cell ls 0 w' G' (p.hdr ls.length)
 | _, _ => False
theorem Step.live {w' : World} {G' : Nat -> Prop} {p p' : Pl} {o o' : TO} (h : Step w' G' p p' o o') (hl : o'.live = true) : o.live = true := by
 cases o' <;> first | (simp [TO.live] at hl; done) | (cases o <;> first | rfl | exact h.elim)
theorem Step.shp {w' : World} {G' : Nat -> Prop} {p p' : Pl} {o o' : TO} (h : Step w' G' p p' o o') (hl : o'.live = true) (hm : o.rZ = false) : o.live = true /\ p' = p /\ qO o o' := by
 cases o' with
 | bD t' ls' out' => cases o with
  | bD t ls out => cases hm
  | _ => exact h.elim
 | dead => simp [TO.live] at hl
 | dG t l => simp [TO.live] at hl
 | iI kt vt l => simp [TO.live] at hl
 | row t' l' => cases o with
  | row t l => exact ⟨rfl, h.1, h.2⟩
  | _ => exact h.elim
 | aV fs' => cases o with
  | aV fs => exact ⟨rfl, h.1, h.2⟩
  | _ => exact h.elim
 | map kt vt l => cases o with
  | map pX qG l' => exact ⟨rfl, h, trivial⟩
  | _ => exact h.elim
 | iter kt vt l cur => cases o with
  | iter pX qG l' cur' => exact ⟨rfl, h, trivial⟩
  | _ => exact h.elim
 | sit l => cases o with
  | sit l' => exact ⟨rfl, h, trivial⟩
  | _ => exact h.elim
theorem Step.Ja {w' : World} {G' : Nat -> Prop} {p : Pl} {o o' : TO} (h : qO o o') : Step w' G' p p o o' := by
 cases o <;> cases o' <;> first | exact h.elim | skip
 ·exact ⟨rfl, h⟩
 ·exact ⟨rfl, h⟩
 ·rfl
 ·rfl
 ·rfl
theorem Jd : ∀ {fs fs' : List TV}, fs'.length = fs.length -> (∀ (j : Nat) (x : TV), fs[j]? = some x -> ∃ y : TV, fs'[j]? = some y /\ y.size = x.size) -> ∀ j, aP fs' j = aP fs j
 | [], [], _, _, j => rfl
 | [], y :: r, hl, _, j => by simp at hl
 | x :: r, [], hl, _, j => by simp at hl
 | x :: r, y :: r', hl, h, 0 => rfl
 | x :: r, y :: r', hl, h, j + 1 => by
  obtain ⟨y', hy, hs⟩ := h 0 x rfl
  simp only [List.getElem?_cons_zero, aS] at hy
  subst hy
  simp only [aP, hs]
  rw [Jd (by simpa using hl) (fun j x hx => h (j + 1) x (by simpa using hx)) j]
theorem Step.loc {w' : World} {G' : Nat -> Prop} {p p' : Pl} {o o' : TO} (h : Step w' G' p p' o o') (hl : o'.live = true) {i : Nat} {q : List Nat} {c : Nat} (hc : o.loc i q = some c) (hk : o.oO i q) : o'.loc i q = some c /\ o'.oO i q /\ (p'.g = p.g /\ p'.q = p.q) /\ o.live = true := by
 cases o' with
 | bD t' ls' out' =>
  cases o with
  | bD t ls out =>
   obtain ⟨h1, h2, h3, h4, h5⟩ := h
   cases q with
   | nil => exact ⟨hc, by have : i < ls.length := hk; show i < ls'.length; omega, ⟨h1, h2⟩, rfl⟩
   | cons j q => simp [TO.loc] at hc
  | _ => exact h.elim
 | dead => simp [TO.live] at hl
 | dG t l => simp [TO.live] at hl
 | iI kt vt l => simp [TO.live] at hl
 | row t' l' =>
  cases o with
  | row t l =>
   obtain ⟨h1, rfl, h3⟩ := h
   exact ⟨hc, ⟨h3 ▸ hk.1, hk.2⟩, ⟨by rw [h1], by rw [h1]⟩, rfl⟩
  | _ => exact h.elim
 | map kt vt l =>
  cases o with
  | map kt vt l => simp [TO.loc] at hc
  | _ => exact h.elim
 | iter kt vt l cur =>
  cases o with
  | iter kt vt l cur => simp [TO.loc] at hc
  | _ => exact h.elim
 | sit l =>
  cases o with
  | sit l => simp [TO.loc] at hc
  | _ => exact h.elim
 | aV fs' =>
  cases o with
  | aV fs =>
   obtain ⟨h1, h2, h3⟩ := h
   cases q with
   | nil => exact ⟨hc, trivial, ⟨by rw [h1], by rw [h1]⟩, rfl⟩
   | cons j q =>
    simp only [TO.loc] at hc
    have ho := Jd h2 (fun j x hx => let ⟨y, a, b, _⟩ := h3 j x hx; ⟨y, a, b⟩) j
    cases hj : fs[j]? with
    | none => rw [hj] at hc; cases hc
    | some x =>
     rw [hj] at hc
     obtain ⟨y, hy, hys, hyd⟩ := h3 j x hj
     simp only [TO.oO, hj] at hk
     obtain ⟨a1, a2⟩ := hyd _ _ _ hc hk
     exact ⟨by simp only [TO.loc, hy, ho]; exact a1, by simp only [TO.oO, hy]; exact a2, ⟨by rw [h1], by rw [h1]⟩, rfl⟩
  | _ => exact h.elim
def TV.within (S : Nat -> Prop) : TV -> Prop
 | .row id => S id
 | .iP id _ _ => S id
 | .ptr id _ _ => S id
 | .view id _ _ _ _ _ _ => S id
 | .fn _ k n f => ∀ j, j < k + n -> (f j).within S
 | .dM n f => ∀ j, j < n -> (f j).within S
 | .st n f => ∀ j, j < n -> (f j).within S
 | _ => True
theorem TV.aHM : ∀ x : TV, x.within fun _ => True := by
 intro x
 induction x with
 | fn g k n f ih => exact fun j _ => ih j
 | dM n f ih => exact fun j _ => ih j
 | st n f ih => exact fun j _ => ih j
 | _ => trivial
theorem aDU {w : World} {G : Nat -> Prop} {t : DT} {l : List t.den} {p : Pl} (h : (DT.sl t).cell l 0 w G (p.hdr l.length)) {a b : Nat} (h1 : a <= b) (h2 : b <= l.length) {v : Value} {pp : Option Addr} {cp : Nat} (h3 : v = .slice pp (b - a) cp) (h4 : b - a <= cp) (h5 : cp <= maxLen) (h6 : pp = none -> cp = 0)
  (h7 : a < b -> ∃ g, p.g = some g /\ pp = some ⟨g, p.q + a * t.size, none⟩) : (DT.sl t).cell ((l.take b).drop a) 0 w G v := by
 have hlen : ((l.take b).drop a).length = b - a := by simp; omega
 show lX (fun _ _ _ => True) t.size ((l.take b).drop a).length _ w G v
 rw [hlen]
 refine ⟨pp, cp, h3, h4, h5, h6, trivial, fun hn => ?_⟩
 obtain ⟨g, hg, e1⟩ := h7 (by omega)
 obtain ⟨p', cap', k1, k2, k3, k4, k5, k6⟩ := h
 simp only [Pl.hdr, hg, Value.slice.injEq] at k1
 obtain ⟨k1, _, _⟩ := k1
 obtain ⟨b', o', e2, k7, k8⟩ := k6 (by omega)
 rw [<- k1] at e2
 simp only [aS, Addr.mk.injEq, and_true] at e2
 obtain ⟨rfl, rfl⟩ := e2
 refine ⟨g, _, e1, k7, fun j hj c hc => ?_⟩
 obtain ⟨u, a1, a2, a3⟩ := k8 (a + j) (by omega) c hc
 refine ⟨u, ?_, a2, ?_⟩
 ·rw [show p.q + a * t.size + j * t.size + c = p.q + (a + j) * t.size + c by rw [Nat.add_mul]; omega]; exact a1
 ·have e : ((l.take b).drop a).getD j t.dflt = l.getD (a + j) t.dflt := by
   simp only [List.getD, List.getElem?_drop, List.getElem?_take]
   rw [if_pos (by omega)]
  show t.cell (((l.take b).drop a).getD j t.dflt) c w G u
  rw [e]; exact a3
structure gK (w : World) (G : Nat -> Prop) (π : Nat -> Pl) (O : bF) (w' : World) (G' : Nat -> Prop) (aJ : Nat -> Pl) (O' : bF) : Prop where
 fz : fG w G w' G'
 ob : ∀ id o, O id = some o -> ∃ o', O' id = some o' /\ Step w' G' (π id) (aJ id) o o'
theorem VR.Du {w w' : World} {G G' : Nat -> Prop} {π aJ : Nat -> Pl} {O O' : bF} (S : Nat -> Prop) (hfz : fG w G w' G') (hob : ∀ id o, S id -> O id = some o -> ∃ o', O' id = some o' /\ Step w' G' (π id) (aJ id) o o') : ∀ {x : TV} {v : Value}, x.within S -> VR w G π O x v -> VR w' G' aJ O' x v := by
 intro x
 induction x with
 | any => intro v _ _; trivial
 | dv t x => intro v hS h; exact DT.iD hfz h
 | nl => intro v hS h; exact h
 | cst u => intro v hS h; exact h
 | row id =>
  intro v hS h
  simp only [VR] at h ⊢
  cases ho : O id with
  | none => rw [ho] at h; exact h.elim
  | some o =>
   rw [ho] at h
   obtain ⟨o', ho', hs⟩ := hob id o hS ho
   rw [ho']
   cases o' with
   | dead => trivial
   | row t' l' => cases o with
    | row t l => obtain ⟨h1, rfl, h3⟩ := hs; simp only at h ⊢; rw [h1, h3]; exact h
    | _ => exact hs.elim
   | aV fs' => trivial
   | map kt vt l => cases o with
    | map pX qG l' => have h1 : aJ id = π id := hs; simp only at h ⊢; rw [h1]; exact h
    | _ => exact hs.elim
   | iter kt vt l cur => cases o with
    | iter pX qG l' cur' => have h1 : aJ id = π id := hs; simp only at h ⊢; rw [h1]; exact h
    | _ => exact hs.elim
   | sit l => cases o with
    | sit l' => have h1 : aJ id = π id := hs; simp only at h ⊢; rw [h1]; exact h
    | _ => exact hs.elim
   | bD t' ls' out' => cases o with
    | bD t ls out => obtain ⟨h1, h2, h3, rfl, h5⟩ := hs; simp only at h ⊢; rw [h5, Pl.awL h1 h2 h3]; exact h
    | _ => exact hs.elim
   | dG t' l' => cases o with
    | row t l =>
     obtain ⟨e, hs⟩ := hs
     injection e with e1 e2
     subst e1
     obtain rfl := eq_of_heq e2
     simp only at h ⊢; subst h; exact hs
    | bD t ls out =>
     obtain ⟨e, hs⟩ := hs
     injection e with e1 e2
     subst e1
     obtain rfl := eq_of_heq e2
     simp only at h ⊢; subst h; exact hs
    | dG t l =>
     have hs' : TO.dG t' l' = .dG t l := hs
     injection hs' with e1 e2
     subst e1
     obtain rfl := eq_of_heq e2
     exact DT.iE (t := .sl t') (x := l') (j := 0) hfz h
    | _ => exact hs.elim
   | iI pX qG l' => cases o with
    | map kt vt l =>
     obtain ⟨l2, e, hs⟩ := hs
     injection e with e1 e2 e3
     subst e1; subst e2
     obtain rfl := eq_of_heq e3
     simp only at h ⊢
     obtain ⟨g, h1, rfl⟩ := h
     exact hs g h1
    | iI kt vt l =>
     have hs' : TO.iI pX qG l' = .iI kt vt l := hs
     injection hs' with e1 e2 e3
     subst e1; subst e2
     obtain rfl := eq_of_heq e3
     exact IC.mono h hfz
    | _ => exact hs.elim
 | iP id a b =>
  intro v hS h
  simp only [VR] at h ⊢
  cases ho : O id with
  | none => rw [ho] at h; exact h.elim
  | some o =>
   rw [ho] at h
   obtain ⟨o', ho', hs⟩ := hob id o hS ho
   rw [ho']
   cases o' with
   | bD t' ls' out' => cases o with
    | bD t ls out => exact h.elim
    | _ => exact hs.elim
   | row t' l' => cases o with
    | row t l => obtain ⟨h1, rfl, h3⟩ := hs; simp only at h ⊢; rw [h1, h3]; exact h
    | _ => exact hs.elim
   | dG t' l' => cases o with
    | bD t ls out => exact h.elim
    | row t l =>
     obtain ⟨e, hs⟩ := hs
     injection e with e1 e2
     subst e1
     obtain rfl := eq_of_heq e2
     obtain ⟨h1, h2, p, cp, h3, h4, h5, h6, h7⟩ := h
     exact aDU hs h1 h2 h3 h4 h5 h6 h7
    | dG t l =>
     have hs' : TO.dG t' l' = .dG t l := hs
     injection hs' with e1 e2
     subst e1
     obtain rfl := eq_of_heq e2
     exact DT.iE (t := .sl t') (x := (l'.take b).drop a) (j := 0) hfz h
    | _ => exact hs.elim
   | _ => trivial
 | ptr id i p =>
  intro v hS h
  simp only [VR] at h ⊢
  cases ho : O id with
  | none => rw [ho] at h; exact h.elim
  | some o =>
   rw [ho] at h
   obtain ⟨o', ho', hs⟩ := hob id o hS ho
   rw [ho']
   intro hl
   have hlo : o.live = true := by
    cases o' <;> first | (simp [TO.live] at hl; done) | (cases o <;> first | rfl | exact hs.elim)
   obtain ⟨c, g, h1, h2, h3, h4⟩ := h hlo
   obtain ⟨a1, a2, a3, _⟩ := hs.loc hl h1 h2
   exact ⟨c, g, a1, a2, by rw [a3.1]; exact h3, by rw [a3.2]; exact h4⟩
 | view id i p k n a b =>
  intro v hS h
  simp only [VR] at h ⊢
  cases ho : O id with
  | none => rw [ho] at h; exact h.elim
  | some o =>
   rw [ho] at h
   obtain ⟨o', ho', hs⟩ := hob id o hS ho
   rw [ho']
   intro hl
   have hlo : o.live = true := by
    cases o' <;> first | (simp [TO.live] at hl; done) | (cases o <;> first | rfl | exact hs.elim)
   obtain ⟨c, g, pp, h1, h2, h3, h4⟩ := h hlo
   obtain ⟨a1, a2, a3, _⟩ := hs.loc hl h1 h2
   exact ⟨c, g, pp, a1, a2, by rw [a3.1]; exact h3, by rw [a3.2]; exact h4⟩
 | el t x p =>
  intro v hS h
  obtain ⟨b, o, L, h1, h2, h3, h4, h5⟩ := h
  refine ⟨b, o, L, h1, h2, h3, (hfz b h4).1, fun c hc => ?_⟩
  obtain ⟨u, a1, a2, a3⟩ := h5 c hc
  exact ⟨u, (hfz.cell h4).trans a1, a2, DT.iE hfz a3⟩
 | fn g k n f ih => intro v hS ⟨fs, cs, h1, h2, h3, h4, h5⟩; exact ⟨fs, cs, h1, h2, h3, fun j hj => let ⟨u, a, b⟩ := h4 j hj; ⟨u, a, ih j (hS j (by omega)) b⟩, fun j hj => let ⟨u, a, b⟩ := h5 j hj; ⟨u, a, ih _ (hS _ (by omega)) b⟩⟩
 | dM n f ih => intro v hS ⟨cs, h1, h2, h3⟩; exact ⟨cs, h1, h2, fun j hj => let ⟨u, a, b⟩ := h3 j hj; ⟨u, a, ih j (hS j hj) b⟩⟩
 | st n f ih => intro v hS ⟨cs, h1, h2, h3⟩; exact ⟨cs, h1, h2, fun j hj c hc => let ⟨u, a, b, d, e⟩ := h3 j hj c hc; ⟨u, a, b, TV.asQ hfz d, fun hd => ih j (hS j hj) (e hd)⟩⟩
theorem VR.lY {w w' : World} {G G' : Nat -> Prop} {π aJ : Nat -> Pl} {O O' : bF} (E : gK w G π O w' G' aJ O') {x : TV} {v : Value} (h : VR w G π O x v) : VR w' G' aJ O' x v :=
 VR.Du (fun _ => True) E.fz (fun id o _ ho => E.ob id o ho) (TV.aHM x) h
theorem TV.NG {w w' : World} {G G' : Nat -> Prop} {π aJ : Nat -> Pl} {O O' : bF} (E : gK w G π O w' G' aJ O') {x : TV} {c : Nat} {u : Value} (h : x.mG w G π O c u) : x.mG w' G' aJ O' c u := by
 cases x with
 | dv t y => exact DT.iE E.fz h
 | _ => exact VR.lY E h
theorem qJ.move {w w' : World} {G G' : Nat -> Prop} {p : Pl} {t : DT} {l : List t.den} (h : qJ w G p t l) (hz : fG w G w' G') (hb : ∀ g, p.g = some g -> w'.heap[g]? = w.heap[g]?) : qJ w' G' p t l := by
 rcases h with h | ⟨g, cur, e, h1, h2, h3, h4, h5, h6⟩
 ·exact .inl h
 ·refine .inr ⟨g, cur, e, h1, h2.move (hb g h1), h3, h4, h5, fun i hi c hc => ?_⟩
  obtain ⟨u, a1, a2, a3⟩ := h6 i hi c hc
  exact ⟨u, a1, a2, DT.iE hz a3⟩
theorem Step.aDB {w' : World} {G' : Nat -> Prop} {p p' : Pl} {o : TO} {t' : DT} {l' : List t'.den} (h : Step w' G' p p' o (.row t' l')) : p' = p /\ ∃ l : List t'.den, o = .row t' l /\ l'.length = l.length := by
 cases o with
 | row t l => obtain ⟨h1, rfl, h3⟩ := h; exact ⟨h1, l, rfl, h3⟩
 | _ => exact h.elim
theorem Step.OE {w' : World} {G' : Nat -> Prop} {p p' : Pl} {o o' : TO} (h : Step w' G' p p' o o') (hm : o.rZ = false) : o'.rZ = false := by
 cases o' with
 | bD t' ls' out' => cases o with
  | bD t ls out => cases hm
  | _ => exact h.elim
 | _ => rfl
theorem XQ.lY {w w' : World} {G G' : Nat -> Prop} {π aJ : Nat -> Pl} {O O' : bF} (E : gK w G π O w' G' aJ O') {p : Pl} {t : DT} {ls : List (List t.den)} {out : Option (Nat × Nat)} {g : Nat} {cur : Array Value} (h : XQ w G π O p t ls out g cur)
  (hb : ∀ i b, i < ls.length -> (∀ r, out ≠ some (i, r)) -> (p.sub i).g = some b -> w'.heap[b]? = w.heap[b]?) : XQ w' G' aJ O' p t ls out g cur where
 cell := fun i hi => by
  obtain ⟨u, a1, a2, a3, a4⟩ := h.cell i hi
  refine ⟨u, a1, a2, fun ho => ⟨(a3 ho).1, (a3 ho).2.move E.fz fun b hg => hb i b hi ho hg⟩, fun r hr => ?_⟩
  obtain ⟨o, b1, b2⟩ := a4 r hr
  obtain ⟨o', b3, b4⟩ := E.ob r o b1
  refine ⟨o', b3, fun t' l' e => ?_⟩
  subst e
  obtain ⟨c1, l, rfl, c3⟩ := b4.aDB
  rw [c1, c3]
  exact b2 t' l rfl
 OI := fun i r hr => by
  obtain ⟨h1, o, h2, h3⟩ := h.OI i r hr
  obtain ⟨o', b3, b4⟩ := E.ob r o h2
  exact ⟨h1, o', b3, b4.OE h3⟩
 apart := h.apart
theorem OR.lY {w w' : World} {G G' : Nat -> Prop} {π aJ : Nat -> Pl} {O O' : bF} (E : gK w G π O w' G' aJ O') {id : Nat} {o : TO} (h : OR w G π O id o) (hp : aJ id = π id) (hb : ∀ g, o9 (π id) o g -> w'.heap[g]? = w.heap[g]?) : OR w' G' aJ O' id o := by
 cases o with
 | bD t ls out =>
  simp only [OR] at h ⊢
  rw [hp]
  rcases h with h | ⟨g, cur, e, h1, h2, h3, h4, h5, h6⟩
  ·exact .inl h
  ·refine .inr ⟨g, cur, e, h1, h2.move (hb g (.of h1 rfl)), h3, h4, h5, h6.lY E fun i b hi ho hg => hb b ⟨rfl, .inr ⟨i, hi, ho, hg⟩⟩⟩
 | row t l =>
  simp only [OR] at h ⊢
  rw [hp]
  rcases h with h | ⟨g, cur, e, h1, h2, h3, h4, h5, h6⟩
  ·exact .inl h
  ·refine .inr ⟨g, cur, e, h1, h2.move (hb g (.of h1 rfl)), h3, h4, h5, fun i hi c hc => ?_⟩
   obtain ⟨u, a1, a2, a3⟩ := h6 i hi c hc
   exact ⟨u, a1, a2, DT.iE E.fz a3⟩
 | aV fs =>
  simp only [OR] at h ⊢
  rw [hp]
  obtain ⟨g, cur, e, h1, h2, h3⟩ := h
  refine ⟨g, cur, e, h1, ⟨h2.1.move (hb g (.of h1 rfl)), h2.2⟩, fun j x hx c hc => ?_⟩
  obtain ⟨u, a1, a2, a3⟩ := h3 j x hx c hc
  exact ⟨u, a1, a2, TV.NG E a3⟩
 | map kt vt l =>
  simp only [OR] at h ⊢
  rw [hp]
  obtain ⟨g, es, ck, h1, h2, h3, h4, h5, h6⟩ := h
  refine ⟨g, es, ck, h1, (hb g (.of h1 rfl)).trans h2, h3, h4, h5, fun i e he => ?_⟩
  obtain ⟨x, a1, a2, a3⟩ := h6 i e he
  exact ⟨x, a1, DT.iD E.fz a2, DT.iD E.fz a3⟩
 | iter kt vt l cur =>
  simp only [OR] at h ⊢
  rw [hp]
  obtain ⟨r, h1, h2⟩ := h
  exact ⟨r, h1, h2.mono E.fz (hb r (.of h1 rfl))⟩
 | sit l =>
  simp only [OR] at h ⊢
  rw [hp]
  obtain ⟨r, x, n, h1, h2, h3⟩ := h
  exact ⟨r, x, n, h1, (hb r (.of h1 rfl)).trans h2, h3⟩
 | _ => trivial
def TS.put (s : TS) (d : Option Nat) (x : TV) : TS :=
 match d with
 | some d => ⟨s.sl.set d x, s.ob⟩
 | none => s
theorem aI.put {c : Cx} {F : Nat -> Prop} {w : World} {π : Nat -> Pl} {s : TS} {a : Act} (h : aI c F π s a w) (d : Option Nat) {x : TV} {v : Value} (hx : VR w (Gz F w π (aA s.ob)) π (aA s.ob) x v) : aI c F π (s.put d x) (a.put d v) w := by
 cases d with
 | none => exact h
 | some d =>
  refine ⟨h.kept, h.hF, h.defers, by simpa [TS.put, Act.put] using h.size, fun i y hy => ?_, h.obj, h.inj, h.new, h.pin, h.rW⟩
  simp only [TS.put, List.getElem?_set] at hy
  simp only [Act.put, TS.put]
  by_cases hd : d = i
  ·subst hd
   simp only [if_true] at hy
   by_cases hl : d < s.sl.length
   ·rw [if_pos hl] at hy
    obtain rfl := aC hy
    have hd' : d < a.tmps.size := by rw [h.size]; exact hl
    have : (a.tmps.setIfInBounds d v).getD d undef = v := by simp [Array.getD, hd']
    rw [this]; exact hx
   ·rw [if_neg hl] at hy; cases hy
  ·rw [if_neg hd] at hy
   have : (a.tmps.setIfInBounds d v).getD i undef = a.tmps.getD i undef := by simp [Array.getD_eq_getD_getElem?, hd]
   rw [this]; exact h.slot i y hy
theorem wF.mono {w w' : World} {G G' : Nat -> Prop} (h : wF w G) (fz : fG w G w' G') : wF w' G' := fun g t x e =>
 VR.lY (O := fun _ => none) (O' := fun _ => none) ⟨fz, fun id o ho => by cases ho⟩ (h g t x e)
theorem aI.go {c : Cx} {F : Nat -> Prop} {w w' : World} {π aJ : Nat -> Pl} {s : TS} {a : Act} (h : aI c F π s a w) {O' : List (Nat × TO)} (hk : Kept c w')
  (E : gK w (Gz F w π (aA s.ob)) π (aA s.ob) w' (Gz F w' aJ (aA O')) aJ (aA O'))
  (obj : ∀ id o, aA O' id = some o -> OR w' (Gz F w' aJ (aA O')) aJ (aA O') id o) (inj : ∀ i j g, Own aJ (aA O') i g -> Own aJ (aA O') j g -> i = j) (new : ∀ id g, Own aJ (aA O') id g -> ¬ c.bar g /\ g < w'.heap.size) : aI c F aJ ⟨s.sl, O'⟩ a w' where
 kept := hk
 hF := h.hF
 defers := h.defers
 size := h.size
 slot := fun i x hx => VR.lY E (h.slot i x hx)
 obj := obj
 inj := inj
 new := new
 pin := fun id p o0 hp => by
  obtain ⟨o, ho, hl⟩ := h.pin id p o0 hp
  obtain ⟨o', ho', hs⟩ := E.ob id o ho
  refine ⟨o', ho', fun hl' => ?_⟩
  have h0 := hs.live hl'
  obtain ⟨h1, h2, h3⟩ := hs.shp hl' (hl h0).2.OE.2
  exact ⟨h2.trans (hl h1).1, (hl h1).2.trans h3⟩
 rW := h.rW.mono E.fz
theorem gK.later {F : Nat -> Prop} {w w' : World} {π : Nat -> Pl} {O : bF} (hb : Below w.heap.size w w') : gK w (Gz F w π O) π O w' (Gz F w' π O) π O where
 fz := fun b ⟨h0, h1, h2⟩ => ⟨⟨h0, Nat.lt_of_lt_of_le h1 hb.size, h2⟩, hb.block b h1⟩
 ob := fun id o ho => ⟨o, ho, by
  cases o with
  | row t l => exact ⟨rfl, rfl, rfl⟩
  | aV fs => exact ⟨rfl, rfl, fun j x hx => ⟨x, hx, rfl, fun _ _ _ a b => ⟨a, b⟩⟩⟩
  | map kt vt l => rfl
  | iter kt vt l cur => rfl
  | sit l => rfl
  | dG t l => rfl
  | iI kt vt l => rfl
  | bD t ls out => exact ⟨rfl, rfl, rfl, rfl, rfl⟩
  | dead => trivial⟩
theorem Step.refl {w' : World} {G' : Nat -> Prop} {p : Pl} (o : TO) : Step w' G' p p o o := by
 cases o with
 | row t l => exact ⟨rfl, rfl, rfl⟩
 | aV fs => exact ⟨rfl, rfl, fun j x hx => ⟨x, hx, rfl, fun _ _ _ a b => ⟨a, b⟩⟩⟩
 | map kt vt l => rfl
 | iter kt vt l cur => rfl
 | sit l => rfl
 | dG t l => rfl
 | iI kt vt l => rfl
 | bD t ls out => exact ⟨rfl, rfl, rfl, rfl, rfl⟩
 | dead => trivial
theorem Kept.below {c : Cx} {w w' : World} (h : Kept c w) (hb : Below w.heap.size w w') : Kept c w' :=
 h.on ⟨hb.os, hb.tape, hb.output⟩ hb.size fun b hb' => hb.block b (h.lt hb')
theorem aI.later {c : Cx} {F : Nat -> Prop} {w w' : World} {π : Nat -> Pl} {s : TS} {a : Act} (h : aI c F π s a w) (hb : Below w.heap.size w w') : aI c F π s a w' :=
 h.go (O' := s.ob) (h.kept.below hb) (gK.later hb) (fun id o ho => (h.obj id o ho).lY (gK.later hb) rfl fun g hg => hb.block g (h.new id g ⟨o, ho, hg⟩).2) h.inj
  (fun id g hg => ⟨(h.new id g hg).1, Nat.lt_of_lt_of_le (h.new id g hg).2 hb.size⟩)
theorem aI.drew {c : Cx} {F : Nat -> Prop} {w : World} {π : Nat -> Pl} {s : TS} {a : Act} (h : aI c F π s a w) : aI c F π s a w.drew := h.later (Below.refl _ _).drew
def aW (π : Nat -> Pl) (d : Nat) (p : Pl) : Nat -> Pl := fun i => if i = d then p else π i
theorem dQ (d : Nat) (o : TO) (O : List (Nat × TO)) (i : Nat) : aA ((d, o) :: O) i = if i = d then some o else aA O i := rfl
theorem gK.new {F : Nat -> Prop} {w w' : World} {π : Nat -> Pl} {O : List (Nat × TO)} {d : Nat} {p : Pl} {o : TO} (hb : Below w.heap.size w w') (hd : aA O d = none) (hg : ∀ g, o9 p o g -> w.heap.size <= g) :
  gK w (Gz F w π (aA O)) π (aA O) w' (Gz F w' (aW π d p) (aA ((d, o) :: O))) (aW π d p) (aA ((d, o) :: O)) where
 fz := fun b ⟨h0, h1, h2⟩ => ⟨⟨h0, Nat.lt_of_lt_of_le h1 hb.size, fun id ⟨o', h4, h3⟩ => by
  by_cases e : id = d
  ·subst e
   rw [dQ, if_pos rfl] at h4; obtain rfl := aC h4
   simp only [aW, if_true] at h3
   have := hg b h3; omega
  ·simp only [aW, if_neg e] at h3
   rw [dQ, if_neg e] at h4
   exact h2 id ⟨o', h4, h3⟩⟩, hb.block b h1⟩
 ob := fun id o' ho' => by
  have e : id ≠ d := fun e => by subst e; rw [hd] at ho'; cases ho'
  refine ⟨o', by rw [dQ, if_neg e]; exact ho', ?_⟩
  simp only [aW, if_neg e]; exact Step.refl o'
theorem aI.aAD {c : Cx} {F : Nat -> Prop} {w w' : World} {π : Nat -> Pl} {s : TS} {a : Act} (h : aI c F π s a w) {d : Nat} {p : Pl} {o : TO} (hb : Below w.heap.size w w') (hd : aA s.ob d = none) (hg : ∀ g, o9 p o g -> w.heap.size <= g /\ g < w'.heap.size)
  (ho : OR w' (Gz F w' (aW π d p) (aA ((d, o) :: s.ob))) (aW π d p) (aA ((d, o) :: s.ob)) d o) : aI c F (aW π d p) ⟨s.sl, (d, o) :: s.ob⟩ a w' := by
 have E : gK w (Gz F w π (aA s.ob)) π (aA s.ob) w' (Gz F w' (aW π d p) (aA ((d, o) :: s.ob))) (aW π d p) (aA ((d, o) :: s.ob)) := gK.new hb hd fun g hg' => (hg g hg').1
 have own : ∀ id g, Own (aW π d p) (aA ((d, o) :: s.ob)) id g -> (id = d /\ o9 p o g) \/ (id ≠ d /\ Own π (aA s.ob) id g) := fun id g ⟨o', h2, h1⟩ => by
  by_cases e : id = d
  ·subst e; rw [dQ, if_pos rfl] at h2; obtain rfl := aC h2; simp only [aW, if_true] at h1; exact .inl ⟨rfl, h1⟩
  ·simp only [aW, if_neg e] at h1; rw [dQ, if_neg e] at h2; exact .inr ⟨e, o', h2, h1⟩
 refine h.go (h.kept.below hb) E (fun id o' ho' => ?_) (fun i j g hi hj => ?_) (fun id g hid => ?_)
 ·rw [dQ] at ho'
  by_cases e : id = d
  ·rw [if_pos e] at ho'; obtain rfl := aC ho'; subst e; exact ho
  ·rw [if_neg e] at ho'
   exact (h.obj id o' ho').lY E (by simp only [aW, if_neg e]) fun g hg' => hb.block g (h.new id g ⟨o', ho', hg'⟩).2
 ·rcases own i g hi with ⟨e1, h1⟩ | ⟨e1, h1⟩ <;> rcases own j g hj with ⟨e2, h2⟩ | ⟨e2, h2⟩
  ·exact e1.trans e2.symm
  ·have := (hg g h1).1; have := (h.new j g h2).2; omega
  ·have := (hg g h2).1; have := (h.new i g h1).2; omega
  ·exact h.inj i j g h1 h2
 ·rcases own id g hid with ⟨e1, h1⟩ | ⟨e1, h1⟩
  ·exact ⟨fun hb' => by have := (hg g h1).1; have := h.kept.lt hb'; omega, (hg g h1).2⟩
  ·exact ⟨(h.new id g h1).1, Nat.lt_of_lt_of_le (h.new id g h1).2 hb.size⟩
theorem aI.GK {c : Cx} {F : Nat -> Prop} {w w' : World} {π : Nat -> Pl} {s : TS} {a : Act} (h : aI c F π s a w) {d : Nat} {p : Pl} {o : TO} (hb : Below w.heap.size w w') (hd : aA s.ob d = none) (hg : ∀ g, p.g = some g -> w.heap.size <= g /\ g < w'.heap.size)
  (ho : OR w' (Gz F w' (aW π d p) (aA ((d, o) :: s.ob))) (aW π d p) (aA ((d, o) :: s.ob)) d o) (hm : o.rZ = false := by rfl) : aI c F (aW π d p) ⟨s.sl, (d, o) :: s.ob⟩ a w' :=
 h.aAD hb hd (fun g h => hg g (h.g hm)) ho
theorem gK.set {F : Nat -> Prop} {w w' : World} {π : Nat -> Pl} {O : List (Nat × TO)} {d g : Nat} {o o' : TO} (hd : aA O d = some o) (hg : (π d).g = some g) (hl : o.live = true) (hl' : o'.live = true) (hs : ∀ G', Step w' G' (π d) (π d) o o') (hb : ∀ b, b ≠ g -> w'.heap[b]? = w.heap[b]?) (hsz : w'.heap.size = w.heap.size) (hm' : o'.rZ = false := by rfl) :
  gK w (Gz F w π (aA O)) π (aA O) w' (Gz F w' π (aA ((d, o') :: O))) π (aA ((d, o') :: O)) where
 fz := fun b ⟨h0, h1, h2⟩ => ⟨⟨h0, by omega, fun id ⟨o1, h4, h3⟩ => by
  by_cases e : id = d
  ·subst e; rw [dQ, if_pos rfl] at h4; obtain rfl := aC h4; exact h2 id (.of (h3.g hm') hd hl)
  ·rw [dQ, if_neg e] at h4; exact h2 id ⟨o1, h4, h3⟩⟩, hb b fun e => h2 d (.of (e ▸ hg) hd hl)⟩
 ob := fun id o1 ho1 => by
  by_cases e : id = d
  ·subst e
   rw [hd] at ho1; obtain rfl := aC ho1
   exact ⟨o', by rw [dQ, if_pos rfl], hs _⟩
  ·exact ⟨o1, by rw [dQ, if_neg e]; exact ho1, Step.refl o1⟩
theorem aI.set {c : Cx} {F : Nat -> Prop} {w w' : World} {π : Nat -> Pl} {s : TS} {a : Act} (h : aI c F π s a w) {d g : Nat} {o o' : TO} (hd : aA s.ob d = some o) (hg : (π d).g = some g) (hl : o.live = true) (hl' : o'.live = true) (hs : ∀ G', Step w' G' (π d) (π d) o o') (hb : ∀ b, b ≠ g -> w'.heap[b]? = w.heap[b]?) (hsz : w'.heap.size = w.heap.size)
  (hos : w'.os = w.os /\ w'.tape = w.tape /\ w'.output = w.output) (ho : OR w' (Gz F w' π (aA ((d, o') :: s.ob))) π (aA ((d, o') :: s.ob)) d o') (hm' : o'.rZ = false := by rfl) : aI c F π ⟨s.sl, (d, o') :: s.ob⟩ a w' := by
 have E : gK w (Gz F w π (aA s.ob)) π (aA s.ob) w' (Gz F w' π (aA ((d, o') :: s.ob))) π (aA ((d, o') :: s.ob)) := gK.set hd hg hl hl' hs hb hsz hm'
 have own : ∀ id g, Own π (aA ((d, o') :: s.ob)) id g -> Own π (aA s.ob) id g := fun id g ⟨o1, h2, h1⟩ => by
  rw [dQ] at h2
  by_cases e : id = d
  ·rw [if_pos e] at h2; obtain rfl := aC h2; exact .of (h1.g hm') (by rw [e]; exact hd) hl
  ·rw [if_neg e] at h2; exact ⟨o1, h2, h1⟩
 refine h.go (h.kept.on hos (by omega) fun b hb' => hb b fun e => (h.new d g (.of hg hd hl)).1 (e ▸ hb')) E (fun id o1 ho1 => ?_) (fun i j g hi hj => h.inj i j g (own i g hi) (own j g hj)) (fun id g hid => by rw [hsz]; exact h.new id g (own id g hid))
 ·rw [dQ] at ho1
  by_cases e : id = d
  ·rw [if_pos e] at ho1; obtain rfl := aC ho1; subst e; exact ho
  ·rw [if_neg e] at ho1
   exact (h.obj id o1 ho1).lY E rfl fun g' hg' => hb g' fun e2 => e (h.inj id d g ⟨o1, ho1, e2 ▸ hg'⟩ (.of hg hd hl))
theorem aI.kill {c : Cx} {F : Nat -> Prop} {w : World} {π : Nat -> Pl} {s : TS} {a : Act} (h : aI c F π s a w) {d : Nat} {o o' : TO} (hd : aA s.ob d = some o) (hl' : o'.live = false) (hs : ∀ G', (∀ g, o9 (π d) o g -> G' g) -> fG w (Gz F w π (aA s.ob)) w G' -> Step w G' (π d) (π d) o o') : aI c F π ⟨s.sl, (d, o') :: s.ob⟩ a w := by
 have own : ∀ id g, Own π (aA ((d, o') :: s.ob)) id g -> id ≠ d /\ Own π (aA s.ob) id g := fun id g ⟨o1, h2, h1⟩ => by
  rw [dQ] at h2
  by_cases e : id = d
  ·rw [if_pos e] at h2; obtain rfl := aC h2; exact (h1.not hl').elim
  ·rw [if_neg e] at h2; exact ⟨e, o1, h2, h1⟩
 have fz : fG w (Gz F w π (aA s.ob)) w (Gz F w π (aA ((d, o') :: s.ob))) := fun b ⟨h0, h1, h2⟩ => ⟨⟨h0, h1, fun id hid => h2 id (own id b hid).2⟩, rfl⟩
 have E : gK w (Gz F w π (aA s.ob)) π (aA s.ob) w (Gz F w π (aA ((d, o') :: s.ob))) π (aA ((d, o') :: s.ob)) := ⟨fz, fun id o1 ho1 => by
  by_cases e : id = d
  ·subst e
   rw [hd] at ho1; obtain rfl := aC ho1
   refine ⟨o', by rw [dQ, if_pos rfl], hs _ (fun g hg => ⟨h.hF g (h.new id g ⟨o, hd, hg⟩).1, (h.new id g ⟨o, hd, hg⟩).2, fun j hj => ?_⟩) fz⟩
   obtain ⟨e1, e2⟩ := own j g hj
   exact e1 (h.inj j id g e2 ⟨o, hd, hg⟩)
  ·exact ⟨o1, by rw [dQ, if_neg e]; exact ho1, Step.refl o1⟩⟩
 refine h.go h.kept E (fun id o1 ho1 => ?_) (fun i j g hi hj => h.inj i j g (own i g hi).2 (own j g hj).2) (fun id g hid => h.new id g (own id g hid).2)
 ·rw [dQ] at ho1
  by_cases e : id = d
  ·rw [if_pos e] at ho1; obtain rfl := aC ho1
   cases o' <;> first | trivial | (simp [TO.live] at hl')
  ·rw [if_neg e] at ho1; exact (h.obj id o1 ho1).lY E rfl fun _ _ => rfl
theorem aI.dead {c : Cx} {F : Nat -> Prop} {w : World} {π : Nat -> Pl} {s : TS} {a : Act} (h : aI c F π s a w) {d : Nat} {o : TO} (hd : aA s.ob d = some o) : aI c F π ⟨s.sl, (d, .dead) :: s.ob⟩ a w :=
 h.kill hd rfl fun G' _ _ => by cases o <;> trivial
theorem acY {w : World} {g : Nat} {cur : Array Value} {e : TypeId} {z : Nat × Nat} (h : w.heap[g]? = some (.cells cur e z)) (o : Nat) : w.cell? ⟨g, o, none⟩ = cur[o]? := cell_of_row w g _ cur e z h
theorem tH {w : World} {g : Nat} {cur : Array Value} {e : TypeId} (h : kQ w g cur e) (o : Nat) : w.cell? ⟨g, o, none⟩ = cur[o]? := by
 obtain ⟨z, h1, _⟩ := h
 exact acY h1 o
theorem OR.Yw {w : World} {G G' : Nat -> Prop} {π : Nat -> Pl} {O : bF} {id : Nat} {t : DT} {l : List t.den} (h : OR w G π O id (.row t l)) (hz : fG w G w G') (hg : ∀ g, (π id).g = some g -> G' g) : (DT.sl t).cell l 0 w G' ((π id).hdr l.length) := by
 rcases h with ⟨h1, rfl⟩ | ⟨g, cur, e, h1, h2, h3, h4, h5, h6⟩
 ·simp only [Pl.hdr, h1]
  exact ⟨none, 0, rfl, Nat.le_refl _, by simp [maxLen], fun _ => rfl, trivial, fun h => by simp at h⟩
 ·simp only [Pl.hdr, h1]
  refine ⟨_, _, rfl, h3, h4, (fun h => by cases h), trivial, fun _ => ⟨g, _, rfl, hg g h1, fun i hi c hc => ?_⟩⟩
  obtain ⟨u, a1, a2, a3⟩ := h6 i hi c hc
  exact ⟨u, by rw [tH h2]; exact a1, a2, DT.iE hz a3⟩
theorem aI.freeze {c : Cx} {F : Nat -> Prop} {w : World} {π : Nat -> Pl} {s : TS} {a : Act} (h : aI c F π s a w) {d : Nat} {t : DT} {l : List t.den} (hd : aA s.ob d = some (.row t l)) : aI c F π ⟨s.sl, (d, .dG t l) :: s.ob⟩ a w :=
 h.kill hd rfl fun G' hg hz => ⟨rfl, (h.obj d _ hd).Yw hz fun g hg' => hg g (.of hg' rfl)⟩
theorem aI.au7 {c : Cx} {F : Nat -> Prop} {w : World} {π : Nat -> Pl} {s : TS} {a : Act} (h : aI c F π s a w) {d : Nat} {kt vt : DT} {l : List (kt.den × vt.den)} (hd : aA s.ob d = some (.map kt vt l)) : aI c F π ⟨s.sl, (d, .iI kt vt l) :: s.ob⟩ a w :=
 h.kill hd rfl fun G' hg hz => ⟨l, rfl, fun g h1 => by
  obtain ⟨g', es, ck, q1, q2, q3, q4, q5, q6⟩ := h.obj d _ hd
  rw [h1] at q1; obtain rfl := aC q1
  refine ⟨l, .refl _, g, es, ck, rfl, hg g (.of h1 rfl), q2, q3, q4, q5, fun i e he => ?_⟩
  obtain ⟨x, a1, a2, a3⟩ := q6 i e he
  exact ⟨x, a1, DT.iD hz a2, DT.iD hz a3⟩⟩
theorem aI.Xj {c : Cx} {F : Nat -> Prop} {w : World} {π : Nat -> Pl} {s : TS} {a : Act} (h : aI c F π s a w) {d : Nat} (t : DT) (hd : aA s.ob d = none) : aI c F (aW π d ⟨none, 0, 0, iU⟩) ⟨s.sl, (d, .row t []) :: s.ob⟩ a w :=
 h.GK (Below.refl _ _) hd (fun g hg => by cases hg) (.inl ⟨by simp [aW], rfl⟩)
theorem aI.same {c : Cx} {F : Nat -> Prop} {w : World} {π : Nat -> Pl} {s s' : TS} {a : Act} (h : aI c F π s a w) (hs : s'.sl = s.sl) (ho : aA s'.ob = aA s.ob) : aI c F π s' a w := by
 obtain ⟨h1, h2, h3, h4, h5, h6, h7, h8, h9, h10⟩ := h
 exact ⟨h1, h2, h3, by rw [hs]; exact h4, by rw [hs, ho]; exact h5, by rw [ho]; exact h6, by rw [ho]; exact h7, by rw [ho]; exact h8, by rw [ho]; exact h9, by rw [ho]; exact h10⟩
end
section
def Cx.add (c : Cx) (Ds : List Nat) : Cx := { c with ds := Ds }
def but (F : Nat -> Prop) (Ds : List Nat) (b : Nat) : Prop := F b /\ b ∉ Ds
structure Ls (c : Cx) (Ds : List Nat) : Prop where
 nd : Ds.Nodup
 old : ∀ D ∈ Ds, c.w.heap.size <= D
 rd : c.EP ≠ none -> Ds = []
def Rl (c : Cx) (F : Nat -> Prop) (s : TS) (a : Act) (w : World) : Prop := ∃ Ds, Ls c Ds /\ Rel (c.add Ds) (but F Ds) s a w
def Cx.xQ (c : Cx) : Fence := { Fence.wide with round := c.EP }
theorem Oo (c : Cx) {n : Nat} {P : Program} {f : FuncId} {args : Array Value} {w : World} {R : Ending -> World -> Prop} (h : Calls P f args w R) : CallsIn c.xQ n P f args w R := callsIn_wide (n := n).2 h
def lD (P : Program) (c : Cx) (F : Nat -> Prop) (x : Code) (Q : Exit -> TS -> Prop) (s : TS) : Prop :=
 ∀ n a w, Rl c F s a w -> x.wpIn c.xQ n P (fun e a' w' => ∃ s', Q e s' /\ Rl c F s' a' w') a w
def ab8 (K : TS -> Prop) (Q : Exit -> TS -> Prop) : Exit -> TS -> Prop
 | .normal, s => K s
 | e, s => Q e s
def Nv (id : Nat) (Q : Exit -> TS -> Prop) : Exit -> TS -> Prop
 | .exit i, s => if i = id then Q .normal s else Q (.exit i) s
 | e, s => Q e s
def vY : Value -> TV
 | .int k n => .dv (.int k) n
 | .bool b => .dv .bool b
 | .string s => .dv .str s.data.toList
 | .slice none 0 0 => .nl
 | v => .cst v
def TS.ev (s : TS) : Operand -> TV
 | .tmp t => s.sl.getD t .any
 | .const v => vY v
 | .global g => match QQ g with
  | some ⟨t, x⟩ => .el t x []
  | none => .any
 | .func f => .fn f 0 0 fun _ => .any
theorem aEK {w : World} {G : Nat -> Prop} {π : Nat -> Pl} {O : bF} (v : Value) : VR w G π O (vY v) v := by
 unfold vY
 split
 ·rfl
 ·rfl
 ·rfl
 ·rfl
 ·rfl
section
variable {P : Program} {c : Cx} {F : Nat -> Prop} {Q : Exit -> TS -> Prop} {s : TS}
theorem lD.mono {x : Code} {Q' : Exit -> TS -> Prop} (h : lD P c F x Q s) (hq : ∀ e s, Q e s -> Q' e s) : lD P c F x Q' s :=
 fun n a w hr => wpIn_mono (h n a w hr) fun e a' w' ⟨s', h1, h2⟩ => ⟨s', hq e s' h1, h2⟩
theorem aC3 {x y : Code} (h : lD P c F x (ab8 (lD P c F y Q) Q) s) : lD P c F (.seq x y) Q s := fun n a w hr => by
 refine wpIn_seq (wpIn_mono (h n a w hr) fun e a' w' ⟨s', h1, h2⟩ => ?_)
 cases e with
 | normal => exact h1 n a' w' h2
 | _ => exact ⟨s', h1, h2⟩
theorem aCS {id : Nat} {x : Code} (h : lD P c F x (Nv id Q) s) : lD P c F (.block id x) Q s := fun n a w hr => by
 refine wpIn_block (wpIn_mono (h n a w hr) fun e a' w' ⟨s', h1, h2⟩ => ?_)
 cases e with
 | exit i =>
  simp only [Nv] at h1
  simp only [Exit.inBlock]
  split
  ·rename_i e; rw [if_pos e] at h1; exact ⟨s', h1, h2⟩
  ·rename_i e; rw [if_neg e] at h1; exact ⟨s', h1, h2⟩
 | _ => exact ⟨s', h1, h2⟩
theorem aC4 (h : Q .normal s) : lD P c F .skip Q s := fun n a w hr => wpIn_skip ⟨s, h, hr⟩
theorem aC2 (h : Q .ret s) : lD P c F .ret Q s := fun n a w hr => wpIn_ret ⟨s, h, hr⟩
theorem aCX {id : Nat} (h : Q (.exit id) s) : lD P c F (.exit id) Q s := fun n a w hr => wpIn_exit ⟨s, h, hr⟩
theorem aI.KC {π : Nat -> Pl} {a : Act} {w : World} (h : aI c F π s a w) (t : Nat) : VR w (Gz F w π (aA s.ob)) π (aA s.ob) (s.sl.getD t .any) (a.tmps.getD t undef) := by
 by_cases ht : t < s.sl.length
 ·have : s.sl.getD t .any = s.sl[t] := by simp [ht]
  rw [this]; exact h.slot t _ (by simp [ht])
 ·have : s.sl.getD t .any = .any := by simp [List.getD, List.getElem?_eq_none (Nat.le_of_not_lt ht)]
  rw [this]; trivial
theorem aI.ev {π : Nat -> Pl} {a : Act} {w : World} (h : aI c F π s a w) (x : Operand) : VR w (Gz F w π (aA s.ob)) π (aA s.ob) (s.ev x) (a.eval x) := by
 cases x with
 | tmp t => exact h.KC t
 | const v => exact aEK v
 | global g =>
  simp only [TS.ev]
  cases e : QQ g with
  | none => trivial
  | some p => obtain ⟨t, y⟩ := p; exact h.rW g t y e
 | func f => exact ⟨#[], #[], rfl, rfl, rfl, fun j hj => by omega, fun j hj => by omega⟩
theorem aI.zC {π : Nat -> Pl} {a : Act} {w : World} (h : aI c F π s a w) {x : Operand} {t : DT} {y : t.den} (hx : s.ev x = .dv t y) : t.val y w (Gz F w π (aA s.ob)) (a.eval x) := by
 have := h.ev x; rw [hx] at this; exact this
theorem aCT {x : Operand} {y z : Code} {t : Bool} (hc : s.ev x = .dv .bool t) (hx : t = true -> lD P c F y Q s) (hy : t = false -> lD P c F z Q s) : lD P c F (.cond x y z) Q s := fun n a w hr => by
 obtain ⟨Ds, hD, π, hm⟩ := hr
 have he : a.eval x = .bool t := hm.zC hc
 refine wpIn_cond (t := t) he ?_
 cases t with
 | true => exact hx rfl n a w ⟨Ds, hD, π, hm⟩
 | false => exact hy rfl n a w ⟨Ds, hD, π, hm⟩
theorem Fv {p : Nat -> Prop} {n : Nat} (h : p n) : ∃ k, p k /\ ∀ j, j < k -> ¬ p j := by
 induction n using Nat.strongRecOn with
 | _ n ih =>
  by_cases h' : ∃ j, j < n /\ p j
  ·obtain ⟨j, hj, hp⟩ := h'; exact ih j hj hp
  ·exact ⟨n, h, fun j hj hp => h' ⟨j, hj, hp⟩⟩
theorem aCY {x : Code} (I : Nat -> TS -> Prop) (n : Nat) (h0 : I n s) (round : ∀ n s, I n s -> lD P c F x (ab8 (fun s' => ∃ k, k < n /\ I k s') Q) s) : lD P c F (.loop x) Q s := fun nn a w hr => by
 classical
 let J : Nat -> Act -> World -> Prop := fun n a w => ∃ s, I n s /\ Rl c F s a w
 let μ : Act -> World -> Nat := fun a w => if h : ∃ n, J n a w then Classical.choose (Fv (p := fun n => J n a w) (Classical.choose_spec h)) else 0
 have hμ : ∀ a w n, J n a w -> J (μ a w) a w /\ μ a w <= n := fun a w n hn => by
  have h : ∃ n, J n a w := ⟨n, hn⟩
  have hs := Classical.choose_spec (Fv (p := fun n => J n a w) (Classical.choose_spec h))
  have e : μ a w = Classical.choose (Fv (p := fun n => J n a w) (Classical.choose_spec h)) := dif_pos h
  rw [e]
  refine ⟨hs.1, ?_⟩
  rcases Nat.lt_or_ge n (Classical.choose (Fv (p := fun n => J n a w) (Classical.choose_spec h))) with hlt | hge
  ·exact absurd hn (hs.2 n hlt)
  ·exact hge
 refine wpIn_loop (fun a w => ∃ n, J n a w) μ ⟨n, s, h0, hr⟩ fun a w ⟨n, hn⟩ => ?_
 obtain ⟨s1, h1, h2⟩ := (hμ a w n hn).1
 refine wpIn_mono (round _ s1 h1 nn a w h2) fun e a' w' ⟨s', h3, h4⟩ => ?_
 cases e with
 | normal =>
  obtain ⟨k, hk, h5⟩ := h3
  have hJ : J k a' w' := ⟨s', h5, h4⟩
  exact ⟨⟨k, hJ⟩, Nat.lt_of_le_of_lt (hμ a' w' k hJ).2 hk⟩
 | _ => exact ⟨s', h3, h4⟩
theorem ai5 {x : Code} {s' : TS} (hw : ∀ Ds a w, Rel (c.add Ds) (but F Ds) s a w -> Rel (c.add Ds) (but F Ds) s' a w) (h : lD P c F x Q s') : lD P c F x Q s := fun n a w ⟨Ds, hD, hr⟩ => h n a w ⟨Ds, hD, hw Ds a w hr⟩
def PL (P : Program) (c : Cx) (F : Nat -> Prop) (ops : Array Oper) (l : List Oper) (K : TS -> Prop) (s : TS) : Prop :=
 ∀ n a w (Q : Exit -> Act -> World -> Prop), Rel c F s a w -> (∀ s' a' w', K s' -> Rel c F s' a' w' -> Q .normal a' w') -> wpListIn c.xQ n P ops Q l a w
theorem PL.nil {ops : Array Oper} {K : TS -> Prop} (h : K s) : PL P c F ops [] K s := fun n a w Q hr hk => hk s a w h hr
theorem aC1 {id : Nat} {l : List Oper} (h : ∀ Ds, PL P (c.add Ds) (but F Ds) l.toArray l (fun s' => Q .normal s') s) : lD P c F (.region id l.toArray false) Q s := fun n a w ⟨Ds, hD, hr⟩ =>
 wpIn_region_lit (h Ds n a w _ hr fun s' a' w' hk hr' => ⟨s', hk, Ds, hD, hr'⟩)
def pV (P : Program) (c : Cx) (F : Nat -> Prop) (o : Oper) (K : TS -> Prop) (s : TS) : Prop :=
 ∀ (n : Nat) (a : Act) (w : World) (next : Act -> World -> Prop) (Q : Exit -> Act -> World -> Prop), Rel c F s a w -> (∀ (s' : TS) (a' : Act) (w' : World), K s' -> Rel c F s' a' w' -> next a' w') -> o.wpIn c.xQ n P a w next Q
theorem aAI {ρ : Operand -> Value} {o : Oper} {w w' : World} {x : Next} (h : (execOp ρ o).run P w = .ok x w') (hx : ∀ d, x ≠ .defer d) : ∀ c, o.op ≠ .defer c := fun c e => by
 unfold execOp at h
 rw [e] at h
 simp only [Sem.run_bind] at h
 cases hr : (resolve ρ c o.type).run P w with
 | ok d w1 => rw [hr] at h; simp [Result.andThen] at h; exact hx _ h.1.symm
 | halt s w1 => rw [hr] at h; simp [Result.andThen] at h
theorem Yj {ρ : Operand -> Value} {o : Oper} {w w' : World} {x : Next} (ro : Option Nat) (h : (execOp ρ o).run P w = .ok x w') (hx : ∀ d, x ≠ .defer d) : (o.semAt ro ρ).run P w = .ok x w' := by
 rw [Oper.semAt_eq _ _ _ (aAI h hx)]; exact h
theorem Zr {o : Oper} {a : Act} {w w' : World} {n : Nat} {v : Value} {next : Act -> World -> Prop} {Q : Exit -> Act -> World -> Prop} (h : (execOp a.eval o).run P w = .ok (.value v) w') (hn : next (a.put o.dst v) w') : o.wpIn c.xQ n P a w next Q := by
 refine ⟨fun _ _ => trivial, ?_⟩
 rw [Yj _ h (fun d e => by cases e), Oper.uponIn_value]; exact hn
theorem aJ5 {o : Oper} {a : Act} {w w' : World} {n : Nat} {next : Act -> World -> Prop} {Q : Exit -> Act -> World -> Prop} (h : (execOp a.eval o).run P w = .ok .skip w') (hn : next (a.put o.dst undef) w') : o.wpIn c.xQ n P a w next Q := by
 refine ⟨fun _ _ => trivial, ?_⟩
 rw [Yj _ h (fun d e => by cases e), Oper.uponIn_skip]; exact hn
theorem aJ3 {o : Oper} {a : Act} {w w' : World} {n : Nat} {f : FuncId} {args : Array Value} {next : Act -> World -> Prop} {Q : Exit -> Act -> World -> Prop} (h : (execOp a.eval o).run P w = .ok (.enter f args) w') (hn : Calls P f args w' fun
   | .returned v, w'' => next (a.put o.dst v) w''
   | .panicked chain, w'' => Q (.panic chain) a w''
   | .outgrown, _ => LetsOut Q) : o.wpIn c.xQ n P a w next Q := by
 refine ⟨fun _ _ => trivial, ?_⟩
 rw [Yj _ h (fun d e => by cases e), Oper.uponIn_enter]
 exact ⟨(fun h => by cases h), Oo c hn⟩
theorem pV.of {o : Oper} {K : TS -> Prop} {s' : TS} (h : ∀ a w, Rel c F s a w -> ∃ v w', ((execOp a.eval o).run P w = .ok (.value v) w' \/ (execOp a.eval o).run P w = .ok .skip w' /\ v = undef) /\ Rel c F s' (a.put o.dst v) w') (hk : K s') : pV P c F o K s := fun n a w next Q hr hn => by
 obtain ⟨v, w', hrun, hr'⟩ := h a w hr
 rcases hrun with hrun | ⟨hrun, rfl⟩
 ·exact Zr hrun (hn _ _ _ hk hr')
 ·exact aJ5 hrun (hn _ _ _ hk hr')
theorem pV.mono {o : Oper} {K K' : TS -> Prop} (h : pV P c F o K s) (hk : ∀ s, K s -> K' s) : pV P c F o K' s := fun n a w next Q hr hn => h n a w next Q hr fun s' a' w' h1 h2 => hn s' a' w' (hk _ h1) h2
theorem PL.GR {ops : Array Oper} {o : Oper} {l : List Oper} {K : TS -> Prop} (hg : o.guard = none) (h : pV P c F o (fun s' => PL P c F ops l K s') s) : PL P c F ops (o :: l) K s := fun n a w Q hr hk =>
 wpListIn_plain hg fun K' hK' => h n a w K' Q hr fun s' a' w' h1 h2 => hK' _ _ (h1 n a' w' Q h2 hk)
theorem aI.yields {π : Nat -> Pl} {a : Act} {w : World} (h : aI c F π s a w) {ops : Array Oper} {j d : Nat} {b : Bool} (hd : (ops[j]?).bind (·.dst) = some d) (hs : s.sl[d]? = some (.dv .bool b)) : yielded ops a.tmps j = some b := by
 have h1 := h.slot d _ hs
 have hl : d < s.sl.length := (List.getElem?_eq_some_iff.1 hs).1
 have hl' : d < a.tmps.size := by rw [h.size]; exact hl
 have h2 : a.tmps.getD d undef = .bool b := h1
 have h3 : a.tmps[d]? = some (.bool b) := by
  rw [Array.getElem?_eq_getElem hl']; simp only [Array.getD, hl', dif_pos] at h2; exact congrArg some h2
 simp [yielded, hd, h3]
theorem PL.aHC {ops : Array Oper} {o : Oper} {l : List Oper} {K : TS -> Prop} {j d : Nat} {b : Bool} (hg : o.guard = some (j, b)) (hd : (ops[j]?).bind (·.dst) = some d) (hs : s.sl[d]? = some (.dv .bool b))
  (h : pV P c F o (fun s' => PL P c F ops l K s') s) : PL P c F ops (o :: l) K s := fun n a w Q hr hk => by
 have hr0 := hr
 obtain ⟨π, hm⟩ := hr0
 refine wpListIn_step fun K' hK' => ?_
 rw [if_pos (by simp [Region.wanted, hg, hm.yields hd hs])]
 exact h n a w K' Q hr fun s' a' w' h1 h2 => hK' _ _ (h1 n a' w' Q h2 hk)
theorem PL.pass {ops : Array Oper} {o : Oper} {l : List Oper} {K : TS -> Prop} {j d : Nat} {b b' : Bool} (hg : o.guard = some (j, b)) (hd : (ops[j]?).bind (·.dst) = some d) (hs : s.sl[d]? = some (.dv .bool b')) (hne : b' ≠ b)
  (h : PL P c F ops l K (s.put o.dst .any)) : PL P c F ops (o :: l) K s := fun n a w Q hr hk => by
 have hr0 := hr
 obtain ⟨π, hm⟩ := hr0
 refine wpListIn_step fun K' hK' => ?_
 rw [if_neg (by simp [Region.wanted, hg, hm.yields hd hs]; exact hne)]
 exact ⟨fun _ _ => trivial, hK' _ _ (h n _ w Q ⟨π, hm.put _ trivial⟩ hk)⟩
end
structure Frame (F : Nat -> Prop) (w : World) (π : Nat -> Pl) (O : List (Nat × TO)) : Prop where
 obj : ∀ id o, aA O id = some o -> OR w (Gz F w π (aA O)) π (aA O) id o
 inj : ∀ i j g, Own π (aA O) i g -> Own π (aA O) j g -> i = j
 new : ∀ id g, Own π (aA O) id g -> F g /\ g < w.heap.size
structure iQ (P : Program) (f : FuncId) (args : List TV) (O : List (Nat × TO)) (Q : TV -> List (Nat × TO) -> Prop) : Prop where
 enters : ∀ (as : Array Value) (w : World), (callFunc f as).run P w = .ok (.enter f as) w
 calls : ∀ (w : World) (F : Nat -> Prop) (π : Nat -> Pl) (vs : List Value), vs.length = args.length -> (∀ b, F b -> b < w.heap.size) -> Frame F w π O ->
  (∀ (i : Nat) (x : TV) (v : Value), args[i]? = some x -> vs[i]? = some v -> VR w (Gz F w π (aA O)) π (aA O) x v) -> wF w (Gz F w π (aA O)) ->
  Calls P f vs.toArray w fun e w' => ∃ r v O' aJ, e = .returned v /\ Q r O' /\ Frame (fun b => F b \/ w.heap.size <= b) w' aJ O' /\ VR w' (Gz (fun b => F b \/ w.heap.size <= b) w' aJ (aA O')) aJ (aA O') r v /\
   (∀ id o, aA O id = some o -> ∃ o', aA O' id = some o' /\ (o'.live = true -> aJ id = π id /\ qO o o')) /\ (∀ id g, Own aJ (aA O') id g -> (∃ j, Own π (aA O) j g) \/ w.heap.size <= g) /\ Kept ⟨w, fun b => ∀ id, ¬ Own π (aA O) id b, fun _ => none, none, [], []⟩ w'
theorem iQ.mono {P : Program} {f : FuncId} {args : List TV} {O : List (Nat × TO)} {Q Q' : TV -> List (Nat × TO) -> Prop} (h : iQ P f args O Q) (hq : ∀ r O', Q r O' -> Q' r O') : iQ P f args O Q' :=
 ⟨h.enters, fun w F π vs h1 h2 h3 h4 h5 => (h.calls w F π vs h1 h2 h3 h4 h5).mono fun e w' ⟨r, v, O', aJ, a, b, c⟩ => ⟨r, v, O', aJ, a, hq r O' b, c⟩⟩
def sJ : List TV -> TV
 | [x] => x
 | l => .dM l.length fun i => l.getD i .any
def aqL (R : TS -> List TV -> List (Nat × TO) -> Prop) (Q : TV -> List (Nat × TO) -> Prop) (e : Exit) (s : TS) : Prop :=
 (e = .normal \/ e = .ret) /\ ∃ l O', R s l O' /\ Q (sJ l) O'
def yK : List Nat -> World -> World
 | [], w => w
 | D :: Ds, w => yK Ds (w.putObj D (.deferred none))
theorem Kv : ∀ (Ds : List Nat) (w : World), (yK Ds w).heap.size = w.heap.size
 | [], w => rfl
 | D :: Ds, w => by rw [yK, Kv Ds]; simp
theorem Ku : ∀ (Ds : List Nat) (w : World) {b : Nat}, b ∉ Ds -> (yK Ds w).heap[b]? = w.heap[b]?
 | [], w, b, _ => rfl
 | D :: Ds, w, b, h => by
  rw [yK, Ku Ds _ (fun q => h (List.mem_cons_of_mem _ q))]
  exact World.putObj_heap_other fun e => h (by simp [e])
theorem alN : ∀ (Ds : List Nat) (w : World), (yK Ds w).os = w.os /\ (yK Ds w).tape = w.tape /\ (yK Ds w).output = w.output
 | [], w => ⟨rfl, rfl, rfl⟩
 | D :: Ds, w => alN Ds _
theorem agE {Fe : Fence} {n : Nat} {P : Program} {fn : Func} {tmps : Array Value} {R : Ending -> World -> Prop} : ∀ (Ds : List Nat) (w : World), Ds.Nodup -> (∀ D ∈ Ds, w.heap[D]? = some (.deferred (some []))) -> LeavesInM Fe n P fn tmps R [] .returning (yK Ds w) -> LeavesInM Fe n P fn tmps R (Ds.map FN) .returning w
 | [], w, _, _, h => h
 | D :: Ds, w, hn, hd, h => by
  obtain ⟨h1, h2⟩ := List.nodup_cons.1 hn
  refine ⟨by simp, .inl ⟨D, _, rfl, run_takeDeferred (hd D (by simp)), agE Ds _ h2 (fun D' hD' => ?_) h⟩⟩
  exact (World.putObj_heap_other fun e => h1 (by rw [<- e]; exact hD')).trans (hd D' (List.mem_cons_of_mem _ hD'))
theorem aI.leave {c : Cx} {F : Nat -> Prop} {Ds : List Nat} {π : Nat -> Pl} {s : TS} {a : Act} {w : World} (hD : Ls c Ds) (hc : c.ds = []) (hno : c.no = []) (hF : ∀ b, ¬ c.bar b -> F b) (h : aI (c.add Ds) (but F Ds) π s a w) : aI c F π s { a with defers := [] } (yK Ds w) := by
 have own : ∀ id g, Own π (aA s.ob) id g -> g ∉ Ds := fun id g hg hm => (h.new id g hg).1 (.inr (.inl hm))
 have E : gK w (Gz (but F Ds) w π (aA s.ob)) π (aA s.ob) (yK Ds w) (Gz F (yK Ds w) π (aA s.ob)) π (aA s.ob) :=
  ⟨fun b hb => ⟨⟨hb.1.1, by rw [Kv]; exact hb.2.1, hb.2.2⟩, Ku Ds w hb.1.2⟩, fun id o ho => ⟨o, ho, Step.refl o⟩⟩
 obtain ⟨q1, q2, q3⟩ := alN Ds w
 refine ⟨⟨q1.trans h.kept.os, q2.trans h.kept.tape, q3.trans h.kept.output, by rw [Kv]; exact h.kept.size, fun b hb _ => ?_, fun b hb => by rw [hno] at hb; cases hb⟩, hF, by simp [hc], h.size, fun i x hx => VR.lY E (h.slot i x hx), fun id o ho => (h.obj id o ho).lY E rfl fun g hg => Ku Ds w (own id g ⟨o, ho, hg⟩), h.inj, fun id g hg => ⟨fun hb => ?_, by rw [Kv]; exact (h.new id g hg).2⟩, h.pin, h.rW.mono E.fz⟩
 ·rcases hb with hb | hb | hb
  ·have hn : b ∉ Ds := fun hm => by have := hD.old b hm; have := hb.2; omega
   rw [Ku Ds w hn, h.kept.block b (.inl hb) (by show b ∉ c.no; rw [hno]; simp)]
   have h1 : (c.add Ds).blk b = c.w.heap[b]? := if_neg hn
   have h2 : c.blk b = c.w.heap[b]? := if_neg (by rw [hc]; simp)
   rw [h1, h2]
  ·rw [hc] at hb; cases hb
  ·rw [hno] at hb; cases hb
 ·rcases hb with hb | hb | hb
  ·exact (h.new id g hg).1 (.inl hb)
  ·rw [hc] at hb; cases hb
  ·rw [hno] at hb; cases hb
theorem iQ.of {P : Program} {f : FuncId} {fn : Func} {x : Code} {R : TS -> List TV -> List (Nat × TO) -> Prop} {args : List TV} {O : List (Nat × TO)} {Q : TV -> List (Nat × TO) -> Prop} (hf : P.funcs[f]? = some fn) (hb : fn.body = some x)
  (hR : ∀ s l O', R s l O' -> ∀ (c : Cx), (∀ id p, c.pin id = some p -> ∃ o, aA O id = some o) -> ∀ (F : Nat -> Prop) (π : Nat -> Pl) (a : Act) (w : World), aI c F π s a w -> ∃ v aJ s1 a1, (results fn a.tmps).run P w = .ok v w /\ aI c F aJ s1 a1 w /\ s1.ob = O' /\ VR w (Gz F w aJ (aA O')) aJ (aA O') (sJ l) v) (hname : (fn.name == "runtime.NumGoroutine") = false)
  {nt : Nat} (hn : fn.ntmps = args.length + nt) (hO : ∀ id o, aA O id = some o -> o.live = true /\ o.rZ = false) (h : ∀ (c : Cx) (F : Nat -> Prop), c.EP = none -> c.no = [] -> (∀ id p, c.pin id = some p -> ∃ o, aA O id = some o) -> lD P c F x (aqL R Q) ⟨args ++ List.replicate nt .any, O⟩) : iQ P f args O Q := by
 have hname' : ¬ fn.name = "runtime.NumGoroutine" := by simpa using hname
 refine ⟨fun as w => by simp [callFunc, hf, hname', hb], fun w F π vs hl hF hfr hv hgl => ?_⟩
 refine callsIn_wide.1 (callsIn_of_wp_marks (F := Fence.wide) (n := 9) hf hb trivial ?_)
 have hG : ∀ b, Gz F w π (aA O) b -> Gz (fun b => F b \/ w.heap.size <= b) w π (aA O) b := fun b ⟨h0, h1, h2⟩ => ⟨.inl h0, h1, h2⟩
 have E : gK w (Gz F w π (aA O)) π (aA O) w (Gz (fun b => F b \/ w.heap.size <= b) w π (aA O)) π (aA O) := ⟨fun b hb => ⟨hG b hb, rfl⟩, fun id o ho => ⟨o, ho, Step.refl o⟩⟩
 let c : Cx := ⟨w, fun b => ∀ id, ¬ Own π (aA O) id b, fun id => (aA O id).map fun o => (π id, o), none, [], []⟩
 have hFc : ∀ b, ¬ c.bar b -> F b \/ w.heap.size <= b := fun b hb => by
  rcases Nat.lt_or_ge b w.heap.size with hlt | hge
  ·have : ∃ id, Own π (aA O) id b := Classical.byContradiction fun hno => hb (.inl ⟨fun id hid => hno ⟨id, hid⟩, hlt⟩)
   obtain ⟨id, hid⟩ := this
   exact .inl (hfr.new id b hid).1
  ·exact .inr hge
 have hr : Rel c (fun b => F b \/ w.heap.size <= b) ⟨args ++ List.replicate nt .any, O⟩ { tmps := vs.toArray ++ Array.replicate (fn.ntmps - vs.toArray.size) undef, defers := [] } w := by
  refine ⟨π, ⟨rfl, rfl, rfl, Nat.le_refl _, fun b _ _ => by simp [Cx.blk, c], fun b hb => by cases hb⟩, hFc, rfl, by simp [hl, hn], fun i x hx => ?_, fun id o ho => (hfr.obj id o ho).lY E rfl fun _ _ => rfl, hfr.inj, fun id g hg => ⟨fun hb => hb.elim (fun hb => hb.1 id hg) (fun hb => hb.elim (fun hb => by cases hb) (fun hb => by cases hb)), (hfr.new id g hg).2⟩, fun id p o0 hp => ?_, hgl.mono E.fz⟩
  ·by_cases hi : i < args.length
   ·have hi' : i < vs.length := by omega
    have e1 : (args ++ List.replicate nt TV.any)[i]? = args[i]? := List.getElem?_append_left hi
    rw [e1] at hx
    have e2 : (vs.toArray ++ Array.replicate (fn.ntmps - vs.toArray.size) undef).getD i undef = vs[i] := by
     simp [Array.getD_eq_getD_getElem?, Array.getElem?_append, hi']
    rw [e2]
    exact VR.lY E (hv i x vs[i] hx (by simp [hi']))
   ·have e1 : (args ++ List.replicate nt TV.any)[i]? = (List.replicate nt TV.any)[i - args.length]? := List.getElem?_append_right (by omega)
    rw [e1] at hx
    have : x = .any := by
     rw [List.getElem?_replicate] at hx
     split at hx
     ·exact (aC hx).symm
     ·cases hx
    subst this; trivial
  ·obtain ⟨o, ho, hp'⟩ := Option.map_eq_some_iff.1 hp
   simp only [bJ] at hp'
   obtain ⟨rfl, rfl⟩ := hp'
   exact ⟨o, ho, fun hl => ⟨rfl, qO.refl hl (hO id o ho).2⟩⟩
 have hrl : Rl c (fun b => F b \/ w.heap.size <= b) ⟨args ++ List.replicate nt .any, O⟩ { tmps := vs.toArray ++ Array.replicate (fn.ntmps - vs.toArray.size) undef, defers := [] } w := by
  refine ⟨[], ⟨.nil, (fun _ h => by cases h), fun _ => rfl⟩, ?_⟩
  have e : but (fun b => F b \/ w.heap.size <= b) [] = fun b => F b \/ w.heap.size <= b := funext fun b => propext ⟨fun h => h.1, fun h => ⟨h, by simp⟩⟩
  rw [e]; exact hr
 have fA : ∀ id p, c.pin id = some p -> ∃ o, aA O id = some o := fun id p hp => by
  obtain ⟨o, ho, _⟩ := Option.map_eq_some_iff.1 hp
  exact ⟨o, ho⟩
 refine wpIn_mono (h c _ rfl rfl fA 9 _ _ hrl) fun e a' w' ⟨s', he, Ds, hD, aJ, hm0⟩ => ?_
 have hm := hm0.leave hD rfl rfl hFc
 have key : (∃ l O', R s' l O' /\ Q (sJ l) O') -> LeavesInM Fence.wide 9 P fn a'.tmps (fun e w' => ∃ r v O' aJ, e = .returned v /\ Q r O' /\ Frame (fun b => F b \/ w.heap.size <= b) w' aJ O' /\ VR w' (Gz (fun b => F b \/ w.heap.size <= b) w' aJ (aA O')) aJ (aA O') r v /\
   (∀ id o, aA O id = some o -> ∃ o', aA O' id = some o' /\ (o'.live = true -> aJ id = π id /\ qO o o')) /\ (∀ id g, Own aJ (aA O') id g -> (∃ j, Own π (aA O) j g) \/ w.heap.size <= g) /\ Kept ⟨w, fun b => ∀ id, ¬ Own π (aA O) id b, fun _ => none, none, [], []⟩ w') a'.defers .returning w' := fun ⟨r, O1, h1, h3⟩ => by
  rw [hm0.defers]
  refine agE Ds w' hD.nd (fun D hDs => ?_) ?_
  ·have := hm0.kept.block D (.inr (.inl hDs)) (by show D ∉ ([] : List Nat); simp)
   rw [this]; unfold Cx.blk; exact if_pos hDs
  obtain ⟨v, iY, s1, a1, hv1, hm1, hO1, hv2⟩ := hR s' r O1 h1 c fA _ aJ _ _ hm
  subst hO1
  refine ⟨v, hv1, sJ r, v, s1.ob, iY, rfl, h3, ⟨hm1.obj, hm1.inj, fun id g hg => ⟨hm1.hF g (hm1.new id g hg).1, (hm1.new id g hg).2⟩⟩, hv2, fun id o ho => hm1.pin id (π id) o (by simp [c, ho]), fun id g hg => ?_, ?_⟩
  ·have hb := (hm1.new id g hg).1
   rcases Nat.lt_or_ge g w.heap.size with hlt | hge
   ·exact .inl (Classical.byContradiction fun hno => hb (.inl ⟨fun j hj => hno ⟨j, hj⟩, hlt⟩))
   ·exact .inr hge
  ·obtain ⟨k1, k2, k3, k4, k5, k6⟩ := hm1.kept
   exact ⟨k1, k2, k3, k4, k5, k6⟩
 obtain ⟨he1, he2⟩ := he
 rcases he1 with rfl | rfl
 ·exact key he2
 ·exact key he2
end
section
def Yields (P : Program) (g : Nat) (lb : Array Value) (S : Nat -> Prop) (w : World) (t : DT) (xs : List t.den) : Prop :=
 ∀ (l : Nat) (J : Nat -> (Nat -> Prop) -> World -> Prop) (Jx : World -> Prop) (W : World) (M : Nat -> Prop),
  (∀ b, S b -> b < W.heap.size /\ W.heap[b]? = w.heap[b]? /\ ¬ M b) ->
  (∀ k M A B, J k M A -> Below A.heap.size A B -> J k M B) ->
  (∀ k M A, J k M A -> ∀ b, M b -> b < A.heap.size) ->
  (∀ k M W1 v x, J k M W1 -> xs[k]? = some x -> t.val x W1 (fun b => S b \/ (W.heap.size <= b /\ b < W1.heap.size /\ ¬ M b)) v ->
   ∀ n, YieldAt Fence.wide n P l #[v] W1 fun e W' =>
    (e = .returned (.bool true) /\ ∃ M', J (k + 1) M' W' /\ W1.heap.size <= W'.heap.size /\ (∀ b, b < W1.heap.size -> ¬ M b -> W'.heap[b]? = W1.heap[b]?) /\ ∀ b, M' b -> M b \/ W1.heap.size <= b) \/ (e = .returned (.bool false) /\ Jx W')) ->
  J 0 M W ->
  Calls P g (#[.func (.yield l) #[] #[]] ++ lb) W fun e W' => (∃ v, e = .returned v) /\ ((∃ M', J xs.length M' W') \/ Jx W')
def iG (w : World) (π : Nat -> Pl) (O : List (Nat × TO)) (r : Option Nat) : Cx := ⟨w, fun b => ∀ id, ¬ Own π (aA O) id b, fun id => (aA O id).map fun o => (π id, o), r, [], []⟩
theorem iG.bar {w : World} {π : Nat -> Pl} {O : List (Nat × TO)} {r : Option Nat} {b : Nat} : (iG w π O r).bar b ↔ (∀ id, ¬ Own π (aA O) id b) /\ b < w.heap.size := by
 unfold Cx.bar iG; simp
theorem iG.blk (w : World) (π : Nat -> Pl) (O : List (Nat × TO)) (r : Option Nat) (b : Nat) : (iG w π O r).blk b = w.heap[b]? := if_neg (by simp [iG])
def OD (O : List (Nat × TO)) : Prop := ∀ id o, aA O id = some o -> o.rZ = false
theorem aI.fresh {c : Cx} {F : Nat -> Prop} {π : Nat -> Pl} {s : TS} {a a2 : Act} {w : World} (r : Option Nat) (h : aI c F π s a w) (hF : ∀ b, ¬ (iG w π s.ob r).bar b -> F b) (ht : a2.tmps = a.tmps) (hd : a2.defers = []) (hnm : OD s.ob) : aI (iG w π s.ob r) F π s a2 w :=
 ⟨⟨rfl, rfl, rfl, Nat.le_refl _, fun b _ _ => (iG.blk w π s.ob r b).symm, fun b hb => by cases hb⟩, hF, hd, by rw [ht]; exact h.size, fun i x hx => by rw [ht]; exact h.slot i x hx, h.obj, h.inj, fun id g hg => ⟨fun hb => (iG.bar.1 hb).1 id hg, (h.new id g hg).2⟩, fun id p o0 hp => by
  obtain ⟨o, ho, hp'⟩ := Option.map_eq_some_iff.1 hp
  simp only [bJ] at hp'
  obtain ⟨rfl, rfl⟩ := hp'
  exact ⟨o, ho, fun hl => ⟨rfl, qO.refl hl (hnm id o ho)⟩⟩, h.rW⟩
def FY (O O' : List (Nat × TO)) : Prop := ∀ id o, aA O id = some o -> ∀ o', aA O' id = some o' -> o'.live = true \/ o' = .dead
theorem aI.sys {c c2 : Cx} {F F2 : Nat -> Prop} {π : Nat -> Pl} {s : TS} {a : Act} {w w2 : World} (h : aI c F π s a w) (hk : Kept c2 w2) (hF : ∀ b, ¬ c2.bar b -> F2 b) (hd : a.defers = c2.ds.map FN)
  (fz : fG w (Gz F w π (aA s.ob)) w2 (Gz F2 w2 π (aA s.ob))) (hown : ∀ id g, Own π (aA s.ob) id g -> w2.heap[g]? = w.heap[g]? /\ ¬ c2.bar g) (hsz : w.heap.size <= w2.heap.size) (fA : ∀ id p, c2.pin id = some p -> c.pin id = some p) : aI c2 F2 π s a w2 := by
 have E : gK w (Gz F w π (aA s.ob)) π (aA s.ob) w2 (Gz F2 w2 π (aA s.ob)) π (aA s.ob) := ⟨fz, fun id o ho => ⟨o, ho, Step.refl o⟩⟩
 exact ⟨hk, hF, hd, h.size, fun i x hx => VR.lY E (h.slot i x hx), fun id o ho => (h.obj id o ho).lY E rfl fun g hg => (hown id g ⟨o, ho, hg⟩).1, h.inj, fun id g hg => ⟨(hown id g hg).2, Nat.lt_of_lt_of_le (h.new id g hg).2 hsz⟩, fun id p o0 hp => h.pin id p o0 (fA id _ hp), h.rW.mono fz⟩
theorem aI.back {c : Cx} {F F3 : Nat -> Prop} {π oV : Nat -> Pl} {s s3 : TS} {a a3 : Act} {W W3 W4 : World} {r : Option Nat} {Ds : List Nat} {WB : World} {l : Nat} (h : aI c F π s a W) (h3 : aI ((iG WB π s.ob r).add Ds) F3 oV s3 a3 W3)
  (hF3 : ∀ b, F3 b -> F b) (NL : ¬ F l) (hcl : l ∈ c.no) (hol : ∀ id, ¬ Own π (aA s.ob) id l) (JB : ∀ b, b ≠ l -> WB.heap[b]? = W.heap[b]?) (Ti : WB.os = W.os /\ WB.tape = W.tape /\ WB.output = W.output) (hsz : WB.heap.size = W.heap.size) (hDs : ∀ D ∈ Ds, WB.heap.size <= D) (hl : l < W.heap.size)
  (Td : ∀ b, b ≠ l -> W4.heap[b]? = W3.heap[b]?) (Tf : W4.os = W3.os /\ W4.tape = W3.tape /\ W4.output = W3.output) (UA : W4.heap.size = W3.heap.size) (hkeep : FY s.ob s3.ob) :
  aI c F oV ⟨s.sl, s3.ob⟩ a W4 /\ (∀ b, b < W.heap.size -> (∀ id, ¬ Own π (aA s.ob) id b) -> b ≠ l -> W4.heap[b]? = W.heap[b]?) /\ (∀ id g, Own oV (aA s3.ob) id g -> (∃ j, Own π (aA s.ob) j g) \/ W.heap.size <= g) /\ ∀ id, ¬ Own oV (aA s3.ob) id l := by
 have bar : ∀ b, b < W.heap.size -> (∀ id, ¬ Own π (aA s.ob) id b) -> ((iG WB π s.ob r).add Ds).bar b := fun b hb hno => .inl ⟨hno, by show b < WB.heap.size; omega⟩
 have blk : ∀ b, b < W.heap.size -> ((iG WB π s.ob r).add Ds).blk b = WB.heap[b]? := fun b hb => if_neg fun hm => by have := hDs b hm; omega
 have same : ∀ b, b < W.heap.size -> (∀ id, ¬ Own π (aA s.ob) id b) -> b ≠ l -> W4.heap[b]? = W.heap[b]? := fun b hb hno hne => by
  rw [Td b hne, h3.kept.block b (bar b hb hno) (by show b ∉ ([] : List Nat); simp), blk b hb, JB b hne]
 have hgrow : W.heap.size <= W4.heap.size := by
  have := h3.kept.size
  have e : ((iG WB π s.ob r).add Ds).w.heap.size = WB.heap.size := rfl
  omega
 have own : ∀ id g, Own oV (aA s3.ob) id g -> (∃ j, Own π (aA s.ob) j g) \/ W.heap.size <= g := fun id g hg => by
  have hb := (h3.new id g hg).1
  rcases Nat.lt_or_ge g W.heap.size with hlt | hge
  ·exact .inl (Classical.byContradiction fun hno => hb (bar g hlt fun j hj => hno ⟨j, hj⟩))
  ·exact .inr hge
 have aiV : ∀ id, ¬ Own oV (aA s3.ob) id l := fun id hg => (h3.new id l hg).1 (bar l hl hol)
 have fz : fG W (Gz F W π (aA s.ob)) W4 (Gz F W4 oV (aA s3.ob)) := fun b hb => by
  have hne : b ≠ l := fun e => NL (e ▸ hb.1)
  refine ⟨⟨hb.1, Nat.lt_of_lt_of_le hb.2.1 hgrow, fun id hid => ?_⟩, same b hb.2.1 hb.2.2 hne⟩
  rcases own id b hid with ⟨j, hj⟩ | hge
  ·exact hb.2.2 j hj
  ·have := hb.2.1; omega
 have fz3 : fG W3 (Gz F3 W3 oV (aA s3.ob)) W4 (Gz F W4 oV (aA s3.ob)) := fun b hb => by
  have hne : b ≠ l := fun e => NL (e ▸ hF3 b hb.1)
  exact ⟨⟨hF3 b hb.1, by rw [UA]; exact hb.2.1, hb.2.2⟩, Td b hne⟩
 have pin : ∀ id o, aA s.ob id = some o -> ∃ o', aA s3.ob id = some o' /\ (o'.live = true -> oV id = π id /\ qO o o') := fun id o ho => h3.pin id (π id) o (by show (aA s.ob id).map (fun o => (π id, o)) = _; rw [ho]; rfl)
 have E : gK W (Gz F W π (aA s.ob)) π (aA s.ob) W4 (Gz F W4 oV (aA s3.ob)) oV (aA s3.ob) := ⟨fz, fun id o ho => by
  obtain ⟨o', ho', hl'⟩ := pin id o ho
  refine ⟨o', ho', ?_⟩
  rcases hkeep id o ho o' ho' with q | q
  ·obtain ⟨e1, e2⟩ := hl' q
   rw [e1]; exact Step.Ja e2
  ·subst q; cases o <;> trivial⟩
 have E3 : gK W3 (Gz F3 W3 oV (aA s3.ob)) oV (aA s3.ob) W4 (Gz F W4 oV (aA s3.ob)) oV (aA s3.ob) := ⟨fz3, fun id o ho => ⟨o, ho, Step.refl o⟩⟩
 have hos : W4.os = W.os /\ W4.tape = W.tape /\ W4.output = W.output :=
  ⟨Tf.1.trans (h3.kept.os.trans Ti.1), Tf.2.1.trans (h3.kept.tape.trans Ti.2.1), Tf.2.2.trans (h3.kept.output.trans Ti.2.2)⟩
 refine ⟨⟨h.kept.onN hos hgrow fun b hb hn => ?_, h.hF, h.defers, h.size, fun i x hx => VR.lY E (h.slot i x hx), fun id o ho => (h3.obj id o ho).lY E3 rfl fun g hg => Td g fun e => aiV id (e ▸ ⟨o, ho, hg⟩), h3.inj, fun id g hg => ⟨fun hb => ?_, by rw [UA]; exact (h3.new id g hg).2⟩, fun id p o0 hp => ?_, h.rW.mono fz⟩, same, own, aiV⟩
 ·exact same b (h.kept.lt hb) (fun id hid => (h.new id b hid).1 hb) fun e => hn (e ▸ hcl)
 ·rcases own id g hg with ⟨j, hj⟩ | hge
  ·exact (h.new j g hj).1 hb
  ·have := h.kept.lt hb; omega
 ·obtain ⟨o, ho, hl1⟩ := h.pin id p o0 hp
  obtain ⟨o', ho', hl2⟩ := pin id o ho
  refine ⟨o', ho', fun hl' => ?_⟩
  obtain ⟨q1, q2⟩ := hl2 hl'
  have hlo : o.live = true := by cases o <;> first | rfl | exact q2.elim
  obtain ⟨q3, q4⟩ := hl1 hlo
  exact ⟨q1.trans q3, q4.trans q2⟩
structure E8 (c : Cx) : Prop where
 no : c.no = []
 rc : ∀ l, c.EP = some l -> ∃ r, (c.kp l /\ l < c.w.heap.size) /\ c.w.heap[l]? = some (.loop r)
def ab9 (Q : Exit -> TS -> Prop) (sl : List TV) (O : List (Nat × TO)) (Nx : TS -> Prop) : Exit -> TS -> Prop
 | .normal, s' => FY O s'.ob /\ Nx ⟨sl, s'.ob⟩
 | .ret, s' => FY O s'.ob /\ Q .ret ⟨sl, s'.ob⟩
 | .exit id, s' => FY O s'.ob /\ Q (.exit id) ⟨sl, s'.ob⟩
 | _, _ => False
theorem acS (F : Nat -> Prop) : but F [] = F := funext fun b => propext ⟨fun h => h.1, fun h => ⟨h, by simp⟩⟩
theorem add_nil {c : Cx} (h : c.ds = []) : c.add [] = c := by cases c; simp only at h; subst h; rfl
theorem Rl.inRound {c : Cx} {F : Nat -> Prop} {s : TS} {a : Act} {w : World} (hc : c.EP ≠ none) (hd : c.ds = []) (h : Rl c F s a w) : Rel c F s a w := by
 obtain ⟨Ds, hD, hr⟩ := h
 obtain rfl := hD.rd hc
 rwa [acS, add_nil hd] at hr
theorem Rl.aiF {c : Cx} {F : Nat -> Prop} {s : TS} {a : Act} {w : World} (hd : c.ds = []) (h : Rel c F s a w) : Rl c F s a w :=
 ⟨[], ⟨.nil, (fun _ h => by cases h), fun _ => rfl⟩, by rwa [acS, add_nil hd]⟩
theorem aI.weak {c : Cx} {F : Nat -> Prop} {π : Nat -> Pl} {s s2 : TS} {a : Act} {w : World} (h : aI c F π s a w) (hw : ∀ (c2 : Cx), c2.pin = c.pin -> Rel c2 F s a w -> Rel c2 F s2 a w) : ∃ eG, aI c F eG s2 a w /\ ∀ id g, Own eG (aA s2.ob) id g -> ∃ j, Own π (aA s.ob) j g := by
 let c4 : Cx := { c with w := w, kp := fun b => ∀ id, ¬ Own π (aA s.ob) id b }
 have hbar : ∀ b, c4.bar b -> (∀ id, ¬ Own π (aA s.ob) id b) /\ b < w.heap.size := fun b hb => by
  rcases hb with hb | hb
  ·exact hb
  ·exact ⟨fun id hid => (h.new id b hid).1 (.inr hb), h.kept.lt (.inr hb)⟩
 have hF : ∀ b, ¬ c4.bar b -> F b := fun b hb => by
  refine h.hF b fun hb' => hb (.inl ⟨fun id hid => (h.new id b hid).1 hb', h.kept.lt hb'⟩)
 have h4 : aI c4 F π s a w := ⟨⟨rfl, rfl, rfl, Nat.le_refl _, fun b hb hn => by
  unfold Cx.blk
  by_cases q : b ∈ c4.ds
  ·rw [if_pos q]
   have := h.kept.block b (.inr (.inl q)) hn
   unfold Cx.blk at this
   rwa [if_pos (show b ∈ c.ds from q)] at this
  ·rw [if_neg q], h.kept.no⟩, hF, h.defers, h.size, h.slot, h.obj, h.inj, fun id g hg => ⟨fun hb => (hbar g hb).1 id hg, (h.new id g hg).2⟩, h.pin, h.rW⟩
 obtain ⟨eG, h5⟩ := hw c4 rfl ⟨π, h4⟩
 have own : ∀ id g, Own eG (aA s2.ob) id g -> ∃ j, Own π (aA s.ob) j g := fun id g hg => by
  obtain ⟨n1, n2⟩ := h5.new id g hg
  exact Classical.byContradiction fun hno => n1 (.inl ⟨fun j hj => hno ⟨j, hj⟩, n2⟩)
 exact ⟨eG, ⟨h.kept, h.hF, h.defers, h5.size, h5.slot, h5.obj, h5.inj, fun id g hg => by
  obtain ⟨j, hj⟩ := own id g hg
  exact h.new j g hj, h5.pin, h5.rW⟩, own⟩
theorem rounds {P : Program} {c0 : Cx} {F0 : Nat -> Prop} {a : Act} {p : Tmp} {assign body : Code} {fn : FuncId} {BM : Nat} {l : Nat} {Q : Exit -> TS -> Prop} {t : DT} {xs : List t.den} {gf : Nat} {lb : Array Value} {S : Nat -> Prop} {w0 W0 : World}
  (hy : Yields P gf lb S w0 t xs) (hbc : l ∈ c0.no) (NL : ¬ F0 l) (wk : TS -> TS -> Prop) (hwk : ∀ (c2 : Cx) s s' a w, c2.pin = c0.pin -> wk s s' -> Rel c2 F0 s a w -> Rel c2 F0 s' a w) (I : Nat -> TS -> Prop) (hnm : ∀ k s1, k < xs.length -> I k s1 -> OD s1.ob)
  (Ub : ∀ k x s1, I k s1 -> xs[k]? = some x -> ∀ (c2 : Cx) (F2 : Nat -> Prop), (∀ id q, c2.pin id = some q -> ∃ o, aA s1.ob id = some o) -> E8 c2 ->
   lD P c2 F2 assign (fun e s' => e = .normal /\ (FY s1.ob s'.ob /\ OD s'.ob) /\ ∀ (c3 : Cx) (F3 : Nat -> Prop), (∀ id q, c3.pin id = some q -> ∃ o, aA s'.ob id = some o) -> E8 c3 ->
    lD P c3 F3 body (ab9 Q s1.sl s'.ob fun s2 => ∃ s3, wk s2 s3 /\ I (k + 1) s3) s') (s1.put (some p) (.dv t x)))
  {s : TS} {π : Nat -> Pl} (h0 : I 0 s) (hr : aI c0 F0 π s a W0) (hrec : W0.heap[l]? = some (.loop { state := .ready, pending := none, fn, tmps := a.tmps, params := #[p], assign, body, defers := BM }))
  (hol : ∀ id, ¬ Own π (aA s.ob) id l)
  (hS : ∀ b, S b -> F0 b /\ b < W0.heap.size /\ W0.heap[b]? = w0.heap[b]? /\ b ≠ l /\ ∀ id, ¬ Own π (aA s.ob) id b) (hnew : ∀ b, W0.heap.size <= b -> F0 b) :
  Calls P gf (#[.func (.yield l) #[] #[]] ++ lb) W0 fun e W' => (∃ v, e = .returned v) /\ ((∃ s1, I xs.length s1 /\ Rel c0 F0 s1 a W' /\ W'.heap[l]? = some (.loop { state := .ready, pending := none, fn, tmps := a.tmps, params := #[p], assign, body, defers := BM })) \/
   ∃ e s1, ((e = .ret /\ Q .ret s1) \/ ∃ id, e = .exit id /\ Q (.exit id) s1) /\ Rel c0 F0 s1 a W' /\ W'.heap[l]? = some (.loop { state := .done, pending := some e, fn, tmps := a.tmps, params := #[p], assign, body, defers := BM })) := by
 let vV : LoopState -> Option Code -> Loop := fun st pe => { state := st, pending := pe, fn, tmps := a.tmps, params := #[p], assign, body, defers := BM }
 have hW0 : l < W0.heap.size := (Array.getElem?_eq_some_iff.1 hrec).1
 refine (hy l
  (fun k M W => ∃ s1 π, I k s1 /\ aI c0 F0 π s1 a W /\ (∀ id, ¬ Own π (aA s1.ob) id l) /\ W.heap[l]? = some (.loop (vV .ready none)) /\ (∀ b, M b ↔ (∃ id, Own π (aA s1.ob) id b) \/ b = l) /\ W0.heap.size <= W.heap.size /\ ∀ b, S b -> ¬ M b)
  (fun W => ∃ e s1, ((e = .ret /\ Q .ret s1) \/ ∃ id, e = .exit id /\ Q (.exit id) s1) /\ Rel c0 F0 s1 a W /\ W.heap[l]? = some (.loop (vV .done (some e))))
  W0 (fun b => (∃ id, Own π (aA s.ob) id b) \/ b = l) (fun b hb => ?_) (fun k M A B hJ hAB => ?_) (fun k M A hJ b hb => ?_) (fun k M W1 v x hJ hx hv n => ?_) ?_).mono ?_
 ·obtain ⟨_, q2, q3, q4, q5⟩ := hS b hb
  exact ⟨q2, q3, fun hm => hm.elim (fun ⟨id, hid⟩ => q5 id hid) q4⟩
 ·obtain ⟨s1, iY, i1, hm, o1, r1, m1, z1, n1⟩ := hJ
  have hlA : l < A.heap.size := (Array.getElem?_eq_some_iff.1 r1).1
  refine ⟨s1, iY, i1, hm.sys (hm.kept.below hAB) hm.hF hm.defers (fun b hb => ⟨⟨hb.1, Nat.lt_of_lt_of_le hb.2.1 hAB.size, hb.2.2⟩, hAB.block b hb.2.1⟩) (fun id g hg => ⟨hAB.block g (hm.new id g hg).2, (hm.new id g hg).1⟩) hAB.size (fun _ _ h => h), o1, (hAB.block l hlA).trans r1, m1, Nat.le_trans z1 hAB.size, n1⟩
 ·obtain ⟨s1, iY, i1, hm, o1, r1, m1, z1, n1⟩ := hJ
  rcases (m1 b).1 hb with ⟨id, hid⟩ | rfl
  ·exact (hm.new id b hid).2
  ·exact (Array.getElem?_eq_some_iff.1 r1).1
 ·obtain ⟨s1, iY, i1, hm, o1, r1, m1, z1, n1⟩ := hJ
  have hl1 : l < W1.heap.size := (Array.getElem?_eq_some_iff.1 r1).1
  have hy1 := run_yield (P := P) (args := #[v]) r1 rfl
  have hact : ((vV .ready none).params.zip #[v]).foldl (fun tmps (x : Tmp × Value) => match x with | (t, a) => tmps.setIfInBounds t a) (vV .ready none).tmps = a.tmps.setIfInBounds p v := by simp [vV]
  refine ⟨fn, _, assign, body, hy1, roundIn_of_wpIn (F := Fence.wide) trivial ?_⟩
  rw [hact]
  -- the round's first context
  have hF2 : ∀ b, ¬ (iG W1 iY s1.ob (some l)).bar b -> F0 b := fun b hb => by
   rcases Nat.lt_or_ge b W1.heap.size with hlt | hge
   ·have : ∃ id, Own iY (aA s1.ob) id b := Classical.byContradiction fun hno => hb (iG.bar.2 ⟨fun id hid => hno ⟨id, hid⟩, hlt⟩)
    obtain ⟨id, hid⟩ := this
    exact hm.hF b (hm.new id b hid).1
   ·exact hnew b (by omega)
  have hm1 : aI (iG W1 iY s1.ob (some l)) F0 iY s1 { tmps := a.tmps, defers := [] } W1 := hm.fresh (some l) hF2 rfl rfl (hnm k s1 (List.getElem?_eq_some_iff.1 hx).1 i1)
  have hvG : t.val x W1 (Gz F0 W1 iY (aA s1.ob)) v := DT.iD (w := W1) (G := fun b => S b \/ (W0.heap.size <= b /\ b < W1.heap.size /\ ¬ M b)) (fun b hb => ⟨by
   rcases hb with hb | ⟨q1, q2, q3⟩
   ·obtain ⟨q1, q2, _⟩ := hS b hb
    exact ⟨q1, by omega, fun id hid => n1 b hb ((m1 b).2 (.inl ⟨id, hid⟩))⟩
   ·exact ⟨hnew b q1, q2, fun id hid => q3 ((m1 b).2 (.inl ⟨id, hid⟩))⟩, rfl⟩) hv
  have awR := hm1.put (some p) (x := .dv t x) (v := v) hvG
  have Tj : E8 (iG W1 iY s1.ob (some l)) := ⟨rfl, fun l' e => by
   obtain rfl := aC e
   exact ⟨_, ⟨o1, hl1⟩, r1⟩⟩
  have afM : ∀ (W : World) (π : Nat -> Pl) (O : List (Nat × TO)) id q, (iG W π O (some l)).pin id = some q -> ∃ o, aA O id = some o := fun W π O id q h => by
   obtain ⟨o, ho, _⟩ := Option.map_eq_some_iff.1 h
   exact ⟨o, ho⟩
  refine wpIn_mono (Ub k x s1 i1 hx _ F0 (afM W1 iY s1.ob) Tj n _ W1 (Rl.aiF rfl ⟨iY, awR⟩)) fun e a2 W2 ⟨s2, ⟨he, hk2, hbody⟩, hrl⟩ => ?_
  subst he
  obtain ⟨eG, hm2⟩ := Rl.inRound (by simp [iG]) rfl hrl
  -- back in the loop's own words
  have awS : aI ((iG W1 iY s1.ob (some l)).add []) F0 eG s2 a2 W2 := by rw [add_nil rfl]; exact hm2
  obtain ⟨Tv, same2, wX, Jk⟩ := hm.back awS (fun _ h => h) NL hbc o1 (fun _ _ => rfl) ⟨rfl, rfl, rfl⟩ rfl (fun _ h => by cases h) hl1 (fun _ _ => rfl) ⟨rfl, rfl, rfl⟩ rfl hk2.1
  have hg2 : W1.heap.size <= W2.heap.size := hm2.kept.size
  have r2 : W2.heap[l]? = some (.loop (vV .ready none)) := by
   rw [hm2.kept.block l (iG.bar.2 ⟨o1, hl1⟩) (by simp [iG]), iG.blk]; exact r1
  have hl2 : l < W2.heap.size := by omega
  refine ⟨_, run_beginRound r2 rfl, ?_⟩
  obtain ⟨WB, JB⟩ : ∃ WB, W2.putObj l (.loop { vV .ready none with state := .busy }) = WB := ⟨_, rfl⟩
  rw [JB]
  have hB1 : ∀ b, b ≠ l -> WB.heap[b]? = W2.heap[b]? := fun b hb => by rw [<- JB]; exact World.putObj_heap_other hb
  have hB2 : WB.heap.size = W2.heap.size := by rw [<- JB]; simp
  have hB3 : WB.os = W2.os /\ WB.tape = W2.tape /\ WB.output = W2.output := by rw [<- JB]; exact ⟨rfl, rfl, rfl⟩
  have rB : WB.heap[l]? = some (.loop { vV .ready none with state := .busy }) := by rw [<- JB]; exact World.putObj_heap_same hl2
  -- the round's second context
  have hF3 : ∀ b, ¬ (iG WB eG s2.ob (some l)).bar b -> F0 b := fun b hb => by
   rcases Nat.lt_or_ge b W2.heap.size with hlt | hge
   ·have : ∃ id, Own eG (aA s2.ob) id b := Classical.byContradiction fun hno => hb (iG.bar.2 ⟨fun id hid => hno ⟨id, hid⟩, by omega⟩)
    obtain ⟨id, hid⟩ := this
    exact Tv.hF b (Tv.new id b hid).1
   ·exact hnew b (by omega)
  have awT : aI (iG W2 eG s2.ob (some l)) F0 eG s2 a2 W2 := hm2.fresh (some l) (fun b hb => hF3 b fun hb' => hb (iG.bar.2 ⟨(iG.bar.1 hb').1, by have := (iG.bar.1 hb').2; omega⟩)) rfl hm2.defers hk2.2
  have hm3 : aI (iG WB eG s2.ob (some l)) F0 eG s2 a2 WB := awT.sys ⟨rfl, rfl, rfl, Nat.le_refl _, fun b _ _ => (iG.blk WB eG s2.ob (some l) b).symm, fun b hb => by cases hb⟩ hF3 hm2.defers
   (fun b hb => ⟨⟨hb.1, by rw [hB2]; exact hb.2.1, hb.2.2⟩, hB1 b fun e => NL (e ▸ hb.1)⟩)
   (fun id g hg => ⟨hB1 g fun e => Jk id (e ▸ hg), fun hb => (iG.bar.1 hb).1 id hg⟩) (by omega) (fun _ _ h => h)
  have Tm : E8 (iG WB eG s2.ob (some l)) := ⟨rfl, fun l' e => by
   obtain rfl := aC e
   exact ⟨_, ⟨Jk, by show l < WB.heap.size; omega⟩, rB⟩⟩
  refine wpIn_mono (hbody _ F0 (afM WB eG s2.ob) Tm n _ WB (Rl.aiF rfl ⟨eG, hm3⟩)) fun e a3 W3 ⟨s3, hq, hrl3⟩ => ?_
  obtain ⟨oV, hm4⟩ := Rl.inRound (by simp [iG]) rfl hrl3
  have awU : aI ((iG WB eG s2.ob (some l)).add []) F0 oV s3 a3 W3 := by rw [add_nil rfl]; exact hm4
  have r3 : W3.heap[l]? = some (.loop { vV .ready none with state := .busy }) := by
   rw [hm4.kept.block l (iG.bar.2 ⟨Jk, by omega⟩) (by simp [iG]), iG.blk]; exact rB
  have hg3 : W2.heap.size <= W3.heap.size := by
   have := hm4.kept.size
   have e : (iG WB eG s2.ob (some l)).w.heap.size = WB.heap.size := rfl
   omega
  have hl3 : l < W3.heap.size := by omega
  -- the round's end
  have fin : ∀ (jump : Option Code), FY s2.ob s3.ob -> (Instr.endRound l jump).run P W3 = .ok (.bool jump.isNone) (W3.putObj l (.loop (vV (if jump.isNone then .ready else .done) jump))) /\
    (W3.putObj l (.loop (vV (if jump.isNone then .ready else .done) jump))).heap[l]? = some (.loop (vV (if jump.isNone then .ready else .done) jump)) /\
    (aI c0 F0 oV ⟨s1.sl, s3.ob⟩ a (W3.putObj l (.loop (vV (if jump.isNone then .ready else .done) jump))) /\ (∀ b, b < W2.heap.size -> (∀ id, ¬ Own eG (aA s2.ob) id b) -> b ≠ l -> (W3.putObj l (.loop (vV (if jump.isNone then .ready else .done) jump))).heap[b]? = W2.heap[b]?) /\ (∀ id g, Own oV (aA s3.ob) id g -> (∃ j, Own eG (aA s2.ob) j g) \/ W2.heap.size <= g) /\ ∀ id, ¬ Own oV (aA s3.ob) id l) := fun jump hk3 =>
   ⟨run_endRound jump r3, World.putObj_heap_same hl3, aI.back (s := ⟨s1.sl, s2.ob⟩) Tv awU (fun _ h => h) NL hbc Jk hB1 hB3 hB2 (fun _ h => by cases h) hl2 (fun b hb => World.putObj_heap_other hb) ⟨rfl, rfl, rfl⟩ (by simp) hk3⟩
  cases e with
  | normal =>
   obtain ⟨hk3, s4, hw4, i4⟩ := hq
   obtain ⟨f1, f2, f3, f4, f5, f6⟩ := fin none hk3
   refine ⟨_, _, f1, .inl ⟨rfl, ?_⟩⟩
   obtain ⟨Zv, g1, g2⟩ := f3.weak (s2 := s4) fun c2 hp hr2 => hwk c2 _ _ _ _ hp hw4 hr2
   have UA : ∀ o, (W3.putObj l o).heap.size = W3.heap.size := fun o => by simp
   have aiT : ∀ id g, Own Zv (aA s4.ob) id g -> (∃ j, Own iY (aA s1.ob) j g) \/ W1.heap.size <= g := fun id g hg => by
    obtain ⟨j, hj⟩ := g2 id g hg
    rcases f5 j g hj with ⟨j2, hj2⟩ | hge
    ·exact wX j2 g hj2
    ·exact .inr (by omega)
   refine ⟨fun b => (∃ id, Own Zv (aA s4.ob) id b) \/ b = l, ⟨s4, Zv, i4, g1, fun id hid => by obtain ⟨j, hj⟩ := g2 id l hid; exact f6 j hj, f2, fun b => Iff.rfl, ?_, fun b hb hM => ?_⟩, ?_, fun b hb hM => ?_, fun b hb => ?_⟩
   ·show W0.heap.size <= (W3.putObj l _).heap.size
    rw [UA]; omega
   ·rcases hM with ⟨id, hid⟩ | rfl
    ·rcases aiT id b hid with ⟨j, hj⟩ | hge
     ·exact n1 b hb ((m1 b).2 (.inl ⟨j, hj⟩))
     ·have := (hS b hb).2.1; omega
    ·exact (hS _ hb).2.2.2.1 rfl
   ·show W1.heap.size <= (W3.putObj l _).heap.size
    rw [UA]; omega
   ·have hne : b ≠ l := fun e => hM ((m1 b).2 (.inr e))
    have hno : ∀ id, ¬ Own iY (aA s1.ob) id b := fun id hid => hM ((m1 b).2 (.inl ⟨id, hid⟩))
    have awW : ∀ id, ¬ Own eG (aA s2.ob) id b := fun id hid => by
     rcases wX id b hid with ⟨j, hj⟩ | hge
     ·exact hno j hj
     ·omega
    exact (f4 b (by omega) awW hne).trans (same2 b hb hno hne)
   ·rcases hb with ⟨id, hid⟩ | rfl
    ·rcases aiT id b hid with ⟨j, hj⟩ | hge
     ·exact .inl ((m1 b).2 (.inl ⟨j, hj⟩))
     ·exact .inr hge
    ·exact .inl ((m1 _).2 (.inr rfl))
  | ret =>
   obtain ⟨hk3, hQ⟩ := hq
   obtain ⟨f1, f2, f3, _⟩ := fin (some .ret) hk3
   exact ⟨_, _, f1, .inr ⟨rfl, .ret, _, .inl ⟨rfl, hQ⟩, ⟨oV, f3⟩, f2⟩⟩
  | exit id =>
   obtain ⟨hk3, hQ⟩ := hq
   obtain ⟨f1, f2, f3, _⟩ := fin (some (.exit id)) hk3
   exact ⟨_, _, f1, .inr ⟨rfl, .exit id, _, .inr ⟨id, rfl, hQ⟩, ⟨oV, f3⟩, f2⟩⟩
  | goto i => exact hq.elim
  | panic ch => exact hq.elim
  | outgrown => exact hq.elim
 ·exact ⟨s, π, h0, hr, hol, hrec, fun b => Iff.rfl, Nat.le_refl _, fun b hb hM => by
   obtain ⟨_, _, _, q4, q5⟩ := hS b hb
   rcases hM with ⟨id, hid⟩ | e
   ·exact q5 id hid
   ·exact q4 e⟩
 ·rintro e W' ⟨hv, (⟨M', s1, iY, i1, hm, _, r1, _⟩ | hx)⟩
  ·exact ⟨hv, .inl ⟨s1, i1, ⟨iY, hm⟩, r1⟩⟩
  ·exact ⟨hv, .inr hx⟩
theorem aC8 {c : Cx} {F : Nat -> Prop} {Ds Ds' : List Nat} {l : Nat} {π : Nat -> Pl} {s : TS} {a a0 : Act} {w W1 : World} (hm : aI (c.add Ds) (but F Ds) π s a w) (zD : c.no = []) (ht : a0.tmps = a.tmps) (hd : a0.defers = Ds'.map FN)
  (hsub : ∀ b, b ∈ Ds' -> b ∈ Ds \/ (w.heap.size <= b /\ W1.heap[b]? = some (.deferred (some [])))) (TZ : ∀ b, b ∈ Ds -> b ∈ Ds') (hB : Below w.heap.size w W1) (hl : w.heap.size <= l) (hl1 : l < W1.heap.size) :
  aI { c with ds := Ds', no := [l] } (fun b => but F Ds' b /\ b ≠ l) π s a0 W1 := by
 have hno : (c.add Ds).no = [] := zD
 have Ee := hm.kept.size
 have aJ8 : c.w.heap.size <= w.heap.size := Ee
 have bar : ∀ b, ({ c with ds := Ds', no := [l] } : Cx).bar b -> (c.add Ds).bar b \/ w.heap.size <= b := fun b hb => by
  rcases hb with hb | hb | hb
  ·exact .inl (.inl hb)
  ·rcases hsub b hb with h | h
   ·exact .inl (.inr (.inl h))
   ·exact .inr h.1
  ·have : b = l := by simpa using hb
   exact .inr (by omega)
 have E : gK w (Gz (but F Ds) w π (aA s.ob)) π (aA s.ob) W1 (Gz (fun b => but F Ds' b /\ b ≠ l) W1 π (aA s.ob)) π (aA s.ob) := ⟨fun b hb => by
  refine ⟨⟨⟨⟨hb.1.1, fun hm' => ?_⟩, by have := hb.2.1; omega⟩, Nat.lt_of_lt_of_le hb.2.1 hB.size, hb.2.2⟩, hB.block b hb.2.1⟩
  rcases hsub b hm' with h | h
  ·exact hb.1.2 h
  ·have := hb.2.1; omega, fun id o ho => ⟨o, ho, Step.refl o⟩⟩
 have hlt : ∀ id g, Own π (aA s.ob) id g -> g < w.heap.size := fun id g hg => (hm.new id g hg).2
 refine ⟨⟨hB.os.trans hm.kept.os, hB.tape.trans hm.kept.tape, hB.output.trans hm.kept.output, Nat.le_trans Ee hB.size, fun b hb hn => ?_, fun b hb => ?_⟩, fun b hb => ?_, hd, by rw [ht]; exact hm.size, fun i x hx => by rw [ht]; exact VR.lY E (hm.slot i x hx), fun id o ho => (hm.obj id o ho).lY E rfl fun g hg => hB.block g (hlt id g ⟨o, ho, hg⟩), hm.inj, fun id g hg => ⟨fun hb => ?_, Nat.lt_of_lt_of_le (hlt id g hg) hB.size⟩, hm.pin, hm.rW.mono E.fz⟩
 ·have arG : ∀ b, b ∈ Ds' -> ({ c with ds := Ds', no := [l] } : Cx).blk b = some (.deferred (some [])) := fun b h => if_pos h
  have arH : ∀ b, b ∉ Ds' -> ({ c with ds := Ds', no := [l] } : Cx).blk b = c.w.heap[b]? := fun b h => if_neg h
  have aCD : ∀ b, b ∈ Ds -> (c.add Ds).blk b = some (.deferred (some [])) := fun b h => if_pos h
  have aCE : ∀ b, b ∉ Ds -> (c.add Ds).blk b = c.w.heap[b]? := fun b h => if_neg h
  by_cases hin : b ∈ Ds'
  ·rw [arG b hin]
   rcases hsub b hin with h | h
   ·have hb' : (c.add Ds).bar b := .inr (.inl h)
    rw [hB.block b (hm.kept.lt hb'), hm.kept.block b hb' (by rw [hno]; simp), aCD b h]
   ·exact h.2
  ·rw [arH b hin]
   rcases hb with hb | hb | hb
   ·have hb' : (c.add Ds).bar b := .inl hb
    rw [hB.block b (hm.kept.lt hb'), hm.kept.block b hb' (by rw [hno]; simp), aCE b fun h => hin (TZ b h)]
   ·exact absurd hb hin
   ·exact absurd hb hn
 ·have : b = l := by simpa using hb
  omega
 ·refine ⟨⟨(hm.hF b fun hb' => hb ?_).1, fun hm' => hb (.inr (.inl hm'))⟩, fun e => hb (.inr (.inr (by simp [e])))⟩
  rcases hb' with h | h | h
  ·exact .inl h
  ·exact .inr (.inl (TZ b h))
  ·rw [hno] at h; cases h
 ·rcases bar g hb with h | h
  ·exact (hm.new id g hg).1 h
  ·have := hlt id g hg; omega
theorem akP {c : Cx} {F : Nat -> Prop} {Ds' : List Nat} {l : Nat} {s : TS} {a0 : Act} {W' : World} {o' : Obj} (hr : Rel { c with ds := Ds', no := [l] } (fun b => but F Ds' b /\ b ≠ l) s a0 W') (zD : c.no = []) (hl : ¬ (c.add Ds').bar l) (hF : ∀ b, ¬ (c.add Ds').bar b -> but F Ds' b) :
  Rel (c.add Ds') (but F Ds') s a0 (W'.putObj l o') := by
 obtain ⟨π, hm⟩ := hr
 have hbar : ∀ b, (c.add Ds').bar b -> ({ c with ds := Ds', no := [l] } : Cx).bar b /\ b ≠ l := fun b hb => by
  refine ⟨?_, fun e => hl (e ▸ hb)⟩
  rcases hb with h | h | h
  ·exact .inl h
  ·exact .inr (.inl h)
  ·have h : b ∈ c.no := h
   rw [zD] at h; cases h
 have hsz : (W'.putObj l o').heap.size = W'.heap.size := by simp
 refine ⟨π, hm.sys ⟨hm.kept.os, hm.kept.tape, hm.kept.output, by rw [hsz]; exact hm.kept.size, fun b hb _ => ?_, fun b hb => ?_⟩ hF hm.defers (fun b hb => ⟨⟨hb.1.1, by rw [hsz]; exact hb.2.1, hb.2.2⟩, World.putObj_heap_other hb.1.2⟩) (fun id g hg => ⟨World.putObj_heap_other fun e => (hm.new id g hg).1 (.inr (.inr (by simp [e]))), fun hb => (hm.new id g hg).1 (hbar g hb).1⟩) (by rw [hsz]; exact Nat.le_refl _) (fun _ _ h => h)⟩
 ·obtain ⟨h1, h2⟩ := hbar b hb
  rw [World.putObj_heap_other h2]
  exact hm.kept.block b h1 (by simpa using h2)
 ·have hb : b ∈ c.no := hb
  rw [zD] at hb; cases hb
theorem aC0 {P : Program} {c : Cx} {F : Nat -> Prop} {g : Operand} {p : Tmp} {assign body : Code} {Q : Exit -> TS -> Prop} {s : TS} {gf nn : Nat} {fv : Nat -> TV} {t : DT} {xs : List t.den}
  (hg : s.ev g = .fn gf 0 nn fv) (eg : ∀ args w, (callFunc gf args).run P w = .ok (.enter gf args) w)
  (hseq : ∀ (w : World) (G : Nat -> Prop) (π : Nat -> Pl) (O : bF) (lb : Array Value), lb.size = nn -> (∀ j, j < nn -> ∃ u, lb[j]? = some u /\ VR w G π O (fv j) u) -> (∀ b, G b -> b < w.heap.size) -> ∃ S : Nat -> Prop, (∀ b, S b -> G b) /\ Yields P gf lb S w t xs)
  (hcx : E8 c) (wk : TS -> TS -> Prop) (hwk : ∀ (c2 : Cx) (F2 : Nat -> Prop) s s' a w, c2.pin = c.pin -> wk s s' -> Rel c2 F2 s a w -> Rel c2 F2 s' a w) (I : Nat -> TS -> Prop) (hnm : ∀ k s1, k < xs.length -> I k s1 -> OD s1.ob) (h0 : I 0 s)
  (Ub : ∀ k x s1, I k s1 -> xs[k]? = some x -> ∀ (c2 : Cx) (F2 : Nat -> Prop), (∀ id q, c2.pin id = some q -> ∃ o, aA s1.ob id = some o) -> E8 c2 ->
   lD P c2 F2 assign (fun e s' => e = .normal /\ (FY s1.ob s'.ob /\ OD s'.ob) /\ ∀ (c3 : Cx) (F3 : Nat -> Prop), (∀ id q, c3.pin id = some q -> ∃ o, aA s'.ob id = some o) -> E8 c3 ->
    lD P c3 F3 body (ab9 Q s1.sl s'.ob fun s2 => ∃ s3, wk s2 s3 /\ I (k + 1) s3) s') (s1.put (some p) (.dv t x)))
  (hdone : ∀ s1, I xs.length s1 -> Q .normal s1) : lD P c F (.rangeFunc g #[p] assign body) Q s := fun n a w ⟨Ds, hD, π, hm⟩ => by
 have zD := hcx.no
 have hv := hm.ev g
 rw [hg] at hv
 simp only [VR] at hv
 obtain ⟨fs, lb, he, hfs, hlb, _, hcap⟩ := hv
 have awP : fs = #[] := Array.eq_empty_of_size_eq_zero hfs
 subst awP
 obtain ⟨S, hSG, hy⟩ := hseq w (Gz (but F Ds) w π (aA s.ob)) π (aA s.ob) lb hlb (fun j hj => by have := hcap j hj; rwa [Nat.zero_add] at this) (fun b hb => hb.2.1)
 have Ee : c.w.heap.size <= w.heap.size := hm.kept.size
 have hDlt : ∀ D, D ∈ Ds -> D < w.heap.size := fun D hd => hm.kept.lt (.inr (.inl hd))
 -- what is alike in a function's frame and in a round's
 have main : ∀ (fn : FuncId) (Ds' : List Nat) (mark : List Deferred) (l BM : Nat) (W1 : World), Ls c Ds' -> ({ a with defers := mark ++ a.defers } : Act).defers = Ds'.map FN -> (∀ b, b ∈ Ds' -> b ∈ Ds \/ (w.heap.size <= b /\ W1.heap[b]? = some (.deferred (some [])))) -> (∀ b, b ∈ Ds -> b ∈ Ds') ->
   Below w.heap.size w W1 -> w.heap.size <= l -> l < W1.heap.size -> l ∉ Ds' -> W1.heap[l]? = some (.loop { state := .ready, pending := none, fn, tmps := a.tmps, params := #[p], assign, body, defers := BM }) ->
   Calls P gf (#[.func (.yield l) #[] #[]] ++ lb) W1 (rangePost c.xQ n P l (fun e a' w' => ∃ s', Q e s' /\ Rl c F s' a' w') { a with defers := mark ++ a.defers }) := fun fn Ds' mark l BM W1 hD' hdm hsub TZ hB hl hl1 hlD hrec => by
  have hm0 := aC8 (a0 := { a with defers := mark ++ a.defers }) hm zD rfl hdm hsub TZ hB hl hl1
  have afG : ¬ (c.add Ds').bar l := fun hb => by
   rcases hb with h | h | h
   ·have := h.2; have e : (c.add Ds').w.heap.size = c.w.heap.size := rfl; omega
   ·exact hlD h
   ·have h : l ∈ c.no := h
    rw [zD] at h; cases h
  have ae9 : ∀ b, ¬ (c.add Ds').bar b -> but F Ds' b := fun b hb => by
   refine ⟨(hm.hF b fun hb' => hb ?_).1, fun h => hb (.inr (.inl h))⟩
   rcases hb' with h | h | h
   ·exact .inl h
   ·exact .inr (.inl (TZ b h))
   ·have h : b ∈ c.no := h
    rw [zD] at h; cases h
  have hr := rounds (a := { a with defers := mark ++ a.defers }) (c0 := { c with ds := Ds', no := [l] }) (F0 := fun b => but F Ds' b /\ b ≠ l) (fn := fn) (BM := BM) (Q := Q) hy (by simp) (fun h => h.2 rfl) wk (fun c2 s s' a w hp hw hr => hwk c2 _ s s' a w hp hw hr) I hnm Ub h0 hm0 hrec
   (fun id hid => by have := (hm.new id l hid).2; omega)
   (fun b hb => by
    obtain ⟨q1, q2, q3⟩ := hSG b hb
    refine ⟨⟨⟨q1.1, fun h => ?_⟩, by omega⟩, Nat.lt_of_lt_of_le q2 hB.size, hB.block b q2, by omega, q3⟩
    rcases hsub b h with h | h
    ·exact q1.2 h
    ·omega)
   (fun b hb => by
    have hge : w.heap.size <= b := Nat.le_trans hB.size hb
    refine hm0.hF b fun hb' => ?_
    have := hm0.kept.lt hb'; omega)
  refine hr.mono fun e W' ⟨⟨v, hv⟩, hpost⟩ => ?_
  subst hv
  rcases hpost with ⟨s1, i1, hr1, hl'⟩ | ⟨e, s1, hq, hr1, hl'⟩
  ·exact ⟨_, _, run_endLoop hl' (by simp), s1, hdone s1 i1, Ds', hD', akP hr1 zD afG ae9⟩
  ·refine ⟨_, _, run_endLoop hl' (by simp), ?_⟩
   have hfin := akP (o' := .loop { state := .exhausted, pending := some e, fn, tmps := a.tmps, params := #[p], assign, body, defers := BM }) hr1 zD afG ae9
   rcases hq with ⟨rfl, hq⟩ | ⟨id, rfl, hq⟩
   ·exact wpIn_ret ⟨s1, hq, Ds', hD', hfin⟩
   ·exact wpIn_exit ⟨s1, hq, Ds', hD', hfin⟩
 have hres : ∀ (l : Nat) (W1 : World), (resolve a.eval (rangeCall g l) 0).run P W1 = .ok { target := .fn (.func gf) lb, args := #[.func (.yield l) #[] #[]] } W1 := fun l W1 => by
  simp only [resolve, he]
  simp [go_sem]
 have hinv : ∀ (l : Nat) (W1 : World), (invoke (.fn (.func gf) lb) #[.func (.yield l) #[] #[]]).run P W1 = .ok (.enter gf (#[.func (.yield l) #[] #[]] ++ lb)) W1 := fun l W1 => by
  simp [invoke, go_sem, eg]
 refine wpIn_rangeFunc fun fn hfn => ?_
 cases hc : c.EP with
 | none =>
  have Uc : c.xQ.round = none := hc
  rw [Uc]
  have hB : Below w.heap.size w ((w.alloc (.deferred (some []))).alloc (.loop { state := .ready, pending := none, fn, tmps := a.tmps, params := #[p], assign, body, defers := w.heap.size })) :=
   ((Below.refl _ w).alloc (Nat.le_refl _) _).alloc (by simp) _
  have hK1 : ((w.alloc (.deferred (some []))).alloc (.loop { state := .ready, pending := none, fn, tmps := a.tmps, params := #[p], assign, body, defers := w.heap.size })).heap[w.heap.size]? = some (.deferred (some [])) :=
   (Below.heap_alloc _ _ _ (by simp)).trans (World.alloc_heap_new w _)
  have hL1 : ((w.alloc (.deferred (some []))).alloc (.loop { state := .ready, pending := none, fn, tmps := a.tmps, params := #[p], assign, body, defers := w.heap.size })).heap[w.heap.size + 1]? = some (.loop { state := .ready, pending := none, fn, tmps := a.tmps, params := #[p], assign, body, defers := w.heap.size }) := by
   have := World.alloc_heap_new (w.alloc (.deferred (some []))) (.loop { state := .ready, pending := none, fn, tmps := a.tmps, params := #[p], assign, body, defers := w.heap.size }); rwa [World.size_alloc] at this
  refine ⟨w.heap.size + 1, [FN w.heap.size], _, _, _, gf, _, _, run_enterLoop_outer _ _ _ _ _, hres _ _, fun _ _ => trivial, hinv _ _, (fun h => by cases h), Oo c (main fn (w.heap.size :: Ds) [FN w.heap.size] (w.heap.size + 1) w.heap.size _ ?_ ?_ ?_ ?_ hB (by omega) ?_ ?_ hL1)⟩
  ·exact ⟨List.nodup_cons.2 ⟨fun h => by have := hDlt _ h; omega, hD.nd⟩, fun D h => by
    rcases List.mem_cons.1 h with rfl | h
    ·exact Ee
    ·exact hD.old D h, fun h => absurd hc h⟩
  ·show FN w.heap.size :: a.defers = _
   rw [hm.defers]; rfl
  ·intro b hb
   rcases List.mem_cons.1 hb with rfl | hb
   ·exact .inr ⟨Nat.le_refl _, hK1⟩
   ·exact .inl hb
  ·intro b hb; exact List.mem_cons_of_mem _ hb
  ·simp
  ·intro h
   rcases List.mem_cons.1 h with h | h
   ·omega
   ·have := hDlt _ h; omega
 | some l0 =>
  have Uc : c.xQ.round = some l0 := hc
  rw [Uc]
  have hDs : Ds = [] := hD.rd (by rw [hc]; simp)
  subst hDs
  obtain ⟨r0, hk0, hl0⟩ := hcx.rc l0 hc
  have hl0' : w.heap[l0]? = some (.loop r0) := by
   rw [hm.kept.block l0 (.inl hk0) (by show l0 ∉ c.no; rw [zD]; simp)]
   exact (if_neg (by simp [Cx.add])).trans hl0
  refine ⟨w.heap.size, [], _, _, _, gf, _, _, run_enterLoop_inner hl0' _ _ _ _ _, hres _ _, fun _ _ => trivial, hinv _ _, (fun h => by cases h), Oo c (main fn [] [] w.heap.size r0.defers _ hD ?_ ?_ ?_ ((Below.refl _ w).alloc (Nat.le_refl _) _) (Nat.le_refl _) ?_ (by simp) (World.alloc_heap_new w _))⟩
  ·exact hm.defers
  ·intro b hb; cases hb
  ·intro b hb; cases hb
  ·simp
def IM (P : Program) (seq : TV -> Option (Bool × ((t : DT) × List t.den))) : Prop := ∀ fv t xs, seq fv = some (true, ⟨t, xs⟩) -> ∃ gf nn f, fv = .fn gf 0 nn f /\ (∀ args w, (callFunc gf args).run P w = .ok (.enter gf args) w) /\
 ∀ (w : World) (G : Nat -> Prop) (π : Nat -> Pl) (O : bF) (lb : Array Value), lb.size = nn -> (∀ j, j < nn -> ∃ u, lb[j]? = some u /\ VR w G π O (f j) u) -> (∀ b, G b -> b < w.heap.size) -> ∃ S : Nat -> Prop, (∀ b, S b -> G b) /\ Yields P gf lb S w t xs
theorem Jy (P : Program) : IM P fun _ => none := fun _ _ _ h => by cases h
end
section
def TV.ren (ρ : Nat -> Nat) : TV -> TV
 | .row id => .row (ρ id)
 | .iP id a b => .iP (ρ id) a b
 | .ptr id i p => .ptr (ρ id) i p
 | .view id i p k n a b => .view (ρ id) i p k n a b
 | .fn g k n f => .fn g k n fun i => ((List.range (k + n)).map fun j => (f j).ren ρ).getD i .any
 | .dM n f => .dM n fun i => ((List.range n).map fun j => (f j).ren ρ).getD i .any
 | .st n f => .st n fun i => ((List.range n).map fun j => (f j).ren ρ).getD i .any
 | x => x
theorem O8 {m : Nat} {h : Nat -> TV} {j : Nat} (hj : j < m) : ((List.range m).map h).getD j .any = h j := by simp [List.getD, hj]
def TO.ren (ρ : Nat -> Nat) : TO -> TO
 | .aV fs => .aV (fs.map (TV.ren ρ))
 | .bD t ls out => .bD t ls (out.map fun p => (p.1, ρ p.2))
 | o => o
def TO.within (S : Nat -> Prop) : TO -> Prop
 | .aV fs => ∀ (j : Nat) (x : TV), fs[j]? = some x -> x.within S
 | .bD _ _ out => ∀ i r, out = some (i, r) -> S r
 | _ => True
def DT.nX : DT -> Bool
 | .sl _ => false
 | .jT _ => false
 | .fJ _ => false
 | .fp _ => false
 | .arr _ t => t.nX
 | .pair a b => a.nX && b.nX
 | .iT _ t r => t.nX && r.nX
 | .dM t => t.nX
 | _ => true
def TV.sc : TV -> Prop
 | .dv t _ => t.nX = true
 | .el _ _ _ => False
 | .fn _ k n f => ∀ j, j < k + n -> (f j).sc
 | .dM n f => ∀ j, j < n -> (f j).sc
 | .st n f => ∀ j, j < n -> (f j).sc
 | _ => True
def TO.sc : TO -> Prop
 | .row t _ => t.nX = true
 | .aV fs => ∀ (j : Nat) (x : TV), fs[j]? = some x -> x.sc
 | .map kt vt _ => kt.nX = true /\ vt.nX = true
 | .dG _ _ => False
 | .iI _ _ _ => False
 | .iter _ _ _ _ => False
 | .sit _ => True
 | .bD t _ _ => t.nX = true
 | .dead => True
theorem DT.MW {w w' : World} {G G' : Nat -> Prop} : ∀ {t : DT} {x : t.den} {j : Nat} {v : Value}, t.nX = true -> t.cell x j w G v -> t.cell x j w' G' v := by
 intro t
 induction t with
 | unit => intro x j v _ hv; exact hv
 | int k => intro x j v _ hv; exact hv
 | bool => intro x j v _ hv; exact hv
 | str => intro x j v _ hv; exact hv
 | sl t ih => intro x j v h; simp [DT.nX] at h
 | jT t ih => intro x j v h; simp [DT.nX] at h
 | fJ t ih => intro x j v h; simp [DT.nX] at h
 | fp t ih => intro x j v h; simp [DT.nX] at h
 | arr n t ih => intro x j v h hv; exact ih (x := x.getD (j / t.size) t.dflt) (j := j % t.size) h hv
 | pair a b iha ihb =>
  intro x j v h hv
  simp only [DT.nX, bC] at h
  simp only [DT.cell] at hv ⊢
  split
  ·rename_i hj; rw [if_pos hj] at hv; exact iha h.1 hv
  ·rename_i hj; rw [if_neg hj] at hv; exact ihb h.2 hv
 | dM t ih => intro x j v _ hv; exact hv
 | rY => intro x j v _ hv; exact hv
 | iT T t r Eh ihr =>
  intro x j v h hv
  simp only [DT.nX, bC] at h
  cases x with
  | inl y => obtain ⟨u, h1, h2, h3⟩ := hv; exact ⟨u, h1, h2, Eh h.1 h3⟩
  | inr y => exact ihr (x := y) (j := 0) h.2 hv
theorem DT.Zm {w w' : World} {G G' : Nat -> Prop} {t : DT} {x : t.den} {v : Value} (h : t.nX = true) (hv : t.val x w G v) : t.val x w' G' v := by
 unfold DT.val at hv ⊢
 split at hv
 ·rename_i ha
  obtain ⟨vs, h1, h2, h3⟩ := hv
  rw [if_pos ha]
  refine ⟨vs, h1, h2, fun j hj => ?_⟩
  obtain ⟨u, a1, a2, a3⟩ := h3 j hj
  exact ⟨u, a1, a2, DT.MW h a3⟩
 ·rename_i ha; rw [if_neg ha]; exact DT.MW h hv
theorem TV.Rn (ρ : Nat -> Nat) (x : TV) (o : Nat) (p : List Nat) : (x.ren ρ).iF o p = x.iF o p := by cases x <;> rfl
theorem TV.Ri (ρ : Nat -> Nat) (x : TV) (p : List Nat) : (x.ren ρ).nU p = x.nU p := by cases x <;> rfl
theorem TV.U5 (ρ : Nat -> Nat) (x : TV) : (x.ren ρ).size = x.size := by cases x <;> rfl
theorem aD7 (ρ : Nat -> Nat) (fs : List TV) : mW (fs.map (TV.ren ρ)) = mW fs := by
 unfold mW
 rw [List.getLast?_map]
 cases fs.getLast? with
 | none => rfl
 | some x => cases x <;> rfl
theorem OJ (ρ : Nat -> Nat) : ∀ (fs : List TV) (j : Nat), aP (fs.map (TV.ren ρ)) j = aP fs j
 | [], j => rfl
 | x :: r, 0 => rfl
 | x :: r, j + 1 => by simp only [List.map_cons, aP, TV.U5, OJ ρ r j]
theorem TV.asR (ρ : Nat -> Nat) {w : World} {G1 G2 : Nat -> Prop} {x : TV} {c : Nat} {u : Value} (hz : fG w G1 w G2 \/ x.sc) (h : x.DY w G1 c u) : (x.ren ρ).DY w G2 c u /\ (x.ren ρ).JF = x.JF := by
 cases x with
 | dv t y =>
  refine ⟨?_, rfl⟩
  rcases hz with hz | hz
  ·exact DT.iE hz h
  ·exact DT.MW (t := t) hz h
 | _ => exact ⟨trivial, rfl⟩
theorem TO.agJ (ρ : Nat -> Nat) (o : TO) (i : Nat) (p : List Nat) : (o.ren ρ).loc i p = o.loc i p /\ ((o.ren ρ).oO i p ↔ o.oO i p) /\ (o.ren ρ).live = o.live := by
 cases o with
 | aV fs =>
  cases p with
  | nil => exact ⟨rfl, Iff.rfl, rfl⟩
  | cons j p =>
   simp only [TO.ren, TO.loc, TO.oO, List.getElem?_map, OJ]
   cases fs[j]? with
   | none => exact ⟨rfl, Iff.rfl, rfl⟩
   | some x => exact ⟨TV.Rn _ _ _ _, by simp only [Option.map_some]; rw [TV.Ri], rfl⟩
 | bD t ls out => cases p <;> exact ⟨rfl, Iff.rfl, rfl⟩
 | _ => exact ⟨rfl, Iff.rfl, rfl⟩
theorem VR.ren {ρ : Nat -> Nat} {S : Nat -> Prop} {w : World} {G1 G2 : Nat -> Prop} {iY eG : Nat -> Pl} {O1 O2 : bF} (hS : ∀ id, S id -> ∀ o, O1 id = some o -> O2 (ρ id) = some (o.ren ρ) /\ eG (ρ id) = iY id) :
  ∀ {x : TV} {v : Value}, (fG w G1 w G2 \/ (x.sc /\ ∀ id o, S id -> O1 id = some o -> o.sc)) -> x.within S -> VR w G1 iY O1 x v -> VR w G2 eG O2 (x.ren ρ) v := by
 intro x
 induction x with
 | any => intro v _ _ h; trivial
 | dv t x =>
  intro v hz _ h
  rcases hz with hz | hz
  ·exact DT.iD hz h
  ·exact DT.Zm (t := t) hz.1 h
 | nl => intro v _ _ h; exact h
 | cst u => intro v _ _ h; exact h
 | row id =>
  intro v hz hw h
  simp only [VR, TV.ren] at h ⊢
  cases ho : O1 id with
  | none => rw [ho] at h; exact h.elim
  | some o =>
   rw [ho] at h
   obtain ⟨e1, e2⟩ := hS id hw o ho
   rw [e1]
   cases o with
   | row t l => simp only [TO.ren, e2] at h ⊢; exact h
   | map kt vt l => simp only [TO.ren, e2] at h ⊢; exact h
   | iter kt vt l cur => simp only [TO.ren, e2] at h ⊢; exact h
   | sit l => simp only [TO.ren, e2] at h ⊢; exact h
   | bD t ls out => simp only [TO.ren, e2] at h ⊢; exact h
   | aV fs => trivial
   | dead => trivial
   | dG t l =>
    rcases hz with hz | hz
    ·exact DT.iE (t := .sl t) (x := l) (j := 0) hz h
    ·exact (hz.2 id _ hw ho).elim
   | iI kt vt l =>
    rcases hz with hz | hz
    ·exact IC.mono h hz
    ·exact (hz.2 id _ hw ho).elim
 | iP id a b =>
  intro v hz hw h
  simp only [VR, TV.ren] at h ⊢
  cases ho : O1 id with
  | none => rw [ho] at h; exact h.elim
  | some o =>
   rw [ho] at h
   obtain ⟨e1, e2⟩ := hS id hw o ho
   rw [e1]
   cases o with
   | bD t ls out => exact h.elim
   | row t l => simp only [TO.ren, e2] at h ⊢; exact h
   | dG t l =>
    rcases hz with hz | hz
    ·exact DT.iE (t := .sl t) (x := (l.take b).drop a) (j := 0) hz h
    ·exact (hz.2 id _ hw ho).elim
   | _ => trivial
 | ptr id i p =>
  intro v hz hw h
  simp only [VR, TV.ren] at h ⊢
  cases ho : O1 id with
  | none => rw [ho] at h; exact h.elim
  | some o =>
   rw [ho] at h
   obtain ⟨e1, e2⟩ := hS id hw o ho
   rw [e1]
   obtain ⟨l1, l2, l3⟩ := TO.agJ ρ o i p
   intro hl
   obtain ⟨c, g, a1, a2, a3, a4⟩ := h (l3 ▸ hl)
   exact ⟨c, g, l1.trans a1, l2.2 a2, by rw [e2]; exact a3, by rw [e2]; exact a4⟩
 | view id i p k n a b =>
  intro v hz hw h
  simp only [VR, TV.ren] at h ⊢
  cases ho : O1 id with
  | none => rw [ho] at h; exact h.elim
  | some o =>
   rw [ho] at h
   obtain ⟨e1, e2⟩ := hS id hw o ho
   rw [e1]
   obtain ⟨l1, l2, l3⟩ := TO.agJ ρ o i p
   intro hl
   obtain ⟨c, g, pp, a1, a2, a3, a4⟩ := h (l3 ▸ hl)
   exact ⟨c, g, pp, l1.trans a1, l2.2 a2, by rw [e2]; exact a3, by rw [e2]; exact a4⟩
 | el t x p =>
  intro v hz _ h
  rcases hz with hz | hz
  ·obtain ⟨b, o, L, h1, h2, h3, h4, h5⟩ := h
   refine ⟨b, o, L, h1, h2, h3, (hz b h4).1, fun c hc => ?_⟩
   obtain ⟨u, a1, a2, a3⟩ := h5 c hc
   exact ⟨u, a1, a2, DT.iE hz a3⟩
  ·exact hz.1.elim
 | fn g k n f ih =>
  intro v hz hw ⟨fs, cs, h1, h2, h3, h4, h5⟩
  refine ⟨fs, cs, h1, h2, h3, fun j hj => ?_, fun j hj => ?_⟩
  ·obtain ⟨u, a, b⟩ := h4 j hj
   refine ⟨u, a, ?_⟩
   simp only []
   rw [O8 (by omega)]
   exact ih j (hz.imp (fun h => h) fun h => ⟨h.1 j (by omega), h.2⟩) (hw j (by omega)) b
  ·obtain ⟨u, a, b⟩ := h5 j hj
   refine ⟨u, a, ?_⟩
   simp only []
   rw [O8 (by omega)]
   exact ih _ (hz.imp (fun h => h) fun h => ⟨h.1 _ (by omega), h.2⟩) (hw _ (by omega)) b
 | dM n f ih =>
  intro v hz hw ⟨cs, h1, h2, h3⟩
  refine ⟨cs, h1, h2, fun j hj => ?_⟩
  obtain ⟨u, a, b⟩ := h3 j hj
  refine ⟨u, a, ?_⟩
  simp only []
  rw [O8 hj]
  exact ih j (hz.imp (fun h => h) fun h => ⟨h.1 j hj, h.2⟩) (hw j hj) b
 | st n f ih =>
  intro v hz hw ⟨cs, h1, h2, h3⟩
  have he : ((List.range n).map fun i => ((List.range n).map fun j => (f j).ren ρ).getD i .any) = ((List.range n).map f).map (TV.ren ρ) := by
   rw [List.map_map]
   exact List.map_congr_left fun i hi => by rw [O8 (List.mem_range.1 hi)]; rfl
  refine ⟨cs, h1, by rw [he, OJ]; exact h2, fun j hj c hc => ?_⟩
  simp only [] at hc ⊢
  rw [O8 hj, TV.U5] at hc
  rw [O8 hj, he, OJ]
  obtain ⟨u, a, b, d, e⟩ := h3 j hj c hc
  obtain ⟨d1, d2⟩ := TV.asR ρ (hz.imp (fun h => h) fun h => h.1 j hj) d
  exact ⟨u, a, b, d1, fun hd => ih j (hz.imp (fun h => h) fun h => ⟨h.1 j hj, h.2⟩) (hw j hj) (e (d2 ▸ hd))⟩
theorem TV.auT {ρ : Nat -> Nat} {S : Nat -> Prop} {w : World} {G1 G2 : Nat -> Prop} {iY eG : Nat -> Pl} {O1 O2 : bF} (hS : ∀ id, S id -> ∀ o, O1 id = some o -> O2 (ρ id) = some (o.ren ρ) /\ eG (ρ id) = iY id)
  {x : TV} {c : Nat} {u : Value} (hz : fG w G1 w G2 \/ (x.sc /\ ∀ id o, S id -> O1 id = some o -> o.sc)) (hw : x.within S) (h : x.mG w G1 iY O1 c u) : (x.ren ρ).mG w G2 eG O2 c u := by
 cases x with
 | dv t y =>
  rcases hz with hz | hz
  ·exact DT.iE hz h
  ·exact DT.MW (t := t) hz.1 h
 | any => trivial
 | nl => exact VR.ren hS hz hw h
 | cst v => exact VR.ren hS hz hw h
 | row id => exact VR.ren (x := .row id) hS hz hw h
 | iP id a b => exact VR.ren (x := .iP id a b) hS hz hw h
 | ptr id i p => exact VR.ren (x := .ptr id i p) hS hz hw h
 | view id i p k n a b => exact VR.ren (x := .view id i p k n a b) hS hz hw h
 | el t x p => exact VR.ren (x := .el t x p) hS hz hw h
 | fn g k n f => exact VR.ren (x := .fn g k n f) hS hz hw h
 | dM n f => exact VR.ren (x := .dM n f) hS hz hw h
 | st n f => exact VR.ren (x := .st n f) hS hz hw h
theorem OR.ren {ρ : Nat -> Nat} {S : Nat -> Prop} {w : World} {G1 G2 : Nat -> Prop} {iY eG : Nat -> Pl} {O1 O2 : bF} (hS : ∀ id, S id -> ∀ o, O1 id = some o -> O2 (ρ id) = some (o.ren ρ) /\ eG (ρ id) = iY id)
  {id : Nat} {o : TO} (hid : eG (ρ id) = iY id) (hz : fG w G1 w G2 \/ (o.sc /\ ∀ id o, S id -> O1 id = some o -> o.sc)) (hw : o.within S) (h : OR w G1 iY O1 id o) : OR w G2 eG O2 (ρ id) (o.ren ρ) := by
 cases o with
 | row t l =>
  simp only [TO.ren, OR] at h ⊢
  rw [hid]
  rcases h with h | ⟨g, cur, e, h1, h2, h3, h4, h5, h6⟩
  ·exact .inl h
  ·refine .inr ⟨g, cur, e, h1, h2, h3, h4, h5, fun i hi c hc => ?_⟩
   obtain ⟨u, a1, a2, a3⟩ := h6 i hi c hc
   refine ⟨u, a1, a2, ?_⟩
   rcases hz with hz | hz
   ·exact DT.iE hz a3
   ·exact DT.MW (t := t) hz.1 a3
 | aV fs =>
  simp only [TO.ren, OR] at h ⊢
  rw [hid]
  obtain ⟨g, cur, e, h1, h2, h3⟩ := h
  refine ⟨g, cur, e, h1, ⟨h2.1, h2.2.on (aD7 ρ fs) rfl (by rw [List.length_map, OJ])⟩, fun j x hx c hc => ?_⟩
  simp only [List.getElem?_map, Option.map_eq_some_iff] at hx
  obtain ⟨y, hy, rfl⟩ := hx
  rw [TV.U5] at hc
  obtain ⟨u, a1, a2, a3⟩ := h3 j y hy c hc
  refine ⟨u, by rw [OJ]; exact a1, a2, TV.auT hS (hz.imp (fun h => h) fun h => ⟨h.1 j y hy, h.2⟩) (hw j y hy) a3⟩
 | map kt vt l =>
  simp only [TO.ren, OR] at h ⊢
  rw [hid]
  obtain ⟨g, es, ck, h1, h2, h3, h4, h5, h6⟩ := h
  refine ⟨g, es, ck, h1, h2, h3, h4, h5, fun i e he => ?_⟩
  obtain ⟨x, a1, a2, a3⟩ := h6 i e he
  refine ⟨x, a1, ?_, ?_⟩
  ·rcases hz with hz | hz
   ·exact DT.iD hz a2
   ·exact DT.Zm (t := kt) hz.1.1 a2
  ·rcases hz with hz | hz
   ·exact DT.iD hz a3
   ·exact DT.Zm (t := vt) hz.1.2 a3
 | iter kt vt l cur =>
  simp only [TO.ren, OR] at h ⊢
  rw [hid]
  obtain ⟨r, h1, h2⟩ := h
  rcases hz with hz | hz
  ·exact ⟨r, h1, h2.mono hz rfl⟩
  ·exact hz.1.elim
 | sit l =>
  simp only [TO.ren, OR] at h ⊢
  rw [hid]
  exact h
 | bD t ls out =>
  simp only [TO.ren, OR] at h ⊢
  rw [hid]
  rcases h with ⟨h1, h2, h3⟩ | ⟨g, cur, e, h1, h2, h3, h4, h5, h6⟩
  ·exact .inl ⟨h1, h2, by rw [h3]; rfl⟩
  ·refine .inr ⟨g, cur, e, h1, h2, h3, h4, h5, ?_⟩
   have hout : ∀ {i r : Nat}, out.map (fun p => (p.1, ρ p.2)) = some (i, r) -> ∃ r0, out = some (i, r0) /\ ρ r0 = r := fun {i r} hr => by
    obtain ⟨⟨i0, r0⟩, e1, e2⟩ := Option.map_eq_some_iff.1 hr
    simp only [bJ] at e2
    exact ⟨r0, by rw [e1, e2.1], e2.2⟩
   have hnot : ∀ {i : Nat}, (∀ r, out.map (fun p => (p.1, ρ p.2)) ≠ some (i, r)) -> ∀ r, out ≠ some (i, r) := fun {i} hn r hr => hn (ρ r) (by rw [hr]; rfl)
   refine ⟨fun i hi => ?_, fun i r hr => ?_, fun i b hi hn hg => ?_⟩
   ·obtain ⟨u, a1, a2, a3, a4⟩ := h6.cell i hi
    refine ⟨u, a1, a2, fun ho => ⟨(a3 (hnot ho)).1, ?_⟩, fun r hr => ?_⟩
    ·rcases (a3 (hnot ho)).2 with b | ⟨g', cur', e', b1, b2, b3, b4, b5, b6⟩
     ·exact .inl b
     ·refine .inr ⟨g', cur', e', b1, b2, b3, b4, b5, fun k hk c hc => ?_⟩
      obtain ⟨z, c1, c2, c3⟩ := b6 k hk c hc
      refine ⟨z, c1, c2, ?_⟩
      rcases hz with hz | hz
      ·exact DT.iE hz c3
      ·exact DT.MW (t := t) hz.1 c3
    ·obtain ⟨r0, e1, rfl⟩ := hout hr
     obtain ⟨o, b1, b2⟩ := a4 r0 e1
     obtain ⟨b3, b4⟩ := hS r0 (hw i r0 e1) o b1
     refine ⟨o.ren ρ, b3, fun t' l' he => ?_⟩
     cases o with
     | row t1 l1 =>
      have he' : TO.row t1 l1 = .row t' l' := he
      rw [b4]; exact b2 t' l' he'
     | _ => cases he
   ·obtain ⟨r0, e1, rfl⟩ := hout hr
    obtain ⟨k1, o, k2, k3⟩ := h6.OI i r0 e1
    obtain ⟨b3, _⟩ := hS r0 (hw i r0 e1) o k2
    exact ⟨k1, o.ren ρ, b3, by cases o <;> first | rfl | cases k3⟩
   ·obtain ⟨c1, c2⟩ := h6.apart i b hi (hnot hn) hg
    exact ⟨c1, fun j hj hnj hgj => c2 j hj (hnot hnj) hgj⟩
 | dG t l => trivial
 | iI kt vt l => trivial
 | dead => trivial
def bk (ρ : Nat -> Nat) : List (Nat × TO) -> Nat -> Option Nat
 | [], _ => none
 | (j, _) :: r, i => if i = ρ j then some j else bk ρ r i
def qF (ρ : Nat -> Nat) (O : List (Nat × TO)) : List (Nat × TO) := O.map fun p => (ρ p.1, p.2.ren ρ)
theorem IX {ρ : Nat -> Nat} : ∀ {O : List (Nat × TO)} {i j : Nat}, bk ρ O i = some j -> i = ρ j /\ ∃ o, aA O j = some o
 | [], i, j, h => by cases h
 | (j0, o0) :: r, i, j, h => by
  simp only [bk] at h
  split at h
  ·rename_i e; obtain rfl := aC h; exact ⟨e, o0, by simp [aA]⟩
  ·obtain ⟨a, o, b⟩ := IX h
   by_cases e : j = j0
   ·subst e; exact ⟨a, o0, by simp [aA]⟩
   ·exact ⟨a, o, by simp [aA, e, b]⟩
theorem acQ {ρ : Nat -> Nat} : ∀ {O : List (Nat × TO)} {i : Nat}, bk ρ O i = none -> ∀ j o, aA O j = some o -> i ≠ ρ j
 | [], i, _, j, o, h => by cases h
 | (j0, o0) :: r, i, h, j, o, ho => by
  simp only [bk] at h
  split at h
  ·cases h
  ·rename_i e
   simp only [aA] at ho
   split at ho
   ·rename_i e2; subst e2; exact e
   ·exact acQ h j o ho
theorem aGC {ρ : Nat -> Nat} (O : List (Nat × TO)) (hinj : ∀ j j' o o', aA O j = some o -> aA O j' = some o' -> ρ j = ρ j' -> j = j') (R : List (Nat × TO)) (i : Nat) :
  aA (qF ρ O ++ R) i = match bk ρ O i with | some j => (aA O j).map (TO.ren ρ) | none => aA R i := by
 have gen : ∀ (L : List (Nat × TO)), (∀ j o, aA L j = some o -> ∃ o', aA O j = some o') -> aA (qF ρ L ++ R) i = match bk ρ L i with | some j => (aA L j).map (TO.ren ρ) | none => aA R i := by
  intro L
  induction L with
  | nil => intro _; rfl
  | cons p r ih =>
   obtain ⟨j0, o0⟩ := p
   intro hL
   have hL0 : ∃ o', aA O j0 = some o' := hL j0 o0 (by simp [aA])
   simp only [qF, List.map_cons, List.cons_append, aA, bk]
   by_cases e : i = ρ j0
   ·rw [if_pos e, if_pos e]; simp
   ·rw [if_neg e, if_neg e]
    have hr : ∀ j o, aA r j = some o -> ∃ o', aA O j = some o' := fun j o ho => by
     by_cases e2 : j = j0
     ·rw [e2]; exact hL0
     ·exact hL j o (by simp [aA, e2, ho])
    have := ih hr
    simp only [qF] at this
    rw [this]
    cases hb : bk ρ r i with
    | none => rfl
    | some j =>
     obtain ⟨a, o, b⟩ := IX hb
     have hne : j ≠ j0 := fun e2 => e (a.trans (by rw [e2]))
     simp only [hne, if_false]
 exact gen O fun j o h => ⟨o, h⟩
end
section
theorem o9.ren (ρ : Nat -> Nat) {p : Pl} {o : TO} {g : Nat} : o9 p (o.ren ρ) g ↔ o9 p o g := by
 cases o with
 | bD t ls out =>
  have hnot : ∀ {i : Nat}, (∀ r, out.map (fun p => (p.1, ρ p.2)) ≠ some (i, r)) ↔ ∀ r, out ≠ some (i, r) := fun {i} =>
   ⟨fun hn r hr => hn (ρ r) (by rw [hr]; rfl), fun hn r hr => by
    obtain ⟨⟨i0, r0⟩, e1, e2⟩ := Option.map_eq_some_iff.1 hr
    simp only [bJ] at e2
    exact hn r0 (by rw [e1, e2.1])⟩
  constructor
  ·rintro ⟨h1, h2 | ⟨i, h3, h4, h5⟩⟩
   ·exact ⟨h1, .inl h2⟩
   ·exact ⟨h1, .inr ⟨i, h3, hnot.1 h4, h5⟩⟩
  ·rintro ⟨h1, h2 | ⟨i, h3, h4, h5⟩⟩
   ·exact ⟨h1, .inl h2⟩
   ·exact ⟨h1, .inr ⟨i, h3, hnot.2 h4, h5⟩⟩
 | _ => exact Iff.rfl
def rO (F : Nat -> Prop) (w : World) (π : Nat -> Pl) (O : bF) (B : Nat -> Prop) (b : Nat) : Prop := Gz F w π O b \/ ∃ i, B i /\ Own π O i b
theorem pV.call {P : Program} {c : Cx} {F : Nat -> Prop} {o : Oper} {s : TS} {f : FuncId} {args : List TV} {Of : List (Nat × TO)} {r : TV} {O' : List (Nat × TO)} (hf : iQ P f args Of fun r' jS => r' = r /\ jS = O')
  (ρ τ : Nat -> Nat) (S B : Nat -> Prop) (vals : Act -> List Value) (hrun : ∀ a w, Rel c F s a w -> (∀ as w, (callFunc f as).run P w = .ok (.enter f as) w) -> (execOp a.eval o).run P w = .ok (.enter f (vals a).toArray) w)
  (hlen : ∀ a w, Rel c F s a w -> (vals a).length = args.length)
  (hS : ∀ i, S i -> ∃ o, aA s.ob i = some o /\ o.live = true /\ o.within S /\ aA Of (τ i) = some (o.ren τ) /\ ρ (τ i) = i)
  (Tc : ∀ j o, aA Of j = some o -> ∃ i, S i /\ τ i = j)
  (hB : ∀ i, B i -> ¬ S i)
  (hargs : ∀ π a w, aI c F π s a w -> ∀ (i : Nat) (x : TV) (v : Value), args[i]? = some x -> (vals a)[i]? = some v -> ∃ y : TV, x = y.ren τ /\ y.within S /\ VR w (rO F w π (aA s.ob) B) π (aA s.ob) y v)
  (hinj : ∀ j j' o o', aA O' j = some o -> aA O' j' = some o' -> ρ j = ρ j' -> j = j')
  (hfresh : ∀ j o', aA O' j = some o' -> aA Of j = none -> aA s.ob (ρ j) = none)
  (hgood : ∀ j o o', aA Of j = some o -> aA O' j = some o' -> o'.live = true \/ o' = .dead)
  (hsc : (∀ i, ¬ B i) \/ (r.sc /\ ∀ j o', aA O' j = some o' -> o'.sc)) :
  pV P c F o (fun s' => s' = ⟨(s.put o.dst (r.ren ρ)).sl, qF ρ O' ++ s.ob⟩) s := by
 intro nn a w next Q0 ⟨π, hm⟩ hn
 have hsz := hm.kept.size
 -- the callee's frame
 let yM : Nat -> Pl := fun j => π (ρ j)
 let Fc : Nat -> Prop := fun b => rO F w π (aA s.ob) B b \/ ∃ i, S i /\ Own π (aA s.ob) i b
 have J5 : ∀ j g, Own yM (aA Of) j g -> ∃ i, S i /\ τ i = j /\ ρ j = i /\ Own π (aA s.ob) i g := fun j g ⟨o1, h2, h1⟩ => by
  obtain ⟨i, hi, e⟩ := Tc j o1 h2
  obtain ⟨o2, a1, a2, a3, a4, a5⟩ := hS i hi
  have e2 : ρ j = i := by rw [<- e]; exact a5
  rw [<- e, a4] at h2; obtain rfl := aC h2
  refine ⟨i, hi, e, e2, o2, a1, ?_⟩
  have : π (ρ j) = π i := by rw [e2]
  rw [<- this]; exact (o9.ren τ).1 h1
 have ownB : ∀ i g, S i -> Own π (aA s.ob) i g -> Own yM (aA Of) (τ i) g := fun i g hi ⟨o1, h2, h1⟩ => by
  obtain ⟨o2, a1, a2, a3, a4, a5⟩ := hS i hi
  rw [a1] at h2; obtain rfl := aC h2
  exact ⟨o2.ren τ, a4, by show o9 (π (ρ (τ i))) _ g; rw [a5]; exact (o9.ren τ).2 h1⟩
 have Vb : ∀ b, rO F w π (aA s.ob) B b -> b < w.heap.size /\ ∀ j, ¬ Own yM (aA Of) j b := fun b hb => by
  rcases hb with hb | ⟨i, hi, ho⟩
  ·exact ⟨hb.2.1, fun j hj => let ⟨i, _, _, _, h⟩ := J5 j b hj; hb.2.2 i h⟩
  ·refine ⟨(hm.new i b ho).2, fun j hj => ?_⟩
   obtain ⟨i', h1, _, _, h2⟩ := J5 j b hj
   have := hm.inj i i' b ho h2
   subst this
   exact hB i hi h1
 have hFc : ∀ b, Fc b -> b < w.heap.size := fun b hb => by
  rcases hb with hb | ⟨i, _, ho⟩
  ·exact (Vb b hb).1
  ·exact (hm.new i b ho).2
 have fzL : fG w (rO F w π (aA s.ob) B) w (Gz Fc w yM (aA Of)) := fun b hb => ⟨⟨.inl hb, (Vb b hb).1, (Vb b hb).2⟩, rfl⟩
 have fzG : fG w (Gz F w π (aA s.ob)) w (Gz Fc w yM (aA Of)) := fun b hb => fzL b (.inl hb)
 have hSr : ∀ id, S id -> ∀ o, aA s.ob id = some o -> aA Of (τ id) = some (o.ren τ) /\ yM (τ id) = π id := fun id hid o1 ho1 => by
  obtain ⟨o2, a1, a2, a3, a4, a5⟩ := hS id hid
  rw [a1] at ho1; obtain rfl := aC ho1
  exact ⟨a4, by show π (ρ (τ id)) = π id; rw [a5]⟩
 have hfr : Frame Fc w yM Of := by
  refine ⟨fun j o1 ho1 => ?_, fun i j g hi hj => ?_, fun j g hj => ?_⟩
  ·obtain ⟨i, hi, e⟩ := Tc j o1 ho1
   obtain ⟨o2, a1, a2, a3, a4, a5⟩ := hS i hi
   have hpi : yM (τ i) = π i := (hSr i hi o2 a1).2
   have h4 := OR.ren (ρ := τ) (S := S) (G2 := Gz Fc w yM (aA Of)) hSr hpi (.inl fzG) a3 (hm.obj i o2 a1)
   rw [<- e] at ho1 ⊢
   rw [a4] at ho1
   obtain rfl := aC ho1
   exact h4
  ·obtain ⟨i', _, e1, e2, h1⟩ := J5 i g hi
   obtain ⟨j', _, e3, e4, h2⟩ := J5 j g hj
   have := hm.inj i' j' g h1 h2
   rw [<- e1, <- e3, this]
  ·obtain ⟨i', h0, _, _, h1⟩ := J5 j g hj
   exact ⟨.inr ⟨i', h0, h1⟩, (hm.new i' g h1).2⟩
 have hav : ∀ (i : Nat) (x : TV) (v : Value), args[i]? = some x -> (vals a)[i]? = some v -> VR w (Gz Fc w yM (aA Of)) yM (aA Of) x v := fun i x v hx hv => by
  obtain ⟨y, rfl, h1, h2⟩ := hargs π a w hm i x v hx hv
  exact VR.ren hSr (.inl fzL) h1 h2
 refine aJ3 (hrun a w ⟨π, hm⟩ hf.enters) ?_
 refine (hf.calls w Fc yM (vals a) (hlen a w ⟨π, hm⟩) hFc hfr hav (hm.rW.mono fzG)).mono fun e w' ⟨r', v, jS, aJ, he, ⟨hr', awC⟩, TU, hv, fA, hown, hk⟩ => ?_
 subst hr'; subst awC; subst he
 -- back
 let eG : Nat -> Pl := fun i => match bk ρ jS i with | some j => aJ j | none => π i
 have hlk := aGC (ρ := ρ) jS hinj s.ob
 have hbk : ∀ j o, aA jS j = some o -> bk ρ jS (ρ j) = some j := fun j o ho => by
  cases hb : bk ρ jS (ρ j) with
  | none => exact absurd rfl (acQ hb j o ho)
  | some j' =>
   obtain ⟨e, o', ho'⟩ := IX hb
   rw [hinj j j' o o' ho ho' e]
 have Tz : ∀ i, S i -> ∃ o o', aA s.ob i = some o /\ o.live = true /\ aA jS (τ i) = some o' /\ bk ρ jS i = some (τ i) /\ (o'.live = true -> aJ (τ i) = π i /\ qO (o.ren τ) o') /\ (o'.live = true \/ o' = .dead) := fun i hi => by
  obtain ⟨o2, a1, a2, a3, a4, a5⟩ := hS i hi
  obtain ⟨o', b1, b2⟩ := fA _ _ a4
  have := hbk _ _ b1
  rw [a5] at this
  refine ⟨o2, o', a1, a2, b1, this, fun hl => ?_, hgood _ _ _ a4 b1⟩
  obtain ⟨q1, q2⟩ := b2 hl
  exact ⟨q1.trans (by show π (ρ (τ i)) = π i; rw [a5]), q2⟩
 -- who owns what behind the call
 have wX : ∀ i g, Own eG (aA (qF ρ jS ++ s.ob)) i g -> (∃ j, bk ρ jS i = some j /\ Own aJ (aA jS) j g) \/ (bk ρ jS i = none /\ ¬ S i /\ Own π (aA s.ob) i g) := fun i g ⟨o1, h2, h1⟩ => by
  rw [hlk] at h2
  simp only [eG] at h1
  cases hb : bk ρ jS i with
  | some j =>
   rw [hb] at h1 h2
   simp only at h1 h2
   obtain ⟨o3, ho3, rfl⟩ := Option.map_eq_some_iff.1 h2
   exact .inl ⟨j, rfl, o3, ho3, (o9.ren ρ).1 h1⟩
  | none =>
   rw [hb] at h1 h2
   simp only at h1 h2
   exact .inr ⟨rfl, (fun hi => by obtain ⟨_, _, _, _, _, hb', _⟩ := Tz i hi; rw [hb] at hb'; cases hb'), o1, h2, h1⟩
 have Ji : ∀ j g, Own aJ (aA jS) j g -> (∃ i, S i /\ Own π (aA s.ob) i g) \/ w.heap.size <= g := fun j g hj => by
  rcases hown j g hj with ⟨j', h1⟩ | h1
  ·obtain ⟨i, a1, _, _, a2⟩ := J5 j' g h1; exact .inl ⟨i, a1, a2⟩
  ·exact .inr h1
 have hblk : ∀ b, b < w.heap.size -> (∀ i, S i -> ¬ Own π (aA s.ob) i b) -> w'.heap[b]? = w.heap[b]? := fun b hb hno => (hk.block b (.inl ⟨fun j hj => let ⟨i, a1, _, _, a2⟩ := J5 j b hj; hno i a1 a2, hb⟩) (by simp)).trans (if_neg (by simp))
 have aAH : ∀ b, Gz F w π (aA s.ob) b -> ∀ i, ¬ Own eG (aA (qF ρ jS ++ s.ob)) i b := fun b hb i hi => by
  rcases wX i b hi with ⟨j, _, h1⟩ | ⟨_, _, h1⟩
  ·rcases Ji j b h1 with ⟨i', _, h2⟩ | h2
   ·exact hb.2.2 i' h2
   ·have := hb.2.1; omega
  ·exact hb.2.2 i h1
 have fz : fG w (Gz F w π (aA s.ob)) w' (Gz F w' eG (aA (qF ρ jS ++ s.ob))) := fun b hb => ⟨⟨hb.1, Nat.lt_of_lt_of_le hb.2.1 hk.size, aAH b hb⟩, hblk b hb.2.1 fun i _ ho => hb.2.2 i ho⟩
 have E : gK w (Gz F w π (aA s.ob)) π (aA s.ob) w' (Gz F w' eG (aA (qF ρ jS ++ s.ob))) eG (aA (qF ρ jS ++ s.ob)) := ⟨fz, fun i o1 ho1 => by
  by_cases hi : S i
  ·obtain ⟨o2, o', a1, a2, a3, a4, a5, a6⟩ := Tz i hi
   rw [a1] at ho1; obtain rfl := aC ho1
   refine ⟨o'.ren ρ, by rw [hlk, a4]; simp [a3], ?_⟩
   rcases a6 with hl | rfl
   ·obtain ⟨q1, q2⟩ := a5 hl
    have e1 : eG i = π i := by simp only [eG, a4]; exact q1
    rw [e1]
    refine Step.Ja ?_
    -- the shape, under the actual numbers
    cases o2 with
    | row t l => cases o' with
     | row t' l' => exact q2
     | _ => exact q2.elim
    | map kt vt l => cases o' with
     | map pX qG l' => trivial
     | _ => exact q2.elim
    | iter kt vt l cur => cases o' with
     | iter pX qG l' cur' => trivial
     | _ => exact q2.elim
    | sit l => cases o' with
     | sit l' => trivial
     | _ => exact q2.elim
    | aV fs => cases o' with
     | aV fs' =>
      obtain ⟨q3, q4⟩ := q2
      refine ⟨by simp only [List.length_map] at q3 ⊢; exact q3, fun j x hx => ?_⟩
      obtain ⟨y, b1, b2, b3⟩ := q4 j (x.ren τ) (by simp [hx])
      refine ⟨y.ren ρ, by simp [b1], by rw [TV.U5, b2, TV.U5], fun o p cc h1 h2 => ?_⟩
      rw [TV.Rn, TV.Ri]
      exact b3 o p cc (by rw [TV.Rn]; exact h1) (by rw [TV.Ri]; exact h2)
     | _ => exact q2.elim
    | dG t l => simp [TO.live] at a2
    | iI kt vt l => simp [TO.live] at a2
    | dead => simp [TO.live] at a2
    | bD t ls out => exact q2.elim
   ·simp only [TO.ren, Step]
  ·have hb : bk ρ jS i = none := by
    cases hb : bk ρ jS i with
    | none => rfl
    | some j =>
     obtain ⟨e, o', ho'⟩ := IX hb
     cases hj : aA Of j with
     | some o3 =>
      obtain ⟨i', h1, h2⟩ := Tc j o3 hj
      obtain ⟨_, _, _, _, _, h5⟩ := hS i' h1
      rw [h2, <- e] at h5
      exact absurd (h5 ▸ h1) hi
     | none =>
      have := hfresh j o' ho' hj
      rw [<- e, ho1] at this; cases this
   exact ⟨o1, by rw [hlk, hb]; exact ho1, by simp only [eG, hb]; exact Step.refl o1⟩⟩
 -- results in the caller's words
 have Ea : (∀ i, ¬ B i) -> fG w' (Gz (fun b => Fc b \/ w.heap.size <= b) w' aJ (aA jS)) w' (Gz F w' eG (aA (qF ρ jS ++ s.ob))) := fun hnB b ⟨h0, h1, h2⟩ => ⟨⟨?_, h1, fun i hi => ?_⟩, rfl⟩
 rotate_left
 ·rcases h0 with (h0 | ⟨i, _, ho⟩) | h0
  ·rcases h0 with h0 | ⟨i, hi, _⟩
   ·exact h0.1
   ·exact absurd hi (hnB i)
  ·exact hm.hF b (hm.new i b ho).1
  ·exact hm.hF b fun hb => by have := hm.kept.lt hb; omega
 ·rcases wX i b hi with ⟨j, _, h3⟩ | ⟨h3, h4, h5⟩
  ·exact h2 j h3
  ·rcases h0 with (h0 | ⟨i', hi', ho⟩) | h0
   ·rcases h0 with h0 | ⟨i', hi', _⟩
    ·exact h0.2.2 i h5
    ·exact absurd hi' (hnB i')
   ·exact h4 (hm.inj i i' b h5 ho ▸ hi')
   ·have := (hm.new i b h5).2; omega
 have hSb : ∀ id, True -> ∀ o, aA jS id = some o -> aA (qF ρ jS ++ s.ob) (ρ id) = some (o.ren ρ) /\ eG (ρ id) = aJ id := fun id _ o1 ho1 => by
  have hb := hbk id o1 ho1
  exact ⟨by rw [hlk, hb]; simp [ho1], by simp only [eG, hb]⟩
 have amE : ∀ x : TV, x.within fun _ => True := fun x => by
  induction x with
  | fn g k n f ih => exact fun j _ => ih j
  | dM n f ih => exact fun j _ => ih j
  | st n f ih => exact fun j _ => ih j
  | _ => trivial
 have hmod : ∀ x : TV, (x.sc \/ ∀ i, ¬ B i) -> (fG w' (Gz (fun b => Fc b \/ w.heap.size <= b) w' aJ (aA jS)) w' (Gz F w' eG (aA (qF ρ jS ++ s.ob))) \/ (x.sc /\ ∀ id o, True -> aA jS id = some o -> o.sc)) := fun x hx => by
  rcases hsc with h | h
  ·exact .inl (Ea h)
  ·rcases hx with hx | hx
   ·exact .inr ⟨hx, fun id o _ ho => h.2 id o ho⟩
   ·exact .inl (Ea hx)
 have hM : aI c F eG ⟨s.sl, qF ρ jS ++ s.ob⟩ a w' := by
  refine hm.go (hm.kept.on ⟨hk.os, hk.tape, hk.output⟩ hk.size fun b hb => hblk b (hm.kept.lt hb) fun i _ ho => (hm.new i b ho).1 hb) E (fun i o1 ho1 => ?_) (fun i j g hi hj => ?_) (fun i g hi => ?_)
  ·rw [hlk] at ho1
   cases hb : bk ρ jS i with
   | some j =>
    rw [hb] at ho1
    simp only at ho1
    obtain ⟨o3, ho3, rfl⟩ := Option.map_eq_some_iff.1 ho1
    obtain ⟨e, _⟩ := IX hb
    rw [e]
    refine OR.ren (ρ := ρ) (S := fun _ => True) hSb (hSb j trivial o3 ho3).2 ?_ ?_ (TU.obj j o3 ho3)
    ·rcases hsc with h | h
     ·exact .inl (Ea h)
     ·exact .inr ⟨h.2 j o3 ho3, fun id o _ ho => h.2 id o ho⟩
    ·cases o3 <;> first | trivial | exact fun j x _ => amE x | exact fun _ _ _ => trivial
   | none =>
    rw [hb] at ho1
    simp only at ho1
    have hni : ¬ S i := fun hi => by obtain ⟨_, _, _, _, _, hb', _⟩ := Tz i hi; rw [hb] at hb'; cases hb'
    exact (hm.obj i o1 ho1).lY E (by simp only [eG, hb]) fun g hg => hblk g (hm.new i g ⟨o1, ho1, hg⟩).2 fun i' hi' ho' => hni (hm.inj i i' g ⟨o1, ho1, hg⟩ ho' ▸ hi')
  ·rcases wX i g hi with ⟨k1, h1, h2⟩ | ⟨h1, h2, h3⟩ <;> rcases wX j g hj with ⟨k2, h4, h5⟩ | ⟨h4, h5, h6⟩
   ·have := TU.inj k1 k2 g h2 h5
    subst this
    rw [(IX h1).1, (IX h4).1]
   ·exfalso
    rcases Ji k1 g h2 with ⟨i', a1, a2⟩ | a1
    ·exact h5 (hm.inj j i' g h6 a2 ▸ a1)
    ·have := (hm.new j g h6).2; omega
   ·exfalso
    rcases Ji k2 g h5 with ⟨i', a1, a2⟩ | a1
    ·exact h2 (hm.inj i i' g h3 a2 ▸ a1)
    ·have := (hm.new i g h3).2; omega
   ·exact hm.inj i j g h3 h6
  ·rcases wX i g hi with ⟨j, h1, h2⟩ | ⟨h1, h2, h3⟩
   ·refine ⟨fun hb => ?_, (TU.new j g h2).2⟩
    rcases Ji j g h2 with ⟨i', a1, a2⟩ | a1
    ·exact (hm.new i' g a2).1 hb
    ·have := hm.kept.lt hb; omega
   ·exact ⟨(hm.new i g h3).1, Nat.lt_of_lt_of_le (hm.new i g h3).2 hk.size⟩
 have hres : VR w' (Gz F w' eG (aA (qF ρ jS ++ s.ob))) eG (aA (qF ρ jS ++ s.ob)) (r'.ren ρ) v := by
  refine VR.ren (S := fun _ => True) hSb ?_ (amE r') hv
  rcases hsc with h | h
  ·exact .inl (Ea h)
  ·exact .inr ⟨h.1, fun id o _ ho => h.2 id o ho⟩
 refine hn _ _ _ rfl ⟨eG, ?_⟩
 have := hM.put o.dst (x := r'.ren ρ) (v := v) hres
 cases hd : o.dst with
 | none => rw [hd] at this; exact this
 | some d => rw [hd] at this; exact this
end
section
def Flat (u : Value) : Prop := ∀ c ∈ u.cells, c.oneCell' = true
structure TD where
 kd : Nat := 0
 size : Nat := 1
 zero : Value := undef
 elem : Nat := 0
 eb : Nat := 0
 ez : Value := undef
 len : Nat := 0
 aP : List (Nat × Nat) := []
 ik : Option IntKind := none
 bl : Bool := false
 st : Bool := false
 mp : Option (Nat × Nat) := none
 eqd : Option DT := none
 one1 : Bool := false
 qM : Option (DT × DT) := none
 zH : List (String × Nat) := []
 pt : Bool := false
 b8 : Bool := false
 yX : Bool := false
def DT.beq : (t : DT) -> t.den -> t.den -> Bool
 | .unit, _, _ => true
 | .int _, a, b => decide ((a : Int) = b)
 | .bool, a, b => a == b
 | .str, a, b => a == b
 | .arr n t, a, b => (List.range n).all fun i => t.beq (a.getD i t.dflt) (b.getD i t.dflt)
 | .pair t u, a, b => t.beq a.1 b.1 && u.beq a.2 b.2
 | _, _, _ => false
structure IE (P : Program) (k : TypeId) (t : DT) : Prop where
 plain : t.plain = true
 check : ∀ (x : t.den) (w : World) (G : Nat -> Prop) (v : Value) (b : Bool), t.val x w G v -> (Instr.checkKey b 10000 k v).run P w = .ok () w
 under : ∃ d, P.underlying k = some d /\ ((∀ (x y : t.den) (w : World) (G : Nat -> Prop) (u v : Value), t.val x w G u -> t.val y w G v -> Instr.sameNow d u v = some (t.beq x y)) \/
  ((∀ (x y : t.den) (w : World) (G : Nat -> Prop) (u v : Value), t.val x w G u -> t.val y w G v -> Instr.sameNow d u v = none) /\ ∀ (x y : t.den) (w : World) (G : Nat -> Prop) (u v : Value), t.val x w G u -> t.val y w G v -> (Op.equal k u v).run P w = .ok (t.beq x y) w))
 same : ∀ (x y : t.den) (w : World) (G : Nat -> Prop) (u v : Value), t.val x w G u -> t.val y w G v -> t.beq x y = true -> Instr.sameBits 10000 v u = true
def Uk (v : Value) (t : DT) : Prop := ∀ (w : World) (G : Nat -> Prop), t.val t.dflt w G v
structure aQ (P : Program) (T : TypeId) (d : TD) : Prop where
 info : d.kd ≠ 0 -> ∃ i, P.info? T = some i /\ i.size = d.size /\ i.zero = some d.zero
 zc : d.kd ≠ 0 -> d.zero.cells.size = d.size /\ Flat d.zero /\ (∀ cs, d.zero = .agg cs -> 2 < d.kd) /\ 0 < d.size
 one : d.kd = 1 \/ d.kd = 2 -> d.size = 1 /\ ∀ (w : World), (isAgg T).run P w = .ok false w
 many : d.kd = 3 \/ d.kd = 4 -> (∃ cs, d.zero = .agg cs) /\ ∀ (w : World), (isAgg T).run P w = .ok true w
 sl : d.kd = 2 -> ∃ e ie, P.underlying T = some (.slice e) /\ P.info? e = some ie /\ ie.size = d.elem /\ ie.bytes = d.eb /\ ie.zero = some d.ez /\ d.ez.cells.size = d.elem /\ Flat d.ez /\ 0 < d.elem
 arr : d.kd = 3 -> ∃ e ie, P.underlying T = some (.array d.len e) /\ P.info? e = some ie /\ ie.size = d.elem
 str : d.kd = 4 -> ∃ fs, P.underlying T = some (.struct fs) /\ fs.size = d.aP.length /\ ∀ (i : Nat) (p : Nat × Nat), d.aP[i]? = some p -> ∃ f fi, fs[i]? = some f /\ f.offset = p.1 /\ P.info? f.type = some fi /\ fi.size = p.2 /\ 0 < p.2
 uU : d.kd = 4 -> ∃ fs, P.underlying T = some (.struct fs) /\ fs.toList.mapM (fun f => (P.info? f.type).map fun i => (f.offset, i.size)) = some d.aP
 int : ∀ k, d.ik = some k -> P.underlying T = some (.int k)
 bool : d.bl = true -> P.underlying T = some .bool
 string : d.st = true -> P.underlying T = some .string
 map : ∀ k v, d.mp = some (k, v) -> P.underlying T = some (.map k v)
 oM : ∀ kt vt, d.qM = some (kt, vt) -> ∃ k v i z, P.underlying T = some (.map k v) /\ IE P k kt /\ P.info? v = some i /\ i.zero = some z /\ Uk z vt /\ vt.plain = true
 one1 : d.one1 = true -> ∀ e, P.underlying T = some (.array d.len e) -> ∀ w : World, (isAgg e).run P w = .ok false w
 eq : ∀ t, d.eqd = some t -> t.agg = true /\ ∀ (x y : t.den) (u v : Value) (w : World) (G : Nat -> Prop) (op : BinOp) (ox oy : Operand), t.val x w G u -> t.val y w G v -> (eqGuard op T ox oy u v).run P w = .ok () w /\ (Op.equal T u v).run P w = .ok (t.beq x y) w
 zH : ∀ name g, d.zH.lookup name = some g -> ∀ (n : Nat) (v : Value) (w : World), (Go.method (n + 1) T v name).run P w = .ok (g, v) w := by intro name g h; simp at h
 ptr : d.pt = true -> ∃ e, P.underlying T = some (.pointer e) := by intro h; simp at h
 by8 : d.b8 = true -> ∃ e, P.underlying T = some (.slice e) /\ P.underlying e = some (.int .u8) := by intro h; simp at h
 yX : d.yX = true -> ∀ e, P.underlying T = some (.array d.len e) -> ∀ w : World, (isAgg e).run P w = .ok true w := by intro h; simp at h
def dI (P : Program) (TI : Nat -> TD) : Prop := ∀ T, aQ P T (TI T)
theorem cells_one {u : Value} (h : u.oneCell' = true) : u.cells = #[u] := by cases u <;> first | rfl | (simp [Value.oneCell'] at h)
def yQ (w : World) (G : Nat -> Prop) (b o : Nat) (u : DT) (y : u.den) : Prop := ∀ c, c < u.size -> ∃ z, w.cell? ⟨b, o + c, none⟩ = some z /\ z.oneCell' = true /\ u.cell y c w G z
theorem yQ.part {w : World} {G : Nat -> Prop} {b o : Nat} {t : DT} {x : t.den} {p : List Nat} {L : Lens t} (h : yQ w G b o t x) (hL : t.at p = some L) (hb : t.inb p) : yQ w G b (o + L.off) L.u (L.get x) := fun c hc => by
 obtain ⟨h1, h2⟩ := DT.DW hL hb
 obtain ⟨z, a1, a2, a3⟩ := h (L.off + c) (by omega)
 refine ⟨z, by rw [Nat.add_assoc]; exact a1, a2, ?_⟩
 rw [<- h2 x c hc]; exact a3
def OO (d : TD) (u : DT) : Bool := if u.agg then (d.kd == 3 || d.kd == 4) && d.size == u.size else (d.kd == 1 || d.kd == 2) && u.plain
section
variable {P : Program} {TI : Nat -> TD}
theorem afV (hT : dI P TI) {T : TypeId} (w : World) : ((TI T).kd = 1 \/ (TI T).kd = 2 -> (isAgg T).run P w = .ok false w) /\ ((TI T).kd = 3 \/ (TI T).kd = 4 -> (isAgg T).run P w = .ok true w) :=
 ⟨fun h => ((hT T).one h).2 w, fun h => ((hT T).many h).2 w⟩
theorem ak' (hT : dI P TI) {T : TypeId} (h : (TI T).kd ≠ 0) (w : World) : (sizeOf T).run P w = .ok (TI T).size w := by
 obtain ⟨i, h1, h2, _⟩ := (hT T).info h
 simp [sizeOf, typeInfo, h1, h2]
theorem add_lit (b o n : Nat) : (⟨b, o, none⟩ : Addr).add n = ⟨b, o + n, none⟩ := by unfold Addr.add; split <;> simp_all
theorem Yx (hT : dI P TI) {T : TypeId} {w : World} {b o : Nat} {z : Value} (h : (TI T).kd = 1 \/ (TI T).kd = 2) (hc : w.cell? ⟨b, o, none⟩ = some z) : (Instr.loadAt T (.pointer (some ⟨b, o, none⟩))).run P w = .ok z w := by
 simp [Instr.loadAt, Instr.sureAddr, loadVar, (afV hT w).1 h, hc]
theorem akY (hT : dI P TI) {T : TypeId} {w : World} {b o : Nat} (z : Nat -> Value) (h : (TI T).kd = 3 \/ (TI T).kd = 4) (hc : ∀ j, j < (TI T).size -> w.cell? ⟨b, o + j, none⟩ = some (z j)) :
  (Instr.loadAt T (.pointer (some ⟨b, o, none⟩))).run P w = .ok (.agg ((List.range (TI T).size).map z).toArray) w := by
 have hk : (TI T).kd ≠ 0 := by omega
 have h1 := run_loadCells (P := P) w ⟨b, o, none⟩ (TI T).size z (fun j hj => by rw [add_lit]; exact hc j hj)
 simp [Instr.loadAt, Instr.sureAddr, loadVar, (afV hT w).2 h, ak' hT hk w, h1]
theorem run_load (hT : dI P TI) {T : TypeId} {w : World} {G : Nat -> Prop} {b o : Nat} {u : DT} {y : u.den} (hk : OO (TI T) u = true) (h : yQ w G b o u y) : ∃ v, (Instr.loadAt T (.pointer (some ⟨b, o, none⟩))).run P w = .ok v w /\ u.val y w G v := by
 unfold OO at hk
 cases ha : u.agg with
 | true =>
  simp only [ha, if_true, bC, Bool.or_eq_true, beq_iff_eq] at hk
  obtain ⟨hk1, hk2⟩ := hk
  have hch : ∀ j, ∃ z, j < u.size -> w.cell? ⟨b, o + j, none⟩ = some z /\ z.oneCell' = true /\ u.cell y j w G z := fun j => by
   by_cases hj : j < u.size
   ·obtain ⟨z, a⟩ := h j hj; exact ⟨z, fun _ => a⟩
   ·exact ⟨undef, fun h => absurd h hj⟩
  obtain ⟨zs, hzs⟩ := Classical.axiomOfChoice hch
  refine ⟨_, akY hT zs hk1 (fun j hj => (hzs j (hk2 ▸ hj)).1), ?_⟩
  rw [DT.oG ha]
  refine ⟨_, rfl, by simp [hk2], fun j hj => ?_⟩
  obtain ⟨a1, a2, a3⟩ := hzs j hj
  exact ⟨zs j, by simp [hk2, hj], a2, a3⟩
 | false =>
  simp only [ha, Bool.false_eq_true, if_false, bC, Bool.or_eq_true, beq_iff_eq] at hk
  obtain ⟨z, a1, a2, a3⟩ := h 0 (by rw [DT.O5 ha hk.2]; omega)
  exact ⟨z, Yx hT hk.1 a1, (DT.val_one ha).2 a3⟩
theorem eP {a : Act} {o : Oper} {e : Sem Value} {v : Value} {w w' : World} (h : execOp a.eval o = (do pure (.value (<- e)))) (hr : e.run P w = .ok v w') : (execOp a.eval o).run P w = .ok (.value v) w' := by
 rw [h]; simp [hr]
theorem run_equal_bool {t : TypeId} {p q : Bool} {w : World} (h : P.underlying t = some .bool) : (Op.equal t (.bool p) (.bool q)).run P w = .ok (p == q) w := by
 show (Op.equalIn (9999 + 1) t (.bool p) (.bool q)).run P w = _
 unfold Op.equalIn
 simp only [Sem.run_bind, run_underlying h, Result.andThen]
 rfl
theorem aq7 (t : TypeId) (p q : Bool) : binOp .eql t (.bool p) (.bool q) = (do pure (.bool (<- Op.equal t (.bool p) (.bool q)))) := rfl
theorem arB (t : TypeId) (p q : Bool) : binOp .neq t (.bool p) (.bool q) = (do pure (.bool (!(<- Op.equal t (.bool p) (.bool q))))) := rfl
def OT : Sem Value -> Option Value
 | .pure v => some v
 | _ => none
theorem Yp {e : Sem Value} {x : Value} (h : OT e = some x) (w : World) : e.run P w = .ok x w := by
 cases e with
 | pure v => simp only [OT, aS] at h; subst h; rfl
 | _ => simp [OT] at h
end
def ofValue : Value -> Option TV
 | .int k n => some (.dv (.int k) n)
 | .bool b => some (.dv .bool b)
 | _ => none
theorem Yg {v : Value} {x : TV} (h : ofValue v = some x) {w : World} {G : Nat -> Prop} {π : Nat -> Pl} {O : bF} : VR w G π O x v := by
 unfold ofValue at h
 split at h
 ·obtain rfl := aC h; rfl
 ·obtain rfl := aC h; rfl
 ·cases h
def wP (v : Value) : (t : DT) -> Bool
 | .int k => (match v with | .int k' n => decide (k = k') && decide (n = 0) | _ => false)
 | .bool => (match v with | .bool b => !b | _ => false)
 | .str => (match v with | .string s => s.data.toList.isEmpty | _ => false)
 | .sl _ => (match v with | .slice none 0 0 => true | _ => false)
 | .jT _ => (match v with | .slice none 0 0 => true | _ => false)
 | .fJ _ => (match v with | .slice none 0 0 => true | _ => false)
 | .fp _ => (match v with | .pointer none => true | _ => false)
 | _ => false
def TV.data (L : bF) : TV -> Option (Σ t : DT, List t.den)
 | .dv (.sl t) l => some ⟨t, l⟩
 | .dv (.jT t) l => some ⟨t, l⟩
 | .dv (.fJ t) l => some ⟨t, l.getD []⟩
 | .row id => match L id with
  | some (.row t l) => some ⟨t, l⟩
  | some (.dG t l) => some ⟨t, l⟩
  | _ => none
 | .iP id a b => match L id with
  | some (.row t l) => some ⟨t, (l.take b).drop a⟩
  | some (.dG t l) => some ⟨t, (l.take b).drop a⟩
  | _ => none
 | _ => none
def TV.lM (L : bF) : TV -> Option (Σ t : DT, List t.den)
 | .dv (.sl t) l => some ⟨t, l⟩
 | .dv (.jT t) l => some ⟨t, l⟩
 | .dv (.fJ t) l => some ⟨t, l.getD []⟩
 | .row id => match L id with
  | some (.dG t l) => some ⟨t, l⟩
  | _ => none
 | .iP id a b => match L id with
  | some (.dG t l) => some ⟨t, (l.take b).drop a⟩
  | _ => none
 | _ => none
theorem lX.weak {w : World} {G : Nat -> Prop} {fl : Option Addr -> Nat -> Nat -> Prop} {k n : Nat} {f : Nat -> Nat -> CP} {v : Value} (h : lX fl k n f w G v) : lX (fun _ _ _ => True) k n f w G v := by
 obtain ⟨p, cap, h1, h2, h3, h4, h5, h6⟩ := h
 exact ⟨p, cap, h1, h2, h3, h4, trivial, h6⟩
theorem TV.NH {w : World} {G : Nat -> Prop} {π : Nat -> Pl} {O : bF} {x : TV} {v : Value} {t : DT} {l : List t.den} (h : x.lM O = some ⟨t, l⟩) (hv : VR w G π O x v) : (DT.sl t).cell l 0 w G v := by
 cases x with
 | dv u y =>
  have hv' : u.val y w G v := hv
  cases u with
  | sl u => simp only [TV.lM, aS, Sigma.mk.injEq] at h; obtain ⟨rfl, h⟩ := h; obtain rfl := eq_of_heq h; exact (DT.val_one rfl).1 hv'
  | jT u => simp only [TV.lM, aS, Sigma.mk.injEq] at h; obtain ⟨rfl, h⟩ := h; obtain rfl := eq_of_heq h; exact lX.weak ((DT.val_one rfl).1 hv')
  | fJ u =>
   simp only [TV.lM, aS, Sigma.mk.injEq] at h; obtain ⟨rfl, h⟩ := h; obtain rfl := eq_of_heq h
   have h1 := (DT.val_one rfl).1 hv'
   cases y with
   | none => have : v = _ := h1; subst this; exact ⟨none, 0, rfl, Nat.le_refl _, by simp [maxLen], fun _ => rfl, trivial, fun h => by simp at h⟩
   | some y => exact lX.weak (fl := fun p _ _ => p ≠ none) (k := u.size) (n := y.length) (f := fun i c => u.cell (y.getD i u.dflt) c) h1
  | _ => simp [TV.lM] at h
 | row id =>
  simp only [VR] at hv
  cases ho : O id with
  | none => rw [ho] at hv; exact hv.elim
  | some o =>
   rw [ho] at hv
   cases o with
   | dG t' l' => simp only [TV.lM, ho, aS, Sigma.mk.injEq] at h; obtain ⟨rfl, h⟩ := h; obtain rfl := eq_of_heq h; exact hv
   | _ => simp [TV.lM, ho] at h
 | iP id a b =>
  simp only [VR] at hv
  cases ho : O id with
  | none => rw [ho] at hv; exact hv.elim
  | some o =>
   rw [ho] at hv
   cases o with
   | dG t' l' => simp only [TV.lM, ho, aS, Sigma.mk.injEq] at h; obtain ⟨rfl, h⟩ := h; obtain rfl := eq_of_heq h; exact hv
   | _ => simp [TV.lM, ho] at h
 | _ => simp [TV.lM] at h
theorem TV.asP {w : World} {F : Nat -> Prop} {c : Cx} {π : Nat -> Pl} {s : TS} {a : Act} (hm : aI c F π s a w) {x : TV} {v : Value} {t : DT} {l : List t.den} (h : x.data (aA s.ob) = some ⟨t, l⟩) (hv : VR w (Gz F w π (aA s.ob)) π (aA s.ob) x v) : ∃ p cap, v = .slice p l.length cap := by
 have zK : x.lM (aA s.ob) = some ⟨t, l⟩ -> ∃ p cap, v = .slice p l.length cap := fun h => by
  obtain ⟨p, cap, h1, _⟩ := TV.NH h hv; exact ⟨p, cap, h1⟩
 cases x with
 | dv u y => exact zK (by cases u <;> exact h)
 | row id =>
  simp only [VR] at hv
  cases ho : aA s.ob id with
  | none => rw [ho] at hv; exact hv.elim
  | some o =>
   rw [ho] at hv
   cases o with
   | dG t' l' => exact zK (by simp only [TV.lM, ho]; simp only [TV.data, ho] at h; exact h)
   | row t' l' =>
    simp only [TV.data, ho, aS, Sigma.mk.injEq] at h
    obtain ⟨rfl, h⟩ := h; obtain rfl := eq_of_heq h
    simp only at hv
    subst hv
    unfold Pl.hdr
    rcases hm.obj id _ ho with ⟨h1, h2⟩ | ⟨g, cur, e, h1, _⟩
    ·rw [h1]; subst h2; exact ⟨none, 0, rfl⟩
    ·rw [h1]; exact ⟨_, _, rfl⟩
   | _ => simp [TV.data, ho] at h
 | iP id i j =>
  simp only [VR] at hv
  cases ho : aA s.ob id with
  | none => rw [ho] at hv; exact hv.elim
  | some o =>
   rw [ho] at hv
   cases o with
   | row t' l' =>
    simp only [TV.data, ho, aS, Sigma.mk.injEq] at h
    obtain ⟨rfl, h⟩ := h; obtain rfl := eq_of_heq h
    obtain ⟨h1, h2, p, cp, h3, _⟩ := hv
    refine ⟨p, cp, ?_⟩
    rw [h3]
    congr 1
    simp; omega
   | dG t' l' => exact zK (by simp only [TV.lM, ho]; simp only [TV.data, ho] at h; exact h)
   | _ => simp [TV.data, ho] at h
 | _ => simp [TV.data] at h
end
section
def TO.part : TO -> Nat -> List Nat -> Option (Σ u : DT, u.den)
 | .row t l, i, p => match t.at p with
  | some L => some ⟨L.u, L.get (l.getD i t.dflt)⟩
  | none => none
 | .aV fs, _, j :: p => match fs[j]? with
  | some (.dv t x) => match t.at p with
   | some L => some ⟨L.u, L.get x⟩
   | none => none
  | _ => none
 | _, _, _ => none
def DT.pO : DT -> Nat -> Bool
 | .pair _ _, 0 => true
 | .pair _ b, i + 1 => b.pO i
 | .arr n _, i => decide (i < n)
 | _, _ => false
theorem DT.afT {n i : Nat} {t : DT} (h : i < n) : (DT.arr n t).inb [i] := by simp only [DT.inb]; exact ⟨h, trivial⟩
theorem DT.UE : ∀ {t : DT} {i : Nat}, t.pO i = true -> t.inb [i]
 | .pair a _, 0, _ => DT.wO a
 | .pair _ b, i + 1, h => DT.UE (t := b) h
 | .arr n t, i, h => DT.afT (by simpa [DT.pO] using h)
 | .unit, _, h => by simp [DT.pO] at h
 | .int _, _, h => by simp [DT.pO] at h
 | .bool, _, h => by simp [DT.pO] at h
 | .str, _, h => by simp [DT.pO] at h
 | .sl _, _, h => by simp [DT.pO] at h
 | .jT _, _, h => by simp [DT.pO] at h
 | .fJ _, _, h => by simp [DT.pO] at h
 | .fp _, _, h => by simp [DT.pO] at h
 | .dM _, _, h => by simp [DT.pO] at h
 | .rY, _, h => by simp [DT.pO] at h
 | .iT _ _ _, _, h => by simp [DT.pO] at h
theorem TO.Yn {o : TO} {i c : Nat} {p : List Nat} {u : DT} {y : u.den} (hp : o.part i p = some ⟨u, y⟩) (hc : o.loc i p = some c) (hk : o.oO i p) {k : Nat} {r : Lens u} (hr : u.at [k] = some r) (hi : u.pO k = true) :
  o.loc i (p ++ [k]) = some (c + r.off) /\ o.oO i (p ++ [k]) /\ o.part i (p ++ [k]) = some ⟨r.u, r.get y⟩ := by
 have hib := DT.UE hi
 have aux : ∀ {t : DT} {p : List Nat} {L : Lens t} {x : t.den}, t.at p = some L -> t.inb p -> ∀ {u : DT} {y : u.den}, (⟨L.u, L.get x⟩ : Σ u : DT, u.den) = ⟨u, y⟩ -> ∀ {r : Lens u}, u.at [k] = some r -> u.inb [k] -> ∃ q, t.at (p ++ [k]) = some q /\ t.inb (p ++ [k]) /\ q.off = L.off + r.off /\ (⟨q.u, q.get x⟩ : Σ u : DT, u.den) = ⟨r.u, r.get y⟩ := by
  intro t p L x hL hb
  intro u y he r hr hib
  have hstep : ∀ {t : DT} {p : List Nat} {L : Lens t}, t.at p = some L -> ∀ {r : Lens L.u}, L.u.at [k] = some r -> ∃ q, t.at (p ++ [k]) = some q /\ q.off = L.off + r.off /\ ∀ x, (⟨q.u, q.get x⟩ : Σ u : DT, u.den) = ⟨r.u, r.get (L.get x)⟩ := by
   intro t
   induction t with
   | arr n t ih =>
    intro p L h r hr
    cases p with
    | nil => rw [DT.at_nil] at h; obtain rfl := aC h; exact ⟨r, hr, by simp, fun x => rfl⟩
    | cons i p =>
     simp only [DT.at] at h
     split at h
     ·rename_i s' hs'
      obtain rfl := aC h
      obtain ⟨q, a1, a2, a3⟩ := ih hs' hr
      simp only [List.cons_append, DT.at, a1]
      exact ⟨_, rfl, by show i * t.size + q.off = i * t.size + s'.off + r.off; omega, fun x => a3 _⟩
     ·cases h
   | pair a b iha ihb =>
    intro p L h r hr
    cases p with
    | nil => rw [DT.at_nil] at h; obtain rfl := aC h; exact ⟨r, hr, by simp, fun x => rfl⟩
    | cons i p =>
     cases i with
     | zero =>
      simp only [DT.at] at h
      split at h
      ·rename_i s' hs'
       obtain rfl := aC h
       obtain ⟨q, a1, a2, a3⟩ := iha hs' hr
       simp only [List.cons_append, DT.at, a1]
       exact ⟨_, rfl, a2, fun x => a3 _⟩
      ·cases h
     | succ i =>
      simp only [DT.at] at h
      split at h
      ·rename_i s' hs'
       obtain rfl := aC h
       obtain ⟨q, a1, a2, a3⟩ := ihb hs' hr
       simp only [List.cons_append] at a1
       simp only [List.cons_append, DT.at, a1]
       exact ⟨_, rfl, by show a.size + q.off = a.size + s'.off + r.off; omega, fun x => a3 _⟩
      ·cases h
   | _ =>
    intro p L h r hr
    cases p with
    | nil => rw [DT.at_nil] at h; obtain rfl := aC h; exact ⟨r, hr, by simp, fun x => rfl⟩
    | cons i p => simp [DT.at] at h
  simp only [Sigma.mk.injEq] at he
  obtain ⟨rfl, he⟩ := he
  obtain rfl := eq_of_heq he
  obtain ⟨q, a1, a2, a3⟩ := hstep hL hr
  exact ⟨q, a1, DT.Uj hL hb hib, a2, a3 x⟩
 cases o with
 | row t l =>
  simp only [TO.part] at hp
  cases hL : t.at p with
  | none => rw [hL] at hp; cases hp
  | some L =>
   rw [hL] at hp
   simp only [TO.loc, hL, Option.map_some, aS] at hc
   subst hc
   obtain ⟨q, a1, a2, a3, a4⟩ := aux (x := l.getD i t.dflt) hL hk.2 (aC hp) hr hib
   refine ⟨?_, ⟨hk.1, a2⟩, ?_⟩
   ·simp only [TO.loc, a1, Option.map_some, a3, Nat.add_assoc]
   ·simp only [TO.part, a1]; exact congrArg some a4
 | aV fs =>
  cases p with
  | nil => simp [TO.part] at hp
  | cons j p =>
   simp only [TO.part] at hp
   cases hj : fs[j]? with
   | none => rw [hj] at hp; cases hp
   | some z =>
    rw [hj] at hp
    cases z with
    | dv t x =>
     simp only at hp
     cases hL : t.at p with
     | none => rw [hL] at hp; cases hp
     | some L =>
      rw [hL] at hp
      simp only [TO.loc, hj, TV.iF, hL, Option.map_some, aS] at hc
      subst hc
      simp only [TO.oO, hj, TV.nU] at hk
      obtain ⟨q, a1, a2, a3, a4⟩ := aux (x := x) hL hk (aC hp) hr hib
      refine ⟨?_, ?_, ?_⟩
      ·simp only [List.cons_append, TO.loc, hj, TV.iF, a1, Option.map_some, a3, Nat.add_assoc]
      ·simp only [List.cons_append, TO.oO, hj, TV.nU]; exact a2
      ·simp only [List.cons_append, TO.part, hj, a1]; exact congrArg some a4
    | _ => cases hp
 | _ => simp [TO.part] at hp
section
variable {P : Program} {TI : Nat -> TD} {c : Cx} {F : Nat -> Prop} {s : TS} {π : Nat -> Pl} {a : Act} {w : World}
theorem aI.part (hm : aI c F π s a w) {id i : Nat} {p : List Nat} {o : TO} (ho : aA s.ob id = some o) {v : Value} (hv : VR w (Gz F w π (aA s.ob)) π (aA s.ob) (.ptr id i p) v) {u : DT} {y : u.den} (hp : o.part i p = some ⟨u, y⟩) :
  ∃ g k, o.loc i p = some k /\ o.oO i p /\ (π id).g = some g /\ v = .pointer (some ⟨g, (π id).q + k, none⟩) /\ yQ w (Gz F w π (aA s.ob)) g ((π id).q + k) u y := by
 simp only [VR, ho] at hv
 have hor := hm.obj id o ho
 cases o with
 | row t l =>
  obtain ⟨k, g, h1, h2, h3, h4⟩ := hv rfl
  refine ⟨g, k, h1, h2, h3, h4, fun e he => ?_⟩
  simp only [TO.part] at hp
  cases hL : t.at p with
  | none => rw [hL] at hp; cases hp
  | some L =>
   rw [hL] at hp
   simp only [aS, Sigma.mk.injEq] at hp
   obtain ⟨rfl, hp⟩ := hp
   obtain rfl := eq_of_heq hp
   simp only [TO.loc, hL, Option.map_some, aS] at h1
   subst h1
   obtain ⟨b1, b2⟩ := DT.DW hL h2.2
   rcases hor with ⟨q1, rfl⟩ | ⟨g', cur, e', q1, q2, q3, q4, q5, q6⟩
   ·simp [TO.oO] at h2
   ·rw [h3] at q1; obtain rfl := aC q1
    obtain ⟨z, a1, a2, a3⟩ := q6 i h2.1 (L.off + e) (by omega)
    refine ⟨z, by rw [tH q2, <- a1]; congr 1; omega, a2, ?_⟩
    rw [<- b2 _ e he]; exact a3
 | aV fs =>
  obtain ⟨k, g, h1, h2, h3, h4⟩ := hv rfl
  refine ⟨g, k, h1, h2, h3, h4, fun e he => ?_⟩
  cases p with
  | nil => simp [TO.part] at hp
  | cons j p =>
   simp only [TO.part] at hp
   cases hj : fs[j]? with
   | none => rw [hj] at hp; cases hp
   | some z =>
    rw [hj] at hp
    cases z with
    | dv t x =>
     simp only at hp
     cases hL : t.at p with
     | none => rw [hL] at hp; cases hp
     | some L =>
      rw [hL] at hp
      simp only [aS, Sigma.mk.injEq] at hp
      obtain ⟨rfl, hp⟩ := hp
      obtain rfl := eq_of_heq hp
      simp only [TO.loc, hj, TV.iF, hL, Option.map_some, aS] at h1
      subst h1
      simp only [TO.oO, hj, TV.nU] at h2
      obtain ⟨b1, b2⟩ := DT.DW hL h2
      obtain ⟨g', cur, e', q1, q2, q3⟩ := hor
      rw [h3] at q1; obtain rfl := aC q1
      obtain ⟨z, a1, a2, a3⟩ := q3 j _ hj (L.off + e) (by simp only [TV.size]; omega)
      refine ⟨z, by rw [tH q2.1, <- a1]; congr 1; omega, a2, ?_⟩
      rw [<- b2 _ e he]; exact a3
    | _ => cases hp
 | _ => simp [TO.part] at hp
theorem aI.field (hm : aI c F π s a w) {id i j : Nat} {fs : List TV} (ho : aA s.ob id = some (.aV fs)) {v : Value} (hv : VR w (Gz F w π (aA s.ob)) π (aA s.ob) (.ptr id i [j]) v) {x : TV} (hj : fs[j]? = some x) (hx : ∀ t y, x ≠ .dv t y) :
  ∃ g z, (π id).g = some g /\ v = .pointer (some ⟨g, (π id).q + aP fs j, none⟩) /\ w.cell? ⟨g, (π id).q + aP fs j, none⟩ = some z /\ VR w (Gz F w π (aA s.ob)) π (aA s.ob) x z := by
 simp only [VR, ho] at hv
 obtain ⟨k, g, h1, h2, h3, h4⟩ := hv rfl
 obtain ⟨g', cur, e', q1, q2, q3⟩ := hm.obj id _ ho
 rw [h3] at q1; obtain rfl := aC q1
 have hk : k = aP fs j := by
  simp only [TO.loc, hj, TV.iF] at h1
  cases x <;> first | exact absurd rfl (hx _ _) | exact (aC h1).symm
 subst hk
 have hs : x.size = 1 := by cases x <;> first | exact absurd rfl (hx _ _) | rfl
 obtain ⟨z, a1, a2, a3⟩ := q3 j x hj 0 (by omega)
 refine ⟨g, z, h3, h4, by rw [tH q2.1, <- a1]; rfl, ?_⟩
 cases x <;> first | exact absurd rfl (hx _ _) | exact a3
end
def TV.idx (d : TD) (L : bF) (z : Int) : TV -> Option (TV × Bool)
 | .dv (.sl t) l => if d.kd == 2 && d.elem == t.size then some (.el t (l.getD z.toNat t.dflt) [], decide (0 <= z /\ z < (l.length : Int))) else none
 | .dv (.jT t) l => if d.kd == 2 && d.elem == t.size then some (.el t (l.getD z.toNat t.dflt) [], decide (0 <= z /\ z < (l.length : Int))) else none
 | .row id => match L id with
  | some (.row t l) => if d.kd == 2 && d.elem == t.size then some (.ptr id z.toNat [], decide (0 <= z /\ z < (l.length : Int))) else none
  | some (.dG t l) => if d.kd == 2 && d.elem == t.size then some (.el t (l.getD z.toNat t.dflt) [], decide (0 <= z /\ z < (l.length : Int))) else none
  | _ => none
 | .iP id i j => match L id with
  | some (.row t l) => if d.kd == 2 && d.elem == t.size then some (.ptr id (i + z.toNat) [], decide (0 <= z /\ z < ((j - i : Nat) : Int))) else none
  | some (.dG t l) => if d.kd == 2 && d.elem == t.size then some (.el t (((l.take j).drop i).getD z.toNat t.dflt) [], decide (0 <= z /\ z < (((l.take j).drop i).length : Int))) else none
  | _ => none
 | .ptr id i p => match L id with
  | some o => match o.part i p with
   | some ⟨.arr n u, _⟩ => if d.kd == 3 && d.elem == u.size && d.len == n then some (.ptr id i (p ++ [z.toNat]), decide (0 <= z /\ z < (n : Int))) else none
   | _ => none
  | none => none
 | .view id i p k n a b => match L id, p with
  | some (.aV fs), [] => if d.kd == 2 && d.elem == k then some (.ptr id (i + (a + z.toNat) * k) [], decide (0 <= z /\ z < ((b - a : Nat) : Int))) else none
  | _, _ => none
 | .el t x p => match t.at p with
  | some L => match L.u with
   | .arr n u => if d.kd == 3 && d.elem == u.size && d.len == n then some (.el t x (p ++ [z.toNat]), decide (0 <= z /\ z < (n : Int))) else none
   | _ => none
  | none => none
 | _ => none
def TV.iH (d : TD) (L : bF) (k : Nat) : TV -> Option TV
 | .ptr id i p => match L id with
  | some o => match d.aP[k]? with
   | some (off, _) => match o.part i p with
    | some ⟨u, _⟩ => match u.at [k] with
     | some r => if d.kd == 4 && r.off == off && u.pO k then some (.ptr id i (p ++ [k])) else none
     | none => none
    | none => match o, p with
     | .aV fs, [] => match (List.range fs.length).find? (fun j => aP fs j == i + off) with
      | some j => if d.kd == 4 then some (.ptr id 0 [j]) else none
      | none => none
     | _, _ => none
   | none => none
  | none => none
 | .el t y p => match t.at p with
  | some L' => match L'.u.at [k], d.aP[k]? with
   | some r, some (off, _) => if d.kd == 4 && r.off == off && L'.u.pO k then some (.el t y (p ++ [k])) else none
   | _, _ => none
  | none => none
 | _ => none
def TV.ld (d : TD) (L : bF) : TV -> Option TV
 | .el t x p => match t.at p with
  | some L' => if OO d L'.u then some (.dv L'.u (L'.get x)) else none
  | none => none
 | .ptr id i p => match L id with
  | some o => match o.part i p with
   | some ⟨u, y⟩ => if OO d u then some (.dv u y) else none
   | none => match o, p with
    | .aV fs, [j] => match fs[j]? with
     | some x => if d.kd == 1 || d.kd == 2 then some x else none
     | none => none
    | _, _ => none
  | none => none
 | _ => none
section
variable {P : Program} {TI : Nat -> TD} {c : Cx} {F : Nat -> Prop} {s : TS} {π : Nat -> Pl} {a : Act} {w : World}
theorem Og (n z : Nat) (u : DT) : ∃ r : Lens (.arr n u), (DT.arr n u).at [z] = some r /\ r.u = u /\ r.off = z * u.size := by
 simp only [DT.at, DT.at_nil]
 exact ⟨_, rfl, rfl, by simp⟩
theorem OY (hT : dI P TI) {T : TypeId} (hk : (TI T).kd = 2) {b o n cap : Nat} {k : IntKind} {z : Int} (h0 : 0 <= z) (h1 : z < (n : Int)) : (Instr.indexAt T (.slice (some ⟨b, o, none⟩) n cap) (.int k z)).run P w = .ok (.pointer (some ⟨b, o + z.toNat * (TI T).elem, none⟩)) w := by
 obtain ⟨e, ie, b1, b2, b3, _⟩ := (hT T).sl hk
 simp [Instr.indexAt, asIntOf, run_underlying b1, sizeOf, typeInfo, b2, b3, h0, h1, add_lit]
theorem akX (hT : dI P TI) {T : TypeId} (hk : (TI T).kd = 3) {b o : Nat} {k : IntKind} {z : Int} (h0 : 0 <= z) (h1 : z < ((TI T).len : Int)) : (Instr.indexAt T (.pointer (some ⟨b, o, none⟩)) (.int k z)).run P w = .ok (.pointer (some ⟨b, o + z.toNat * (TI T).elem, none⟩)) w := by
 obtain ⟨e, ie, b1, b2, b3⟩ := (hT T).arr hk
 simp [Instr.indexAt, Instr.sureAddr, asIntOf, run_underlying b1, sizeOf, typeInfo, b2, b3, h0, h1, add_lit]
theorem Ju (hT : dI P TI) {T : TypeId} (hk : (TI T).kd = 4) {k off sz : Nat} (ho : (TI T).aP[k]? = some (off, sz)) {b o : Nat} : (Instr.fieldAt T (.pointer (some ⟨b, o, none⟩)) k).run P w = .ok (.pointer (some ⟨b, o + off, none⟩)) w := by
 obtain ⟨fs, b1, b2, b3⟩ := (hT T).str hk
 obtain ⟨f, fi, b4, b5, b6, b7, b8⟩ := b3 k _ ho
 have : fi.size ≠ 0 := by omega
 simp [Instr.fieldAt, Instr.sureAddr, run_underlying b1, b4, fieldPlace, sizeOf, typeInfo, b6, this, add_lit, b5]
theorem aw6 (hT : dI P TI) {T : TypeId} (hk : (TI T).kd = 2) {t : DT} {l : List t.den} {v : Value} {G : Nat -> Prop} {O : bF} (hv : (DT.sl t).cell l 0 w G v) (he : (TI T).elem = t.size) {k : IntKind} {z : Int} (h0 : 0 <= z) (h1 : z < (l.length : Int)) :
  ∃ v', (Instr.indexAt T v (.int k z)).run P w = .ok v' w /\ VR w G π O (.el t (l.getD z.toNat t.dflt) []) v' := by
 obtain ⟨p, cap, rfl, h3, h4, h5, _, h6⟩ := hv
 obtain ⟨b, o, rfl, a2, a3⟩ := h6 (by omega)
 refine ⟨_, OY hT hk h0 h1, b, o + z.toNat * t.size, _, DT.at_nil t, DT.wO t, by simp [he], a2, fun e hc => a3 z.toNat (by omega) e hc⟩
theorem TV.aw8 (hT : dI P TI) (hm : aI c F π s a w) {T : TypeId} {x y : TV} {b : Bool} {z : Int} {k : IntKind} (h : x.idx (TI T) (aA s.ob) z = some (y, b)) (hb : b = true) {v : Value} (hv : VR w (Gz F w π (aA s.ob)) π (aA s.ob) x v) :
  ∃ v', (Instr.indexAt T v (.int k z)).run P w = .ok v' w /\ VR w (Gz F w π (aA s.ob)) π (aA s.ob) y v' := by
 have hsl : ∀ {t : DT} {l : List t.den}, (DT.sl t).cell l 0 w (Gz F w π (aA s.ob)) v -> (if (TI T).kd == 2 && (TI T).elem == t.size then some (TV.el t (l.getD z.toNat t.dflt) [], decide (0 <= z /\ z < (l.length : Int))) else none) = some (y, b) -> ∃ v', (Instr.indexAt T v (.int k z)).run P w = .ok v' w /\ VR w (Gz F w π (aA s.ob)) π (aA s.ob) y v' := fun {t l} hc h => by
  split at h
  ·rename_i hk
   simp only [bC, beq_iff_eq] at hk
   simp only [aS, bJ] at h
   obtain ⟨rfl, rfl⟩ := h
   simp only [fH] at hb
   exact aw6 hT hk.1 hc hk.2 hb.1 hb.2
  ·cases h
 cases x with
 | dv u l =>
  have hv' : u.val l w _ v := hv
  cases u with
  | sl t => exact hsl ((DT.val_one rfl).1 hv') h
  | jT t => exact hsl (t := t) (l := l) (lX.weak ((DT.val_one rfl).1 hv')) h
  | _ => simp [TV.idx] at h
 | row id =>
  simp only [VR] at hv
  simp only [TV.idx] at h
  cases ho : aA s.ob id with
  | none => rw [ho] at hv; exact hv.elim
  | some o =>
   rw [ho] at hv h
   cases o with
   | row t l =>
    simp only at hv h
    split at h
    ·rename_i hk
     simp only [bC, beq_iff_eq] at hk
     simp only [aS, bJ] at h
     obtain ⟨rfl, rfl⟩ := h
     simp only [fH] at hb
     subst hv
     rcases hm.obj id _ ho with ⟨h1, h2⟩ | ⟨g, cur, e, h1, h2, h3, h4, h5, h6⟩
     ·subst h2; simp at hb; omega
     ·unfold Pl.hdr
      rw [h1]
      refine ⟨_, OY hT hk.1 hb.1 hb.2, ?_⟩
      simp only [VR, ho]
      refine fun _ => ⟨z.toNat * t.size, g, ?_, ⟨by omega, DT.wO t⟩, h1, by rw [hk.2]⟩
      simp [TO.loc, DT.at_nil]
    ·cases h
   | dG t l => exact hsl hv h
   | _ => cases h
 | iP id i j =>
  simp only [VR] at hv
  simp only [TV.idx] at h
  cases ho : aA s.ob id with
  | none => rw [ho] at hv; exact hv.elim
  | some o =>
   rw [ho] at hv h
   cases o with
   | row t l =>
    simp only at hv h
    split at h
    ·rename_i hk
     simp only [bC, beq_iff_eq] at hk
     simp only [aS, bJ] at h
     obtain ⟨rfl, rfl⟩ := h
     simp only [fH] at hb
     obtain ⟨h1, h2, p, cp, rfl, h4, h5, h6, h7⟩ := hv
     obtain ⟨g, hg, rfl⟩ := h7 (by omega)
     refine ⟨_, OY hT hk.1 hb.1 hb.2, ?_⟩
     simp only [VR, ho]
     refine fun _ => ⟨(i + z.toNat) * t.size, g, ?_, ⟨by omega, DT.wO t⟩, hg, by rw [hk.2, Nat.add_mul, Nat.add_assoc]⟩
     simp [TO.loc, DT.at_nil]
    ·cases h
   | dG t l => exact hsl hv h
   | _ => cases h
 | ptr id i p =>
  simp only [TV.idx] at h
  cases ho : aA s.ob id with
  | none => rw [ho] at h; cases h
  | some o =>
   rw [ho] at h
   simp only at h
   split at h
   ·rename_i n u y0 hp
    split at h
    ·rename_i hk
     simp only [bC, beq_iff_eq] at hk
     simp only [aS, bJ] at h
     obtain ⟨rfl, rfl⟩ := h
     simp only [fH] at hb
     obtain ⟨g, k0, h1, h2, h3, rfl, h5⟩ := hm.part ho hv hp
     obtain ⟨r, r1, r2, r3⟩ := Og n z.toNat u
     obtain ⟨l1, l2, _⟩ := TO.Yn hp h1 h2 r1 (by simp only [DT.pO, fH]; omega)
     refine ⟨_, akX hT hk.1.1 hb.1 (by rw [hk.2]; exact hb.2), ?_⟩
     simp only [VR, ho]
     refine fun _ => ⟨_, g, l1, l2, h3, ?_⟩
     rw [r3, hk.1.2, Nat.add_assoc]
    ·cases h
   ·cases h
 | view id i p k n i1 j1 =>
  simp only [TV.idx] at h
  split at h
  ·rename_i fs ho
   split at h
   ·rename_i hk
    simp only [bC, beq_iff_eq] at hk
    simp only [aS, bJ] at h
    obtain ⟨rfl, rfl⟩ := h
    simp only [fH] at hb
    simp only [VR, ho] at hv
    obtain ⟨c0, g, pp, h1, h2, h3, h4, h5, h6, rfl, h8⟩ := hv rfl
    simp only [TO.loc, aS] at h1
    subst h1
    obtain rfl := h8 (by omega)
    refine ⟨_, OY hT hk.1 hb.1 hb.2, ?_⟩
    simp only [VR, ho]
    exact fun _ => ⟨i + (i1 + z.toNat) * k, g, rfl, trivial, h3, by rw [hk.2, Nat.add_mul, Nat.add_assoc, Nat.add_assoc]⟩
   ·cases h
  ·cases h
 | el t x p =>
  simp only [TV.idx] at h
  split at h
  ·rename_i L hL
   split at h
   ·rename_i n u hu
    split at h
    ·rename_i hk
     simp only [bC, beq_iff_eq] at hk
     simp only [aS, bJ] at h
     obtain ⟨rfl, rfl⟩ := h
     simp only [fH] at hb
     obtain ⟨b0, o, L', h1, h2, rfl, h4, h5⟩ := hv
     rw [hL] at h1; obtain rfl := aC h1
     obtain ⟨r, r1, r2, r3⟩ := Og n z.toNat u
     have r1' : ∃ r' : Lens L.u, L.u.at [z.toNat] = some r' /\ r'.off = z.toNat * u.size := by rw [hu]; exact ⟨r, r1, r3⟩
     obtain ⟨r', r4, r5⟩ := r1'
     obtain ⟨q, q1, q2, q3⟩ := DT.acN hL r4
     refine ⟨_, akX hT hk.1.1 hb.1 (by rw [hk.2]; exact hb.2), b0, o, q, q1, DT.Uj hL h2 (by rw [hu]; exact DT.afT (by omega)), ?_, h4, h5⟩
     rw [q3, r5, hk.1.2, Nat.add_assoc]
    ·cases h
   ·cases h
  ·cases h
 | _ => simp [TV.idx] at h
theorem TV.auZ (hT : dI P TI) (hm : aI c F π s a w) {T : TypeId} {x y : TV} {k : Nat} (h : x.iH (TI T) (aA s.ob) k = some y) {v : Value} (hv : VR w (Gz F w π (aA s.ob)) π (aA s.ob) x v) :
  ∃ v', (Instr.fieldAt T v k).run P w = .ok v' w /\ VR w (Gz F w π (aA s.ob)) π (aA s.ob) y v' := by
 cases x with
 | ptr id i p =>
  simp only [TV.iH] at h
  cases ho : aA s.ob id with
  | none => rw [ho] at h; cases h
  | some o =>
   rw [ho] at h
   simp only at h
   split at h
   ·rename_i off sz hoff
    split at h
    ·rename_i u y0 hp
     split at h
     ·rename_i r hr
      split at h
      ·rename_i hk
       simp only [bC, beq_iff_eq] at hk
       obtain rfl := aC h
       obtain ⟨g, k0, h1, h2, h3, rfl, h5⟩ := hm.part ho hv hp
       obtain ⟨l1, l2, _⟩ := TO.Yn hp h1 h2 hr hk.2
       refine ⟨_, Ju hT hk.1.1 hoff, ?_⟩
       simp only [VR, ho]
       refine fun _ => ⟨_, g, l1, l2, h3, ?_⟩
       rw [hk.1.2, Nat.add_assoc]
      ·cases h
     ·cases h
    ·split at h
     ·rename_i fs _
      split at h
      ·rename_i j hj
       split at h
       ·rename_i hkd
        simp only [beq_iff_eq] at hkd
        have hjo := List.find?_some hj
        have hjl : j < fs.length := by have := List.mem_of_find?_eq_some hj; simpa using this
        simp only [beq_iff_eq] at hjo
        obtain rfl := aC h
        simp only [VR, ho] at hv
        obtain ⟨k0, g, h1, h2, h3, rfl⟩ := hv rfl
        simp only [TO.loc, aS] at h1
        subst h1
        refine ⟨_, Ju hT hkd hoff, ?_⟩
        simp only [VR, ho]
        have hg : fs[j]? = some fs[j] := List.getElem?_eq_getElem hjl
        refine fun _ => ⟨aP fs j, g, ?_, ?_, h3, by rw [hjo, Nat.add_assoc]⟩
        ·simp only [TO.loc, hg]
         generalize fs[j] = q
         cases q <;> simp [TV.iF, DT.at_nil]
        ·simp only [TO.oO, hg]
         generalize fs[j] = q
         cases q <;> simp [TV.nU, DT.wO]
       ·cases h
      ·cases h
     ·cases h
   ·cases h
 | el t x p =>
  simp only [TV.iH] at h
  split at h
  ·rename_i L hL
   split at h
   ·rename_i r off sz hr hoff
    split at h
    ·rename_i hk
     simp only [bC, beq_iff_eq] at hk
     obtain rfl := aC h
     obtain ⟨b0, o, L', h1, h2, rfl, h4, h5⟩ := hv
     rw [hL] at h1; obtain rfl := aC h1
     obtain ⟨q, q1, q2, q3⟩ := DT.acN hL hr
     refine ⟨_, Ju hT hk.1.1 hoff, b0, o, q, q1, DT.Uj hL h2 (DT.UE hk.2), ?_, h4, h5⟩
     rw [q3, hk.1.2, Nat.add_assoc]
    ·cases h
   ·cases h
  ·cases h
 | _ => simp [TV.iH] at h
theorem TV.agD (hT : dI P TI) (hm : aI c F π s a w) {T : TypeId} {x y : TV} (h : x.ld (TI T) (aA s.ob) = some y) {v : Value} (hv : VR w (Gz F w π (aA s.ob)) π (aA s.ob) x v) :
  ∃ v', (Instr.loadAt T v).run P w = .ok v' w /\ VR w (Gz F w π (aA s.ob)) π (aA s.ob) y v' := by
 cases x with
 | ptr id i p =>
  simp only [TV.ld] at h
  cases ho : aA s.ob id with
  | none => rw [ho] at h; cases h
  | some o =>
   rw [ho] at h
   simp only at h
   split at h
   ·rename_i u y0 hp
    split at h
    ·rename_i hk
     obtain rfl := aC h
     obtain ⟨g, k0, h1, h2, h3, rfl, h5⟩ := hm.part ho hv hp
     exact run_load hT hk h5
    ·cases h
   ·rename_i hp
    split at h
    ·rename_i fs j _
     split at h
     ·rename_i x0 hj
      split at h
      ·rename_i hk
       simp only [Bool.or_eq_true, beq_iff_eq] at hk
       obtain rfl := aC h
       obtain ⟨g, z, h1, rfl, h3, h4⟩ := hm.field ho hv hj (fun t y e => by subst e; simp [TO.part, hj, DT.at_nil] at hp)
       exact ⟨z, Yx hT hk h3, h4⟩
      ·cases h
     ·cases h
    ·cases h
 | el t x p =>
  simp only [TV.ld] at h
  split at h
  ·rename_i L hL
   split at h
   ·rename_i hk
    obtain rfl := aC h
    obtain ⟨b0, o, L', h1, h2, rfl, h4, h5⟩ := hv
    rw [hL] at h1; obtain rfl := aC h1
    exact run_load hT hk (yQ.part h5 hL h2)
   ·cases h
  ·cases h
 | _ => simp [TV.ld] at h
end
end
section
def Ur (x : TV) (z : Int) (d : TD) : Option (TV × Bool) :=
 match x with
 | .dv (.arr n t) l => if d.kd == 3 && d.elem == t.size && d.len == n && !t.agg && t.plain && d.one1 then some (.dv t (l.getD z.toNat t.dflt), decide (0 <= z /\ z < (n : Int)))
  else if d.kd == 3 && d.elem == t.size && d.len == n && t.agg && d.yX then some (.dv t (l.getD z.toNat t.dflt), decide (0 <= z /\ z < (n : Int))) else none
 | .dv .str l => if d.st then some (.dv (.int .u8) (((l.getD z.toNat 0).toNat : Nat) : Int), decide (0 <= z /\ z < (l.length : Int))) else none
 | _ => none
def TV.isNil (L : bF) : TV -> Option Bool
 | .nl => some true
 | .dv (.fJ _) x => some x.isNone
 | _ => none
def axB : BinOp -> Bool
 | .quo => true
 | .rem => true
 | .shl => true
 | .shr => true
 | _ => false
def MQ (TI : Nat -> TD) (L : bF) (op : BinOp) (T : Nat) (x y : TV) : Option (TV × Bool) :=
 match x, y with
 | .dv (.int k) a, .dv (.int k') b => if axB op then none else (match OT (binOp op T (.int k a) (.int k' b)) with
  | some v => (ofValue v).map fun x => (x, true)
  | none => none)
 | .dv .bool a, .dv .bool b => match op with
  | .eql => some (.dv .bool (a == b), (TI T).bl)
  | .neq => some (.dv .bool (a != b), (TI T).bl)
  | _ => none
 | .dv .str a, .dv .str b => match op with
  | .eql => some (.dv .bool (a == b), true)
  | .neq => some (.dv .bool (!(a == b)), true)
  | .lss => some (.dv .bool (Op.bytesLess a b), true)
  | .leq => some (.dv .bool (Op.bytesLess a b || a == b), true)
  | .gtr => some (.dv .bool (!(Op.bytesLess a b || a == b)), true)
  | .geq => some (.dv .bool (!Op.bytesLess a b), true)
  | .add => some (.dv .str (a ++ b), decide (a.length + b.length <= 9223372036854775807))
  | _ => none
 | .dv t a, .dv u b => if h : u = t then (match op with
  | .eql => some (.dv .bool (t.beq a (h ▸ b)), decide ((TI T).eqd = some t))
  | .neq => some (.dv .bool (!t.beq a (h ▸ b)), decide ((TI T).eqd = some t))
  | _ => none) else none
 | x, .nl => if (TI T).kd == 2 then (match op, x.isNil L with
  | .eql, some b => some (.dv .bool b, true)
  | .neq, some b => some (.dv .bool (!b), true)
  | _, _ => none) else none
 | _, _ => none
def JU (L : bF) (d : TD) (x : TV) : Option TV :=
 match x with
 | .nl => if d.kd == 2 then some (.dv (.int .i64) 0) else none
 | .dv .str l => if d.st then some (.dv (.int .i64) (l.length : Int)) else none
 | .row id => match L id with
  | some (.map _ _ l) => if d.mp.isSome then some (.dv (.int .i64) (l.length : Int)) else none
  | some (.row _ l) => if d.kd == 2 then some (.dv (.int .i64) (l.length : Int)) else none
  | some (.dG _ l) => if d.kd == 2 then some (.dv (.int .i64) (l.length : Int)) else none
  | _ => none
 | x => if d.kd == 2 then (match x.data L with
  | some ⟨_, l⟩ => some (.dv (.int .i64) (l.length : Int))
  | none => none) else none
def iO (TI : Nat -> TD) (ev : Operand -> TV) (L : bF) : Op -> Option (TV × Bool)
 | .move x => some (ev x, true)
 | .assign x => some (ev x, true)
 | .nilCheck x => match ev x with
  | .ptr id i p => match L id with
   | some o => if o.live then some (.ptr id i p, true) else none
   | none => none
  | .el t y p => some (.el t y p, true)
  | .fn g k n f => some (.fn g k n f, true)
  | _ => none
 | .binOp op t x y _ => MQ TI L op t (ev x) (ev y)
 | .unOp op _ x => match ev x with
  | .dv (.int k) a => match OT (Op.unary op (.int k a)) with
   | some v => (ofValue v).map fun x => (x, true)
   | none => none
  | .dv .bool a => match OT (Op.unary op (.bool a)) with
   | some v => (ofValue v).map fun x => (x, true)
   | none => none
  | _ => none
 | .convert src dst x => match ev x, (TI dst).ik, (TI src).ik with
  | .dv (.int _) n, some k, some _ => some (.dv (.int k) (k.wrap n), true)
  | _, _, _ => none
 | .extract x i => match ev x with
  | .dM n f => if i < n then some (f i, true) else none
  | _ => none
 | .load T p => ((ev p).ld (TI T) L).map fun x => (x, true)
 | .indexAddr T x i => match ev i with
  | .dv (.int _) z => (ev x).idx (TI T) L z
  | _ => none
 | .fieldAddr T x i => ((ev x).iH (TI T) L i).map fun x => (x, true)
 | .index T x i => match ev i with
  | .dv (.int _) z => Ur (ev x) z (TI T)
  | _ => none
 | .call c => match c.callee, c.args.toList, c.argTypes.toList with
  | .builtin .len, [x], [T] => (JU L (TI T) (ev x)).map fun x => (x, true)
  | _, _, _ => none
 | .makeFunc fn first caps => match fn with
  | .func g => some (.fn g first.size caps.size fun i => ((first ++ caps).toList.map ev).getD i .any, true)
  | _ => none
 | _ => none
section
variable {P : Program} {TI : Nat -> TD} {c : Cx} {F : Nat -> Prop} {s : TS} {π : Nat -> Pl} {a : Act} {w : World}
theorem akU {T e : TypeId} {p : Option Addr} {n k : Nat} (h : P.underlying T = some (.slice e)) : (Op.equal T (.slice p n k) (.slice none 0 0)).run P w = .ok p.isNone w := by
 show (Op.equalIn (9999 + 1) T _ _).run P w = _
 unfold Op.equalIn
 simp only [Sem.run_bind, run_underlying h, Result.andThen]
 cases p <;> rfl
theorem aDJ (hT : dI P TI) {T : TypeId} (hk : (TI T).kd = 3) {cs : Array Value} {k : IntKind} {z : Int} {u : Value} (h0 : 0 <= z) (h1 : z < ((TI T).len : Int)) (hag : (TI T).one1 = true) (hu : cs[z.toNat * (TI T).elem]? = some u) : (Instr.index T (.agg cs) (.int k z)).run P w = .ok u w := by
 obtain ⟨e, ie, b1, b2, b3⟩ := (hT T).arr hk
 have := (hT T).one1 hag e b1 w
 simp [Instr.index, asIntOf, run_underlying b1, sizeOf, typeInfo, b2, b3, h0, h1, part, this, hu]
theorem aDI (hT : dI P TI) {T : TypeId} (hk : (TI T).kd = 3) {cs : Array Value} {k : IntKind} {z : Int} (h0 : 0 <= z) (h1 : z < ((TI T).len : Int)) (hag : (TI T).yX = true) : (Instr.index T (.agg cs) (.int k z)).run P w = .ok (.agg (cs.extract (z.toNat * (TI T).elem) (z.toNat * (TI T).elem + (TI T).elem))) w := by
 obtain ⟨e, ie, b1, b2, b3⟩ := (hT T).arr hk
 have := (hT T).yX hag e b1 w
 simp [Instr.index, asIntOf, run_underlying b1, sizeOf, typeInfo, b2, b3, h0, h1, part, this]
theorem aq6 (t : TypeId) (p q : Array Value) : binOp .eql t (.agg p) (.agg q) = (do pure (.bool (<- Op.equal t (.agg p) (.agg q)))) := rfl
theorem arA (t : TypeId) (p q : Array Value) : binOp .neq t (.agg p) (.agg q) = (do pure (.bool (!(<- Op.equal t (.agg p) (.agg q))))) := rfl
theorem aq9 (t : TypeId) (p q : Option Addr) (n m k l : Nat) : binOp .eql t (.slice p n m) (.slice q k l) = (do pure (.bool (<- Op.equal t (.slice p n m) (.slice q k l)))) := rfl
theorem arD (t : TypeId) (p q : Option Addr) (n m k l : Nat) : binOp .neq t (.slice p n m) (.slice q k l) = (do pure (.bool (!(<- Op.equal t (.slice p n m) (.slice q k l))))) := rfl
theorem OC {op : BinOp} {T : TypeId} {ox oy : Operand} {u v : Value} (h1 : ∀ cs ds, u = .agg cs -> v = .agg ds -> False) (h2 : u ≠ .nilIface) : (eqGuard op T ox oy u v).run P w = .ok () w := by
 cases u <;> first
  | exact absurd rfl h2
  | (cases op <;> rfl)
  | (cases v <;> first | exact (h1 _ _ rfl rfl).elim | (cases op <;> rfl))
theorem arK (hT : dI P TI) {op : BinOp} {T : Nat} {x y z : TV} {b : Bool} (h : MQ TI (aA s.ob) op T x y = some (z, b)) (hb : b = true) {u v : Value} (hm : aI c F π s a w) (hu : VR w (Gz F w π (aA s.ob)) π (aA s.ob) x u) (hv : VR w (Gz F w π (aA s.ob)) π (aA s.ob) y v) (ox oy : Operand) :
  ∃ r, (do eqGuard op T ox oy u v; binOp op T u v : Sem Value).run P w = .ok r w /\ VR w (Gz F w π (aA s.ob)) π (aA s.ob) z r := by
 unfold MQ at h
 split at h
 ·rename_i k p k' q
  obtain rfl : u = .int k p := hu
  obtain rfl : v = .int k' q := hv
  split at h
  ·cases h
  split at h
  ·rename_i r hr
   obtain ⟨x', hx', he⟩ := Option.map_eq_some_iff.1 h
   simp only [bJ] at he
   obtain ⟨rfl, rfl⟩ := he
   refine ⟨r, ?_, Yg hx'⟩
   simp [OC (P := P) (w := w) (op := op) (T := T) (ox := ox) (oy := oy) (u := .int k p) (v := .int k' q) (by intro _ _ h; cases h) (by intro h; cases h), Yp hr w]
  ·cases h
 ·rename_i p q
  obtain rfl : u = .bool p := hu
  obtain rfl : v = .bool q := hv
  have hg := fun op => OC (P := P) (w := w) (op := op) (T := T) (ox := ox) (oy := oy) (u := .bool p) (v := .bool q) (by intro _ _ h; cases h) (by intro h; cases h)
  split at h
  ·simp only [aS, bJ] at h; obtain ⟨rfl, rfl⟩ := h
   exact ⟨_, by simp [hg, aq7, run_equal_bool ((hT T).bool hb)], rfl⟩
  ·simp only [aS, bJ] at h; obtain ⟨rfl, rfl⟩ := h
   exact ⟨.bool (!(p == q)), by simp [hg, arB, run_equal_bool ((hT T).bool hb)], rfl⟩
  ·cases h
 ·rename_i p q
  obtain rfl : u = .string ⟨⟨p⟩⟩ := hu
  obtain rfl : v = .string ⟨⟨q⟩⟩ := hv
  have hg := fun op => OC (P := P) (w := w) (op := op) (T := T) (ox := ox) (oy := oy) (u := .string ⟨⟨p⟩⟩) (v := .string ⟨⟨q⟩⟩) (by intro _ _ h; cases h) (by intro h; cases h)
  split at h <;> first
   | (simp only [aS, bJ] at h; obtain ⟨rfl, rfl⟩ := h; exact ⟨.bool (p == q), by simp [hg, binOp, Op.stringOp], rfl⟩)
   | (simp only [aS, bJ] at h; obtain ⟨rfl, rfl⟩ := h; exact ⟨.bool (!(p == q)), by simp [hg, binOp, Op.stringOp], rfl⟩)
   | (simp only [aS, bJ] at h; obtain ⟨rfl, rfl⟩ := h; exact ⟨.bool (Op.bytesLess p q), by simp [hg, binOp, Op.stringOp], rfl⟩)
   | (simp only [aS, bJ] at h; obtain ⟨rfl, rfl⟩ := h; exact ⟨.bool (Op.bytesLess p q || p == q), by simp [hg, binOp, Op.stringOp], rfl⟩)
   | (simp only [aS, bJ] at h; obtain ⟨rfl, rfl⟩ := h; exact ⟨.bool (!(Op.bytesLess p q || p == q)), by simp [hg, binOp, Op.stringOp], rfl⟩)
   | (simp only [aS, bJ] at h; obtain ⟨rfl, rfl⟩ := h; exact ⟨.bool (!Op.bytesLess p q), by simp [hg, binOp, Op.stringOp], rfl⟩)
   | cases h; done
   | skip
  all_goals
   simp only [aS, bJ] at h; obtain ⟨rfl, rfl⟩ := h
   simp only [fH] at hb
   refine ⟨.string (⟨⟨p⟩⟩ ++ ⟨⟨q⟩⟩), ?_, ?_⟩
   ·have := run_string_add_sum (P := P) (w := w) ⟨⟨p⟩⟩ ⟨⟨q⟩⟩ (by simpa [ByteArray.size] using hb)
    simp only [Sem.run_bind, hg, Result.andThen_ok, binOp_string_add, this]
   ·show Value.string (⟨⟨p⟩⟩ ++ ⟨⟨q⟩⟩) = .string ⟨⟨p ++ q⟩⟩
    congr 1
 ·rename_i t p t' q _ _ _
  split at h
  ·rename_i e
   subst e
   split at h
   ·simp only [aS, bJ] at h; obtain ⟨rfl, rfl⟩ := h
    simp only [fH] at hb
    obtain ⟨ha, heq⟩ := (hT T).eq _ hb
    obtain ⟨cs, rfl, _⟩ := (DT.oG ha).1 hu
    obtain ⟨ds, rfl, _⟩ := (DT.oG ha).1 hv
    obtain ⟨e1, e2⟩ := heq p q _ _ w _ .eql ox oy hu hv
    exact ⟨_, by simp [e1, aq6, e2], rfl⟩
   ·simp only [aS, bJ] at h; obtain ⟨rfl, rfl⟩ := h
    simp only [fH] at hb
    obtain ⟨ha, heq⟩ := (hT T).eq _ hb
    obtain ⟨cs, rfl, _⟩ := (DT.oG ha).1 hu
    obtain ⟨ds, rfl, _⟩ := (DT.oG ha).1 hv
    obtain ⟨e1, e2⟩ := heq p q _ _ w _ .neq ox oy hu hv
    exact ⟨_, by simp [e1, arA, e2], rfl⟩
   ·cases h
  ·cases h
 ·obtain rfl : v = .slice none 0 0 := hv
  split at h
  ·rename_i hk
   simp only [beq_iff_eq] at hk
   obtain ⟨e, ie, b1, _⟩ := (hT T).sl hk
   have hnil : ∀ r, x.isNil (aA s.ob) = some r -> ∃ p n k, u = .slice p n k /\ p.isNone = r := fun r hr => by
    cases x with
    | nl => obtain rfl : u = .slice none 0 0 := hu; exact ⟨none, 0, 0, rfl, by simpa [TV.isNil] using hr⟩
    | dv t y =>
     cases t with
     | fJ t =>
      have hu' := (DT.val_one rfl).1 (show (DT.fJ t).val y w _ u from hu)
      simp only [TV.isNil, aS] at hr
      cases y with
      | none => obtain rfl : u = .slice none 0 0 := hu'; exact ⟨none, 0, 0, rfl, hr⟩
      | some l =>
       obtain ⟨p, cap, rfl, _, _, _, hp, _⟩ := hu'
       refine ⟨p, _, _, rfl, ?_⟩
       cases p with
       | none => exact absurd rfl hp
       | some p => exact hr
     | _ => simp [TV.isNil] at hr
    | _ => simp [TV.isNil] at hr
   cases hx : x.isNil (aA s.ob) with
   | none => rw [hx] at h; cases op <;> simp at h
   | some r =>
    rw [hx] at h
    obtain ⟨p, n, k, rfl, hp⟩ := hnil r hx
    have hg := fun op => OC (P := P) (w := w) (op := op) (T := T) (ox := ox) (oy := oy) (u := .slice p n k) (v := .slice none 0 0) (by intro _ _ h; cases h) (by intro h; cases h)
    cases op <;> simp only [aS, bJ, reduceCtorEq] at h
    ·obtain ⟨rfl, rfl⟩ := h
     exact ⟨.bool p.isNone, by simp [hg, aq9, akU b1], by rw [hp]; rfl⟩
    ·obtain ⟨rfl, rfl⟩ := h
     exact ⟨.bool (!p.isNone), by simp [hg, arD, akU b1], by rw [hp]; rfl⟩
  ·cases h
 ·cases h
theorem ayI (hT : dI P TI) (hm : aI c F π s a w) {T : TypeId} {x y : TV} (h : JU (aA s.ob) (TI T) x = some y) {v : Value} (hv : VR w (Gz F w π (aA s.ob)) π (aA s.ob) x v) {ty : TypeId} :
  ∃ r, (Builtin.len_ #[T] ty #[v]).run P w = .ok r w /\ VR w (Gz F w π (aA s.ob)) π (aA s.ob) y r := by
 have hsl : (TI T).kd = 2 -> ∀ {p : Option Addr} {n cap : Nat}, v = .slice p n cap -> y = .dv (.int .i64) (n : Int) -> ∃ r, (Builtin.len_ #[T] ty #[v]).run P w = .ok r w /\ VR w (Gz F w π (aA s.ob)) π (aA s.ob) y r := fun hk p n cap hv' hy => by
  subst hv'; subst hy
  obtain ⟨e, ie, b1, _⟩ := (hT T).sl hk
  exact ⟨_, by simp [Builtin.len_, run_underlying b1, goInt], rfl⟩
 have hdata : (match x.data (aA s.ob) with | some ⟨_, l⟩ => some (TV.dv (.int .i64) (l.length : Int)) | none => none) = some y -> (TI T).kd = 2 -> ∃ r, (Builtin.len_ #[T] ty #[v]).run P w = .ok r w /\ VR w (Gz F w π (aA s.ob)) π (aA s.ob) y r := fun h hk => by
  split at h
  ·rename_i t l hd
   obtain rfl := aC h
   obtain ⟨p, cap, hv'⟩ := TV.asP hm hd hv
   exact hsl hk hv' rfl
  ·cases h
 unfold JU at h
 split at h
 ·split at h
  ·rename_i hk
   simp only [beq_iff_eq] at hk
   obtain rfl := aC h
   exact hsl hk (show v = _ from hv) rfl
  ·cases h
 ·rename_i l
  split at h
  ·rename_i hk
   obtain rfl := aC h
   obtain rfl : v = .string ⟨⟨l⟩⟩ := (DT.val_one (t := .str) rfl).1 hv
   refine ⟨.int .i64 (l.length : Int), ?_, rfl⟩
   simp [Builtin.len_, run_underlying ((hT T).string hk), goInt]
   rfl
  ·cases h
 ·rename_i id
  have hv0 := hv
  simp only [VR] at hv
  cases ho : aA s.ob id with
  | none => rw [ho] at hv; exact hv.elim
  | some o =>
   rw [ho] at hv h
   cases o with
   | map kt vt l =>
    simp only at h hv
    split at h
    ·rename_i hk
     obtain rfl := aC h
     obtain ⟨kv, hkv⟩ := Option.isSome_iff_exists.1 hk
     obtain ⟨g, hg, rfl⟩ := hv
     obtain ⟨g', es, ck, q1, q2, q3, _⟩ := hm.obj id _ ho
     rw [hg] at q1; obtain rfl := aC q1
     refine ⟨.int .i64 (l.length : Int), ?_, rfl⟩
     have hu := (hT T).map kv.1 kv.2 hkv
     have hgo : (getObj g).run P w = .ok (.map es ck) w := by simp [getObj, Sem.run, q2]
     simp [Builtin.len_, run_underlying hu, goInt, hgo, q3]
    ·cases h
   | row t l =>
    simp only at h
    split at h
    ·rename_i hk
     simp only [beq_iff_eq] at hk
     exact hdata (by simp only [TV.data, ho]; exact h) hk
    ·cases h
   | dG t l =>
    simp only at h
    split at h
    ·rename_i hk
     simp only [beq_iff_eq] at hk
     exact hdata (by simp only [TV.data, ho]; exact h) hk
    ·cases h
   | _ => cases h
 ·split at h
  ·rename_i hk
   simp only [beq_iff_eq] at hk
   exact hdata h hk
  ·cases h
theorem axE (hT : dI P TI) {T : TypeId} {x y : TV} {b : Bool} {z : Int} {k : IntKind} (h : Ur x z (TI T) = some (y, b)) (hb : b = true) {G : Nat -> Prop} {O : bF} {v : Value} (hv : VR w G π O x v) : ∃ v', (Instr.index T v (.int k z)).run P w = .ok v' w /\ VR w G π O y v' := by
 unfold Ur at h
 split at h
 ·rename_i n t l
  split at h
  ·rename_i hk
   simp only [bC, beq_iff_eq, Bool.not_eq_true'] at hk
   obtain ⟨⟨⟨⟨⟨k1, k2⟩, k3⟩, k4⟩, k5⟩, k6⟩ := hk
   simp only [aS, bJ] at h; obtain ⟨rfl, rfl⟩ := h
   simp only [fH] at hb
   obtain ⟨vs, rfl, h2, h3⟩ := (DT.oG (t := .arr n t) rfl).1 hv
   have hs := DT.O5 k4 k5
   have hzn : z.toNat < n := by omega
   obtain ⟨u, a1, a2, a3⟩ := h3 z.toNat (by show z.toNat < n * t.size; rw [hs]; omega)
   refine ⟨u, aDJ hT k1 hb.1 (by rw [k3]; exact hb.2) k6 (by rw [k2, hs, Nat.mul_one]; exact a1), ?_⟩
   refine (DT.val_one k4).2 ?_
   have : (DT.arr n t).cell l z.toNat w G u := a3
   simp only [DT.cell, hs, Nat.div_one, Nat.mod_one] at this
   exact this
  ·split at h
   ·rename_i hk
    simp only [bC, beq_iff_eq] at hk
    obtain ⟨⟨⟨⟨k1, k2⟩, k3⟩, k4⟩, k6⟩ := hk
    simp only [aS, bJ] at h; obtain ⟨rfl, rfl⟩ := h
    simp only [fH] at hb
    obtain ⟨vs, rfl, h2, h3⟩ := (DT.oG (t := .arr n t) rfl).1 hv
    have hzn : z.toNat < n := by omega
    have hm := agY (k := t.size) hzn
    have hsz : vs.size = n * t.size := h2
    refine ⟨_, aDI hT k1 hb.1 (by rw [k3]; exact hb.2) k6, ?_⟩
    rw [k2]
    refine (DT.oG k4).2 ⟨_, rfl, by simp; omega, fun j hj => ?_⟩
    have hpos : 0 < t.size := by omega
    obtain ⟨u, a1, a2, a3⟩ := h3 (z.toNat * t.size + j) (by show _ < n * t.size; omega)
    refine ⟨u, ?_, a2, ?_⟩
    ·rw [Array.getElem?_extract, if_pos (by omega)]; exact a1
    ·have q : (DT.arr n t).cell l (z.toNat * t.size + j) w G u := a3
     simp only [DT.cell] at q
     rw [show z.toNat * t.size + j = j + z.toNat * t.size by omega, Nat.add_mul_div_right _ _ hpos, Nat.add_mul_mod_self_right, Nat.div_eq_of_lt hj, Nat.mod_eq_of_lt hj, Nat.zero_add] at q
     exact q
   ·cases h
 ·rename_i l
  obtain rfl : v = .string ⟨⟨l⟩⟩ := (DT.val_one (t := .str) rfl).1 hv
  split at h
  ·rename_i hk
   simp only [aS, bJ] at h; obtain ⟨rfl, rfl⟩ := h
   simp only [fH] at hb
   have hlt : z.toNat < l.length := by omega
   refine ⟨.int .u8 (((l.getD z.toNat 0).toNat : Nat) : Int), ?_, rfl⟩
   have e3 : (ByteArray.mk ⟨l⟩)[z.toNat]? = some (l.getD z.toNat 0) := by
    have h1 : z.toNat < (ByteArray.mk ⟨l⟩).size := hlt
    rw [getElem?_pos (ByteArray.mk ⟨l⟩) z.toNat h1]
    congr 1
    show l[z.toNat] = _
    simp [hlt]
   simp [Instr.index, asIntOf, run_underlying ((hT T).string hk), hb.1, e3]
  ·cases h
 ·cases h
set_option maxHeartbeats 1000000 in
theorem aG3 (hT : dI P TI) {o : Oper} {x : TV} {b : Bool} (hp : iO TI s.ev (aA s.ob) o.op = some (x, b)) (hb : b = true) (hm : aI c F π s a w) :
  ∃ v, (execOp a.eval o).run P w = .ok (.value v) w /\ VR w (Gz F w π (aA s.ob)) π (aA s.ob) x v := by
 obtain ⟨dst, op, ty, pos, after, guard⟩ := o
 simp only at hp
 have hev := fun x => hm.ev x
 cases op with
 | move y => simp only [iO, aS, bJ] at hp; obtain ⟨rfl, rfl⟩ := hp; exact ⟨_, rfl, hev y⟩
 | assign y => simp only [iO, aS, bJ] at hp; obtain ⟨rfl, rfl⟩ := hp; exact ⟨_, rfl, hev y⟩
 | nilCheck y =>
  simp only [iO] at hp
  have hy := hev y
  split at hp
  ·rename_i id i p he
   rw [he] at hy
   split at hp
   ·rename_i o ho
    split at hp
    ·rename_i hl
     simp only [aS, bJ] at hp; obtain ⟨rfl, rfl⟩ := hp
     have hy' := hy
     simp only [VR, ho] at hy
     obtain ⟨k, g, _, _, _, hv⟩ := hy hl
     exact ⟨_, by simp [execOp, hv], hv ▸ hy'⟩
    ·cases hp
   ·cases hp
  ·rename_i t z p he
   rw [he] at hy
   simp only [aS, bJ] at hp; obtain ⟨rfl, rfl⟩ := hp
   obtain ⟨b0, o, L, _, _, hv, _⟩ := id hy
   exact ⟨_, by simp [execOp, hv], hv ▸ hy⟩
  ·rename_i g k n f he
   rw [he] at hy
   simp only [aS, bJ] at hp; obtain ⟨rfl, rfl⟩ := hp
   obtain ⟨fs, cs, hv, _⟩ := id hy
   exact ⟨_, by simp [execOp, hv], hv ▸ hy⟩
  ·cases hp
 | binOp bo t y z t2 =>
  simp only [iO] at hp
  obtain ⟨r, h1, h2⟩ := arK hT hp hb hm (hev y) (hev z) y z
  exact ⟨r, eP (e := do eqGuard bo t y z (a.eval y) (a.eval z); binOp bo t (a.eval y) (a.eval z)) rfl h1, h2⟩
 | unOp uo t y =>
  simp only [iO] at hp
  have hy := hev y
  split at hp
  ·rename_i k n he
   rw [he] at hy
   split at hp
   ·rename_i r hr
    obtain ⟨x', hx', he'⟩ := Option.map_eq_some_iff.1 hp
    simp only [bJ] at he'
    obtain ⟨rfl, rfl⟩ := he'
    have hy' : a.eval y = .int k n := hy
    exact ⟨r, by simp [execOp, hy', Yp hr w], Yg hx'⟩
   ·cases hp
  ·rename_i n he
   rw [he] at hy
   split at hp
   ·rename_i r hr
    obtain ⟨x', hx', he'⟩ := Option.map_eq_some_iff.1 hp
    simp only [bJ] at he'
    obtain ⟨rfl, rfl⟩ := he'
    have hy' : a.eval y = .bool n := hy
    exact ⟨r, by simp [execOp, hy', Yp hr w], Yg hx'⟩
   ·cases hp
  ·cases hp
 | convert src dst y =>
  simp only [iO] at hp
  have hy := hev y
  split at hp
  ·rename_i k n k1 k2 he hd hs
   rw [he] at hy
   simp only [aS, bJ] at hp; obtain ⟨rfl, rfl⟩ := hp
   refine ⟨_, ?_, rfl⟩
   have hy' : a.eval y = .int k n := hy
   simp [execOp, hy', convert, run_underlying ((hT src).int _ hs), run_underlying ((hT dst).int _ hd), Conv.intToInt]
  ·cases hp
 | extract y i =>
  simp only [iO] at hp
  have hy := hev y
  split at hp
  ·rename_i n f he
   rw [he] at hy
   split at hp
   ·rename_i hi
    simp only [aS, bJ] at hp; obtain ⟨rfl, rfl⟩ := hp
    obtain ⟨vs, h1, h2, h3⟩ := hy
    obtain ⟨u, h4, h5⟩ := h3 i hi
    exact ⟨u, by simp [execOp, h1, Instr.extract, h4], h5⟩
   ·cases hp
  ·cases hp
 | load T y =>
  simp only [iO] at hp
  obtain ⟨x', hx', he'⟩ := Option.map_eq_some_iff.1 hp
  simp only [bJ] at he'
  obtain ⟨rfl, rfl⟩ := he'
  obtain ⟨v, h1, h2⟩ := TV.agD hT hm hx' (hev y)
  exact ⟨v, eP (e := Instr.loadAt T (a.eval y)) rfl h1, h2⟩
 | indexAddr T y i =>
  simp only [iO] at hp
  have hi := hev i
  split at hp
  ·rename_i k z he
   rw [he] at hi
   have hi' : a.eval i = .int k z := hi
   obtain ⟨v, h1, h2⟩ := TV.aw8 (k := k) hT hm hp hb (hev y)
   exact ⟨v, eP (e := Instr.indexAt T (a.eval y) (a.eval i)) rfl (by rw [hi']; exact h1), h2⟩
  ·cases hp
 | fieldAddr T y i =>
  simp only [iO] at hp
  obtain ⟨x', hx', he'⟩ := Option.map_eq_some_iff.1 hp
  simp only [bJ] at he'
  obtain ⟨rfl, rfl⟩ := he'
  obtain ⟨v, h1, h2⟩ := TV.auZ hT hm hx' (hev y)
  exact ⟨v, eP (e := Instr.fieldAt T (a.eval y) i) rfl h1, h2⟩
 | index T y i =>
  simp only [iO] at hp
  have hi := hev i
  split at hp
  ·rename_i k z he
   rw [he] at hi
   have hi' : a.eval i = .int k z := hi
   obtain ⟨v, h1, h2⟩ := axE (k := k) hT hp hb (hev y)
   exact ⟨v, eP (e := Instr.index T (a.eval y) (a.eval i)) rfl (by rw [hi']; exact h1), h2⟩
  ·cases hp
 | makeFunc fn first caps =>
  simp only [iO] at hp
  split at hp
  ·rename_i g
   simp only [aS, bJ] at hp; obtain ⟨rfl, rfl⟩ := hp
   refine ⟨.func (.func g) (first.map a.eval) (caps.map a.eval), eP (e := Instr.makeFunc (.func g) (first.map a.eval) (caps.map a.eval)) (by simp [execOp]) rfl, _, _, rfl, by simp, by simp, fun i hi => ?_, fun i hi => ?_⟩
   ·refine ⟨a.eval first[i], by simp [hi], ?_⟩
    have : ((first ++ caps).toList.map s.ev).getD i .any = s.ev first[i] := by
     simp [List.getD, List.getElem?_append_left, hi]
    show VR w _ π _ (((first ++ caps).toList.map s.ev).getD i .any) _
    rw [this]; exact hev _
   ·refine ⟨a.eval caps[i], by simp [hi], ?_⟩
    have : ((first ++ caps).toList.map s.ev).getD (first.size + i) .any = s.ev caps[i] := by
     simp [List.getD, hi]
    show VR w _ π _ (((first ++ caps).toList.map s.ev).getD (first.size + i) .any) _
    rw [this]; exact hev _
  ·cases hp
 | call cl =>
  simp only [iO] at hp
  obtain ⟨callee, args, ats⟩ := cl
  simp only at hp
  split at hp
  ·rename_i y T hxs hts
   have ha : args = #[y] := by apply Array.ext'; simpa using hxs
   have ht : ats = #[T] := by apply Array.ext'; simpa using hts
   subst ha; subst ht
   obtain ⟨x', hx', he'⟩ := Option.map_eq_some_iff.1 hp
   simp only [bJ] at he'
   obtain ⟨rfl, rfl⟩ := he'
   obtain ⟨r, h1, h2⟩ := ayI (ty := ty) hT hm hx' (hev y)
   exact ⟨r, eP (e := Builtin.len_ #[T] ty #[a.eval y]) (by rw [BigFrame.execOp_builtin, BigFrame.builtin_len]; simp) h1, h2⟩
  ·cases hp
 | _ => simp [iO] at hp
end
end
end Go.Proofs.YtfopcfnggdonkaaGreatDoor
