/-
 The letters of a pile, opened one after another: a contract, by the library's contracts for strings.Builder.
-/
import Derived.Test.YtfopcfnggdonkaaGreatDoorFS
import Derived.WalkKit
import Derived.BigCall
namespace Go.Proofs.YtfopcfnggdonkaaGreatDoor
open Go.Proofs.Tryz
open Go.RowKit
set_option linter.unusedVariables false
abbrev Lf := List (Int × Bool)
abbrev PO (p0 : List Int) (p1 : List UInt8) (l : Lf) : List (Nat × TO) := [(9000, .aP [.dv (.arr 6 (.int .u64)) p0, .dv (.str) p1, .row 9001]), (9001, .map (.int .i64) (.bool) l)]
section
variable (a53 : Int -> List Int -> List UInt8 -> Lf -> Option (Int × Bool × List Int × List UInt8 × Lf)) (p0 : List Int) (p1 : List UInt8)
def DW (l : Lf) : Nat -> Int -> Option (Int × Int)
 | 0, _ => none
 | n + 1, k => match a53 k p0 p1 l with
  | some (i, is, q) => if q = (p0, p1, l) /\ k <= 250 then cond is (some (k, i)) (DW l n (k + 1)) else none
  | none => none
def y5 : Nat -> Lf -> List UInt8 -> Option (List UInt8)
 | 0, _, _ => none
 | n + 1, l, acc => if l.length = 0 then some acc else match DW a53 p0 p1 l 300 97 with
  | some (k, i) => if (rW (kt := .int .i64) (vt := .bool) l i).length < l.length then y5 n (rW (kt := .int .i64) (vt := .bool) l i) (acc ++ [UInt8.ofNat k.toNat]) else none
  | none => none
end
def I8 (a53 : Int -> List Int -> List UInt8 -> Lf -> Option (Int × Bool × List Int × List UInt8 × Lf)) (p0 : List Int) (p1 : List UInt8) (p2 : Lf) : Option (List UInt8 × List Int × List UInt8 × Lf) :=
 (y5 a53 p0 p1 1000 p2 []).map fun l => (l, p0, p1, [])
theorem EM {p0 : List Int} {p1 : List UInt8} {l : Lf} {id : Nat} {o : TO} (h : aA (PO p0 p1 l) id = some o) : (id = 9000 /\ o = .aP [.dv (.arr 6 (.int .u64)) p0, .dv (.str) p1, .row 9001]) \/ (id = 9001 /\ o = .map (.int .i64) (.bool) l) := by
 simp only [aA] at h
 split at h
 ·rename_i e; exact .inl ⟨e, (Option.some.inj h).symm⟩
 ·split at h
  ·rename_i e; exact .inr ⟨e, (Option.some.inj h).symm⟩
  ·cases h
theorem vC {π aI : Nat -> Pl} {p0 : List Int} {p1 : List UInt8} {l l' : Lf} (h0 : aI 9000 = π 9000) (h1 : aI 9001 = π 9001) {id g : Nat} (h : Own aI (aA (PO p0 p1 l')) id g) : Own π (aA (PO p0 p1 l)) id g := by
 obtain ⟨o, q2, q3, q1⟩ := h
 rcases EM q2 with ⟨rfl, rfl⟩ | ⟨rfl, rfl⟩
 ·exact ⟨_, rfl, rfl, h0 ▸ q1⟩
 ·exact ⟨_, rfl, rfl, h1 ▸ q1⟩
theorem Gg {F F' : Nat -> Prop} {W : World} {π aI : Nat -> Pl} {p0 : List Int} {p1 : List UInt8} {l : Lf} (h : Frame F W π (PO p0 p1 l)) (h0 : aI 9000 = π 9000) (h1 : aI 9001 = π 9001) (hF : ∀ id g, Own π (aA (PO p0 p1 l)) id g -> F' g) : Frame F' W aI (PO p0 p1 l) := by
 have hS : ∀ id, (id = 9000 \/ id = 9001) -> ∀ o, aA (PO p0 p1 l) id = some o -> aA (PO p0 p1 l) (id) = some (o.ren fun i => i) /\ aI id = π id := fun id hid o ho => by
  rcases EM ho with ⟨rfl, rfl⟩ | ⟨rfl, rfl⟩
  ·exact ⟨rfl, h0⟩
  ·exact ⟨rfl, h1⟩
 refine ⟨fun id o ho => ?_, fun i j g hi hj => h.inj i j g (vC h0 h1 hi) (vC h0 h1 hj), fun id g hi => ⟨hF id g (vC h0 h1 hi), (h.new id g (vC h0 h1 hi)).2⟩⟩
 have hsc : ∀ id o, (id = 9000 \/ id = 9001) -> aA (PO p0 p1 l) id = some o -> o.sc := fun id o _ ho => by
  rcases EM ho with ⟨rfl, rfl⟩ | ⟨rfl, rfl⟩
  ·intro j x hx
   match j with
   | 0 => simp at hx; subst hx; rfl
   | 1 => simp at hx; subst hx; rfl
   | 2 => simp at hx; subst hx; trivial
   | n + 3 => simp at hx
  ·exact ⟨rfl, rfl⟩
 have := OR.ren (ρ := fun i => i) (S := fun id => id = 9000 \/ id = 9001) (G2 := Gz F' W aI (aA (PO p0 p1 l))) hS (id := id) (o := o) (by rcases EM ho with ⟨rfl, _⟩ | ⟨rfl, _⟩; exact h0; exact h1) (.inr ⟨hsc id o (by rcases EM ho with ⟨rfl, _⟩ | ⟨rfl, _⟩; exact .inl rfl; exact .inr rfl) ho, hsc⟩) (by
  rcases EM ho with ⟨rfl, rfl⟩ | ⟨rfl, rfl⟩
  ·intro j x hx
   match j with
   | 0 => simp at hx; subst hx; trivial
   | 1 => simp at hx; subst hx; trivial
   | 2 => simp at hx; subst hx; exact .inr rfl
   | n + 3 => simp at hx
  ·trivial) (h.obj id o ho)
 rcases EM ho with ⟨rfl, rfl⟩ | ⟨rfl, rfl⟩
 ·exact this
 ·exact this
theorem Ff {F : Nat -> Prop} {W : World} {π : Nat -> Pl} {p0 : List Int} {p1 : List UInt8} {l : Lf} (h : Frame F W π (PO p0 p1 l)) : ∃ g0 g1 es ck, (π 9000).g = some g0 /\ (π 9001).g = some g1 /\ W.cell? ⟨g0, (π 9000).q + 7, none⟩ = some (.map (some g1)) /\ W.heap[g1]? = some (.map es ck) /\ es.size = l.length /\ g0 < W.heap.size /\ g1 < W.heap.size := by
 obtain ⟨g0, cur, e, a1, a2, a3⟩ := h.obj 9000 _ rfl
 obtain ⟨g1, es, ck, b1, b2, b3, _⟩ := h.obj 9001 _ rfl
 obtain ⟨u, c1, c2, c3⟩ := a3 2 (.row 9001) rfl 0 (by show 0 < 1; omega)
 have c4 : VR W (Gz F W π (aA (PO p0 p1 l))) π (aA (PO p0 p1 l)) (.row 9001) u := c3
 obtain ⟨g', d1, d2⟩ := (by simpa [VR, aA] using c4 : ∃ g, (π 9001).g = some g /\ u = .map (some g))
 rw [b1] at d1; obtain rfl := Option.some.inj d1
 refine ⟨g0, g1, es, ck, a1, b1, ?_, b2, b3, a2.1.lt, (Array.getElem?_eq_some_iff.1 b2).1⟩
 rw [oZ a2.1, <- d2, <- c1]
 rfl
theorem arB {P : Program} {TI : Nat -> TD} {c : Cx} {F : Nat -> Prop} {s : TS} {π : Nat -> Pl} {a : Act} {w : World} (hT : bW P TI) (hm : aF c F π s a w) {T id : Nat} {ats : Array TypeId} {ty : TypeId} (hT0 : ats[0]? = some T) {kt vt : DT} {l : List (kt.den × vt.den)} (ho : aA s.ob id = some (.map kt vt l)) (hk : (TI T).nC = some (kt, vt)) {m u : Value} (hv : VR w (Gz F w π (aA s.ob)) π (aA s.ob) (.row id) m) {x : kt.den} (hx : kt.val x w (Gz F w π (aA s.ob)) u) :
  ∃ w' g es' vT, (π id).g = some g /\ w' = { w with heap := w.heap.setIfInBounds g (.map es' vT) } /\ (∃ es0 ck0, w.heap[g]? = some (.map es0 ck0)) /\ (Builtin.delete_ ats ty #[m, u]).run P w = .ok (.tuple #[]) w' /\ aF c F π ⟨s.sl, (id, .map kt vt (rW l x)) :: s.ob⟩ a w' := by
 obtain ⟨k0, v0, i0, z0, hu, hkey, hi, hz0, hzz, hvp⟩ := (hT T).lI _ _ hk
 obtain ⟨g, es, ck, g1, g2, g3, g4, g5⟩ := hm.PI ho
 simp only [VR, ho] at hv
 obtain ⟨g', e1, rfl⟩ := hv
 rw [g1] at e1; obtain rfl := Option.some.inj e1
 have hf := ZT (P := P) hkey hx g3
 have DU := hkey.check x w _ u es.isEmpty hx
 obtain ⟨d1, d2⟩ := Sl (x := x) (l := l)
 cases hr : pO x l with
 | none =>
  rw [hr] at hf
  refine ⟨_, g, es, ck, g1, rfl, ⟨es, ck, g2⟩, ?_, by rw [d1 hr]; exact hm.IK ho g1 g2 g3 g4 g5⟩
  simp only [Builtin.delete_, hT0, List.getElem?_toArray, List.getElem?_cons_zero, List.getElem?_cons_succ, Sem.run_bind, run_underlying hu, Result.andThen_ok, MapKept.run_getObj_map g2, DU, hf, tV, MapKept.run_setObj_map _ g2]
  rfl
 | some j =>
  rw [hr] at hf
  have hlen : es.toList.length = l.length := g3.1
  have hbelow : ∀ i, (es.eraseIdxIfInBounds j)[i]? = es[if i < j then i else i + 1]? := fun i => by
   rw [<- Array.getElem?_toList, Array.toList_eraseIdxIfInBounds, List.getElem?_eraseIdx]
   split <;> simp
  refine ⟨{ w with heap := w.heap.setIfInBounds g (.map (es.eraseIdxIfInBounds j) ck) }, g, es.eraseIdxIfInBounds j, ck, g1, rfl, ⟨es, ck, g2⟩, ?_, ?_⟩
  ·simp only [Builtin.delete_, hT0, List.getElem?_toArray, List.getElem?_cons_zero, List.getElem?_cons_succ, Sem.run_bind, run_underlying hu, Result.andThen_ok, MapKept.run_getObj_map g2, DU, hf, tV, Nat.zero_add, MapKept.run_setObj_map _ g2]
   rfl
  ·rw [d2 j hr]
   refine hm.IK ho g1 g2 ⟨?_, fun i e p he hp => ?_⟩ (fun i e he => ?_) (fun i i' e e' he he' hb => ?_)
   ·rw [Array.toList_eraseIdxIfInBounds, List.length_eraseIdx, List.length_eraseIdx, hlen]
   ·rw [Array.toList_eraseIdxIfInBounds, List.getElem?_eraseIdx] at he
    rw [List.getElem?_eraseIdx] at hp
    by_cases q : i < j
    ·rw [if_pos q] at he hp; exact g3.2 _ e p he hp
    ·rw [if_neg q] at he hp; exact g3.2 _ e p he hp
   ·rw [hbelow] at he; exact g4 _ e he
   ·rw [hbelow] at he he'
    have := g5 _ _ e e' he he' hb
    split at this <;> split at this <;> omega
theorem aBS {F : Nat -> Prop} {W : World} {π : Nat -> Pl} {p0 : List Int} {p1 : List UInt8} {l : Lf} (hg : nZ W fun b => b < W.heap.size /\ ∀ id, ¬ Own π (aA (PO p0 p1 l)) id b) (h : Frame F W π (PO p0 p1 l)) {g1 : Nat} (h1 : (π 9001).g = some g1) (i : Int) (ats : Array TypeId) (ty : TypeId) (hT : ats[0]? = some 104) :
  ∃ W', (Builtin.delete_ ats ty #[.map (some g1), .int .i64 i]).run prog W = .ok (.tuple #[]) W' /\ Frame F W' π (PO p0 p1 (rW (kt := .int .i64) (vt := .bool) l i)) /\ (∀ b, b ≠ g1 -> W'.heap[b]? = W.heap[b]?) /\ W'.heap.size = W.heap.size /\ W'.os = W.os /\ W'.tape = W.tape /\ W'.output = W.output := by
 have htr : ∀ id g, Own π (aA (PO p0 p1 l)) id g -> True := fun _ _ _ => trivial
 have h' := Gg (F' := fun _ => True) (aI := π) h rfl rfl htr
 have hm : aF ⟨W, fun _ => False, fun _ => none, none, [], []⟩ (fun _ => True) π ⟨[], PO p0 p1 l⟩ ⟨#[], []⟩ W := by
  refine ⟨⟨rfl, rfl, rfl, Nat.le_refl _, fun b hb => ?_, fun b hb => (by cases hb)⟩, fun _ _ => trivial, rfl, rfl, fun i x hx => (by simp at hx), h'.obj, h'.inj, fun id g hi => ⟨fun hb => ?_, (h'.new id g hi).2⟩, fun id p o0 hp => (by cases hp), hg.mono fun b hb => ⟨⟨trivial, hb⟩, rfl⟩⟩
  ·rcases hb with hb | hb | hb
   ·exact hb.1.elim
   ·cases hb
   ·cases hb
  ·rcases hb with hb | hb | hb
   ·exact hb.1.elim
   ·cases hb
   ·cases hb
 obtain ⟨W', g, es', vT, q1, q2, ⟨es0, ck0, q3⟩, q4, q5⟩ := arB tok hm (ty := ty) hT (id := 9001) (kt := .int .i64) (vt := .bool) (l := l) rfl (by rfl) (m := .map (some g1)) (u := .int .i64 i) (by simp only [VR, aA]; exact ⟨g1, h1, rfl⟩) (x := i) ((DT.val_one (t := .int .i64) rfl).2 rfl)
 rw [h1] at q1; obtain rfl := Option.some.inj q1
 obtain ⟨r1, r2⟩ := MapKept.heap_set (o' := .map es' vT) q3
 refine ⟨W', q4, ?_, fun b hb => by rw [q2]; exact r2 b hb, by rw [q2]; simp, by rw [q2], by rw [q2], by rw [q2]⟩
 have hl : aA ((9001, .map (.int .i64) (.bool) (rW (kt := .int .i64) (vt := .bool) l i)) :: PO p0 p1 l) = aA (PO p0 p1 (rW (kt := .int .i64) (vt := .bool) l i)) := by
  funext id
  simp only [aA]
  by_cases e : id = 9001
  ·subst e; rfl
  ·simp only [if_neg e]
 have q6 := q5.obj
 have q7 := q5.inj
 have q8 := q5.new
 simp only [hl] at q6 q7 q8
 exact Gg (F := fun _ => True) ⟨q6, q7, fun id g hi => ⟨trivial, (q8 id g hi).2⟩⟩ rfl rfl fun id g hi => (h.new id g (vC rfl rfl hi)).1
theorem aaY {B b : Nat} {bs : List Value} {W W' : World} (h : Lib.IsBuilder 109 5 B b bs W) (hk : ∀ k, B <= k -> k < W.heap.size -> W'.heap[k]? = W.heap[k]?) : Lib.IsBuilder 109 5 B b bs W' := by
 have key : ∀ p, Lib.BuilderAt 109 5 B b p bs W -> Lib.BuilderAt 109 5 B b p bs W' := fun p ⟨h1, v, h2, h3, h4⟩ => by
  refine ⟨h1, v, (hk b h1 (Array.getElem?_eq_some_iff.1 h2).1).trans h2, ⟨h3.1, ?_⟩, h4⟩
  rcases h3.2 with h | ⟨g, cap, cur, a1, a2, a3, a4⟩
  ·exact .inl h
  ·exact .inr ⟨g, cap, cur, a1, a2, (hk g a2 (Array.getElem?_eq_some_iff.1 a3).1).trans a3, a4⟩
 exact h.imp (key _) (key _)
theorem atM {F : Nat -> Prop} {W W' : World} {π : Nat -> Pl} {p0 : List Int} {p1 : List UInt8} {l : Lf} (h : Frame F W π (PO p0 p1 l)) (hk : ∀ b, b < W.heap.size -> W'.heap[b]? = W.heap[b]?) (hs : W.heap.size <= W'.heap.size) : Frame F W' π (PO p0 p1 l) := by
 have fz : eH W (Gz F W π (aA (PO p0 p1 l))) W' (Gz F W' π (aA (PO p0 p1 l))) := fun b hb => ⟨⟨hb.1, Nat.lt_of_lt_of_le hb.2.1 hs, hb.2.2⟩, hk b hb.2.1⟩
 refine ⟨fun id o ho => (h.obj id o ho).jR ⟨fz, fun id o ho => ⟨o, ho, Step.refl o⟩⟩ rfl fun g hg => hk g (h.new id g ⟨o, ho, hg⟩).2, h.inj, fun id g hi => ⟨(h.new id g hi).1, Nat.lt_of_lt_of_le (h.new id g hi).2 hs⟩⟩
theorem ac6 {F : Nat -> Prop} {w W W' : World} {π : Nat -> Pl} {p0 : List Int} {p1 : List UInt8} {l0 l : Lf} (h0 : Frame F w π (PO p0 p1 l0)) (h : Frame F W π (PO p0 p1 l)) (hk : ∀ b, b < w.heap.size -> W'.heap[b]? = W.heap[b]?) (hs : W.heap.size <= W'.heap.size) (hF : ∀ b, F b -> b < w.heap.size) : Frame F W' π (PO p0 p1 l) := by
 have fz : eH W (Gz F W π (aA (PO p0 p1 l))) W' (Gz F W' π (aA (PO p0 p1 l))) := fun b hb => ⟨⟨hb.1, Nat.lt_of_lt_of_le hb.2.1 hs, hb.2.2⟩, hk b (hF b hb.1)⟩
 exact ⟨fun id o ho => (h.obj id o ho).jR ⟨fz, fun id o ho => ⟨o, ho, Step.refl o⟩⟩ rfl fun g hg => hk g (h0.new id g (vC rfl rfl ⟨o, ho, hg⟩)).2, h.inj, fun id g hi => ⟨(h.new id g hi).1, Nat.lt_of_lt_of_le (h.new id g hi).2 hs⟩⟩
structure Inv (F : Nat -> Prop) (w : World) (π : Nat -> Pl) (p0 : List Int) (p1 : List UInt8) (W : World) (l : Lf) (acc : List UInt8) : Prop where
 fr : Frame F W π (PO p0 p1 l)
 bl : Lib.IsBuilder 109 5 w.heap.size w.heap.size (Lib.byteCells acc) W
 os : W.os = w.os
 tape : W.tape = w.tape
 out : W.output = w.output
 size : w.heap.size <= W.heap.size
 old : ∀ b, b < w.heap.size -> (∀ id, ¬ Own π (aA (PO p0 p1 l)) id b) -> W.heap[b]? = w.heap[b]?
theorem aeB {F : Nat -> Prop} {w : World} {π : Nat -> Pl} {p0 : List Int} {p1 : List UInt8} {W : World} {l0 l : Lf} {acc : List UInt8} (h : Inv F w π p0 p1 W l acc) (hF : ∀ b, F b -> b < w.heap.size) (hg : nZ w (Gz F w π (aA (PO p0 p1 l0)))) : nZ W (Gz F W π (aA (PO p0 p1 l))) :=
 hg.mono fun b hb => ⟨⟨hb.1, Nat.lt_of_lt_of_le hb.2.1 h.size, fun id hid => hb.2.2 id (vC rfl rfl hid)⟩, h.old b hb.2.1 fun id hid => hb.2.2 id (vC rfl rfl hid)⟩
theorem atA {F : Nat -> Prop} {W : World} {π : Nat -> Pl} {p0 : List Int} {p1 : List UInt8} {l : Lf} (h : Frame F W π (PO p0 p1 l)) {g0 : Nat} (hg0 : (π 9000).g = some g0) (kk : Int) : ∀ (i : Nat) (x : TV) (v : Value), ([.ptr 9000 0 [], .dv (.int .u8) kk] : List TV)[i]? = some x -> ([.pointer (some ⟨g0, (π 9000).q, none⟩), .int .u8 kk] : List Value)[i]? = some v -> VR W (Gz F W π (aA (PO p0 p1 l))) π (aA (PO p0 p1 l)) x v := fun i x v hx hv => by
 match i with
 | 0 =>
  simp only [List.getElem?_cons_zero, Option.some.injEq] at hx hv
  subst hx; subst hv
  simp only [VR, aA, if_true]
  exact fun _ => ⟨0, g0, rfl, trivial, hg0, rfl⟩
 | 1 =>
  simp only [List.getElem?_cons_succ, List.getElem?_cons_zero, Option.some.injEq] at hx hv
  subst hx; subst hv
  exact (DT.val_one (t := .int .u8) rfl).2 rfl
 | n + 2 => simp at hx
theorem atD {w : World} {G : Nat -> Prop} {π : Nat -> Pl} {O : aZ} {j : Int} {b : Bool} {v : Value} (h : VR w G π O (.cZ 2 fun i => ([.dv (.int .i64) j, .dv (.bool) b] : List TV).getD i .any) v) : v = .tuple #[.int .i64 j, .bool b] := by
 obtain ⟨vs, rfl, h1, h2⟩ := h
 obtain ⟨v0, v1, rfl⟩ : ∃ v0 v1, vs = #[v0, v1] := by
  match vs, h1 with
  | ⟨[v0, v1]⟩, _ => exact ⟨v0, v1, rfl⟩
 obtain ⟨u, a1, a2⟩ := h2 0 (by omega)
 obtain ⟨u', b1, b2⟩ := h2 1 (by omega)
 obtain rfl : v0 = u := by simpa using a1
 obtain rfl : v1 = u' := by simpa using b1
 obtain rfl : v0 = .int .i64 j := (DT.val_one (t := .int .i64) rfl).1 a2
 obtain rfl : v1 = .bool b := (DT.val_one (t := .bool) rfl).1 b2
 rfl
theorem Ez {F : Nat -> Prop} {w : World} {π : Nat -> Pl} {p0 : List Int} {p1 : List UInt8} {l0 l : Lf} (hfr : Frame F w π (PO p0 p1 l0)) (hF : ∀ b, F b -> b < w.heap.size) {id g : Nat} (h : Own π (aA (PO p0 p1 l)) id g) : F g /\ g < w.heap.size :=
 let q := (hfr.new id g (vC rfl rfl h)).1
 ⟨q, hF g q⟩
theorem av' {F : Nat -> Prop} {w : World} {π aI : Nat -> Pl} {p0 : List Int} {p1 : List UInt8} {W W1 : World} {l0 l : Lf} {acc : List UInt8} (h : Inv F w π p0 p1 W l acc) (hfr : Frame F w π (PO p0 p1 l0)) (hF : ∀ b, F b -> b < w.heap.size) (hf : Frame (fun b => F b \/ W.heap.size <= b) W1 aI (PO p0 p1 l))
  (dR : ∀ (id : Nat) (o : TO), aA (PO p0 p1 l) id = some o -> ∃ o', aA (PO p0 p1 l) id = some o' /\ (o'.live = true -> aI id = π id /\ nK o o')) (hk : Kept ⟨W, fun b => ∀ id, ¬ Own π (aA (PO p0 p1 l)) id b, fun _ => none, none, [], []⟩ W1) : Inv F w π p0 p1 W1 l acc := by
 have e0 : π 9000 = aI 9000 := by
  obtain ⟨o', h1, h2⟩ := dR 9000 _ rfl
  obtain rfl : _ = o' := Option.some.inj ((show aA (PO p0 p1 l) 9000 = _ from rfl).symm.trans h1)
  exact (h2 rfl).1.symm
 have e1 : π 9001 = aI 9001 := by
  obtain ⟨o', h1, h2⟩ := dR 9001 _ rfl
  obtain rfl : _ = o' := Option.some.inj ((show aA (PO p0 p1 l) 9001 = _ from rfl).symm.trans h1)
  exact (h2 rfl).1.symm
 have hblk : ∀ b, b < W.heap.size -> (∀ id, ¬ Own π (aA (PO p0 p1 l)) id b) -> W1.heap[b]? = W.heap[b]? := fun b hb hno => (hk.block b (.inl ⟨hno, hb⟩) (by simp)).trans (if_neg (by simp))
 refine ⟨Gg hf e0 e1 fun id g hid => (Ez hfr hF (l := l) (vC e0.symm e1.symm hid)).1, aaY h.bl fun k hk1 hk2 => hblk k hk2 fun id hid => ?_, hk.os.trans h.os, hk.tape.trans h.tape, hk.output.trans h.out, Nat.le_trans h.size hk.size, fun b hb hno => (hblk b (Nat.lt_of_lt_of_le hb h.size) hno).trans (h.old b hb hno)⟩
 have := (Ez hfr hF hid).2
 omega
theorem awC {F : Nat -> Prop} {w : World} {π : Nat -> Pl} {p0 : List Int} {p1 : List UInt8} {W W1 : World} {l0 l : Lf} {acc : List UInt8} (h : Inv F w π p0 p1 W l acc) (hfr : Frame F w π (PO p0 p1 l0)) (hF : ∀ b, F b -> b < w.heap.size) {kk : Int} (h0 : 97 <= kk) (h1 : kk <= 250)
  (hb : Lib.BuilderAt 109 5 w.heap.size w.heap.size (.pointer (some ⟨w.heap.size, 0, none⟩)) (Lib.byteCells acc ++ [.int .u8 kk]) W1) (b2 : Below w.heap.size W W1) : Inv F w π p0 p1 W1 l (acc ++ [UInt8.ofNat kk.toNat]) := by
 refine ⟨ac6 hfr h.fr (fun b hb => b2.block b hb) b2.size hF, .inr ?_, b2.os.trans h.os, b2.tape.trans h.tape, b2.output.trans h.out, Nat.le_trans h.size b2.size, fun b hb hno => (b2.block b hb).trans (h.old b hb hno)⟩
 rw [Lib.byteCells_append]
 have e : Lib.byteCells [UInt8.ofNat kk.toNat] = [.int .u8 kk] := by
  have : ((UInt8.ofNat kk.toNat).toNat : Int) = kk := by
   rw [UInt8.toNat_ofNat']; omega
  simp only [Lib.byteCells, List.map_cons, List.map_nil, this]
 rw [e]; exact hb
theorem av9 {F : Nat -> Prop} {w : World} {π : Nat -> Pl} {p0 : List Int} {p1 : List UInt8} {W W1 : World} {l0 l l' : Lf} {acc : List UInt8} (h : Inv F w π p0 p1 W l acc) (hfr : Frame F w π (PO p0 p1 l0)) (hF : ∀ b, F b -> b < w.heap.size) {g1 : Nat} (hg1 : (π 9001).g = some g1)
  (hf : Frame F W1 π (PO p0 p1 l')) (hb : ∀ b, b ≠ g1 -> W1.heap[b]? = W.heap[b]?) (hs : W1.heap.size = W.heap.size) (ho : W1.os = W.os) (ht : W1.tape = W.tape) (hu : W1.output = W.output) : Inv F w π p0 p1 W1 l' acc := by
 have hown : Own π (aA (PO p0 p1 l')) 9001 g1 := ⟨_, rfl, rfl, .inl hg1⟩
 have hlt := (Ez hfr hF hown).2
 exact ⟨hf, aaY h.bl fun k hk _ => hb k (by omega), ho.trans h.os, ht.trans h.tape, hu.trans h.out, by rw [hs]; exact h.size, fun b hb' hno => (hb b fun e => hno 9001 (e ▸ hown)).trans (h.old b hb' fun id hid => hno id (vC rfl rfl hid))⟩
def Ed (w : World) (g : Nat) : Nat := match w.heap[g]? with
 | some (.map es _) => es.size
 | _ => 0
set_option maxHeartbeats 4000000 in
set_option maxRecDepth 1000000 in
theorem atF {a53 : Int -> List Int -> List UInt8 -> Lf -> Option (Int × Bool × List Int × List UInt8 × Lf)} (Ob : aC prog 51 (NV a53)) {p0 : List Int} {p1 : List UInt8} {l0 : Lf} {F : Nat -> Prop} {w : World} {π : Nat -> Pl} (hF : ∀ b, F b -> b < w.heap.size)
  (hfr : Frame F w π (PO p0 p1 l0)) (hgl : nZ w (Gz F w π (aA (PO p0 p1 l0)))) {g0 g1 : Nat} (hg0 : (π 9000).g = some g0) (hg1 : (π 9001).g = some g1) {ans : List UInt8} (hans : y5 a53 p0 p1 1000 l0 [] = some ans) :
  Calls prog 23 #[.pointer (some ⟨g0, (π 9000).q, none⟩)] w fun e W => e = .returned (.string ⟨⟨ans⟩⟩) /\ Frame F W π (PO p0 p1 []) /\ W.os = w.os /\ W.tape = w.tape /\ W.output = w.output /\ w.heap.size <= W.heap.size /\ ∀ b, b < w.heap.size -> (∀ id, ¬ Own π (aA (PO p0 p1 l0)) id b) -> W.heap[b]? = w.heap[b]? := by
 go_enter func23, Tryz.ntmps23
 go_wp2
 go_loopw [] (fun wr => ∃ (n : Nat) (l : Lf) (acc : List UInt8), Inv F w π p0 p1 wr l acc /\ y5 a53 p0 p1 n l acc = some ans /\ acc.length + n <= 1000) (fun wr => Ed wr g1)
 case atStart =>
  have hold : ∀ b, b < w.heap.size -> (w.alloc (.cells #[.pointer none, .slice none 0 0] 109)).heap[b]? = w.heap[b]? := fun b hb => Below.heap_alloc _ _ _ hb
  refine ⟨1000, l0, [], ⟨atM hfr (fun b hb => hold b hb) (by simp), Lib.fresh_isBuilder 109 5 w, rfl, rfl, rfl, by simp, fun b hb _ => hold b hb⟩, hans, by simp⟩
 case round =>
  obtain ⟨n, l, acc, hI, hn, hal⟩ := hrel
  obtain ⟨g0', g1', es, ck, e0, e1, hc7, hmap, hes, hlt0, hlt1⟩ := Ff hI.fr
  rw [hg0] at e0; obtain rfl := Option.some.inj e0
  rw [hg1] at e1; obtain rfl := Option.some.inj e1
  have hL : (Builtin.len_ #[104] 3 #[.map (some g1)]).run prog wr = .ok (.int .i64 (l.length : Int)) wr := by
   simp [Builtin.len_, run_underlying underlying104, MapKept.run_getObj_map hmap, goInt, hes]
  have hml : Ed wr g1 = l.length := by unfold Ed; rw [hmap]; exact hes
  obtain ⟨n', rfl⟩ : ∃ n', n = n' + 1 := by
   cases n with
   | zero => simp [y5] at hn
   | succ n' => exact ⟨n', rfl⟩
  by_cases hl : l.length = 0
  ·-- all are opened
   obtain rfl := List.eq_nil_of_length_eq_zero hl
   simp only [y5, List.length_nil, if_true, Option.some.injEq] at hn
   subst hn
   go_wp2_with (go_at_call 53; refine (Tryz.Builder_String_any w.heap.size w.heap.size acc wr hI.bl hI.size).mono ?_)
   rintro e W1 rfl b1
   go_wp2
   go_ret
   refine ⟨rfl, ?_, b1.os.trans hI.os, b1.tape.trans hI.tape, b1.output.trans hI.out, Nat.le_trans hI.size b1.size, fun b hb hno => (b1.block b hb).trans (hI.old b hb fun id hid => hno id (vC rfl rfl hid))⟩
   exact ac6 hfr hI.fr (fun b hb => b1.block b hb) b1.size hF
  ·cases hin : DW a53 p0 p1 l 300 97 with
   | none => simp [y5, hl, hin] at hn
   | some ki =>
    obtain ⟨kf, jf⟩ := ki
    simp only [y5, hl, if_false, hin] at hn
    split at hn
    ·rename_i hdl
     go_wp2
     go_loopw [4] (fun k wr2 => ∃ (m : Nat) (kk : Int), k = .int .u8 kk /\ 97 <= kk /\ DW a53 p0 p1 l m kk = some (kf, jf) /\ Inv F w π p0 p1 wr2 l acc) (fun k _ => 300 - (intOf k).toNat)
     case atStart =>
      exact ⟨300, 97, rfl, by omega, hin, hI⟩
     case round =>
      obtain ⟨m, kk, rfl, hkk, hm, hI2⟩ := hrel
      obtain ⟨m', rfl⟩ : ∃ m', m = m' + 1 := by
       cases m with
       | zero => simp [DW] at hm
       | succ m' => exact ⟨m', rfl⟩
      simp only [DW] at hm
      split at hm
      ·rename_i jj is q h5
       split at hm
       ·rename_i hq
        obtain ⟨rfl, avM⟩ := hq
        have hsp := Ob [.ptr 9000 0 [], .dv (.int .u8) kk] (PO p0 p1 l) (jj, is, p0, p1, l) h5
        have avL := aeB hI2 hF hgl
        go_wp2_with (go_at_call 51; refine (hsp.calls wr F π [.pointer (some ⟨g0, (π 9000).q, none⟩), .int .u8 kk] rfl (fun b hb => Nat.lt_of_lt_of_le (hF b hb) hI2.size) hI2.fr (atA hI2.fr hg0 kk) avL).mono ?_)
        rintro e W1 ⟨r, v, O', aI, rfl, ⟨rfl, rfl⟩, hf', hv', dR, hown, hk⟩
        have ZZ := av' hI2 hfr hF hf' dR hk
        obtain rfl := atD hv'
        cases is with
        | true =>
         simp only [cond_true, Option.some.injEq, Prod.mk.injEq] at hm
         obtain ⟨rfl, rfl⟩ := hm
         go_wp2_with (go_at_call 52; refine (Tryz.Builder_WriteByte w.heap.size w.heap.size (Lib.byteCells acc) kk W1 ZZ.bl (by rw [Lib.byteCells_length]; omega) ZZ.size).mono ?_)
         rintro e W2 ⟨rfl, hb, b2⟩
         have Z4 := awC ZZ hfr hF hkk avM hb b2
         obtain ⟨g0', g1', es', vT, e0', e1', aIG, hmap', hes', aIK, aIM⟩ := Ff Z4.fr
         rw [hg0] at e0'; obtain rfl := Option.some.inj e0'
         rw [hg1] at e1'; obtain rfl := Option.some.inj e1'
         obtain ⟨W3, hdel, hf3, hb3, hs3, ho3, ht3, hu3⟩ := aBS ((aeB Z4 hF hgl).mono fun b hb => ⟨hb.2, rfl⟩) Z4.fr hg1 jj #[104, 3] 0 rfl
         have hI5 := av9 Z4 hfr hF hg1 hf3 hb3 hs3 ho3 ht3 hu3
         obtain ⟨g0', g1', es3, ck3, e0', e1', aIH, avS, hes3, aIL, aIN⟩ := Ff hI5.fr
         rw [hg1] at e1'; obtain rfl := Option.some.inj e1'
         go_wp2
         go_roundw
         case rel => exact ⟨n', _, _, hI5, hn, by simp; omega⟩
         case measure =>
          rw [hml]
          unfold Ed
          rw [avS]
          show es3.size < _
          rw [hes3]; exact hdl
        | false =>
         simp only [cond_false] at hm
         go_wp2
         go_roundw
         case rel => exact ⟨m', kk + 1, rfl, by omega, hm, ZZ⟩
         case measure => simp [intOf]; omega
       ·cases hm
      ·cases hm
    ·cases hn
theorem asP (xs : Array Value) (w : World) : (callFunc 23 xs).run prog w = .ok (.enter 23 xs) w := enters_of func23 (by kernel_rfl) rfl xs w
theorem aAG {a53 : Int -> List Int -> List UInt8 -> Lf -> Option (Int × Bool × List Int × List UInt8 × Lf)} (Ob : aC prog 51 (NV a53)) : aC prog 23 (TZ (I8 a53)) := by
 intro args Of r hx
 simp only [TZ] at hx
 split at hx
 ·rename_i p0 p1 p2
  unfold I8 at hx
  obtain ⟨ans, hans, rfl⟩ := Option.map_eq_some_iff.1 hx
  refine ⟨asP, fun w F π vs hvl hF hfr hv hgl => ?_⟩
  obtain ⟨v, rfl⟩ : ∃ v, vs = [v] := by
   match vs, hvl with
   | [v], _ => exact ⟨v, rfl⟩
  have hv0 := hv 0 _ _ rfl rfl
  have BA : Frame F w π (PO p0 p1 p2) := hfr
  obtain ⟨g0, g1, es, ck, e0, e1, hc7, hmap, hes, hlt0, hlt1⟩ := Ff BA
  simp only [VR, aA, if_true] at hv0
  obtain ⟨c, g, q1, _, q3, rfl⟩ := hv0 rfl
  have q1' : (some 0 : Option Nat) = some c := q1
  obtain rfl := Option.some.inj q1'
  rw [e0] at q3; obtain rfl := Option.some.inj q3
  refine (atF Ob hF BA hgl e0 e1 hans).mono fun e W ⟨he, hf, ho, ht, hu, hs, hold⟩ => ?_
  subst he
  refine ⟨.dv .str ans, _, PO p0 p1 [], π, rfl, ⟨rfl, rfl⟩, Gg hf rfl rfl fun id g hid => .inl (Ez BA hF hid).1, (DT.val_one (t := .str) rfl).2 rfl, fun id o ho => ?_, fun id g hid => .inl ⟨id, vC rfl rfl hid⟩, ⟨ho, ht, hu, hs, fun b hb _ => ?_, fun b hb => (by cases hb)⟩⟩
  ·rcases EM ho with ⟨rfl, rfl⟩ | ⟨rfl, rfl⟩
   ·exact ⟨_, rfl, fun _ => ⟨rfl, nK.refl rfl rfl⟩⟩
   ·exact ⟨_, rfl, fun _ => ⟨rfl, trivial⟩⟩
  ·rcases hb with hb | hb | hb
   ·rw [Cx.blk, if_neg (by simp)]; exact hold b hb.2 hb.1
   ·cases hb
   ·cases hb
 ·cases hx
end Go.Proofs.YtfopcfnggdonkaaGreatDoor
