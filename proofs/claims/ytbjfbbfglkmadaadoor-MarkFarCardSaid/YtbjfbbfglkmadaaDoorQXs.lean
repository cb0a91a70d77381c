/-
 Lifting Go functions to plain Lean functions, part Xs: slices.Sort, of the kit's shelf, as a contract.
-/
import Derived.Test.YtbjfbbfglkmadaaDoorYD
import Derived.Sort.Grow
import Derived.Shelf.Sort.Plain
import Derived.Shelf.Slices.In.SortNone
namespace Go.Proofs.YtbjfbbfglkmadaaDoor
open Go.RowKit
set_option linter.unusedVariables false

theorem turned {w w' : World} {g q : Nat} {d : Array Int} {n : Nat} {os : Array Obj} {cur : Array Value} {e : TypeId} (h : w' = Go.Sort.grow (Go.Sort.putRow (Value.int .i64) (Go.Sort.ahead w n) g q d) os) (hg0 : Blk w g cur e) :
  Blk w' g (Go.Sort.putCells (Value.int .i64) q d cur) e ∧ (∀ b, b ≠ g → b < w.heap.size → w'.heap[b]? = w.heap[b]?) ∧ w.heap.size ≤ w'.heap.size ∧ w'.os = w.os ∧ w'.tape = w.tape ∧ w'.output = w.output := by
 subst h
 obtain ⟨z, hg, hz⟩ := hg0
 have hlt := (Array.getElem?_eq_some_iff.1 hg).1
 refine ⟨⟨z, ?_, by rcases hz with hz | hz; exact .inl hz; exact .inr (by simpa [Go.Sort.putCells] using hz)⟩, fun b hb hs => ?_, ?_, rfl, rfl, rfl⟩
 ·simp only [Go.Sort.grow, Go.Sort.putRow, Go.Sort.mapBlock, Go.Sort.ahead]
  rw [Array.getElem?_append_left (by simpa using hlt), Array.getElem?_modify, if_pos rfl, hg]
  rfl
 ·simp only [Go.Sort.grow, Go.Sort.putRow, Go.Sort.mapBlock, Go.Sort.ahead]
  rw [Array.getElem?_append_left (by simpa using hs), Array.getElem?_modify, if_neg (fun e => hb e.symm)]
 ·simp [Go.Sort.grow, Go.Sort.putRow, Go.Sort.mapBlock, Go.Sort.ahead]

theorem putCells_at {q : Nat} {d : Array Int} {cur : Array Value} (hfit : q + d.size ≤ cur.size) {j : Nat} (hj : j < d.size) : (Go.Sort.putCells (Value.int .i64) q d cur)[q + j]? = some (.int .i64 d[j]!) := by
 simp only [Go.Sort.putCells, Array.getElem?_mapIdx]
 rw [Array.getElem?_eq_getElem (by omega)]
 simp only [Option.map_some, Nat.le_add_right, true_and]
 rw [if_pos (by omega), Nat.add_sub_cancel_left]

theorem holds_of {w : World} {g q : Nat} {l : List Int} {cur : Array Value} {e : TypeId} (hg : Blk w g cur e) (h : ∀ i, i < l.length → cur[q + i]? = some (.int .i64 (l.getD i 0))) : Go.Sort.Holds (Value.int .i64) w g q l.toArray := fun j hj => by
 have hj' : j < l.length := by simpa using hj
 have h1 := h j hj'
 obtain ⟨z, hg, hz⟩ := hg
 have hlt := (Array.getElem?_eq_some_iff.1 h1).1
 obtain ⟨lo, hi⟩ := z
 refine ⟨?_, ?_⟩
 ·simp only [World.cell?, hg, h1]
  simp [hj']
 ·simp only [World.frozen?, hg]
  rcases hz with hz | hz
  ·obtain ⟨rfl, rfl⟩ := Prod.mk.inj hz; simp
  ·have : lo ≤ q + j → False := fun h => by simp only at hz; omega
   simp only [Bool.and_eq_false_iff, decide_eq_false_iff_not]; exact .inl this

theorem tlook_one {o : TO} {id : Nat} {o1 : TO} (h : tlook [(9000, o)] id = some o1) : id = 9000 ∧ o1 = o := by
 simp only [tlook] at h
 split at h
 ·rename_i e; exact ⟨e, (oij h).symm⟩
 ·cases h

/-- A call that turns a row in place. -/
theorem sort_ok {P : Program} {f : FuncId} {l l' : List Int} (hlen : l'.length = l.length) (hent : ∀ (xs : Array Value) (w : World), (callFunc f xs).run P w = .ok (.enter f xs) w)
  (h : ∀ (blk off cap : Nat) (w : World), Go.Sort.Holds (Value.int .i64) w blk off l.toArray → blk < w.heap.size → Calls P f #[.slice (some ⟨blk, off, none⟩) l.length cap] w fun e w' => e = .returned (.tuple #[]) ∧ ∃ n os, w' = Go.Sort.grow (Go.Sort.putRow (Value.int .i64) (Go.Sort.ahead w n) blk off l'.toArray) os)
  (h0 : ∀ (p : Option Addr) (cap : Nat) (w : World), Calls P f #[.slice p 0 cap] w fun e w' => e = .returned (.tuple #[]) ∧ w' = w) (fn : Nat → TV) :
  HSpec P f [.row 9000] [(9000, .row (.int .i64) l)] fun r O => r = .tup 0 fn ∧ O = [(9000, .row (.int .i64) l')] := by
 refine ⟨hent, fun w F π vs hvl hF hfr hv _ => ?_⟩
 obtain ⟨v, rfl⟩ : ∃ v, vs = [v] := by
  match vs, hvl with
  | [v], _ => exact ⟨v, rfl⟩
 have hv0 : VR w (Gz F w π (tlook [(9000, .row (.int .i64) l)])) π (tlook [(9000, .row (.int .i64) l)]) (.row 9000) v := hv 0 _ _ rfl rfl
 have hvr : v = (π 9000).hdr l.length := by simpa [VR, tlook] using hv0
 have ho := hfr.obj 9000 (.row (.int .i64) l) (by simp [tlook])
 have own : ∀ {o : TO} {id g : Nat}, Own π (tlook [(9000, o)]) id g → id = 9000 := fun ⟨o1, h1, _⟩ => (tlook_one h1).1
 have ownT : ∀ {l1 l2 : List Int} {id g : Nat}, Own π (tlook [(9000, .row (.int .i64) l1)]) id g → Own π (tlook [(9000, .row (.int .i64) l2)]) id g := fun {l1 l2 id g} ⟨o1, k1, k2⟩ => by
  obtain ⟨rfl, rfl⟩ := tlook_one k1
  exact .of (k2.g rfl) (o := .row (.int .i64) l2) (by simp [tlook]) rfl
 rcases ho with ⟨h1, h2⟩ | ⟨g, cur, e, h1, h2, h3, h4, h5, h6⟩
 ·subst h2
  have e' : l' = [] := List.eq_nil_of_length_eq_zero (by simpa using hlen)
  subst e'
  have hv2 : v = .slice none 0 0 := by rw [hvr]; simp [Pl.hdr, h1]
  subst hv2
  refine (h0 none 0 w).mono fun e w' ⟨he, hw⟩ => ?_
  subst hw
  refine ⟨.tup 0 fn, .tuple #[], [(9000, .row (.int .i64) [])], π, he, ⟨rfl, rfl⟩, ⟨fun id o hid => ?_, fun i j g hi hj => (own hi).trans (own hj).symm, fun id g hid => ?_⟩, ⟨#[], rfl, rfl, fun j hj => absurd hj (by omega)⟩, fun id o hid => ?_, fun id g hid => .inl ⟨id, hid⟩, ⟨rfl, rfl, rfl, Nat.le_refl _, fun b hb _ => by simp [Cx.blk], fun b hb => by cases hb⟩⟩
  ·obtain ⟨rfl, rfl⟩ := tlook_one hid
   exact .inl ⟨h1, rfl⟩
  ·obtain ⟨o1, k1, k2⟩ := hid
   obtain ⟨rfl, rfl⟩ := tlook_one k1
   exact absurd (k2.g rfl) (by rw [h1]; simp)
  ·obtain ⟨rfl, rfl⟩ := tlook_one hid
   exact ⟨_, hid, fun _ => ⟨rfl, rfl, rfl⟩⟩
 ·have hv2 : v = .slice (some ⟨g, (π 9000).q, none⟩) l.length (π 9000).cap := by rw [hvr]; simp [Pl.hdr, h1]
  subst hv2
  have hsz : (DT.int .i64).size = 1 := rfl
  rw [hsz, Nat.mul_one] at h5
  have hgs : g < w.heap.size := by obtain ⟨z, k1, _⟩ := h2; exact (Array.getElem?_eq_some_iff.1 k1).1
  refine (h g (π 9000).q (π 9000).cap w (holds_of h2 fun i hi => ?_) hgs).mono fun e' w' ⟨he, n, os, hw⟩ => ?_
  ·obtain ⟨u, a1, a2, a3⟩ := h6 i hi 0 (by rw [hsz]; omega)
   rw [hsz] at a1
   have : u = .int .i64 (l.getD i 0) := a3
   rw [← this, ← a1]; congr 1; omega
  ·obtain ⟨t1, t2, t3, t4, t5, t6⟩ := turned hw h2
   refine ⟨.tup 0 fn, .tuple #[], [(9000, .row (.int .i64) l')], π, he, ⟨rfl, rfl⟩, ⟨fun id o hid => ?_, fun i j g hi hj => (own hi).trans (own hj).symm, fun id g' hid => ?_⟩, ⟨#[], rfl, rfl, fun j hj => absurd hj (by omega)⟩, fun id o hid => ?_, fun id g' hid => .inl ⟨id, ownT hid⟩, ⟨t4, t5, t6, t3, fun b hb _ => ?_, fun b hb => by cases hb⟩⟩
   ·obtain ⟨rfl, rfl⟩ := tlook_one hid
    refine .inr ⟨g, _, _, h1, t1, by omega, h4, by rw [hsz]; simp [Go.Sort.putCells]; omega, fun i hi c hc => ?_⟩
    rw [hsz] at hc ⊢
    obtain rfl : c = 0 := by omega
    refine ⟨.int .i64 (l'.getD i 0), ?_, rfl, rfl⟩
    have := putCells_at (cur := cur) (q := (π 9000).q) (d := l'.toArray) (by simp; omega) (j := i) (by simpa using hi)
    rw [Nat.mul_one, Nat.add_zero, this]
    simp [hi]
   ·have := hfr.new id g' (ownT hid)
    exact ⟨.inl this.1, by omega⟩
   ·obtain ⟨rfl, rfl⟩ := tlook_one hid
    exact ⟨.row (.int .i64) l', by simp [tlook], fun _ => ⟨rfl, rfl, hlen⟩⟩
   ·rcases hb with hb | hb | hb
    ·rw [Cx.blk, if_neg (by simp)]
     exact t2 b (fun e => hb.1 9000 (.of (e ▸ h1) (o := .row (.int .i64) l) (by simp [tlook]) rfl)) hb.2
    ·cases hb
    ·cases hb

end Go.Proofs.YtbjfbbfglkmadaaDoor
