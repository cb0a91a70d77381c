/-
 Logs of inks that commute: what a log makes of a colour, and of a set of colours, in plain Lean.
-/
import Derived.Test.YtfopcfnggdonkaaGreatDoorL4
import Derived.Test.YtfopcfnggdonkaaGreatDoorJ3
namespace Go.Proofs.YtfopcfnggdonkaaGreatDoor
open Go.RowKit
set_option linter.unusedVariables false
theorem acQ {o : Of} (h0 : iG o = 0) : ∀ {ls : List Wd}, (∀ l ∈ ls, l.length <= 14 /\ Ls o l) -> oK o ls = 0 := by
 intro ls h
 unfold oK
 rw [if_pos h0]
 induction ls with
 | nil => rfl
 | cons l r ih =>
  obtain ⟨a, b⟩ := h l (by simp)
  have e : DN o.1 l = 0 := by
   unfold DN
   rw [if_neg (by omega), if_pos (show BV o.1 l = true from List.all_eq_true.2 fun x hx => decide_eq_true (b x hx))]
  unfold sW
  rw [if_pos e]
  exact ih fun x hx => h x (by simp [hx])
theorem afN {D : UInt8 -> UInt8 -> Bool} (hB : uJ D) : ∀ (n : Nat) (l : Wd), l.length = n -> (∀ b ∈ l, b ∈ abc) -> dM D (nf D abc n l) l
 | 0, l, h, _ => by rw [List.eq_nil_of_length_eq_zero h]; exact dM.refl _
 | n + 1, [], h, _ => by simp at h
 | n + 1, b :: r, h, hL => by
  obtain ⟨x, l', hp⟩ := pick_any (D := D) (l := r) (hL b (by simp))
  obtain ⟨_, ht⟩ := ahI hp
  have hl := aj7 ht
  simp only [nf, hp]
  exact ((afN hB n l' (by omega) fun z hz => hL z ((Vh ht).2 z hz)).cons x).trans (Gy hB ht)
theorem azM {o : Of} (h0 : iG o = 0) {l : Wd} (hw : Ls o l) : dM (Do o) (BR o l) l := afN (vJ h0) _ _ rfl (hw.abc h0)
theorem ak8 {o : Of} (h0 : iG o = 0) {a b : Wd} (la : a.length <= 14) (lb : b.length <= 14) (wa : Ls o a) (wb : Ls o b) (h : dM (Do o) a b) : B9 o a b = some (true, 0) := by
 unfold B9
 rw [if_pos (acQ h0 fun l hl => by
  simp only [List.mem_cons, List.not_mem_nil, or_false] at hl
  rcases hl with rfl | rfl
  ·exact ⟨la, wa⟩
  ·exact ⟨lb, wb⟩), decide_eq_true ((Lr (vJ h0)).1 h)]
theorem ak7 {o : Of} (h0 : iG o = 0) {a : Wd} (la : a.length <= 14) (wa : Ls o a) : B8 o a = some (BR o a, 0) := by
 unfold B8
 rw [if_pos (acQ h0 fun l hl => by
  obtain rfl := List.mem_singleton.1 hl
  exact ⟨la, wa⟩)]
section
variable {D : UInt8 -> UInt8 -> Bool} {S : Type} {f : S -> UInt8 -> S} {I : S -> Prop} {L : UInt8 -> Prop}
theorem ac4 (hI : ∀ s x, I s -> L x -> I (f s x)) (hf : ∀ s x y, I s -> L x -> L y -> x ≠ y -> D x y = false -> f (f s x) y = f (f s y) x) {x : UInt8} (hx : L x) :
  ∀ (u v : Wd) (s : S), (∀ z ∈ u, L z /\ z ≠ x /\ D z x = false) -> I s -> (u ++ x :: v).foldl f s = (x :: (u ++ v)).foldl f s
 | [], v, s, _, _ => rfl
 | z :: u, v, s, h, hs => by
  obtain ⟨h1, h2, h3⟩ := h z (by simp)
  rw [List.cons_append, List.foldl_cons, ac4 hI hf hx u v (f s z) (fun y hy => h y (by simp [hy])) (hI s z hs h1)]
  simp only [List.foldl_cons, List.cons_append]
  rw [hf s z x hs h1 hx h2 h3]
theorem dM.fold (hB : uJ D) (hI : ∀ s x, I s -> L x -> I (f s x)) (hf : ∀ s x y, I s -> L x -> L y -> x ≠ y -> D x y = false -> f (f s x) y = f (f s y) x) :
  ∀ (a b : Wd) (s : S), dM D a b -> (∀ x ∈ a, L x) -> I s -> a.foldl f s = b.foldl f s
 | [], b, s, h, _, _ => by rw [acP hB h]
 | x :: a, b, s, h, hL, hs => by
  have hm : ∀ z ∈ b, L z := fun z hz => hL z ((h.mem hB).2 hz)
  obtain ⟨b', ht, h'⟩ := h.tk hB
  obtain ⟨u, v, rfl, rfl, h3⟩ := MG ht
  rw [ac4 hI hf (hL x (by simp)) u v s (fun z hz => ⟨hm z (by simp [hz]), h3 z hz⟩) hs, List.foldl_cons, List.foldl_cons]
  exact dM.fold hB hI hf a (u ++ v) _ h' (fun z hz => hL z (by simp [hz])) (hI _ _ hs (hL x (by simp)))
end
theorem dM.Ls {o : Of} (h0 : iG o = 0) {a b : Wd} (h : dM (Do o) a b) (ha : Go.Proofs.YtfopcfnggdonkaaGreatDoor.Ls o a) : Go.Proofs.YtfopcfnggdonkaaGreatDoor.Ls o b := fun x hx => ha x ((h.mem (vJ h0)).2 hx)
theorem asY {D : UInt8 -> UInt8 -> Bool} (hB : uJ D) {x y : UInt8} (hxy : x ≠ y) (hD : D x y = false) (u v : Wd) : dM D (u ++ x :: y :: v) (u ++ y :: x :: v) := by
 refine (dM.refl u).append ?_
 have : tk D y (x :: y :: v) = some (x :: v) := QV (D := D) [x] v fun z hz => by
  obtain rfl := List.mem_singleton.1 hz
  exact ⟨hxy, hD⟩
 exact (Gy hB this).symm
theorem ac3 {l : List Int} {j : Nat} : ∀ (cs : List Nat) (o : Nat), (cs.foldl (wG l) o).testBit j = true ↔ o.testBit j = true \/ ∃ c ∈ cs, (l.getD c 0).toNat = j
 | [], o => by simp
 | c :: cs, o => by
  rw [List.foldl_cons, ac3 cs]
  simp only [wG, Nat.testBit_or, Nat.testBit_two_pow, Bool.or_eq_true, decide_eq_true_eq, List.mem_cons, exists_eq_or_imp]
  constructor
  ·rintro ((h | h) | h)
   ·exact .inl h
   ·exact .inr (.inl h)
   ·exact .inr (.inr h)
  ·rintro (h | h | h)
   ·exact .inl (.inl h)
   ·exact .inl (.inr h)
   ·exact .inr h
theorem DF {n : Nat} {l : List Int} {s : Nat} (hs : s < 2 ^ n) (hn : n <= 7) {j : Nat} : (mX l s).testBit j = true ↔ s.testBit j = true \/ ∃ c, s.testBit c = true /\ (l.getD c 0).toNat = j := by
 rw [mX, ac3]
 refine or_congr Iff.rfl ⟨?_, ?_⟩
 ·rintro ⟨c, hc, h⟩; exact ⟨c, (FT.1 hc).2, h⟩
 ·rintro ⟨c, hc, h⟩; exact ⟨c, FT.2 ⟨by have := H6 hs hc; omega, hc⟩, h⟩
def ET (n : Nat) (a b : List Int) : Prop := ∀ c, c < n -> a.getD (b.getD c 0).toNat 0 = b.getD (a.getD c 0).toNat 0
theorem ET.symm {n : Nat} {a b : List Int} (h : ET n a b) : ET n b a := fun c hc => (h c hc).symm
theorem add_comm {n : Nat} {a b : List Int} (h : ET n a b) (ha : lN n a) (hb : lN n b) (hn : n <= 7) {s : Nat} (hs : s < 2 ^ n) : mX a (mX b s) = mX b (mX a s) := by
 have key : ∀ {a b : List Int}, ET n a b -> lN n a -> lN n b -> ∀ j, (mX a (mX b s)).testBit j = true -> (mX b (mX a s)).testBit j = true := by
  intro a b h ha hb j hj
  rw [DF (OY hb hs).1 hn] at hj
  rw [DF (OY ha hs).1 hn]
  rcases hj with hj | ⟨c, hc, hj⟩
  ·rcases (DF hs hn).1 hj with hj | ⟨d, hd, hj⟩
   ·exact .inl ((DF hs hn).2 (.inl hj))
   ·exact .inr ⟨d, (DF hs hn).2 (.inl hd), hj⟩
  ·rcases (DF hs hn).1 hc with hc | ⟨d, hd, hc⟩
   ·exact .inl ((DF hs hn).2 (.inr ⟨c, hc, hj⟩))
   ·refine .inr ⟨(a.getD d 0).toNat, (DF hs hn).2 (.inr ⟨d, hd, rfl⟩), ?_⟩
    rw [<- h d (H6 hs hd), hc]; exact hj
 apply Nat.eq_of_testBit_eq
 intro j
 rw [Bool.eq_iff_iff]
 exact ⟨key h ha hb j, key h.symm hb ha j⟩
def nI (b : UInt8) : Int := (b.toNat : Int) - 97
def GK (p : dG) (b : UInt8) : List Int := p.2.1.getD (nI b).toNat []
def yT (p : dG) (c : Int) (b : UInt8) : Int := (GK p b).getD c.toNat 0
def wK (p : dG) (s : Nat) (b : UInt8) : Nat := mX (GK p b) s
theorem aa7 (p : dG) : ∀ (a : Wd) (c : Int), J8 p (a.map nI) (a.map fun _ => true) c = a.foldl (yT p) c
 | [], c => rfl
 | b :: a, c => by simp only [List.map_cons, J8, cond_true, List.foldl_cons]; exact aa7 p a _
theorem adD (p : dG) (a : Wd) : y7 p (a.map nI) = a.foldl (wK p) 1 := by
 unfold y7
 rw [List.foldl_map]; rfl
def Wj (p : dG) (o : Of) : Prop := ∀ x y : UInt8, x ≠ y -> Do o x y = false -> ET p.1.toNat (GK p x) (GK p y)
theorem Ac {p : dG} (hp : oW p) {o : Of} (ho : o.1 = (p.2.1.length : Int)) {b : UInt8} (hb : 97 <= (b.toNat : Int) /\ (b.toNat : Int) <= 97 + o.1 - 1) : lN p.1.toNat (GK p b) := by
 have hl : (nI b).toNat < p.2.1.length := by unfold nI; omega
 unfold GK
 rw [List.getD_eq_getElem?_getD, List.getElem?_eq_getElem hl, Option.getD_some]
 exact hp.GI _ (List.getElem_mem hl)
theorem ad8 {n : Nat} {l : List Int} (h : lN n l) {c : Nat} (hc : c < n) : 0 <= l.getD c 0 /\ l.getD c 0 < (n : Int) := by
 have hl : c < l.length := by rw [h.1]; exact hc
 rw [List.getD_eq_getElem?_getD, List.getElem?_eq_getElem hl, Option.getD_some]
 exact h.2 _ (List.getElem_mem hl)
theorem ahO {p : dG} (hp : oW p) {o : Of} (h0 : iG o = 0) (ho : o.1 = (p.2.1.length : Int)) (hf : Wj p o) {a b : Wd} (h : dM (Do o) a b) (ha : Ls o a) :
  a.foldl (yT p) 0 = b.foldl (yT p) 0 /\ a.foldl (wK p) 1 = b.foldl (wK p) 1 := by
 have h2 := hp.n2
 have h7 := hp.n7
 constructor
 ·refine dM.fold (D := Do o) (f := yT p) (I := fun c => 0 <= c /\ c < p.1) (L := fun b => 97 <= (b.toNat : Int) /\ (b.toNat : Int) <= 97 + o.1 - 1) (vJ h0) (fun c b hc hb => ?_) (fun c x y hc hx hy hxy hD => ?_) a b 0 h ha (by omega)
  ·have := ad8 (Ac hp ho hb) (c := c.toNat) (by omega)
   unfold yT; omega
  ·unfold yT
   exact (hf x y hxy hD).symm c.toNat (by omega)
 ·refine dM.fold (D := Do o) (f := wK p) (I := fun s => s < 2 ^ p.1.toNat) (L := fun b => 97 <= (b.toNat : Int) /\ (b.toNat : Int) <= 97 + o.1 - 1) (vJ h0) (fun s b hs hb => ?_) (fun s x y hs hx hy hxy hD => ?_) a b 1 h ha (Nat.one_lt_two_pow (by omega))
  ·exact (OY (Ac hp ho hb) hs).1
  ·unfold wK
   exact add_comm (hf x y hxy hD).symm (Ac hp ho hy) (Ac hp ho hx) (by omega) hs
end Go.Proofs.YtfopcfnggdonkaaGreatDoor
