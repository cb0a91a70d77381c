/-
 Words that are far apart: what the law reckons for itself.
-/
import Derived.Test.YtbjfbbfglkmadaaDoorX5
import Derived.Test.YtbjfbbfglkmadaaDoorQ10
namespace Go.Proofs.YtbjfbbfglkmadaaDoor
open Go.RowKit
set_option linter.unusedVariables false

def Lea (ws : List (List Int)) (i j : Nat) (m : Int) : Prop :=
 (∀ x y, y < x → (x < i ∨ x = i ∧ y < j) → m ≤ ap (ws.getD x []) (ws.getD y [])) ∧ (m = 100 ∨ ∃ x y, y < x ∧ (x < i ∨ x = i ∧ y < j) ∧ m = ap (ws.getD x []) (ws.getD y []))
theorem imin_or (a b : Int) : imin a b ≤ a ∧ imin a b ≤ b ∧ (imin a b = a ∨ imin a b = b) := by unfold imin; split <;> omega
theorem Lea.zero (ws : List (List Int)) : Lea ws 0 0 100 := ⟨fun x y h1 h2 => by omega, .inl rfl⟩
theorem Lea.step {ws : List (List Int)} {i j : Nat} {m : Int} (h : Lea ws i j m) (hj : j < i) : Lea ws i (j + 1) (imin m (ap (ws.getD i []) (ws.getD j []))) := by
 obtain ⟨a, b, c⟩ := imin_or m (ap (ws.getD i []) (ws.getD j []))
 refine ⟨fun x y h1 h2 => ?_, ?_⟩
 ·by_cases q : x < i ∨ x = i ∧ y < j
  ·exact Int.le_trans a (h.1 x y h1 q)
  ·obtain ⟨rfl, rfl⟩ : x = i ∧ y = j := by omega
   exact b
 ·rcases c with c | c
  ·rcases h.2 with q | ⟨x, y, h1, h2, h3⟩
   ·exact .inl (by rw [c, q])
   ·exact .inr ⟨x, y, h1, by omega, by rw [c, h3]⟩
  ·exact .inr ⟨i, j, hj, by omega, c⟩
theorem Lea.next {ws : List (List Int)} {i : Nat} {m : Int} (h : Lea ws i i m) : Lea ws (i + 1) 0 m := by
 refine ⟨fun x y h1 h2 => h.1 x y h1 (by omega), ?_⟩
 rcases h.2 with q | ⟨x, y, h1, h2, h3⟩
 ·exact .inl q
 ·exact .inr ⟨x, y, h1, by omega, h3⟩
theorem getD_at {α : Type} {l : List α} {i : Nat} {d : α} (h : i < l.length) : l.getD i d = l[i] := by
 rw [List.getD_eq_getElem?_getD, List.getElem?_eq_getElem h]; rfl
theorem ds_mem {ws : List (List Int)} {z : Int} : z ∈ dsFrom ws 0 ws ↔ ∃ x y, y < x ∧ x < ws.length ∧ z = ap (ws.getD x []) (ws.getD y []) := by
 simp only [dsFrom, List.mem_flatMap, dsOf, List.mem_map]
 constructor
 ·rintro ⟨⟨a, i⟩, h1, b, h2, rfl⟩
  have h1 := List.mem_zipIdx_iff_getElem?.1 h1
  obtain ⟨hi, e1⟩ := List.getElem?_eq_some_iff.1 h1
  obtain ⟨j, hj, e2⟩ := List.getElem_of_mem h2
  have hj' : j < i ∧ j < ws.length := by rw [List.length_take] at hj; omega
  refine ⟨i, j, hj'.1, hi, ?_⟩
  rw [getD_at hi, getD_at hj'.2, e1, ← e2, List.getElem_take]
 ·rintro ⟨x, y, h1, h2, rfl⟩
  have hy : y < ws.length := by omega
  refine ⟨(ws.getD x [], x), List.mem_zipIdx_iff_getElem?.2 (by rw [getD_at h2]; exact List.getElem?_eq_getElem h2), ws.getD y [], ?_, rfl⟩
  rw [getD_at hy, List.mem_iff_getElem?]
  exact ⟨y, by rw [List.getElem?_take, if_pos h1]; exact List.getElem?_eq_getElem hy⟩
theorem Lea.fin {c : Cd} (hc : cdE c = 0) (h2 : 2 ≤ c.2.1.length) {m : Int} (h : Lea c.2.1 c.2.1.length 0 m) : m = minF (sz c) (dsFrom c.2.1 0 c.2.1) ∧ 0 ≤ m ∧ m ≤ 8 := by
 obtain ⟨hm, hn, hz, hlen, hb⟩ := cdE_ok hc
 have h10 : ap (wd c 1) (wd c 0) ≤ sz c := by
  have := (ap_le (wd c 1) (wd c 0)).2
  rw [hlen _ (getD_mem (by omega))] at this; exact this
 have hle : m ≤ ap (wd c 1) (wd c 0) := h.1 1 0 (by omega) (.inl (by omega))
 have h0 : 0 ≤ m ∧ minF (sz c) (dsFrom c.2.1 0 c.2.1) ≤ m := by
  rcases h.2 with q | ⟨x, y, a, b, e⟩
  ·omega
  ·exact ⟨by rw [e]; exact (ap_le _ _).1, minF_lb (ds_mem.2 ⟨x, y, a, by omega, e⟩)⟩
 refine ⟨?_, h0.1, by omega⟩
 rcases minF_in (dsFrom c.2.1 0 c.2.1) (sz c) with e | e
 ·omega
 ·obtain ⟨x, y, a, b, e⟩ := ds_mem.1 e
  have := h.1 x y a (.inl b)
  omega
theorem apF_app (b : List Int) (x : Int) : ∀ (xs : List Int) (t : Nat) (n : Int), apF b t (xs ++ [x]) n = cond (x != b.getD (t + xs.length) 0) (apF b t xs n + 1) (apF b t xs n)
 | [], t, n => rfl
 | y :: r, t, n => by
  simp only [List.cons_append, apF, List.length_cons]
  rw [apF_app b x r, show t + (r.length + 1) = t + 1 + r.length by omega]
theorem ap_step {a b : List Int} {k : Nat} (hk : k < a.length) : ap (a.take (k + 1)) b = cond (a.getD k 0 != b.getD k 0) (ap (a.take k) b + 1) (ap (a.take k) b) := by
 rw [take_succ' hk rfl, ap, apF_app, List.length_take, Nat.min_eq_left (by omega), Nat.zero_add]; rfl
theorem set_self {α : Type} {l : List α} {i : Nat} {d : α} (h : i < l.length) : l.set i (l.getD i d) = l := by
 rw [getD_at h]; exact List.set_getElem_self h
theorem fh {N : Nat} {A B : Int} {g x : List Int} {k : Nat} (hk : k < x.length) (hxl : x.length ≤ 10) (hgl : g.length ≤ 10) (hN : 20 ≤ N) (hx : x.getD k 0 ∈ g ∧ (x.getD k 0 = A ∨ x.getD k 0 = B)) {o : List (List Int)}
  {rec : Int → Int → List Int → List Int → Int → Int → List (List Int) → Option Bool} (hr : rec A B g x (x.length : Int) ((k : Int) + 1) o = some true) : l10h (some true) B16 B28 B30 B36 B40 N A B g x (x.length : Int) (k : Int) o rec N false 0 = some true := by
 refine countP' 0 (g.length : Int) (by omega) (fun n' f t => l10h (some true) B16 B28 B30 B36 B40 N A B g x (x.length : Int) (k : Int) o rec n' f t) (fun t f => f = (g.take t.toNat).any fun y => decide (x.getD k 0 = y)) (fun r => r = some true) (fun n' f t a b hI ih => ?_) (fun n' f hI => ?_) N false (by omega) rfl
 ·subst hI
  obtain ⟨q, rfl⟩ : ∃ q : Nat, t = q := ⟨t.toNat, by omega⟩
  have hq : q < g.length := by omega
  have e := ih _ rfl
  rw [show ((q : Int) + 1).toNat = q + 1 by omega, take_succ' hq rfl, List.any_append, show ([g.getD q 0].any fun y => decide (x.getD k 0 = y)) = decide (x.getD k 0 = g.getD q 0) by simp] at e
  simp only [l10h, Int.toNat_natCast, ixA hq, ixB hq, cond_true, chk_true]
  rw [w64_small (x := (q : Int) + 1) (by omega)]
  cases hf : (g.take q).any fun y => decide (x.getD k 0 = y) with
  | true => rw [hf, Bool.true_or] at e; rw [cond_true]; exact e
  | false => rw [hf, Bool.false_or] at e; rw [cond_false, beqDec]; exact e
 ·subst hI
  have hany : (g.any fun y => decide (x.getD k 0 = y)) = true := List.any_eq_true.2 ⟨_, hx.1, decide_eq_true rfl⟩
  simp only [l10h, Int.toNat_natCast, ixE, cond_false]
  rw [List.take_of_length_le (Nat.le_refl _), hany, Bool.not_true, cond_false, w64_small (by omega)]
  by_cases q1 : x.getD k 0 = A
  ·rw [bneDec, decide_eq_true q1]; exact hr
  ·rw [bneDec, decide_eq_false q1, bneDec, decide_eq_true (hx.2.resolve_left q1)]; exact hr
theorem fg {N : Nat} {A B : Int} {g x : List Int} (hxl : x.length ≤ 10) (hgl : g.length ≤ 10) (hN : 20 ≤ N) (hx : ∀ e ∈ x, e ∈ g ∧ (e = A ∨ e = B)) {o : List (List Int)} : l10g (some true) B16 B28 B30 B36 B40 N N A B g x (x.length : Int) 0 o = some true := by
 refine countP' 0 (x.length : Int) (by omega) (fun n' (_ : Unit) t => l10g (some true) B16 B28 B30 B36 B40 N n' A B g x (x.length : Int) t o) (fun _ _ => True) (fun r => r = some true) (fun n' u t a b _ ih => ?_) (fun n' u _ => ?_) N () (by omega) trivial
 ·obtain ⟨k, rfl⟩ : ∃ q : Nat, t = q := ⟨t.toNat, by omega⟩
  have hk : k < x.length := by omega
  simp only [l10g, ixA hk, ixB hk, cond_true, chk_true]
  exact fh hk hxl hgl hN (hx _ (getD_mem hk)) (ih () trivial)
 ·simp only [l10g, ixE, cond_false, Option.bind_some]
theorem ft {N : Nat} {M : Int} {ws : List (List Int)} (hc : cdE (M, ws, ()) = 0) (hs : smB (M, ws, ()) = true) (F : Far (M, ws, ())) {a b : Nat} (ha : a < ws.length) (hb : b < ws.length) {w : List Int} (hw : w.length = (ws.getD 0 []).length)
  (hmix : ∀ k, k < (ws.getD 0 []).length → w.getD k 0 = (ws.getD a []).getD k 0 ∨ w.getD k 0 = (ws.getD b []).getD k 0) {o : List (List Int)} (hN : 20 ≤ N) :
  ((B30 (M, (ws, ())) w).bind fun r6 => (B28 (M, (ws, ())) w (2 : Int)).bind fun r7 => cond (r6.2 != (0 : Int)) (some false) (cond (r7.2 != (0 : Int)) (some false) (cond (decide ((r6.1.length : Int) < (1 : Int))) (some false)
   (l10g (some true) B16 B28 B30 B36 B40 N N (a : Int) (b : Int) r7.1 r6.1 (r6.1.length : Int) (0 : Int) o)))) = some true := by
 obtain ⟨hm, hn, hz, hlen, hbd⟩ := cdE_ok hc
 have hz : 1 ≤ (ws.getD 0 []).length ∧ (ws.getD 0 []).length ≤ 8 := hz
 have hlen : ∀ w ∈ ws, w.length = (ws.getD 0 []).length := hlen
 have hn : 0 < ws.length ∧ ws.length ≤ 10 := hn
 have hr : ∀ m ∈ w, 0 ≤ m ∧ m < M := fun m hm => by
  obtain ⟨k, hk, rfl⟩ := List.getElem_of_mem hm
  have e := hmix k (by omega)
  rw [getD_at hk] at e
  rcases e with e | e <;> rw [e]
  ·exact hbd _ (getD_mem ha) _ (getD_mem (by rw [hlen _ (getD_mem ha)]; omega))
  ·exact hbd _ (getD_mem hb) _ (getD_mem (by rw [hlen _ (getD_mem hb)]; omega))
 have hcw : cwE (M, ws, ()) w = 0 := cwE_of hc hw hr
 have hw1 : w.length ≤ 1000 := by omega
 have e30 : B30 (M, ws, ()) w = some (nrF w (nrM (M, ws, ()) w) 0 ws, 0) := by rw [B30, if_pos ⟨hs, hw1⟩, nrV, decide_eq_true hcw]; rfl
 obtain ⟨x, hx, hxa, hxb⟩ : ∃ x : List Int, isCo ws.length 2 x ∧ (a : Int) ∈ x ∧ (b : Int) ∈ x := by
  rcases Nat.lt_trichotomy a b with q | q | q
  ·exact ⟨[(a : Int), b], ⟨by simp, by simp, by simp; omega, by simp; omega⟩, by simp, by simp⟩
  ·subst q; exact ⟨[(a : Int)], ⟨by simp, by simp, by simp, by simp; omega⟩, by simp, by simp⟩
  ·exact ⟨[(b : Int), a], ⟨by simp, by simp, by simp; omega, by simp; omega⟩, by simp, by simp⟩
 have hco : (guA (M, ws, ()) w 2).2 = true := (guA_found (by omega)).2 ⟨x, hx, by
  rw [mk, List.all_eq_true]
  intro k hk
  have hk := List.mem_range.1 hk
  rcases hmix k (by omega) with e | e
  ·exact List.any_eq_true.2 ⟨_, hxa, decide_eq_true (by rw [Int.toNat_natCast]; exact e.symm)⟩
  ·exact List.any_eq_true.2 ⟨_, hxb, decide_eq_true (by rw [Int.toNat_natCast]; exact e.symm)⟩⟩
 have e28 : B28 (M, ws, ()) w 2 = some (gl (M, ws, ()) w 2, 0) := by rw [B28, if_pos ⟨hs, hw1⟩, gu_two hcw, hco]; rfl
 rw [e30, e28]
 simp only [Option.bind_some]
 have hne : 0 < (nrF w (nrM (M, ws, ()) w) 0 ws).length := near_ne (w := w) hc
 rw [show ((0 : Int) != 0) = false from rfl, cond_false, cond_false, decide_eq_false (by omega), cond_false]
 refine fg (by have := nrF_len w (nrM (M, ws, ()) w) ws 0; omega) (gl_len hn.2) hN fun e he => ?_
 obtain ⟨j, j1, rfl, j3⟩ := near_mem hc he
 obtain ⟨k1, k2⟩ := near_guilty hc F hw ha hb j1 hmix j3
 exact ⟨k1, by omega⟩
theorem fec {N : Nat} {one two mix M : Int} {ws o : List (List Int)} (hws : o.take (imin (o.length : Int) (4 : Int)).toNat = ws) {i j n : Nat} (hi : i < ws.length) (hj : j < i) (hl : ∀ w ∈ ws, w.length = n) (hn : n ≤ 8) (hle : ws.length ≤ 10) (hN : 20 ≤ N) {m : Int} {rec : Int → Int → Option Bool}
  (hr : rec (imin m (ap (ws.getD i []) (ws.getD j []))) ((j : Int) + 1) = some true) : l10e (some true) B16 B28 B30 B36 B40 N one two mix o (i : Int) m (j : Int) rec N 0 0 = some true := by
 have hla : (ws.getD i []).length = n := hl _ (getD_mem hi)
 have hlb : (ws.getD j []).length = n := hl _ (getD_mem (by omega))
 have hg : (ws.take i).getD j [] = ws.getD j [] := by rw [List.getD_eq_getElem?_getD, List.getElem?_take, if_pos hj, ← List.getD_eq_getElem?_getD]
 refine countP' 0 (n : Int) (by omega) (fun n' d t => l10e (some true) B16 B28 B30 B36 B40 N one two mix o (i : Int) m (j : Int) rec n' d t) (fun t d => d = ap ((ws.getD i []).take t.toNat) (ws.getD j [])) (fun r => r = some true) (fun n' d t a b hI ih => ?_) (fun n' d hI => ?_) N 0 (by omega) rfl
 ·subst hI
  obtain ⟨k, rfl⟩ : ∃ q : Nat, t = q := ⟨t.toNat, by omega⟩
  have hk : k < n := by omega
  have e := ih _ rfl
  rw [show ((k : Int) + 1).toNat = k + 1 by omega, ap_step (by omega)] at e
  have hb := ap_le ((ws.getD i []).take k) (ws.getD j [])
  have hb2 : ((ws.getD i []).take k).length ≤ 8 := by rw [List.length_take]; omega
  simp only [l10e, hws, Int.toNat_natCast, hg, hla, hlb, ixA hk, ixB hk, cond_true, chk_true]
  rw [w64_small (x := (k : Int) + 1) (by omega)]
  cases hc : ((ws.getD i []).getD k 0 != (ws.getD j []).getD k 0) with
  | true => rw [hc, cond_true] at e; rw [cond_true, w64_small (by omega)]; exact e
  | false => rw [hc, cond_false] at e; rw [cond_false]; exact e
 ·subst hI
  simp only [l10e, hws, Int.toNat_natCast, hg, hla, ixE, cond_false]
  rw [List.take_of_length_le (by omega), w64_small (by omega)]
  exact hr
theorem fdc {N : Nat} {one two mix M : Int} {ws o : List (List Int)} (hws : o.take (imin (o.length : Int) (4 : Int)).toNat = ws) {i n : Nat} (hi : i < ws.length) (hl : ∀ w ∈ ws, w.length = n) (hn : n ≤ 8) (hle : ws.length ≤ 10) (hN : 20 ≤ N) {m : Int} (h0 : Lea ws i 0 m) {rec : Int → Int → Option Bool}
  (hr : ∀ m, Lea ws (i + 1) 0 m → rec m ((i : Int) + 1) = some true) : l10d (some true) B16 B28 B30 B36 B40 N one two mix o (i : Int) rec N m 0 = some true := by
 have ht : (ws.take i).length = i := by rw [List.length_take]; omega
 refine countP' 0 (i : Int) (by omega) (fun n' d t => l10d (some true) B16 B28 B30 B36 B40 N one two mix o (i : Int) rec n' d t) (fun t d => Lea ws i t.toNat d) (fun r => r = some true) (fun n' d t a b hI ih => ?_) (fun n' d hI => ?_) N m (by omega) h0
 ·obtain ⟨k, rfl⟩ : ∃ q : Nat, t = q := ⟨t.toNat, by omega⟩
  have hk : k < i := by omega
  have hI : Lea ws i k d := by rw [Int.toNat_natCast] at hI; exact hI
  simp only [l10d, hws, Int.toNat_natCast, ht, ixA hk, ixB hk, cond_true, chk_true]
  exact fec (M := M) (o := o) hws hi hk hl hn hle hN (ih _ (by rw [show ((k : Int) + 1).toNat = k + 1 by omega]; exact hI.step hk))
 ·have hI : Lea ws i i d := by rw [Int.toNat_natCast] at hI; exact hI
  simp only [l10d, hws, Int.toNat_natCast, ht, ixE, cond_false]
  rw [w64_small (by omega)]
  exact hr _ hI.next
theorem ffc {N : Nat} {one two mix M : Int} {ws o : List (List Int)} (hws : o.take (imin (o.length : Int) (4 : Int)).toNat = ws) (hM : M = 4) (hc : cdE (M, ws, ()) = 0) (hs : smB (M, ws, ()) = true) (F : Far (M, ws, ())) {a b : Nat} (ha : a < ws.length) (hb : b < ws.length)
  (eA : Int.tmod (w64 one) (ws.length : Int) = a) (eB : Int.tmod (w64 two) (ws.length : Int) = b) (hN : 20 ≤ N) : l10f (some true) B16 B28 B30 B36 B40 N one two mix o N 0 ([] ++ ws.getD a []) = some true := by
 obtain ⟨hm, hn, hz, hlen, hbd⟩ := cdE_ok hc
 have hz : 1 ≤ (ws.getD 0 []).length ∧ (ws.getD 0 []).length ≤ 8 := hz
 have hlen : ∀ w ∈ ws, w.length = (ws.getD 0 []).length := hlen
 generalize hn0 : (ws.getD 0 []).length = n at *
 have hla : (ws.getD a []).length = n := hlen _ (getD_mem ha)
 have hlb : (ws.getD b []).length = n := hlen _ (getD_mem hb)
 refine countP' 0 (n : Int) (by omega) (fun n' w t => l10f (some true) B16 B28 B30 B36 B40 N one two mix o n' t w) (fun t w => w.length = n ∧ ∀ k, k < n → w.getD k 0 = (ws.getD a []).getD k 0 ∨ w.getD k 0 = (ws.getD b []).getD k 0) (fun r => r = some true) (fun n' w t p q hI ih => ?_) (fun n' w hI => ?_) N _ (by omega) ⟨by rw [List.nil_append]; exact hla, fun k _ => .inl rfl⟩
 ·obtain ⟨k, rfl⟩ : ∃ q : Nat, t = q := ⟨t.toNat, by omega⟩
  have hk : k < n := by omega
  obtain ⟨i1, i2⟩ := hI
  simp only [l10f, hws, eA, eB, Int.toNat_natCast, List.nil_append, hla, hlb, i1, ixA hk, ixB hk, ixB hb, cond_true, chk_true]
  rw [chk_dec (by omega), w64_small (x := (k : Int) + 1) (by omega)]
  cases hb2 : (bAnd .u8 (Int.fdiv mix (2 ^ min k 8)) 1 == 1) with
  | true =>
   rw [cond_true]
   refine ih _ ⟨by rw [List.length_set]; exact i1, fun k' hk' => ?_⟩
   by_cases e : k' = k
   ·subst e; exact .inr (getD_set_eq _ _ _ _ (by omega))
   ·rw [getD_set_ne _ _ _ _ _ (fun h => e h.symm)]; exact i2 k' hk'
  | false => rw [cond_false]; exact ih _ ⟨i1, i2⟩
 ·obtain ⟨i1, i2⟩ := hI
  simp only [l10f, hws, eA, eB, Int.toNat_natCast, List.nil_append, hla, ixE, cond_false]
  subst hM; exact ft hc hs F ha hb (by rw [hn0]; exact i1) (by rw [hn0]; exact i2) hN
theorem fcc {N : Nat} {one two mix M : Int} {ws o : List (List Int)} (hws : o.take (imin (o.length : Int) (4 : Int)).toNat = ws) (hM : M = 4) (hc : cdE (M, ws, ()) = 0) (hs : smB (M, ws, ()) = true) (h1 : 0 ≤ one ∧ one ≤ 255) (h2 : 0 ≤ two ∧ two ≤ 255) (hN : 20 ≤ N) : l10c (some true) B16 B28 B30 B36 B40 N one two mix o N 100 0 = some true := by
 obtain ⟨hm, hn, hz, hlen, hbd⟩ := cdE_ok hc
 have hz : 1 ≤ (ws.getD 0 []).length ∧ (ws.getD 0 []).length ≤ 8 := hz
 have hlen : ∀ w ∈ ws, w.length = (ws.getD 0 []).length := hlen
 have hn : 0 < ws.length ∧ ws.length ≤ 10 := hn
 refine countP' 0 (ws.length : Int) (by omega) (fun n' d t => l10c (some true) B16 B28 B30 B36 B40 N one two mix o n' d t) (fun t d => Lea ws t.toNat 0 d) (fun r => r = some true) (fun n' d t a b hI ih => ?_) (fun n' d hI => ?_) N 100 (by omega) (Lea.zero ws)
 ·obtain ⟨k, rfl⟩ : ∃ q : Nat, t = q := ⟨t.toNat, by omega⟩
  have hk : k < ws.length := by omega
  have hI : Lea ws k 0 d := by rw [Int.toNat_natCast] at hI; exact hI
  simp only [l10c, hws, ixA hk, ixB hk, cond_true, chk_true]
  rw [chk_dec (by omega)]
  exact fdc (M := M) (o := o) hws hk hlen hz.2 hn.2 hN hI fun m hm => ih m (by rw [show ((k : Int) + 1).toNat = k + 1 by omega]; exact hm)
 ·have hI : Lea ws ws.length 0 d := by rw [Int.toNat_natCast] at hI; exact hI
  simp only [l10c, hws, ixE, cond_false]
  subst hM; by_cases q1 : ws.length = 1
  ·rw [B16, if_pos hs, Option.bind_some, decide_eq_true hc, cond_true, decide_eq_true (show ((4 : Int), ws, ()).2.1.length = 1 from q1), q1]; rfl
  ·obtain ⟨d1, d2, d3⟩ := Lea.fin hc (show 2 ≤ ((4 : Int), ws, ()).2.1.length by show 2 ≤ ws.length; omega) hI
   rw [B16, if_pos hs, Option.bind_some, decide_eq_true hc, cond_true, decide_eq_false (show ¬ ((4 : Int), ws, ()).2.1.length = 1 from q1), cond_false, ← d1]
   simp only [bneDec, beqDec, decide_true, Bool.not_true, cond_false]
   rw [decide_eq_false (show ¬ (ws.length : Int) = 1 by omega), cond_false, w64_small (by omega), w64_small (by omega)]
   by_cases q2 : 4 * d ≤ 3 * ((ws.getD 0 []).length : Int)
   ·rw [decide_eq_true q2]; rfl
   ·have F : Far ((4 : Int), ws, ()) := far_of hc fun i k hi hk => by
     have := hI.1 i k hk (.inl hi)
     show 3 * ((ws.getD 0 []).length : Int) < 4 * ap (ws.getD i []) (ws.getD k [])
     omega
    have ed : (dbV ((4 : Int), ws, ())).2 = 14 := by
     have hf := far_none hc F
     rw [dbV, decide_eq_true hc, cond_true, dbO]
     cases e : (cands ws.length).find? fun ls => (dbF ((4 : Int), ws, ()) ls).2 with
     | none => rfl
     | some ls =>
      have h3 := List.any_eq_false.1 hf ls (List.mem_of_find?_eq_some e)
      exact absurd (List.find?_some (p := fun ls => (dbF ((4 : Int), ws, ()) ls).2) e) h3
    rw [decide_eq_false q2, cond_false, B36, if_pos hs, Option.bind_some, ed]
    have eA : Int.tmod (w64 one) (ws.length : Int) = ((one % (ws.length : Int)).toNat : Int) := by
     rw [w64_small (by omega), tmod_emod h1.1]; have := Int.emod_nonneg one (show (ws.length : Int) ≠ 0 by omega); omega
    have eB : Int.tmod (w64 two) (ws.length : Int) = ((two % (ws.length : Int)).toNat : Int) := by
     rw [w64_small (by omega), tmod_emod h2.1]; have := Int.emod_nonneg two (show (ws.length : Int) ≠ 0 by omega); omega
    have ha : (one % (ws.length : Int)).toNat < ws.length := by have := Int.emod_lt_of_pos one (show 0 < (ws.length : Int) by omega); omega
    have hb : (two % (ws.length : Int)).toNat < ws.length := by have := Int.emod_lt_of_pos two (show 0 < (ws.length : Int) by omega); omega
    have hla := hlen _ (getD_mem (d := []) ha)
    rw [decide_eq_true rfl, Bool.not_true, cond_false, chk_dec (by omega), chk_dec (by omega)]
    simp only [eA, Int.toNat_natCast]
    rw [chk_dec (by omega), chk_of (small_of (by rw [hla]; omega) (by decide))]
    exact ffc (M := (4 : Int)) (o := o) hws rfl hc hs F ha hb eA eB hN
theorem fei {N : Nat} {one two mix M : Int} {ws o : List (List Int)} (hws : ws.set 0 (ws.getD 0 []) = ws) {i j n : Nat} (hi : i < ws.length) (hj : j < i) (hl : ∀ w ∈ ws, w.length = n) (hn : n ≤ 8) (hle : ws.length ≤ 10) (hN : 20 ≤ N) {m : Int} {rec : Int → Int → Option Bool}
  (hr : rec (imin m (ap (ws.getD i []) (ws.getD j []))) ((j : Int) + 1) = some true) : l10k (some true) B16 B28 B30 B36 B40 N one two mix (M, ws) (i : Int) m (j : Int) rec N 0 0 = some true := by
 have hla : (ws.getD i []).length = n := hl _ (getD_mem hi)
 have hlb : (ws.getD j []).length = n := hl _ (getD_mem (by omega))
 have hg : (ws.take i).getD j [] = ws.getD j [] := by rw [List.getD_eq_getElem?_getD, List.getElem?_take, if_pos hj, ← List.getD_eq_getElem?_getD]
 refine countP' 0 (n : Int) (by omega) (fun n' d t => l10k (some true) B16 B28 B30 B36 B40 N one two mix (M, ws) (i : Int) m (j : Int) rec n' d t) (fun t d => d = ap ((ws.getD i []).take t.toNat) (ws.getD j [])) (fun r => r = some true) (fun n' d t a b hI ih => ?_) (fun n' d hI => ?_) N 0 (by omega) rfl
 ·subst hI
  obtain ⟨k, rfl⟩ : ∃ q : Nat, t = q := ⟨t.toNat, by omega⟩
  have hk : k < n := by omega
  have e := ih _ rfl
  rw [show ((k : Int) + 1).toNat = k + 1 by omega, ap_step (by omega)] at e
  have hb := ap_le ((ws.getD i []).take k) (ws.getD j [])
  have hb2 : ((ws.getD i []).take k).length ≤ 8 := by rw [List.length_take]; omega
  simp only [l10k, hws, Int.toNat_natCast, hg, hla, hlb, ixA hk, ixB hk, cond_true, chk_true]
  rw [w64_small (x := (k : Int) + 1) (by omega)]
  cases hc : ((ws.getD i []).getD k 0 != (ws.getD j []).getD k 0) with
  | true => rw [hc, cond_true] at e; rw [cond_true, w64_small (by omega)]; exact e
  | false => rw [hc, cond_false] at e; rw [cond_false]; exact e
 ·subst hI
  simp only [l10k, hws, Int.toNat_natCast, hg, hla, ixE, cond_false]
  rw [List.take_of_length_le (by omega), w64_small (by omega)]
  exact hr
theorem fdi {N : Nat} {one two mix M : Int} {ws o : List (List Int)} (hws : ws.set 0 (ws.getD 0 []) = ws) {i n : Nat} (hi : i < ws.length) (hl : ∀ w ∈ ws, w.length = n) (hn : n ≤ 8) (hle : ws.length ≤ 10) (hN : 20 ≤ N) {m : Int} (h0 : Lea ws i 0 m) {rec : Int → Int → Option Bool}
  (hr : ∀ m, Lea ws (i + 1) 0 m → rec m ((i : Int) + 1) = some true) : l10j (some true) B16 B28 B30 B36 B40 N one two mix (M, ws) (i : Int) rec N m 0 = some true := by
 have ht : (ws.take i).length = i := by rw [List.length_take]; omega
 refine countP' 0 (i : Int) (by omega) (fun n' d t => l10j (some true) B16 B28 B30 B36 B40 N one two mix (M, ws) (i : Int) rec n' d t) (fun t d => Lea ws i t.toNat d) (fun r => r = some true) (fun n' d t a b hI ih => ?_) (fun n' d hI => ?_) N m (by omega) h0
 ·obtain ⟨k, rfl⟩ : ∃ q : Nat, t = q := ⟨t.toNat, by omega⟩
  have hk : k < i := by omega
  have hI : Lea ws i k d := by rw [Int.toNat_natCast] at hI; exact hI
  simp only [l10j, hws, Int.toNat_natCast, ht, ixA hk, ixB hk, cond_true, chk_true]
  exact fei (M := M) (o := o) hws hi hk hl hn hle hN (ih _ (by rw [show ((k : Int) + 1).toNat = k + 1 by omega]; exact hI.step hk))
 ·have hI : Lea ws i i d := by rw [Int.toNat_natCast] at hI; exact hI
  simp only [l10j, hws, Int.toNat_natCast, ht, ixE, cond_false]
  rw [w64_small (by omega)]
  exact hr _ hI.next
theorem ffi {N : Nat} {one two mix M : Int} {ws o : List (List Int)} (hws : ws.set 0 (ws.getD 0 []) = ws) (hM : True) (hc : cdE (M, ws, ()) = 0) (hs : smB (M, ws, ()) = true) (F : Far (M, ws, ())) {a b : Nat} (ha : a < ws.length) (hb : b < ws.length)
  (eA : Int.tmod (w64 one) (ws.length : Int) = a) (eB : Int.tmod (w64 two) (ws.length : Int) = b) (hN : 20 ≤ N) : l10l (some true) B16 B28 B30 B36 B40 N one two mix (M, ws) N 0 ([] ++ ws.getD a []) = some true := by
 obtain ⟨hm, hn, hz, hlen, hbd⟩ := cdE_ok hc
 have hz : 1 ≤ (ws.getD 0 []).length ∧ (ws.getD 0 []).length ≤ 8 := hz
 have hlen : ∀ w ∈ ws, w.length = (ws.getD 0 []).length := hlen
 generalize hn0 : (ws.getD 0 []).length = n at *
 have hla : (ws.getD a []).length = n := hlen _ (getD_mem ha)
 have hlb : (ws.getD b []).length = n := hlen _ (getD_mem hb)
 refine countP' 0 (n : Int) (by omega) (fun n' w t => l10l (some true) B16 B28 B30 B36 B40 N one two mix (M, ws) n' t w) (fun t w => w.length = n ∧ ∀ k, k < n → w.getD k 0 = (ws.getD a []).getD k 0 ∨ w.getD k 0 = (ws.getD b []).getD k 0) (fun r => r = some true) (fun n' w t p q hI ih => ?_) (fun n' w hI => ?_) N _ (by omega) ⟨by rw [List.nil_append]; exact hla, fun k _ => .inl rfl⟩
 ·obtain ⟨k, rfl⟩ : ∃ q : Nat, t = q := ⟨t.toNat, by omega⟩
  have hk : k < n := by omega
  obtain ⟨i1, i2⟩ := hI
  simp only [l10l, hws, eA, eB, Int.toNat_natCast, List.nil_append, hla, hlb, i1, ixA hk, ixB hk, ixB hb, cond_true, chk_true]
  rw [chk_dec (by omega), w64_small (x := (k : Int) + 1) (by omega)]
  cases hb2 : (bAnd .u8 (Int.fdiv mix (2 ^ min k 8)) 1 == 1) with
  | true =>
   rw [cond_true]
   refine ih _ ⟨by rw [List.length_set]; exact i1, fun k' hk' => ?_⟩
   by_cases e : k' = k
   ·subst e; exact .inr (getD_set_eq _ _ _ _ (by omega))
   ·rw [getD_set_ne _ _ _ _ _ (fun h => e h.symm)]; exact i2 k' hk'
  | false => rw [cond_false]; exact ih _ ⟨i1, i2⟩
 ·obtain ⟨i1, i2⟩ := hI
  simp only [l10l, hws, eA, eB, Int.toNat_natCast, List.nil_append, hla, ixE, cond_false]
  exact ft hc hs F ha hb (by rw [hn0]; exact i1) (by rw [hn0]; exact i2) hN
theorem fci {N : Nat} {one two mix M : Int} {ws o : List (List Int)} (hws : ws.set 0 (ws.getD 0 []) = ws) (hM : True) (hc : cdE (M, ws, ()) = 0) (hs : smB (M, ws, ()) = true) (h1 : 0 ≤ one ∧ one ≤ 255) (h2 : 0 ≤ two ∧ two ≤ 255) (hN : 20 ≤ N) : l10i (some true) B16 B28 B30 B36 B40 N one two mix (M, ws) N 100 0 = some true := by
 obtain ⟨hm, hn, hz, hlen, hbd⟩ := cdE_ok hc
 have hz : 1 ≤ (ws.getD 0 []).length ∧ (ws.getD 0 []).length ≤ 8 := hz
 have hlen : ∀ w ∈ ws, w.length = (ws.getD 0 []).length := hlen
 have hn : 0 < ws.length ∧ ws.length ≤ 10 := hn
 refine countP' 0 (ws.length : Int) (by omega) (fun n' d t => l10i (some true) B16 B28 B30 B36 B40 N one two mix (M, ws) n' d t) (fun t d => Lea ws t.toNat 0 d) (fun r => r = some true) (fun n' d t a b hI ih => ?_) (fun n' d hI => ?_) N 100 (by omega) (Lea.zero ws)
 ·obtain ⟨k, rfl⟩ : ∃ q : Nat, t = q := ⟨t.toNat, by omega⟩
  have hk : k < ws.length := by omega
  have hI : Lea ws k 0 d := by rw [Int.toNat_natCast] at hI; exact hI
  simp only [l10i, hws, ixA hk, ixB hk, cond_true, chk_true]
  rw [chk_dec (by omega)]
  exact fdi (M := M) (o := o) hws hk hlen hz.2 hn.2 hN hI fun m hm => ih m (by rw [show ((k : Int) + 1).toNat = k + 1 by omega]; exact hm)
 ·have hI : Lea ws ws.length 0 d := by rw [Int.toNat_natCast] at hI; exact hI
  simp only [l10i, hws, ixE, cond_false]
  by_cases q1 : ws.length = 1
  ·rw [B16, if_pos hs, Option.bind_some, decide_eq_true hc, cond_true, decide_eq_true (show (M, ws, ()).2.1.length = 1 from q1), q1]; rfl
  ·obtain ⟨d1, d2, d3⟩ := Lea.fin hc (show 2 ≤ (M, ws, ()).2.1.length by show 2 ≤ ws.length; omega) hI
   rw [B16, if_pos hs, Option.bind_some, decide_eq_true hc, cond_true, decide_eq_false (show ¬ (M, ws, ()).2.1.length = 1 from q1), cond_false, ← d1]
   simp only [bneDec, beqDec, decide_true, Bool.not_true, cond_false]
   rw [decide_eq_false (show ¬ (ws.length : Int) = 1 by omega), cond_false, w64_small (by omega), w64_small (by omega)]
   by_cases q2 : 4 * d ≤ 3 * ((ws.getD 0 []).length : Int)
   ·rw [decide_eq_true q2]; rfl
   ·have F : Far (M, ws, ()) := far_of hc fun i k hi hk => by
     have := hI.1 i k hk (.inl hi)
     show 3 * ((ws.getD 0 []).length : Int) < 4 * ap (ws.getD i []) (ws.getD k [])
     omega
    have ed : (dbV (M, ws, ())).2 = 14 := by
     have hf := far_none hc F
     rw [dbV, decide_eq_true hc, cond_true, dbO]
     cases e : (cands ws.length).find? fun ls => (dbF (M, ws, ()) ls).2 with
     | none => rfl
     | some ls =>
      have h3 := List.any_eq_false.1 hf ls (List.mem_of_find?_eq_some e)
      exact absurd (List.find?_some (p := fun ls => (dbF (M, ws, ()) ls).2) e) h3
    rw [decide_eq_false q2, cond_false, B36, if_pos hs, Option.bind_some, ed]
    have eA : Int.tmod (w64 one) (ws.length : Int) = ((one % (ws.length : Int)).toNat : Int) := by
     rw [w64_small (by omega), tmod_emod h1.1]; have := Int.emod_nonneg one (show (ws.length : Int) ≠ 0 by omega); omega
    have eB : Int.tmod (w64 two) (ws.length : Int) = ((two % (ws.length : Int)).toNat : Int) := by
     rw [w64_small (by omega), tmod_emod h2.1]; have := Int.emod_nonneg two (show (ws.length : Int) ≠ 0 by omega); omega
    have ha : (one % (ws.length : Int)).toNat < ws.length := by have := Int.emod_lt_of_pos one (show 0 < (ws.length : Int) by omega); omega
    have hb : (two % (ws.length : Int)).toNat < ws.length := by have := Int.emod_lt_of_pos two (show 0 < (ws.length : Int) by omega); omega
    have hla := hlen _ (getD_mem (d := []) ha)
    rw [decide_eq_true rfl, Bool.not_true, cond_false, chk_dec (by omega), chk_dec (by omega)]
    simp only [eA, Int.toNat_natCast]
    rw [chk_dec (by omega), chk_of (small_of (by rw [hla]; omega) (by decide))]
    exact ffi (M := M) (o := o) hws trivial hc hs F ha hb eA eB hN
def GO (n : Nat) (o : List (List Int)) : Prop := ∀ w ∈ o, w.length = n ∧ ∀ m ∈ w, 0 ≤ m ∧ m < 4
theorem gb {N : Nat} {s : Sh} {one two mix M : Int} {ws : List (List Int)} {i n : Nat} (hs : 0 ≤ s.1 ∧ s.1 ≤ 255) (hn : n ≤ 8) (hi : i < ws.length) (hle : ws.length ≤ 10) (hN : 20 ≤ N) {o : List (List Int)} (ho : o.length = ws.length) (hg : GO n o) {rec : Int → List (List Int) → Option Bool}
  (hr : ∀ o', o'.length = ws.length → GO n o' → rec ((i : Int) + 1) o' = some true) : l10b (some true) B16 B28 B30 B36 B40 N s one two mix (M, ws) (i : Int) o rec N 0 o = some true := by
 have hla : (o.getD i []).length = n := (hg _ (getD_mem (by omega))).1
 refine countP' 0 (n : Int) (by omega) (fun n' o' t => l10b (some true) B16 B28 B30 B36 B40 N s one two mix (M, ws) (i : Int) o rec n' t o') (fun _ o' => o'.length = ws.length ∧ GO n o') (fun r => r = some true) (fun n' o' t p q hI ih => ?_) (fun n' o' hI => ?_) N o (by omega) ⟨ho, hg⟩
 ·obtain ⟨k, rfl⟩ : ∃ q : Nat, t = q := ⟨t.toNat, by omega⟩
  have hk : k < n := by omega
  obtain ⟨i1, i2⟩ := hI
  have hm := i2 _ (getD_mem (l := o') (i := i) (d := []) (by omega))
  simp only [l10b, Int.toNat_natCast, hla, hm.1, i1, ixA hk, ixB hk, ixB hi, cond_true, chk_true]
  have hp : 0 ≤ s.1 * (k : Int) ∧ s.1 * (k : Int) ≤ 255 * 8 := ⟨Int.mul_nonneg hs.1 (by omega), by
   have := Int.mul_le_mul (a := s.1) (b := (k : Int)) (c := 255) (d := 8) hs.2 (by omega) (by omega) (by omega); exact this⟩
  rw [w64_small (x := (k : Int) + 1) (by omega), w64_small (x := s.1) (by omega), w64_small (x := s.1 * (k : Int)) (by omega), w64_small (x := (i : Int) + s.1 * (k : Int)) (by omega), tmod_emod (by omega)]
  refine ih _ ⟨by rw [List.length_set]; exact i1, fun w hw => ?_⟩
  rcases List.mem_or_eq_of_mem_set hw with hw | rfl
  ·exact i2 w hw
  ·refine ⟨by rw [List.length_set]; exact hm.1, fun m hmm => ?_⟩
   rcases List.mem_or_eq_of_mem_set hmm with hmm | rfl
   ·exact hm.2 m hmm
   ·exact ⟨Int.emod_nonneg _ (by omega), Int.emod_lt_of_pos _ (by omega)⟩
 ·obtain ⟨i1, i2⟩ := hI
  simp only [l10b, Int.toNat_natCast, hla, ixE, cond_false]
  rw [w64_small (by omega)]
  exact hr _ i1 i2
theorem imin_4 {n : Nat} (h : 0 < n) : 0 < (imin (n : Int) 4).toNat ∧ 0 ≤ imin (n : Int) 4 ∧ imin (n : Int) 4 ≤ n ∧ (imin (n : Int) 4).toNat ≤ 4 := by unfold imin; split <;> omega
theorem ga {N : Nat} {s : Sh} {one two mix M : Int} {ws : List (List Int)} {n : Nat} (hs : 0 ≤ s.1 ∧ s.1 ≤ 255) (hn : 1 ≤ n ∧ n ≤ 8) (hle : 0 < ws.length ∧ ws.length ≤ 10) (hN : 20 ≤ N) (hg : GO n ws) (h1 : 0 ≤ one ∧ one ≤ 255) (h2 : 0 ≤ two ∧ two ≤ 255) :
  l10a (some true) B16 B28 B30 B36 B40 N s one two mix (M, ws) N 0 ws = some true := by
 refine countP' 0 (ws.length : Int) (by omega) (fun n' o t => l10a (some true) B16 B28 B30 B36 B40 N s one two mix (M, ws) n' t o) (fun _ o => o.length = ws.length ∧ GO n o) (fun r => r = some true) (fun n' o t p q hI ih => ?_) (fun n' o hI => ?_) N ws (by omega) ⟨rfl, hg⟩
 ·obtain ⟨k, rfl⟩ : ∃ q : Nat, t = q := ⟨t.toNat, by omega⟩
  have hk : k < ws.length := by omega
  obtain ⟨i1, i2⟩ := hI
  simp only [l10a, Int.toNat_natCast, i1, ixA hk, ixB hk, cond_true, chk_true]
  rw [set_self (by omega)]
  exact gb hs hn.2 hk hle.2 hN i1 i2 fun o' a b => ih o' ⟨a, b⟩
 ·obtain ⟨i1, i2⟩ := hI
  obtain ⟨m1, m2, m3, m4⟩ := imin_4 (n := o.length) (by omega)
  simp only [l10a, ixE, cond_false]
  have hl : (o.take (imin (o.length : Int) 4).toNat).length = (imin (o.length : Int) 4).toNat := by rw [List.length_take]; omega
  rw [chk_dec (by omega), chk_dec (by rw [hl]; omega)]
  have hg' : GO n (o.take (imin (o.length : Int) 4).toNat) := fun w hw => i2 w (List.mem_of_mem_take hw)
  have hsz : ((o.take (imin (o.length : Int) 4).toNat).getD 0 []).length = n := (hg' _ (getD_mem (by omega))).1
  refine fcc (M := 4) rfl rfl (cdE_of (show (2 : Int) ≤ 4 ∧ (4 : Int) ≤ 4 by omega) (show 0 < (o.take (imin (o.length : Int) 4).toNat).length ∧ (o.take (imin (o.length : Int) 4).toNat).length ≤ 10 by omega) (show 1 ≤ ((o.take (imin (o.length : Int) 4).toNat).getD 0 []).length ∧ ((o.take (imin (o.length : Int) 4).toNat).getD 0 []).length ≤ 8 by omega) (fun w hw => (hg' w hw).1.trans hsz.symm) fun w hw => (hg' w hw).2) ?_ h1 h2 hN
  simp only [smB, bae, dtq, List.all_eq_true]
  exact ⟨by omega, fun w hw => by have := (hg' w hw).1; omega⟩
def B10 (s : Sh) (one two mix : Int) : Option Bool := if okSh s = true ∧ (0 ≤ one ∧ one ≤ 255) ∧ (0 ≤ two ∧ two ≤ 255) then some true else none
theorem KB10 : FnOk Tryd.prog 10 (F10 B10) := ok10 (some true) B16 B28 B30 B36 B40 K15t KB16 KB28 KB30 KB36 KB40 B10 fun s one two mix r h => ⟨41, by
 simp only [B10] at h
 split at h
 ·rename_i hh
  obtain ⟨hs, h1, h2⟩ := hh
  rw [← h, m10, B40, if_pos hs, Option.bind_some]
  obtain ⟨c1, c2, c3, c4, c5, c6⟩ := mdC_ok hs
  obtain ⟨k1, k2, k3, k4, k5⟩ := cdE_ok c1
  have k2 : 0 < (ad0 s (rws s 5)).length ∧ (ad0 s (rws s 5)).length ≤ 10 := k2
  have c4 : ((ad0 s (rws s 5)).getD 0 []).length = pL s := c4
  cases e : (Int.tmod one 2 == 0) with
  | true =>
   rw [cond_true]
   exact ga (okSh_at hs).1 (n := pL s) ⟨c6.1, by omega⟩ k2 (by omega) (fun w hw => ⟨(k4 w hw).trans c4, fun m hm => by have := k5 w hw m hm; have := c5.2; exact ⟨by omega, by show m < 4; omega⟩⟩) h1 h2
  | false =>
   rw [cond_false, chk_dec (by show (0 : Int) ≤ 0 ∧ (0 : Int) < (((ad0 s (rws s 5)).length : Nat) : Int); omega)]
   exact fci (o := []) (set_self (by omega)) trivial c1 c2 h1 h2 (by omega)
 ·cases h⟩
end Go.Proofs.YtbjfbbfglkmadaaDoor
