/-
 Orders that are always, or never, on time. Counts, later days, and what an order is worth.
-/
import Derived.Test.YtjcnfpfldocpdaaGreatDoorPO
namespace Go.Proofs.YtjcnfpfldocpdaaGreatDoor
open Go.RowKit
set_option linter.unusedVariables false

def wo (l : List Od) (i : Nat) : List Od := l.take i ++ l.drop (i + 1)
def B92 (n : Int) : Option (List Od) := if 0 ≤ n ∧ n ≤ 1000 then some [] else none
theorem KB92 : FnOk Tryz.prog 92 (F92c B92) := ok92c B92 fun n r h => ⟨0, by
 simp only [B92] at h
 split at h
 ·rename_i hn
  rw [← h, m92c, decide_eq_false (show ¬ n < 0 by omega), cond_false, w64_small (by omega)]
  by_cases q : n - 0 > 0
  ·rw [decide_eq_true q, cond_true, mkOk_of (by omega) (by omega) (by omega) (by omega), Bool.true_and, chk_true, decide_eq_true (show (0 : Int) ≤ 0 ∧ (0 : Int) ≤ ((List.replicate (n - 0).toNat ((0 : Int), ((0 : Int), ()))).length : Int) by omega), chk_true]
   rfl
  ·rw [decide_eq_false q, cond_false]
 ·cases h⟩
def lens : List (List Od) → Nat
 | [] => 0
 | a :: r => a.length + lens r
def B70 (L : List (List Od)) : Option (List Od) := if lens L ≤ 1000 ∧ L.length ≤ 1000 then some L.flatten else none
theorem KB70 : FnOk Tryz.prog 70 (F70 B70) := ok70 B92 KB92 B70 fun L r h => ⟨1001, by
 simp only [B70] at h
 split at h
 ·rename_i hh
  obtain ⟨hs, hl⟩ := hh
  rw [← h, m70]
  have loop2 : l70b B92 1001 L 1001 0 [] = some ([] ++ L.flatten) :=
   rangeInv L [] (fun n (o : List Od) t => l70b B92 1001 L n t o) (fun xs o => o.length + lens xs ≤ 1000) (fun xs o => some (o ++ xs.flatten))
    (fun n o t x rest ht hx hI ih => by
     simp only [lens] at hI
     have hsm := small_of (n := o.length + x.length) (eb := 16) (by omega) (by decide)
     simp only [l70b, ixA ht, ixB ht, cond_true, chk_true, Int.toNat_natCast, ixW ht (by omega), hx, hsm]
     rw [ih _ (by simp only [List.length_append]; omega)]; simp)
    (fun n o hI => by simp only [l70b, ixE, cond_false]; simp) 1001 [] (by omega) (by simpa using hs)
  exact rangeInv L [] (fun n (s : Int) t => l70a B92 1001 L n s t) (fun xs s => 0 ≤ s ∧ s + (lens xs : Int) ≤ 1000) (fun xs s => some L.flatten)
   (fun n s t x rest ht hx hI ih => by
    simp only [lens] at hI
    simp only [l70a, ixA ht, ixB ht, cond_true, chk_true, Int.toNat_natCast, ixW ht (by omega), hx]
    rw [w64_small (by omega), decide_eq_false (show ¬ s + (x.length : Int) < 0 by omega), cond_false]
    exact ih _ (by omega))
   (fun n s hI => by
    simp only [lens] at hI
    have hb : B92 s = some [] := if_pos (by omega)
    simp only [l70a, ixE, cond_false, hb, Option.bind_some]
    simpa using loop2) 1001 0 (by omega) (by omega)
 ·cases h⟩
def B38 (l : List Od) (i : Int) : Option (List Od) := if l.length ≤ 1000 ∧ 0 ≤ i ∧ i < (l.length : Int) then some (wo l i.toNat) else none
theorem KB38 : FnOk Tryz.prog 38 (F38 B38) := ok38 B70 KB70 B38 fun l i r h => ⟨0, by
 simp only [B38] at h
 split at h
 ·rename_i hh
  obtain ⟨hl, h0, h1⟩ := hh
  obtain ⟨k, rfl⟩ : ∃ k : Nat, i = k := ⟨i.toNat, by omega⟩
  rw [← h, m38, w64_succ (by omega), Int.toNat_natCast, Int.toNat_natCast]
  have hb : B70 [l.take k, l.drop (k + 1)] = some (wo l k) := by
   rw [B70, if_pos ⟨by simp only [lens, List.length_take, List.length_drop]; omega, by simp⟩]; simp [wo]
  rw [decide_eq_true (by omega), decide_eq_true (by omega), chk_true, chk_true, hb]; rfl
 ·cases h⟩
def skip (i j : Nat) : Nat := if j < i then j else j + 1
theorem skip_lt {i j : Nat} (h : j < i) : skip i j = j := if_pos h
theorem skip_ge {i j : Nat} (h : i ≤ j) : skip i j = j + 1 := if_neg (by omega)
theorem cnt_skip (p : Nat → Bool) : ∀ {n i : Nat}, i ≤ n → cnt p (n + 1) = (p i).toNat + cnt (fun j => p (skip i j)) n
 | 0, i, h => by
  obtain rfl : i = 0 := by omega
  simp [cnt]
 | n + 1, i, h => by
  by_cases q : i = n + 1
  ·subst q
   have e : cnt (fun j => p (skip (n + 1) j)) (n + 1) = cnt p (n + 1) := cnt_congr fun j hj => by rw [skip_lt (by omega)]
   rw [cnt, e]; omega
  ·rw [cnt, cnt_skip p (n := n) (i := i) (by omega), cnt, skip_ge (by omega)]; omega
theorem ws_skip (f : Nat → Int) (p : Nat → Bool) : ∀ {n i : Nat}, i ≤ n → ws f p (n + 1) = cond (p i) (f i) 0 + ws (fun j => f (skip i j)) (fun j => p (skip i j)) n
 | 0, i, h => by
  obtain rfl : i = 0 := by omega
  simp [ws]
 | n + 1, i, h => by
  by_cases q : i = n + 1
  ·subst q
   rw [ws, ws_congr (f := fun j => f (skip (n + 1) j)) (g := f) (p := fun j => p (skip (n + 1) j)) (q := p) (fun j hj => by rw [skip_lt (by omega)]) (fun j hj _ => by rw [skip_lt (by omega)])]; omega
  ·rw [ws, ws_skip f p (n := n) (i := i) (by omega), ws, skip_ge (by omega)]; omega
theorem wo_len {l : List Od} {i : Nat} (h : i < l.length) : (wo l i).length + 1 = l.length := by simp only [wo, List.length_append, List.length_take, List.length_drop]; omega
theorem wo_get {l : List Od} {i : Nat} (h : i < l.length) (j : Nat) : (wo l i).getD j d3 = l.getD (skip i j) d3 := by
 have hl : (l.take i).length = i := by rw [List.length_take]; omega
 simp only [wo, List.getD_eq_getElem?_getD]
 by_cases q : j < i
 ·rw [skip_lt q, List.getElem?_append_left (by omega), List.getElem?_take_of_lt q]
 ·rw [skip_ge (by omega), List.getElem?_append_right (by omega), List.getElem?_drop, hl, show i + 1 + (j - i) = j + 1 by omega]
theorem wo_mem {l : List Od} {i : Nat} {o : Od} (h : o ∈ wo l i) : o ∈ l := by
 rcases List.mem_append.1 h with h | h
 ·exact List.mem_of_mem_take h
 ·exact List.mem_of_mem_drop h
theorem Ok6.wo {l : List Od} (h : Ok6 l) (i : Nat) : Ok6 (wo l i) := ⟨by
 have := h.len
 simp only [Go.Proofs.YtjcnfpfldocpdaaGreatDoor.wo, List.length_append, List.length_take, List.length_drop]; omega, fun o ho => h.all o (wo_mem ho)⟩
theorem dyl_wo {l : List Od} {i : Nat} (h : i < l.length) (j : Nat) : dyl (wo l i) j = dyl l (skip i j) := by rw [dyl, wo_get h, dyl]
theorem fnl_wo {l : List Od} {i : Nat} (h : i < l.length) (j : Nat) : fnl (wo l i) j = fnl l (skip i j) := by rw [fnl, wo_get h, fnl]
theorem by_wo {l : List Od} {i : Nat} (h : i < l.length) {T : Nat → Bool} (hT : T i = false) (d : Nat) : by_ (dyl l) l.length T d = by_ (dyl (wo l i)) (wo l i).length (fun j => T (skip i j)) d := by
 unfold by_
 have hl := wo_len h
 rw [← hl, cnt_skip _ (i := i) (by omega), hT]
 simp only [Bool.false_and, Bool.toNat_false, Nat.zero_add]
 exact cnt_congr fun j _ => by rw [dyl_wo h]
theorem ws_wo {l : List Od} {i : Nat} (h : i < l.length) (T : Nat → Bool) : ws (fnl l) T l.length = cond (T i) (fnl l i) 0 + ws (fnl (wo l i)) (fun j => T (skip i j)) (wo l i).length := by
 have hl := wo_len h
 have e : ws (fnl (wo l i)) (fun j => T (skip i j)) (wo l i).length = ws (fun j => fnl l (skip i j)) (fun j => T (skip i j)) (wo l i).length := ws_congr (fun _ _ => rfl) fun j _ _ => fnl_wo h j
 rw [e, ← hl, ws_skip _ _ (i := i) (by omega)]
theorem pos_wo {l : List Od} {i : Nat} (h : i < l.length) {T : Nat → Bool} (hT : T i = false) : Pos (dyl l) l.length T ↔ Pos (dyl (wo l i)) (wo l i).length (fun j => T (skip i j)) := by
 constructor
 ·intro hp d; rw [← by_wo h hT]; exact hp d
 ·intro hp d; rw [by_wo h hT]; exact hp d
theorem tot_wo {l : List Od} {i : Nat} (h : i < l.length) : tot l = fnl l i + tot (wo l i) := ws_wo h fun _ => true
def lift (i : Nat) (T : Nat → Bool) (j : Nat) : Bool := if j < i then T j else if j = i then false else T (j - 1)
theorem lift_self (i : Nat) (T : Nat → Bool) : lift i T i = false := by simp [lift]
theorem lift_skip (i : Nat) (T : Nat → Bool) (j : Nat) : lift i T (skip i j) = T j := by
 by_cases q : j < i
 ·rw [skip_lt q, lift, if_pos q]
 ·rw [skip_ge (by omega), lift, if_neg (by omega), if_neg (by omega), Nat.add_sub_cancel]
theorem wo_least {l : List Od} (h : Ok6 l) {i : Nat} (hi : i < l.length) : (∀ T, Pos (dyl l) l.length T → T i = false → fnl l i + leastO (wo l i) ≤ tot l - ws (fnl l) T l.length) ∧ ∃ T, Pos (dyl l) l.length T ∧ T i = false ∧ fnl l i + leastO (wo l i) = tot l - ws (fnl l) T l.length := by
 obtain ⟨o1, T, o2, o3⟩ := leastO_ok (h.wo i)
 refine ⟨fun T hT hTi => ?_, lift i T, ?_, lift_self i T, ?_⟩
 ·have := o1 _ ((pos_wo hi hTi).1 hT)
  rw [tot_wo hi, ws_wo hi, hTi, cond_false]; omega
 ·exact (pos_wo hi (lift_self i T)).2 (o2.congr fun j _ => lift_skip i T j)
 ·rw [tot_wo hi, ws_wo hi, lift_self, cond_false, ws_congr (q := T) (fun j _ => lift_skip i T j) fun _ _ _ => rfl]; omega
theorem alw_iff {l : List Od} (h : Ok6 l) {i : Nat} (hi : i < l.length) : leastO l < fnl l i + leastO (wo l i) ↔ ∀ T, BestS l T → T i = true := by
 obtain ⟨w1, T, w2, w3, w4⟩ := wo_least h hi
 constructor
 ·intro hlt T hT
  cases q : T i with
  | true => rfl
  | false => have := w1 T hT.1 q; have := hT.2; omega
 ·intro hall
  refine Classical.byContradiction fun hn => ?_
  have h1 := (leastO_ok h).1 T w2
  have := hall T ⟨w2, by omega⟩
  rw [w3] at this; cases this
def alwP (l : List Od) (i : Nat) : Bool := decide (fnl l i + leastO (wo l i) > leastO l)
def alwO (l : List Od) : List Int × Int := if ckO l = 0 then (lstF (alwP l) l.length 0, 0) else ([], ckO l)
def B13 (l : List Od) : Option (List Int × Int) := if l.length ≤ 1000 then some (alwO l) else none
theorem leastO_rng {l : List Od} (h : Ok6 l) : 0 ≤ leastO l ∧ leastO l ≤ 120000 := by
 obtain ⟨o1, T, o2, o3⟩ := leastO_ok h
 have hlen := h.len
 have h1 : 0 ≤ fim l 0 ∧ fim l 0 ≤ 10000 * l.length := ws_rng fun i hi => h.fn hi
 have h2 := o1 _ (Pos.empty (dy := dyl l) (n := l.length))
 have h3 : ws (fnl l) (fun i => !T i) l.length = tot l - ws (fnl l) T l.length := by
  have h := ws_split (fnl l) (fun _ => true) T l.length
  simp only [Bool.true_and] at h
  have e : ws (fnl l) (fun i => T i) l.length = ws (fnl l) T l.length := rfl
  unfold tot; omega
 have h4 : 0 ≤ ws (fnl l) (fun i => !T i) l.length ∧ ws (fnl l) (fun i => !T i) l.length ≤ 10000 * l.length := ws_rng fun i hi => h.fn hi
 omega
theorem KB13 : FnOk Tryz.prog 13 (F13 B13) := ok13 B33 B36 B38 KB33 KB36 KB38 B13 fun l r h => ⟨1001, by
 simp only [B13] at h
 split at h
 ·rename_i hl
  rw [← h, m13, B33, if_pos hl, Option.bind_some, alwO]
  by_cases hc : ckO l = 0
  ·have h6 := okO_of hc
   have hlen := h6.len
   rw [if_pos hc, bne_F hc, cond_false, B53_ok h6, Option.bind_some]
   have main := rangeIx l d3 (fun n (o : List Int) t => l13a B33 B36 B38 1001 l (leastO l) n t o) (fun t xs o => o.length ≤ t ∧ t + xs.length = l.length) (fun t xs o => some (o ++ lstF (alwP l) xs.length t, 0))
    (fun n o t x rest ht hx hI ih => by
     obtain ⟨ho, hxl⟩ := hI
     simp only [List.length_cons] at hxl
     have hb : B38 l (t : Int) = some (wo l t) := if_pos ⟨hl, by omega, by omega⟩
     have hsm := small_of (n := o.length + 1) (eb := 8) (by omega) (by decide)
     have hf : (l.getD t ((0 : Int), ((0 : Int), ()))).2.1 = fnl l t := rfl
     have hfr := h6.fn ht
     have hlr := leastO_rng (h6.wo t)
     simp only [l13a, ixA ht, ixB ht, cond_true, chk_true, Int.toNat_natCast, ixW ht (by omega), hb, Option.bind_some, B53_ok (h6.wo t), hsm, hf, List.length_cons, lstF]
     rw [w64_small (by omega), ih (o ++ [(t : Int)]) ⟨by simp; omega, by omega⟩, ih o ⟨by omega, by omega⟩]
     show cond (alwP l t) _ _ = _
     cases alwP l t <;> simp)
    (fun n o hI => by simp only [l13a, ixE, cond_false]; simp [lstF]) 1001 [] (by omega) ⟨by simp, by simp⟩
   simpa using main
  ·rw [if_neg hc, bne_T hc, cond_true]
 ·cases h⟩
def eqO (x y : Od) : Bool := DT.beq (.pair (.int .i64) (.pair (.int .i64) .unit)) x y
theorem eqO_iff (x y : Od) : eqO x y = true ↔ x = y := by
 obtain ⟨a, b, ⟨⟩⟩ := x
 obtain ⟨c, d, ⟨⟩⟩ := y
 simp [eqO, DT.beq]
def B40c (x : Od) (p : List Od) : Option (Bool × List Od) := some (eqO x (p.getD 0 d3), p)
theorem KB40 : FnOk Tryz.prog 40 (F40c B40c) := ok40c B40c fun x p r h => ⟨0, h⟩
def B39c40 (s p : List Od) : Option (Int × List Od) := if s.length ≤ 1000 then some (fx (fun x => eqO x (p.getD 0 d3)) 0 s, p) else none
theorem KB39c40 : FnOk Tryz.prog 39 (F39c40 B39c40) := ok39c40 B40c KB40 B39c40 fun s p r h => ⟨1001, by
 simp only [B39c40] at h
 split at h
 ·rename_i hl
  rw [← h, m39c40]
  exact rangeIx s d3 (fun n (_ : Unit) t => l39c40a B40c 1001 s n t p) (fun _ _ _ => True) (fun t xs _ => some (fx (fun x => eqO x (p.getD 0 d3)) t xs, p))
   (fun n _ t x rest ht hx _ ih => by
    simp only [l39c40a, ixA ht, ixB ht, cond_true, chk_true, Int.toNat_natCast, ixW ht (by omega), hx, B40c, Option.bind_some, ih () trivial, fx]
    cases eqO x (p.getD 0 d3) <;> rfl)
   (fun n _ _ => by simp only [l39c40a, ixE, cond_false]; rfl) 1001 () (by omega) trivial
 ·cases h⟩
theorem fx_spec {α : Type} {p : α → Bool} (d : α) : ∀ {xs : List α} {t j : Nat}, j < xs.length → p (xs.getD j d) = true → ∃ k, k < xs.length ∧ fx p (t : Int) xs = ((t + k : Nat) : Int) ∧ p (xs.getD k d) = true
 | [], t, j, h, _ => by simp at h
 | x :: xs, t, j, h, hp => by
  by_cases hx : p x = true
  ·exact ⟨0, by simp, by rw [fx, hx]; rfl, by simpa using hx⟩
  ·have hx : p x = false := by simpa using hx
   cases j with
   | zero => rw [List.getD_cons_zero, hx] at hp; cases hp
   | succ j =>
    rw [List.getD_cons_succ] at hp
    obtain ⟨k, k1, k2, k3⟩ := fx_spec d (t := t + 1) (Nat.lt_of_succ_lt_succ h) hp
    refine ⟨k + 1, by simp; omega, ?_, by simpa using k3⟩
    rw [fx, hx, cond_false, show ((t : Int) + 1) = ((t + 1 : Nat) : Int) by omega, k2]
    congr 1; omega
def fst (l : List Od) (i : Nat) : Int := fx (fun x => eqO x (l.getD i d3)) 0 l
theorem fst_ok {l : List Od} {i : Nat} (h : i < l.length) : ∃ k, k < l.length ∧ fst l i = (k : Int) ∧ l.getD k d3 = l.getD i d3 := by
 obtain ⟨k, k1, k2, k3⟩ := fx_spec (p := fun x => eqO x (l.getD i d3)) d3 (t := 0) h ((eqO_iff _ _).2 rfl)
 exact ⟨k, k1, by rw [Nat.zero_add] at k2; exact k2, (eqO_iff _ _).1 k3⟩
theorem one_pos {l : List Od} (h : Ok6 l) {k : Nat} (hk : k < l.length) : Pos (dyl l) l.length (mem [(k : Int)]) := fun d => by
 have e : by_ (dyl l) l.length (mem [(k : Int)]) d = cnt (fun i => decide (dyl l i ≤ d) && i == k) l.length := cnt_congr fun i _ => by
  have : mem [(k : Int)] i = (i == k) := by
   rw [mem_cons, ins]; simp [mem]
  rw [this, Bool.and_comm]
 rw [e, cnt_one]
 have := (h.dy hk).1
 split
 ·rename_i q; have := of_decide_eq_true q.2; omega
 ·omega
theorem best_with {l : List Od} (h : Ok6 l) {k : Nat} (hk : k < l.length) : (∀ T, Pos (dyl l) l.length T → T k = true → ws (fnl l) T l.length ≤ ws (fnl l) (mem (greedy l [(k : Int)])) l.length) ∧ Pos (dyl l) l.length (mem (greedy l [(k : Int)])) ∧ mem (greedy l [(k : Int)]) k = true := by
 obtain ⟨g1, g2⟩ := greedy_ix (fun o ho => (h.all o ho).1.1) (s := [(k : Int)]) ⟨fun i hi => by rcases List.mem_singleton.1 hi with rfl; omega, by simp⟩ (one_pos h hk)
 have hm : mem [(k : Int)] k = true := by simp [mem]
 have hk1 : ∀ i, mem [(k : Int)] i = true → i = k := fun i hi => by
  have := List.mem_singleton.1 (List.contains_iff_mem.1 hi); omega
 refine ⟨fun T hT hTk => g2.best (M := 10000) (fun i hi => h.fn hi) hT fun i _ hi => ?_, g2.pos, g2.sub k hk hm⟩
 rw [hk1 i hi]; exact hTk
theorem exchange {l : List Od} {i k : Nat} (hi : i < l.length) (hk : k < l.length) (he : l.getD k d3 = l.getD i d3) {T : Nat → Bool} (hT : BestS l T) (hTi : T i = true) : ∃ T', BestS l T' ∧ T' k = true := by
 by_cases q : T k = true
 ·exact ⟨T, hT, q⟩
 ·have q : T k = false := by simpa using q
  have hd : dyl l k = dyl l i := by rw [dyl, dyl, he]
  have hf : fnl l k = fnl l i := by rw [fnl, fnl, he]
  have hq : del T i k = false := by rw [del, q]; rfl
  refine ⟨ins (del T i) k, ⟨fun d => ?_, ?_⟩, by simp [ins]⟩
  ·rw [by_ins hk hq, hd, by_del hi hTi]; exact hT.1 d
  ·rw [ws_ins _ hk hq, hf, ws_del _ hi hTi]; exact hT.2
theorem nev_iff {l : List Od} (h : Ok6 l) {i k : Nat} (hi : i < l.length) (hk : k < l.length) (he : l.getD k d3 = l.getD i d3) : leastO l < tot l - ws (fnl l) (mem (greedy l [(k : Int)])) l.length ↔ ∀ T, BestS l T → T i = false := by
 obtain ⟨b1, b2, b3⟩ := best_with h hk
 constructor
 ·intro hlt T hT
  cases q : T i with
  | false => rfl
  | true =>
   obtain ⟨T', t1, t2⟩ := exchange hi hk he hT q
   have := b1 T' t1.1 t2
   have := t1.2
   omega
 ·intro hall
  refine Classical.byContradiction fun hn => ?_
  have h1 := (leastO_ok h).1 _ b2
  obtain ⟨T', t1, t2⟩ := exchange hk hi he.symm (T := mem (greedy l [(k : Int)])) ⟨b2, by omega⟩ b3
  have := hall T' t1
  rw [t2] at this; cases this
def out (l : List Od) (s : List Int) : Int := ws (fnl l) (fun i => !mem s i) l.length
theorem out_tot (l : List Od) (s : List Int) : out l s = tot l - ws (fnl l) (mem s) l.length := by
 have h := ws_split (fnl l) (fun _ => true) (mem s) l.length
 simp only [Bool.true_and] at h
 have e : ws (fnl l) (fun i => mem s i) l.length = ws (fnl l) (mem s) l.length := rfl
 unfold out tot; omega
def nevP (l : List Od) (i : Nat) : Bool := decide (out l (greedy l [fst l i]) > leastO l)
def nevO (l : List Od) : List Int × Int := if ckO l = 0 then (lstF (nevP l) l.length 0, 0) else ([], ckO l)
def B14 (l : List Od) : Option (List Int × Int) := if l.length ≤ 1000 then some (nevO l) else none
theorem nevP_iff {l : List Od} (h : Ok6 l) {i : Nat} (hi : i < l.length) : nevP l i = true ↔ ∀ T, BestS l T → T i = false := by
 obtain ⟨k, k1, k2, k3⟩ := fst_ok hi
 rw [nevP, decide_eq_true_eq, k2, out_tot]
 exact nev_iff h hi k1 k3
theorem greedy_len1 {l : List Od} {k : Nat} (h : Ok6 l) (hk : k < l.length) : (greedy l [(k : Int)]).length ≤ 12 := by
 obtain ⟨g1, _⟩ := greedy_ix (fun o ho => (h.all o ho).1.1) (s := [(k : Int)]) ⟨fun i hi => by rcases List.mem_singleton.1 hi with rfl; omega, by simp⟩ (one_pos h hk)
 have := cnt_len g1
 have h2 := cnt_le_n (mem (greedy l [(k : Int)])) l.length
 have := h.len
 omega
theorem KB14 : FnOk Tryz.prog 14 (F14 B14) := ok14 B33 B35 B36 B39c40 B41v KB33 KB35 KB36 KB39c40 KB41v B14 fun l r h => ⟨1001, by
 simp only [B14] at h
 split at h
 ·rename_i hl
  rw [← h, m14, B33, if_pos hl, Option.bind_some, nevO]
  by_cases hc : ckO l = 0
  ·have h6 := okO_of hc
   have hlen := h6.len
   rw [if_pos hc, bne_F hc, cond_false, B53_ok h6, Option.bind_some]
   have main := rangeIx l d3 (fun n (o : List Int) t => l14a B33 B35 B36 B39c40 B41v 1001 l (leastO l) n t o) (fun t xs o => o.length ≤ t ∧ t + xs.length = l.length) (fun t xs o => some (o ++ lstF (nevP l) xs.length t, 0))
    (fun n o t x rest ht hx hI ih => by
     obtain ⟨ho, hxl⟩ := hI
     simp only [List.length_cons] at hxl
     obtain ⟨k, k1, k2, k3⟩ := fst_ok ht
     have hb : B39c40 l [l.getD t ((0 : Int), ((0 : Int), ()))] = some ((k : Int), [l.getD t d3]) := by
      rw [B39c40, if_pos hl]
      show some (fst l t, _) = _
      rw [k2]
     have hg : B41v l [(k : Int)] = some (greedy l [(k : Int)]) := if_pos ⟨by omega, by simp, fun i hi => by rcases List.mem_singleton.1 hi with rfl; omega⟩
     have hgl := greedy_len1 h6 k1
     have hsm := small_of (n := o.length + 1) (eb := 8) (by omega) (by decide)
     have inner : l14b B33 B35 B36 B39c40 B41v 1001 l (leastO l) (t : Int) o (greedy l [(k : Int)]) (fun y0 y1 => l14a B33 B35 B36 B39c40 B41v 1001 l (leastO l) n y0 y1) 1001 0 0 = cond (nevP l t) (l14a B33 B35 B36 B39c40 B41v 1001 l (leastO l) n ((t + 1 : Nat) : Int) (o ++ [(t : Int)])) (l14a B33 B35 B36 B39c40 B41v 1001 l (leastO l) n ((t + 1 : Nat) : Int) o) := by
      refine rangeIx l d3 (fun n2 (c : Int) j => l14b B33 B35 B36 B39c40 B41v 1001 l (leastO l) (t : Int) o (greedy l [(k : Int)]) (fun y0 y1 => l14a B33 B35 B36 B39c40 B41v 1001 l (leastO l) n y0 y1) n2 c j) (fun j xs c => j ≤ l.length ∧ c = ws (fnl l) (fun i => !mem (greedy l [(k : Int)]) i) j) (fun j xs c => cond (nevP l t) (l14a B33 B35 B36 B39c40 B41v 1001 l (leastO l) n ((t + 1 : Nat) : Int) (o ++ [(t : Int)])) (l14a B33 B35 B36 B39c40 B41v 1001 l (leastO l) n ((t + 1 : Nat) : Int) o))
       (fun n2 c j y rest2 hj hy hI2 ih2 => ?_) (fun n2 c hI2 => ?_) 1001 0 (by omega) ⟨by omega, rfl⟩
      ·obtain ⟨j1, rfl⟩ := hI2
       have hb : B35 (greedy l [(k : Int)]) (j : Int) = some (mem (greedy l [(k : Int)]) j) := if_pos (by omega)
       have hw : 0 ≤ ws (fnl l) (fun i => !mem (greedy l [(k : Int)]) i) j ∧ ws (fnl l) (fun i => !mem (greedy l [(k : Int)]) i) j ≤ 10000 * j := ws_rng fun i hi => h6.fn (by omega)
       have hfj := h6.fn hj
       have hf : (l.getD j ((0 : Int), ((0 : Int), ()))).2.1 = fnl l j := rfl
       have hg : ∀ c', c' = ws (fnl l) (fun i => !mem (greedy l [(k : Int)]) i) (j + 1) → _ := fun c' hc' => ih2 c' ⟨by omega, hc'⟩
       simp only [ws] at hg
       simp only [l14b, ixA hj, ixB hj, cond_true, chk_true, Int.toNat_natCast, ixW hj (by omega), hb, Option.bind_some, hf]
       cases q : mem (greedy l [(k : Int)]) j with
       | true => simp only [Bool.not_true, cond_false]; exact hg _ (by simp [q])
       | false => simp only [Bool.not_false, cond_true]; rw [w64_small (by omega)]; exact hg _ (by simp [q])
      ·obtain ⟨j1, rfl⟩ := hI2
       have e : decide (ws (fnl l) (fun i => !mem (greedy l [(k : Int)]) i) l.length > leastO l) = nevP l t := by rw [nevP, k2]; rfl
       simp only [l14b, ixE, cond_false, e, hsm, chk_true, ixW ht (by omega)]
     simp only [l14a, ixA ht, ixB ht, cond_true, chk_true, Int.toNat_natCast, hb, Option.bind_some, hg, inner, List.length_cons, lstF]
     rw [ih (o ++ [(t : Int)]) ⟨by simp; omega, by omega⟩, ih o ⟨by omega, by omega⟩]
     cases nevP l t <;> simp)
    (fun n o hI => by simp only [l14a, ixE, cond_false]; simp [lstF]) 1001 [] (by omega) ⟨by simp, by simp⟩
   simpa using main
  ·rw [if_neg hc, bne_T hc, cond_true]
 ·cases h⟩
def worO (l : List Od) (i : Int) : Int × Int := if ckO l = 0 then (if 0 ≤ i ∧ i ≤ (l.length : Int) - 1 then (leastO l - leastO (wo l i.toNat), 0) else (0, 5)) else (0, ckO l)
def B18 (l : List Od) (i : Int) : Option (Int × Int) := if l.length ≤ 1000 then some (worO l i) else none
theorem KB18 : FnOk Tryz.prog 18 (F18 B18) := ok18 B33 B34 B36 B38 KB33 KB34 KB36 KB38 B18 fun l i r h => ⟨1001, by
 simp only [B18] at h
 split at h
 ·rename_i hl
  rw [← h, m18, B33, if_pos hl, Option.bind_some, worO]
  by_cases hc : ckO l = 0
  ·have h6 := okO_of hc
   have hlen := h6.len
   rw [if_pos hc, bne_F hc, cond_false, B34, Option.bind_some, w64_small (by omega)]
   by_cases hi : 0 ≤ i ∧ i ≤ (l.length : Int) - 1
   ·have hb : B38 l i = some (wo l i.toNat) := if_pos ⟨hl, by omega, by omega⟩
    have h1 := leastO_rng h6
    have h2 := leastO_rng (h6.wo i.toNat)
    rw [if_pos hi, decide_eq_true hi, Bool.not_true, cond_false, B53_ok h6, Option.bind_some, hb, Option.bind_some, B53_ok (h6.wo _), Option.bind_some, w64_small (by omega)]
   ·rw [if_neg hi, decide_eq_false hi, Bool.not_false, cond_true]
  ·rw [if_neg hc, bne_T hc, cond_true]
 ·cases h⟩
end Go.Proofs.YtjcnfpfldocpdaaGreatDoor
