/-
 Fines of threes: no two sets of orders have the same fines; what that says of the best sets, and of layings. Orders by numbers; the law of the balance.
-/
import Derived.Test.YtjcnfpfldocpdaaGreatDoorP9
import Derived.Test.YtjcnfpfldocpdaaGreatDoorWT
import Derived.Test.YtjcnfpfldocpdaaGreatDoorWG
namespace Go.Proofs.YtjcnfpfldocpdaaGreatDoor
open Go.RowKit
set_option linter.unusedVariables false

theorem bal_m3 : ∀ (v a : List Int), Wt.bal (v.map (3 * ·)) a = 3 * Wt.bal v a
 | [], a => by simp [Wt.bal]
 | w :: v, [] => by simp [Wt.bal]
 | w :: v, a :: b => by
  simp only [List.map_cons, Wt.bal, bal_m3 v b]
  rw [Int.mul_add, Int.mul_assoc]
theorem threes_cons (k : Nat) : Wt.threes (k + 1) = 1 :: (Wt.threes k).map (3 * ·) := by
 simp [Wt.threes, List.range_succ_eq_map, Function.comp_def, Int.pow_succ, Int.mul_comm]
theorem bal_inj : ∀ (k : Nat) {a b : List Int}, a.length = k → b.length = k → (∀ x ∈ a, Wt.IsWay x) → (∀ x ∈ b, Wt.IsWay x) → Wt.bal (Wt.threes k) a = Wt.bal (Wt.threes k) b → a = b
 | 0, a, b, ha, hb, _, _, _ => by rw [List.eq_nil_of_length_eq_zero ha, List.eq_nil_of_length_eq_zero hb]
 | k + 1, [], b, ha, _, _, _, _ => by simp at ha
 | k + 1, x :: a, [], _, hb, _, _, _ => by simp at hb
 | k + 1, x :: a, y :: b, ha, hb, h1, h2, h => by
  rw [threes_cons] at h
  simp only [Wt.bal, bal_m3] at h
  have hx := h1 x (by simp)
  have hy := h2 y (by simp)
  unfold Wt.IsWay at hx hy
  have e1 : x = y := by omega
  have e2 : Wt.bal (Wt.threes k) a = Wt.bal (Wt.threes k) b := by omega
  rw [e1, bal_inj k (by simpa using ha) (by simpa using hb) (fun z hz => h1 z (List.mem_cons_of_mem _ hz)) (fun z hz => h2 z (List.mem_cons_of_mem _ hz)) e2]
def lat (T : Nat → Bool) (k : Nat) : List Int := (List.range k).map fun i => cond (T i) 0 1
theorem lat_len (T : Nat → Bool) (k : Nat) : (lat T k).length = k := by simp [lat]
theorem lat_get (T : Nat → Bool) {k i : Nat} (h : i < k) : (lat T k).getD i 0 = cond (T i) 0 1 := by simp [lat, List.getD, h]
theorem lat_way (T : Nat → Bool) (k : Nat) : ∀ x ∈ lat T k, Wt.IsWay x := fun x hx => by
 obtain ⟨i, _, rfl⟩ := List.mem_map.1 hx
 cases T i
 ·exact .inl rfl
 ·exact .inr (.inl rfl)
theorem bal_snoc : ∀ {v l : List Int} {w a : Int}, l.length = v.length → Wt.bal (v ++ [w]) (l ++ [a]) = Wt.bal v l + w * a
 | [], [], w, a, _ => by simp [Wt.bal]
 | [], _ :: _, w, a, h => by simp at h
 | _ :: _, [], w, a, h => by simp at h
 | x :: v, y :: l, w, a, h => by
  simp only [List.cons_append, Wt.bal]
  rw [bal_snoc (by simpa using h)]; omega
def p3 (i : Nat) : Int := (3 : Int) ^ i
theorem bal_lat (T : Nat → Bool) : ∀ k, Wt.bal (Wt.threes k) (lat T k) = ws p3 (fun i => !T i) k
 | 0 => rfl
 | k + 1 => by
  have e : lat T (k + 1) = lat T k ++ [cond (T k) 0 1] := by simp [lat, List.range_succ]
  rw [Wt.threes_succ, e, bal_snoc (by simp [lat, Wt.threes]), bal_lat T k, ws]
  cases T k <;> simp [p3]
structure Thr (l : List Od) (k : Nat) : Prop where
 len : l.length = k
 few : 1 ≤ k ∧ k ≤ 7
 fn : ∀ i, i < k → fnl l i = p3 i
 six : Ok6 l
theorem best_out {l : List Od} {k : Nat} (h : Thr l k) {T : Nat → Bool} (hT : BestS l T) : leastO l = ws p3 (fun i => !T i) k := by
 have h1 := hT.2
 have h2 := ws_split (fnl l) (fun _ => true) T l.length
 simp only [Bool.true_and] at h2
 have e : ws (fnl l) (fun i => T i) l.length = ws (fnl l) T l.length := rfl
 have e3 : ws (fnl l) (fun i => !T i) l.length = ws p3 (fun i => !T i) k := by
  rw [h.len]; exact ws_congr (fun _ _ => rfl) fun i hi _ => h.fn i hi
 unfold tot at h1
 omega
theorem best_one {l : List Od} {k : Nat} (h : Thr l k) {T T' : Nat → Bool} (hT : BestS l T) (hT' : BestS l T') {i : Nat} (hi : i < k) : T i = T' i := by
 have e : lat T k = lat T' k := bal_inj k (lat_len _ _) (lat_len _ _) (lat_way _ _) (lat_way _ _) (by rw [bal_lat, bal_lat, ← best_out h hT, ← best_out h hT'])
 have := congrArg (fun l => l.getD i 0) e
 simp only [lat_get _ hi] at this
 cases h1 : T i <;> cases h2 : T' i <;> simp [h1, h2] at this ⊢
def btS (l : List Od) : Nat → Bool := mem (greedy l [])
theorem bst_best {l : List Od} (h : Ok6 l) : BestS l (btS l) := greedy_best h
theorem alw_bst {l : List Od} {k : Nat} (h : Thr l k) {i : Nat} (hi : i < k) : alwP l i = btS l i := by
 have := alw_iff h.six (i := i) (by rw [h.len]; exact hi)
 cases e : btS l i with
 | true => exact decide_eq_true (this.2 fun T hT => by rw [best_one h hT (bst_best h.six) hi, e])
 | false => exact decide_eq_false fun h2 => by have := this.1 h2 _ (bst_best h.six); rw [e] at this; cases this
theorem nev_bst {l : List Od} {k : Nat} (h : Thr l k) {i : Nat} (hi : i < k) : nevP l i = !btS l i := by
 have := nevP_iff h.six (i := i) (by rw [h.len]; exact hi)
 cases e : btS l i with
 | true =>
  cases e2 : nevP l i with
  | false => rfl
  | true => have := this.1 e2 _ (bst_best h.six); rw [e] at this; cases this
 | false => exact this.2 fun T hT => by rw [best_one h hT (bst_best h.six) hi, e]
theorem wor_bst {l : List Od} {k : Nat} (h : Thr l k) {i : Nat} (hi : i < k) : (leastO l - leastO (wo l i) == p3 i) = !btS l i := by
 have hil : i < l.length := by rw [h.len]; exact hi
 have hf := h.fn i hi
 have h1 := alw_iff h.six hil
 obtain ⟨w1, T, w2, w3, w4⟩ := wo_least h.six hil
 have h3 := (leastO_ok h.six).1 T w2
 cases e : btS l i with
 | true =>
  have := h1.2 fun T hT => by rw [best_one h hT (bst_best h.six) hi, e]
  exact beq_false_of_ne (by omega)
 | false =>
  have : ¬ leastO l < fnl l i + leastO (wo l i) := fun h2 => by have := h1.1 h2 _ (bst_best h.six); rw [e] at this; cases this
  rw [Bool.not_false, beq_iff_eq]; omega
theorem lay_bst {l : List Od} {k : Nat} (h : Thr l k) : Wt.layS (Wt.threes k) (leastO l) = (lat (btS l) k, 0) := by
 have hw := Wt.threes_ok k (Wt.few_mem h.few)
 have hb : Wt.bal (Wt.threes k) (lat (btS l) k) = leastO l := by rw [bal_lat, ← best_out h (bst_best h.six)]
 have hlen : (Wt.threes k).length = k := Wt.threes_len k
 have hm : lat (btS l) k ∈ Wt.lays (Wt.threes k).length := Wt.mem_lays.2 ⟨by rw [lat_len, hlen], lat_way _ _⟩
 rw [Wt.layS, show (Wt.wE (Wt.threes k) == 0) = true by rw [hw]; rfl, cond_true]
 rcases Wt.best_inv (ws := Wt.threes k) (load := leastO l) (by rw [hlen]; exact h.few.2) with ⟨_, h2⟩ | ⟨h1, h2, h3, _⟩
 ·exact absurd hb (h2 _ hm)
 ·have h4 := List.mem_of_find?_eq_some h3
  have h5 := List.find?_some h3
  simp only [Bool.and_eq_true, beq_iff_eq] at h5
  obtain ⟨m1, m2⟩ := Wt.mem_lays.1 h4
  have : (Wt.bestS (Wt.threes k) (leastO l)).1 = lat (btS l) k := bal_inj k (by rw [m1, hlen]) (lat_len _ _) m2 (lat_way _ _) (h5.1.trans hb.symm)
  rw [Wt.layF_lo (by omega), this]
theorem reach_bst {l : List Od} {k : Nat} (h : Thr l k) : ∃ r, Wt.reachS (Wt.threes k) = (r, 0) ∧ leastO l ≤ r ∧ 0 ≤ leastO l := by
 have hw := Wt.threes_ok k (Wt.few_mem h.few)
 refine ⟨Wt.rl 0 (Wt.posL (Wt.threes k)), by rw [Wt.reachS, hw]; rfl, ?_, (leastO_rng h.six).1⟩
 obtain ⟨m, e, h0, hr⟩ := Wt.threes_R k
 have hle : leastO l ≤ m := by
  have hb : Wt.bal (Wt.threes k) (lat (btS l) k) = leastO l := by rw [bal_lat, ← best_out h (bst_best h.six)]
  have hR : Wt.R (Wt.threes k) (leastO l) := ⟨_, by rw [lat_len, Wt.threes_len], lat_way _ _, hb⟩
  have h2 := (Wt.R_le (fun w hw => by
   obtain ⟨i, _, rfl⟩ := List.mem_map.1 hw
   exact Int.le_of_lt (Int.pow_pos (by omega))) hR).2
  have h3 : ∀ j : Nat, 2 * (Wt.threes j).sum + 1 = (3 : Int) ^ j := fun j => by
   induction j with
   | zero => rfl
   | succ j ih => rw [Wt.threes_succ, List.sum_append, Int.pow_succ]; simp; omega
  have := h3 k
  omega
 exact Int.le_trans hle (Wt.reach_ge h0 fun x a b => hr x (by omega) (by omega))
theorem bal_bst {l : List Od} {k : Nat} (h : Thr l k) : Wt.balE (Wt.threes k) (lat (btS l) k) (leastO l) = 0 := by
 have hw := Wt.threes_ok k (Wt.few_mem h.few)
 have hb : Wt.bal (Wt.threes k) (lat (btS l) k) = leastO l := by rw [bal_lat, ← best_out h (bst_best h.six)]
 have ho : Wt.okLay (lat (btS l) k) = true := Wt.okLay_iff.2 (lat_way _ _)
 rw [Wt.balE, hw, lat_len, Wt.threes_len, ho, hb]
 simp
def dayN (ds : List Int) (i : Nat) : Int := if i < ds.length then 1 + ds.getD i 0 % 5 else 1
def dueL (ds w : List Int) : List Od := (List.range w.length).map fun i => (dayN ds i, (w.getD i 0, ()))
def u8L (ds : List Int) : Prop := ∀ x ∈ ds, 0 ≤ x ∧ x ≤ 255
theorem u8L.at {ds : List Int} (h : u8L ds) {i : Nat} (hi : i < ds.length) : 0 ≤ ds.getD i 0 ∧ ds.getD i 0 ≤ 255 := by
 rw [List.getD_eq_getElem?_getD, List.getElem?_eq_getElem hi]
 exact h _ (List.getElem_mem hi)
theorem dayN_rng (ds : List Int) (i : Nat) : 1 ≤ dayN ds i ∧ dayN ds i ≤ 5 := by
 unfold dayN; split <;> omega
open Classical in
noncomputable def B5 (ds w : List Int) : Option (List Od) := if u8L ds ∧ w.length ≤ 12 then some (dueL ds w) else none
theorem KB5 : FnOk Tryz.prog 5 (F5 B5) := ok5 B5 fun ds w r h => ⟨1001, by
 simp only [B5] at h
 split at h
 ·rename_i hh
  obtain ⟨hd, hw⟩ := hh
  rw [← h, m5]
  have main := rangeIx w 0 (fun n (o : List Od) t => l5a 1001 ds w n t o) (fun t xs o => o = (dueL ds w).take t ∧ t + xs.length = w.length) (fun _ _ _ => some (dueL ds w))
   (fun n o t x rest ht hx hI ih => by
    obtain ⟨rfl, hl⟩ := hI
    have hlen : ((dueL ds w).take t).length = t := by simp [dueL]; omega
    have hsm := small_of (n := t + 1) (eb := 16) (by omega) (by decide)
    have hstep : (dueL ds w).take t ++ [(dayN ds t, (x, ()))] = (dueL ds w).take (t + 1) := by
     rw [List.take_add_one]; congr 1
     simp [dueL, ht]
     rw [← hx, List.getD_eq_getElem?_getD, List.getElem?_eq_getElem ht]; rfl
    simp only [l5a, ixA ht, ixB ht, cond_true, chk_true, Int.toNat_natCast, hx, hlen, hsm, ixW ht (by omega)]
    have nx := ih ((dueL ds w).take (t + 1)) ⟨rfl, by simp only [List.length_cons] at hl; omega⟩
    by_cases c : t < ds.length
    ·have hb := hd.at c
     rw [decide_eq_true (show (t : Int) < (ds.length : Int) by omega), cond_true, decide_eq_true (show (0 : Int) ≤ (t : Int) ∧ (t : Int) < (ds.length : Int) by omega), chk_true]
     have e : w64 ((1 : Int) + Int.tmod (w64 (ds.getD t 0)) 5) = dayN ds t := by
      rw [w64_small (x := ds.getD t 0) (by omega), Int.tmod_eq_emod_of_nonneg hb.1, w64_small (by omega), dayN, if_pos c]
     rw [e, hstep]; exact nx
    ·rw [decide_eq_false (show ¬ (t : Int) < (ds.length : Int) by omega), cond_false]
     have e : (1 : Int) = dayN ds t := by rw [dayN, if_neg c]
     rw [show ([((1 : Int), (x, ()))] : List Od) = [(dayN ds t, (x, ()))] by rw [← e], hstep]; exact nx)
   (fun n o hI => by
    obtain ⟨rfl, _⟩ := hI
    simp only [l5a, ixE, cond_false]
    rw [List.take_of_length_le (by simp [dueL])]) 1001 [] (by omega) ⟨by simp, by simp⟩
  exact main
 ·cases h⟩
theorem dueL_len (ds w : List Int) : (dueL ds w).length = w.length := by simp [dueL]
theorem dueL_get {ds w : List Int} {i : Nat} (h : i < w.length) : (dueL ds w).getD i d3 = (dayN ds i, (w.getD i 0, ())) := by
 simp [dueL, List.getD, h]
theorem threes_get {k i : Nat} (h : i < k) : (Wt.threes k).getD i 0 = p3 i := by simp [Wt.threes, List.getD, h, p3]
theorem p3_rng : ∀ i, i < 7 → 1 ≤ p3 i ∧ p3 i ≤ 729 := by decide
theorem thr_due (ds : List Int) {k : Nat} (hk : 1 ≤ k ∧ k ≤ 7) : Thr (dueL ds (Wt.threes k)) k ∧ ckO (dueL ds (Wt.threes k)) = 0 := by
 have hl : (dueL ds (Wt.threes k)).length = k := by rw [dueL_len, Wt.threes_len]
 have hc : ckO (dueL ds (Wt.threes k)) = 0 := by
  have hb : (dueL ds (Wt.threes k)).any badO = false := by
   rw [List.any_eq_false]
   intro o ho
   obtain ⟨i, hi, rfl⟩ := List.mem_map.1 ho
   have hi : i < k := by simpa [Wt.threes_len] using hi
   have h1 := dayN_rng ds i
   have h2 := p3_rng i (by omega)
   rw [threes_get hi]
   simp only [badO, Bool.or_eq_true, Bool.not_eq_true', decide_eq_false_iff_not, not_or, Classical.not_not]
   omega
  rw [ckO, hb, hl, decide_eq_false (show ¬ k = 0 by omega), decide_eq_false (show ¬ 12 < k by omega)]; rfl
 exact ⟨⟨hl, hk, fun i hi => by rw [fnl, dueL_get (by rw [Wt.threes_len]; exact hi), threes_get hi], (okO_of hc)⟩, hc⟩
theorem mk3 {n0 : Nat} (hn : n0 ≤ 7) {r : Option Bool} (L : Nat → Int → List Int → Option Bool)
  (h1 : ∀ n x v, v.length < n0 → L (n + 1) x v = L n (w64 (x * 3)) (v ++ [x])) (h2 : ∀ n, L (n + 1) (p3 n0) (Wt.threes n0) = r) : ∀ (m j n : Nat), j + m = n0 → m < n → L n (p3 j) (Wt.threes j) = r
 | 0, j, n + 1, hj, _ => by
  obtain rfl : j = n0 := by omega
  exact h2 n
 | m + 1, j, n + 1, hj, hm => by
  have hp : w64 (p3 j * 3) = p3 (j + 1) := by
   have := p3_rng j (by omega)
   rw [w64_small (by omega), p3, p3, Int.pow_succ]
  rw [h1 n _ _ (by rw [Wt.threes_len]; omega), hp, show Wt.threes j ++ [p3 j] = Wt.threes (j + 1) by rw [Wt.threes_succ]; rfl]
  exact mk3 hn L h1 h2 m (j + 1) n (by omega) (by omega)
theorem nev_lat {l : List Od} {k : Nat} (h : Thr l k) : lstF (nevP l) k 0 = lstF (fun i => !btS l i) k 0 := lstF_congr fun i _ hi => nev_bst h (by omega)
theorem alw_lat {l : List Od} {k : Nat} (h : Thr l k) : lstF (alwP l) k 0 = lstF (btS l) k 0 := lstF_congr fun i _ hi => alw_bst h (by omega)
theorem cnt_not (p : Nat → Bool) : ∀ n, cnt p n + cnt (fun i => !p i) n = n
 | 0 => rfl
 | n + 1 => by
  have := cnt_not p n
  simp only [cnt]
  cases p n <;> simp <;> omega
theorem put_lat (p : Nat → Bool) {k : Nat} : ∀ (xs : List Int) (o : List Int), o.length = k → (∀ x ∈ xs, 0 ≤ x ∧ x < k) → (xs.foldl (fun o x => o.set x.toNat 1) o).length = k ∧ ∀ i, i < k → (xs.foldl (fun o x => o.set x.toNat 1) o).getD i 0 = if (i : Int) ∈ xs then 1 else o.getD i 0
 | [], o, ho, _ => ⟨ho, fun i _ => by simp⟩
 | x :: xs, o, ho, hx => by
  obtain ⟨a, b⟩ := put_lat p xs (o.set x.toNat 1) (by simpa using ho) fun y hy => hx y (List.mem_cons_of_mem _ hy)
  have hx0 := hx x (List.mem_cons_self ..)
  refine ⟨a, fun i hi => ?_⟩
  rw [List.foldl_cons, b i hi]
  by_cases c : (i : Int) ∈ xs
  ·rw [if_pos c, if_pos (List.mem_cons_of_mem _ c)]
  ·rw [if_neg c]
   by_cases e : (i : Int) = x
   ·subst e
    rw [if_pos (List.mem_cons_self ..), Int.toNat_natCast]; simp [List.getD, ho, hi]
   ·rw [if_neg (by simp [c, e])]
    have : x.toNat ≠ i := by omega
    simp [List.getD, this]
theorem put_all {l : List Od} {k : Nat} (p : Nat → Bool) : (lstF (fun i => !p i) k 0).foldl (fun o x => o.set x.toNat 1) (List.replicate k 0) = lat p k := by
 obtain ⟨a, b⟩ := put_lat p (k := k) (lstF (fun i => !p i) k 0) (List.replicate k 0) (by simp) fun x hx => by
  have := lstF_mem.1 hx; omega
 refine List.ext_getElem? fun i => ?_
 by_cases hi : i < k
 ·have h1 := b i hi
  have h2 := lat_get p hi
  rw [List.getD_eq_getElem?_getD, List.getElem?_eq_getElem (by rw [a]; exact hi)] at h1
  rw [List.getD_eq_getElem?_getD, List.getElem?_eq_getElem (by rw [lat_len]; exact hi)] at h2
  rw [List.getElem?_eq_getElem (by rw [a]; exact hi), List.getElem?_eq_getElem (by rw [lat_len]; exact hi)]
  simp only [Option.getD_some] at h1 h2
  rw [h1, h2]
  congr 1
  cases e : p i with
  | true =>
   rw [if_neg]
   ·simp [List.getD, hi]
   ·intro hm
    have := (lstF_mem.1 hm).2.2
    rw [Int.toNat_natCast, e] at this; cases this
  | false => rw [if_pos]; rfl; exact lstF_mem.2 ⟨by omega, by omega, by rw [Int.toNat_natCast, e]; rfl⟩
 ·rw [List.getElem?_eq_none (by rw [a]; omega), List.getElem?_eq_none (by rw [lat_len]; omega)]
theorem K12t : FnOk Tryz.prog 12 (F12 (some true)) := fun args o x h => by
 simp only [F12] at h
 split at h
 ·obtain rfl := Option.some.inj h; exact H12 [] [] _ works12
 ·cases h
open Classical in
noncomputable def B4 (ds : List Int) (o : Int) : Option Bool := if u8L ds ∧ 0 ≤ o ∧ o ≤ 255 then some true else none
theorem l4b_ok {N : Nat} {o : Int} {l : List Od} {k : Nat} (hk : w64 ((1 : Int) + Int.tmod (w64 o) 7) = (k : Int)) (h : Thr l k) {r2 : Int × Int} {r4 r6 : List Int × Int} (h4 : r4.1 = lstF (fun i => !btS l i) k 0) (hN : 1001 ≤ N) :
  l4b B10 (some true) B13 B14 B15 Wt.BLay Wt.B17 B18 Wt.B19 B5 N o (Wt.threes k) l r2 r4 r6 N 0 (List.replicate k 0) = l4c B10 (some true) B13 B14 B15 Wt.BLay Wt.B17 B18 Wt.B19 B5 N (Wt.threes k) l r2 r6 (lat (btS l) k) N 0 := by
 have hlen : r4.1.length ≤ k := by rw [h4]; exact lstF_len _ _ _
 have hkk := h.few
 have main := rangeInv r4.1 0 (fun n (v : List Int) t => l4b B10 (some true) B13 B14 B15 Wt.BLay Wt.B17 B18 Wt.B19 B5 N o (Wt.threes k) l r2 r4 r6 n t v) (fun xs v => v.length = k ∧ (∀ x ∈ xs, 0 ≤ x ∧ x < (k : Int)))
  (fun xs v => l4c B10 (some true) B13 B14 B15 Wt.BLay Wt.B17 B18 Wt.B19 B5 N (Wt.threes k) l r2 r6 (xs.foldl (fun o x => o.set x.toNat 1) v) N 0)
  (fun n v t x rest ht hx hI ih => by
   obtain ⟨hv, hxs⟩ := hI
   have hx0 := hxs x (List.mem_cons_self ..)
   simp only [l4b, ixA ht, ixB ht, cond_true, chk_true, Int.toNat_natCast, hx, hk, ixW ht (by omega), hv]
   rw [decide_eq_false (show ¬ x < 0 by omega), cond_false, decide_eq_false (show ¬ x ≥ (k : Int) by omega), cond_false, decide_eq_true hx0, chk_true]
   exact ih _ ⟨by simpa using hv, fun y hy => hxs y (List.mem_cons_of_mem _ hy)⟩)
  (fun n v hI => by simp only [l4b, ixE, cond_false, List.foldl_nil]) N (List.replicate k 0) (by omega) ⟨by simp, fun x hx => by
   rw [h4] at hx
   have := lstF_mem.1 hx; omega⟩
 rw [main, h4, put_all (l := l)]
theorem l4c_ok {N : Nat} {l : List Od} {k : Nat} (h : Thr l k) (hc : ckO l = 0) {r2 : Int × Int} {r6 : List Int × Int} (h2 : r2.1 = leastO l) (h6 : r6.1 = lat (btS l) k) (hN : 1001 ≤ N) :
  l4c B10 (some true) B13 B14 B15 Wt.BLay Wt.B17 B18 Wt.B19 B5 N (Wt.threes k) l r2 r6 (lat (btS l) k) N 0 = some true := by
 have hkk := h.few
 have hll := lat_len (btS l) k
 refine rangeIx (lat (btS l) k) 0 (fun n (_ : Unit) t => l4c B10 (some true) B13 B14 B15 Wt.BLay Wt.B17 B18 Wt.B19 B5 N (Wt.threes k) l r2 r6 (lat (btS l) k) n t) (fun _ _ _ => True) (fun _ _ _ => some true)
  (fun n _ t x rest ht hx _ ih => ?_) (fun n _ _ => ?_) N () (by omega) trivial
 ·have htk : t < k := by omega
  have hb : B18 l (t : Int) = some (leastO l - leastO (wo l t), 0) := by
   rw [B18, if_pos (by rw [h.len]; omega), worO, if_pos hc, if_pos (by rw [h.len]; omega), Int.toNat_natCast]
  have hf : (l.getD t ((0 : Int), ((0 : Int), ()))).2.1 = p3 t := h.fn t htk
  simp only [l4c, ixA ht, ixB ht, cond_true, chk_true, Int.toNat_natCast, h6, hb, Option.bind_some, hf, ixW ht (by omega)]
  rw [show ((lat (btS l) k).getD t 0 != (lat (btS l) k).getD t 0) = false by simp, cond_false, decide_eq_true (show (0 : Int) ≤ (t : Int) ∧ (t : Int) < (l.length : Int) by rw [h.len]; omega), chk_true, wor_bst h htk, lat_get _ htk]
  have e : ((!btS l t) != ((cond (btS l t) (0 : Int) 1) == 1)) = false := by cases btS l t <;> rfl
  simp only [bne_self_eq_false, cond_false, e]
  exact ih () trivial
 ·have hr := leastO_rng h.six
  have hb : Wt.B19 (Wt.threes k) (lat (btS l) k) r2.1 = some 0 := by
   rw [Wt.B19, if_pos ⟨by omega, by rw [h2]; omega, by rw [h2]; omega⟩, h2, bal_bst h]
  simp only [l4c, ixE, cond_false, hb, Option.bind_some]
  rfl
theorem law4 {N : Nat} (hN : 1001 ≤ N) {ds : List Int} {o : Int} (hd : u8L ds) (h0 : 0 ≤ o) (h1 : o ≤ 255) : m4 B10 (some true) B13 B14 B15 Wt.BLay Wt.B17 B18 Wt.B19 B5 N ds o = some true := by
  rw [m4]
  have hk : w64 ((1 : Int) + Int.tmod (w64 o) 7) = (((1 + o % 7).toNat : Nat) : Int) := by
   rw [w64_small (x := o) (by omega), Int.tmod_eq_emod_of_nonneg h0, w64_small (by omega)]; omega
  obtain ⟨k, hkk⟩ : ∃ k : Nat, k = (1 + o % 7).toNat := ⟨_, rfl⟩
  rw [← hkk] at hk
  have hk7 : 1 ≤ k ∧ k ≤ 7 := by omega
  obtain ⟨hT, hc⟩ := thr_due ds hk7
  have h6 := hT.six
  have hlen : (dueL ds (Wt.threes k)).length = k := hT.len
  have key : ∀ n, l4a B10 (some true) B13 B14 B15 Wt.BLay Wt.B17 B18 Wt.B19 B5 N ds o (n + 1) (p3 k) (Wt.threes k) = some true := fun n => by
   have b5 : B5 ds (Wt.threes k) = some (dueL ds (Wt.threes k)) := by rw [B5]; exact if_pos ⟨hd, by rw [Wt.threes_len]; omega⟩
   generalize hl : dueL ds (Wt.threes k) = l at *
   have b10 : B10 l = some (leastO l, 0) := by rw [B10, if_pos (by omega), lea, if_pos hc]
   have b13 : B13 l = some (lstF (btS l) k 0, 0) := by rw [B13, if_pos (by omega), alwO, if_pos hc, hlen, alw_lat hT]
   have b14 : B14 l = some (lstF (fun i => !btS l i) k 0, 0) := by rw [B14, if_pos (by omega), nevO, if_pos hc, hlen, nev_lat hT]
   have b15 : B15 l = some (greedy l [], 0) := by rw [B15, if_pos (by omega), stO, if_pos hc]
   have b16 : Wt.BLay (Wt.threes k) (leastO l) = some (lat (btS l) k, 0) := by rw [Wt.BLay, lay_bst hT]
   obtain ⟨rr, e1, e2, e3⟩ := reach_bst hT
   have b17 : Wt.B17 (Wt.threes k) = some (rr, 0) := by rw [Wt.B17, e1]
   have hn := cnt_not (btS l) k
   have hg : (greedy l []).length = (lstF (btS l) k 0).length := by
    rw [cnt_len (greedy_gr h6).1, lstF_cnt, hlen]; exact cnt_congr fun i _ => by rw [Nat.zero_add]; rfl
   have ha : (lstF (btS l) k 0).length = cnt (btS l) k := by rw [lstF_cnt]; exact cnt_congr fun i _ => by rw [Nat.zero_add]
   have hb : (lstF (fun i => !btS l i) k 0).length = cnt (fun i => !btS l i) k := by rw [lstF_cnt]; exact cnt_congr fun i _ => by rw [Nat.zero_add]
   simp only [l4a, hk, Wt.threes_len, decide_eq_false (show ¬ ((k : Nat) : Int) < ((k : Nat) : Int) by omega), cond_false, b5, b10, b13, b14, b15, b16, b17, Option.bind_some, bne_self_eq_false, hg, lat_len]
   rw [show (w64 (((lstF (btS l) k 0).length : Int) + ((lstF (fun i => !btS l i) k 0).length : Int)) != (k : Int)) = false by
     rw [ha, hb, w64_small (by omega)]; simp; omega, cond_false, decide_eq_false (show ¬ leastO l < 0 by omega), cond_false, decide_eq_false (show ¬ leastO l > rr by omega), cond_false, mkOk_of (by omega) (by omega) (by omega) (by omega), chk_true, Int.toNat_natCast]
   rw [l4b_ok hk hT rfl hN]
   exact l4c_ok hT hc rfl rfl hN
  exact mk3 (n0 := k) hk7.2 (fun n x v => l4a B10 (some true) B13 B14 B15 Wt.BLay Wt.B17 B18 Wt.B19 B5 N ds o n x v) (fun n x v hv => by
   have hsm := small_of (n := v.length + 1) (eb := 8) (by omega) (by decide)
   simp only [l4a, hk, decide_eq_true (show (v.length : Int) < (k : Int) by omega), cond_true, hsm, chk_true]) (fun n => key n) k 0 N (by omega) (by omega)
theorem KB4 : FnOk Tryz.prog 4 (F4 B4) := ok4 B10 (some true) B13 B14 B15 Wt.BLay Wt.B17 B18 Wt.B19 B5 KB10 K12t KB13 KB14 KB15 Wt.KB16 Wt.KB17 KB18 Wt.KB19 KB5 B4 fun ds o r h => ⟨1001, by
 simp only [B4] at h
 split at h
 ·rename_i hh
  rw [← h]; exact law4 (Nat.le_refl _) hh.1 hh.2.1 hh.2.2
 ·cases h⟩
end Go.Proofs.YtjcnfpfldocpdaaGreatDoor
