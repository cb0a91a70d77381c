/-
 The law of the queue at the press.
-/
import Derived.Test.YtjcnfpfldocpdaaGreatDoorP8
import Derived.Test.YtjcnfpfldocpdaaGreatDoorWP
namespace Go.Proofs.YtjcnfpfldocpdaaGreatDoor
open Go.RowKit
set_option linter.unusedVariables false

def dayN (ds : List Int) (i : Nat) : Int := if i < ds.length then 1 + ds.getD i 0 % 5 else 1
def dueL (ds w : List Int) : List Od := (List.range w.length).map fun i => (dayN ds i, (w.getD i 0, ()))
def u8L (ds : List Int) : Prop := ∀ x ∈ ds, 0 ≤ x ∧ x ≤ 255
theorem u8L.at {ds : List Int} (h : u8L ds) {i : Nat} (hi : i < ds.length) : 0 ≤ ds.getD i 0 ∧ ds.getD i 0 ≤ 255 := by
 rw [List.getD_eq_getElem?_getD, List.getElem?_eq_getElem hi]
 exact h _ (List.getElem_mem hi)
theorem dayN_rng (ds : List Int) (i : Nat) : 1 ≤ dayN ds i ∧ dayN ds i ≤ 5 := by
 unfold dayN; split <;> omega
open Classical in
noncomputable def B5 (ds w : List Int) : Option (List Od) := if u8L ds ∧ w.length ≤ 12 then some (dueL ds w) else none
theorem KB5 : FnOk Tryz.prog 5 (F5 B5) := ok5 B5 fun ds w r h => ⟨1001, by
 simp only [B5] at h
 split at h
 ·rename_i hh
  obtain ⟨hd, hw⟩ := hh
  rw [← h, m5]
  have main := rangeIx w 0 (fun n (o : List Od) t => l5a 1001 ds w n t o) (fun t xs o => o = (dueL ds w).take t ∧ t + xs.length = w.length) (fun _ _ _ => some (dueL ds w))
   (fun n o t x rest ht hx hI ih => by
    obtain ⟨rfl, hl⟩ := hI
    have hlen : ((dueL ds w).take t).length = t := by simp [dueL]; omega
    have hsm := small_of (n := t + 1) (eb := 16) (by omega) (by decide)
    have hstep : (dueL ds w).take t ++ [(dayN ds t, (x, ()))] = (dueL ds w).take (t + 1) := by
     rw [List.take_add_one]; congr 1
     simp [dueL, ht]
     rw [← hx, List.getD_eq_getElem?_getD, List.getElem?_eq_getElem ht]; rfl
    simp only [l5a, ixA ht, ixB ht, cond_true, chk_true, Int.toNat_natCast, hx, hlen, hsm, ixW ht (by omega)]
    have nx := ih ((dueL ds w).take (t + 1)) ⟨rfl, by simp only [List.length_cons] at hl; omega⟩
    by_cases c : t < ds.length
    ·have hb := hd.at c
     rw [decide_eq_true (show (t : Int) < (ds.length : Int) by omega), cond_true, decide_eq_true (show (0 : Int) ≤ (t : Int) ∧ (t : Int) < (ds.length : Int) by omega), chk_true]
     have e : w64 ((1 : Int) + Int.tmod (w64 (ds.getD t 0)) 5) = dayN ds t := by
      rw [w64_small (x := ds.getD t 0) (by omega), Int.tmod_eq_emod_of_nonneg hb.1, w64_small (by omega), dayN, if_pos c]
     rw [e, hstep]; exact nx
    ·rw [decide_eq_false (show ¬ (t : Int) < (ds.length : Int) by omega), cond_false]
     have e : (1 : Int) = dayN ds t := by rw [dayN, if_neg c]
     rw [show ([((1 : Int), (x, ()))] : List Od) = [(dayN ds t, (x, ()))] by rw [← e], hstep]; exact nx)
   (fun n o hI => by
    obtain ⟨rfl, _⟩ := hI
    simp only [l5a, ixE, cond_false]
    rw [List.take_of_length_le (by simp [dueL])]) 1001 [] (by omega) ⟨by simp, by simp⟩
  exact main
 ·cases h⟩
theorem dueL_len (ds w : List Int) : (dueL ds w).length = w.length := by simp [dueL]
theorem K12t : FnOk Tryz.prog 12 (F12 (some true)) := fun args o x h => by
 simp only [F12] at h
 split at h
 ·obtain rfl := Option.some.inj h; exact H12 [] [] _ works12
 ·cases h
def back (L : Nat) : List Int := (List.range L).map fun i => ((L - i : Nat) : Int)
theorem back_len (L : Nat) : (back L).length = L := by simp [back]
theorem back_get {L i : Nat} (h : i < L) : (back L).getD i 0 = ((L - i : Nat) : Int) := by simp [back, List.getD, h]
theorem back_nodup (L : Nat) : (back L).Nodup := by
 refine List.pairwise_map.2 ?_
 refine List.Pairwise.imp_of_mem ?_ List.nodup_range
 intro a b ha hb hab
 rw [List.mem_range] at ha hb
 omega
theorem back_rg {L : Nat} (hL : L ≤ 12) : ∀ x ∈ back L, 1 ≤ x ∧ x ≤ 42 := by
 intro x hx
 obtain ⟨i, hi, rfl⟩ := List.mem_map.1 hx
 rw [List.mem_range] at hi; omega
def ltP (l : List Od) (i : Nat) : Bool := decide ((back l.length).getD i 0 > (l.getD i d3).1)
def lateO (l : List Od) : Int := ws (fnl l) (ltP l) l.length
theorem fin_back {l : List Od} (hc : ckO l = 0) : finP l (back l.length) = (lateO l, 0) := by
 have := (ckO_ok hc).len
 rw [finP, if_pos hc, if_pos (back_len _), fnR_ok (back l.length) [] 0 (by simpa using back_nodup _) (back_rg this) rfl]
 simp only [List.nil_append, back_len]; rfl
theorem cnt_from {p : Nat → Bool} {m : Nat} : ∀ {n : Nat}, (∀ i, i < n → p i = true → m ≤ i) → cnt p n ≤ n - m
 | 0, _ => by simp [cnt]
 | n + 1, h => by
  have ih := cnt_from (n := n) fun i hi => h i (by omega)
  rw [cnt]
  cases e : p n with
  | false => simp; omega
  | true => have := h n (by omega) e; simp; omega
theorem least_late {l : List Od} (hc : ckO l = 0) : leastO l ≤ lateO l := by
 have hok := ckO_ok hc
 have h := (leastO_ok (okO_of hc)).1 (fun i => !ltP l i) fun d => by
  refine Nat.le_trans (cnt_from (m := l.length - d) fun i hi hp => ?_) (by omega)
  simp only [Bool.and_eq_true, Bool.not_eq_true', ltP, decide_eq_false_iff_not, decide_eq_true_eq] at hp
  rw [back_get hi, dyl] at hp
  omega
 have h2 := ws_split (fnl l) (fun _ => true) (ltP l) l.length
 simp only [Bool.true_and] at h2
 unfold tot at h
 have e1 : ws (fnl l) (fun i => ltP l i) l.length = lateO l := rfl
 rw [e1] at h2
 have e2 : ws (fnl l) (fun i => !ltP l i) l.length = ws (fnl l) (fun i => !ltP l i) l.length := rfl
 omega
theorem l3e_ok {l : List Od} (hc : ckO l = 0) : l3e B10 B11 (some true) B5 B6 B7 B8 B9 1001 l (back l.length) 1001 0 0 = some true := by
 have hok := ckO_ok hc
 have hlen := hok.len
 refine rangeIx l d3 (fun n (s : Int) t => l3e B10 B11 (some true) B5 B6 B7 B8 B9 1001 l (back l.length) n s t) (fun t xs s => s = ws (fnl l) (ltP l) t ∧ t + xs.length = l.length ∧ 0 ≤ s ∧ s ≤ 10000 * (t : Int)) (fun _ _ _ => some true)
  (fun n s t x rest ht hx hI ih => ?_) (fun n s hI => ?_) 1001 0 (by omega) ⟨rfl, by simp, by omega, by omega⟩
 ·obtain ⟨e, hl, h0, h1⟩ := hI
  have hP := back_get ht
  have hb : decide (0 ≤ (t : Int) ∧ (t : Int) < ((back l.length).length : Int)) = true := decide_eq_true (by rw [back_len]; omega)
  have hft := hok.six.fn (show t < l.length by omega)
  have hf : (l.getD t ((0 : Int), ((0 : Int), ()))).2.1 = fnl l t := rfl
  have nx := ih (cond (ltP l t) (s + fnl l t) s) ⟨by rw [ws, ← e]; cases ltP l t <;> simp, by simp only [List.length_cons] at hl; omega, by cases ltP l t <;> simp <;> omega, by cases ltP l t <;> simp <;> omega⟩
  have hlt : ltP l t = decide (((l.length - t : Nat) : Int) > (l.getD t ((0 : Int), ((0 : Int), ()))).1) := by rw [ltP, hP]
  simp only [l3e, ixA ht, ixB ht, cond_true, chk_true, Int.toNat_natCast, ixW ht (by omega), hb, hP, decide_eq_false (show ¬ ((l.length - t : Nat) : Int) < 1 by omega), decide_eq_false (show ¬ ((l.length - t : Nat) : Int) > (l.length : Int) by omega), cond_false, hf, ← hlt]
  cases q : ltP l t with
  | true =>
   rw [q, cond_true] at nx
   rw [cond_true, w64_small (by omega)]; exact nx
  | false =>
   rw [q, cond_false] at nx
   exact nx
 ·obtain ⟨e, _⟩ := hI
  have e2 : s = lateO l := e
  have q1 : ((0 : Int) != 0) = false := rfl
  have q2 : (lateO l != lateO l) = false := by simp
  have hle := least_late hc
  have h9 : B9 l (back l.length) = some (lateO l, 0) := by rw [B9, if_pos (by omega), fin_back hc]
  have h10 : B10 l = some (leastO l, 0) := by rw [B10, if_pos (by omega), lea, if_pos hc]
  have h11 : B11 l (back l.length) = some (cond (decide (lateO l > leastO l)) 14 0) := by
   rw [B11, if_pos (by omega), verP, fin_back hc]; rfl
  simp only [l3e, ixE, cond_false, h9, h10, h11, Option.bind_some, q1, e2, q2, decide_eq_false (show ¬ leastO l > lateO l by omega)]
  by_cases q : lateO l > leastO l
  ·have : (lateO l == leastO l) = false := by simp; omega
   rw [this, decide_eq_true q]; rfl
  ·have : (lateO l == leastO l) = true := by simp; omega
   rw [this, decide_eq_false q]; rfl
def k3c (a10 : Y10) (a11 : Y11) (a12 : Y12) (a5 : Y5) (a6 : Y6) (a7 : Y7) (a8 : Y8) (a9 : Y9) (N : Nat) (l : List Od) (r2 : List (Int × List Int × Unit) × Int) (K : List Int → Option Bool) : Nat → Int → Int → List Int → Option Bool
 | 0, _, _, _ => none
 | n + 1, day17_c, t107_c, o104_c => cond (decide (t107_c < (r2.1.length : Int))) (chk (decide (0 ≤ t107_c ∧ t107_c < (r2.1.length : Int))) (cond (decide (((r2.1.getD t107_c.toNat ((0 : Int), (([] : List Int), ()))).1) < (1 : Int))) (some false)
   (cond (decide (((r2.1.getD t107_c.toNat ((0 : Int), (([] : List Int), ()))).1) > (6 : Int))) (some false)
   (cond (((((r2.1.getD t107_c.toNat ((0 : Int), (([] : List Int), ()))).2).1).length : Int) != (l.length : Int)) (some false)
   ((l3d a10 a11 a12 a5 a6 a7 a8 a9 N l r2 day17_c t107_c (fun y0 y1 y2 => (k3c a10 a11 a12 a5 a6 a7 a8 a9 N l r2 K n y0 y1 y2)) N (0 : Int) o104_c))))))
   (K o104_c)
theorem c_k (a10 : Y10) (a11 : Y11) (a12 : Y12) (a5 : Y5) (a6 : Y6) (a7 : Y7) (a8 : Y8) (a9 : Y9) (N : Nat) (l : List Od) (r2 : List (Int × List Int × Unit) × Int) : ∀ (n : Nat) (d t : Int) (o : List Int), l3c a10 a11 a12 a5 a6 a7 a8 a9 N l r2 n d t o = k3c a10 a11 a12 a5 a6 a7 a8 a9 N l r2 (fun o => l3e a10 a11 a12 a5 a6 a7 a8 a9 N l o N 0 0) n d t o
 | 0, _, _, _ => rfl
 | n + 1, d, t, o => by simp only [l3c, k3c, c_k a10 a11 a12 a5 a6 a7 a8 a9 N l r2 n]
def k3b (a10 : Y10) (a11 : Y11) (a12 : Y12) (a5 : Y5) (a6 : Y6) (a7 : Y7) (a8 : Y8) (a9 : Y9) (N : Nat) (K : List Od → List Int → Option Bool) : Nat → List Od → Int → Int → List (List Int) → Option Bool
 | 0, _, _, _, _ => none
 | n + 1, l7_b, t56_b, t57_b, work8_b => cond (decide (t57_b < t56_b)) (chk (small (work8_b.length + 1) 24) ((k3b a10 a11 a12 a5 a6 a7 a8 a9 N K n l7_b t56_b (w64 (t57_b + (1 : Int))) (work8_b ++ ([([(1 : Int)] : List Int)] : List (List Int))))))
   ((a6 work8_b (1 : Int)).bind fun r2 =>
   (a7 work8_b (1 : Int) r2.1).bind fun r3 =>
   (a8 work8_b (1 : Int)).bind fun r4 =>
   cond (r2.2 != (0 : Int)) (some false)
   (cond (r3.2 != (0 : Int)) (some false)
   (cond (r4.2.2 != (0 : Int)) (some false)
   (cond (r3.1 != (l7_b.length : Int)) (some false)
   (cond ((r4.2.1.length : Int) != (1 : Int)) (some false)
   (chk (mkOk (l7_b.length : Int) (l7_b.length : Int) 8) ((k3c a10 a11 a12 a5 a6 a7 a8 a9 N l7_b r2 (K l7_b) N (0 : Int) (0 : Int) (List.replicate ((l7_b.length : Int).toNat) (0 : Int))))))))))
theorem c_b (a10 : Y10) (a11 : Y11) (a12 : Y12) (a5 : Y5) (a6 : Y6) (a7 : Y7) (a8 : Y8) (a9 : Y9) (N : Nat) : ∀ (n : Nat) (l : List Od) (t u : Int) (w : List (List Int)), l3b a10 a11 a12 a5 a6 a7 a8 a9 N n l t u w = k3b a10 a11 a12 a5 a6 a7 a8 a9 N (fun l o => l3e a10 a11 a12 a5 a6 a7 a8 a9 N l o N 0 0) n l t u w
 | 0, _, _, _, _ => rfl
 | n + 1, l, t, u, w => by simp only [l3b, k3b, c_k, c_b a10 a11 a12 a5 a6 a7 a8 a9 N n]
section
variable (a10 : Y10) (a11 : Y11) (a12 : Y12) (a5 : Y5) (a9 : Y9) (K : List Od → List Int → Option Bool)
theorem c1_ (x1 : Od) : k3b a10 a11 a12 a5 B6 B7 B8 a9 1001 K 1001 [x1] 1 0 [] = K [x1] [1] := by kernel_rfl
theorem c2_ (x1 x2 : Od) : k3b a10 a11 a12 a5 B6 B7 B8 a9 1001 K 1001 [x1, x2] 2 0 [] = K [x1, x2] [2, 1] := by kernel_rfl
theorem c3_ (x1 x2 x3 : Od) : k3b a10 a11 a12 a5 B6 B7 B8 a9 1001 K 1001 [x1, x2, x3] 3 0 [] = K [x1, x2, x3] [3, 2, 1] := by kernel_rfl
theorem c4_ (x1 x2 x3 x4 : Od) : k3b a10 a11 a12 a5 B6 B7 B8 a9 1001 K 1001 [x1, x2, x3, x4] 4 0 [] = K [x1, x2, x3, x4] [4, 3, 2, 1] := by kernel_rfl
theorem c5_ (x1 x2 x3 x4 x5 : Od) : k3b a10 a11 a12 a5 B6 B7 B8 a9 1001 K 1001 [x1, x2, x3, x4, x5] 5 0 [] = K [x1, x2, x3, x4, x5] [5, 4, 3, 2, 1] := by kernel_rfl
theorem c6_ (x1 x2 x3 x4 x5 x6 : Od) : k3b a10 a11 a12 a5 B6 B7 B8 a9 1001 K 1001 [x1, x2, x3, x4, x5, x6] 6 0 [] = K [x1, x2, x3, x4, x5, x6] [6, 5, 4, 3, 2, 1] := by kernel_rfl
end
theorem l3b_ok {l : List Od} (hc : ckO l = 0) (h6 : l.length ≤ 6) : l3b B10 B11 (some true) B5 B6 B7 B8 B9 1001 1001 l (l.length : Int) 0 [] = some true := by
 have main := l3e_ok hc
 have h0 := (ckO_ok hc).pos
 match l, h6, h0, main with
 | [x1], _, _, main => exact (c_b ..).trans ((c1_ ..).trans main)
 | [x1, x2], _, _, main => exact (c_b ..).trans ((c2_ ..).trans main)
 | [x1, x2, x3], _, _, main => exact (c_b ..).trans ((c3_ ..).trans main)
 | [x1, x2, x3, x4], _, _, main => exact (c_b ..).trans ((c4_ ..).trans main)
 | [x1, x2, x3, x4, x5], _, _, main => exact (c_b ..).trans ((c5_ ..).trans main)
 | [x1, x2, x3, x4, x5, x6], _, _, main => exact (c_b ..).trans ((c6_ ..).trans main)
 | _ :: _ :: _ :: _ :: _ :: _ :: _ :: _, h, _, _ => exact absurd h (by simp)
theorem due_ok {ds w : List Int} (h0 : w ≠ []) (h6 : w.length ≤ 6) (hw : ∀ x ∈ w, 0 ≤ x ∧ x ≤ 49) : ckO (dueL ds w) = 0 := by
 have hl := dueL_len ds w
 have hp : 0 < w.length := List.length_pos_iff.2 h0
 have hb : (dueL ds w).any badO = false := by
  rw [List.any_eq_false]
  intro o ho
  obtain ⟨i, hi, rfl⟩ := List.mem_map.1 ho
  have hi : i < w.length := by simpa using hi
  have h1 := dayN_rng ds i
  have h2 := hw (w.getD i 0) (by rw [List.getD_eq_getElem?_getD, List.getElem?_eq_getElem hi]; exact List.getElem_mem hi)
  simp only [badO, Bool.or_eq_true, Bool.not_eq_true', decide_eq_false_iff_not, not_or, Classical.not_not]
  omega
 rw [ckO, hb, hl, decide_eq_false (show ¬ w.length = 0 by omega), decide_eq_false (show ¬ 12 < w.length by omega)]; rfl
open Classical in
noncomputable def B3 (ds fs : List Int) : Option Bool := if u8L ds ∧ u8L fs then some true else none
theorem l3a_ok {ds fs : List Int} (hd : u8L ds) (hf : u8L fs) : ∀ (m i n : Nat) (f : List Int), i + m = 6 → m < n → f.length = i → (∀ x ∈ f, 0 ≤ x ∧ x ≤ 49) → l3a B10 B11 (some true) B5 B6 B7 B8 B9 1001 ds fs n (i : Int) f = some true := by
 have fin : ∀ f : List Int, f ≠ [] → f.length ≤ 6 → (∀ x ∈ f, 0 ≤ x ∧ x ≤ 49) → ((B5 ds f).bind fun r => l3b B10 B11 (some true) B5 B6 B7 B8 B9 1001 1001 r (r.length : Int) 0 []) = some true := fun f h1 h2 h3 => by
  rw [B5, if_pos ⟨hd, by omega⟩, Option.bind_some]
  exact l3b_ok (due_ok h1 h2 h3) (by rw [dueL_len]; exact h2)
 have end_ : ∀ (i n : Nat) (f : List Int), f.length = i → i ≤ 6 → ¬ (i < fs.length ∧ i < 6) → (∀ x ∈ f, 0 ≤ x ∧ x ≤ 49) → l3a B10 B11 (some true) B5 B6 B7 B8 B9 1001 ds fs (n + 1) (i : Int) f = some true := fun i n f hi h6 hc hx => by
  have two : ∀ A X : Option Bool, X = some true → cond (decide ((i : Int) < (fs.length : Int))) (cond (decide ((i : Int) < 6)) A X) X = some true := fun A X hX => by
   by_cases q : i < fs.length
   ·rw [decide_eq_true (by omega), cond_true, decide_eq_false (by omega), cond_false, hX]
   ·rw [decide_eq_false (by omega), cond_false, hX]
  refine two _ _ ?_
  by_cases q : f = []
  ·subst q
   have := fin [3] (by simp) (by simp) (by simp)
   have hs : small (([] : List Int).length + 1) 8 = true := small_of (by simp) (by decide)
   rw [hs]
   exact this
  ·have hp : 0 < f.length := List.length_pos_iff.2 q
   have : ((f.length : Int) == 0) = false := by simpa using q
   rw [this, cond_false]
   exact fin f q (by omega) hx
 intro m
 induction m with
 | zero =>
  intro i n f h1 h2 h3 h4
  obtain ⟨n, rfl⟩ : ∃ q, n = q + 1 := ⟨n - 1, by omega⟩
  exact end_ i n f h3 (by omega) (by omega) h4
 | succ m ih =>
  intro i n f h1 h2 h3 h4
  obtain ⟨n, rfl⟩ : ∃ q, n = q + 1 := ⟨n - 1, by omega⟩
  by_cases hc : i < fs.length
  ·have hy := hf.at hc
   have e : Int.tmod (w64 (fs.getD i 0)) 50 = fs.getD i 0 % 50 := by rw [w64_small (by omega), Int.tmod_eq_emod_of_nonneg hy.1]
   simp only [l3a, ixA hc, ixB hc, cond_true, chk_true, Int.toNat_natCast, decide_eq_true (show (i : Int) < 6 by omega), chk_of (small_of (n := f.length + 1) (eb := 8) (by omega) (by decide)), e, w64_small (x := (i : Int) + 1) (by omega)]
   exact ih (i + 1) n (f ++ [fs.getD i 0 % 50]) (by omega) (by omega) (by simp; omega) fun x hx => by
    rcases List.mem_append.1 hx with q | q
    ·exact h4 x q
    ·rw [List.mem_singleton.1 q]; omega
  ·exact end_ i n f h3 (by omega) (by omega) h4
theorem KB3 : FnOk Tryz.prog 3 (F3 B3) := ok3 B10 B11 (some true) B5 B6 B7 B8 B9 KB10 KB11 K12t KB5 KB6 KB7 KB8 KB9 B3 fun ds fs r h => ⟨1001, by
 simp only [B3] at h
 split at h
 ·rename_i hh
  rw [← h]
  exact l3a_ok hh.1 hh.2 6 0 1001 [] rfl (by omega) rfl (fun _ q => by cases q)
 ·cases h⟩
end Go.Proofs.YtjcnfpfldocpdaaGreatDoor
