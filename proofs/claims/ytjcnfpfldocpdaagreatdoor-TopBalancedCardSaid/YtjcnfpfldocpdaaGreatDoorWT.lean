/-
 What the functions on weights answer, as plain functions.
-/
import Derived.Test.YtjcnfpfldocpdaaGreatDoorP0
import Derived.Test.YtjcnfpfldocpdaaGreatDoorINS
import Derived.Test.YtjcnfpfldocpdaaGreatDoorLBM
namespace Go.Proofs.YtjcnfpfldocpdaaGreatDoor.Wt
open Go.RowKit
set_option linter.unusedVariables false

def B47 (lo n hi : Int) : Option Bool := some (decide (lo ≤ n ∧ n ≤ hi))
theorem KB47 : FnOk Tryz.prog 47 (F47 B47) := ok47 B47 fun lo n hi r h => ⟨0, by
 rw [← h]; simp only [m47, B47]
 by_cases a : lo ≤ n <;> simp [a]⟩
theorem getD_mem {α : Type} {l : List α} {d x : α} {t : Nat} (ht : t < l.length) (hx : l.getD t d = x) : x ∈ l := by
 rw [List.getD_eq_getElem?_getD, List.getElem?_eq_getElem ht] at hx
 simp only [Option.getD_some] at hx
 exact hx ▸ List.getElem_mem ht
theorem compact_mem {zs : List Int} {x : Int} : x ∈ Go.Lib.compact zs ↔ x ∈ zs := by
 unfold Go.Lib.compact Go.Lib.compactUpTo
 simp only [List.mem_map, List.mem_filter, List.mem_range]
 constructor
 ·rintro ⟨j, ⟨hj, _⟩, rfl⟩
  rw [getElem!_pos zs.toArray j (by simpa using hj)]
  simp
 ·intro h
  obtain ⟨i, hi, rfl⟩ := List.getElem_of_mem h
  have main : ∀ i, (hi : i < zs.length) → ∃ a, (a < zs.length ∧ Go.Lib.keeps zs.toArray a = true) ∧ zs.toArray[a]! = zs[i] := by
   intro i
   induction i with
   | zero => intro hi; exact ⟨0, ⟨hi, by simp [Go.Lib.keeps]⟩, by rw [getElem!_pos zs.toArray 0 (by simpa using hi)]; simp⟩
   | succ i ih =>
    intro hi
    by_cases k : Go.Lib.keeps zs.toArray (i + 1) = true
    ·exact ⟨i + 1, ⟨hi, k⟩, by rw [getElem!_pos zs.toArray (i + 1) (by simpa using hi)]; simp⟩
    ·obtain ⟨a, h1, h2⟩ := ih (by omega)
     refine ⟨a, h1, ?_⟩
     simp only [Go.Lib.keeps, decide_eq_true_eq, not_or, Nat.add_sub_cancel] at k
     have e := k.2
     rw [getElem!_pos zs.toArray (i + 1) (by simpa using hi), getElem!_pos zs.toArray i (by simp; omega)] at e
     have e : zs[i + 1] = zs[i] := by simpa using e
     rw [h2, e]
  exact main i hi
theorem compact_asc {zs : List Int} (h : zs.Pairwise fun a b => decide (a ≤ b) = true) : (Go.Lib.compact zs).Pairwise (· < ·) := by
 unfold Go.Lib.compact Go.Lib.compactUpTo
 rw [List.pairwise_map]
 have hr : ((List.range zs.length).filter (Go.Lib.keeps zs.toArray)).Pairwise (· < ·) := List.pairwise_lt_range.filter _
 refine hr.imp_of_mem fun {a b} ha hb hab => ?_
 simp only [List.mem_filter, List.mem_range] at ha hb
 have hk := hb.2
 simp only [Go.Lib.keeps, decide_eq_true_eq] at hk
 have hk := hk.resolve_left (by omega)
 have le : ∀ i j, (hi : i < zs.length) → (hj : j < zs.length) → i < j → zs[i] ≤ zs[j] := fun i j hi hj hij => by
  simpa using List.pairwise_iff_getElem.1 h i j hi hj hij
 rw [getElem!_pos zs.toArray b (by simpa using hb.1), getElem!_pos zs.toArray (b - 1) (by simp; omega)] at hk
 rw [getElem!_pos zs.toArray b (by simpa using hb.1), getElem!_pos zs.toArray a (by simpa using ha.1)]
 have hk : ¬ zs[b]'hb.1 = zs[b - 1]'(by omega) := by simpa using hk
 have l1 : zs[b - 1]'(by omega) ≤ zs[b]'hb.1 := le (b - 1) b (by omega) hb.1 (by omega)
 have l2 : zs[a]'ha.1 ≤ zs[b - 1]'(by omega) := by
  by_cases e : a = b - 1
  ·subst e; exact Int.le_refl _
  ·exact le a (b - 1) ha.1 (by omega) (by omega)
 show zs[a]'ha.1 < zs[b]'hb.1
 omega
theorem asc_eq {a b : List Int} (ha : a.Pairwise (· < ·)) (hb : b.Pairwise (· < ·)) (h : ∀ x, x ∈ a ↔ x ∈ b) : a = b := by
 have n : ∀ {l : List Int}, l.Pairwise (· < ·) → l.Nodup := fun h => h.imp fun h => by omega
 exact List.Perm.eq_of_pairwise (le := (· < ·)) (fun x y _ _ h1 h2 => by omega) ha hb ((List.perm_ext_iff_of_nodup (n ha) (n hb)).2 h)
def bal : List Int → List Int → Int
 | w :: ws, a :: bs => w * a + bal ws bs
 | [], _ => 0
 | _ :: _, [] => 0
def used : List Int → Int
 | [] => 0
 | a :: bs => cond (a != 0) 1 0 + used bs
def IsWay (a : Int) : Prop := a = 1 ∨ a = 0 ∨ a = -1
def R (ws : List Int) (x : Int) : Prop := ∃ l : List Int, l.length = ws.length ∧ (∀ a ∈ l, IsWay a) ∧ bal ws l = x
theorem R_nil {x : Int} : R [] x ↔ x = 0 := by
 constructor
 ·rintro ⟨l, _, _, rfl⟩; rfl
 ·rintro rfl; exact ⟨[], rfl, (by simp), rfl⟩
theorem R_cons {w : Int} {ws : List Int} {x : Int} : R (w :: ws) x ↔ R ws (x - w) ∨ R ws x ∨ R ws (x + w) := by
 constructor
 ·rintro ⟨l, hl, hw, rfl⟩
  match l, hl with
  | a :: bs, hl =>
   have ha := hw a (List.mem_cons_self ..)
   have r : R ws (bal ws bs) := ⟨bs, by simpa using hl, fun b hb => hw b (List.mem_cons_of_mem _ hb), rfl⟩
   simp only [bal]
   rcases ha with rfl | rfl | rfl
   ·left; rw [show w * 1 + bal ws bs - w = bal ws bs by omega]; exact r
   ·right; left; rw [show w * 0 + bal ws bs = bal ws bs by omega]; exact r
   ·right; right; rw [show w * -1 + bal ws bs + w = bal ws bs by omega]; exact r
 ·rintro (⟨l, h1, h2, h3⟩ | ⟨l, h1, h2, h3⟩ | ⟨l, h1, h2, h3⟩)
  ·exact ⟨1 :: l, by simp [h1], fun a ha => by
    rcases List.mem_cons.1 ha with rfl | ha
    ·exact .inl rfl
    ·exact h2 a ha, by simp only [bal]; omega⟩
  ·exact ⟨0 :: l, by simp [h1], fun a ha => by
    rcases List.mem_cons.1 ha with rfl | ha
    ·exact .inr (.inl rfl)
    ·exact h2 a ha, by simp only [bal]; omega⟩
  ·exact ⟨-1 :: l, by simp [h1], fun a ha => by
    rcases List.mem_cons.1 ha with rfl | ha
    ·exact .inr (.inr rfl)
    ·exact h2 a ha, by simp only [bal]; omega⟩
theorem R_neg {ws : List Int} : ∀ {x : Int}, R ws x → R ws (-x) := by
 induction ws with
 | nil => intro x h; rw [R_nil] at h ⊢; omega
 | cons w ws ih =>
  intro x h
  rw [R_cons] at h ⊢
  rcases h with h | h | h
  ·right; right; have := ih h; rwa [show -(x - w) = -x + w by omega] at this
  ·right; left; exact ih h
  ·left; have := ih h; rwa [show -(x + w) = -x - w by omega] at this
theorem R_zero (ws : List Int) : R ws 0 := by
 induction ws with
 | nil => exact R_nil.2 rfl
 | cons w ws ih => exact R_cons.2 (.inr (.inl ih))
def Pos (ws : List Int) : Prop := ∀ w ∈ ws, 1 ≤ w ∧ w ≤ 2000
theorem R_le {ws : List Int} (hp : ∀ w ∈ ws, 0 ≤ w) : ∀ {x : Int}, R ws x → -ws.sum ≤ x ∧ x ≤ ws.sum := by
 induction ws with
 | nil => intro x h; rw [R_nil] at h; simp; omega
 | cons w ws ih =>
  intro x h
  have h0 := hp w (List.mem_cons_self ..)
  have ih := @ih fun v hv => hp v (List.mem_cons_of_mem _ hv)
  rw [List.sum_cons]
  rcases R_cons.1 h with h | h | h <;> have := ih h <;> omega
def stepS (out : List Int) (w : Int) : List Int := Go.Lib.compact (srt (out.flatMap fun n => [n - w, n, n + w]))
def sumS (ws : List Int) : List Int := ws.foldl stepS [0]
theorem mem_stepS {out : List Int} {w x : Int} : x ∈ stepS out w ↔ ∃ n ∈ out, x = n - w ∨ x = n ∨ x = n + w := by
 unfold stepS
 rw [compact_mem, (srt_perm _).mem_iff, List.mem_flatMap]
 simp only [List.mem_cons, List.not_mem_nil, or_false]
theorem stepS_asc (out : List Int) (w : Int) : (stepS out w).Pairwise (· < ·) := compact_asc (srt_sorted _)
theorem stepS_len (out : List Int) (w : Int) : (stepS out w).length ≤ 3 * out.length := by
 unfold stepS
 have le : ∀ zs : List Int, (Go.Lib.compact zs).length ≤ zs.length := fun zs => by
  unfold Go.Lib.compact Go.Lib.compactUpTo
  rw [List.length_map]
  have := List.length_filter_le (Go.Lib.keeps zs.toArray) (List.range zs.length)
  simpa using this
 refine Nat.le_trans (le _) ?_
 rw [(srt_perm _).length_eq, List.length_flatMap]
 have : ∀ l : List Int, (l.map fun n => [n - w, n, n + w].length).sum = 3 * l.length := fun l => by
  induction l with
  | nil => rfl
  | cons x xs ih => rw [List.map_cons, List.sum_cons, ih, List.length_cons]; simp; omega
 exact Nat.le_of_eq (this out)
theorem foldl_mem : ∀ {ws out : List Int} {x : Int}, x ∈ ws.foldl stepS out ↔ ∃ n ∈ out, R ws (x - n)
 | [], out, x => by
  simp only [List.foldl_nil, R_nil]
  exact ⟨fun h => ⟨x, h, by omega⟩, fun ⟨n, h, e⟩ => by rwa [show x = n by omega]⟩
 | w :: ws, out, x => by
  rw [List.foldl_cons, foldl_mem]
  constructor
  ·rintro ⟨m, hm, r⟩
   obtain ⟨n, hn, e⟩ := mem_stepS.1 hm
   refine ⟨n, hn, R_cons.2 ?_⟩
   rcases e with rfl | rfl | rfl
   ·right; right; rwa [show x - n + w = x - (n - w) by omega]
   ·right; left; exact r
   ·left; rwa [show x - n - w = x - (n + w) by omega]
  ·rintro ⟨n, hn, r⟩
   rcases R_cons.1 r with r | r | r
   ·exact ⟨n + w, mem_stepS.2 ⟨n, hn, .inr (.inr rfl)⟩, by rwa [show x - (n + w) = x - n - w by omega]⟩
   ·exact ⟨n, mem_stepS.2 ⟨n, hn, .inr (.inl rfl)⟩, r⟩
   ·exact ⟨n - w, mem_stepS.2 ⟨n, hn, .inl rfl⟩, by rwa [show x - (n - w) = x - n + w by omega]⟩
theorem mem_sumS {ws : List Int} {x : Int} : x ∈ sumS ws ↔ R ws x := by
 unfold sumS
 rw [foldl_mem]
 exact ⟨fun ⟨n, h, r⟩ => by simp at h; subst h; rwa [Int.sub_zero] at r, fun r => ⟨0, by simp, by rwa [Int.sub_zero]⟩⟩
theorem sumS_asc (ws : List Int) : (sumS ws).Pairwise (· < ·) := by
 unfold sumS
 have : ∀ (ws out : List Int), out.Pairwise (· < ·) → (ws.foldl stepS out).Pairwise (· < ·) := by
  intro ws
  induction ws with
  | nil => intro out h; exact h
  | cons w ws ih => intro out h; exact ih _ (stepS_asc ..)
 exact this ws [0] (by simp)
theorem sumS_len : ∀ (ws out : List Int), (ws.foldl stepS out).length ≤ 3 ^ ws.length * out.length
 | [], out => by simp
 | w :: ws, out => by
  rw [List.foldl_cons, List.length_cons, Nat.pow_succ]
  refine Nat.le_trans (sumS_len ws (stepS out w)) ?_
  rw [Nat.mul_assoc]
  exact Nat.mul_le_mul_left _ (stepS_len out w)
def posL (ws : List Int) : List Int := (sumS ws).filter fun x => decide (0 < x)
theorem asc_split : ∀ {l : List Int}, l.Pairwise (· < ·) → l = l.filter (fun x => decide (x < 0)) ++ (l.filter (fun x => decide (x = 0)) ++ l.filter fun x => decide (0 < x))
 | [], _ => rfl
 | y :: ys, h => by
  obtain ⟨a, b⟩ := List.pairwise_cons.1 h
  have ih := asc_split b
  rcases Int.lt_trichotomy y 0 with h1 | h1 | h1
  ·simp only [List.filter_cons, decide_eq_true h1, decide_eq_false (show ¬ y = 0 by omega), decide_eq_false (show ¬ 0 < y by omega), if_true, Bool.false_eq_true, if_false, List.cons_append]
   rw [← ih]
  ·have e1 : ys.filter (fun x => decide (x < 0)) = [] := List.filter_eq_nil_iff.2 fun x hx => by have := a x hx; simp; omega
   have e2 : ys.filter (fun x => decide (x = 0)) = [] := List.filter_eq_nil_iff.2 fun x hx => by have := a x hx; simp; omega
   simp only [List.filter_cons, decide_eq_false (show ¬ y < 0 by omega), decide_eq_true h1, decide_eq_false (show ¬ 0 < y by omega), if_true, Bool.false_eq_true, if_false, e1, e2, List.nil_append, List.cons_append] at ih ⊢
   rw [← ih]
  ·have e1 : ys.filter (fun x => decide (x < 0)) = [] := List.filter_eq_nil_iff.2 fun x hx => by have := a x hx; simp; omega
   have e2 : ys.filter (fun x => decide (x = 0)) = [] := List.filter_eq_nil_iff.2 fun x hx => by have := a x hx; simp; omega
   simp only [List.filter_cons, decide_eq_false (show ¬ y < 0 by omega), decide_eq_false (show ¬ y = 0 by omega), decide_eq_true h1, if_true, Bool.false_eq_true, if_false, e1, e2, List.nil_append] at ih ⊢
   rw [← ih]
theorem neg_pos (ws : List Int) : ((sumS ws).filter fun x => decide (x < 0)).length = (posL ws).length := by
 have e : ((sumS ws).filter fun x => decide (x < 0)).Perm ((posL ws).map fun x => -x) := by
  have nd := (sumS_asc ws)
  have nd1 : ((sumS ws).filter fun x => decide (x < 0)).Nodup := (nd.filter _).imp fun h => by omega
  have nd2 : ((posL ws).map fun x => -x).Nodup := List.pairwise_map.2 ((nd.filter _).imp fun h => by omega)
  refine (List.perm_ext_iff_of_nodup nd1 nd2).2 fun x => ?_
  simp only [posL, List.mem_filter, List.mem_map, mem_sumS, decide_eq_true_eq]
  constructor
  ·intro ⟨r, h⟩; exact ⟨-x, ⟨R_neg r, by omega⟩, by omega⟩
  ·rintro ⟨y, ⟨r, h⟩, rfl⟩; exact ⟨R_neg r, by omega⟩
 rw [e.length_eq, List.length_map]
theorem zero_one (ws : List Int) : (sumS ws).filter (fun x => decide (x = 0)) = [0] := by
 refine asc_eq ((sumS_asc ws).filter _) (by simp) fun x => ?_
 simp only [List.mem_filter, mem_sumS, decide_eq_true_eq, List.mem_singleton]
 exact ⟨fun h => h.2, fun h => ⟨h ▸ R_zero ws, h⟩⟩
theorem half (ws : List Int) : (sumS ws).length = 2 * (posL ws).length + 1 ∧ (sumS ws).drop ((posL ws).length + 1) = posL ws := by
 have e := asc_split (sumS_asc ws)
 rw [zero_one] at e
 have hn := neg_pos ws
 have hp : (sumS ws).filter (fun x => decide (0 < x)) = posL ws := rfl
 rw [hp] at e
 constructor
 ·rw [e]; simp [hn]; omega
 ·rw [e, List.drop_append, hn]
  simp [← hn]
def goW : Int → List Int → Int
 | _, [] => 0
 | last, x :: xs => cond (!decide (1 ≤ x ∧ x ≤ 2000)) 3 (cond (decide (x < last)) 7 (goW x xs))
def wE (ws : List Int) : Int := cond (ws.length == 0) 1 (cond (decide (ws.length > 7)) 2 (goW 0 ws))
def B42 (ws : List Int) : Option Int := some (wE ws)
theorem len_beq0 (n : Nat) : ((n : Int) == 0) = (n == 0) := by
 by_cases c : n = 0
 ·subst c; rfl
 ·rw [show ((n : Int) == 0) = false by rw [beq_eq_false_iff_ne]; omega, show (n == 0) = false by rw [beq_eq_false_iff_ne]; omega]
theorem len_gt (n k : Nat) : decide ((n : Int) > (k : Int)) = decide (n > k) := decide_eq_decide.2 (by omega)
theorem KB42 : FnOk Tryz.prog 42 (F42 B42) := ok42 B47 KB47 B42 fun ws r h => ⟨1001, by
 rw [← h, B42, m42, wE, len_beq0, show (7 : Int) = ((7 : Nat) : Int) from rfl, len_gt]
 cases e1 : ws.length == 0 with
 | true => rfl
 | false =>
  cases e2 : decide (ws.length > 7) with
  | true => rfl
  | false =>
   have hl : ¬ ws.length > 7 := by simpa using e2
   rw [cond_false, cond_false, cond_false, cond_false]
   exact rangeInd ws 0 (fun n (s : Int) t => l42a B47 1001 ws n s t) (fun xs s => some (goW s xs))
    (fun n s t x rest ht hx ih => by
     simp only [l42a, ixA ht, ixB ht, cond_true, chk_true, Int.toNat_natCast, hx, B47, Option.bind_some, ixW ht (by omega), ih, goW]
     cases decide (1 ≤ x ∧ x ≤ 2000) <;> cases decide (x < s) <;> rfl)
    (fun n s => by simp only [l42a, ixE, cond_false]; rfl) 1001 0 (by omega)⟩
theorem goW_zero : ∀ {ws : List Int} {last : Int}, goW last ws = 0 → (∀ w ∈ ws, 1 ≤ w ∧ w ≤ 2000) ∧ ws.Pairwise (· ≤ ·) ∧ ∀ w ∈ ws, last ≤ w
 | [], _, _ => by simp
 | x :: xs, last, h => by
  rw [goW] at h
  by_cases e : 1 ≤ x ∧ x ≤ 2000
  ·rw [decide_eq_true e, Bool.not_true, cond_false] at h
   by_cases e2 : x < last
   ·rw [decide_eq_true e2] at h; simp at h
   ·rw [decide_eq_false e2, cond_false] at h
    obtain ⟨a, b, c⟩ := goW_zero h
    refine ⟨fun w hw => ?_, List.pairwise_cons.2 ⟨c, b⟩, fun w hw => ?_⟩
    ·rcases List.mem_cons.1 hw with rfl | hw
     ·exact e
     ·exact a w hw
    ·rcases List.mem_cons.1 hw with rfl | hw
     ·omega
     ·have := c w hw; omega
  ·rw [decide_eq_false e] at h; simp at h
theorem wE_zero {ws : List Int} (h : wE ws = 0) : (1 ≤ ws.length ∧ ws.length ≤ 7) ∧ Pos ws ∧ ws.Pairwise (· ≤ ·) := by
 unfold wE at h
 cases e1 : ws.length == 0 with
 | true => rw [e1] at h; simp at h
 | false =>
  cases e2 : decide (ws.length > 7) with
  | true => rw [e1, e2] at h; simp at h
  | false =>
   rw [e1, e2, cond_false, cond_false] at h
   obtain ⟨a, b, _⟩ := goW_zero h
   have h1 : ws.length ≠ 0 := by simpa using e1
   have h2 : ¬ ws.length > 7 := by simpa using e2
   exact ⟨by omega, a, b⟩
theorem Pos.nonneg {ws : List Int} (h : Pos ws) : ∀ w ∈ ws, 0 ≤ w := fun w hw => by have := h w hw; omega
theorem Pos.sum {ws : List Int} (h : Pos ws) : 0 ≤ ws.sum ∧ ws.sum ≤ 2000 * (ws.length : Int) := by
 induction ws with
 | nil => simp
 | cons w ws ih =>
  have a := h w (List.mem_cons_self ..)
  have b := ih fun v hv => h v (List.mem_cons_of_mem _ hv)
  rw [List.sum_cons, List.length_cons]; omega
def B76 (ws : List Int) : Option (List Int) := if wE ws = 0 then some (sumS ws) else none
theorem A78_ne {l : List Int} (h : l ≠ []) : A96 l = some (Go.Lib.compact l) := by
 cases l with
 | nil => exact absurd rfl h
 | cons x xs => rfl
theorem KB76 : FnOk Tryz.prog 76 (F76 B76) := ok76 A75 A96 ok75 ok96 B76 fun ws r h => ⟨20000, by
 simp only [B76] at h
 split at h
 ·rename_i hw
  obtain ⟨hl, hp, _⟩ := wE_zero hw
  rw [← h, m76]
  exact rangeInv ws 0 (fun n (o : List Int) t => l76a A75 A96 20000 ws n o t) (fun xs o => o.length * 3 ^ xs.length ≤ 2187 ∧ o ≠ [] ∧ ∀ x ∈ o, -14000 ≤ x - 2000 * (xs.length : Int) ∧ x + 2000 * (xs.length : Int) ≤ 14000) (fun xs o => some (xs.foldl stepS o))
   (fun n o t w rest ht hx hI ih => by
    obtain ⟨i1, i2, i3⟩ := hI
    have hw1 := hp w (getD_mem ht hx)
    simp only [List.length_cons] at i1 i3
    have i1' : o.length ≤ 2187 := Nat.le_trans (Nat.le_mul_of_pos_right _ (Nat.pow_pos (by omega))) i1
    simp only [l76a, ixA ht, ixB ht, cond_true, chk_true]
    have inner := rangeInv o 0 (fun m (q : List Int) k => l76b A75 A96 20000 ws o (t : Int) (fun y0 y1 => l76a A75 A96 20000 ws n y0 y1) m k q) (fun xs q => q.length + 3 * xs.length ≤ 6561 ∧ ∀ x ∈ xs, x ∈ o)
     (fun xs q => (A75 (q ++ xs.flatMap fun n => [n - w, n, n + w])).bind fun r1 => (A96 r1).bind fun r2 => l76a A75 A96 20000 ws n r2 (w64 ((t : Int) + 1)))
     (fun m q k x ys hk hy hJ ih' => by
      obtain ⟨j1, j2⟩ := hJ
      simp only [List.length_cons] at j1
      have hb := i3 x (j2 x (List.mem_cons_self ..))
      have hs : small (q.length + 3) 8 = true := small_of (by omega) (by omega)
      simp only [l76b, ixA hk, ixB hk, cond_true, chk_true, Int.toNat_natCast, hx, hy, hs, ixW hk (by omega), w64_small (show -4611686018427387904 ≤ x - w ∧ x - w ≤ 4611686018427387904 by omega), w64_small (show -4611686018427387904 ≤ x + w ∧ x + w ≤ 4611686018427387904 by omega)]
      rw [ih' _ ⟨by simp; omega, fun y hy' => j2 y (List.mem_cons_of_mem _ hy')⟩, List.flatMap_cons, ← List.append_assoc])
     (fun m q _ => by simp only [l76b, ixE, cond_false, List.flatMap_nil, List.append_nil]) 20000 [] (by omega) ⟨by simp; omega, fun x hx' => hx'⟩
    refine Eq.trans inner ?_
    have hlen : (o.flatMap fun n => [n - w, n, n + w]).length = 3 * o.length := by
     rw [List.length_flatMap]
     generalize o = l
     induction l with
     | nil => rfl
     | cons x xs ih => rw [List.map_cons, List.sum_cons, ih, List.length_cons]; simp; omega
    have hne : srt (o.flatMap fun n => [n - w, n, n + w]) ≠ [] := by
     intro e
     have q := congrArg List.length e
     rw [(srt_perm _).length_eq, hlen, List.length_nil] at q
     have : o.length ≠ 0 := fun z => i2 (List.length_eq_zero_iff.1 z)
     omega
    rw [List.nil_append, A75, if_pos (by omega), Option.bind_some, A78_ne hne, Option.bind_some, ixW ht (by omega)]
    refine ih (stepS o w) ⟨?_, ?_, fun x hx' => ?_⟩
    ·refine Nat.le_trans (Nat.mul_le_mul_right _ (stepS_len o w)) ?_
     rw [Nat.mul_comm 3, Nat.mul_assoc, ← Nat.pow_succ']; exact i1
    ·intro e
     cases o with
     | nil => exact i2 rfl
     | cons y ys =>
      have : y ∈ stepS (y :: ys) w := mem_stepS.2 ⟨y, List.mem_cons_self .., .inr (.inl rfl)⟩
      rw [e] at this; cases this
    ·obtain ⟨m, hm, e⟩ := mem_stepS.1 hx'
     have := i3 m hm
     omega)
   (fun n o _ => by simp only [l76a, ixE, cond_false, List.foldl_nil]) 20000 [0] (by omega) ⟨by
    rw [List.length_singleton, Nat.one_mul]
    exact Nat.le_trans (Nat.pow_le_pow_right (by omega) hl.2) (by decide), by simp, fun x hx => by simp at hx; subst hx; omega⟩
 ·cases h⟩
def loadsS (ws : List Int) : List Int × Int := cond (wE ws == 0) (posL ws, 0) ([], wE ws)
def B45 (ws : List Int) : Option (List Int × Int) := some (loadsS ws)
theorem posL_len {ws : List Int} (h : wE ws = 0) : (posL ws).length ≤ 2187 := by
 obtain ⟨hl, hp, _⟩ := wE_zero h
 have a := sumS_len ws [0]
 have b : (posL ws).length ≤ (sumS ws).length := List.length_filter_le ..
 have c : 3 ^ ws.length ≤ 3 ^ 7 := Nat.pow_le_pow_right (by omega) hl.2
 unfold sumS at b
 simp at a
 omega
theorem KB45 : FnOk Tryz.prog 45 (F45 B45) := ok45 B42 B76 KB42 KB76 B45 fun ws r h => ⟨0, by
 rw [← h, m45, B42, Option.bind_some, B45, loadsS]
 cases e : wE ws == 0 with
 | false => simp only [bne, e, Bool.not_false, cond_true, cond_false]
 | true =>
  have h0 : wE ws = 0 := by simpa using e
  obtain ⟨a, b⟩ := half ws
  have hl := posL_len h0
  simp only [bne, e, Bool.not_true, cond_true, cond_false, B76, if_pos h0, Option.bind_some]
  have e1 : Int.tdiv ((sumS ws).length : Int) 2 = ((posL ws).length : Int) := by
   rw [a, Int.tdiv_eq_ediv_of_nonneg (by omega)]; omega
  rw [e1, w64_small (x := ((posL ws).length : Int)) (by omega), w64_succ (by omega), Int.toNat_natCast, chk_dec (by omega), b]⟩
def rl : Int → List Int → Int
 | n, [] => n
 | n, x :: xs => cond (x == n + 1) (rl (n + 1) xs) n
def reachS (ws : List Int) : Int × Int := cond (wE ws == 0) (rl 0 (posL ws), 0) (0, wE ws)
def B17 (ws : List Int) : Option (Int × Int) := some (reachS ws)
theorem KB17 : FnOk Tryz.prog 17 (F17 B17) := ok17 B45 KB45 B17 fun ws r h => ⟨20000, by
 rw [← h, m17, B45, Option.bind_some, B17, loadsS, reachS]
 cases e : wE ws == 0 with
 | false => simp only [bne, e, Bool.not_false, cond_true, cond_false]
 | true =>
  have h0 : wE ws = 0 := by simpa using e
  have hl := posL_len h0
  rw [cond_true, cond_true, show ((posL ws, (0 : Int)).2 != 0) = false from rfl, cond_false]
  exact rangeIx (posL ws) 0 (fun n (_ : Unit) t => l17a B45 20000 (posL ws, 0) n t) (fun _ _ _ => True) (fun t xs _ => some (rl t xs, 0))
   (fun n _ t x rest ht hx _ ih => by
    have hw : w64 ((t : Int) + 1) = ((t + 1 : Nat) : Int) := w64_succ (by omega)
    simp only [l17a, ixA ht, ixB ht, cond_true, chk_true, Int.toNat_natCast, hx, hw, ih () trivial, rl]
    rw [show ((t + 1 : Nat) : Int) = (t : Int) + 1 by omega]
    cases x == (t : Int) + 1 <;> rfl)
   (fun n _ _ => by simp only [l17a, ixE, cond_false]; rfl) 20000 () (by omega) trivial⟩
def lays : Nat → List (List Int)
 | 0 => [[]]
 | k + 1 => (lays k).flatMap fun l => [l ++ [1], l ++ [0], l ++ [-1]]
theorem mem_lays : ∀ {k : Nat} {l : List Int}, l ∈ lays k ↔ l.length = k ∧ ∀ a ∈ l, IsWay a
 | 0, l => by
  simp only [lays, List.mem_singleton]
  constructor
  ·rintro rfl; exact ⟨rfl, by simp⟩
  ·intro h; exact List.length_eq_zero_iff.1 h.1
 | k + 1, l => by
  simp only [lays, List.mem_flatMap, List.mem_cons, List.not_mem_nil, or_false]
  have up : ∀ {m : List Int} {v : Int}, m ∈ lays k → IsWay v → (m ++ [v]).length = k + 1 ∧ ∀ a ∈ m ++ [v], IsWay a := fun {m v} hm hv => by
   obtain ⟨h1, h2⟩ := mem_lays.1 hm
   refine ⟨by simp [h1], fun a ha => ?_⟩
   rcases List.mem_append.1 ha with ha | ha
   ·exact h2 a ha
   ·simp at ha; subst ha; exact hv
  constructor
  ·rintro ⟨m, hm, rfl | rfl | rfl⟩
   ·exact up hm (.inl rfl)
   ·exact up hm (.inr (.inl rfl))
   ·exact up hm (.inr (.inr rfl))
  ·intro ⟨h1, h2⟩
   have hne : l ≠ [] := by intro e; rw [e] at h1; cases h1
   have e := List.dropLast_concat_getLast hne
   refine ⟨l.dropLast, mem_lays.2 ⟨by simp [h1], fun a ha => h2 a (List.dropLast_subset l ha)⟩, ?_⟩
   have hw := h2 (l.getLast hne) (List.getLast_mem hne)
   rcases hw with h | h | h <;> rw [h] at e
   ·exact .inl e.symm
   ·exact .inr (.inl e.symm)
   ·exact .inr (.inr e.symm)
theorem R_lays {ws : List Int} {x : Int} : R ws x ↔ ∃ l ∈ lays ws.length, bal ws l = x := by
 constructor
 ·rintro ⟨l, h1, h2, h3⟩; exact ⟨l, mem_lays.2 ⟨h1, h2⟩, h3⟩
 ·rintro ⟨l, h, h3⟩; exact ⟨l, (mem_lays.1 h).1, (mem_lays.1 h).2, h3⟩
def okLay (l : List Int) : Bool := l.all fun a => decide (-1 ≤ a ∧ a ≤ 1)
theorem okLay_iff {l : List Int} : okLay l = true ↔ ∀ a ∈ l, IsWay a := by
 simp only [okLay, List.all_eq_true, decide_eq_true_eq]
 exact ⟨fun h a ha => by have := h a ha; unfold IsWay; omega, fun h a ha => by have := h a ha; unfold IsWay at this; omega⟩
def rc : Int → List Bool → Int
 | n, [] => n
 | n, b :: bs => cond b (rc (n + 1) bs) n
def threes (k : Nat) : List Int := (List.range k).map fun i => (3 : Int) ^ i
theorem threes_succ (k : Nat) : threes (k + 1) = threes k ++ [(3 : Int) ^ k] := by simp [threes, List.range_succ]
theorem R_snoc {ws : List Int} {w x : Int} : R (ws ++ [w]) x ↔ R ws (x - w) ∨ R ws x ∨ R ws (x + w) := by
 rw [← mem_sumS, sumS, List.foldl_append, List.foldl_cons, List.foldl_nil, mem_stepS]
 constructor
 ·rintro ⟨n, hn, h⟩
  have hn := mem_sumS.1 hn
  rcases h with rfl | rfl | rfl
  ·right; right; rwa [show n - w + w = n by omega]
  ·right; left; exact hn
  ·left; rwa [show n + w - w = n by omega]
 ·rintro (h | h | h)
  ·exact ⟨x - w, mem_sumS.2 h, by omega⟩
  ·exact ⟨x, mem_sumS.2 h, by omega⟩
  ·exact ⟨x + w, mem_sumS.2 h, by omega⟩
theorem threes_R : ∀ k : Nat, ∃ m : Int, (3 : Int) ^ k = 2 * m + 1 ∧ 0 ≤ m ∧ ∀ x, -m ≤ x → x ≤ m → R (threes k) x
 | 0 => ⟨0, rfl, by omega, fun x h1 h2 => R_nil.2 (by omega)⟩
 | k + 1 => by
  obtain ⟨m, e, h0, h⟩ := threes_R k
  refine ⟨3 * m + 1, by rw [Int.pow_succ, e]; omega, by omega, fun x h1 h2 => ?_⟩
  rw [threes_succ, R_snoc, e]
  by_cases c : x > m
  ·left; exact h _ (by omega) (by omega)
  ·by_cases c2 : x < -m
   ·right; right; exact h _ (by omega) (by omega)
   ·right; left; exact h _ (by omega) (by omega)
theorem threes_ok : ∀ k ∈ [1, 2, 3, 4, 5, 6, 7], wE (threes k) = 0 := by decide +kernel
theorem rl_le : ∀ (l : List Int) (n : Int), n ≤ rl n l
 | [], n => Int.le_refl _
 | x :: xs, n => by
  rw [rl]
  cases x == n + 1 with
  | true => have := rl_le xs (n + 1); rw [cond_true]; omega
  | false => exact Int.le_refl _
theorem rl_ge : ∀ (l : List Int) (n m : Int), l.Pairwise (· < ·) → (∀ x ∈ l, n < x) → (∀ x, n < x → x ≤ m → x ∈ l) → n ≤ m → m ≤ rl n l
 | [], n, m, _, _, h, hn => by
  by_cases c : n = m
  ·rw [c]; exact Int.le_refl _
  ·have := h (n + 1) (by omega) (by omega); cases this
 | x :: xs, n, m, ha, hl, h, hn => by
  obtain ⟨a, b⟩ := List.pairwise_cons.1 ha
  by_cases c : n = m
  ·rw [← c]; exact rl_le _ _
  ·have hm := h (n + 1) (by omega) (by omega)
   have hx := hl x (List.mem_cons_self ..)
   rcases List.mem_cons.1 hm with e | hm
   ·rw [rl, show (x == n + 1) = true by simp [e], cond_true]
    refine rl_ge xs (n + 1) m b (fun y hy => by have := a y hy; omega) (fun y h1 h2 => ?_) (by omega)
    rcases List.mem_cons.1 (h y (by omega) h2) with e2 | hy
    ·omega
    ·exact hy
   ·have := a _ hm; omega
theorem reach_ge {ws : List Int} {m : Int} (h0 : 0 ≤ m) (h : ∀ x, 0 < x → x ≤ m → R ws x) : m ≤ rl 0 (posL ws) :=
 rl_ge _ 0 m ((sumS_asc ws).filter _) (fun x hx => by simpa using (List.mem_filter.1 hx).2) (fun x h1 h2 => List.mem_filter.2 ⟨mem_sumS.2 (h x h1 h2), by simpa using h1⟩) h0
theorem threes_len (k : Nat) : (threes k).length = k := by simp [threes]
theorem few_mem {k : Nat} (h : 1 ≤ k ∧ k ≤ 7) : k ∈ [1, 2, 3, 4, 5, 6, 7] := by simp; omega
theorem len_bne2 (a b : Nat) : ((a : Int) != (b : Int)) = (a != b) := by
 by_cases c : a = b
 ·simp [c]
 ·rw [show ((a : Int) != (b : Int)) = true by rw [bne_iff_ne]; omega, show (a != b) = true by rw [bne_iff_ne]; exact c]
def balE (ws l : List Int) (load : Int) : Int := cond (wE ws == 0) (cond (l.length != ws.length) 9 (cond (!okLay l) 9 (cond (bal ws l != load) 13 0))) (wE ws)
def B19 (ws l : List Int) (load : Int) : Option Int := if l.length ≤ 1000 ∧ -9223372036854775808 ≤ load ∧ load ≤ 9223372036854775807 then some (balE ws l load) else none
def bad (n : Int) : Bool := !(decide (-1 ≤ n ∧ n ≤ 1))
theorem KB46 : FnOk Tryz.prog 46 (F46 fun n => some (bad n)) := ok46 B47 KB47 _ fun n r h => ⟨0, by rw [← h, m46]; rfl⟩
def ixB' (q : Int → Bool) : Int → List Int → Int
 | _, [] => -1
 | t, x :: xs => cond (q x) t (ixB' q (t + 1) xs)
theorem ixB_ge (q : Int → Bool) : ∀ (xs : List Int) (t : Int), 0 ≤ t → decide (ixB' q t xs ≥ 0) = xs.any q
 | [], t, h => rfl
 | x :: xs, t, h => by
  rw [ixB', List.any_cons]
  cases q x with
  | true => simp [h]
  | false => rw [cond_false, ixB_ge q xs (t + 1) (by omega), Bool.false_or]
def B57c46 (xs : List Int) : Option Int := if xs.length ≤ 1000 then some (ixB' bad 0 xs) else none
theorem KB57c46 : FnOk Tryz.prog 57 (F57c46 B57c46) := ok57c46 _ KB46 B57c46 fun xs r h => ⟨1001, by
 simp only [B57c46] at h
 split at h
 ·rename_i hl
  rw [← h, m57c46]
  exact rangeIx xs 0 (fun n (_ : Unit) t => l57c46a (fun n => some (bad n)) 1001 xs n t) (fun _ _ _ => True) (fun t xs _ => some (ixB' bad t xs))
   (fun n _ t x rest ht hx _ ih => by
    simp only [l57c46a, ixA ht, ixB ht, cond_true, chk_true, Int.toNat_natCast, ixW ht (by omega), hx, ih () trivial, ixB', Option.bind_some]
    cases bad x <;> rfl)
   (fun n _ _ => by simp only [l57c46a, ixE, cond_false]; rfl) 1001 () (by omega) trivial
 ·cases h⟩
def B26c46 (xs : List Int) : Option Bool := if xs.length ≤ 1000 then some (!okLay xs) else none
theorem any_bad (xs : List Int) : xs.any bad = !okLay xs := by
 unfold okLay
 induction xs with
 | nil => rfl
 | cons x xs ih =>
  rw [List.any_cons, ih, List.all_cons, bad]
  cases decide (-1 ≤ x ∧ x ≤ 1) <;> simp
theorem KB26c46 : FnOk Tryz.prog 26 (F26c46 B26c46) := ok26c46 B57c46 KB57c46 B26c46 fun xs r h => ⟨0, by
 simp only [B26c46] at h
 split at h
 ·rename_i hl
  rw [← h, m26c46, B57c46, if_pos hl, Option.bind_some, ixB_ge bad xs 0 (by omega), any_bad]
 ·cases h⟩
theorem wrap_sub (a b c : Int) : w64 (w64 (a - b) - c) = w64 (a - (b + c)) := by
 simp only [w64, IntKind.wrap, IntKind.bits, IntKind.signed]; simp; omega
theorem bal_bound {ws l : List Int} (h : Pos ws) (hl : l.length = ws.length) (ho : okLay l = true) : -ws.sum ≤ bal ws l ∧ bal ws l ≤ ws.sum :=
 R_le h.nonneg ⟨l, hl, okLay_iff.1 ho, rfl⟩
theorem KB19 : FnOk Tryz.prog 19 (F19 B19) := ok19 B26c46 B42 KB26c46 KB42 B19 fun ws l load r h => ⟨1001, by
 simp only [B19] at h
 split at h
 ·rename_i hl
  obtain ⟨hl, hb0, hb1⟩ := hl
  rw [← h, m19, B42, Option.bind_some, balE, len_bne2]
  cases e : wE ws == 0 with
  | false => simp only [bne, e, Bool.not_false, cond_true, cond_false]
  | true =>
   have h0 : wE ws = 0 := by simpa using e
   obtain ⟨h7, hp, _⟩ := wE_zero h0
   rw [show (wE ws != 0) = false by simp [bne, e], cond_false, cond_true]
   cases e2 : l.length != ws.length with
   | true => rfl
   | false =>
    have hlen : l.length = ws.length := by simpa using e2
    rw [cond_false, cond_false, B26c46, if_pos hl, Option.bind_some]
    cases e3 : okLay l with
    | false => rfl
    | true =>
     rw [Bool.not_true, cond_false, cond_false]
     have ho := okLay_iff.1 e3
     have hsum := hp.sum
     have main := rangeIx l 0 (fun n (s : Int) t => l19a B26c46 B42 1001 ws l n s t) (fun t xs s => ∃ d, -2000 * (t : Int) ≤ d ∧ d ≤ 2000 * (t : Int) ∧ s = w64 (load - d) ∧ d + bal (ws.drop t) xs = bal ws l) (fun t xs s => some (cond (bal ws l != load) 13 0))
      (fun n s t x rest ht hx hI ih => by
       obtain ⟨d, d1, d2, d3, d4⟩ := hI
       have htw : t < ws.length := by omega
       have hxw := ho x (getD_mem ht hx)
       have e : ws.drop t = ws.getD t 0 :: ws.drop (t + 1) := by
        rw [List.drop_eq_getElem_cons htw, List.getD_eq_getElem?_getD, List.getElem?_eq_getElem htw]; rfl
       have hw := hp (ws.getD t 0) (getD_mem htw rfl)
       have hb : -2000 ≤ x * ws.getD t 0 ∧ x * ws.getD t 0 ≤ 2000 := by rcases hxw with rfl | rfl | rfl <;> omega
       rw [e, bal] at d4
       simp only [l19a, ixA ht, ixB ht, ixB htw, cond_true, chk_true, Int.toNat_natCast, hx, ixW ht (by omega), w64_small (show -4611686018427387904 ≤ x * ws.getD t 0 ∧ x * ws.getD t 0 ≤ 4611686018427387904 by omega), d3, wrap_sub]
       refine ih _ ⟨d + x * ws.getD t 0, by omega, by omega, rfl, ?_⟩
       rw [Int.mul_comm x]; omega)
      (fun n s hI => by
       obtain ⟨d, d1, d2, d3, d4⟩ := hI
       simp only [l19a, ixE, cond_false]
       rw [hlen, List.drop_length] at d4
       have e4 : (s != 0) = (bal ws l != load) := by
        have hd : d = bal ws l := by rw [← d4]; simp [bal]
        rw [hd] at d3
        have hbb := bal_bound hp hlen e3
        by_cases c : bal ws l = load
        ·have : s = 0 := by rw [d3, c, Int.sub_self]; rfl
         rw [this, c]; simp
        ·have : s ≠ 0 := by
          rw [d3]
          simp only [w64, IntKind.wrap, IntKind.bits, IntKind.signed]; simp; omega
         rw [show (s != 0) = true by rw [bne_iff_ne]; exact this, show (bal ws l != load) = true by rw [bne_iff_ne]; exact c]
       rw [e4]
       cases bal ws l != load <;> rfl) 1001 load (by omega) ⟨0, by omega, by omega, by rw [Int.sub_zero, w64_eq (by omega) (by omega)], by rw [List.drop_zero, Int.zero_add]⟩
     exact main
 ·cases h⟩
def srch : List Int → Int → Int → Option (List Int)
 | [], left, use => cond (decide (use < 0)) none (cond (left == 0) (some []) none)
 | w :: ws, left, use => cond (decide (use < 0)) none (match srch ws (left - w) (use - 1) with
  | some l => some (1 :: l)
  | none => match srch ws left use with
   | some l => some (0 :: l)
   | none => (srch ws (left + w) (use - 1)).map (-1 :: ·))
theorem used_nonneg : ∀ l, 0 ≤ used l
 | [] => Int.le_refl _
 | a :: l => by have := used_nonneg l; rw [used]; cases a != 0 <;> simp <;> omega
theorem used_le : ∀ l : List Int, used l ≤ (l.length : Int)
 | [] => by simp [used]
 | a :: l => by have := used_le l; rw [used, List.length_cons]; cases a != 0 <;> simp <;> omega
theorem lays_cons : ∀ k, lays (k + 1) = (lays k).map (1 :: ·) ++ ((lays k).map (0 :: ·) ++ (lays k).map (-1 :: ·))
 | 0 => rfl
 | k + 1 => by
  have e : ∀ a : Int, ((lays k).map (a :: ·)).flatMap (fun l => [l ++ [1], l ++ [0], l ++ [-1]]) = ((lays k).flatMap fun l => [l ++ [1], l ++ [0], l ++ [-1]]).map (a :: ·) := by
   intro a
   generalize lays k = L
   induction L with
   | nil => rfl
   | cons x xs ih => simp only [List.map_cons, List.flatMap_cons, List.map_append, ih]; rfl
  rw [lays, lays_cons k, List.flatMap_append, List.flatMap_append, e, e, e, ← lays_cons k]
  rfl
theorem srch_find : ∀ (ws : List Int) (left use : Int), srch ws left use = (lays ws.length).find? fun l => bal ws l == left && decide (used l ≤ use)
 | [], left, use => by
  rw [srch]
  show _ = [([] : List Int)].find? _
  rw [List.find?_singleton]
  by_cases c : use < 0
  ·rw [decide_eq_true c, cond_true, if_neg (by rw [show decide (used ([] : List Int) ≤ use) = false from decide_eq_false (by show ¬ (0 : Int) ≤ use; omega), Bool.and_false]; exact Bool.false_ne_true)]
  ·rw [decide_eq_false c, cond_false]
   by_cases d : left = 0
   ·subst d; rw [if_pos (by rw [show decide (used ([] : List Int) ≤ use) = true from decide_eq_true (by show (0 : Int) ≤ use; omega)]; rfl)]; rfl
   ·rw [beq_false_of_ne d, cond_false, if_neg (by simp [bal]; intro e; exact absurd e.symm d)]
 | w :: ws, left, use => by
  have h1 : ∀ a : Int, ((lays ws.length).map (a :: ·)).find? (fun l => bal (w :: ws) l == left && decide (used l ≤ use)) = (srch ws (left - w * a) (use - cond (a != 0) 1 0)).map (a :: ·) := by
   intro a
   rw [srch_find ws, List.find?_map]
   congr 1
   congr 1
   funext l
   simp only [Function.comp, bal, used]
   congr 1
   ·by_cases c : w * a + bal ws l = left
    ·rw [show (w * a + bal ws l == left) = true by simp [c], show (bal ws l == left - w * a) = true by simp; omega]
    ·rw [beq_false_of_ne c, beq_false_of_ne (by omega)]
   ·exact decide_eq_decide.2 (by omega)
  rw [srch, List.length_cons, lays_cons, List.find?_append, List.find?_append, h1, h1, h1]
  by_cases c : use < 0
  ·have none : ∀ (x u : Int), u < 0 → srch ws x u = Option.none := fun x u hu => by cases ws <;> simp [srch, hu]
   rw [decide_eq_true c, cond_true, none _ _ (by simp; omega), none _ _ (by simp; omega), none _ _ (by simp; omega)]; rfl
  ·rw [decide_eq_false c, cond_false]
   have e1 : left - w * 1 = left - w := by omega
   have e2 : left - w * 0 = left := by omega
   have e3 : left - w * -1 = left + w := by omega
   rw [e1, e2, e3, show (cond ((1 : Int) != 0) (1 : Int) 0) = 1 from rfl, show (cond ((0 : Int) != 0) (1 : Int) 0) = 0 from rfl, show (cond ((-1 : Int) != 0) (1 : Int) 0) = 1 from rfl, Int.sub_zero]
   cases srch ws (left - w) (use - 1) with
   | some l => rfl
   | none =>
    cases srch ws left use with
    | some l => rfl
    | none => cases srch ws (left + w) (use - 1) <;> rfl
theorem srch_some {ws : List Int} {left use : Int} {l : List Int} (h : srch ws left use = some l) : l ∈ lays ws.length ∧ bal ws l = left ∧ used l ≤ use := by
 rw [srch_find] at h
 have a := List.mem_of_find?_eq_some h
 have b := List.find?_some h
 simp only [Bool.and_eq_true, beq_iff_eq, decide_eq_true_eq] at b
 exact ⟨a, b.1, b.2⟩
theorem srch_neg {ws : List Int} {x u : Int} (hu : u < 0) : srch ws x u = none := by cases ws <;> simp [srch, hu]
theorem srch_out {ws : List Int} (hp : ∀ w ∈ ws, 0 ≤ w) {left use : Int} (h : left > ws.sum ∨ left < -ws.sum) : srch ws left use = none := by
 cases e : srch ws left use with
 | none => rfl
 | some l =>
  obtain ⟨a, b, _⟩ := srch_some e
  have := R_le hp (R_lays.2 ⟨l, a, b⟩)
  omega
def B44 (l : List Int) : Option (List Int) := some l
theorem KB44 : FnOk Tryz.prog 44 (F44 B44) := ok44 B44 fun l r h => ⟨0, by
 rw [← h, m44, B44, chk_of (by simp), Int.toNat_natCast, List.take_length]⟩
def B24 (l : Option (List Int)) : Option (Option (List Int)) := match l with
 | none => none
 | some l => if 0 < l.length ∧ l.length ≤ 1000 then some (some l) else none
theorem KB24 : FnOk Tryz.prog 24 (F24 B24) := ok24 B24 fun l r h => ⟨0, by
 cases l with
 | none => cases h
 | some l =>
  simp only [B24] at h
  split at h
  ·rename_i hl
   rw [← h, m24]
   have s1 : small (0 + l.length) 8 = true := small_of (by omega) (by omega)
   simp only [Option.isNone_some, cond_false, Option.getD_some, s1, chk_true, List.nil_append]
   rw [chk_of (by rw [decide_eq_true hl.1]; rfl)]
  ·cases h⟩
def ok43 (k : Nat) (l : List Int) (rest use : Int) (ws : List Int) : Prop := wE ws = 0 ∧ l.length ≤ ws.length ∧ ws.length - l.length < k ∧ rest = (ws.drop l.length).sum ∧ -10 ≤ use ∧ use ≤ 10
instance (k : Nat) (l : List Int) (rest use : Int) (ws : List Int) : Decidable (ok43 k l rest use ws) := inferInstanceAs (Decidable (_ ∧ _))
def B43 (k : Nat) (l : List Int) (left rest use : Int) (ws : List Int) : Option (Option (List Int) × List Int) :=
 if ok43 k l rest use ws then some ((srch (ws.drop l.length) left use).map (l ++ ·), ws) else none
theorem KB43 : ∀ k, FnOk Tryz.prog 43 (F43c (B43 k))
 | 0 => by
  intro args Of x hx
  simp only [F43c] at hx
  split at hx
  ·simp only [B43] at hx
   rw [if_neg (by intro h; have := h.2.2.1; omega)] at hx
   cases hx
  ·cases hx
 | k + 1 => ok43c B24 (B43 k) B44 KB24 (KB43 k) KB44 (B43 (k + 1)) fun l left rest use ws r h => ⟨1001, by
  simp only [B43] at h
  split at h
  ·rename_i hk
   obtain ⟨hw, hl, hk1, hr, hu0, hu1⟩ := hk
   obtain ⟨h7, hp, _⟩ := wE_zero hw
   have hpd : Pos (ws.drop l.length) := fun w h => hp w (List.mem_of_mem_drop h)
   have hsum := hpd.sum
   have hdl : (ws.drop l.length).length ≤ 7 := by rw [List.length_drop]; omega
   have hr14 : 0 ≤ rest ∧ rest ≤ 14000 := by omega
   have hneg : w64 (0 - rest) = -rest := by rw [w64_small (by omega)]; omega
   rw [← h, m43c, hneg]
   by_cases c1 : use < 0
   ·rw [decide_eq_true c1, cond_true, srch_neg c1]; rfl
   ·rw [decide_eq_false c1, cond_false]
    by_cases c2 : left > rest
    ·rw [decide_eq_true c2, cond_true, srch_out hpd.nonneg (.inl (by omega))]; rfl
    ·rw [decide_eq_false c2, cond_false]
     by_cases c3 : left < -rest
     ·rw [decide_eq_true c3, cond_true, srch_out hpd.nonneg (.inr (by omega))]; rfl
     ·rw [decide_eq_false c3, cond_false]
      by_cases c4 : l.length = ws.length
      ·have e0 : ws.drop l.length = [] := by rw [c4, List.drop_length]
       rw [e0] at hr ⊢
       have hl0 : left = 0 := by simp at hr; omega
       rw [show ((l.length : Int) == (ws.length : Int)) = true by simp [c4], cond_true, chk_of (by rw [decide_eq_true (show 0 < l.length by omega)]; rfl), B24, if_pos (by omega), Option.bind_some, hl0, srch, decide_eq_false c1]
       simp
      ·have hlt : l.length < ws.length := by omega
       rw [show ((l.length : Int) == (ws.length : Int)) = false by rw [beq_eq_false_iff_ne]; omega, cond_false, ixB hlt, chk_true]
       have e : ws.drop l.length = ws.getD l.length 0 :: ws.drop (l.length + 1) := by
        rw [List.drop_eq_getElem_cons hlt, List.getD_eq_getElem?_getD, List.getElem?_eq_getElem hlt]; rfl
       have hwp := hp (ws.getD l.length 0) (getD_mem hlt rfl)
       rw [e] at hr hpd ⊢
       generalize hwd : ws.getD l.length 0 = w at hr hwp hpd e ⊢
       rw [List.sum_cons] at hr
       have hs1 : small (l.length + 1) 8 = true := small_of (by omega) (by omega)
       have call : ∀ v : Int, IsWay v → B43 k (l ++ [v]) (left - v * w) (rest - w) (use - v * v) ws = some ((srch (ws.drop (l.length + 1)) (left - v * w) (use - v * v)).map (l ++ [v] ++ ·), ws) := fun v hv => by
        have e1 : (l ++ [v]).length = l.length + 1 := by simp
        have hvv : 0 ≤ v * v ∧ v * v ≤ 1 := by rcases hv with rfl | rfl | rfl <;> omega
        rw [B43, if_pos ⟨hw, by omega, by omega, by rw [e1]; omega, by omega, by omega⟩, e1]
       have one : ∀ (m : Nat) (t : Nat) (v : Int), t < 3 → ([1, 0, -1] : List Int).getD t 0 = v → IsWay v → l43ca B24 (B43 k) B44 1001 l left rest use ws (m + 1) (t : Int) ws =
         match srch (ws.drop (l.length + 1)) (left - v * w) (use - v * v) with
         | some s => some (some (l ++ [v] ++ s), ws)
         | none => l43ca B24 (B43 k) B44 1001 l left rest use ws m ((t + 1 : Nat) : Int) ws := by
        intro m t v ht hv hw'
        have b1 : -2000 ≤ v * w ∧ v * w ≤ 2000 := by rcases hw' with rfl | rfl | rfl <;> omega
        have b2 : 0 ≤ v * v ∧ v * v ≤ 1 := by rcases hw' with rfl | rfl | rfl <;> omega
        simp only [l43ca, decide_eq_true (show (t : Int) < 3 by omega), decide_eq_true (show 0 ≤ (t : Int) ∧ (t : Int) < 3 by omega), cond_true, chk_true, B44, Option.bind_some, hs1, Int.toNat_natCast, hv, hwd,
         w64_small (show -4611686018427387904 ≤ v * w ∧ v * w ≤ 4611686018427387904 by omega), w64_small (show -4611686018427387904 ≤ v * v ∧ v * v ≤ 4611686018427387904 by omega),
         w64_small (show -4611686018427387904 ≤ left - v * w ∧ left - v * w ≤ 4611686018427387904 by omega), w64_small (show -4611686018427387904 ≤ rest - w ∧ rest - w ≤ 4611686018427387904 by omega),
         w64_small (show -4611686018427387904 ≤ use - v * v ∧ use - v * v ≤ 4611686018427387904 by omega), call v hw', w64_succ (show t < 4611686018427387904 by omega)]
        cases srch (ws.drop (l.length + 1)) (left - v * w) (use - v * v) <;> rfl
       have o1 := one 1000 0 1 (by omega) rfl (.inl rfl)
       have o2 := one 999 1 0 (by omega) rfl (.inr (.inl rfl))
       have o3 := one 998 2 (-1) (by omega) rfl (.inr (.inr rfl))
       have o4 : ∀ m, l43ca B24 (B43 k) B44 1001 l left rest use ws (m + 1) ((3 : Nat) : Int) ws = some (none, ws) := fun m => rfl
       rw [srch, decide_eq_false c1, cond_false]
       simp only [Int.one_mul, Int.zero_mul, Int.sub_zero, Int.mul_one, Int.neg_mul, Int.neg_neg, Int.sub_neg] at o1 o2 o3
       refine Eq.trans o1 ?_
       cases srch (ws.drop (l.length + 1)) (left - w) (use - 1) with
       | some s => simp
       | none =>
        refine Eq.trans o2 ?_
        cases srch (ws.drop (l.length + 1)) left use with
        | some s => simp
        | none =>
         refine Eq.trans o3 ?_
         cases srch (ws.drop (l.length + 1)) (left + w) (use - 1) with
         | some s => simp
         | none => exact o4 997
  ·cases h⟩
def stepB (ws : List Int) (load : Int) (s : List Int × Int) (l : List Int) : List Int × Int := cond (bal ws l == load) (cond (decide (used l < s.2)) (l, used l) s) s
def bestS (ws : List Int) (load : Int) : List Int × Int := (lays ws.length).foldl (stepB ws load) ([], 8)
def layF (q : List Int × Int) : List Int × Int := cond (decide (q.2 > 7)) ([], 14) (q.1, 0)
theorem layF_hi {q : List Int × Int} (h : q.2 > 7) : layF q = ([], 14) := by unfold layF; rw [decide_eq_true h]; rfl
theorem layF_lo {q : List Int × Int} (h : ¬ q.2 > 7) : layF q = (q.1, 0) := by unfold layF; rw [decide_eq_false h]; rfl
def layS (ws : List Int) (load : Int) : List Int × Int := cond (wE ws == 0) (layF (bestS ws load)) ([], wE ws)
def BInv (ws : List Int) (load : Int) (pre : List (List Int)) (s : List Int × Int) : Prop :=
 (s.2 = 8 ∧ ∀ l ∈ pre, ¬ bal ws l = load) ∨ (0 ≤ s.2 ∧ s.2 ≤ 7 ∧ pre.find? (fun l => bal ws l == load && decide (used l ≤ s.2)) = some s.1 ∧ ∀ l ∈ pre, bal ws l = load → s.2 ≤ used l)
theorem binv_step {ws : List Int} {load : Int} {pre : List (List Int)} {s : List Int × Int} {x : List Int} (hx : used x ≤ 7) (h : BInv ws load pre s) : BInv ws load (pre ++ [x]) (stepB ws load s x) := by
 unfold stepB
 by_cases c : bal ws x = load
 ·rw [show (bal ws x == load) = true by simp [c], cond_true]
  by_cases d : used x < s.2
  ·rw [decide_eq_true d, cond_true]
   have hn : pre.find? (fun l => bal ws l == load && decide (used l ≤ used x)) = none := by
    rw [List.find?_eq_none]
    intro l hl
    simp only [Bool.and_eq_true, beq_iff_eq, decide_eq_true_eq, not_and]
    intro hb hu
    rcases h with ⟨_, h⟩ | ⟨_, _, _, h⟩
    ·exact h l hl hb
    ·have := h l hl hb; omega
   refine .inr ⟨used_nonneg x, hx, ?_, fun l hl hb => ?_⟩
   ·show (pre ++ [x]).find? (fun l => bal ws l == load && decide (used l ≤ used x)) = some x
    rw [List.find?_append, hn]; simp [c]
   ·show used x ≤ used l
    rcases List.mem_append.1 hl with hl | hl
    ·rcases h with ⟨_, h⟩ | ⟨_, _, _, h⟩
     ·exact absurd hb (h l hl)
     ·have := h l hl hb; omega
    ·simp at hl; subst hl; omega
  ·rw [decide_eq_false d, cond_false]
   rcases h with ⟨h1, h⟩ | ⟨h1, h2, h3, h⟩
   ·omega
   ·refine .inr ⟨h1, h2, by rw [List.find?_append, h3]; rfl, fun l hl hb => ?_⟩
    rcases List.mem_append.1 hl with hl | hl
    ·exact h l hl hb
    ·simp at hl; subst hl; omega
 ·rw [beq_false_of_ne c, cond_false]
  rcases h with ⟨h1, h⟩ | ⟨h1, h2, h3, h⟩
  ·refine .inl ⟨h1, fun l hl => ?_⟩
   rcases List.mem_append.1 hl with hl | hl
   ·exact h l hl
   ·simp at hl; subst hl; exact c
  ·refine .inr ⟨h1, h2, by rw [List.find?_append, h3]; rfl, fun l hl hb => ?_⟩
   rcases List.mem_append.1 hl with hl | hl
   ·exact h l hl hb
   ·simp at hl; subst hl; exact absurd hb c
theorem binv_all {ws : List Int} {load : Int} : ∀ (xs pre : List (List Int)) (s : List Int × Int), (∀ x ∈ xs, used x ≤ 7) → BInv ws load pre s → BInv ws load (pre ++ xs) (xs.foldl (stepB ws load) s)
 | [], pre, s, _, h => by simpa using h
 | x :: xs, pre, s, hx, h => by
  have := binv_all xs (pre ++ [x]) _ (fun y hy => hx y (List.mem_cons_of_mem _ hy)) (binv_step (hx x (List.mem_cons_self ..)) h)
  simpa using this
theorem best_inv {ws : List Int} {load : Int} (h : ws.length ≤ 7) : BInv ws load (lays ws.length) (bestS ws load) := by
 have := binv_all (ws := ws) (load := load) (lays ws.length) [] ([], 8) (fun x hx => by have := (mem_lays.1 hx).1; have := used_le x; omega) (.inl ⟨rfl, by simp⟩)
 unfold bestS
 simpa using this
def BLay (ws : List Int) (load : Int) : Option (List Int × Int) := some (layS ws load)
theorem KB16 : FnOk Tryz.prog 16 (F16 BLay) := ok16 B42 (B43 10) KB42 (KB43 10) BLay fun ws load r h => ⟨1001, by
 rw [← h, m16, B42, Option.bind_some, BLay, layS]
 cases e : wE ws == 0 with
 | false => simp only [bne, e, Bool.not_false, cond_true, cond_false]
 | true =>
  have h0 : wE ws = 0 := by simpa using e
  obtain ⟨h7, hp, _⟩ := wE_zero h0
  have hsum := hp.sum
  have inv := best_inv (load := load) h7.2
  rw [show (wE ws != 0) = false by simp [bne, e], cond_false, cond_true]
  refine rangeInv ws 0 (fun n (s : Int) t => l16a B42 (B43 10) 1001 ws load n s t) (fun xs s => s + xs.sum = ws.sum ∧ 0 ≤ s ∧ Pos xs) (fun xs s => some (layF (bestS ws load)))
   (fun n s t x rest ht hx hI ih => by
    obtain ⟨i1, i2, i3⟩ := hI
    have hx1 := i3 x (List.mem_cons_self ..)
    have hr : Pos rest := fun w hw => i3 w (List.mem_cons_of_mem _ hw)
    have hrs := hr.sum
    rw [List.sum_cons] at i1
    simp only [l16a, ixA ht, ixB ht, cond_true, chk_true, Int.toNat_natCast, hx, ixW ht (by omega), w64_small (show -4611686018427387904 ≤ s + x ∧ s + x ≤ 4611686018427387904 by omega)]
    exact ih (s + x) ⟨by omega, by omega, hr⟩)
   (fun n s hI => ?_) 1001 0 (by omega) ⟨by simp, by omega, hp⟩
  obtain ⟨i1, i2, _⟩ := hI
  have es : s = ws.sum := by simpa using i1
  subst es
  simp only [l16a, ixE, cond_false]
  have hcall : ∀ u : Int, 0 ≤ u → u ≤ 8 → B43 10 [] load ws.sum u ws = some (srch ws load u, ws) := fun u hu0 hu1 => by
   rw [B43, if_pos ⟨h0, Nat.zero_le _, by simp; omega, rfl, by omega, by omega⟩]
   simp
  have hwl : w64 ((ws.length : Int) + 1) = (ws.length : Int) + 1 := w64_small (by omega)
  have hlow : ∀ u : Int, u < (bestS ws load).2 → srch ws load u = none := fun u hu => by
   cases e : srch ws load u with
   | none => rfl
   | some l =>
    obtain ⟨a, b, c⟩ := srch_some e
    rcases inv with ⟨_, q⟩ | ⟨_, _, _, q⟩
    ·exact absurd b (q l a)
    ·have := q l a b; omega
  have hat : (bestS ws load).2 ≤ 7 → srch ws load (bestS ws load).2 = some (bestS ws load).1 ∧ (bestS ws load).2 ≤ (ws.length : Int) ∧ 0 ≤ (bestS ws load).2 := fun h => by
   rcases inv with ⟨q, _⟩ | ⟨q0, _, q1, q2⟩
   ·omega
   ·rw [srch_find]
    refine ⟨q1, ?_, q0⟩
    have m := List.mem_of_find?_eq_some q1
    have b := List.find?_some q1
    simp only [Bool.and_eq_true, beq_iff_eq] at b
    have := q2 _ m b.1
    have := used_le (bestS ws load).1
    have := (mem_lays.1 m).1
    omega
  exact countUp 0 ((ws.length : Int) + 1) (by omega) (fun m (o : List Int) t => l16b B42 (B43 10) 1001 ws load ws.sum m t o) (fun t o => o = ws ∧ (t ≤ (bestS ws load).2 ∨ (bestS ws load).2 > 7)) (fun t o => some (layF (bestS ws load)))
   (fun m o t t0 t1 hI ih => by
    obtain ⟨rfl, hI⟩ := hI
    simp only [l16b, hwl, decide_eq_true t1, cond_true, hcall t (by omega) (by omega), Option.bind_some, w64_small (show -4611686018427387904 ≤ t + 1 ∧ t + 1 ≤ 4611686018427387904 by omega)]
    by_cases c : (bestS o load).2 > 7
    ·have hn : srch o load t = none := by
      cases e : srch o load t with
      | none => rfl
      | some l =>
       obtain ⟨a, b, _⟩ := srch_some e
       rcases inv with ⟨_, q⟩ | ⟨_, q, _⟩
       ·exact absurd b (q l a)
       ·omega
     rw [hn]
     exact ih o ⟨rfl, .inr c⟩
    ·by_cases d : t = (bestS o load).2
     ·obtain ⟨a1, _, _⟩ := hat (by omega)
      rw [d, a1, layF_lo c]; rfl
     ·rw [hlow t (by omega)]
      exact ih o ⟨rfl, by omega⟩)
   (fun m o hI => by
    obtain ⟨rfl, hI⟩ := hI
    simp only [l16b, hwl, decide_eq_false (show ¬ (o.length : Int) + 1 < (o.length : Int) + 1 by omega), cond_false]
    by_cases c : (bestS o load).2 > 7
    ·rw [layF_hi c]
    ·have := (hat (by omega)).2.1; omega) 1001 ws (by omega) ⟨rfl, by
     by_cases c : (bestS ws load).2 > 7
     ·exact .inr c
     ·exact .inl (hat (by omega)).2.2⟩⟩
end Go.Proofs.YtjcnfpfldocpdaaGreatDoor.Wt
