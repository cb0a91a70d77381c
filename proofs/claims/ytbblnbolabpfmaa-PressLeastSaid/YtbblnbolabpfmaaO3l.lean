/-
  Counts; the least fines, fine by fine.
-/
import Derived.Test.YtbblnbolabpfmaaO1l
namespace Go.Proofs.Ytbblnbolabpfmaa
open Go.RowKit
set_option linter.unusedVariables false

theorem cnt_big {p : Nat → Bool} {n : Nat} (h : ∀ i, n ≤ i → p i = false) : ∀ m, n ≤ m → cnt p m = cnt p n := by
  intro m
  induction m with
  | zero => intro hm; rw [show n = 0 by omega]
  | succ m ih =>
    intro hm
    by_cases q : n = m + 1
    · rw [q]
    · rw [cnt, h m (by omega), ih (by omega)]; rfl
theorem lstM_len {k n : Nat} (hk : k < 2 ^ n) (hn : n ≤ 12) : (lstM k).length = cnt (tb k) n := by
  rw [lstM, lstF_cnt]
  have e2 : cnt (fun i => tb k (0 + i)) 12 = cnt (tb k) 12 := cnt_congr fun i _ => by rw [Nat.zero_add]
  rw [e2, cnt_big (fun i hi => tb_big hk hi) 12 hn]
/-! ### Count -/
/-- Orders of at least a fine. -/
def ge (l : List Od) (c : Int) (i : Nat) : Bool := decide (c ≤ fnl l i)
def rch (l : List Od) (c : Int) (d : Nat) : Nat := d + aft (dyl l) l.length (ge l c) d
def mnF (r : Nat → Nat) : Nat → Nat → Int × Int → Int × Int
  | 0, _, s => s
  | m + 1, d, s => mnF r m (d + 1) (if (r d : Int) < s.1 then ((r d : Int), (d : Int)) else s)
def cntV (l : List Od) (c : Int) : Int × Int := mnF (rch l c) 31 0 ((l.length : Int) + 1, 0)
def couO (l : List Od) (c : Int) : Int × Int × Int := if ckO l = 0 then (if 0 ≤ c ∧ c ≤ 10000 then ((cntV l c).1, (cntV l c).2, 0) else (0, 0, 4)) else (0, 0, ckO l)
def B34 (l : List Od) (c : Int) : Option (Int × Int × Int) := if l.length ≤ 1000 then some (couO l c) else none

/-- Orders of a fine on one day. -/
def onD (l : List Od) (c : Int) (d i : Nat) : Bool := ge l c i && decide (dyl l i = d)

theorem rch_step {l : List Od} (c : Int) (d : Nat) : rch l c d + 1 = rch l c (d + 1) + cnt (onD l c (d + 1)) l.length := by
  have h : aft (dyl l) l.length (ge l c) d = cnt (fun i => (ge l c i && !decide (dyl l i ≤ d + 1)) || onD l c (d + 1) i) l.length := cnt_congr fun i _ => by
    unfold onD
    cases ge l c i with
    | false => rfl
    | true =>
      simp only [Bool.true_and]
      rcases Nat.lt_trichotomy (dyl l i) (d + 1) with q | q | q
      · rw [decide_eq_true (show dyl l i ≤ d by omega), decide_eq_true (show dyl l i ≤ d + 1 by omega), decide_eq_false (show ¬ dyl l i = d + 1 by omega)]; rfl
      · rw [decide_eq_false (show ¬ dyl l i ≤ d by omega), decide_eq_true q]; simp
      · rw [decide_eq_false (show ¬ dyl l i ≤ d by omega), decide_eq_false (show ¬ dyl l i ≤ d + 1 by omega)]; rfl
  have h2 : cnt (fun i => (ge l c i && !decide (dyl l i ≤ d + 1)) || onD l c (d + 1) i) l.length = aft (dyl l) l.length (ge l c) (d + 1) + cnt (onD l c (d + 1)) l.length := cnt_or fun i _ hi => by
    simp only [Bool.and_eq_true, Bool.not_eq_true', decide_eq_false_iff_not] at hi
    unfold onD
    rw [decide_eq_false (show ¬ dyl l i = d + 1 by omega), Bool.and_false]
  unfold rch
  omega

theorem rch_0 {l : List Od} (h : Ok6 l) (c : Int) : rch l c 0 = cnt (ge l c) l.length := by
  unfold rch aft
  rw [Nat.zero_add]
  exact cnt_congr fun i hi => by
    have := (h.dy hi).1
    rw [decide_eq_false (show ¬ dyl l i ≤ 0 by omega)]; simp

theorem rch_le {l : List Od} (c : Int) (d : Nat) : rch l c d ≤ d + l.length := by
  unfold rch
  have : aft (dyl l) l.length (ge l c) d ≤ l.length := cnt_le_n _ _
  omega

theorem cntV_start {l : List Od} (h : Ok6 l) (c : Int) : cntV l c = mnF (rch l c) 30 1 ((rch l c 0 : Int), 0) := by
  have := rch_le (l := l) c 0
  rw [cntV, mnF, if_pos (by show ((rch l c 0 : Nat) : Int) < (l.length : Int) + 1; omega)]; rfl

theorem min_loop {l : List Od} (h : OkO l) {c : Int} {due : List Int} (hl : due.length = 31) (hd : ∀ d : Nat, d < 31 → due.getD d 0 = (cnt (onD l c d) l.length : Nat)) (N : Nat) : ∀ (m d n : Nat) (s : Int × Int), d + m = 31 → 1 ≤ d → m < n → l34b B23 B49 N [due] n s.1 s.2 (rch l c (d - 1) : Nat) (d : Int) = some ((mnF (rch l c) m d s).1, (mnF (rch l c) m d s).2, 0)
  | 0, d, n, s, e, h1, hn => by
    obtain ⟨n, rfl⟩ : ∃ m, n = m + 1 := ⟨n - 1, by omega⟩
    simp only [l34b, decide_eq_false (show ¬ (d : Int) ≤ 30 by omega), cond_false, mnF]
  | m + 1, d, n, s, e, h1, hn => by
    obtain ⟨n, rfl⟩ : ∃ m, n = m + 1 := ⟨n - 1, by omega⟩
    obtain ⟨d, rfl⟩ : ∃ k, d = k + 1 := ⟨d - 1, by omega⟩
    have hc := cnt_le_n (onD l c (d + 1)) l.length
    have hr := rch_le (l := l) c d
    have hlen := h.len
    have hst := rch_step (l := l) c d
    have hw : w64 (((rch l c d : Nat) : Int) + w64 (1 - ((cnt (onD l c (d + 1)) l.length : Nat) : Int))) = ((rch l c (d + 1) : Nat) : Int) := by
      rw [w64_small (x := 1 - ((cnt (onD l c (d + 1)) l.length : Nat) : Int)) (by omega), w64_small (by omega)]; omega
    have hg := hd (d + 1) (by omega)
    have hw2 : w64 (((d + 1 : Nat) : Int) + 1) = ((d + 1 + 1 : Nat) : Int) := w64_succ (by omega)
    have ih := fun s' => min_loop h hl hd N m (d + 1 + 1) n s' (by omega) (by omega) (by omega)
    simp only [Nat.add_sub_cancel] at ih ⊢
    simp only [l34b, decide_eq_true (show ((d + 1 : Nat) : Int) ≤ 30 by omega), cond_true, decide_eq_true (show (0 : Int) ≤ ((d + 1 : Nat) : Int) ∧ ((d + 1 : Nat) : Int) < 31 by omega), chk_true, List.getD_cons_zero, Int.toNat_natCast, hg, hw, hw2, mnF]
    by_cases q : ((rch l c (d + 1) : Nat) : Int) < s.1
    · rw [decide_eq_true q, cond_true, if_pos q]; exact ih (((rch l c (d + 1) : Nat) : Int), ((d + 1 : Nat) : Int))
    · rw [decide_eq_false q, cond_false, if_neg q]; exact ih s

theorem getDI_set_self {l : List Int} {i : Nat} {v d : Int} (h : i < l.length) : (l.set i v).getD i d = v := by
  rw [List.getD_eq_getElem?_getD, List.getElem?_set_self h]; rfl
theorem getDI_set_ne {l : List Int} {i j : Nat} {v d : Int} (h : i ≠ j) : (l.set i v).getD j d = l.getD j d := by
  rw [List.getD_eq_getElem?_getD, List.getElem?_set_ne h, ← List.getD_eq_getElem?_getD]

theorem KB34 : FnOk Try.prog 34 (F34 B34) := ok34 B23 B49 KB23 KB49 B34 fun l c r h => ⟨1001, by
  simp only [B34] at h
  split at h
  · rename_i hl
    rw [← h, m34, B23, if_pos hl, Option.bind_some, couO]
    by_cases hc : ckO l = 0
    · have hok := ckO_ok hc
      have h6 := okO_of hc
      have hlen := h6.len
      rw [if_pos hc, bne_F hc, cond_false, B49, Option.bind_some]
      by_cases hf : 0 ≤ c ∧ c ≤ 10000
      · rw [if_pos hf, decide_eq_true hf, Bool.not_true, cond_false]
        exact rangeIx l d3 (fun n (s : Int × List (List Int)) t => l34a B23 B49 1001 l c n s.1 t s.2) (fun t xs s => ∃ due : List Int, s.2 = [due] ∧ due.length = 31 ∧ s.1 = (cnt (ge l c) t : Nat) ∧ ∀ d : Nat, d < 31 → due.getD d 0 = (cnt (onD l c d) t : Nat)) (fun t xs s => some ((cntV l c).1, (cntV l c).2, 0))
          (fun n s t x rest ht hx hI ih => by
            obtain ⟨s1, s2⟩ := s
            obtain ⟨due, rfl, h2, h3, h4⟩ := hI
            simp only at h3
            subst h3
            have hfn : (l.getD t ((0 : Int), ((0 : Int), ()))).2.1 = fnl l t := rfl
            have hday := hok.all _ (List.getElem_mem ht)
            have hge : l.getD t d3 = l[t] := by simp [List.getD, List.getElem?_eq_getElem ht]
            have hdy : (l.getD t ((0 : Int), ((0 : Int), ()))).1 = ((dyl l t : Nat) : Int) := by
              show (l.getD t d3).1 = _
              rw [dyl, hge]; omega
            have hd30 : 1 ≤ dyl l t ∧ dyl l t ≤ 30 := by rw [dyl, hge]; omega
            have hct := cnt_le_n (ge l c) t
            simp only [l34a, ixA ht, ixB ht, cond_true, chk_true, Int.toNat_natCast, ixW ht (by omega), hfn, hdy, List.getD_cons_zero, List.set_cons_zero]
            cases hg : ge l c t with
            | false =>
              have hg' : decide (fnl l t ≥ c) = false := hg
              rw [hg', cond_false]
              exact ih (_, [due]) ⟨due, rfl, h2, by simp only [cnt, hg, Bool.toNat_false, Nat.add_zero], fun d hd => by rw [h4 d hd, cnt]; simp [onD, hg]⟩
            | true =>
              have hg' : decide (fnl l t ≥ c) = true := hg
              have hcd := cnt_le_n (onD l c (dyl l t)) t
              rw [hg', cond_true, decide_eq_true (show (0 : Int) ≤ ((dyl l t : Nat) : Int) ∧ ((dyl l t : Nat) : Int) < 31 by omega), chk_true, chk_true, decide_eq_true (show dyl l t < due.length by omega), Bool.and_true, chk_true, h4 _ (by omega), w64_small (by omega), w64_small (by omega)]
              refine ih (_, [due.set (dyl l t) (((cnt (onD l c (dyl l t)) t : Nat) : Int) + 1)]) ⟨_, rfl, by rw [List.length_set]; exact h2, by simp only [cnt, hg, Bool.toNat_true]; omega, fun d hd => ?_⟩
              by_cases q : dyl l t = d
              · subst q
                rw [getDI_set_self (by omega), cnt]
                simp [onD, hg]
              · rw [getDI_set_ne q, h4 d hd, cnt]
                simp [onD, q])
          (fun n s hI => by
            obtain ⟨s1, s2⟩ := s
            obtain ⟨due, rfl, h2, h3, h4⟩ := hI
            simp only at h3
            subst h3
            have := min_loop hok h2 h4 1001 30 1 1001 (((cnt (ge l c) l.length : Nat) : Int), 0) rfl (by omega) (by omega)
            rw [cntV_start h6, rch_0 h6]
            rw [show (1 : Nat) - 1 = 0 from rfl, rch_0 h6] at this
            simp only [l34a, ixE, cond_false]
            exact this) 1001 (0, [_]) (by omega) ⟨_, rfl, rfl, rfl, fun d hd => by
              have : ∀ d : Nat, d < 31 → ([(0 : Int), 0, 0, 0, 0, 0, 0, 0, 0, 0, 0, 0, 0, 0, 0, 0, 0, 0, 0, 0, 0, 0, 0, 0, 0, 0, 0, 0, 0, 0, 0] : List Int).getD d 0 = 0 := by decide
              exact this d hd⟩
      · rw [if_neg hf, decide_eq_false hf, Bool.not_false, cond_true]
    · rw [if_neg hc, bne_T hc, cond_true]
  · cases h⟩

/-- Orders of at least a fine that are on time. -/
def gm (l : List Od) (c : Int) : Nat := cnt (fun i => mem (greedy l []) i && ge l c i) l.length
/-- All of them. -/
def ga (l : List Od) (c : Int) : Nat := cnt (ge l c) l.length

theorem gm_le {l : List Od} (h : Ok6 l) (c : Int) (d : Nat) : gm l c ≤ rch l c d := count_le (greedy_gr h).2.pos c d
theorem gm_ex {l : List Od} (h : Ok6 l) (c : Int) : ∃ D, gm l c = rch l c D := (greedy_gr h).2.count c fun i _ => rfl
theorem gm_ga (l : List Od) (c : Int) : gm l c ≤ ga l c := cnt_le fun i _ hi => by simp only [Bool.and_eq_true] at hi; exact hi.2
theorem ga_n (l : List Od) (c : Int) : ga l c ≤ l.length := cnt_le_n _ _

/-- Fine by fine: the orders that no day has room for. -/
theorem leastO_lay {l : List Od} (h : Ok6 l) {M : Nat} (hM : ∀ o ∈ l, o.2.1 ≤ (M : Int)) : leastO l = (lay (fun c => ga l c - gm l c) M : Int) := by
  have hf : ∀ i, i < l.length → 0 ≤ fnl l i ∧ fnl l i ≤ M := fun i hi => ⟨(h.fn hi).1, by
    have := hM _ (List.getElem_mem hi)
    simpa [fnl, List.getD, List.getElem?_eq_getElem hi] using this⟩
  have hb := (greedy_best h).2
  have e1 : tot l = (lay (fun c => ga l c) M : Int) := by
    unfold tot
    rw [cake (M := M) fun i hi _ => hf i hi]
    have : ∀ c : Nat, cnt (fun i => true && decide ((c : Int) ≤ fnl l i)) l.length = ga l c := fun c => cnt_congr fun i _ => rfl
    simp only [this]
  have e2 : ws (fnl l) (mem (greedy l [])) l.length = (lay (fun c => gm l c) M : Int) := by
    rw [cake (M := M) fun i hi _ => hf i hi]; rfl
  have e3 := lay_add (fun c => ga l (c : Int) - gm l (c : Int)) (fun c => gm l (c : Int)) M
  have e4 : lay (fun c => ga l (c : Int) - gm l (c : Int) + gm l (c : Int)) M = lay (fun c => ga l (c : Int)) M := by
    refine Nat.le_antisymm (lay_le fun c _ _ => ?_) (lay_le fun c _ _ => ?_) <;> (have := gm_ga l c; omega)
  omega

end Go.Proofs.Ytbblnbolabpfmaa
