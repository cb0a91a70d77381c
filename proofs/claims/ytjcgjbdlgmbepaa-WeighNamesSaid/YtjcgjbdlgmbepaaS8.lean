/-
  The law WeighSeen, as plain functions.
-/
import Derived.Test.YtjcgjbdlgmbepaaS5
import Derived.Test.YtjcgjbdlgmbepaaS7
namespace Go.Proofs.Ytjcgjbdlgmbepaa
open Go.RowKit
set_option linter.unusedVariables false

theorem asc_len : ∀ {l : List Int} {lo hi : Int}, lo ≤ hi → l.Pairwise (· < ·) → (∀ x ∈ l, lo ≤ x ∧ x < hi) → (l.length : Int) ≤ hi - lo
  | [], lo, hi, h, _, _ => by simp; omega
  | y :: ys, lo, hi, h, hp, hb => by
    obtain ⟨a, b⟩ := List.pairwise_cons.1 hp
    have hy := hb y (List.mem_cons_self ..)
    have := asc_len (l := ys) (lo := y + 1) (hi := hi) (by omega) b fun x hx => by
      have := a x hx
      have := hb x (List.mem_cons_of_mem _ hx)
      omega
    simp only [List.length_cons]; omega
theorem wgsE_of {st : Int} : ∀ {p : List Wg}, (∀ w ∈ p, wgE st w = 0) → wgsE st p = 0
  | [], _ => rfl
  | w :: ws, h => by
    rw [wgsE, h w (List.mem_cons_self ..), wgsE_of fun v hv => h v (List.mem_cons_of_mem _ hv)]; rfl
/-- A valid plan of some stones. -/
structure VPlan (n : Int) (p : List Wg) : Prop where
  n0 : 1 ≤ n
  n1 : n ≤ 13
  len : p.length ≤ 3
  all : ∀ w ∈ p, Valid n w
theorem VPlan.fair {n : Int} {p : List Wg} (h : VPlan n p) : fair p := ⟨by have := h.len; omega, fun w hw => by
  have v := h.all w hw
  have n0 := h.n0
  have n1 := h.n1
  have a := asc_len (lo := 0) (hi := n) (by omega) v.asc1 fun x hx => by have := v.in1 x hx; omega
  have b := asc_len (lo := 0) (hi := n) (by omega) v.asc2 fun x hx => by have := v.in2 x hx; omega
  omega⟩
theorem VPlan.ok {n : Int} {p : List Wg} (h : VPlan n p) : planE n p = 0 := by
  have n0 := h.n0
  have n1 := h.n1
  have l := h.len
  rw [planE, if_neg (by omega), if_neg (by omega)]
  exact wgsE_of fun w hw => valid_iff.2 (h.all w hw)
theorem VPlan.good {n : Int} {p : List Wg} (h : VPlan n p) {odd way : Int} (ho : 0 ≤ odd ∧ odd ≤ n - 1) (hw : -1 ≤ way ∧ way ≤ 1) : good n p odd way :=
  ⟨h.fair, ⟨h.n0, h.n1⟩, ho, hw, fun w hw => valid_iff.2 (h.all w hw)⟩
theorem VPlan.seen {n : Int} {p : List Wg} (h : VPlan n p) {odd way : Int} (ho : 0 ≤ odd ∧ odd ≤ n - 1) (hw : -1 ≤ way ∧ way ≤ 1) : B49 n p odd way = some (p.map (shR odd way)) := if_pos (h.good ho hw)
theorem VPlan.shows {n : Int} {p : List Wg} (h : VPlan n p) {odd way : Int} (ho : 0 ≤ odd ∧ odd ≤ n - 1) (hw : -1 ≤ way ∧ way ≤ 1) : B33 n p odd way = some (p.map (shR odd way), 0) := by
  rw [B33, if_pos h.fair, showsS, h.ok, decide_eq_true ho, decide_eq_true hw]; rfl

theorem cs_in : ∀ st ∈ (List.range 14).map (fun (n : Nat) => (n : Int)), ∀ c ∈ cs st, 0 ≤ c.getD 0 0 ∧ (1 ≤ st → c.getD 0 0 ≤ st - 1) := by decide +kernel
theorem cs_next : ∀ k ∈ List.range 13, cs ((k : Nat) : Int) ++ [[((k : Nat) : Int), 1], [((k : Nat) : Int), -1]] = cs (((k : Nat) : Int) + 1) := by decide +kernel
theorem VPlan.seenC {n : Int} {p : List Wg} (h : VPlan n p) {c : List Int} (hc : c ∈ cs n) : B49 n p (c.getD 0 0) (c.getD 1 0) = some (shC p c) :=
  h.seen (by have := cs_in n (st_mem ⟨h.n0, h.n1⟩) c hc; have := h.n0; omega) (cs_way n (st_mem ⟨h.n0, h.n1⟩) c hc)
theorem VPlan.showsC {n : Int} {p : List Wg} (h : VPlan n p) {c : List Int} (hc : c ∈ cs n) : B33 n p (c.getD 0 0) (c.getD 1 0) = some (shC p c, 0) :=
  h.shows (by have := cs_in n (st_mem ⟨h.n0, h.n1⟩) c hc; have := h.n0; omega) (cs_way n (st_mem ⟨h.n0, h.n1⟩) c hc)

/-- Each case's entries are ways. -/
theorem shR_way {odd way : Int} (hw : -1 ≤ way ∧ way ≤ 1) (w : Wg) : shR odd way w = 1 ∨ shR odd way w = 0 ∨ shR odd way w = -1 := by
  unfold shR
  have hw' : way = -1 ∨ way = 0 ∨ way = 1 := by omega
  cases w.2.1.contains odd <;> cases w.1.contains odd <;> rcases hw' with rfl | rfl | rfl <;> decide

/-- How many cases show lists that begin so. -/
def preN (n : Int) (p : List Wg) (l : List Int) : Nat := (cs n).countP fun c => decide ((shC p c).take l.length = l)
theorem preN_le {n : Int} {p : List Wg} {l : List Int} (h : VPlan n p) : preN n p l ≤ 27 := by
  have := List.countP_le_length (p := fun c => decide ((shC p c).take l.length = l)) (l := cs n)
  rw [cs_len] at this
  have := h.n1
  have := h.n0
  unfold preN; omega
theorem count3 {α : Type} (P P1 P2 P3 : α → Bool) : ∀ (l : List α), (∀ x ∈ l, (cond (P x) 1 0 : Nat) = cond (P1 x) 1 0 + cond (P2 x) 1 0 + cond (P3 x) 1 0) → l.countP P = l.countP P1 + l.countP P2 + l.countP P3
  | [], _ => rfl
  | x :: xs, h => by
    have a := count3 P P1 P2 P3 xs fun y hy => h y (List.mem_cons_of_mem _ hy)
    have b := h x (List.mem_cons_self ..)
    simp only [List.countP_cons, a]
    cases e0 : P x <;> cases e1 : P1 x <;> cases e2 : P2 x <;> cases e3 : P3 x <;> simp [e0, e1, e2, e3] at b ⊢ <;> omega
theorem take_snoc {m l : List Int} {v : Int} (h : l.length < m.length) : (m.take (l ++ [v]).length = l ++ [v]) ↔ (m.take l.length = l ∧ m.getD l.length 0 = v) := by
  have e : m.take (l ++ [v]).length = m.take l.length ++ [m.getD l.length 0] := by
    rw [List.length_append, List.length_singleton, List.take_add_one, List.getElem?_eq_getElem h, List.getD_eq_getElem?_getD, List.getElem?_eq_getElem h]; rfl
  rw [e]
  constructor
  · intro h'
    obtain ⟨a, b⟩ := List.append_inj' h' rfl
    exact ⟨a, by simpa using b⟩
  · intro ⟨a, b⟩; rw [a, b]
theorem preN_split {n : Int} {p : List Wg} {l : List Int} (h : VPlan n p) (hl : l.length < p.length) : preN n p l = preN n p (l ++ [1]) + preN n p (l ++ [0]) + preN n p (l ++ [-1]) := by
  refine count3 _ _ _ _ _ fun c hc => ?_
  have hlen : l.length < (shC p c).length := by rw [shC_len]; exact hl
  have hent : (shC p c).getD l.length 0 = 1 ∨ (shC p c).getD l.length 0 = 0 ∨ (shC p c).getD l.length 0 = -1 := by
    have := getD_mem hlen rfl (d := (0 : Int))
    obtain ⟨w, _, hw⟩ := List.mem_map.1 this
    rw [← hw]
    exact shR_way (cs_way n (st_mem ⟨h.n0, h.n1⟩) c hc) w
  have e : ∀ v, decide ((shC p c).take (l ++ [v]).length = l ++ [v]) = (decide ((shC p c).take l.length = l) && decide ((shC p c).getD l.length 0 = v)) := fun v => by
    rw [← Bool.decide_and]; exact decide_eq_decide.2 (take_snoc hlen)
  simp only [e]
  cases decide ((shC p c).take l.length = l) with
  | false => rfl
  | true => rcases hent with e1 | e1 | e1 <;> rw [e1] <;> decide
theorem preN_full {n : Int} {p : List Wg} {l : List Int} (hl : l.length = p.length) : preN n p l = (leftL n p l).length := by
  unfold preN leftL
  rw [List.countP_eq_length_filter]
  congr 1
  refine List.filter_congr fun c hc => ?_
  rw [hl, ← shC_len p c, List.take_length]
theorem preN_nil {n : Int} {p : List Wg} : preN n p [] = (cs n).length := by
  unfold preN; simp

/-- The round of one list. -/
def ok50 (l : List Int) (n : Int) (p : List Wg) (all : Int) (cases : List (List Int)) : Prop := planE n p = 0 ∧ fair p ∧ (∀ w ∈ p, wgE n w = 0) ∧ cases = cs n ∧ l.length = p.length ∧ l.any badWay = false ∧ 0 ≤ all ∧ all ≤ 10000
instance (l : List Int) (n : Int) (p : List Wg) (all : Int) (cases : List (List Int)) : Decidable (ok50 l n p all cases) := inferInstanceAs (Decidable (_ ∧ _))
def B50 (l : List Int) (n : Int) (p : List Wg) (good : Bool) (all : Int) (cases : List (List Int)) : Option (Int × List Wg × Bool × Int × List (List Int)) :=
  if ok50 l n p all cases then some (n, p, good, all + (leftL n p l).length, cs n) else none
theorem vplan_of {n : Int} {p : List Wg} (h : planE n p = 0) : VPlan n p :=
  ⟨(planE_zero h).1.1, (planE_zero h).1.2, (planE_zero h).2.1, fun w hw => valid_iff.1 ((planE_zero h).2.2 w hw)⟩
theorem KB50 : FnOk Try.prog 50 (F50c B50) := ok50c Beq B39 B49 KB21 KB39 KB49 B50 fun l n p good all cases r h => ⟨1001, by
  simp only [B50] at h
  split at h
  · rename_i hk
    obtain ⟨h0, hf, _, rfl, hl, hb, ha0, ha1⟩ := hk
    have V := vplan_of h0
    have hlen : (cs n).length ≤ 27 := by rw [cs_len]; have := V.n1; omega
    have hL : leftS n p l = (leftL n p l, 0) := by
      rw [leftS, h0, hb, show (l.length != p.length) = false by simp [hl]]; rfl
    rw [← h, m50c, B39, if_pos ⟨hf, by have := V.len; omega⟩, Option.bind_some, hL]
    have hll : (leftL n p l).length ≤ 27 := by
      have := List.length_filter_le (fun c => decide (shC p c = l)) (cs n)
      unfold leftL; omega
    have main := rangeInv (cs n) [0, 0] (fun m (s : Int × Bool) t => l50ca Beq B39 B49 1001 l n p all (cs n) (leftL n p l, 0) m s.1 t s.2)
      (fun xs s => s.2 = good ∧ (∀ c ∈ xs, c ∈ cs n) ∧ ∃ pre, leftL n p l = pre ++ xs.filter (fun c => decide (shC p c = l)) ∧ (pre.length : Int) = s.1)
      (fun xs s => some (n, p, good, all + (leftL n p l).length, cs n))
      (fun m s t x rest ht hx hI ih => by
        obtain ⟨g, hc, pre, e1, e2⟩ := hI
        have hxm := hc x (List.mem_cons_self ..)
        have hc' : ∀ c ∈ rest, c ∈ cs n := fun c hc' => hc c (List.mem_cons_of_mem _ hc')
        simp only [l50ca, ixA ht, ixB ht, cond_true, chk_true, Int.toNat_natCast, hx, V.seenC hxm, Option.bind_some, Beq, if_pos (show (shC p x).length ≤ 1000 by rw [shC_len]; have := V.len; omega), ixW ht (by omega)]
        have ew : w64 (s.1 + 1) = s.1 + 1 := w64_small (by rw [← e2]; have : pre.length ≤ (leftL n p l).length := by rw [e1]; simp
                                                           omega)
        rw [ew]
        by_cases q : shC p x = l
        · have e3 : (x :: rest).filter (fun c => decide (shC p c = l)) = x :: rest.filter (fun c => decide (shC p c = l)) := by rw [List.filter_cons, if_pos (decide_eq_true q)]
          rw [e3] at e1
          have hk : pre.length < (leftL n p l).length := by rw [e1]; simp
          have hget : (leftL n p l).getD pre.length [0, 0] = x := by rw [e1, List.getD_eq_getElem?_getD, List.getElem?_append_right (Nat.le_refl _)]; simp
          have nxt : ∀ v, v = good → l50ca Beq B39 B49 1001 l n p all (cs n) (leftL n p l, 0) m (s.1 + 1) ((t + 1 : Nat) : Int) v = some (n, p, good, all + (leftL n p l).length, cs n) := fun v hv =>
            ih (s.1 + 1, v) ⟨hv, hc', pre ++ [x], by rw [e1]; simp, by simp; omega⟩
          rw [decide_eq_true q, cond_true, ← e2, ixA hk, ixB hk, Int.toNat_natCast, hget, beq_arr2, e2]
          cases hg : s.2 with
          | true => rw [cond_true, cond_true, chk_true, nxt true (by rw [← g, hg])]
          | false => rw [cond_false, nxt false (by rw [← g, hg])]
        · have e3 : (x :: rest).filter (fun c => decide (shC p c = l)) = rest.filter (fun c => decide (shC p c = l)) := by rw [List.filter_cons, if_neg (by rw [decide_eq_false q]; exact Bool.false_ne_true)]
          rw [e3] at e1
          rw [decide_eq_false q, cond_false]
          exact ih (s.1, s.2) ⟨g, hc', pre, e1, e2⟩)
      (fun m s hI => by
        obtain ⟨g, _, pre, e1, e2⟩ := hI
        simp only [l50ca, ixE, cond_false]
        rw [List.filter_nil, List.append_nil] at e1
        have ew : w64 (all + s.1) = all + (leftL n p l).length := by rw [← e2, ← e1]; exact w64_small (by omega)
        rw [ew, ← g, ← e2, ← e1]
        cases s.2 <;> simp) 1001 (0, good) (by omega) ⟨rfl, fun c hc => hc, [], by simp [leftL], rfl⟩
    exact main
  · cases h⟩

/-- All lists. -/
def ok44 (k : Nat) (n0 : Int) (l : List Int) (n : Int) (p : List Wg) (all : Int) (cases : List (List Int)) : Prop :=
  0 ≤ n0 ∧ n0 < (k : Int) ∧ (l.length : Int) + n0 = (p.length : Int) ∧ l.any badWay = false ∧ planE n p = 0 ∧ cases = cs n ∧ 0 ≤ all ∧ all + (preN n p l : Int) ≤ 10000
instance (k : Nat) (n0 : Int) (l : List Int) (n : Int) (p : List Wg) (all : Int) (cases : List (List Int)) : Decidable (ok44 k n0 l n p all cases) := inferInstanceAs (Decidable (_ ∧ _))
def B44 (k : Nat) (n0 : Int) (l : List Int) (n : Int) (p : List Wg) (good : Bool) (all : Int) (cases : List (List Int)) : Option (Int × List Wg × Bool × Int × List (List Int)) :=
  if ok44 k n0 l n p all cases then some (n, p, good, all + (preN n p l : Int), cs n) else none
theorem any_snoc {l : List Int} {v : Int} (h : l.any badWay = false) (hv : v = 1 ∨ v = 0 ∨ v = -1) : (l ++ [v]).any badWay = false := by
  rw [List.any_append, h]; rcases hv with rfl | rfl | rfl <;> rfl
theorem KB44 : ∀ k, FnOk Try.prog 44 (F44c50 (B44 k))
  | 0 => by
    intro args Of x hx
    simp only [F44c50] at hx
    split at hx
    · simp only [B44] at hx
      rw [if_neg (by intro h; have := h.1; have := h.2.1; omega)] at hx
      cases hx
    · cases hx
  | k + 1 => ok44c50 (B44 k) B50 B51 (KB44 k) KB50 KB51 (B44 (k + 1)) fun n0 l n p good all cases r h => ⟨1001, by
    simp only [B44] at h
    split at h
    · rename_i hk
      obtain ⟨h0, hk1, hl, hb, hp, rfl, ha0, ha1⟩ := hk
      have V := vplan_of hp
      have hpl := V.len
      rw [← h, m44c50]
      by_cases hz : n0 = 0
      · subst hz
        rw [show ((0 : Int) == 0) = true from rfl, cond_true, B50, if_pos ⟨hp, V.fair, fun w hw => valid_iff.2 (V.all w hw), rfl, by omega, hb, ha0, by omega⟩, Option.bind_some, preN_full (by omega)]
      · rw [beq_false_of_ne hz, cond_false]
        show l44c50a (B44 k) B50 B51 1001 n0 l [1, 0, -1] 1001 0 n p good all (cs n) = _
        have hs1 : small (0 + l.length) 8 = true := small_of (by omega) (by omega)
        have hs2 : small (([] ++ l : List Int).length + 1) 8 = true := small_of (by simp; omega) (by omega)
        have hw : w64 (n0 - 1) = n0 - 1 := w64_small (by omega)
        have main := rangeInv [(1 : Int), 0, -1] 0 (fun m (a : Int) t => l44c50a (B44 k) B50 B51 1001 n0 l [1, 0, -1] m t n p good a (cs n))
          (fun xs a => 0 ≤ a ∧ (∀ v ∈ xs, v = 1 ∨ v = 0 ∨ v = -1) ∧ a + ((xs.map fun v => (preN n p (l ++ [v]) : Int)).sum) ≤ 10000) (fun xs a => some (n, p, good, a + (xs.map fun v => (preN n p (l ++ [v]) : Int)).sum, cs n))
          (fun m a t v rest ht hx hI ih => by
            obtain ⟨i1, i2, i3⟩ := hI
            rw [List.map_cons, List.sum_cons] at i3
            have hnn : 0 ≤ ((rest.map fun v => (preN n p (l ++ [v]) : Int)).sum) := by
              generalize rest = zs
              induction zs with
              | nil => simp
              | cons z zs ihz => rw [List.map_cons, List.sum_cons]; omega
            have hcall : B44 k (n0 - 1) ([] ++ l ++ [v]) n p good a (cs n) = some (n, p, good, a + (preN n p (l ++ [v]) : Int), cs n) :=
              if_pos ⟨by omega, by omega, by simp; omega, any_snoc hb (i2 v (List.mem_cons_self ..)), hp, rfl, i1, by simp only [List.nil_append]; omega⟩
            simp only [l44c50a, ixA ht, ixB ht, cond_true, chk_true, Int.toNat_natCast, hx, hs1, hs2, hw, hcall, Option.bind_some, ixW ht (by decide)]
            rw [ih _ ⟨by omega, fun u hu => i2 u (List.mem_cons_of_mem _ hu), by omega⟩, List.map_cons, List.sum_cons, Int.add_assoc])
          (fun m a _ => by simp only [l44c50a, ixE, cond_false, List.map_nil, List.sum_nil, Int.add_zero]) 1001 all (by decide) ⟨ha0, by simp, by
            simp only [List.map_cons, List.map_nil, List.sum_cons, List.sum_nil]
            have := preN_split (l := l) V (by omega)
            omega⟩
        refine Eq.trans main ?_
        simp only [List.map_cons, List.map_nil, List.sum_cons, List.sum_nil]
        have := preN_split (l := l) V (by omega)
        rw [this]
        congr 5
        omega
    · cases h⟩
end Go.Proofs.Ytjcgjbdlgmbepaa
