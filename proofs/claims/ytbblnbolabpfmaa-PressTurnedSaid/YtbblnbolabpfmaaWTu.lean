/-
  The law PressTurned returns true and turns nothing that was there.
-/
import Derived.Test.YtbblnbolabpfmaaO3t
import Derived.Test.YtbblnbolabpfmaaP8o
import Derived.Test.YtbblnbolabpfmaaQM12
import Derived.Test.YtbblnbolabpfmaaRows
import Derived.Test.YtbblnbolabpfmaaEN
import Derived.WalkKit
import Derived.ProofKit
import Derived.OpenShut
import Derived.ChangeOld
import Derived.Below
namespace Go.Proofs.Ytbblnbolabpfmaa.pressTurned
open Go.RowKit Go.ChangeShapes Go.WideShapes Go.ChangeAt
set_option linter.unusedVariables false
theorem b256 {n : Int} (h : (Lit.int .u8 n).wf = true) : 0 ≤ n ∧ n ≤ 255 := by have := bounds_u8 h; omega
theorem wfD {y : List (List Int)} (h : DT.wf (.sl (.arr 2 (.int .u8))) y) : ∀ p ∈ y, u8p p := fun p hp => by
  obtain ⟨_, h2⟩ := (show y.length ≤ maxLen ∧ ∀ i, i < y.length → DT.wf (.arr 2 (.int .u8)) (y.getD i (DT.dflt (.arr 2 (.int .u8)))) from h)
  obtain ⟨i, hi, rfl⟩ := List.getElem_of_mem hp
  have := h2 i hi
  rw [List.getD_eq_getElem?_getD, List.getElem?_eq_getElem hi] at this
  obtain ⟨a, b⟩ := (show (y[i]).length = 2 ∧ ∀ j, j < (y[i]).length → (Lit.int .u8 ((y[i]).getD j 0)).wf = true from this)
  exact ⟨b256 (b 0 (by omega)), b256 (b 1 (by omega))⟩
theorem b256' {n : Int} (h : (Lit.int .u8 n).wf = true) : 0 ≤ n ∧ n ≤ 255 := by have := bounds_u8 h; omega
theorem wfU {y : Int} (h : DT.wf (.int .u8) y) : 0 ≤ y ∧ y ≤ 255 := b256' h
theorem wf6 {y : List Int} (h : DT.wf (.arr 6 (.int .u8)) y) : ∀ x ∈ y, 0 ≤ x ∧ x ≤ 255 := fun x hx => by
  obtain ⟨h1, h2⟩ := (show y.length = 6 ∧ ∀ j, j < y.length → (Lit.int .u8 (y.getD j 0)).wf = true from h)
  obtain ⟨j, hj, rfl⟩ := List.getElem_of_mem hx
  have := b256' (h2 j hj)
  rw [List.getD_eq_getElem?_getD, List.getElem?_eq_getElem hj] at this
  exact this
theorem by6 {y : List Int} (h : ∀ x ∈ y, 0 ≤ x ∧ x ≤ 255) (j : Nat) : 0 ≤ y.getD j 0 ∧ y.getD j 0 ≤ 255 := by
  rw [List.getD_eq_getElem?_getD]
  by_cases q : j < y.length
  · rw [List.getElem?_eq_getElem q]; exact h _ (List.getElem_mem q)
  · rw [List.getElem?_eq_none (by omega)]; exact ⟨by decide, by decide⟩
theorem nd_inj {p : List Int} (h : p.Nodup) {j k : Nat} (hj : j < p.length) (hk : k < p.length) (e : p[j] = p[k]) : j = k := by
  rcases Nat.lt_trichotomy j k with q | q | q
  · exact absurd e (List.pairwise_iff_getElem.1 h j k hj hk q)
  · exact q
  · exact absurd e.symm (List.pairwise_iff_getElem.1 h k j hk hj q)
theorem beq_E {a b : Int} (h : a = b) : (a == b) = true := by simp [h]

/-! ### another order -/
theorem cnt_filter {P : Od → Bool} : ∀ l : List Od, cnt (fun i => P (l.getD i d3)) l.length = (l.filter P).length
  | [] => rfl
  | x :: r => by
    have ih := cnt_filter (P := P) r
    rw [List.length_cons, cnt_shift]
    have e : cnt (fun i => P ((x :: r).getD (i + 1) d3)) r.length = cnt (fun i => P (r.getD i d3)) r.length := rfl
    rw [e, ih, List.filter_cons]
    show (P x).toNat + _ = _
    cases P x <;> simp; omega
theorem ga_perm {l m : List Od} (h : l.Perm m) (c : Int) : ga l c = ga m c := by
  have e1 := cnt_filter (P := fun o => decide (c ≤ o.2.1)) l
  have e2 := cnt_filter (P := fun o => decide (c ≤ o.2.1)) m
  have := (h.filter (fun o => decide (c ≤ o.2.1))).length_eq
  show cnt (fun i => decide (c ≤ (l.getD i d3).2.1)) l.length = cnt (fun i => decide (c ≤ (m.getD i d3).2.1)) m.length
  omega
theorem rch_perm {l m : List Od} (h : l.Perm m) (c : Int) (d : Nat) : rch l c d = rch m c d := by
  have e1 := cnt_filter (P := fun o => decide (c ≤ o.2.1) && !decide (o.1.toNat ≤ d)) l
  have e2 := cnt_filter (P := fun o => decide (c ≤ o.2.1) && !decide (o.1.toNat ≤ d)) m
  have := (h.filter (fun o => decide (c ≤ o.2.1) && !decide (o.1.toNat ≤ d))).length_eq
  show d + cnt (fun i => decide (c ≤ (l.getD i d3).2.1) && !decide ((l.getD i d3).1.toNat ≤ d)) l.length = d + cnt (fun i => decide (c ≤ (m.getD i d3).2.1) && !decide ((m.getD i d3).1.toNat ≤ d)) m.length
  omega
theorem least_perm {l m : List Od} (h : l.Perm m) (hl : Ok6 l) (hm : Ok6 m) {M : Nat} (hM : ∀ o ∈ l, o.2.1 ≤ (M : Int)) : leastO l = leastO m := by
  rw [leastO_lay hl hM, leastO_lay hm fun o ho => hM o (h.mem_iff.2 ho)]
  have : ∀ c : Int, ga l c - gm l c = ga m c - gm m c := fun c => by
    obtain ⟨D, hD⟩ := gm_ex hl c
    obtain ⟨D', hD'⟩ := gm_ex hm c
    have a := gm_le hl c D'
    have b := gm_le hm c D
    rw [rch_perm h] at a hD
    rw [ga_perm h]; omega
  simp only [this]

def rot (l : List Od) (k : Nat) : List Od := (List.range l.length).map fun i => l.getD ((i + k) % l.length) d3
theorem rot_eq {l : List Od} (h : 0 < l.length) (k : Nat) : rot l k = l.drop (k % l.length) ++ l.take (k % l.length) := by
  have hk := Nat.mod_lt k h
  apply List.ext_getElem
  · simp only [rot, List.length_map, List.length_range, List.length_append, List.length_drop, List.length_take]; omega
  · intro i h1 h2
    have hi : i < l.length := by simpa [rot] using h1
    have e0 : (i + k) % l.length = (i + k % l.length) % l.length := by rw [Nat.add_mod_mod]
    simp only [rot, List.getElem_map, List.getElem_range]
    rw [e0]
    by_cases q : i < l.length - k % l.length
    · rw [List.getElem_append_left (by rw [List.length_drop]; exact q), List.getElem_drop, Nat.mod_eq_of_lt (by omega), List.getD_eq_getElem?_getD, List.getElem?_eq_getElem (by omega), Option.getD_some]
      congr 1; omega
    · rw [List.getElem_append_right (by rw [List.length_drop]; omega), List.getElem_take]
      simp only [List.length_drop]
      have e1 : (i + k % l.length) % l.length = i + k % l.length - l.length := by rw [Nat.mod_eq_sub_mod (by omega), Nat.mod_eq_of_lt (by omega)]
      rw [e1, List.getD_eq_getElem?_getD, List.getElem?_eq_getElem (by omega), Option.getD_some]
      congr 1; omega
theorem rot_perm {l : List Od} (h : 0 < l.length) (k : Nat) : (rot l k).Perm l := by
  rw [rot_eq h]
  exact List.perm_append_comm.trans (by rw [List.take_append_drop])

/-! ### multiplied fines -/
def mul (l : List Od) (K : Int) : List Od := l.map fun o => (o.1, (K * o.2.1, ()))
theorem mul_len (l : List Od) (K : Int) : (mul l K).length = l.length := by simp [mul]
theorem mul_get {l : List Od} (K : Int) {i : Nat} (hi : i < l.length) : (mul l K).getD i d3 = ((l.getD i d3).1, (K * (l.getD i d3).2.1, ())) := by
  simp [mul, List.getD, List.getElem?_eq_getElem hi]
theorem dyl_mul {l : List Od} (K : Int) {i : Nat} (hi : i < l.length) : dyl (mul l K) i = dyl l i := by rw [dyl, mul_get K hi, dyl]
theorem fnl_mul {l : List Od} (K : Int) {i : Nat} (hi : i < l.length) : fnl (mul l K) i = K * fnl l i := by rw [fnl, mul_get K hi, fnl]
theorem ws_mul (f : Nat → Int) (T : Nat → Bool) (K : Int) : ∀ n, ws (fun i => K * f i) T n = K * ws f T n
  | 0 => by simp [ws]
  | n + 1 => by
    simp only [ws, ws_mul f T K n]
    rw [Int.mul_add]
    cases T n <;> simp
theorem ws_mul_l {l : List Od} (K : Int) (T : Nat → Bool) : ws (fnl (mul l K)) T (mul l K).length = K * ws (fnl l) T l.length := by
  rw [mul_len, ← ws_mul]
  exact ws_congr (fun _ _ => rfl) fun i hi _ => fnl_mul K hi
theorem pos_mul {l : List Od} (K : Int) (T : Nat → Bool) : Pos (dyl (mul l K)) (mul l K).length T ↔ Pos (dyl l) l.length T := by
  have e : ∀ d, by_ (dyl (mul l K)) (mul l K).length T d = by_ (dyl l) l.length T d := fun d => by
    unfold by_
    rw [mul_len]
    exact cnt_congr fun i hi => by rw [dyl_mul K hi]
  exact ⟨fun h d => by rw [← e]; exact h d, fun h d => by rw [e]; exact h d⟩
theorem least_mul {l : List Od} (h : Ok6 l) {K : Int} (hK : 0 ≤ K) (h2 : Ok6 (mul l K)) : leastO (mul l K) = K * leastO l := by
  obtain ⟨a1, T, a2, a3⟩ := leastO_ok h
  obtain ⟨b1, T', b2, b3⟩ := leastO_ok h2
  have ht : tot (mul l K) = K * tot l := ws_mul_l K fun _ => true
  have c1 := b1 T ((pos_mul K T).2 a2)
  have c2 := a1 T' ((pos_mul K T').1 b2)
  rw [ht, ws_mul_l, ← Int.mul_sub, ← a3] at c1
  rw [ht, ws_mul_l, ← Int.mul_sub] at b3
  have c3 := Int.mul_le_mul_of_nonneg_left c2 hK
  rw [← b3] at c3
  omega

/-! ### plans with equal days -/
theorem fnR_dup {l : List Od} : ∀ (xs pre : List Int) (n : Int), pre.Nodup → (∀ x ∈ xs, 1 ≤ x ∧ x ≤ 42) → ¬ (pre ++ xs).Nodup → fnR l pre xs n = (0, 6)
  | [], pre, n, h1, _, h3 => by rw [List.append_nil] at h3; exact absurd h1 h3
  | x :: r, pre, n, h1, h2, h3 => by
    have hx := h2 x (by simp)
    rw [fnR, decide_eq_true hx, Bool.not_true, cond_false]
    cases hc : pre.contains x with
    | true => rfl
    | false =>
      rw [cond_false]
      refine fnR_dup r (pre ++ [x]) _ ?_ (fun y hy => h2 y (List.mem_cons_of_mem _ hy)) (by simpa using h3)
      rw [List.nodup_append]
      refine ⟨h1, by simp, fun a ha b hb => ?_⟩
      rcases List.mem_singleton.1 hb with rfl
      intro e; subst e
      rw [List.contains_iff_mem.2 ha] at hc; cases hc

theorem late_ge {l : List Od} (h : Dk l) {p : List Int} (hp : p.length = l.length) (hn : p.Nodup) (h1 : ∀ x ∈ p, 1 ≤ x) : leastO l ≤ ws (fnl l) (fun i => decide (p.getD i 0 > (l.getD i d3).1)) l.length := by
  have h6 := h.six
  have hget : ∀ i, i < l.length → p.getD i 0 ∈ p := fun i hi => by
    rw [List.getD_eq_getElem?_getD, List.getElem?_eq_getElem (by omega)]
    exact List.getElem_mem _
  have hpos : Pos (dyl l) l.length (fun i => !decide (p.getD i 0 > (l.getD i d3).1)) := by
    refine asg_pos (g := fun i => (p.getD i 0).toNat) (fun j hj hS => ?_) fun j k hj hk hS hS2 e => ?_
    · have hj1 := h1 _ (hget j hj)
      simp only [Bool.not_eq_true', decide_eq_false_iff_not] at hS
      have : dyl l j = (l.getD j d3).1.toNat := rfl
      rw [this]; omega
    · have hj1 := h1 _ (hget j hj)
      have hk1 := h1 _ (hget k hk)
      have e2 : (p.getD j 0).toNat = (p.getD k 0).toNat := e
      have e : p.getD j 0 = p.getD k 0 := by omega
      rw [List.getD_eq_getElem?_getD, List.getD_eq_getElem?_getD, List.getElem?_eq_getElem (by omega), List.getElem?_eq_getElem (by omega), Option.getD_some, Option.getD_some] at e
      exact nd_inj hn _ _ e
  have h2 := (leastO_ok h6).1 _ hpos
  have h3 := ws_split (fnl l) (fun _ => true) (fun i => decide (p.getD i 0 > (l.getD i d3).1)) l.length
  simp only [Bool.true_and] at h3
  unfold tot at h2
  omega

/-- The day of a number. -/
def dv (by3 : List Int) (i : Nat) : Int := 1 + by3.getD i 0 % 9

theorem nd_app {p : List Int} {x : Int} : (!decide (p ++ [x]).Nodup) = (!decide p.Nodup || p.contains x) := by
  rw [Bool.eq_iff_iff]
  simp only [Bool.not_eq_true', decide_eq_false_iff_not, Bool.or_eq_true, List.contains_iff_mem, List.nodup_append]
  constructor
  · intro h
    refine Classical.byContradiction fun hn => h ⟨Classical.byContradiction fun q => hn (.inl q), by simp, fun a ha b hb => ?_⟩
    rcases List.mem_singleton.1 hb with rfl
    intro e; subst e; exact hn (.inr ha)
  · rintro (h | h) hn
    · exact h hn.1
    · exact hn.2.2 x h x (by simp) rfl

theorem plan_loop {l : List Od} (hk : Dk l) {by3 : List Int} (hby : ∀ x ∈ by3, 0 ≤ x ∧ x ≤ 255) : l12b (some true) B18 B26 B28 B40 B41 100 by3 l (leastO l, (bests l).map Int.ofNat) 100 0 false 0 [] = some true := by
  have h6 := hk.six
  have hc := hk.ck
  have hlen := hk.len
  have main := rangeIx l d3 (fun n (s : Int × Bool × List Int) t => l12b (some true) B18 B26 B28 B40 B41 100 by3 l (leastO l, (bests l).map Int.ofNat) n s.1 s.2.1 t s.2.2) (fun t xs s => s.2.2.length = t ∧ t ≤ l.length ∧ s.2.1 = !decide s.2.2.Nodup ∧ (∀ x ∈ s.2.2, 1 ≤ x ∧ x ≤ 42) ∧ s.1 = ws (fnl l) (fun i => decide (s.2.2.getD i 0 > (l.getD i d3).1)) t) (fun t xs s => some true)
    (fun n s t x rest ht hx hI ih => by
      obtain ⟨late, again, plan⟩ := s
      obtain ⟨h1, h2, h3, h4, h5⟩ := hI
      simp only at h1 h2 h3 h4 h5
      have hb := by6 hby t
      have hday : w64 ((1 : Int) + (Int.tmod (w64 (by3.getD t 0)) 9)) = dv by3 t := by
        rw [w64_small (x := by3.getD t 0) (by omega), Int.tmod_eq_emod_of_nonneg hb.1, w64_small (by omega)]; rfl
      have hdv : 1 ≤ dv by3 t ∧ dv by3 t ≤ 42 := by unfold dv; omega
      have hsm := small_of (n := plan.length + 1) (eb := 8) (by omega) (by decide)
      have hf : (l.getD t ((0 : Int), ((0 : Int), ()))).2.1 = fnl l t := rfl
      have hft := h6.fn ht
      obtain ⟨w1, w2⟩ := ws_rng (f := fnl l) (p := fun i => decide (plan.getD i 0 > (l.getD i d3).1)) (n := t) fun i hi => h6.fn (show i < l.length by omega)
      have hgo : ∀ ag late', ag = (again || plan.contains (dv by3 t)) → late' = (if dv by3 t > (l.getD t d3).1 then late + fnl l t else late) → l12b (some true) B18 B26 B28 B40 B41 100 by3 l (leastO l, (bests l).map Int.ofNat) n late' ag ((t + 1 : Nat) : Int) (plan ++ [dv by3 t]) = some true := fun ag late' e1 e2 => by
        refine ih (late', ag, plan ++ [dv by3 t]) ⟨by simp [h1], by omega, by rw [nd_app, ← h3]; exact e1, fun y hy => ?_, ?_⟩
        · rcases List.mem_append.1 hy with hy | hy
          · exact h4 y hy
          · rcases List.mem_singleton.1 hy with rfl; exact hdv
        · have hg : (plan ++ [dv by3 t]).getD t 0 = dv by3 t := by
            rw [List.getD_eq_getElem?_getD, List.getElem?_append_right (by omega), h1, Nat.sub_self]; rfl
          have hw : ws (fnl l) (fun i => decide ((plan ++ [dv by3 t]).getD i 0 > (l.getD i d3).1)) t = late := by
            rw [h5]
            exact ws_congr (fun i hi => by rw [List.getD_eq_getElem?_getD, List.getElem?_append_left (by omega), ← List.getD_eq_getElem?_getD]) fun _ _ _ => rfl
          show late' = _
          rw [ws, hw, hg, e2]
          by_cases q : dv by3 t > (l.getD t d3).1
          · rw [if_pos q, decide_eq_true q]; rfl
          · rw [if_neg q, decide_eq_false q, cond_false, Int.add_zero]
      have inner : l12c (some true) B18 B26 B28 B40 B41 100 by3 l (leastO l, (bests l).map Int.ofNat) late (t : Int) plan (fun y0 y1 y2 y3 => l12b (some true) B18 B26 B28 B40 B41 100 by3 l (leastO l, (bests l).map Int.ofNat) n y0 y1 y2 y3) 100 again 0 = some true := by
        refine rangeInv plan 0 (fun p (ag : Bool) k => l12c (some true) B18 B26 B28 B40 B41 100 by3 l (leastO l, (bests l).map Int.ofNat) late (t : Int) plan (fun y0 y1 y2 y3 => l12b (some true) B18 B26 B28 B40 B41 100 by3 l (leastO l, (bests l).map Int.ofNat) n y0 y1 y2 y3) p ag k) (fun xs ag => (ag || xs.contains (dv by3 t)) = (again || plan.contains (dv by3 t))) (fun xs ag => some true)
          (fun p ag k y rest2 hk2 hy hI2 ih2 => ?_) (fun p ag hI2 => ?_) 100 again (by omega) rfl
        · simp only [l12c, ixA hk2, ixB hk2, cond_true, chk_true, Int.toNat_natCast, ixW hk2 (by omega), hy, hday]
          cases ag with
          | true => rw [cond_true]; exact ih2 true (by rw [← hI2]; simp)
          | false =>
            rw [cond_false]
            refine ih2 _ ?_
            rw [← hI2, List.contains_cons, Bool.false_or]
            have : (y == dv by3 t) = (dv by3 t == y) := by rw [Bool.eq_iff_iff, beq_iff_eq, beq_iff_eq]; exact ⟨Eq.symm, Eq.symm⟩
            rw [this]
        · rw [List.contains_nil, Bool.or_false] at hI2
          simp only [l12c, ixE, cond_false, hsm, chk_true, Int.toNat_natCast, hday, ixW ht (by omega), hf]
          by_cases q : dv by3 t > (l.getD t d3).1
          · rw [decide_eq_true q, cond_true, w64_small (by omega)]
            exact hgo _ _ hI2 (by rw [if_pos q])
          · rw [decide_eq_false q, cond_false]
            exact hgo _ _ hI2 (by rw [if_neg q])
      simp only [l12b, ixA ht, ixB ht, cond_true, chk_true, decide_eq_true (show (0 : Int) ≤ (t : Int) ∧ (t : Int) < 6 by omega)]
      exact inner)
    (fun n s hI => by
      obtain ⟨late, again, plan⟩ := s
      obtain ⟨h1, h2, h3, h4, h5⟩ := hI
      simp only at h1 h2 h3 h4 h5
      have b26 : B26 l plan = some (finP l plan) := if_pos (by omega)
      have b28 : B28 l plan = some (verP l plan) := if_pos (by omega)
      have hfin : finP l plan = fnR l [] plan 0 := by rw [finP, if_pos hc, if_pos h1]
      simp only [l12b, ixE, cond_false, b26, b28, Option.bind_some]
      by_cases hn : plan.Nodup
      · have hok := fnR_ok (l := l) plan [] 0 (by simpa using hn) h4 rfl
        simp only [List.nil_append] at hok
        rw [h1, ← h5] at hok
        rw [hok] at hfin
        have hge := late_ge hk h1 hn fun x hx => (h4 x hx).1
        rw [← h5] at hge
        have e1 : again = false := by rw [h3, decide_eq_true hn]; rfl
        subst e1
        rw [cond_false]
        have hv : verP l plan = if late = leastO l then 0 else 14 := by
          rw [verP, hfin]
          by_cases q : late = leastO l
          · rw [if_pos q, decide_eq_false (show ¬ late > leastO l by omega)]; rfl
          · rw [if_neg q, decide_eq_true (show late > leastO l by omega)]; rfl
        rw [hfin, hv]
        simp only [beq_self_eq_true, cond_true]
        by_cases q : late = leastO l
        · rw [if_pos q, beq_E q]; rfl
        · have : (late == leastO l) = false := by simp [q]
          rw [if_neg q, this]; rfl
      · have hdup := fnR_dup (l := l) plan [] 0 List.nodup_nil h4 (by simpa using hn)
        rw [hdup] at hfin
        have e1 : again = true := by rw [h3, decide_eq_false hn]; rfl
        subst e1
        have hv : verP l plan = 6 := by rw [verP, hfin]; rfl
        rw [cond_true, hfin, hv]
        rfl) 100 (0, false, []) (by omega) ⟨rfl, Nat.zero_le _, by simp, (fun _ h => by cases h), rfl⟩
  exact main

theorem KB12 : FnOk Try.prog 12 (F12 fun d turn times by3 => if (∀ p ∈ d, u8p p) ∧ (0 ≤ turn ∧ turn ≤ 255) ∧ (0 ≤ times ∧ times ≤ 255) ∧ ∀ x ∈ by3, 0 ≤ x ∧ x ≤ 255 then some true else none) := ok12 (some true) B18 B26 B28 B40 B41 K14t KB18 KB26 KB28 KB40 KB41 _ fun d turn times by3 r h => ⟨100, by
  split at h
  · rename_i hh
    obtain ⟨hd, hturn, htimes, hby⟩ := hh
    have hk := mkD_ok d
    rw [← h, m12, B40, if_pos hd, Option.bind_some]
    generalize mkD d = l at hk ⊢
    have h6 := hk.six
    have hc := hk.ck
    have hlen := hk.len
    have hpos := hk.pos
    obtain ⟨k, rfl⟩ : ∃ k : Nat, turn = k := ⟨turn.toNat, by omega⟩
    have hK : w64 ((1 : Int) + (Int.tmod (w64 times) 100)) = 1 + times % 100 := by
      rw [w64_small (x := times) (by omega), Int.tmod_eq_emod_of_nonneg htimes.1, w64_small (by omega)]
    have hKr : 1 ≤ 1 + times % 100 ∧ 1 + times % 100 ≤ 100 := by omega
    generalize 1 + times % 100 = K at hK hKr
    have hmulb : ∀ x : Int, 0 ≤ x → x ≤ 9 → 0 ≤ K * x ∧ K * x ≤ 900 := fun x a b => by
      have c1 := Int.mul_le_mul_of_nonneg_left b (show 0 ≤ K by omega)
      have c2 := Int.mul_nonneg (show 0 ≤ K by omega) a
      omega
    have hmo : ∀ o ∈ rot l k, (1 ≤ o.1 ∧ o.1 ≤ 30) ∧ 0 ≤ o.2.1 ∧ o.2.1 ≤ 10000 := fun o ho => by
      have := hk.all o ((rot_perm hpos k).mem_iff.1 ho); omega
    have hmu : ∀ o ∈ mul l K, (1 ≤ o.1 ∧ o.1 ≤ 30) ∧ 0 ≤ o.2.1 ∧ o.2.1 ≤ 10000 := fun o ho => by
      obtain ⟨x, hx, rfl⟩ := List.mem_map.1 ho
      have h1 := hk.all x hx
      have h2 := hmulb x.2.1 h1.2.1 h1.2.2
      show (1 ≤ x.1 ∧ x.1 ≤ 30) ∧ 0 ≤ K * x.2.1 ∧ K * x.2.1 ≤ 10000
      omega
    have hrl : (rot l k).length = l.length := (rot_perm hpos k).length_eq
    have c1 : ckO (rot l k) = 0 := ck_of (by omega) (by omega) hmo
    have c2 : ckO (mul l K) = 0 := ck_of (by rw [mul_len]; omega) (by rw [mul_len]; omega) hmu
    have l1 : leastO (rot l k) = leastO l := least_perm (rot_perm hpos k) (okO_of c1) h6 (M := 9) fun o ho => by have := hk.all o ((rot_perm hpos k).mem_iff.1 ho); omega
    have l2 : leastO (mul l K) = K * leastO l := least_mul h6 (by omega) (okO_of c2)
    have b1 : B18 (rot l k) = some (leastO l, 0) := by rw [B18, if_pos (by omega), lea, if_pos c1, l1]
    have b2 : B18 (mul l K) = some (K * leastO l, 0) := by rw [B18, if_pos (by rw [mul_len]; omega), lea, if_pos c2, l2]
    have b41 : B41 l = some (leastO l, (bests l).map Int.ofNat) := if_pos h6
    have hlr : 0 ≤ K * leastO l ∧ K * leastO l ≤ 12000000 := by
      have r := leastO_rng h6
      have c1 := Int.mul_le_mul_of_nonneg_left r.2 (show 0 ≤ K by omega)
      have c2 := Int.mul_nonneg (show 0 ≤ K by omega) r.1
      omega
    have main := rangeIx l d3 (fun n (s : List Od × List Od) t => l12a (some true) B18 B26 B28 B40 B41 100 (k : Int) times by3 l n t s.1 s.2) (fun t xs s => s.1.length = t ∧ s.2.length = t ∧ s.1 ++ ((List.range l.length).drop t).map (fun i => l.getD ((i + k) % l.length) d3) = rot l k ∧ s.2 ++ mul xs K = mul l K ∧ ∀ x ∈ xs, 0 ≤ x.2.1 ∧ x.2.1 ≤ 9) (fun t xs s => some true)
      (fun n s t x rest ht hx hI ih => by
        obtain ⟨s1, s2⟩ := s
        obtain ⟨h1, h2, h3, h4, h5⟩ := hI
        simp only at h1 h2 h3 h4
        have hx9 := h5 x (by simp)
        have hm := hmulb x.2.1 hx9.1 hx9.2
        have hsm1 := small_of (n := s1.length + 1) (eb := 16) (by omega) (by decide)
        have hsm2 := small_of (n := s2.length + 1) (eb := 16) (by omega) (by decide)
        have hmod : Int.tmod (w64 ((t : Int) + w64 (k : Int))) (l.length : Int) = (((t + k) % l.length : Nat) : Int) := by
          rw [w64_small (x := (k : Int)) (by omega), w64_small (by omega), Int.tmod_eq_emod_of_nonneg (by omega), Int.natCast_emod, Int.natCast_add]
        have hlt := Nat.mod_lt (t + k) hpos
        simp only [l12a, ixA ht, ixB ht, cond_true, chk_true, Int.toNat_natCast, ixW ht (by omega), hx, hmod, hsm1, hsm2, hK, decide_eq_true (show (l.length : Int) ≠ 0 by omega), ixB hlt]
        rw [w64_small (by omega)]
        have hdrop : (List.range l.length).drop t = t :: (List.range l.length).drop (t + 1) := by
          rw [List.drop_eq_getElem_cons (by simpa using ht)]; simp
        refine ih (_, _) ⟨by simp [h1], by simp [h2], ?_, ?_, fun y hy => h5 y (List.mem_cons_of_mem _ hy)⟩
        · rw [← h3, hdrop]; simp
        · rw [← h4]; simp [mul])
      (fun n s hI => by
        obtain ⟨s1, s2⟩ := s
        obtain ⟨h1, h2, h3, h4, h5⟩ := hI
        simp only at h1 h2 h3 h4
        have e1 : s1 = rot l k := by rw [← h3, List.drop_eq_nil_of_le (by simp)]; simp
        have e2 : s2 = mul l K := by rw [← h4]; simp [mul]
        subst e1; subst e2
        have z0 : ((0 : Int) != 0) = false := rfl
        simp only [l12a, ixE, cond_false, b41, b1, b2, Option.bind_some, z0, bne_self_eq_false, hK]
        rw [w64_small (by omega), bne_self_eq_false, cond_false]
        exact plan_loop hk hby) 100 ([], []) (by omega) ⟨rfl, rfl, by simp [rot], by simp, fun x hx => (hk.all x hx).2⟩
    exact main
  · cases h⟩
theorem K (y0 : List (List Int)) (y1 : Int) (y2 : Int) (y3 : List Int) (_ : DT.wf (.sl (.arr 2 (.int .u8))) y0) (_ : DT.wf (.int .u8) y1) (_ : DT.wf (.int .u8) y2) (_ : DT.wf (.arr 6 (.int .u8)) y3) : FnOk Try.prog 12 (F12 (fun d turn times by3 => if (∀ p ∈ d, u8p p) ∧ (0 ≤ turn ∧ turn ≤ 255) ∧ (0 ≤ times ∧ times ≤ 255) ∧ ∀ x ∈ by3, 0 ≤ x ∧ x ≤ 255 then some true else none)) := KB12

set_option maxRecDepth 100000 in
theorem walk (w : World) (vs : List Value) (h : ArgsOk w [.sl (.arr 2 (.int .u8)), .int .u8, .int .u8, .arr 6 (.int .u8)] vs) : Calls Try.prog 12 vs.toArray w fun e w' => e = .returned (.bool true) ∧ Below w.heap.size w w' := by
  obtain ⟨v0, vs0, y0, rfl, w0, h0, k0⟩ := ArgsOk.cons h
  obtain ⟨v1, vs1, y1, rfl, w1, h1, k1⟩ := ArgsOk.cons k0
  obtain ⟨v2, vs2, y2, rfl, w2, h2, k2⟩ := ArgsOk.cons k1
  obtain ⟨v3, vs3, y3, rfl, w3, h3, k3⟩ := ArgsOk.cons k2
  obtain rfl := ArgsOk.nil k3
  exact walkAll (K y0 y1 y2 y3 w0 w1 w2 w3) (xs := [.dv (.sl (.arr 2 (.int .u8))) y0, .dv (.int .u8) y1, .dv (.int .u8) y2, .dv (.arr 6 (.int .u8)) y3]) (r := true) (if_pos ⟨wfD w0, wfU w1, wfU w2, wf6 w3⟩) rfl (HoldsAll.cons h0 (HoldsAll.cons h1 (HoldsAll.cons h2 (HoldsAll.cons h3 HoldsAll.nil))))

set_option maxRecDepth 100000 in
theorem lifted (os : Os) (started : os.Started) (H : Type) (enc : TypeId × Value → H) :
    ReturnsInHanded {} Try.checked os 12 .any (Rows.pressTurnedSpec.pre6 enc Try.prog Try.f12 Rows.pressTurnedRow.domain false) (Rows.pressTurnedSpec.post enc Try.prog Try.f12 false true false false) :=
  lawShell (fn := Try.f12) (s := Rows.pressTurnedSpec) (tb := 4) [.sl (.arr 2 (.int .u8)), .int .u8, .int .u8, .arr 6 (.int .u8)] Try.func12 (by kernel_rfl) (by kernel_rfl) (by kernel_rfl) Try.underlying4 (by kernel_rfl) os started H enc Rows.pressTurnedRow.domain
    (fun ds hl => by
      match ds, hl with
      | [d0, d1, d2, d3], _ => rfl)
    (ChangeSpec.witness6 (enc := enc) (C := Try.checked) false ⟨#[], #[.slice none 0 0, .int .u8 0, .int .u8 0, .agg #[.int .u8 0, .int .u8 0, .int .u8 0, .int .u8 0, .int .u8 0, .int .u8 0]], []⟩ 8 (by kernel_rfl) (by kernel_rfl) (by kernel_rfl) (by kernel_rfl)) walk

theorem over : Rows.pressTurnedRow.holds Try.pinned (OpenSpec.ofChange Rows.pressTurnedSpec) :=
  OpenClaim.holds_of_wide 12 Try.f12 rfl rfl rfl rfl rfl rfl rfl ⟨rfl, rfl, rfl, rfl, rfl⟩ rfl rfl rfl rfl rfl (by kernel_rfl) Try.func12 (by kernel_rfl)
    (of_decide_eq_true (by kernel_rfl)) (by unfold Func.isWrapper; first | (rw [if_pos (by decide +kernel)]; kernel_rfl) | (rw [if_neg (by decide +kernel)]; exact ⟨rfl, rfl⟩))
    (fun os started H enc _ => lifted os started H enc)

/-- THE STATEMENT. -/
theorem proved : Rows.PressTurnedSaid := over

end Go.Proofs.Ytbblnbolabpfmaa.pressTurned
