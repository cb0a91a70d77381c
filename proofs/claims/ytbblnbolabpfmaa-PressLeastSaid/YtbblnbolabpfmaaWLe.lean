/-
  The law PressLeast returns true and turns nothing that was there.
-/
import Derived.Test.YtbblnbolabpfmaaO3l
import Derived.Test.YtbblnbolabpfmaaP8l
import Derived.Test.YtbblnbolabpfmaaQM44c
import Derived.Test.YtbblnbolabpfmaaQM7
import Derived.Test.YtbblnbolabpfmaaRows
import Derived.Test.YtbblnbolabpfmaaEN
import Derived.WalkKit
import Derived.ProofKit
import Derived.OpenShut
import Derived.ChangeOld
import Derived.Below
namespace Go.Proofs.Ytbblnbolabpfmaa.pressLeast
open Go.RowKit Go.ChangeShapes Go.WideShapes Go.ChangeAt
set_option linter.unusedVariables false
theorem b256 {n : Int} (h : (Lit.int .u8 n).wf = true) : 0 ≤ n ∧ n ≤ 255 := by have := bounds_u8 h; omega
theorem wfD {y : List (List Int)} (h : DT.wf (.sl (.arr 2 (.int .u8))) y) : ∀ p ∈ y, u8p p := fun p hp => by
  obtain ⟨_, h2⟩ := (show y.length ≤ maxLen ∧ ∀ i, i < y.length → DT.wf (.arr 2 (.int .u8)) (y.getD i (DT.dflt (.arr 2 (.int .u8)))) from h)
  obtain ⟨i, hi, rfl⟩ := List.getElem_of_mem hp
  have := h2 i hi
  rw [List.getD_eq_getElem?_getD, List.getElem?_eq_getElem hi] at this
  obtain ⟨a, b⟩ := (show (y[i]).length = 2 ∧ ∀ j, j < (y[i]).length → (Lit.int .u8 ((y[i]).getD j 0)).wf = true from this)
  exact ⟨b256 (b 0 (by omega)), b256 (b 1 (by omega))⟩
/-! ### reach -/
def B44 (x : Int) (l : List Od) (c : Int) : Option Int := if ckO l = 0 ∧ 0 ≤ x ∧ x ≤ 1000 then some (rch l c x.toNat : Nat) else none
theorem KB44 : FnOk Try.prog 44 (F44c B44) := ok44c B44 fun x l c r h => ⟨100, by
  simp only [B44] at h
  split at h
  · rename_i hh
    obtain ⟨hck, h0, h1⟩ := hh
    have hok := ckO_ok hck
    obtain ⟨d, rfl⟩ : ∃ d : Nat, x = d := ⟨x.toNat, by omega⟩
    have hlen := hok.len
    rw [← h, m44c, Int.toNat_natCast]
    exact rangeIx l d3 (fun n (r : Int) t => l44ca 100 (d : Int) l c n r t) (fun t xs r => r = (d : Int) + (cnt (fun i => ge l c i && !decide (dyl l i ≤ d)) t : Nat)) (fun t xs r => some ((rch l c d : Nat) : Int))
      (fun n r t y rest ht hy hI ih => by
        subst hI
        have hfn : (l.getD t ((0 : Int), ((0 : Int), ()))).2.1 = fnl l t := rfl
        have hday := hok.all _ (List.getElem_mem ht)
        have hge : l.getD t d3 = l[t] := by simp [List.getD, List.getElem?_eq_getElem ht]
        have hdy : (l.getD t ((0 : Int), ((0 : Int), ()))).1 = ((dyl l t : Nat) : Int) := by
          show (l.getD t d3).1 = _
          rw [dyl, hge]; omega
        have hct := cnt_le_n (fun i => ge l c i && !decide (dyl l i ≤ d)) t
        have hgo : ∀ r', r' = (d : Int) + (cnt (fun i => ge l c i && !decide (dyl l i ≤ d)) (t + 1) : Nat) → _ := fun r' hr' => ih r' hr'
        simp only [cnt] at hgo
        simp only [l44ca, ixA ht, ixB ht, cond_true, chk_true, Int.toNat_natCast, ixW ht (by omega), hfn, hdy]
        cases hg : ge l c t with
        | false =>
          have hg' : decide (fnl l t ≥ c) = false := hg
          rw [hg', cond_false]
          exact hgo _ (by simp [hg])
        | true =>
          have hg' : decide (fnl l t ≥ c) = true := hg
          rw [hg', cond_true]
          by_cases q : dyl l t ≤ d
          · rw [decide_eq_false (show ¬ ((dyl l t : Nat) : Int) > (d : Int) by omega), cond_false]
            exact hgo _ (by simp [q])
          · rw [decide_eq_true (show ((dyl l t : Nat) : Int) > (d : Int) by omega), cond_true, w64_small (by omega)]
            exact hgo _ (by simp [hg, q]; omega))
      (fun n r hI => by
        subst hI
        have hr : (d : Int) + (cnt (fun i => ge l c i && !decide (dyl l i ≤ d)) l.length : Nat) = ((rch l c d : Nat) : Int) := by unfold rch aft; omega
        simp only [l44ca, ixE, cond_false, hr]) 100 (d : Int) (by omega) (by simp [cnt])
  · cases h⟩

/-! ### the first least -/
theorem mnF_spec (r : Nat → Nat) : ∀ (m d : Nat) (s : Int × Int), (mnF r m d s = s ∧ ∀ x, d ≤ x → x < d + m → s.1 ≤ (r x : Int)) ∨ ∃ x, d ≤ x ∧ x < d + m ∧ mnF r m d s = ((r x : Int), (x : Int)) ∧ (r x : Int) < s.1 ∧ (∀ y, d ≤ y → y < d + m → r x ≤ r y) ∧ ∀ y, d ≤ y → y < x → r x < r y
  | 0, d, s => .inl ⟨rfl, fun x h1 h2 => by omega⟩
  | m + 1, d, s => by
    rw [mnF]
    by_cases q : (r d : Int) < s.1
    · rw [if_pos q]
      rcases mnF_spec r m (d + 1) ((r d : Int), (d : Int)) with ⟨a, b⟩ | ⟨x, x1, x2, x3, x4, x5, x6⟩
      · refine .inr ⟨d, Nat.le_refl _, by omega, a, q, fun y h1 h2 => ?_, fun y h1 h2 => by omega⟩
        by_cases e : y = d
        · subst e; exact Nat.le_refl _
        · have := b y (by omega) (by omega); simp only at this; omega
      · simp only at x4
        refine .inr ⟨x, by omega, by omega, x3, by omega, fun y h1 h2 => ?_, fun y h1 h2 => ?_⟩
        · by_cases e : y = d
          · subst e; omega
          · exact x5 y (by omega) (by omega)
        · by_cases e : y = d
          · subst e; omega
          · exact x6 y (by omega) (by omega)
    · rw [if_neg q]
      rcases mnF_spec r m (d + 1) s with ⟨a, b⟩ | ⟨x, x1, x2, x3, x4, x5, x6⟩
      · refine .inl ⟨a, fun x h1 h2 => ?_⟩
        by_cases e : x = d
        · subst e; omega
        · exact b x (by omega) (by omega)
      · refine .inr ⟨x, by omega, by omega, x3, x4, fun y h1 h2 => ?_, fun y h1 h2 => ?_⟩
        · by_cases e : y = d
          · subst e; omega
          · exact x5 y (by omega) (by omega)
        · by_cases e : y = d
          · subst e; omega
          · exact x6 y (by omega) (by omega)

theorem cnt_val {l : List Od} (hk : Dk l) (c : Int) : ∃ x : Nat, x ≤ 30 ∧ cntV l c = ((gm l c : Int), (x : Int)) ∧ rch l c x = gm l c ∧ ∀ y, y < x → gm l c < rch l c y := by
  have h6 := hk.six
  have hlen := hk.len
  obtain ⟨D, hD⟩ := gm_ex h6 c
  have h1 := gm_ga l c
  have h2 := ga_n l c
  have hD6 : D ≤ 6 := by
    have : D ≤ rch l c D := by unfold rch; omega
    omega
  rcases mnF_spec (rch l c) 31 0 ((l.length : Int) + 1, 0) with ⟨a, b⟩ | ⟨x, x1, x2, x3, x4, x5, x6⟩
  · have := b 0 (by omega) (by omega)
    have h0 := rch_le (l := l) c 0
    simp only at this; omega
  · have e : rch l c x = gm l c := by
      have a := x5 D (by omega) (by omega)
      have b := gm_le h6 c x
      omega
    refine ⟨x, by omega, by rw [cntV, x3, e], e, fun y hy => ?_⟩
    have := x6 y (by omega) hy
    omega

/-! ### maps -/
theorem get_map (x : Int) : ∀ pre : List Int, (mget (kt := .int .i64) (vt := .bool) (pre.map fun y => (y, true)) x).getD false = pre.contains x
  | [] => rfl
  | y :: r => by
    show (cond (decide (x = y)) (some true) (mget (kt := .int .i64) (vt := .bool) (r.map fun y => (y, true)) x)).getD false = _
    rw [List.contains_cons]
    by_cases q : x = y
    · rw [decide_eq_true q]; simp [q]
    · have : (x == y) = false := by simp [q]
      rw [decide_eq_false q, cond_false, get_map x r, this, Bool.false_or]
theorem put_map {x : Int} : ∀ {pre : List Int}, x ∉ pre → mput (kt := .int .i64) (vt := .bool) (pre.map fun y => (y, true)) x true = (pre ++ [x]).map fun y => (y, true)
  | [], _ => rfl
  | y :: r, h => by
    have ih := put_map (x := x) (pre := r) fun q => h (List.mem_cons_of_mem _ q)
    show cond (decide (x = y)) ((x, true) :: r.map fun y => (y, true)) ((y, true) :: mput (kt := .int .i64) (vt := .bool) (r.map fun y => (y, true)) x true) = _
    rw [decide_eq_false fun q => h (by simp [q]), cond_false, ih]; rfl

abbrev LB (l : List Od) := (leastO l, (bests l).map Int.ofNat)

section
variable {l : List Od}

/-- From 1 to c - 1. -/
def part (l : List Od) (c : Nat) : Nat := lay (fun c => ga l c - gm l c) (c - 1)
theorem part_succ (l : List Od) {c : Nat} (h : 0 < c) : part l (c + 1) = part l c + (ga l c - gm l c) := by
  obtain ⟨k, rfl⟩ : ∃ k, c = k + 1 := ⟨c - 1, by omega⟩
  rfl
theorem part_top (hk : Dk l) (c : Nat) : part l c ≤ 6 * c := by
  have h1 : part l c ≤ lay (fun _ => 6) (c - 1) := lay_le fun c _ _ => by have := ga_n l c; have := hk.len; omega
  have h2 : ∀ M, lay (fun _ => 6) M = 6 * M := fun M => by
    induction M with
    | zero => rfl
    | succ M ih => rw [lay, ih]; omega
  rw [h2] at h1; omega

/-- One fine. -/
theorem one_fine (hk : Dk l) {c : Nat} (hc10 : c ≤ 10) {sum : Int} {n : Nat} {rec : Int → Int → Option Bool} (hrec : rec (cond (decide ((c : Int) > 0)) (w64 (sum + ((ga l c : Nat) : Int) - ((gm l c : Nat) : Int))) sum) ((c + 1 : Nat) : Int) = some true) (hsum : 0 ≤ sum ∧ sum ≤ 1000) : l7c (some true) B18 B25 B26 B28 B34 B40 B41 B42 B43 B44 100 l (LB l) sum (c : Int) rec 100 0 0 = some true := by
  have h6 := hk.six
  have hok := hk.ok
  have hc := hk.ck
  have hlen := hk.len
  have hp : 2 ^ l.length ≤ 2 ^ 6 := Nat.pow_le_pow_right (by decide) hlen
  have hpow : IntKind.wrap .i64 ((1 : Int) * 2 ^ min (Int.toNat (l.length : Int)) 64) = ((2 ^ l.length : Nat) : Int) := one_i64 (by omega)
  have h0L : decide (0 ≤ (l.length : Int)) = true := decide_eq_true (by omega)
  obtain ⟨hix, hgr⟩ := greedy_gr h6
  have h1 := gm_ga l c
  have h2 := ga_n l c
  obtain ⟨x0, v1, v2, v3, v4⟩ := cnt_val hk (c : Int)
  have b34 : B34 l (c : Int) = some (((gm l c : Nat) : Int), (x0 : Int), 0) := by rw [B34, if_pos (by omega), couO, if_pos hc, if_pos (by omega), v2]
  have b44 : ∀ x : Nat, x ≤ 30 → B44 (x : Int) l (c : Int) = some ((rch l c x : Nat) : Int) := fun x hx => by rw [B44, if_pos ⟨hc, by omega, by omega⟩, Int.toNat_natCast]
  have hwc : w64 ((c : Int) + 1) = ((c + 1 : Nat) : Int) := w64_succ (by omega)
  -- the days
  have days : ∀ (m x n : Nat), x + m = 31 → m < n → l7f (some true) B18 B25 B26 B28 B34 B40 B41 B42 B43 B44 100 l (LB l) sum (c : Int) ((gm l c : Nat) : Int) ((ga l c : Nat) : Int) (((gm l c : Nat) : Int), (x0 : Int), 0) rec n (x : Int) = some true := by
    intro m
    induction m with
    | zero =>
      intro x n e hn
      obtain ⟨n, rfl⟩ : ∃ m, n = m + 1 := ⟨n - 1, by omega⟩
      rw [l7f, decide_eq_false (show ¬ (x : Int) ≤ 30 by omega), cond_false, b44 x0 v1, Option.bind_some, v3, bne_self_eq_false, cond_false, hwc]
      rw [w64_small (x := ((ga l c : Nat) : Int) - ((gm l c : Nat) : Int)) (by omega)]
      by_cases q : (c : Int) > 0
      · rw [decide_eq_true q, cond_true] at hrec ⊢
        rw [show sum + (((ga l c : Nat) : Int) - ((gm l c : Nat) : Int)) = sum + ((ga l c : Nat) : Int) - ((gm l c : Nat) : Int) by omega]
        exact hrec
      · rw [decide_eq_false q, cond_false] at hrec ⊢
        exact hrec
    | succ m ih =>
      intro x n e hn
      obtain ⟨n, rfl⟩ : ∃ m, n = m + 1 := ⟨n - 1, by omega⟩
      have hle := gm_le h6 c x
      have ih := ih (x + 1) n (by omega) (by omega)
      have hw : w64 ((x : Int) + 1) = ((x + 1 : Nat) : Int) := w64_succ (by omega)
      rw [l7f, decide_eq_true (show (x : Int) ≤ 30 by omega), cond_true, b44 x (by omega), Option.bind_some, decide_eq_false (show ¬ ((rch l c x : Nat) : Int) < ((gm l c : Nat) : Int) by omega), cond_false, hw]
      by_cases q : (x : Int) < (x0 : Int)
      · have h4 := v4 x (by omega)
        have : (((rch l c x : Nat) : Int) == ((gm l c : Nat) : Int)) = false := by simp; omega
        rw [decide_eq_true q, cond_true, Option.bind_some, this, cond_false]; exact ih
      · rw [decide_eq_false q, cond_false]; exact ih
  -- all
  have all : l7e (some true) B18 B25 B26 B28 B34 B40 B41 B42 B43 B44 100 l (LB l) sum (c : Int) ((gm l c : Nat) : Int) rec 100 0 0 = some true :=
    rangeIx l d3 (fun n (a : Int) t => l7e (some true) B18 B25 B26 B28 B34 B40 B41 B42 B43 B44 100 l (LB l) sum (c : Int) ((gm l c : Nat) : Int) rec n a t) (fun t xs a => a = (cnt (ge l c) t : Nat)) (fun t xs a => some true)
      (fun n a t y rest ht hy hI ih => by
        subst hI
        have hfn : (l.getD t ((0 : Int), ((0 : Int), ()))).2.1 = fnl l t := rfl
        have hct := cnt_le_n (ge l c) t
        have hgo : ∀ r', r' = ((cnt (ge l c) (t + 1) : Nat) : Int) → _ := fun r' hr' => ih r' hr'
        simp only [cnt] at hgo
        simp only [l7e, ixA ht, ixB ht, cond_true, chk_true, Int.toNat_natCast, ixW ht (by omega), hfn]
        cases hg : ge l c t with
        | false =>
          have hg' : decide (fnl l t ≥ (c : Int)) = false := hg
          rw [hg', cond_false]
          exact hgo _ (by simp [hg])
        | true =>
          have hg' : decide (fnl l t ≥ (c : Int)) = true := hg
          rw [hg', cond_true, w64_small (by omega)]
          exact hgo _ (by simp [hg]))
      (fun n a hI => by
        subst hI
        have z0 : ((0 : Int) != 0) = false := rfl
        simp only [l7e, ixE, cond_false, b34, Option.bind_some, z0, bne_self_eq_false, decide_eq_false (show ¬ (x0 : Int) < 0 by omega), decide_eq_false (show ¬ (x0 : Int) > 30 by omega)]
        exact days 31 0 100 rfl (by omega)) 100 0 (by omega) rfl
  -- the sets
  have hgb : ∀ i, i < l.length → tb (maskT (fun i => mem (greedy l []) i && ge l c i) l.length) i = (mem (greedy l []) i && ge l c i) := fun i hi => by rw [maskT_bit, decide_eq_true hi, Bool.true_and]
  have hglt := maskT_lt (fun i => mem (greedy l []) i && ge l c i) l.length
  have sets : ∀ (m k n : Nat) (most : Int), k + m = 2 ^ l.length → m < n → (0 ≤ most ∧ most ≤ ((gm l c : Nat) : Int) ∧ (maskT (fun i => mem (greedy l []) i && ge l c i) l.length < k → most = ((gm l c : Nat) : Int))) → l7c (some true) B18 B25 B26 B28 B34 B40 B41 B42 B43 B44 100 l (LB l) sum (c : Int) rec n most (k : Int) = some true := by
    intro m
    induction m with
    | zero =>
      intro k n most e hn hI
      obtain ⟨n, rfl⟩ : ∃ m, n = m + 1 := ⟨n - 1, by omega⟩
      have : k = 2 ^ l.length := by omega
      subst this
      rw [l7c, h0L, chk_true, hpow, ixE, cond_false, hI.2.2 hglt]
      exact all
    | succ m ih =>
      intro k n most e hn hI
      obtain ⟨n, rfl⟩ : ∃ m, n = m + 1 := ⟨n - 1, by omega⟩
      have hkl : k < 2 ^ l.length := by omega
      have ih := fun most' => ih (k + 1) n most' (by omega) (by omega)
      have hw : w64 ((k : Int) + 1) = ((k + 1 : Nat) : Int) := w64_succ (by omega)
      have b42 : B42 l (k : Int) = some (psm l k) := if_pos ⟨h6, by omega, by omega⟩
      have b43 : B43 (k : Int) = some (lstM k) := if_pos ⟨by omega, by omega⟩
      have hlm := lstM_len hkl (by omega)
      rw [l7c, h0L, chk_true, hpow, ixA hkl, cond_true]
      refine rangeIx l d3 (fun p (good : Bool) t => l7d (some true) B18 B25 B26 B28 B34 B40 B41 B42 B43 B44 100 l (LB l) sum (c : Int) most (k : Int) (fun y0 y1 => l7c (some true) B18 B25 B26 B28 B34 B40 B41 B42 B43 B44 100 l (LB l) sum (c : Int) rec n y0 y1) p good t) (fun t xs good => t ≤ l.length ∧ (good = true ↔ ∀ i, i < t → tb k i = true → ge l c i = true)) (fun t xs good => some true)
        (fun p good t y rest ht hy hI2 ih2 => ?_) (fun p good hI2 => ?_) 100 true (by omega) ⟨by omega, by simp⟩
      · obtain ⟨t1, t2⟩ := hI2
        have hb := bit0_i64 (s := k) (by omega) (show t ≤ 64 by omega)
        rw [Int.toNat_natCast] at hb
        have hfn : (l.getD t ((0 : Int), ((0 : Int), ()))).2.1 = fnl l t := rfl
        have hg' : decide (fnl l t ≥ (c : Int)) = ge l c t := rfl
        simp only [l7d, ixA ht, ixB ht, decide_eq_true (show (0 : Int) ≤ (t : Int) by omega), cond_true, chk_true, Int.toNat_natCast, ixW ht (by omega), hb, hfn, hg']
        rw [show k.testBit t = tb k t from rfl]
        have step : ∀ g' : Bool, (g' = true ↔ (good = true ∧ (tb k t = true → ge l c t = true))) → (g' = true ↔ ∀ i, i < t + 1 → tb k i = true → ge l c i = true) := fun g' hg2 => by
          rw [hg2, t2]
          constructor
          · rintro ⟨a, b⟩ i hi
            by_cases q : i = t
            · subst q; exact b
            · exact a i (by omega)
          · intro a; exact ⟨fun i hi => a i (by omega), a t (by omega)⟩
        cases good with
        | false => rw [cond_false]; exact ih2 false ⟨by omega, step false (by simp)⟩
        | true =>
          rw [cond_true]
          cases hkt : tb k t with
          | false => rw [Bool.not_false, cond_true]; exact ih2 true ⟨by omega, step true (by simp [hkt])⟩
          | true => rw [Bool.not_true, cond_false]; exact ih2 _ ⟨by omega, step _ (by simp [hkt])⟩
      · obtain ⟨t1, t2⟩ := hI2
        simp only [l7d, ixE, cond_false, b42, b43, Option.bind_some, hw]
        have hkeep : (good = false ∨ psm l k = false) → (0 ≤ most ∧ most ≤ ((gm l c : Nat) : Int) ∧ (maskT (fun i => mem (greedy l []) i && ge l c i) l.length < k + 1 → most = ((gm l c : Nat) : Int))) := fun hno => by
          refine ⟨hI.1, hI.2.1, fun hlt => ?_⟩
          by_cases q : maskT (fun i => mem (greedy l []) i && ge l c i) l.length < k
          · exact hI.2.2 q
          · exfalso
            have hkm : k = maskT (fun i => mem (greedy l []) i && ge l c i) l.length := by omega
            rcases hno with hno | hno
            · have : good = true := t2.2 fun i hi hb => by
                rw [hkm, hgb i hi, Bool.and_eq_true] at hb; exact hb.2
              rw [hno] at this; cases this
            · have : psm l k = true := (psm_iff h6 k).2 (hgr.pos.sub fun i hi hb => by
                rw [hkm, hgb i hi, Bool.and_eq_true] at hb; exact hb.1)
              rw [hno] at this; cases this
        cases hgood : good with
        | false => rw [cond_false]; exact ih most (hkeep (.inl hgood))
        | true =>
          rw [cond_true]
          cases hps : psm l k with
          | false => rw [cond_false]; exact ih most (hkeep (.inr hps))
          | true =>
            rw [cond_true]
            have hall := t2.1 hgood
            have hrk := hgr.rank ((psm_iff h6 k).1 hps) (fun i _ hi => by cases hi) (c : Int)
            have e1 : cnt (fun i => tb k i && decide ((c : Int) ≤ fnl l i)) l.length = cnt (tb k) l.length := cnt_congr fun i hi => by
              cases q : tb k i with
              | false => rfl
              | true => exact hall i hi q
            rw [e1] at hrk
            have hrk2 : cnt (tb k) l.length ≤ gm l c := hrk
            have him : imax most ((lstM k).length : Int) = if ((lstM k).length : Int) > most then ((lstM k).length : Int) else most := rfl
            refine ih _ ⟨by rw [him]; split <;> omega, by rw [him, hlm]; split <;> omega, fun hlt => ?_⟩
            by_cases q : maskT (fun i => mem (greedy l []) i && ge l c i) l.length < k
            · have := hI.2.2 q
              rw [him, hlm, if_neg (by omega)]; exact this
            · have hkm : k = maskT (fun i => mem (greedy l []) i && ge l c i) l.length := by omega
              have : cnt (tb k) l.length = gm l c := cnt_congr fun i hi => by rw [hkm, hgb i hi]
              rw [him, hlm, this]
              split <;> omega
  exact sets (2 ^ l.length) 0 100 0 (Nat.zero_add _) (by omega) ⟨by omega, by omega, fun h => by omega⟩

theorem fines_ok (hk : Dk l) : ∀ (m c n : Nat), c + m = 11 → m < n → l7b (some true) B18 B25 B26 B28 B34 B40 B41 B42 B43 B44 100 l (LB l) n ((part l c : Nat) : Int) (c : Int) = some true := by
  have h6 := hk.six
  have hlay : leastO l = ((part l 11 : Nat) : Int) := leastO_lay h6 (M := 10) fun o ho => by have := hk.all o ho; omega
  have hne := bests_ne h6
  intro m
  induction m with
  | zero =>
    intro c n e hn
    obtain ⟨n, rfl⟩ : ∃ m, n = m + 1 := ⟨n - 1, by omega⟩
    obtain rfl : c = 11 := by omega
    have hlen : 0 < ((bests l).map Int.ofNat).length := by rw [List.length_map]; exact List.length_pos_iff.2 hne
    rw [l7b, decide_eq_false (show ¬ ((11 : Nat) : Int) ≤ 10 by omega), cond_false]
    have e1 : (((part l 11 : Nat) : Int) == (LB l).1) = true := by simp [hlay]
    rw [e1, cond_true, decide_eq_true (show (((LB l).2.length : Nat) : Int) > 0 by show (((((bests l).map Int.ofNat).length) : Nat) : Int) > 0; omega)]
    rfl
  | succ m ih =>
    intro c n e hn
    obtain ⟨n, rfl⟩ : ∃ m, n = m + 1 := ⟨n - 1, by omega⟩
    have htop := part_top hk c
    have h1 := gm_ga l c
    have h2 := ga_n l c
    have hlen := hk.len
    rw [l7b, decide_eq_true (show (c : Int) ≤ 10 by omega), cond_true]
    refine one_fine hk (by omega) (n := n) ?_ (by omega)
    have ih := ih (c + 1) n (by omega) (by omega)
    have e1 : cond (decide ((c : Int) > 0)) (w64 (((part l c : Nat) : Int) + ((ga l c : Nat) : Int) - ((gm l c : Nat) : Int))) ((part l c : Nat) : Int) = ((part l (c + 1) : Nat) : Int) := by
      by_cases q : (c : Int) > 0
      · rw [decide_eq_true q, cond_true, w64_small (by omega), part_succ l (by omega)]; omega
      · obtain rfl : c = 0 := by omega
        rfl
    show l7b (some true) B18 B25 B26 B28 B34 B40 B41 B42 B43 B44 100 l (LB l) n _ _ = some true
    rw [e1]; exact ih

theorem plan_ok (hk : Dk l) : l7a (some true) B18 B25 B26 B28 B34 B40 B41 B42 B43 B44 100 l (LB l) (planO l, 0) 100 0 0 [] = some true := by
  have h6 := hk.six
  have hlen := hk.len
  obtain ⟨p1, p2, p3, p4⟩ := planO_ok hk.ok
  have hlate : ws (fnl l) (fun i => decide ((planO l).getD i 0 > (l.getD i d3).1)) l.length = leastO l := by
    rw [ws_congr (q := fun i => !mem (greedy l []) i) (fun i hi => p4 i hi) (fun _ _ _ => rfl)]
    have hb := (greedy_best h6).2
    have h := ws_split (fnl l) (fun _ => true) (mem (greedy l [])) l.length
    simp only [Bool.true_and] at h
    have e1 : ws (fnl l) (fun i => mem (greedy l []) i) l.length = ws (fnl l) (mem (greedy l [])) l.length := rfl
    unfold tot at hb
    rw [e1, hb] at h
    omega
  exact rangeIx (planO l) 0 (fun n (s : Int × List (Int × Bool)) t => l7a (some true) B18 B25 B26 B28 B34 B40 B41 B42 B43 B44 100 l (LB l) (planO l, 0) n s.1 t s.2) (fun t xs s => ∃ pre, planO l = pre ++ xs ∧ pre.length = t ∧ s.2 = pre.map (fun y => (y, true)) ∧ s.1 = ws (fnl l) (fun i => decide ((planO l).getD i 0 > (l.getD i d3).1)) t) (fun t xs s => some true)
    (fun n s t x rest ht hx hI ih => by
      obtain ⟨late, mp⟩ := s
      obtain ⟨pre, e1, e2, e3, e4⟩ := hI
      simp only at e3 e4
      subst e3
      have hxm : x ∈ planO l := by rw [e1]; simp
      have hxr := p3 x hxm
      have hnot : x ∉ pre := fun q => by
        have hn := p2
        rw [e1, List.nodup_append] at hn
        exact hn.2.2 x q x (by simp) rfl
      have hc : pre.contains x = false := by
        cases q : pre.contains x with
        | false => rfl
        | true => exact absurd (List.contains_iff_mem.1 q) hnot
      have hget := get_map x pre
      rw [hc] at hget
      have htl : t < l.length := by omega
      have hf : (l.getD t ((0 : Int), ((0 : Int), ()))).2.1 = fnl l t := rfl
      have hft := h6.fn htl
      obtain ⟨w1, w2⟩ := ws_rng (f := fnl l) (p := fun i => decide ((planO l).getD i 0 > (l.getD i d3).1)) (n := t) fun i hi => h6.fn (show i < l.length by omega)
      have hgo : ∀ late', late' = ws (fnl l) (fun i => decide ((planO l).getD i 0 > (l.getD i d3).1)) (t + 1) → l7a (some true) B18 B25 B26 B28 B34 B40 B41 B42 B43 B44 100 l (LB l) (planO l, 0) n late' ((t + 1 : Nat) : Int) ((pre ++ [x]).map fun y => (y, true)) = some true := fun late' hl => ih (late', _) ⟨pre ++ [x], by rw [e1]; simp, by simp [e2], rfl, hl⟩
      simp only [ws, hx] at hgo
      simp only [l7a, ixA ht, ixB ht, ixB htl, cond_true, chk_true, Int.toNat_natCast, ixW ht (by omega), hx, hget, cond_false, put_map hnot, hf]
      rw [decide_eq_false (show ¬ x < 1 by omega), cond_false, decide_eq_false (show ¬ x > 42 by omega), cond_false]
      by_cases q : x > (l.getD t d3).1
      · rw [decide_eq_true q, cond_true] at hgo ⊢
        rw [w64_small (by omega)]
        exact hgo _ (by rw [e4])
      · rw [decide_eq_false q, cond_false] at hgo ⊢
        exact hgo _ (by rw [e4, Int.add_zero]))
    (fun n s hI => by
      obtain ⟨late, mp⟩ := s
      obtain ⟨pre, e1, e2, e3, e4⟩ := hI
      simp only at e3 e4
      rw [p1, hlate] at e4
      subst e4
      simp only [l7a, ixE, cond_false, bne_self_eq_false]
      exact fines_ok hk 11 0 100 rfl (by omega)) 100 (0, []) (by omega) ⟨[], rfl, rfl, rfl, rfl⟩
end

theorem KB7 : FnOk Try.prog 7 (F7 fun d => if ∀ p ∈ d, u8p p then some true else none) := ok7 (some true) B18 B25 B26 B28 B34 B40 B41 B42 B43 B44 K14t KB18 KB25 KB26 KB28 KB34 KB40 KB41 KB42 KB43 KB44 _ fun d r h => ⟨100, by
  split at h
  · rename_i hd
    have hk := mkD_ok d
    rw [← h, m7, B40, if_pos hd, Option.bind_some]
    generalize mkD d = l at hk ⊢
    have h6 := hk.six
    have hc := hk.ck
    have hlen := hk.len
    obtain ⟨p1, p2, p3, p4⟩ := planO_ok hk.ok
    have b41 : B41 l = some (leastO l, (bests l).map Int.ofNat) := if_pos h6
    have b18 : B18 l = some (leastO l, 0) := by rw [B18, if_pos (by omega), lea, if_pos hc]
    have b25 : B25 l = some (planO l, 0) := by rw [B25, if_pos (by omega), plnO, if_pos hc]
    have b26 : B26 l (planO l) = some (leastO l, 0) := by rw [B26, if_pos (by omega), planO_fines hk.ok hc]
    have b28 : B28 l (planO l) = some 0 := by rw [B28, if_pos (by omega), verP_plan hc]
    have z0 : ((0 : Int) != 0) = false := rfl
    simp only [b41, b18, b25, b26, b28, Option.bind_some, z0, cond_false, bne_self_eq_false, p1]
    exact plan_ok hk
  · cases h⟩
theorem K (y0 : List (List Int)) (_ : DT.wf (.sl (.arr 2 (.int .u8))) y0) : FnOk Try.prog 7 (F7 (fun d => if ∀ p ∈ d, u8p p then some true else none)) := KB7

set_option maxRecDepth 100000 in
theorem walk (w : World) (vs : List Value) (h : ArgsOk w [.sl (.arr 2 (.int .u8))] vs) : Calls Try.prog 7 vs.toArray w fun e w' => e = .returned (.bool true) ∧ Below w.heap.size w w' := by
  obtain ⟨v0, vs0, y0, rfl, w0, h0, k0⟩ := ArgsOk.cons h
  obtain rfl := ArgsOk.nil k0
  exact walkAll (K y0 w0) (xs := [.dv (.sl (.arr 2 (.int .u8))) y0]) (r := true) (if_pos (wfD w0)) rfl (HoldsAll.cons h0 HoldsAll.nil)

set_option maxRecDepth 100000 in
theorem lifted (os : Os) (started : os.Started) (H : Type) (enc : TypeId × Value → H) :
    ReturnsInHanded {} Try.checked os 7 .any (Rows.pressLeastSpec.pre6 enc Try.prog Try.f7 Rows.pressLeastRow.domain false) (Rows.pressLeastSpec.post enc Try.prog Try.f7 false true false false) :=
  lawShell (fn := Try.f7) (s := Rows.pressLeastSpec) (tb := 4) [.sl (.arr 2 (.int .u8))] Try.func7 (by kernel_rfl) (by kernel_rfl) (by kernel_rfl) Try.underlying4 (by kernel_rfl) os started H enc Rows.pressLeastRow.domain
    (fun ds hl => by
      match ds, hl with
      | [d0], _ => rfl)
    (ChangeSpec.witness6 (enc := enc) (C := Try.checked) false ⟨#[], #[.slice none 0 0], []⟩ 8 (by kernel_rfl) (by kernel_rfl) (by kernel_rfl) (by kernel_rfl)) walk

theorem over : Rows.pressLeastRow.holds Try.pinned (OpenSpec.ofChange Rows.pressLeastSpec) :=
  OpenClaim.holds_of_wide 7 Try.f7 rfl rfl rfl rfl rfl rfl rfl ⟨rfl, rfl, rfl, rfl, rfl⟩ rfl rfl rfl rfl rfl (by kernel_rfl) Try.func7 (by kernel_rfl)
    (of_decide_eq_true (by kernel_rfl)) (by unfold Func.isWrapper; first | (rw [if_pos (by decide +kernel)]; kernel_rfl) | (rw [if_neg (by decide +kernel)]; exact ⟨rfl, rfl⟩))
    (fun os started H enc _ => lifted os started H enc)

/-- THE STATEMENT. -/
theorem proved : Rows.PressLeastSaid := over

end Go.Proofs.Ytbblnbolabpfmaa.pressLeast
