/-
  The law PressSet returns true and turns nothing that was there.
-/
import Derived.Test.YtbblnbolabpfmaaO2
import Derived.Test.YtbblnbolabpfmaaP8o
import Derived.Test.YtbblnbolabpfmaaQM8
import Derived.Test.YtbblnbolabpfmaaRows
import Derived.Test.YtbblnbolabpfmaaEN
import Derived.WalkKit
import Derived.ProofKit
import Derived.OpenShut
import Derived.ChangeOld
import Derived.Below
namespace Go.Proofs.Ytbblnbolabpfmaa.pressSet
open Go.RowKit Go.ChangeShapes Go.WideShapes Go.ChangeAt
set_option linter.unusedVariables false
theorem b256 {n : Int} (h : (Lit.int .u8 n).wf = true) : 0 ≤ n ∧ n ≤ 255 := by have := bounds_u8 h; omega
theorem wfD {y : List (List Int)} (h : DT.wf (.sl (.arr 2 (.int .u8))) y) : ∀ p ∈ y, u8p p := fun p hp => by
  obtain ⟨_, h2⟩ := (show y.length ≤ maxLen ∧ ∀ i, i < y.length → DT.wf (.arr 2 (.int .u8)) (y.getD i (DT.dflt (.arr 2 (.int .u8)))) from h)
  obtain ⟨i, hi, rfl⟩ := List.getElem_of_mem hp
  have := h2 i hi
  rw [List.getD_eq_getElem?_getD, List.getElem?_eq_getElem hi] at this
  obtain ⟨a, b⟩ := (show (y[i]).length = 2 ∧ ∀ j, j < (y[i]).length → (Lit.int .u8 ((y[i]).getD j 0)).wf = true from this)
  exact ⟨b256 (b 0 (by omega)), b256 (b 1 (by omega))⟩
def B45 (a b : List Int) : Option Bool := if a.length = b.length ∧ a.length ≤ 1000 then some (befo a b) else none
theorem KB45 : FnOk Try.prog 45 (F45 B45) := ok45 B45 fun a b r h => ⟨1001, by
  simp only [B45] at h
  split at h
  · rename_i hh
    obtain ⟨he, hl⟩ := hh
    rw [← h, m45]
    exact rangeIx a 0 (fun n (_ : Unit) t => l45a 1001 a b n t) (fun _ _ _ => True) (fun t xs _ => some (befo xs (b.drop t)))
      (fun n _ t x rest ht hx _ ih => by
        have hb : b.drop t = b.getD t 0 :: b.drop (t + 1) := by
          rw [List.drop_eq_getElem_cons (by omega), List.getD_eq_getElem?_getD, List.getElem?_eq_getElem (by omega)]; rfl
        simp only [l45a, ixA ht, ixA (he ▸ ht : t < b.length), ixB ht, ixB (he ▸ ht : t < b.length), cond_true, chk_true, Int.toNat_natCast, ixW ht (by omega), hx, ih () trivial]
        rw [hb, befo]
        cases x != b.getD t 0 <;> rfl)
      (fun n _ _ => by simp only [l45a, ixE, cond_false]; rw [befo]; intro _ _ _ _ h _; cases h) 1001 () (by omega) trivial
  · cases h⟩

/-! ### whoever goes through the orders by falling fines -/
theorem bef_irr (f : Nat → Int) (i : Nat) : bef f i i = false := by simp [bef]
theorem gr_uniq {dy : Nat → Nat} {f : Nat → Int} {n : Nat} {G H : Nat → Bool} (hG : Gr dy f n (fun _ => false) G) (hH : Gr dy f n (fun _ => false) H) : ∀ (r e : Nat), e < n → cnt (fun i => bef f i e) n < r → G e = H e
  | 0, e, he, hr => by omega
  | r + 1, e, he, hr => by
    have key : ∀ i, i < n → bef f i e = true → G i = H i := fun i hi hb => gr_uniq hG hH r i hi (by
      have h1 : cnt (fun j => bef f j i) n + cnt (fun j => bef f j e && (j == i)) n ≤ cnt (fun j => bef f j e) n := by
        rw [← cnt_or]
        · refine cnt_le fun j hj hq => ?_
          simp only [Bool.or_eq_true, Bool.and_eq_true] at hq
          rcases hq with a | ⟨a, _⟩
          · exact bef_trans a hb
          · exact a
        · intro j hj hq
          cases q : j == i with
          | false => simp
          | true =>
            have : j = i := by simpa using q
            subst this
            rw [bef_irr] at hq; cases hq
      rw [cnt_one, if_pos ⟨hi, hb⟩] at h1
      omega)
    have one : ∀ X Y : Nat → Bool, Gr dy f n (fun _ => false) X → Gr dy f n (fun _ => false) Y → (∀ i, i < n → bef f i e = true → X i = Y i) → X e = true → Y e = true := fun X Y hX hY hk h => by
      cases q : Y e with
      | true => rfl
      | false =>
        refine absurd (hX.pos.sub fun i hi hi2 => ?_) (hY.no e he q)
        simp only [ins, Bool.or_eq_true, Bool.and_eq_true, Bool.false_or, beq_iff_eq] at hi2
        rcases hi2 with ⟨a, b⟩ | rfl
        · rw [hk i hi b]; exact a
        · exact h
    cases q1 : G e with
    | true => exact (one G H hG hH key q1).symm
    | false =>
      cases q2 : H e with
      | false => rfl
      | true => rw [one H G hH hG (fun i hi hb => (key i hi hb).symm) q2] at q1; cases q1

/-- Who was looked at. -/
def dn (l : List Od) (f : Int) (t i : Nat) : Prop := f < fnl l i ∨ (fnl l i = f ∧ i < t)
structure GQ (l : List Od) (f : Int) (t got : Nat) : Prop where
  lt : got < 2 ^ l.length
  pos : Pos (dyl l) l.length (tb got)
  J : ∀ i, i < l.length → tb got i = true → dn l f t i
  K : ∀ e, e < l.length → dn l f t e → tb got e = false → ¬ Pos (dyl l) l.length (ins (fun i => tb got i && bef (fnl l) i e) e)

theorem tb_ins (got t i : Nat) : tb (got ||| 2 ^ t) i = ins (tb got) t i := by
  rw [tb_or, tb_pow, ins]; congr 1
  by_cases q : t = i
  · subst q; simp
  · rw [decide_eq_false q]; symm; simp; omega

theorem GQ.skip {l : List Od} {f : Int} {t got : Nat} (h : GQ l f t got) (hf : ¬ fnl l t = f) : GQ l f (t + 1) got := by
  have e : ∀ i, dn l f (t + 1) i ↔ dn l f t i := fun i => by
    unfold dn
    constructor
    · rintro (a | ⟨a, b⟩)
      · exact .inl a
      · refine .inr ⟨a, ?_⟩
        by_cases q : i = t
        · subst q; exact absurd a hf
        · omega
    · rintro (a | ⟨a, b⟩)
      · exact .inl a
      · exact .inr ⟨a, by omega⟩
  exact ⟨h.lt, h.pos, fun i hi hb => (e i).2 (h.J i hi hb), fun e' he hd => h.K e' he ((e e').1 hd)⟩
theorem GQ.take {l : List Od} {f : Int} {t got : Nat} (h : GQ l f t got) (ht : t < l.length) (hf : fnl l t = f) (hp : Pos (dyl l) l.length (tb (got ||| 2 ^ t))) : GQ l f (t + 1) (got ||| 2 ^ t) := by
  refine ⟨Nat.or_lt_two_pow h.lt (Nat.pow_lt_pow_right (by decide) ht), hp, fun i hi hb => ?_, fun e he hd hS hq => ?_⟩
  · rw [tb_ins, ins, Bool.or_eq_true, beq_iff_eq] at hb
    rcases hb with hb | rfl
    · rcases h.J i hi hb with a | ⟨a, b⟩
      · exact .inl a
      · exact .inr ⟨a, by omega⟩
    · exact .inr ⟨hf, by omega⟩
  · rw [tb_ins, ins, Bool.or_eq_false_iff] at hS
    have het : e ≠ t := by simpa using hS.2
    refine h.K e he ?_ hS.1 (hq.sub (ins_sub fun i _ hi => ?_))
    · rcases hd with a | ⟨a, b⟩
      · exact .inl a
      · exact .inr ⟨a, by omega⟩
    · simp only [Bool.and_eq_true] at hi ⊢
      exact ⟨by rw [tb_ins, ins, hi.1]; rfl, hi.2⟩
theorem GQ.no {l : List Od} {f : Int} {t got : Nat} (h : GQ l f t got) (ht : t < l.length) (hf : fnl l t = f) (hp : ¬ Pos (dyl l) l.length (tb (got ||| 2 ^ t))) : GQ l f (t + 1) got := by
  refine ⟨h.lt, h.pos, fun i hi hb => ?_, fun e he hd hS hq => ?_⟩
  · rcases h.J i hi hb with a | ⟨a, b⟩
    · exact .inl a
    · exact .inr ⟨a, by omega⟩
  · by_cases q : e = t
    · subst q
      refine hp (hq.sub fun i hi hi2 => ?_)
      rw [tb_ins] at hi2
      simp only [ins, Bool.or_eq_true, beq_iff_eq, Bool.and_eq_true] at hi2 ⊢
      rcases hi2 with a | a
      · refine .inl ⟨a, ?_⟩
        rcases h.J i hi a with b | ⟨b, c⟩
        · simp only [bef, Bool.or_eq_true, Bool.and_eq_true, decide_eq_true_eq]; omega
        · simp only [bef, Bool.or_eq_true, Bool.and_eq_true, decide_eq_true_eq]; omega
      · exact .inr a
    · refine h.K e he ?_ hS hq
      rcases hd with a | ⟨a, b⟩
      · exact .inl a
      · exact .inr ⟨a, by omega⟩
theorem GQ.next {l : List Od} {f : Int} {got : Nat} (h : GQ l f l.length got) : GQ l (f - 1) 0 got := by
  have e : ∀ i, i < l.length → (dn l (f - 1) 0 i ↔ dn l f l.length i) := fun i hi => by unfold dn; omega
  exact ⟨h.lt, h.pos, fun i hi hb => (e i hi).2 (h.J i hi hb), fun e' he hd => h.K e' he ((e e' he).1 hd)⟩

theorem got_greedy {l : List Od} (h : Ok6 l) {got : Nat} (hq : GQ l (-1) 0 got) : lstM got = greedy l [] := by
  obtain ⟨hix, hg⟩ := greedy_gr h
  have hG : Gr (dyl l) (fnl l) l.length (fun _ => false) (tb got) := ⟨hq.pos, (fun i _ hi => by cases hi), fun e he hS hp => by
    refine hq.K e he (.inl ?_) hS (hp.sub (ins_sub fun i _ hi => ?_))
    · have := (h.fn he).1; omega
    · simpa using hi⟩
  refine lst_set h.len hix (greedy_sorted l []) (fun i hi => gr_uniq hG hg _ i hi (Nat.lt_succ_self _)) fun i hi => tb_big hq.lt hi

/-! ### the first overfull day, from behind -/
def FX (dy : Nat → Nat) (n : Nat) (S : Nat → Bool) (x : Nat) (v : Int) : Prop := (v = 0 ∧ ∀ y, x < y → by_ dy n S y ≤ y) ∨ ∃ d : Nat, v = d ∧ x < d ∧ d < by_ dy n S d ∧ ∀ y, x < y → y < d → by_ dy n S y ≤ y
theorem FX.end_ {dy : Nat → Nat} {n : Nat} {S : Nat → Bool} {v : Int} (h : FX dy n S 0 v) (h0 : by_ dy n S 0 ≤ 0) : FO dy n S v := by
  rcases h with ⟨a, b⟩ | ⟨d, a, b, c, e⟩
  · exact .inl ⟨a, fun y => by
      by_cases q : 0 < y
      · exact b y q
      · have : y = 0 := by omega
        subst this; exact h0⟩
  · exact .inr ⟨d, a, by omega, c, fun y hy => by
      by_cases q : 0 < y
      · exact e y q hy
      · have : y = 0 := by omega
        subst this; exact h0⟩

theorem eqs22 {a b : List Int} (e : a = b) (h : a.length ≤ 1000) : B22 a b = some true := by rw [B22, if_pos h, decide_eq_true e]

section
variable {l : List Od}

theorem sets_ok (hk : Dk l) : ∀ (m k n : Nat), k + m = 2 ^ l.length → m < n → l8d (some true) B16 B20 B22 B40 B41 B42 B43 B45 100 l n (k : Int) = some true := by
  have h6 := hk.six
  have hc := hk.ck
  have hlen := hk.len
  have hp : 2 ^ l.length ≤ 2 ^ 6 := Nat.pow_le_pow_right (by decide) hlen
  have hpow : IntKind.wrap .i64 ((1 : Int) * 2 ^ min (Int.toNat (l.length : Int)) 64) = ((2 ^ l.length : Nat) : Int) := one_i64 (by omega)
  have h0L : decide (0 ≤ (l.length : Int)) = true := decide_eq_true (by omega)
  intro m
  induction m with
  | zero =>
    intro k n e hn
    obtain ⟨n, rfl⟩ : ∃ m, n = m + 1 := ⟨n - 1, by omega⟩
    have : k = 2 ^ l.length := by omega
    subst this
    simp only [l8d, h0L, chk_true, hpow, ixE, cond_false, Option.bind_some]
  | succ m ih =>
    intro k n e hn
    obtain ⟨n, rfl⟩ : ∃ m, n = m + 1 := ⟨n - 1, by omega⟩
    have hkl : k < 2 ^ l.length := by omega
    have ih := ih (k + 1) n (by omega) (by omega)
    have hw : w64 ((k : Int) + 1) = ((k + 1 : Nat) : Int) := w64_succ (by omega)
    have b43 : B43 (k : Int) = some (lstM k) := if_pos ⟨by omega, by omega⟩
    have n1 := lstF_len (tb k) 12 0
    have b16 : B16 l (lstM k) = some (fin16 (ofm l k)) := by rw [B16, if_pos ⟨by omega, by unfold lstM; omega⟩, ovf_mask hc hkl]
    have b42 : B42 l (k : Int) = some (psm l k) := if_pos ⟨h6, by omega, by omega⟩
    have days : ∀ (x n2 : Nat) (first : Int), x ≤ 30 → x < n2 → FX (dyl l) l.length (tb k) x first → l8e (some true) B16 B20 B22 B40 B41 B42 B43 B45 100 l (k : Int) (fin16 (ofm l k)) (fun y0 => l8d (some true) B16 B20 B22 B40 B41 B42 B43 B45 100 l n y0) n2 first (x : Int) = some true := by
      intro x
      induction x with
      | zero =>
        intro n2 first hx hn2 hF
        obtain ⟨n2, rfl⟩ : ∃ m, n2 = m + 1 := ⟨n2 - 1, by omega⟩
        have hfo := hF.end_ (by_0 fun i hi => (h6.dy hi).1)
        have hfe : first = ofm l k := hfo.uniq (ofm_FO h6 k)
        have hnn := ofm_nn h6 k
        simp only [l8e, decide_eq_false (show ¬ ((0 : Nat) : Int) ≥ 1 by omega), cond_false, b42, Option.bind_some, hw, hfe]
        by_cases q : ofm l k = 0
        · have hps : psm l k = true := decide_eq_true q
          rw [hps, beq_T q, q]
          exact ih
        · have hps : psm l k = false := decide_eq_false q
          have hfin : fin16 (ofm l k) = (ofm l k, 0) := by rw [fin16, beq_F q]; rfl
          rw [hps, beq_F q, hfin, decide_eq_true (show ofm l k > 0 by omega)]
          simp only [bne_self_eq_false, cond_false, cond_true]
          exact ih
      | succ x ihx =>
        intro n2 first hx hn2 hF
        obtain ⟨n2, rfl⟩ : ∃ m, n2 = m + 1 := ⟨n2 - 1, by omega⟩
        have hwx : w64 (((x + 1 : Nat) : Int) - 1) = (x : Int) := by rw [w64_small (by omega)]; omega
        simp only [l8e, decide_eq_true (show ((x + 1 : Nat) : Int) ≥ 1 by omega), cond_true]
        refine rangeIx l d3 (fun p (c : Int) t => l8f (some true) B16 B20 B22 B40 B41 B42 B43 B45 100 l (k : Int) (fin16 (ofm l k)) first ((x + 1 : Nat) : Int) (fun y0 y1 => l8e (some true) B16 B20 B22 B40 B41 B42 B43 B45 100 l (k : Int) (fin16 (ofm l k)) (fun y0 => l8d (some true) B16 B20 B22 B40 B41 B42 B43 B45 100 l n y0) n2 y0 y1) p c t) (fun t xs c => t ≤ l.length ∧ c = (cnt (fun i => tb k i && decide (dyl l i ≤ x + 1)) t : Nat)) (fun t xs c => some true)
          (fun p c t y rest ht hy hI ih2 => ?_) (fun p c hI => ?_) 100 0 (by omega) ⟨by omega, rfl⟩
        · obtain ⟨h1, rfl⟩ := hI
          have hb := bit_i64 (s := k) (by omega) (show t ≤ 64 by omega)
          rw [Int.toNat_natCast] at hb
          have hd : decide ((l.getD t d3).1 ≤ ((x + 1 : Nat) : Int)) = decide (dyl l t ≤ x + 1) := by
            unfold dyl
            by_cases q : (l.getD t d3).1 ≤ ((x + 1 : Nat) : Int)
            · rw [decide_eq_true q]; exact (decide_eq_true (by omega)).symm
            · rw [decide_eq_false q]; exact (decide_eq_false (by omega)).symm
          have hcc := cnt_le_n (fun i => tb k i && decide (dyl l i ≤ x + 1)) t
          have hg : ∀ c', c' = ((cnt (fun i => tb k i && decide (dyl l i ≤ x + 1)) (t + 1) : Nat) : Int) → _ := fun c' hc' => ih2 c' ⟨by omega, hc'⟩
          simp only [cnt] at hg
          simp only [l8f, ixA ht, ixB ht, decide_eq_true (show (0 : Int) ≤ (t : Int) by omega), cond_true, chk_true, hb, Int.toNat_natCast, ixW ht (by omega), hd]
          rw [show k.testBit t = tb k t from rfl]
          cases h1 : tb k t with
          | false => rw [cond_false]; exact hg _ (by simp [h1])
          | true =>
            rw [cond_true]
            cases h2 : decide (dyl l t ≤ x + 1) with
            | false => rw [cond_false]; exact hg _ (by simp [h2])
            | true => rw [cond_true, w64_small (by omega)]; exact hg _ (by simp [h1, h2])
        · obtain ⟨h1, rfl⟩ := hI
          simp only [l8f, ixE, cond_false, hwx]
          show cond (decide (((by_ (dyl l) l.length (tb k) (x + 1) : Nat) : Int) > ((x + 1 : Nat) : Int))) _ _ = _
          by_cases q : x + 1 < by_ (dyl l) l.length (tb k) (x + 1)
          · rw [decide_eq_true (by omega), cond_true]
            exact ihx n2 _ (by omega) (by omega) (.inr ⟨x + 1, rfl, by omega, q, fun y h1 h2 => by omega⟩)
          · rw [decide_eq_false (by omega), cond_false]
            refine ihx n2 _ (by omega) (by omega) ?_
            rcases hF with ⟨a, b⟩ | ⟨d, a, b, c, e⟩
            · refine .inl ⟨a, fun y hy => ?_⟩
              by_cases q2 : y = x + 1
              · subst q2; omega
              · exact b y (by omega)
            · refine .inr ⟨d, a, by omega, c, fun y h1 h2 => ?_⟩
              by_cases q2 : y = x + 1
              · subst q2; omega
              · exact e y (by omega) h2
    simp only [l8d, h0L, chk_true, hpow, ixA hkl, cond_true, b43, b16, Option.bind_some]
    exact days 30 100 0 (by omega) (by omega) (.inl ⟨rfl, fun y hy => by
      have : by_ (dyl l) l.length (tb k) y ≤ l.length := cnt_le_n _ _
      omega⟩)

theorem got_ok (hk : Dk l) : ∀ (m got n : Nat) (f : Int), f + 1 = (m : Int) → m < n → m ≤ 10 → GQ l f 0 got → l8b (some true) B16 B20 B22 B40 B41 B42 B43 B45 100 l (greedy l []) n (got : Int) f = some true := by
  have h6 := hk.six
  have hlen := hk.len
  have hp : 2 ^ l.length ≤ 2 ^ 6 := Nat.pow_le_pow_right (by decide) hlen
  have hgl := greedy_len h6
  intro m
  induction m with
  | zero =>
    intro got n f e hn hm hq
    obtain ⟨n, rfl⟩ : ∃ m, n = m + 1 := ⟨n - 1, by omega⟩
    obtain rfl : f = -1 := by omega
    have hgt := hq.lt
    have b43 : B43 (got : Int) = some (lstM got) := if_pos ⟨by omega, by omega⟩
    have e1 := got_greedy h6 hq
    have n1 := lstF_len (tb got) 12 0
    simp only [l8b, decide_eq_false (show ¬ (-1 : Int) ≥ 0 by omega), cond_false, b43, Option.bind_some, eqs22 e1 (by unfold lstM; omega), Bool.not_true]
    exact sets_ok hk (2 ^ l.length) 0 100 (Nat.zero_add _) (by omega)
  | succ m ih =>
    intro got n f e hn hm hq
    obtain ⟨n, rfl⟩ : ∃ m, n = m + 1 := ⟨n - 1, by omega⟩
    rw [l8b, decide_eq_true (show f ≥ 0 by omega), cond_true]
    refine rangeIx l d3 (fun p (g : Int) t => l8c (some true) B16 B20 B22 B40 B41 B42 B43 B45 100 l (greedy l []) f (fun y0 y1 => l8b (some true) B16 B20 B22 B40 B41 B42 B43 B45 100 l (greedy l []) n y0 y1) p g t) (fun t xs g => ∃ k : Nat, g = (k : Int) ∧ GQ l f t k) (fun t xs g => some true)
      (fun p g t y rest ht hy hI ih2 => ?_) (fun p g hI => ?_) 100 (got : Int) (by omega) ⟨got, rfl, hq⟩
    · obtain ⟨k, rfl, hI⟩ := hI
      have hgt := hI.lt
      have hpt : 2 ^ t < 2 ^ l.length := Nat.pow_lt_pow_right (by decide) ht
      have hone := one_i64 (c := t) (by omega)
      rw [Int.toNat_natCast] at hone
      have hor := bOr_i64 (a := k) (b := 2 ^ t) (by omega) (by omega)
      have horl : k ||| 2 ^ t < 2 ^ l.length := Nat.or_lt_two_pow hgt hpt
      have b42 : B42 l ((k ||| 2 ^ t : Nat) : Int) = some (psm l (k ||| 2 ^ t)) := if_pos ⟨h6, by omega, by omega⟩
      have hf : (l.getD t ((0 : Int), ((0 : Int), ()))).2.1 = fnl l t := rfl
      simp only [l8c, ixA ht, ixB ht, decide_eq_true (show (0 : Int) ≤ (t : Int) by omega), cond_true, chk_true, Int.toNat_natCast, ixW ht (by omega), hone, hor, b42, Option.bind_some, hf]
      by_cases q : fnl l t = f
      · have : (fnl l t == f) = true := by simp [q]
        rw [this, cond_true]
        cases hps : psm l (k ||| 2 ^ t) with
        | true => rw [cond_true]; exact ih2 _ ⟨_, rfl, hI.take ht q ((psm_iff h6 _).1 hps)⟩
        | false => rw [cond_false]; exact ih2 _ ⟨_, rfl, hI.no ht q fun hpp => by rw [(psm_iff h6 _).2 hpp] at hps; cases hps⟩
      · have : (fnl l t == f) = false := by simp [q]
        rw [this, cond_false]
        exact ih2 _ ⟨_, rfl, hI.skip q⟩
    · obtain ⟨k, rfl, hI⟩ := hI
      simp only [l8c, ixE, cond_false]
      rw [w64_small (by omega)]
      exact ih k n (f - 1) (by omega) (by omega) (by omega) hI.next

theorem want_ok (hk : Dk l) : l8a (some true) B16 B20 B22 B40 B41 B42 B43 B45 100 l (leastO l, (bests l).map Int.ofNat) 100 [] 0 = some true := by
  have h6 := hk.six
  have hc := hk.ck
  have hlen := hk.len
  have hp : 2 ^ l.length ≤ 2 ^ 6 := Nat.pow_le_pow_right (by decide) hlen
  have hbl := bests_len l
  have hgl := greedy_len h6
  have b20 : B20 l = some (greedy l [], 0) := by rw [B20, if_pos (by omega), stO, if_pos hc]
  refine rangeInv ((bests l).map Int.ofNat) 0 (fun n (o : List Int) t => l8a (some true) B16 B20 B22 B40 B41 B42 B43 B45 100 l (leastO l, (bests l).map Int.ofNat) n o t) (fun xs o => o.length ≤ 12 ∧ ∃ ys : List Nat, xs = ys.map Int.ofNat ∧ (∀ k ∈ ys, k < 4096) ∧ (ys.map lstM).foldl pick o = greedy l []) (fun xs o => some true)
    (fun n o t x rest ht hx hI ih => ?_) (fun n o hI => ?_) 100 [] (by rw [List.length_map]; omega) ⟨by simp, bests l, rfl, fun k hk => by have := ((bests_mem h6).1 hk).1; omega, pick_greedy h6⟩
  · obtain ⟨ho, ys, e, hy, hpk⟩ := hI
    cases ys with
    | nil => cases e
    | cons k ys =>
      simp only [List.map_cons, List.cons.injEq, List.foldl_cons] at e hpk
      obtain ⟨rfl, rfl⟩ := e
      have hk := hy k (by simp)
      have hy' : ∀ k ∈ ys, k < 4096 := fun k hk => hy k (List.mem_cons_of_mem _ hk)
      have ht' : t < (bests l).length := by simpa using ht
      have hkl : (lstM k).length ≤ 12 := lstF_len _ _ _
      have b1 : B43 (Int.ofNat k) = some (lstM k) := if_pos ⟨Int.natCast_nonneg k, by show (k : Int) < _; omega⟩
      simp only [l8a, ixA ht, ixB ht, cond_true, chk_true, Int.toNat_natCast, ixW ht (by rw [List.length_map]; omega), hx, b1, Option.bind_some]
      unfold pick at hpk
      by_cases q1 : o.length < (lstM k).length
      · rw [if_pos q1] at hpk
        rw [decide_eq_true (show ((lstM k).length : Int) > (o.length : Int) by omega), cond_true]
        exact ih _ ⟨hkl, ys, rfl, hy', hpk⟩
      · rw [if_neg q1] at hpk
        rw [decide_eq_false (show ¬ ((lstM k).length : Int) > (o.length : Int) by omega), cond_false]
        by_cases q2 : (lstM k).length = o.length
        · have hbq : (((lstM k).length : Int) == (o.length : Int)) = true := by simp [q2]
          have b2 : B45 (lstM k) o = some (befo (lstM k) o) := if_pos ⟨q2, by omega⟩
          rw [if_pos q2] at hpk
          rw [hbq, cond_true, b2, Option.bind_some]
          cases hb : befo (lstM k) o with
          | true => rw [hb] at hpk; exact ih _ ⟨hkl, ys, rfl, hy', hpk⟩
          | false => rw [hb] at hpk; exact ih _ ⟨ho, ys, rfl, hy', hpk⟩
        · have hbq : (((lstM k).length : Int) == (o.length : Int)) = false := by simp; omega
          rw [if_neg q2] at hpk
          rw [hbq, cond_false]
          exact ih _ ⟨ho, ys, rfl, hy', hpk⟩
  · obtain ⟨ho, ys, e, hy, hpk⟩ := hI
    have : ys = [] := by simpa using e.symm
    subst this
    have hpk : o = greedy l [] := hpk
    subst hpk
    have z0 : ((0 : Int) != 0) = false := rfl
    simp only [l8a, ixE, cond_false, b20, Option.bind_some, z0, eqs22 (rfl : greedy l [] = greedy l []) (by omega), Bool.not_true]
    refine got_ok hk 10 0 100 9 (by omega) (by omega) (by omega) ⟨Nat.two_pow_pos _, Pos.empty.congr fun i _ => tb_0 i, fun i _ hi => ?_, fun e he hd => ?_⟩
    · rw [tb_0] at hi; cases hi
    · exfalso
      have h9 := (hk.all _ (List.getElem_mem he)).2
      have hfe : fnl l e = (l[e]).2.1 := by simp [fnl, List.getD, List.getElem?_eq_getElem he]
      rcases hd with a | ⟨_, b⟩
      · omega
      · omega
end

theorem KB8 : FnOk Try.prog 8 (F8 fun d => if ∀ p ∈ d, u8p p then some true else none) := ok8 (some true) B16 B20 B22 B40 B41 B42 B43 B45 K14t KB16 KB20 KB22 KB40 KB41 KB42 KB43 KB45 _ fun d r h => ⟨100, by
  split at h
  · rename_i hd
    have hk := mkD_ok d
    have b41 : B41 (mkD d) = some (leastO (mkD d), (bests (mkD d)).map Int.ofNat) := if_pos hk.six
    rw [← h, m8, B40, if_pos hd, Option.bind_some, b41, Option.bind_some]
    exact want_ok hk
  · cases h⟩
theorem K (y0 : List (List Int)) (_ : DT.wf (.sl (.arr 2 (.int .u8))) y0) : FnOk Try.prog 8 (F8 (fun d => if ∀ p ∈ d, u8p p then some true else none)) := KB8

set_option maxRecDepth 100000 in
theorem walk (w : World) (vs : List Value) (h : ArgsOk w [.sl (.arr 2 (.int .u8))] vs) : Calls Try.prog 8 vs.toArray w fun e w' => e = .returned (.bool true) ∧ Below w.heap.size w w' := by
  obtain ⟨v0, vs0, y0, rfl, w0, h0, k0⟩ := ArgsOk.cons h
  obtain rfl := ArgsOk.nil k0
  exact walkAll (K y0 w0) (xs := [.dv (.sl (.arr 2 (.int .u8))) y0]) (r := true) (if_pos (wfD w0)) rfl (HoldsAll.cons h0 HoldsAll.nil)

set_option maxRecDepth 100000 in
theorem lifted (os : Os) (started : os.Started) (H : Type) (enc : TypeId × Value → H) :
    ReturnsInHanded {} Try.checked os 8 .any (Rows.pressSetSpec.pre6 enc Try.prog Try.f8 Rows.pressSetRow.domain false) (Rows.pressSetSpec.post enc Try.prog Try.f8 false true false false) :=
  lawShell (fn := Try.f8) (s := Rows.pressSetSpec) (tb := 4) [.sl (.arr 2 (.int .u8))] Try.func8 (by kernel_rfl) (by kernel_rfl) (by kernel_rfl) Try.underlying4 (by kernel_rfl) os started H enc Rows.pressSetRow.domain
    (fun ds hl => by
      match ds, hl with
      | [d0], _ => rfl)
    (ChangeSpec.witness6 (enc := enc) (C := Try.checked) false ⟨#[], #[.slice none 0 0], []⟩ 8 (by kernel_rfl) (by kernel_rfl) (by kernel_rfl) (by kernel_rfl)) walk

theorem over : Rows.pressSetRow.holds Try.pinned (OpenSpec.ofChange Rows.pressSetSpec) :=
  OpenClaim.holds_of_wide 8 Try.f8 rfl rfl rfl rfl rfl rfl rfl ⟨rfl, rfl, rfl, rfl, rfl⟩ rfl rfl rfl rfl rfl (by kernel_rfl) Try.func8 (by kernel_rfl)
    (of_decide_eq_true (by kernel_rfl)) (by unfold Func.isWrapper; first | (rw [if_pos (by decide +kernel)]; kernel_rfl) | (rw [if_neg (by decide +kernel)]; exact ⟨rfl, rfl⟩))
    (fun os started H enc _ => lifted os started H enc)

/-- THE STATEMENT. -/
theorem proved : Rows.PressSetSaid := over

end Go.Proofs.Ytbblnbolabpfmaa.pressSet
