/-
  The laws' own functions: made, fits, least, members.
-/
import Derived.Test.YtbblnbolabpfmaaPOl
import Derived.Test.YtbblnbolabpfmaaLFl
namespace Go.Proofs.Ytbblnbolabpfmaa
open Go.RowKit
set_option linter.unusedVariables false

/-! ### bits taken away -/
theorem andNot_bits {a b : Nat} (ha : a < 4611686018427387904) (hb : b < 4611686018427387904) : ∃ c : Nat, bAndNot .i64 (a : Int) (b : Int) = (c : Int) ∧ c ≤ a ∧ ∀ i, tb c i = (tb a i && !tb b i) := by
  have hbit : ∀ i, ((BitVec.ofInt 64 (a : Int) &&& ~~~BitVec.ofInt 64 (b : Int)).toNat).testBit i = (a.testBit i && !b.testBit i) := fun i => by
    rw [BitVec.testBit_toNat, BitVec.getLsbD_and, BitVec.getLsbD_not, BitVec.ofInt_natCast, BitVec.ofInt_natCast, BitVec.getLsbD_ofNat, BitVec.getLsbD_ofNat]
    by_cases q : i < 64
    · simp [q]
    · have : a.testBit i = false := Nat.testBit_lt_two_pow (Nat.lt_of_lt_of_le (show a < 2 ^ 64 by rw [p64]; omega) (Nat.pow_le_pow_right (by decide) (by omega)))
      simp [this]
  have hle : (BitVec.ofInt 64 (a : Int) &&& ~~~BitVec.ofInt 64 (b : Int)).toNat ≤ a := by
    have e : (BitVec.ofInt 64 (a : Int) &&& ~~~BitVec.ofInt 64 (b : Int)).toNat = a &&& (BitVec.ofInt 64 (a : Int) &&& ~~~BitVec.ofInt 64 (b : Int)).toNat := Nat.eq_of_testBit_eq fun i => by
      rw [Nat.testBit_and, hbit]; cases a.testBit i <;> rfl
    rw [e]; exact Nat.and_le_left
  refine ⟨_, ?_, hle, hbit⟩
  show IntKind.wrap .i64 ((BitVec.ofInt 64 (a : Int) &&& ~~~BitVec.ofInt 64 (b : Int)).toNat : Int) = _
  exact wrap_i64 (by omega)

theorem tb_ext {a b : Nat} (h : ∀ i, tb a i = tb b i) : a = b := Nat.eq_of_testBit_eq h

/-! ### made -/
def u8p (p : List Int) : Prop := (0 ≤ p.getD 0 0 ∧ p.getD 0 0 ≤ 255) ∧ 0 ≤ p.getD 1 0 ∧ p.getD 1 0 ≤ 255
instance (p : List Int) : Decidable (u8p p) := by unfold u8p; infer_instance
def mk1 (p : List Int) : Od := (1 + p.getD 0 0 % 5, (p.getD 1 0 % 10, ()))
def mkD (d : List (List Int)) : List Od := if d = [] then [(2, (3, ()))] else (d.take 6).map mk1
def B40 (d : List (List Int)) : Option (List Od) := if ∀ p ∈ d, u8p p then some (mkD d) else none

def pairs : List Int → List Od
  | x :: y :: r => (x, (y, ())) :: pairs r
  | _ => []
theorem KB67 : FnOk Try.prog 67 (F67 fun l => if l = [2, 3] then some [(2, (3, ()))] else none) := ok67 _ fun l r h => ⟨5, by
  split at h
  · rename_i e; subst e; rw [← h]; decide
  · cases h⟩

theorem mk1_ok {p : List Int} (h : u8p p) : w64 ((1 : Int) + (Int.tmod (w64 (p.getD 0 0)) 5)) = (mk1 p).1 ∧ Int.tmod (w64 (p.getD 1 0)) 10 = (mk1 p).2.1 := by
  obtain ⟨h1, h2⟩ := h
  have e1 : Int.tmod (p.getD 0 0) 5 = p.getD 0 0 % 5 := Int.tmod_eq_emod_of_nonneg h1.1
  have e2 : Int.tmod (p.getD 1 0) 10 = p.getD 1 0 % 10 := Int.tmod_eq_emod_of_nonneg h2.1
  rw [w64_small (x := p.getD 0 0) (by omega), w64_small (x := p.getD 1 0) (by omega), e1, e2, w64_small (by omega)]
  exact ⟨rfl, rfl⟩

theorem KB40 : FnOk Try.prog 40 (F40 B40) := ok40 _ KB67 B40 fun d r h => ⟨1001, by
  simp only [B40] at h
  split at h
  · rename_i hd
    rw [← h, m40]
    have main := rangeInv (d.take 6) [0, 0] (fun n (o : List Od) t => l40a (fun l => if l = [2, 3] then some [(2, (3, ()))] else none) 1001 d n t o) (fun xs o => o.length + xs.length = (d.take 6).length ∧ o ++ xs.map mk1 = (d.take 6).map mk1 ∧ ∀ p ∈ xs, u8p p) (fun xs o => some (mkD d))
      (fun n o t x rest ht hx hI ih => by
        obtain ⟨h1, h2, h3⟩ := hI
        have hl := List.length_take_le 6 d
        have htd : t < d.length ∧ t < 6 := by rw [List.length_take] at ht; omega
        have hxd : d.getD t [0, 0] = x := by
          rw [← hx, List.getD_eq_getElem?_getD, List.getD_eq_getElem?_getD, List.getElem?_take_of_lt htd.2]
        obtain ⟨e1, e2⟩ := mk1_ok (h3 x (by simp))
        have hsm := small_of (n := o.length + 1) (eb := 16) (by simp only [List.length_cons] at h1; omega) (by decide)
        simp only [l40a, ixA htd.1, ixB htd.1, decide_eq_true (show (t : Int) < 6 by omega), cond_true, chk_true, Int.toNat_natCast, w64_succ (show t < 4611686018427387904 by omega), hxd, hsm, e1, e2]
        exact ih _ ⟨by simp only [List.length_cons, List.length_append, List.length_nil] at *; omega, by rw [← h2]; simp [mk1], fun p hp => h3 p (List.mem_cons_of_mem _ hp)⟩)
      (fun n o hI => by
        obtain ⟨h1, h2, h3⟩ := hI
        have ho : o = (d.take 6).map mk1 := by rw [← h2]; simp
        have hcase : decide ((((d.take 6).length : Nat) : Int) < (d.length : Int)) = false ∨ decide ((((d.take 6).length : Nat) : Int) < 6) = false := by
          rw [List.length_take]
          by_cases q : d.length ≤ 6
          · exact .inl (decide_eq_false (by omega))
          · exact .inr (decide_eq_false (by omega))
        have hend : cond ((o.length : Int) == 0) (((fun l : List Int => if l = [2, 3] then some [((2 : Int), ((3 : Int), ()))] else none) [2, 3]).bind fun r1 => some r1) (some o) = some (mkD d) := by
          unfold mkD
          by_cases q : d = []
          · subst q; subst ho; rfl
          · have : 0 < d.length := List.length_pos_iff.2 q
            have hne : ((o.length : Int) == 0) = false := by
              rw [ho, List.length_map, List.length_take]; simp; omega
            rw [if_neg q, hne, cond_false, ho]
        rcases hcase with q | q
        · simp only [l40a, q, cond_false]; exact hend
        · simp only [l40a, q, cond_false]
          cases decide ((((d.take 6).length : Nat) : Int) < (d.length : Int))
          · exact hend
          · exact hend) 1001 [] (by have := List.length_take_le 6 d; omega) ⟨by simp, by simp, fun p hp => hd p (List.mem_of_mem_take hp)⟩
    exact main
  · cases h⟩

/-- A desk's orders. -/
structure Dk (l : List Od) : Prop where
  pos : 0 < l.length
  len : l.length ≤ 6
  all : ∀ o ∈ l, (1 ≤ o.1 ∧ o.1 ≤ 5) ∧ 0 ≤ o.2.1 ∧ o.2.1 ≤ 9
theorem mkD_ok (d : List (List Int)) : Dk (mkD d) := by
  unfold mkD
  split
  · exact ⟨by simp, by simp, fun o ho => by rcases List.mem_singleton.1 ho with rfl; decide⟩
  · rename_i q
    have : 0 < d.length := List.length_pos_iff.2 q
    refine ⟨by rw [List.length_map, List.length_take]; omega, by rw [List.length_map]; exact List.length_take_le 6 d, fun o ho => ?_⟩
    obtain ⟨p, hp, rfl⟩ := List.mem_map.1 ho
    show (1 ≤ 1 + p.getD 0 0 % 5 ∧ 1 + p.getD 0 0 % 5 ≤ 5) ∧ 0 ≤ p.getD 1 0 % 10 ∧ p.getD 1 0 % 10 ≤ 9
    omega
theorem ck_of {l : List Od} (h1 : 0 < l.length) (h2 : l.length ≤ 12) (h3 : ∀ o ∈ l, (1 ≤ o.1 ∧ o.1 ≤ 30) ∧ 0 ≤ o.2.1 ∧ o.2.1 ≤ 10000) : ckO l = 0 := by
  have e : l.any badO = false := List.any_eq_false.2 fun o ho => by
    have := h3 o ho
    simp only [badO, decide_eq_true this.1, decide_eq_true this.2]; decide
  rw [ckO, e, decide_eq_false (by omega), decide_eq_false (by omega)]; rfl
theorem Dk.ck {l : List Od} (h : Dk l) : ckO l = 0 := ck_of h.pos (by have := h.len; omega) fun o ho => by have := h.all o ho; omega
theorem Dk.ok {l : List Od} (h : Dk l) : OkO l := ckO_ok h.ck
theorem Dk.six {l : List Od} (h : Dk l) : Ok6 l := h.ok.six

/-! ### fits -/
def dayR (rec : Nat → Bool × Nat) : Nat → Nat → Nat → Bool × Nat
  | 0, _, U => (false, U)
  | q + 1, d, U => cond (tb U d) (dayR rec q (d + 1) U) (cond (rec (U ||| 2 ^ d)).1 (true, (rec (U ||| 2 ^ d)).2) (dayR rec q (d + 1) U))
def tryR (dy : Nat → Nat) (S : Nat → Bool) : Nat → Nat → Nat → Bool × Nat
  | 0, _, U => (true, U)
  | m + 1, i, U => cond (S i) (dayR (fun V => tryR dy S m (i + 1) V) (dy i) 1 U) (tryR dy S m (i + 1) U)

theorem dayR_back {rec : Nat → Bool × Nat} : ∀ {q d U : Nat}, (dayR rec q d U).1 = false → (dayR rec q d U).2 = U
  | 0, d, U, _ => rfl
  | q + 1, d, U, h => by
    rw [dayR] at h ⊢
    cases h1 : tb U d with
    | true => rw [h1] at h; exact dayR_back h
    | false =>
      rw [h1, cond_false] at h
      rw [cond_false]
      cases h2 : (rec (U ||| 2 ^ d)).1 with
      | true => rw [h2] at h; cases h
      | false => rw [h2, cond_false] at h; exact dayR_back h
theorem tryR_back {dy : Nat → Nat} {S : Nat → Bool} : ∀ {m i U : Nat}, (tryR dy S m i U).1 = false → (tryR dy S m i U).2 = U
  | 0, i, U, h => by cases h
  | m + 1, i, U, h => by
    rw [tryR] at h ⊢
    cases h1 : S i with
    | true => rw [h1] at h; exact dayR_back h
    | false => rw [h1] at h; exact tryR_back h

/-- Days for the orders of a set from i on, all different, and none that is used. -/
structure Asg (dy : Nat → Nat) (S : Nat → Bool) (U : Nat) (m i : Nat) (g : Nat → Nat) : Prop where
  day : ∀ j, i ≤ j → j < i + m → S j = true → 1 ≤ g j ∧ g j ≤ dy j ∧ tb U (g j) = false
  inj : ∀ j k, i ≤ j → j < i + m → i ≤ k → k < i + m → S j = true → S k = true → g j = g k → j = k

theorem dayR_iff {rec : Nat → Bool × Nat} : ∀ {q d U : Nat}, (dayR rec q d U).1 = true ↔ ∃ e, d ≤ e ∧ e < d + q ∧ tb U e = false ∧ (rec (U ||| 2 ^ e)).1 = true
  | 0, d, U => by
    rw [dayR]
    constructor
    · intro h; cases h
    · rintro ⟨e, h1, h2, _⟩; omega
  | q + 1, d, U => by
    have ih := dayR_iff (rec := rec) (q := q) (d := d + 1) (U := U)
    rw [dayR]
    cases h1 : tb U d with
    | true =>
      rw [cond_true, ih]
      constructor
      · rintro ⟨e, a, b, c⟩; exact ⟨e, by omega, by omega, c⟩
      · rintro ⟨e, a, b, c⟩
        refine ⟨e, ?_, by omega, c⟩
        by_cases q : e = d
        · subst q; rw [h1] at c; exact absurd c.1 (by decide)
        · omega
    | false =>
      rw [cond_false]
      cases h2 : (rec (U ||| 2 ^ d)).1 with
      | true => exact ⟨fun _ => ⟨d, by omega, by omega, h1, h2⟩, fun _ => rfl⟩
      | false =>
        rw [cond_false, ih]
        constructor
        · rintro ⟨e, a, b, c⟩; exact ⟨e, by omega, by omega, c⟩
        · rintro ⟨e, a, b, c⟩
          refine ⟨e, ?_, by omega, c⟩
          by_cases q : e = d
          · subst q; rw [h2] at c; exact absurd c.2 (by decide)
          · omega


theorem tryR_iff {dy : Nat → Nat} {S : Nat → Bool} : ∀ {m i U : Nat}, (tryR dy S m i U).1 = true ↔ ∃ g, Asg dy S U m i g
  | 0, i, U => ⟨fun _ => ⟨fun _ => 0, fun j h1 h2 => by omega, fun j k h1 h2 => by omega⟩, fun _ => rfl⟩
  | m + 1, i, U => by
    rw [tryR]
    cases hS : S i with
    | false =>
      rw [cond_false, tryR_iff]
      constructor
      · rintro ⟨g, a, b⟩
        refine ⟨g, fun j h1 h2 h3 => a j ?_ (by omega) h3, fun j k h1 h2 h3 h4 h5 h6 => b j k ?_ (by omega) ?_ (by omega) h5 h6⟩
        · by_cases q : j = i
          · subst q; rw [hS] at h3; cases h3
          · omega
        · by_cases q : j = i
          · subst q; rw [hS] at h5; cases h5
          · omega
        · by_cases q : k = i
          · subst q; rw [hS] at h6; cases h6
          · omega
      · rintro ⟨g, a, b⟩
        exact ⟨g, fun j h1 h2 h3 => a j (by omega) (by omega) h3, fun j k h1 h2 h3 h4 h5 h6 => b j k (by omega) (by omega) (by omega) (by omega) h5 h6⟩
    | true =>
      rw [cond_true, dayR_iff]
      constructor
      · rintro ⟨e, h1, h2, h3, h4⟩
        obtain ⟨g, a, b⟩ := tryR_iff.1 h4
        have key : ∀ j, i + 1 ≤ j → j < i + 1 + m → S j = true → g j ≠ e ∧ tb U (g j) = false := fun j h1 h2 h3 => by
          have := (a j h1 h2 h3).2.2
          rw [tb_or, tb_pow, Bool.or_eq_false_iff, decide_eq_false_iff_not] at this
          exact ⟨fun q => this.2 q.symm, this.1⟩
        refine ⟨fun j => if j = i then e else g j, fun j h5 h6 h7 => ?_, fun j k h5 h6 h7 h8 h9 h10 h11 => ?_⟩
        · by_cases q : j = i
          · subst q
            simp only [if_pos]
            exact ⟨by omega, by omega, h3⟩
          · simp only [if_neg q]
            have := a j (by omega) (by omega) h7
            exact ⟨this.1, this.2.1, (key j (by omega) (by omega) h7).2⟩
        · by_cases q : j = i
          · by_cases q2 : k = i
            · omega
            · simp only [if_pos q, if_neg q2] at h11
              exact absurd h11.symm (key k (by omega) (by omega) h10).1
          · by_cases q2 : k = i
            · simp only [if_neg q, if_pos q2] at h11
              exact absurd h11 (key j (by omega) (by omega) h9).1
            · simp only [if_neg q, if_neg q2] at h11
              exact b j k (by omega) (by omega) (by omega) (by omega) h9 h10 h11
      · rintro ⟨g, a, b⟩
        have hi := a i (by omega) (by omega) hS
        refine ⟨g i, by omega, by omega, hi.2.2, tryR_iff.2 ⟨g, fun j h1 h2 h3 => ?_, fun j k h1 h2 h3 h4 h5 h6 => b j k (by omega) (by omega) (by omega) (by omega) h5 h6⟩⟩
        have hj := a j (by omega) (by omega) h3
        refine ⟨hj.1, hj.2.1, ?_⟩
        rw [tb_or, tb_pow, hj.2.2, Bool.false_or]
        refine decide_eq_false fun q => ?_
        have := b i j (by omega) (by omega) (by omega) (by omega) hS h3 q
        omega

/-- At most one. -/
theorem cnt_le1 {q : Nat → Bool} : ∀ {n : Nat}, (∀ j k, j < n → k < n → q j = true → q k = true → j = k) → cnt q n ≤ 1
  | 0, _ => by simp [cnt]
  | n + 1, h => by
    rw [cnt]
    have ih := cnt_le1 (n := n) fun j k h1 h2 => h j k (by omega) (by omega)
    cases hq : q n with
    | false => simpa using ih
    | true =>
      have : cnt q n = 0 := cnt_zero fun i hi => by
        cases hqi : q i with
        | false => rfl
        | true => have := h i n (by omega) (by omega) hqi hq; omega
      rw [this]; simp

/-- Different numbers from 1 to d: at most d. -/
theorem cnt_inj {p : Nat → Bool} {g : Nat → Nat} {n : Nat} (h1 : ∀ j, j < n → p j = true → 1 ≤ g j) (hi : ∀ j k, j < n → k < n → p j = true → p k = true → g j = g k → j = k) : ∀ d, cnt (fun j => p j && decide (g j ≤ d)) n ≤ d
  | 0 => by
    rw [cnt_zero fun j hj => by
      cases hp : p j with
      | false => rfl
      | true => have := h1 j hj hp; rw [decide_eq_false (by omega)]; rfl]
    exact Nat.le_refl _
  | d + 1 => by
    have ih := cnt_inj h1 hi d
    have e : cnt (fun j => p j && decide (g j ≤ d + 1)) n = cnt (fun j => (p j && decide (g j ≤ d)) || (p j && decide (g j = d + 1))) n := cnt_congr fun j _ => by
      cases p j with
      | false => rfl
      | true =>
        simp only [Bool.true_and]
        rcases Nat.lt_trichotomy (g j) (d + 1) with q | q | q
        · rw [decide_eq_true (show g j ≤ d + 1 by omega), decide_eq_true (show g j ≤ d by omega)]; rfl
        · rw [decide_eq_true (show g j ≤ d + 1 by omega), decide_eq_true q]; simp
        · rw [decide_eq_false (show ¬ g j ≤ d + 1 by omega), decide_eq_false (show ¬ g j ≤ d by omega), decide_eq_false (show ¬ g j = d + 1 by omega)]; rfl
    rw [e, cnt_or]
    · have : cnt (fun j => p j && decide (g j = d + 1)) n ≤ 1 := cnt_le1 fun j k hj hk a b => by
        simp only [Bool.and_eq_true, decide_eq_true_eq] at a b
        exact hi j k hj hk a.1 b.1 (by omega)
      omega
    · intro j _ hj
      simp only [Bool.and_eq_true, decide_eq_true_eq] at hj
      rw [decide_eq_false (show ¬ g j = d + 1 by omega), Bool.and_false]

/-- Days for all of a set: just if it is possible. -/
theorem asg_pos {dy : Nat → Nat} {S : Nat → Bool} {n : Nat} {g : Nat → Nat} (h1 : ∀ j, j < n → S j = true → 1 ≤ g j ∧ g j ≤ dy j) (hi : ∀ j k, j < n → k < n → S j = true → S k = true → g j = g k → j = k) : Pos dy n S := fun d => by
  refine Nat.le_trans (cnt_le fun j hj hp => ?_) (cnt_inj (fun j hj hp => (h1 j hj hp).1) hi d)
  simp only [Bool.and_eq_true, decide_eq_true_eq] at hp ⊢
  exact ⟨hp.1, by have := (h1 j hj hp.1).2; omega⟩

/-- Who comes before by days. -/
def bfd (dy : Nat → Nat) (i j : Nat) : Bool := decide (dy i < dy j) || (decide (dy i = dy j) && decide (i < j))
def rnk (dy : Nat → Nat) (n : Nat) (S : Nat → Bool) (j : Nat) : Nat := cnt (fun i => S i && bfd dy i j) n + 1

theorem rnk_le {dy : Nat → Nat} {S : Nat → Bool} {n : Nat} (hp : Pos dy n S) {j : Nat} (hj : j < n) (hS : S j = true) : rnk dy n S j ≤ dy j := by
  refine Nat.le_trans ?_ (hp (dy j))
  have h1 : cnt (fun i => S i && bfd dy i j) n + cnt (fun i => S i && (i == j)) n ≤ by_ dy n S (dy j) := by
    rw [← cnt_or]
    · refine cnt_le fun i hi hq => ?_
      simp only [bfd, Bool.or_eq_true, Bool.and_eq_true, decide_eq_true_eq, beq_iff_eq] at hq ⊢
      rcases hq with ⟨a, b⟩ | ⟨a, b⟩
      · exact ⟨a, by omega⟩
      · subst b; exact ⟨a, Nat.le_refl _⟩
    · intro i _ hq
      simp only [bfd, Bool.or_eq_true, Bool.and_eq_true, decide_eq_true_eq] at hq
      cases e : i == j with
      | false => simp
      | true => have : i = j := by simpa using e
                subst this; omega
  rw [cnt_one, if_pos ⟨hj, hS⟩] at h1
  exact h1

theorem rnk_lt {dy : Nat → Nat} {S : Nat → Bool} {n : Nat} {j k : Nat} (hj : j < n) (hS : S j = true) (hb : bfd dy j k = true) : rnk dy n S j < rnk dy n S k := by
  have h1 : cnt (fun i => S i && bfd dy i j) n + cnt (fun i => S i && (i == j)) n ≤ cnt (fun i => S i && bfd dy i k) n := by
    rw [← cnt_or]
    · refine cnt_le fun i hi hq => ?_
      simp only [bfd, Bool.or_eq_true, Bool.and_eq_true, decide_eq_true_eq, beq_iff_eq] at hq hb ⊢
      rcases hq with ⟨a, b⟩ | ⟨a, b⟩
      · exact ⟨a, by omega⟩
      · subst b; exact ⟨a, hb⟩
    · intro i _ hq
      simp only [bfd, Bool.or_eq_true, Bool.and_eq_true, decide_eq_true_eq] at hq
      cases e : i == j with
      | false => simp
      | true => have : i = j := by simpa using e
                subst this; omega
  rw [cnt_one, if_pos ⟨hj, hS⟩] at h1
  unfold rnk; omega

theorem hall {dy : Nat → Nat} {S : Nat → Bool} {n : Nat} : (tryR dy S n 0 0).1 = true ↔ Pos dy n S := by
  rw [tryR_iff]
  constructor
  · rintro ⟨g, a, b⟩
    exact asg_pos (g := g) (fun j hj hS => by have := a j (by omega) (by omega) hS; exact ⟨this.1, this.2.1⟩) fun j k hj hk h1 h2 h3 => b j k (by omega) (by omega) (by omega) (by omega) h1 h2 h3
  · intro hp
    refine ⟨rnk dy n S, fun j h1 h2 h3 => ⟨by unfold rnk; omega, rnk_le hp (by omega) h3, tb_0 _⟩, fun j k h1 h2 h3 h4 h5 h6 h7 => ?_⟩
    refine Classical.byContradiction fun hne => ?_
    have : bfd dy j k = true ∨ bfd dy k j = true := by
      simp only [bfd, Bool.or_eq_true, Bool.and_eq_true, decide_eq_true_eq]; omega
    rcases this with q | q
    · have := rnk_lt (S := S) (n := n) (by omega) h5 q; omega
    · have := rnk_lt (S := S) (n := n) (by omega) h6 q; omega

def usd (U : Int) : Prop := 0 ≤ U ∧ U < 2305843009213693952
instance (k : Int) : Decidable (usd k) := by unfold usd; infer_instance
theorem p61 : (2 : Nat) ^ 61 = 2305843009213693952 := by decide

def B69 (m : Nat) (i : Int) (l : List Od) (k U : Int) : Option (Bool × List Od × Int × Int) :=
  if Ok6 l ∧ mok k ∧ usd U ∧ 0 ≤ i ∧ i ≤ (l.length : Int) ∧ l.length - i.toNat < m then some ((tryR (dyl l) (tb k.toNat) (l.length - i.toNat) i.toNat U.toNat).1, l, k, ((tryR (dyl l) (tb k.toNat) (l.length - i.toNat) i.toNat U.toNat).2 : Nat)) else none

theorem KB69 : ∀ m, FnOk Try.prog 69 (F69c (B69 m))
  | 0 => by
    intro args Of x hx
    simp only [F69c] at hx
    split at hx
    · rw [B69, if_neg (fun h => by have := h.2.2.2.2.2; omega)] at hx; cases hx
    · cases hx
  | m + 1 => ok69c (B69 m) (KB69 m) (B69 (m + 1)) fun i l k U r h => ⟨100, by
    simp only [B69] at h
    split at h
    · rename_i hh
      obtain ⟨hl, ⟨hk0, hk1⟩, ⟨hU0, hU1⟩, hi0, hi1, hm⟩ := hh
      obtain ⟨i, rfl⟩ : ∃ j : Nat, i = j := ⟨i.toNat, by omega⟩
      obtain ⟨k, rfl⟩ : ∃ j : Nat, k = j := ⟨k.toNat, by omega⟩
      obtain ⟨U, rfl⟩ : ∃ j : Nat, U = j := ⟨U.toNat, by omega⟩
      simp only [Int.toNat_natCast] at h hm
      have hlen := hl.len
      rw [← h, m69c]
      by_cases he : i = l.length
      · subst he
        rw [show (((l.length : Nat) : Int) == (l.length : Int)) = true by simp, cond_true, Nat.sub_self]; rfl
      · have hi : i < l.length := by omega
        have hne : ((i : Int) == (l.length : Int)) = false := by simp; omega
        obtain ⟨q, hq⟩ : ∃ q, l.length - i = q + 1 := ⟨l.length - i - 1, by omega⟩
        have hb := bit0_i64 (s := k) (by omega) (show i ≤ 64 by omega)
        have hrec : ∀ V : Nat, V < 2305843009213693952 → B69 m ((i + 1 : Nat) : Int) l (k : Int) (V : Int) = some ((tryR (dyl l) (tb k) q (i + 1) V).1, l, (k : Int), (((tryR (dyl l) (tb k) q (i + 1) V).2 : Nat) : Int)) := fun V hV => by
          rw [B69, if_pos ⟨hl, ⟨by omega, by omega⟩, ⟨by omega, by omega⟩, by omega, by omega, by simp only [Int.toNat_natCast]; omega⟩]
          simp only [Int.toNat_natCast]
          rw [show l.length - (i + 1) = q by omega]
        rw [hne, cond_false, decide_eq_true (show (0 : Int) ≤ (i : Int) by omega), chk_true, hb, hq, tryR]
        rw [show k.testBit i = tb k i from rfl]
        cases hki : tb k i with
        | false =>
          rw [Bool.not_false, cond_true, w64_succ (by omega), hrec U (by omega), Option.bind_some, cond_false]
        | true =>
          rw [Bool.not_true, cond_false, cond_true]
          have hdy := hl.dy hi
          have hge : l.getD i d3 = l[i] := by simp [List.getD, List.getElem?_eq_getElem hi]
          have hall := hl.all _ (List.getElem_mem hi)
          have hday : (l.getD i ((0 : Int), ((0 : Int), ()))).1 = ((dyl l i : Nat) : Int) := by
            show (l.getD i d3).1 = _
            rw [dyl, hge]; omega
          have loop : ∀ (p d n : Nat), d + p = dyl l i + 1 → 1 ≤ d → p < n → l69ca (B69 m) 100 (i : Int) n (d : Int) l (U : Int) (k : Int) = some ((dayR (fun V => tryR (dyl l) (tb k) q (i + 1) V) p d U).1, l, (k : Int), (((dayR (fun V => tryR (dyl l) (tb k) q (i + 1) V) p d U).2 : Nat) : Int)) := by
            intro p
            induction p with
            | zero =>
              intro d n e h1 hn
              obtain ⟨n, rfl⟩ : ∃ m, n = m + 1 := ⟨n - 1, by omega⟩
              simp only [l69ca, ixB hi, chk_true, Int.toNat_natCast, hday, decide_eq_false (show ¬ (d : Int) ≤ ((dyl l i : Nat) : Int) by omega), cond_false, dayR]
            | succ p ih =>
              intro d n e h1 hn
              obtain ⟨n, rfl⟩ : ∃ m, n = m + 1 := ⟨n - 1, by omega⟩
              have ih := ih (d + 1) n (by omega) (by omega) (by omega)
              have hbU := bit0_i64 (s := U) (by omega) (show d ≤ 64 by omega)
              have hone := one_i64 (c := d) (by omega)
              have hpd : 2 ^ d < 2 ^ 61 := Nat.pow_lt_pow_right (by decide) (by omega)
              rw [p61] at hpd
              have hor := bOr_i64 (a := U) (b := 2 ^ d) (by omega) (by omega)
              have hV : U ||| 2 ^ d < 2305843009213693952 := by
                have := Nat.or_lt_two_pow (n := 61) (x := U) (y := 2 ^ d) (by rw [p61]; omega) (by rw [p61]; exact hpd)
                rw [p61] at this; exact this
              rw [Int.toNat_natCast] at hbU hone
              simp only [l69ca, ixB hi, chk_true, Int.toNat_natCast, hday, decide_eq_true (show (d : Int) ≤ ((dyl l i : Nat) : Int) by omega), decide_eq_true (show (0 : Int) ≤ (d : Int) by omega), cond_true, hbU, hone, hor, w64_succ (show i < 4611686018427387904 by omega), w64_succ (show d < 4611686018427387904 by omega), hrec _ hV, Option.bind_some, dayR]
              rw [show U.testBit d = tb U d from rfl]
              cases hUd : tb U d with
              | true => rw [Bool.not_true, cond_false, cond_true]; exact ih
              | false =>
                rw [Bool.not_false, cond_true, cond_false]
                cases ht : (tryR (dyl l) (tb k) q (i + 1) (U ||| 2 ^ d)).1 with
                | true => rw [cond_true, cond_true]
                | false =>
                  rw [cond_false, cond_false, tryR_back ht]
                  obtain ⟨c, c1, c2, c3⟩ := andNot_bits (a := U ||| 2 ^ d) (b := 2 ^ d) (by omega) (by omega)
                  have : c = U := tb_ext fun j => by
                    rw [c3, tb_or, tb_pow]
                    by_cases q : d = j
                    · subst q; rw [hUd]; simp
                    · rw [decide_eq_false q]; simp
                  rw [c1, this]; exact ih
          exact loop (dyl l i) 1 100 (by omega) (by omega) (by omega)
    · cases h⟩

theorem psm_hall {l : List Od} (h : Ok6 l) (k : Nat) : (tryR (dyl l) (tb k) l.length 0 0).1 = psm l k := by
  rw [Bool.eq_iff_iff, psm_iff h, hall]

def B42 (l : List Od) (k : Int) : Option Bool := if Ok6 l ∧ mok k then some (psm l k.toNat) else none
theorem KB42 : FnOk Try.prog 42 (F42 B42) := ok42 (B69 13) (KB69 13) B42 fun l k r h => ⟨0, by
  simp only [B42] at h
  split at h
  · rename_i hh
    obtain ⟨hl, hk⟩ := hh
    have hlen := hl.len
    have hb : B69 13 0 l k 0 = some ((tryR (dyl l) (tb k.toNat) l.length 0 0).1, l, k, (((tryR (dyl l) (tb k.toNat) l.length 0 0).2 : Nat) : Int)) := by
      rw [B69, if_pos ⟨hl, hk, by unfold usd; omega, by omega, by omega, by simp; omega⟩]; rfl
    rw [← h, m42, hb, Option.bind_some, psm_hall hl]
  · cases h⟩

/-! ### fines and least -/
def B68 (l : List Od) (k : Int) : Option Int := if Ok6 l ∧ mok k then some (fim l k.toNat) else none
theorem KB68 : FnOk Try.prog 68 (F68 B68) := ok68 B68 fun l k r h => ⟨100, by
  simp only [B68] at h
  split at h
  · rename_i hh
    obtain ⟨hl, hk0, hk1⟩ := hh
    obtain ⟨k, rfl⟩ : ∃ j : Nat, k = j := ⟨k.toNat, by omega⟩
    have hlen := hl.len
    rw [← h, m68, Int.toNat_natCast]
    exact rangeIx l d3 (fun n (c : Int) t => l68a 100 l (k : Int) n c t) (fun t xs c => t ≤ l.length ∧ c = ws (fnl l) (fun i => !tb k i) t) (fun t xs c => some (fim l k))
      (fun n c t x rest ht hx hI ih => by
        obtain ⟨h1, rfl⟩ := hI
        have hb := bit0_i64 (s := k) (by omega) (show t ≤ 64 by omega)
        rw [Int.toNat_natCast] at hb
        obtain ⟨r1, r2⟩ := ws_rng (f := fnl l) (p := fun i => !tb k i) (n := t) fun i hi => hl.fn (show i < l.length by omega)
        have hft := hl.fn ht
        have hg : ∀ c', c' = ws (fnl l) (fun i => !tb k i) (t + 1) → l68a 100 l (k : Int) n c' ((t + 1 : Nat) : Int) = _ := fun c' hc' => ih c' ⟨by omega, hc'⟩
        simp only [ws] at hg
        simp only [l68a, ixA ht, ixB ht, decide_eq_true (show (0 : Int) ≤ (t : Int) by omega), cond_true, chk_true, hb, Int.toNat_natCast, ixW ht (by omega)]
        rw [show k.testBit t = tb k t from rfl]
        have hf : (l.getD t ((0 : Int), ((0 : Int), ()))).2.1 = fnl l t := rfl
        rw [hf]
        cases h1 : tb k t with
        | true => simp only [Bool.not_true, cond_false]; exact hg _ (by simp [h1])
        | false => simp only [Bool.not_false, cond_true]; rw [w64_small (by omega)]; exact hg _ (by simp [h1]))
      (fun n c hI => by
        obtain ⟨h1, rfl⟩ := hI
        simp only [l68a, ixE, cond_false]; rfl) 100 0 (by omega) ⟨by omega, rfl⟩
  · cases h⟩

def B41 (l : List Od) : Option (Int × List Int) := if Ok6 l then some (leastO l, (bests l).map Int.ofNat) else none
theorem KB41 : FnOk Try.prog 41 (F41 B41) := ok41 B42 B68 KB42 KB68 B41 fun l r h => ⟨5000, by
  simp only [B41] at h
  split at h
  · rename_i hl
    have hlen := hl.len
    have hp := pow_12 hlen
    have h1 : B68 l 0 = some (fim l 0) := if_pos ⟨hl, by unfold mok; omega⟩
    have hpow : IntKind.wrap .i64 ((1 : Int) * 2 ^ min (Int.toNat (l.length : Int)) 64) = ((2 ^ l.length : Nat) : Int) := one_i64 (by omega)
    have main : ∀ (m k n : Nat), k + m = 2 ^ l.length → m < n → l41a B42 B68 5000 l n (bst l k).1 (k : Int) (bst l k).2 = some (bst l (2 ^ l.length)) := by
      intro m
      induction m with
      | zero =>
        intro k n e hn
        obtain ⟨n, rfl⟩ : ∃ m, n = m + 1 := ⟨n - 1, by omega⟩
        have : k = 2 ^ l.length := by omega
        subst this
        simp only [l41a, decide_eq_true (show (0 : Int) ≤ (l.length : Int) by omega), chk_true, hpow, ixE, cond_false]
      | succ m ih =>
        intro k n e hn
        obtain ⟨n, rfl⟩ : ∃ m, n = m + 1 := ⟨n - 1, by omega⟩
        have hk : k < 2 ^ l.length := by omega
        have ih := ih (k + 1) n (by omega) (by omega)
        have b1 : B68 l (k : Int) = some (fim l k) := if_pos ⟨hl, by unfold mok; omega⟩
        have b2 : B42 l (k : Int) = some (psm l k) := if_pos ⟨hl, by unfold mok; omega⟩
        have hs := small_of (n := (bst l k).2.length + 1) (eb := 8) (by have := bst_len l k; omega) (by decide)
        have hnn := ofm_nn hl k
        simp only [l41a, decide_eq_true (show (0 : Int) ≤ (l.length : Int) by omega), chk_true, hpow, ixA hk, cond_true, b1, b2, Option.bind_some, ixW hk (by omega), hs]
        rw [bst] at ih
        by_cases q1 : (bst l k).1 < fim l k
        · rw [if_pos q1] at ih
          rw [decide_eq_true (show fim l k > (bst l k).1 from q1), cond_true]; exact ih
        · rw [if_neg q1] at ih
          rw [decide_eq_false (show ¬ fim l k > (bst l k).1 from q1), cond_false]
          by_cases q2 : 0 < ofm l k
          · rw [if_pos q2] at ih
            have : psm l k = false := decide_eq_false (by omega)
            rw [this, Bool.not_false, cond_true]; exact ih
          · rw [if_neg q2] at ih
            have : psm l k = true := decide_eq_true (by omega)
            rw [this, Bool.not_true, cond_false]
            by_cases q3 : fim l k < (bst l k).1
            · rw [if_pos q3] at ih
              rw [decide_eq_true q3, cond_true]; exact ih
            · rw [if_neg q3] at ih
              rw [decide_eq_false q3, cond_false]; exact ih
    rw [← h, m41, h1, Option.bind_some, ← bst_bests hl]
    exact main (2 ^ l.length) 0 5000 (by omega) (by omega)
  · cases h⟩

/-! ### members -/
def B43 (k : Int) : Option (List Int) := if mok k then some (lstM k.toNat) else none
theorem KB43 : FnOk Try.prog 43 (F43 B43) := ok43 B43 fun k r h => ⟨100, by
  simp only [B43] at h
  split at h
  · rename_i hk
    obtain ⟨hk0, hk1⟩ := hk
    obtain ⟨k, rfl⟩ : ∃ j : Nat, k = j := ⟨k.toNat, by omega⟩
    rw [← h, m43, Int.toNat_natCast]
    have main : ∀ (m t n : Nat) (out : List Int), t + m = 12 → m < n → out.length ≤ t → l43a 100 (k : Int) n (t : Int) out = some (out ++ lstF (tb k) m t) := by
      intro m
      induction m with
      | zero =>
        intro t n out e hn ho
        obtain ⟨n, rfl⟩ : ∃ m, n = m + 1 := ⟨n - 1, by omega⟩
        simp only [l43a, decide_eq_false (show ¬ (t : Int) < 12 by omega), cond_false, lstF, List.append_nil]
      | succ m ih =>
        intro t n out e hn ho
        obtain ⟨n, rfl⟩ : ∃ m, n = m + 1 := ⟨n - 1, by omega⟩
        have hb := bit_i64 (s := k) (by omega) (show t ≤ 64 by omega)
        rw [Int.toNat_natCast] at hb
        have hs := small_of (n := out.length + 1) (eb := 8) (by omega) (by decide)
        simp only [l43a, decide_eq_true (show (t : Int) < 12 by omega), decide_eq_true (show (0 : Int) ≤ (t : Int) by omega), cond_true, chk_true, hb, Int.toNat_natCast, w64_succ (show t < 4611686018427387904 by omega), hs, lstF]
        rw [ih (t + 1) n (out ++ [(t : Int)]) (by omega) (by omega) (by simp; omega), ih (t + 1) n out (by omega) (by omega) (by omega)]
        show cond (tb k t) _ _ = _
        cases tb k t <;> simp
    exact main 12 0 100 [] rfl (by omega) (by simp)
  · cases h⟩

end Go.Proofs.Ytbblnbolabpfmaa
