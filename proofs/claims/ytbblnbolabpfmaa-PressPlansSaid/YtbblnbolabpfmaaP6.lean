/-
  Masks: the reference's sets, and its best sets.
-/
import Derived.Test.YtbblnbolabpfmaaP5
namespace Go.Proofs.Ytbblnbolabpfmaa
open Go.RowKit
set_option linter.unusedVariables false

/-! ### bits -/
theorem wrap_i64 {n : Nat} (h : n < 9223372036854775808) : IntKind.wrap .i64 (n : Int) = n := w64_nat h
theorem or_bits (k a b : Nat) (ha : a < 2 ^ k) (hb : b < 2 ^ k) : ((BitVec.ofInt k (a : Int)) ||| (BitVec.ofInt k (b : Int))).toNat = a ||| b := by
  rw [BitVec.ofInt_natCast, BitVec.ofInt_natCast, BitVec.toNat_or, BitVec.toNat_ofNat, BitVec.toNat_ofNat, Nat.mod_eq_of_lt ha, Nat.mod_eq_of_lt hb]
theorem and_bits (k a b : Nat) (ha : a < 2 ^ k) (hb : b < 2 ^ k) : ((BitVec.ofInt k (a : Int)) &&& (BitVec.ofInt k (b : Int))).toNat = a &&& b := by
  rw [BitVec.ofInt_natCast, BitVec.ofInt_natCast, BitVec.toNat_and, BitVec.toNat_ofNat, BitVec.toNat_ofNat, Nat.mod_eq_of_lt ha, Nat.mod_eq_of_lt hb]
theorem p62 : (2 : Nat) ^ 62 = 4611686018427387904 := by decide
theorem p64 : (2 : Nat) ^ 64 = 18446744073709551616 := by decide
theorem bOr_i64 {a b : Nat} (ha : a < 4611686018427387904) (hb : b < 4611686018427387904) : bOr .i64 (a : Int) (b : Int) = ((a ||| b : Nat) : Int) := by
  have h : a ||| b < 2 ^ 62 := Nat.or_lt_two_pow (by rw [p62]; exact ha) (by rw [p62]; exact hb)
  rw [p62] at h
  have e := or_bits 64 a b (by rw [p64]; omega) (by rw [p64]; omega)
  show IntKind.wrap .i64 ((((BitVec.ofInt 64 (a : Int)) ||| (BitVec.ofInt 64 (b : Int))).toNat : Nat) : Int) = _
  rw [e]
  exact wrap_i64 (by omega)
theorem bAnd_i64 {a b : Nat} (ha : a < 4611686018427387904) (hb : b < 4611686018427387904) : bAnd .i64 (a : Int) (b : Int) = ((a &&& b : Nat) : Int) := by
  have h : a &&& b < 2 ^ 62 := Nat.and_lt_two_pow a (by rw [p62]; exact hb)
  rw [p62] at h
  have e := and_bits 64 a b (by rw [p64]; omega) (by rw [p64]; omega)
  show IntKind.wrap .i64 ((((BitVec.ofInt 64 (a : Int)) &&& (BitVec.ofInt 64 (b : Int))).toNat : Nat) : Int) = _
  rw [e]
  exact wrap_i64 (by omega)
theorem pow_cast (c : Nat) : ((2 : Int) ^ c) = ((2 ^ c : Nat) : Int) := by simp
theorem fdiv_pow (s c : Nat) : Int.fdiv (s : Int) ((2 : Int) ^ c) = ((s / 2 ^ c : Nat) : Int) := by
  rw [pow_cast, Int.fdiv_eq_ediv_of_nonneg _ (Int.natCast_nonneg _), Int.natCast_ediv]
theorem bit_of (s c : Nat) : ((((s / 2 ^ c &&& 1 : Nat)) : Int) == 1) = s.testBit c := by
  rw [Nat.and_one_is_mod, Nat.testBit_eq_decide_div_mod_eq]
  by_cases h : s / 2 ^ c % 2 = 1
  · simp [h]
  · have : s / 2 ^ c % 2 = 0 := by omega
    simp [this]
theorem bit_i64 {s c : Nat} (hs : s < 4611686018427387904) (hc : c ≤ 64) : ((bAnd .i64 (Int.fdiv (s : Int) (2 ^ min (Int.toNat (c : Int)) 64)) 1) == 1) = s.testBit c := by
  rw [Int.toNat_natCast, Nat.min_eq_left hc, fdiv_pow]
  have h := bAnd_i64 (a := s / 2 ^ c) (b := 1) (Nat.lt_of_le_of_lt (Nat.div_le_self _ _) hs) (by decide)
  rw [show ((1 : Nat) : Int) = 1 from rfl] at h
  rw [h]; exact bit_of s c
theorem one_i64 {c : Nat} (hc : c < 62) : IntKind.wrap .i64 (1 * 2 ^ min (Int.toNat (c : Int)) 64) = ((2 ^ c : Nat) : Int) := by
  rw [Int.toNat_natCast, Nat.min_eq_left (by omega), Int.one_mul, pow_cast]
  have h : 2 ^ c < 2 ^ 62 := Nat.pow_lt_pow_right (by decide) hc
  rw [p62] at h
  exact wrap_i64 (by omega)


theorem bit0_i64 {s c : Nat} (hs : s < 4611686018427387904) (hc : c ≤ 64) : ((bAnd .i64 (Int.fdiv (s : Int) (2 ^ min (Int.toNat (c : Int)) 64)) 1) == 0) = !s.testBit c := by
  rw [← bit_i64 hs hc]
  rw [Int.toNat_natCast, Nat.min_eq_left hc, fdiv_pow]
  have h := bAnd_i64 (a := s / 2 ^ c) (b := 1) (Nat.lt_of_le_of_lt (Nat.div_le_self _ _) hs) (by decide)
  rw [show ((1 : Nat) : Int) = 1 from rfl] at h
  rw [h, Nat.and_one_is_mod]
  have : s / 2 ^ c % 2 = 0 ∨ s / 2 ^ c % 2 = 1 := by omega
  rcases this with e | e <;> rw [e] <;> rfl

/-- The set of a mask. -/
def tb (k : Nat) : Nat → Bool := fun i => k.testBit i

/-! ### the first overfull day -/
def fod (dy : Nat → Nat) (n : Nat) (S : Nat → Bool) : Nat → Nat → Int
  | 0, _ => 0
  | m + 1, d => if d < by_ dy n S d then (d : Int) else fod dy n S m (d + 1)

theorem fod_FO {dy : Nat → Nat} {n : Nat} {S : Nat → Bool} (h : ∀ i, i < n → 1 ≤ dy i ∧ dy i ≤ 60) : ∀ (m d : Nat), d + m = 61 → 1 ≤ d → (∀ d', d' < d → by_ dy n S d' ≤ d') → FO dy n S (fod dy n S m d)
  | 0, d, e, h1, hd => .inl ⟨rfl, fun d' => by
    by_cases q : d' < d
    · exact hd d' q
    · have e1 : by_ dy n S d' = by_ dy n S 60 := cnt_congr fun i hi => by
        have := (h i hi).2
        rw [decide_eq_true (show dy i ≤ d' by omega), decide_eq_true (show dy i ≤ 60 by omega)]
      have := hd 60 (by omega)
      omega⟩
  | m + 1, d, e, h1, hd => by
    rw [fod]
    split
    · rename_i hlt
      exact .inr ⟨d, rfl, h1, hlt, hd⟩
    · rename_i hlt
      refine fod_FO h m (d + 1) (by omega) (by omega) fun d' hd' => ?_
      by_cases q : d' < d
      · exact hd d' q
      · have : d' = d := by omega
        subst this; omega

theorem by_0 {dy : Nat → Nat} {n : Nat} {S : Nat → Bool} (h : ∀ i, i < n → 1 ≤ dy i) : by_ dy n S 0 ≤ 0 := by
  have : by_ dy n S 0 = 0 := cnt_zero fun i hi => by
    have := h i hi
    rw [decide_eq_false (show ¬ dy i ≤ 0 by omega), Bool.and_false]
  omega

def ofm (l : List Od) (k : Nat) : Int := fod (dyl l) l.length (tb k) 60 1

theorem Ok6.dy {l : List Od} (h : Ok6 l) {i : Nat} (hi : i < l.length) : 1 ≤ dyl l i ∧ dyl l i ≤ 60 := dyl_rng (M := 60) (fun o ho => (h.all o ho).1) hi
theorem Ok6.fn {l : List Od} (h : Ok6 l) {i : Nat} (hi : i < l.length) : 0 ≤ fnl l i ∧ fnl l i ≤ (10000 : Nat) := fnl_rng (M := 10000) (fun o ho => (h.all o ho).2) hi

theorem ofm_FO {l : List Od} (h : Ok6 l) (k : Nat) : FO (dyl l) l.length (tb k) (ofm l k) := fod_FO (fun i hi => h.dy hi) 60 1 rfl (by omega) fun d' hd => by
  have : d' = 0 := by omega
  subst this; exact by_0 fun i hi => (h.dy hi).1

def mok (k : Int) : Prop := 0 ≤ k ∧ k < 4611686018427387904
instance (k : Int) : Decidable (mok k) := by unfold mok; infer_instance
def B52 (l : List Od) (k : Int) : Option Int := if Ok6 l ∧ mok k then some (ofm l k.toNat) else none

theorem of_in {l : List Od} (hl : l.length ≤ 12) {k d : Nat} (hk : k < 4611686018427387904) {rec : Int → Option Int} (N : Nat) (hN : 100 ≤ N) : l52b N l (k : Int) (d : Int) rec N 0 0 = if d < by_ (dyl l) l.length (tb k) d then some (d : Int) else rec (w64 ((d : Int) + 1)) :=
  rangeIx l d3 (fun n (c : Int) t => l52b N l (k : Int) (d : Int) rec n c t) (fun t xs c => t ≤ l.length ∧ c = (cnt (fun i => tb k i && decide (dyl l i ≤ d)) t : Nat)) (fun t xs c => if d < by_ (dyl l) l.length (tb k) d then some (d : Int) else rec (w64 ((d : Int) + 1)))
    (fun n c t x rest ht hx hI ih => by
      obtain ⟨h1, rfl⟩ := hI
      have hb := bit_i64 hk (show t ≤ 64 by omega)
      rw [Int.toNat_natCast] at hb
      have hd : decide ((l.getD t d3).1 ≤ (d : Int)) = decide (dyl l t ≤ d) := by
        unfold dyl
        by_cases q : (l.getD t d3).1 ≤ (d : Int)
        · rw [decide_eq_true q]; exact (decide_eq_true (by omega)).symm
        · rw [decide_eq_false q]; exact (decide_eq_false (by omega)).symm
      have hc := cnt_le_n (fun i => tb k i && decide (dyl l i ≤ d)) t
      have hg : ∀ c', c' = ((cnt (fun i => tb k i && decide (dyl l i ≤ d)) (t + 1) : Nat) : Int) → l52b N l (k : Int) (d : Int) rec n c' ((t + 1 : Nat) : Int) = _ := fun c' hc' => ih c' ⟨by omega, hc'⟩
      simp only [cnt] at hg
      simp only [l52b, ixA ht, ixB ht, decide_eq_true (show (0 : Int) ≤ (t : Int) by omega), cond_true, chk_true, hb, Int.toNat_natCast, ixW ht (by omega), hd]
      rw [show k.testBit t = tb k t from rfl]
      cases h1 : tb k t with
      | false => rw [cond_false]; exact hg _ (by simp [h1])
      | true =>
        rw [cond_true]
        cases h2 : decide (dyl l t ≤ d) with
        | false => rw [cond_false]; exact hg _ (by simp [h2])
        | true => rw [cond_true, w64_small (by omega)]; exact hg _ (by simp [h1, h2]))
    (fun n c hI => by
      obtain ⟨h1, rfl⟩ := hI
      simp only [l52b, ixE, cond_false]
      show cond (decide (((by_ (dyl l) l.length (tb k) d : Nat) : Int) > (d : Int))) _ _ = _
      by_cases q : d < by_ (dyl l) l.length (tb k) d
      · rw [if_pos q, decide_eq_true (by omega), cond_true]
      · rw [if_neg q, decide_eq_false (by omega), cond_false]) N 0 (by omega) ⟨by omega, rfl⟩

theorem of_out {l : List Od} (hl : l.length ≤ 12) {k : Nat} (hk : k < 4611686018427387904) (N : Nat) (hN : 100 ≤ N) : ∀ (m d n : Nat), d + m = 61 → m < n → l52a N l (k : Int) n (d : Int) = some (fod (dyl l) l.length (tb k) m d)
  | 0, d, n, e, hn => by
    obtain ⟨n, rfl⟩ : ∃ m, n = m + 1 := ⟨n - 1, by omega⟩
    simp only [l52a, decide_eq_false (show ¬ (d : Int) ≤ 60 by omega), cond_false, fod]
  | m + 1, d, n, e, hn => by
    obtain ⟨n, rfl⟩ : ∃ m, n = m + 1 := ⟨n - 1, by omega⟩
    simp only [l52a, decide_eq_true (show (d : Int) ≤ 60 by omega), cond_true]
    rw [of_in hl hk N hN, w64_small (by omega), fod]
    split
    · rfl
    · exact of_out hl hk N hN m (d + 1) n (by omega) (by omega)

theorem KB52 : FnOk Try.prog 52 (F52 B52) := ok52 B52 fun l k r h => ⟨100, by
  simp only [B52] at h
  split at h
  · rename_i hh
    obtain ⟨hl, hk0, hk1⟩ := hh
    obtain ⟨k, rfl⟩ : ∃ j : Nat, k = j := ⟨k.toNat, by omega⟩
    rw [← h, m52, Int.toNat_natCast]
    exact of_out hl.len (by omega) 100 (by omega) 60 1 100 rfl (by omega)
  · cases h⟩

/-! ### fines of a mask -/
def fim (l : List Od) (k : Nat) : Int := ws (fnl l) (fun i => !tb k i) l.length
def B75 (l : List Od) (k : Int) : Option Int := if Ok6 l ∧ mok k then some (fim l k.toNat) else none

theorem ws_rng {f : Nat → Int} {p : Nat → Bool} : ∀ {n : Nat}, (∀ i, i < n → 0 ≤ f i ∧ f i ≤ (10000 : Nat)) → 0 ≤ ws f p n ∧ ws f p n ≤ 10000 * n
  | 0, _ => by simp [ws]
  | n + 1, h => by
    obtain ⟨a, b⟩ := ws_rng (p := p) (n := n) fun i hi => h i (by omega)
    have := h n (by omega)
    simp only [ws]
    cases p n <;> simp <;> omega

theorem KB75 : FnOk Try.prog 75 (F75 B75) := ok75 B75 fun l k r h => ⟨100, by
  simp only [B75] at h
  split at h
  · rename_i hh
    obtain ⟨hl, hk0, hk1⟩ := hh
    obtain ⟨k, rfl⟩ : ∃ j : Nat, k = j := ⟨k.toNat, by omega⟩
    have hlen := hl.len
    rw [← h, m75, Int.toNat_natCast]
    exact rangeIx l d3 (fun n (c : Int) t => l75a 100 l (k : Int) n c t) (fun t xs c => t ≤ l.length ∧ c = ws (fnl l) (fun i => !tb k i) t) (fun t xs c => some (fim l k))
      (fun n c t x rest ht hx hI ih => by
        obtain ⟨h1, rfl⟩ := hI
        have hb := bit0_i64 (s := k) (by omega) (show t ≤ 64 by omega)
        rw [Int.toNat_natCast] at hb
        obtain ⟨r1, r2⟩ := ws_rng (f := fnl l) (p := fun i => !tb k i) (n := t) fun i hi => hl.fn (show i < l.length by omega)
        have hft := hl.fn ht
        have hg : ∀ c', c' = ws (fnl l) (fun i => !tb k i) (t + 1) → l75a 100 l (k : Int) n c' ((t + 1 : Nat) : Int) = _ := fun c' hc' => ih c' ⟨by omega, hc'⟩
        simp only [ws] at hg
        simp only [l75a, ixA ht, ixB ht, decide_eq_true (show (0 : Int) ≤ (t : Int) by omega), cond_true, chk_true, hb, Int.toNat_natCast, ixW ht (by omega)]
        rw [show k.testBit t = tb k t from rfl]
        have hf : (l.getD t ((0 : Int), ((0 : Int), ()))).2.1 = fnl l t := rfl
        rw [hf]
        cases h1 : tb k t with
        | true => simp only [Bool.not_true, cond_false]; exact hg _ (by simp [h1])
        | false => simp only [Bool.not_false, cond_true]; rw [w64_small (by omega)]; exact hg _ (by simp [h1]))
      (fun n c hI => by
        obtain ⟨h1, rfl⟩ := hI
        simp only [l75a, ixE, cond_false]; rfl) 100 0 (by omega) ⟨by omega, rfl⟩
  · cases h⟩

theorem fim_tot (l : List Od) (k : Nat) : fim l k = tot l - ws (fnl l) (tb k) l.length := by
  have h := ws_split (fnl l) (fun _ => true) (tb k) l.length
  simp only [Bool.true_and] at h
  have e : ws (fnl l) (fun i => tb k i) l.length = ws (fnl l) (tb k) l.length := rfl
  unfold fim tot
  rw [e] at h
  omega

/-! ### all sets are tried -/
def bst (l : List Od) : Nat → Int × List Int
  | 0 => (fim l 0, [])
  | k + 1 => if (bst l k).1 < fim l k then bst l k else if 0 < ofm l k then bst l k else if fim l k < (bst l k).1 then (fim l k, [(k : Int)]) else ((bst l k).1, (bst l k).2 ++ [(k : Int)])
def B54 (l : List Od) : Option (Int × List Int) := if Ok6 l then some (bst l (2 ^ l.length)) else none

theorem pow_12 {n : Nat} (h : n ≤ 12) : 2 ^ n ≤ 4096 := by
  have : 2 ^ n ≤ 2 ^ 12 := Nat.pow_le_pow_right (by decide) h
  simpa using this

theorem bst_len (l : List Od) : ∀ k, (bst l k).2.length ≤ k
  | 0 => Nat.le_refl _
  | k + 1 => by
    have := bst_len l k
    rw [bst]
    split
    · omega
    · split
      · omega
      · split
        · simp
        · simp; omega

theorem KB54 : FnOk Try.prog 54 (F54 B54) := ok54 B52 B75 KB52 KB75 B54 fun l r h => ⟨5000, by
  simp only [B54] at h
  split at h
  · rename_i hl
    have hlen := hl.len
    have hp := pow_12 hlen
    have h1 : B75 l 0 = some (fim l 0) := if_pos ⟨hl, by unfold mok; omega⟩
    have hpow : IntKind.wrap .i64 ((1 : Int) * 2 ^ min (Int.toNat (l.length : Int)) 64) = ((2 ^ l.length : Nat) : Int) := one_i64 (by omega)
    have main : ∀ (m k n : Nat), k + m = 2 ^ l.length → m < n → l54a B52 B75 5000 l n (bst l k).1 (k : Int) (bst l k).2 = some (bst l (2 ^ l.length)) := by
      intro m
      induction m with
      | zero =>
        intro k n e hn
        obtain ⟨n, rfl⟩ : ∃ m, n = m + 1 := ⟨n - 1, by omega⟩
        have : k = 2 ^ l.length := by omega
        subst this
        simp only [l54a, decide_eq_true (show (0 : Int) ≤ (l.length : Int) by omega), chk_true, hpow, ixE, cond_false]
      | succ m ih =>
        intro k n e hn
        obtain ⟨n, rfl⟩ : ∃ m, n = m + 1 := ⟨n - 1, by omega⟩
        have hk : k < 2 ^ l.length := by omega
        have ih := ih (k + 1) n (by omega) (by omega)
        have b1 : B75 l (k : Int) = some (fim l k) := if_pos ⟨hl, by unfold mok; omega⟩
        have b2 : B52 l (k : Int) = some (ofm l k) := if_pos ⟨hl, by unfold mok; omega⟩
        have hs := small_of (n := (bst l k).2.length + 1) (eb := 8) (by have := bst_len l k; omega) (by decide)
        simp only [l54a, decide_eq_true (show (0 : Int) ≤ (l.length : Int) by omega), chk_true, hpow, ixA hk, cond_true, b1, b2, Option.bind_some, ixW hk (by omega), hs]
        rw [bst] at ih
        by_cases q1 : (bst l k).1 < fim l k
        · rw [if_pos q1] at ih
          rw [decide_eq_true (show fim l k > (bst l k).1 from q1), cond_true]; exact ih
        · rw [if_neg q1] at ih
          rw [decide_eq_false (show ¬ fim l k > (bst l k).1 from q1), cond_false]
          by_cases q2 : 0 < ofm l k
          · rw [if_pos q2] at ih
            rw [decide_eq_true (show ofm l k > 0 from q2), cond_true]; exact ih
          · rw [if_neg q2] at ih
            rw [decide_eq_false (show ¬ ofm l k > 0 from q2), cond_false]
            by_cases q3 : fim l k < (bst l k).1
            · rw [if_pos q3] at ih
              rw [decide_eq_true q3, cond_true]; exact ih
            · rw [if_neg q3] at ih
              rw [decide_eq_false q3, cond_false]; exact ih
    rw [← h, m54, h1, Option.bind_some]
    exact main (2 ^ l.length) 0 5000 (by omega) (by omega)
  · cases h⟩

/-- A possible mask. -/
def psm (l : List Od) (k : Nat) : Bool := decide (ofm l k = 0)
theorem psm_iff {l : List Od} (h : Ok6 l) (k : Nat) : psm l k = true ↔ Pos (dyl l) l.length (tb k) := by
  rw [psm, decide_eq_true_eq]; exact (ofm_FO h k).zero
theorem ofm_nn {l : List Od} (h : Ok6 l) (k : Nat) : 0 ≤ ofm l k := by
  rcases ofm_FO h k with ⟨e, _⟩ | ⟨d, e, _⟩ <;> rw [e] <;> omega

theorem tb_0 (i : Nat) : tb 0 i = false := Nat.zero_testBit i

structure BI (l : List Od) (K : Nat) : Prop where
  low : ∀ k, k < K → psm l k = true → (bst l K).1 ≤ fim l k
  at_ : (∃ k, k < K ∧ psm l k = true ∧ fim l k = (bst l K).1) ∨ K = 0
  set : (bst l K).2 = ((List.range K).filter fun k => psm l k && decide (fim l k = (bst l K).1)).map Int.ofNat

theorem bst_ok {l : List Od} (h : Ok6 l) : ∀ K, BI l K
  | 0 => ⟨fun k hk => by omega, .inr rfl, rfl⟩
  | K + 1 => by
    have ih := bst_ok h K
    have hnn := ofm_nn h K
    -- nothing new
    have skip : bst l (K + 1) = bst l K → (psm l K = true → (bst l K).1 < fim l K) → (psm l K = true ∨ 0 < K) → BI l (K + 1) := fun e hs hK => by
      refine ⟨fun k hk hp => ?_, ?_, ?_⟩
      · rw [e]
        by_cases q : k < K
        · exact ih.low k q hp
        · have : k = K := by omega
          subst this; have := hs hp; omega
      · rw [e]
        rcases ih.at_ with ⟨k, a, b⟩ | rfl
        · exact .inl ⟨k, by omega, b⟩
        · rcases hK with hK | hK
          · have := hs hK
            exact absurd this (Int.lt_irrefl _)
          · omega
      · rw [e, ih.set, List.range_succ, List.filter_append]
        have : (psm l K && decide (fim l K = (bst l K).1)) = false := by
          cases hp : psm l K with
          | false => rfl
          | true => have := hs hp; simp; omega
        simp [this, ← ih.set]
    have z0 : K = 0 → psm l K = true := fun e => by
      subst e
      rw [psm_iff h]
      exact Pos.empty.sub fun i _ hi => by rw [tb_0] at hi; exact hi
    have hK : psm l K = true ∨ 0 < K := by
      by_cases q : K = 0
      · exact .inl (z0 q)
      · exact .inr (by omega)
    rw [bst] at skip
    by_cases q1 : (bst l K).1 < fim l K
    · rw [if_pos q1] at skip; exact skip rfl (fun _ => q1) hK
    · rw [if_neg q1] at skip
      by_cases q2 : 0 < ofm l K
      · rw [if_pos q2] at skip
        have hp : psm l K = false := decide_eq_false (by omega)
        exact skip rfl (fun hc => by rw [hp] at hc; cases hc) hK
      · rw [if_neg q2] at skip
        have hp : psm l K = true := decide_eq_true (by omega)
        by_cases q3 : fim l K < (bst l K).1
        · have e : bst l (K + 1) = (fim l K, [(K : Int)]) := by rw [bst, if_neg q1, if_neg q2, if_pos q3]
          refine ⟨fun k hk hpk => ?_, .inl ⟨K, by omega, hp, by rw [e]⟩, ?_⟩
          · rw [e]
            by_cases q : k < K
            · have := ih.low k q hpk; show fim l K ≤ _; omega
            · have : k = K := by omega
              subst this; exact Int.le_refl _
          · rw [e]
            show [(K : Int)] = _
            rw [List.range_succ, List.filter_append]
            have : ((List.range K).filter fun k => psm l k && decide (fim l k = fim l K)) = [] := List.filter_eq_nil_iff.2 fun k hk => by
              have hk := List.mem_range.1 hk
              simp only [Bool.and_eq_true, decide_eq_true_eq, not_and]
              intro hpk
              have := ih.low k hk hpk
              omega
            simp [this, hp]
        · have e : bst l (K + 1) = ((bst l K).1, (bst l K).2 ++ [(K : Int)]) := by rw [bst, if_neg q1, if_neg q2, if_neg q3]
          refine ⟨fun k hk hpk => ?_, .inl ⟨K, by omega, hp, by rw [e]; show fim l K = (bst l K).1; omega⟩, ?_⟩
          · rw [e]
            by_cases q : k < K
            · exact ih.low k q hpk
            · have : k = K := by omega
              subst this; show (bst l k).1 ≤ _; omega
          · rw [e]
            show (bst l K).2 ++ [(K : Int)] = ((List.range (K + 1)).filter fun k => psm l k && decide (fim l k = (bst l K).1)).map Int.ofNat
            rw [List.range_succ, List.filter_append, List.map_append, ← ih.set]
            have : decide (fim l K = (bst l K).1) = true := decide_eq_true (by omega)
            simp [hp, this]

/-- The mask of a set. -/
def maskT (T : Nat → Bool) : Nat → Nat
  | 0 => 0
  | n + 1 => maskT T n ||| cond (T n) (2 ^ n) 0

theorem maskT_lt (T : Nat → Bool) : ∀ n, maskT T n < 2 ^ n
  | 0 => by simp [maskT]
  | n + 1 => by
    rw [maskT]
    refine Nat.or_lt_two_pow (Nat.lt_of_lt_of_le (maskT_lt T n) (Nat.pow_le_pow_right (by decide) (by omega))) ?_
    cases T n
    · exact Nat.two_pow_pos _
    · exact Nat.pow_lt_pow_right (by decide) (by omega)

theorem maskT_bit (T : Nat → Bool) : ∀ n i, tb (maskT T n) i = (decide (i < n) && T i)
  | 0, i => by simp [maskT, tb]
  | n + 1, i => by
    have ih := maskT_bit T n i
    unfold tb at ih ⊢
    rw [maskT, Nat.testBit_or, ih]
    by_cases h : n = i
    · subst h
      cases T n <;> simp
    · have h1 : (cond (T n) (2 ^ n) 0).testBit i = false := by
        cases T n
        · simp
        · rw [cond_true, Nat.testBit_two_pow]; simpa using h
      rw [h1, Bool.or_false]
      by_cases h2 : i < n
      · rw [decide_eq_true h2, decide_eq_true (show i < n + 1 by omega)]
      · rw [decide_eq_false h2, decide_eq_false (show ¬ i < n + 1 by omega)]

/-- The best. -/
def bestm (l : List Od) : Int := (bst l (2 ^ l.length)).1
/-- The best sets. -/
def BestS (l : List Od) (T : Nat → Bool) : Prop := Pos (dyl l) l.length T ∧ ws (fnl l) T l.length = tot l - leastO l

theorem Pos.congr {dy : Nat → Nat} {n : Nat} {S T : Nat → Bool} (h : Pos dy n S) (hst : ∀ i, i < n → T i = S i) : Pos dy n T := h.sub fun i hi q => by rw [← hst i hi]; exact q
theorem BestS.congr {l : List Od} {S T : Nat → Bool} (h : BestS l S) (hst : ∀ i, i < l.length → T i = S i) : BestS l T := ⟨h.1.congr hst, by rw [ws_congr hst fun _ _ _ => rfl]; exact h.2⟩

theorem best_least {l : List Od} (h : Ok6 l) : bestm l = leastO l := by
  obtain ⟨o1, T, o2, o3⟩ := leastO_ok h
  have hb := bst_ok h (2 ^ l.length)
  refine Int.le_antisymm ?_ ?_
  · -- the set T has a mask
    have hbit : ∀ i, i < l.length → tb (maskT T l.length) i = T i := fun i hi => by rw [maskT_bit, decide_eq_true hi, Bool.true_and]
    have hp : psm l (maskT T l.length) = true := (psm_iff h _).2 (o2.congr hbit)
    have := hb.low _ (maskT_lt T l.length) hp
    rw [fim_tot, ws_congr hbit fun _ _ _ => rfl, ← o3] at this
    exact this
  · rcases hb.at_ with ⟨k, a, b, c⟩ | e
    · have := o1 (tb k) ((psm_iff h k).1 b)
      unfold bestm
      rw [← c, fim_tot]; exact this
    · have := Nat.two_pow_pos l.length; omega

/-- The masks of the best sets. -/
def bests (l : List Od) : List Nat := (List.range (2 ^ l.length)).filter fun k => psm l k && decide (fim l k = leastO l)
theorem bst_bests {l : List Od} (h : Ok6 l) : bst l (2 ^ l.length) = (leastO l, (bests l).map Int.ofNat) := by
  have hb := bst_ok h (2 ^ l.length)
  have e : (bst l (2 ^ l.length)).1 = leastO l := best_least h
  have := hb.set
  rw [e] at this
  exact Prod.ext e this
theorem bests_mem {l : List Od} (h : Ok6 l) {k : Nat} : k ∈ bests l ↔ k < 2 ^ l.length ∧ BestS l (tb k) := by
  unfold bests BestS
  rw [List.mem_filter, List.mem_range, Bool.and_eq_true, decide_eq_true_eq, psm_iff h, fim_tot]
  constructor
  · rintro ⟨a, b, c⟩; exact ⟨a, b, by omega⟩
  · rintro ⟨a, b, c⟩; exact ⟨a, b, by omega⟩
theorem bests_mask {l : List Od} (h : Ok6 l) {T : Nat → Bool} (hT : BestS l T) : maskT T l.length ∈ bests l := by
  rw [bests_mem h]
  exact ⟨maskT_lt _ _, hT.congr fun i hi => by rw [maskT_bit, decide_eq_true hi, Bool.true_and]⟩
theorem best_ex {l : List Od} (h : Ok6 l) : ∃ T, BestS l T := by
  obtain ⟨_, T, o2, o3⟩ := leastO_ok h
  exact ⟨T, o2, by omega⟩
theorem bests_ne {l : List Od} (h : Ok6 l) : bests l ≠ [] := by
  obtain ⟨T, hT⟩ := best_ex h
  intro e
  have := bests_mask h hT
  rw [e] at this; cases this

end Go.Proofs.Ytbblnbolabpfmaa
