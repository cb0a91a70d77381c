/-
  What the laws without the reference need.
-/
import Derived.Test.YtaioadjcdjmkdaaJ6
namespace Go.Proofs.Ytaioadjcdjmkdaa
open Go.RowKit
set_option linter.unusedVariables false

/-! ### the search -/
abbrev Sr := List (List Int) × List Nat
def newS (v : Nat) (w : List Int) (st : Sr) (t : Nat) (k : List Int) : Sr := cond (st.2.contains (addI k v)) st (st.1 ++ [w ++ [(t : Int)]], st.2 ++ [addI k v])
def expL (v : Nat) (w : List Int) : List (List Int) → Nat → Sr → Sr
  | [], _, st => st
  | k :: r, t, st => expL v w r (t + 1) (newS v w st t k)
def srch (p : Pal) (want : Nat) : Nat → Nat → Sr → Option (List Int)
  | 0, _, _ => none
  | k + 1, a, st => cond (decide (a < st.2.length)) (cond (decide (st.2.getD a 0 &&& want = want)) (some (st.1.getD a [])) (srch p want k (a + 1) (expL (st.2.getD a 0) (st.1.getD a []) p.2.1 0 st))) none
def fewI (p : Pal) (want : Nat) : Option (List Int) := srch p want 129 0 ([[]], [1])
structure SrOk (n : Nat) (st : Sr) : Prop where
  same : st.1.length = st.2.length
  nd : st.2.Nodup
  rng : ∀ m ∈ st.2, 0 < m ∧ m < 2 ^ n
  len : ∀ j, j < st.1.length → (st.1.getD j []).length ≤ j
theorem SrOk.many {n : Nat} {st : Sr} (h : SrOk n st) (hn : n ≤ 7) : st.2.length ≤ 128 := by
  have := h.nd.length_le_of_subset (l₂ := List.range 128) (fun m hm => by
    have := (h.rng m hm).2
    have := pow_le7 hn
    exact List.mem_range.2 (by omega))
  simpa using this
theorem getD_app {α : Type} {l r : List α} {j : Nat} {d : α} (h : j < l.length) : (l ++ r).getD j d = l.getD j d := by
  rw [List.getD_eq_getElem?_getD, List.getD_eq_getElem?_getD, List.getElem?_append_left h]
theorem getD_end {α : Type} {l : List α} {x d : α} : (l ++ [x]).getD l.length d = x := by
  rw [List.getD_eq_getElem?_getD]; simp
/-- What a round of inks keeps. -/
structure Keeps (a : Nat) (st st' : Sr) : Prop where
  le : st.2.length ≤ st'.2.length
  v : st'.2.getD a 0 = st.2.getD a 0
  w : st'.1.getD a [] = st.1.getD a []
theorem newS_ok {n a : Nat} {v : Nat} {w : List Int} {st : Sr} {t : Nat} {k : List Int} (h : SrOk n st) (ha : a < st.2.length) (hv : v < 2 ^ n) (h0 : 0 < v) (hw : w.length ≤ a) (hk : InkOk n k) : SrOk n (newS v w st t k) ∧ Keeps a st (newS v w st t k) := by
  have hs := h.same
  unfold newS
  cases e : st.2.contains (addI k v) with
  | true => exact ⟨h, ⟨Nat.le_refl _, rfl, rfl⟩⟩
  | false =>
    rw [cond_false]
    obtain ⟨a1, a2⟩ := addI_lt hk hv
    have hnm : addI k v ∉ st.2 := fun hm => by
      rw [List.contains_iff_mem.2 hm] at e; cases e
    refine ⟨⟨by simp [hs], ?_, ?_, ?_⟩, ⟨by simp, getD_app ha, getD_app (by omega)⟩⟩
    · rw [List.nodup_append]
      exact ⟨h.nd, by simp, fun x hx y hy e => by simp at hy; subst hy; subst e; exact hnm hx⟩
    · intro m hm
      rcases List.mem_append.1 hm with hm | hm
      · exact h.rng m hm
      · simp at hm; subst hm; exact ⟨Nat.lt_of_lt_of_le h0 a2, a1⟩
    · intro j hj
      show ((st.1 ++ [w ++ [(t : Int)]]).getD j []).length ≤ j
      simp only [List.length_append, List.length_cons, List.length_nil] at hj
      rcases Nat.lt_or_ge j st.1.length with hj' | hj'
      · rw [getD_app hj']; exact h.len j hj'
      · obtain rfl : j = st.1.length := by omega
        rw [getD_end]; simp; omega
theorem expL_ok {n a : Nat} {v : Nat} {w : List Int} (hv : v < 2 ^ n) (h0 : 0 < v) (hw : w.length ≤ a) : ∀ (ks : List (List Int)) (t : Nat) (st : Sr), (∀ k ∈ ks, InkOk n k) → SrOk n st → a < st.2.length → SrOk n (expL v w ks t st)
  | [], t, st, _, h, _ => h
  | k :: ks, t, st, hk, h, ha => by
    obtain ⟨b, c⟩ := newS_ok (t := t) h ha hv h0 hw (hk k (by simp))
    exact expL_ok hv h0 hw ks (t + 1) _ (fun x hx => hk x (by simp [hx])) b (Nat.lt_of_lt_of_le ha c.le)
theorem start_ok {p : Pal} (h : PalOk p) : SrOk p.1.toNat ([[]], [1]) :=
  ⟨rfl, by simp, fun m hm => by simp at hm; subst hm; exact ⟨by decide, Nat.one_lt_two_pow (by have := (nat7 h).1; omega)⟩, fun j hj => by
    simp at hj; subst hj; exact Nat.le_refl _⟩

/-! ### numbers, cast -/
def ci (l : List Nat) : List Int := l.map fun (c : Nat) => (c : Int)
theorem ci_len (l : List Nat) : (ci l).length = l.length := by simp [ci]
theorem ci_at (l : List Nat) (j : Nat) : (ci l).getD j 0 = (l.getD j 0 : Int) := by
  simp only [ci, List.getD_eq_getElem?_getD, List.getElem?_map]
  cases l[j]? <;> rfl
theorem ci_app (l : List Nat) (x : Nat) : ci (l ++ [x]) = ci l ++ [(x : Int)] := by simp [ci]
theorem ci_drop (l : List Nat) (n : Nat) : ci (l.drop n) = (ci l).drop n := by simp [ci]
def mOf (l : List Nat) : List (Int × Bool) := l.map fun (c : Nat) => ((c : Int), true)
theorem mOf_get (x : Nat) : ∀ l : List Nat, (mget (kt := .int .u8) (vt := .bool) (mOf l) (x : Int)).getD false = l.contains x
  | [] => rfl
  | m :: l => by
    have ih := mOf_get x l
    show (cond (decide ((x : Int) = (m : Int))) (some true) (mget (kt := .int .u8) (vt := .bool) (mOf l) (x : Int))).getD false = _
    rw [List.contains_cons, ← ih]
    by_cases e : x = m
    · subst e; rw [decide_eq_true rfl]; simp
    · rw [decide_eq_false (by omega), cond_false, show (x == m) = false from beq_eq_false_iff_ne.2 e, Bool.false_or]
theorem mOf_put (x : Nat) : ∀ l : List Nat, l.contains x = false → mput (kt := .int .u8) (vt := .bool) (mOf l) (x : Int) true = mOf (l ++ [x])
  | [], _ => rfl
  | m :: l, h => by
    rw [List.contains_cons, Bool.or_eq_false_iff] at h
    have ih := mOf_put x l h.2
    show cond (decide ((x : Int) = (m : Int))) _ (((m : Int), true) :: mput (kt := .int .u8) (vt := .bool) (mOf l) (x : Int) true) = _
    rw [decide_eq_false (by have := beq_eq_false_iff_ne.1 h.1; omega), cond_false, ih]; rfl
theorem KB80 : FnOk Try.prog 80 (F80 fun l => some l) := ok80 (fun l => some l) fun l r h => ⟨0, by
  rw [← h, m80]
  have : (decide (0 ≤ (l.length : Int) ∧ (l.length : Int) ≤ (l.length : Int)) && decide ((l.length : Int) = (l.length : Int))) = true := by simp
  rw [this, chk_true]; simp⟩
theorem drop_app {α : Type} {l r : List α} {n : Nat} (h : n ≤ l.length) : (l ++ r).drop n = l.drop n ++ r := List.drop_append_of_le_length h
theorem drop_head {α : Type} {l : List α} {a : Nat} {d : α} : (l.drop a).getD 0 d = l.getD a d := by
  rw [List.getD_eq_getElem?_getD, List.getElem?_drop, Nat.add_zero, List.getD_eq_getElem?_getD]

/-! ### the program's search -/
def ansB (o : Option (List Int)) : List Int × Bool := match o with
  | some l => (l, true)
  | none => ([], false)
def B74 (p : Pal) (want : Int) : Option (List Int × Bool) := if ck p = 0 ∧ 0 ≤ want ∧ want < 256 then some (ansB (fewI p want.toNat)) else none
theorem KB74 : FnOk Try.prog 74 (F74 B74) := ok74 B61 B68 (fun l => some l) KB61 KB68 KB80 B74 fun p want r h => ⟨1001, by
  simp only [B74] at h
  split at h
  · rename_i hc
    obtain ⟨hck, hw0, hw1⟩ := hc
    obtain ⟨want, rfl⟩ : ∃ z : Nat, want = z := ⟨want.toNat, by omega⟩
    have hp := ck_ok.1 hck
    obtain ⟨n2, n7, hn⟩ := nat7 hp
    have h7 := pow_le7 n7
    rw [← h, m74, Int.toNat_natCast]
    -- a round
    have inner : ∀ (a : Nat) (st : Sr) (rec : List Int → List (List Int) → List (Int × Bool) → Option (List Int × Bool)), SrOk p.1.toNat st → a < st.2.length →
        l74b B61 B68 (fun l => some l) 1001 p (want : Int) (ci (st.2.drop a)) (st.1.drop a) rec 1001 0 (ci (st.2.drop (a + 1))) (st.1.drop (a + 1)) (mOf st.2) =
          rec (ci ((expL (st.2.getD a 0) (st.1.getD a []) p.2.1 0 st).2.drop (a + 1))) ((expL (st.2.getD a 0) (st.1.getD a []) p.2.1 0 st).1.drop (a + 1)) (mOf (expL (st.2.getD a 0) (st.1.getD a []) p.2.1 0 st).2) := by
      intro a st rec hok ha
      have hv := hok.rng _ (getD_mem (d := 0) ha)
      have hwl := hok.len a (by rw [hok.same]; exact ha)
      have e0 : (ci (st.2.drop a)).getD 0 0 = (st.2.getD a 0 : Int) := by rw [ci_at, drop_head]
      have e1 : (st.1.drop a).getD 0 [] = st.1.getD a [] := drop_head
      exact rangeIx p.2.1 [] (fun n (s : Sr) t => l74b B61 B68 (fun l => some l) 1001 p (want : Int) (ci (st.2.drop a)) (st.1.drop a) rec n t (ci (s.2.drop (a + 1))) (s.1.drop (a + 1)) (mOf s.2))
        (fun t xs s => (∀ k ∈ xs, InkOk p.1.toNat k) ∧ SrOk p.1.toNat s ∧ a < s.2.length)
        (fun t xs s => rec (ci ((expL (st.2.getD a 0) (st.1.getD a []) xs t s).2.drop (a + 1))) ((expL (st.2.getD a 0) (st.1.getD a []) xs t s).1.drop (a + 1)) (mOf (expL (st.2.getD a 0) (st.1.getD a []) xs t s).2))
        (fun n s t x rest ht hx hI ih => by
          obtain ⟨i1, i2, i3⟩ := hI
          have hk := i1 x (List.mem_cons_self ..)
          have hr : ∀ k ∈ rest, InkOk p.1.toNat k := fun y hy => i1 y (by simp [hy])
          obtain ⟨b1, b2⟩ := newS_ok (t := t) i2 i3 hv.2 hv.1 hwl hk
          have nx := ih (newS (st.2.getD a 0) (st.1.getD a []) s t x) ⟨hr, b1, Nat.lt_of_lt_of_le i3 b2.le⟩
          have e2 := hp.B61 (i := (t : Int)) (by omega)
          rw [Int.toNat_natCast, hx] at e2
          have hm := i2.many n7
          have hsame := i2.same
          simp only [l74b, ixA ht, cond_true, e2, Option.bind_some, e0, e1, print_ok hk ⟨n2, n7⟩ hv.1 hv.2, expL]
          have hl1 : (ci (s.2.drop (a + 1))).length ≤ 128 := by rw [ci_len, List.length_drop]; omega
          have hl2 : (s.1.drop (a + 1)).length ≤ 128 := by rw [List.length_drop]; omega
          rw [← nx]
          refine (congrArg (fun b : Bool => cond (!b) _ _) (mOf_get (addI x (st.2.getD a 0)) s.2)).trans ?_
          unfold newS
          cases e : s.2.contains (addI x (st.2.getD a 0)) with
          | true => simp only [Bool.not_true, cond_false, cond_true, ixW ht (by have := hp.i6; omega)]
          | false =>
            have hwl2 : (st.1.getD a []).length ≤ 128 := by have := hok.many n7; omega
            simp only [Bool.not_false, cond_true, cond_false, ixW ht (by have := hp.i6; omega), chk_of (small_of (n := (ci (s.2.drop (a + 1))).length + 1) (eb := 1) (by omega) (by decide)), chk_of (small_of (n := (st.1.getD a []).length + 1) (eb := 8) (by omega) (by decide)), chk_of (small_of (n := (s.1.drop (a + 1)).length + 1) (eb := 24) (by omega) (by decide)), mOf_put _ _ e]
            rw [drop_app (by omega), drop_app (by omega), ci_app])
        (fun n s _ => by simp only [l74b, ixE, cond_false]; rfl) 1001 st (by have := hp.i6; omega) ⟨hp.ink, hok, ha⟩
    have outer : ∀ (k a m : Nat) (st : Sr), a + k = 129 → k < m → SrOk p.1.toNat st → l74a B61 B68 (fun l => some l) 1001 p (want : Int) m (ci (st.2.drop a)) (st.1.drop a) (mOf st.2) = some (ansB (srch p want k a st)) := by
      intro k
      induction k with
      | zero =>
        intro a m st h1 h2 h3
        obtain ⟨m, rfl⟩ : ∃ q, m = q + 1 := ⟨m - 1, by omega⟩
        have e : decide (((ci (st.2.drop a)).length : Int) > 0) = false := decide_eq_false (by rw [ci_len, List.length_drop]; have := h3.many n7; omega)
        simp only [l74a, e, cond_false, srch]; rfl
      | succ k ih =>
        intro a m st h1 h2 h3
        obtain ⟨m, rfl⟩ : ∃ q, m = q + 1 := ⟨m - 1, by omega⟩
        by_cases ha : a < st.2.length
        · have hs := h3.same
          have hv := h3.rng _ (getD_mem (d := 0) ha)
          have e1 : decide (((ci (st.2.drop a)).length : Int) > 0) = true := decide_eq_true (by rw [ci_len, List.length_drop]; omega)
          have e2 : decide (0 ≤ (0 : Int) ∧ (0 : Int) < ((ci (st.2.drop a)).length : Int)) = true := decide_eq_true (by rw [ci_len, List.length_drop]; omega)
          have e3 : decide (0 ≤ (0 : Int) ∧ (0 : Int) < ((st.1.drop a).length : Int)) = true := decide_eq_true (by rw [List.length_drop]; omega)
          have e4 : decide (0 ≤ (1 : Int) ∧ (1 : Int) ≤ ((ci (st.2.drop a)).length : Int)) = true := decide_eq_true (by rw [ci_len, List.length_drop]; omega)
          have e5 : decide (0 ≤ (1 : Int) ∧ (1 : Int) ≤ ((st.1.drop a).length : Int)) = true := decide_eq_true (by rw [List.length_drop]; omega)
          have e6 : (ci (st.2.drop a)).getD 0 0 = (st.2.getD a 0 : Int) := by rw [ci_at, drop_head]
          have e7 : (st.1.drop a).getD 0 [] = st.1.getD a [] := drop_head
          have e8 : ((((st.2.getD a 0 &&& want : Nat)) : Int) == (want : Int)) = decide (st.2.getD a 0 &&& want = want) := by
            rw [Bool.eq_iff_iff, beq_iff_eq, decide_eq_true_eq]; omega
          simp only [l74a, e1, e2, e3, e4, e5, e6, e7, cond_true, chk_true, srch, decide_eq_true ha]
          rw [bAnd_u8 (by omega) (by omega), e8]
          cases decide (st.2.getD a 0 &&& want = want) with
          | true => rfl
          | false =>
            have d1 : (ci (st.2.drop a)).drop 1 = ci (st.2.drop (a + 1)) := by rw [← ci_drop, List.drop_drop]
            have d2 : (st.1.drop a).drop 1 = st.1.drop (a + 1) := by rw [List.drop_drop]
            simp only [cond_false, d1, d2]
            rw [inner a st _ h3 ha]
            exact ih (a + 1) m _ (by omega) (by omega) (expL_ok hv.2 hv.1 (h3.len a (by omega)) p.2.1 0 st hp.ink h3 ha)
        · have e : decide (((ci (st.2.drop a)).length : Int) > 0) = false := decide_eq_false (by rw [ci_len, List.length_drop]; omega)
          simp only [l74a, e, cond_false, srch, decide_eq_false ha]; rfl
    exact outer 129 0 1001 ([[]], [1]) rfl (by omega) (start_ok hp)
  · cases h⟩

/-! ### Fewest -/
def ansE (o : Option (List Int)) : List Int × Int := match o with
  | some l => (l, 0)
  | none => ([], 14)
def feI (p : Pal) (l : List Int) : List Int × Int := if ck p = 0 then (if (skI p l).2 = 0 then ansE (fewI p (skI p l).1) else ([], (skI p l).2)) else ([], ck p)
def B33 (p : Pal) (l : List Int) : Option (List Int × Int) := if fitP p = true ∧ l.length ≤ 1000 then some (feI p l) else none
theorem KB33 : FnOk Try.prog 33 (F33 B33) := ok33 B24 B70 B74 KB24 KB70 KB74 B33 fun p l r h => ⟨0, by
  simp only [B33] at h
  split at h
  · rename_i hf
    rw [← h, m33, B24, if_pos hf.1, Option.bind_some, feI]
    by_cases e : ck p = 0
    · have hp := ck_ok.1 e
      have h7 := pow_le7 (nat7 hp).2.1
      have hsl := sk_lt hp l
      have e' : (ck p != 0) = false := by rw [bne_eq_false_iff_eq]; exact e
      rw [e', cond_false, if_pos e, B70, if_pos ⟨e, hf.2⟩, Option.bind_some]
      by_cases e2 : (skI p l).2 = 0
      · have e2' : ((skI p l).2 != 0) = false := by rw [bne_eq_false_iff_eq]; exact e2
        simp only [e2', cond_false, if_pos e2]
        rw [B74, if_pos ⟨e, by omega, by omega⟩, Option.bind_some, Int.toNat_natCast]
        cases fewI p (skI p l).1 <;> rfl
      · have e2' : ((skI p l).2 != 0) = true := by rw [bne_iff_ne]; exact e2
        simp only [e2', cond_true, if_neg e2]
    · have e' : (ck p != 0) = true := by rw [bne_iff_ne]; exact e
      rw [e', cond_true, if_neg e]
  · cases h⟩
/-! ### Stones -/
def stI (p : Pal) (c : Int) : Int × Int := if ck p = 0 then (if 0 ≤ c ∧ c < p.1 then (((ansE (fewI p (2 ^ c.toNat))).1.length : Int), (ansE (fewI p (2 ^ c.toNat))).2) else (0, 4)) else (0, ck p)
def B35 (p : Pal) (c : Int) : Option (Int × Int) := if fitP p then some (stI p c) else none
theorem KB35 : FnOk Try.prog 35 (F35 B35) := ok35 B24 B63 B74 KB24 KB63 KB74 B35 fun p c r h => ⟨0, by
  simp only [B35] at h
  split at h
  · rename_i hf
    rw [← h, m35, B24, if_pos hf, Option.bind_some, stI]
    by_cases e : ck p = 0
    · have hp := ck_ok.1 e
      obtain ⟨n2, n7, hn⟩ := nat7 hp
      have ew : w64 (p.1 - 1) = p.1 - 1 := w64_small (by omega)
      have e' : (ck p != 0) = false := by rw [bne_eq_false_iff_eq]; exact e
      rw [e', cond_false, if_pos e, B63, Option.bind_some, ew]
      by_cases hc : 0 ≤ c ∧ c < p.1
      · have hc' : decide (0 ≤ c ∧ c ≤ p.1 - 1) = true := decide_eq_true (by omega)
        obtain ⟨z, rfl⟩ : ∃ z : Nat, c = z := ⟨c.toNat, by omega⟩
        have hz : 2 ^ z < 2 ^ 8 := Nat.pow_lt_pow_right (by decide) (by omega)
        rw [if_pos hc, hc', Bool.not_true, cond_false, decide_eq_true hc.1, chk_true, one_u8 (by omega), B74, if_pos ⟨e, Int.natCast_nonneg _, by omega⟩, Option.bind_some, Int.toNat_natCast, Int.toNat_natCast]
        cases fewI p (2 ^ z) <;> rfl
      · have hc' : decide (0 ≤ c ∧ c ≤ p.1 - 1) = false := decide_eq_false (by omega)
        rw [if_neg hc, hc']; rfl
    · have e' : (ck p != 0) = true := by rw [bne_iff_ne]; exact e
      rw [e', cond_true, if_neg e]
  · cases h⟩
/-! ### Serves -/
def seI (p : Pal) (sk l : List Int) : Int := if sqE p l 12 = 0 then (if (skI p sk).2 = 0 then cond ((((givI p l &&& (skI p sk).1 : Nat)) : Int) != ((skI p sk).1 : Int)) 13 0 else (skI p sk).2) else sqE p l 12
def B37 (p : Pal) (sk l : List Int) : Option Int := if fitP p = true ∧ l.length ≤ 1000 ∧ sk.length ≤ 1000 then some (seI p sk l) else none
theorem se_ok {p : Pal} {sk l : List Int} (hf : fitP p = true ∧ l.length ≤ 1000 ∧ sk.length ≤ 1000) (f : Int → Int → Option Int) (h : ∀ a b : Nat, a < 256 → b < 256 → f (a : Int) (b : Int) = some (cond ((((a &&& b : Nat)) : Int) != (b : Int)) 13 0)) :
    ((B55 p l 12).bind fun r1 => cond (r1 != 0) (some r1) ((B70 p sk).bind fun r2 => cond (r2.2 != 0) (some r2.2) ((B56 p l).bind fun r3 => f r3 r2.1))) = some (seI p sk l) := by
  rw [B55, if_pos ⟨hf.1, hf.2.1⟩, Option.bind_some, seI]
  by_cases e : sqE p l 12 = 0
  · obtain ⟨hp, hl12, hs⟩ := sq_ok.1 e
    have h7 := pow_le7 (nat7 hp).2.1
    have hsl := sk_lt hp sk
    have hg := giv_lt hp hs
    have e' : (sqE p l 12 != 0) = false := by rw [bne_eq_false_iff_eq]; exact e
    rw [e', cond_false, if_pos e, B70, if_pos ⟨ck_ok.2 hp, hf.2.2⟩, Option.bind_some]
    by_cases e2 : (skI p sk).2 = 0
    · have e2' : ((skI p sk).2 != 0) = false := by rw [bne_eq_false_iff_eq]; exact e2
      simp only [e2', cond_false, if_pos e2]
      rw [B56, if_pos (okS_ok.2 ⟨hp, hf.2.1, hs⟩), Option.bind_some]
      exact h _ _ (by omega) (by omega)
    · have e2' : ((skI p sk).2 != 0) = true := by rw [bne_iff_ne]; exact e2
      simp only [e2', cond_true, if_neg e2]
  · have e' : (sqE p l 12 != 0) = true := by rw [bne_iff_ne]; exact e
    rw [e', cond_true, if_neg e]
theorem KB37 : FnOk Try.prog 37 (F37 B37) := ok37 B55 B56 B70 KB55 KB56 KB70 B37 fun p sk l r h => ⟨0, by
  simp only [B37] at h
  split at h
  · rename_i hf
    rw [← h, m37]
    refine se_ok hf (fun r3 r21 => cond ((bAnd .u8 r3 r21) != r21) (some 13) (some 0)) fun a b ha hb => ?_
    simp only [bAnd_u8 ha hb]
    cases ((a &&& b : Nat) : Int) != (b : Int) <;> rfl
  · cases h⟩
/-- How long an answer is. -/
theorem srch_len {p : Pal} (hp : PalOk p) {want : Nat} : ∀ (k a : Nat) (st : Sr) (l : List Int), SrOk p.1.toNat st → srch p want k a st = some l → l.length ≤ 128
  | 0, _, _, _, _, h => by cases h
  | k + 1, a, st, l, hs, h => by
    simp only [srch] at h
    by_cases ha : a < st.2.length
    · rw [decide_eq_true ha, cond_true] at h
      have hsame := hs.same
      have hv := hs.rng _ (getD_mem (d := 0) ha)
      have hl := hs.len a (by omega)
      cases e : decide (st.2.getD a 0 &&& want = want) with
      | true =>
        rw [e, cond_true] at h
        obtain rfl := Option.some.inj h
        have := hs.many (nat7 hp).2.1; omega
      | false =>
        rw [e, cond_false] at h
        exact srch_len hp k (a + 1) _ l (expL_ok hv.2 hv.1 hl p.2.1 0 st hp.ink hs ha) h
    · rw [decide_eq_false ha] at h; cases h
theorem fe_len {p : Pal} {l : List Int} : (feI p l).1.length ≤ 1000 := by
  simp only [feI]
  by_cases e : ck p = 0
  · rw [if_pos e]
    split
    · cases hq : fewI p (skI p l).1 with
      | none => simp [ansE]
      | some q =>
        have := srch_len (ck_ok.1 e) 129 0 _ q (start_ok (ck_ok.1 e)) hq
        simp only [ansE]; omega
    · simp
  · rw [if_neg e]; simp

end Go.Proofs.Ytaioadjcdjmkdaa
