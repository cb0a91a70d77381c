/-
  What the laws without the reference need.
-/
import Derived.Test.YtaioadjcdjmkdaaJ3
namespace Go.Proofs.Ytaioadjcdjmkdaa
open Go.RowKit
set_option linter.unusedVariables false

/-! ### a round of all inks -/
def rdI (p : Pal) (s : Nat) : Nat := p.2.1.foldl (fun s k => addI k s) s
def itI (p : Pal) : Nat → Nat
  | 0 => 1
  | k + 1 => rdI p (itI p k)
theorem rd_from {n : Nat} : ∀ (ks : List (List Int)) (s : Nat), (∀ k ∈ ks, InkOk n k) → 0 < s → s < 2 ^ n → 0 < ks.foldl (fun s k => addI k s) s ∧ ks.foldl (fun s k => addI k s) s < 2 ^ n
  | [], s, _, h0, h1 => ⟨h0, h1⟩
  | k :: ks, s, h, h0, h1 => by
    obtain ⟨a, b⟩ := addI_lt (h k (by simp)) h1
    exact rd_from ks _ (fun x hx => h x (by simp [hx])) (Nat.lt_of_lt_of_le h0 b) a
theorem it_lt {p : Pal} (h : PalOk p) : ∀ k, 0 < itI p k ∧ itI p k < 2 ^ p.1.toNat
  | 0 => ⟨Nat.zero_lt_one, (show 1 < 2 ^ p.1.toNat from Nat.one_lt_two_pow (by have := (nat7 h).1; omega))⟩
  | k + 1 => rd_from p.2.1 _ h.ink (it_lt h k).1 (it_lt h k).2
theorem bit_orI {l : List Int} {o c i : Nat} (h : o.testBit i = true) : (orI l o c).testBit i = true := by
  rw [orI, Nat.testBit_or, h, Bool.true_or]
theorem bit_fold {l : List Int} {i : Nat} : ∀ (cs : List Nat) (o : Nat), o.testBit i = true → (cs.foldl (orI l) o).testBit i = true
  | [], o, h => h
  | c :: cs, o, h => bit_fold cs _ (bit_orI h)
theorem bit_rd {i : Nat} : ∀ (ks : List (List Int)) (s : Nat), s.testBit i = true → (ks.foldl (fun s k => addI k s) s).testBit i = true
  | [], s, h => h
  | k :: ks, s, h => bit_rd ks _ (bit_fold _ _ h)
theorem cols_sub {s t : Nat} (h : ∀ c, s.testBit c = true → t.testBit c = true) : cols s = (cols t).filter s.testBit := by
  simp only [cols, List.filter_filter]
  apply List.filter_congr
  intro c _
  cases e : s.testBit c with
  | true => rw [h c e]; rfl
  | false => rfl
theorem cols_lt {s t : Nat} (h : ∀ c, s.testBit c = true → t.testBit c = true) (hs : s < 2 ^ 7) (ht : t < 2 ^ 7) (hne : s ≠ t) : (cols s).length < (cols t).length := by
  have hsub : (cols s).Sublist (cols t) := by rw [cols_sub h]; exact List.filter_sublist
  rcases Nat.lt_or_ge (cols s).length (cols t).length with h' | h'
  · exact h'
  · exfalso
    have e := hsub.eq_of_length (Nat.le_antisymm hsub.length_le h')
    refine hne (Nat.eq_of_testBit_eq fun c => ?_)
    rw [Bool.eq_iff_iff]
    constructor
    · exact h c
    · intro hb
      have : c ∈ cols t := cols_mem.2 ⟨lt_bit ht hb, hb⟩
      rw [← e] at this
      exact (cols_mem.1 this).2
theorem cols_le {s n : Nat} (h : s < 2 ^ n) (hn : n ≤ 7) : (cols s).length ≤ n := by
  rw [← range_filter h hn]
  exact Nat.le_trans (List.length_filter_le _ _) (by simp)
/-- A round more, or nothing new. -/
theorem it_grow {p : Pal} (h : PalOk p) : ∀ k, rdI p (itI p k) = itI p k ∨ k + 1 ≤ (cols (itI p k)).length
  | 0 => .inr (by show 1 ≤ (cols 1).length; decide)
  | k + 1 => by
    have h7 : 2 ^ p.1.toNat ≤ 2 ^ 7 := Nat.pow_le_pow_right (by decide) (nat7 h).2.1
    rcases it_grow h k with e | e
    · left; show rdI p (rdI p (itI p k)) = rdI p (itI p k); rw [e, e]
    · by_cases hf : rdI p (itI p k) = itI p k
      · left; show rdI p (rdI p (itI p k)) = rdI p (itI p k); rw [hf, hf]
      · right
        have := cols_lt (s := itI p k) (t := itI p (k + 1)) (fun c hc => bit_rd _ _ hc) (Nat.lt_of_lt_of_le (it_lt h k).2 h7) (Nat.lt_of_lt_of_le (it_lt h (k + 1)).2 h7) (fun e => hf e.symm)
        omega
theorem it_fix {p : Pal} (h : PalOk p) : rdI p (itI p p.1.toNat) = itI p p.1.toNat := by
  rcases it_grow h p.1.toNat with e | e
  · exact e
  · have := cols_le (it_lt h p.1.toNat).2 (nat7 h).2.1; omega
theorem it_same {p : Pal} {k : Nat} (e : rdI p (itI p k) = itI p k) : ∀ j, itI p (k + j) = itI p k
  | 0 => rfl
  | j + 1 => by show rdI p (itI p (k + j)) = _; rw [it_same e j, e]
theorem it_eq {p : Pal} (h : PalOk p) {k : Nat} (e : rdI p (itI p k) = itI p k) : itI p k = itI p p.1.toNat := by
  rcases Nat.le_total k p.1.toNat with h1 | h1
  · obtain ⟨j, hj⟩ := Nat.exists_eq_add_of_le h1
    rw [hj]; exact (it_same e j).symm
  · obtain ⟨j, hj⟩ := Nat.exists_eq_add_of_le h1
    rw [hj]; exact it_same (it_fix h) j

/-! ### Ever -/
def evI (p : Pal) : List Int × Int := if ck p = 0 then (colsI (itI p p.1.toNat), 0) else ([], ck p)
def B29 (p : Pal) : Option (List Int × Int) := if fitP p then some (evI p) else none
def lastI (p : Pal) : Nat → Nat
  | 0 => 0
  | k + 1 => itI p k
theorem KB29 : FnOk Try.prog 29 (F29 B29) := ok29 B24 B57 B61 B68 KB24 KB57 KB61 KB68 B29 fun p r h => ⟨1001, by
  simp only [B29] at h
  split at h
  · rename_i hf
    rw [← h, m29, B24, if_pos hf, Option.bind_some, evI]
    by_cases e : ck p = 0
    · have hp := ck_ok.1 e
      obtain ⟨n2, n7, hn⟩ := nat7 hp
      have h7 := pow_le7 n7
      have e' : (ck p != 0) = false := by rw [bne_eq_false_iff_eq]; exact e
      rw [e', cond_false, if_pos e]
      have inner : ∀ (s : Nat) (s0 : Int) (rec : Int → Int → Option (List Int × Int)), 0 < s → s < 2 ^ p.1.toNat → l29b B24 B57 B61 B68 1001 p s0 rec 1001 (s : Int) 0 = rec (rdI p s : Int) s0 := fun s s0 rec h0 h1 => by
        exact rangeIx p.2.1 [] (fun n (s : Nat) t => l29b B24 B57 B61 B68 1001 p s0 rec n (s : Int) t) (fun _ xs s => (∀ k ∈ xs, InkOk p.1.toNat k) ∧ 0 < s ∧ s < 2 ^ p.1.toNat) (fun _ xs s => rec ((xs.foldl (fun s k => addI k s) s : Nat) : Int) s0)
          (fun n s t x rest ht hx hI ih => by
            have hk := hI.1 x (List.mem_cons_self ..)
            obtain ⟨a, b⟩ := addI_lt hk hI.2.2
            have e1 := hp.B61 (i := (t : Int)) (by omega)
            rw [Int.toNat_natCast, hx] at e1
            simp only [l29b, ixA ht, cond_true, e1, Option.bind_some, print_ok hk ⟨n2, n7⟩ hI.2.1 hI.2.2, ixW ht (by have := hp.i6; omega)]
            exact ih _ ⟨fun y hy => hI.1 y (by simp [hy]), Nat.lt_of_lt_of_le hI.2.1 b, a⟩)
          (fun n s _ => by simp only [l29b, ixE, cond_false]; rfl) 1001 s (by have := hp.i6; omega) ⟨hp.ink, h0, h1⟩
      have outer : ∀ (j k m : Nat), k + j = p.1.toNat + 1 → j < m → l29a B24 B57 B61 B68 1001 p m (itI p k : Int) (lastI p k : Int) = some (colsI (itI p p.1.toNat), 0) := by
        have fin : ∀ (k m : Nat), itI p k = lastI p k → itI p k = itI p p.1.toNat → 0 < m → l29a B24 B57 B61 B68 1001 p m (itI p k : Int) (lastI p k : Int) = some (colsI (itI p p.1.toNat), 0) := fun k m h1 h2 h3 => by
          obtain ⟨m, rfl⟩ : ∃ q, m = q + 1 := ⟨m - 1, by omega⟩
          have := (it_lt hp p.1.toNat).2
          simp only [l29a, ← h1, bne_self_eq_false, cond_false, h2]
          rw [B57, if_pos (by omega)]; rfl
        intro j
        induction j with
        | zero =>
          intro k m hk hm
          obtain rfl : k = p.1.toNat + 1 := by omega
          refine fin _ _ (it_fix hp) (it_fix hp) (by omega)
        | succ j ih =>
          intro k m hk hm
          by_cases hl : itI p k = lastI p k
          · refine fin k m hl (it_eq hp ?_) (by omega)
            cases k with
            | zero => cases hl
            | succ k => exact congrArg (rdI p) hl
          · obtain ⟨m, rfl⟩ : ∃ q, m = q + 1 := ⟨m - 1, by omega⟩
            have hb : ((itI p k : Int) != (lastI p k : Int)) = true := by rw [bne_iff_ne]; omega
            simp only [l29a, hb, cond_true]
            rw [inner _ _ _ (it_lt hp k).1 (it_lt hp k).2]
            exact ih (k + 1) m (by omega) (by omega)
      exact outer (p.1.toNat + 1) 0 1001 (by omega) (by omega)
    · have e' : (ck p != 0) = true := by rw [bne_iff_ne]; exact e
      rw [e', cond_true, if_neg e]
  · cases h⟩
def B69 (p : Pal) : Option Int := if ck p = 0 then some (itI p p.1.toNat : Int) else none
/-! ### lists of colours -/
def skL (n : Int) : List Int → Int → Nat → Nat × Int
  | [], _, s => (s, 0)
  | c :: r, last, s => cond (decide (0 ≤ c ∧ c ≤ n - 1)) (cond (decide (c ≤ last)) (0, 7) (skL n r c (s ||| 2 ^ c.toNat))) (0, 5)
def skI (p : Pal) (l : List Int) : Nat × Int := skL p.1 l (-1) 0
def B70 (p : Pal) (l : List Int) : Option (Int × Int) := if ck p = 0 ∧ l.length ≤ 1000 then some (((skI p l).1 : Int), (skI p l).2) else none
theorem skL_lt {N : Nat} : ∀ (l : List Int) (last : Int) (s : Nat), s < 2 ^ N → (skL (N : Int) l last s).1 < 2 ^ N
  | [], _, s, h => h
  | c :: r, last, s, h => by
    rw [skL]
    cases e : decide (0 ≤ c ∧ c ≤ (N : Int) - 1) with
    | false => exact Nat.two_pow_pos N
    | true =>
      have hc := of_decide_eq_true e
      rw [cond_true]
      cases decide (c ≤ last) with
      | true => exact Nat.two_pow_pos N
      | false => exact skL_lt r c _ (Nat.or_lt_two_pow h (Nat.pow_lt_pow_right (by decide) (by omega)))
theorem sk_lt {p : Pal} (h : PalOk p) (l : List Int) : (skI p l).1 < 2 ^ p.1.toNat := by
  have := skL_lt (N := p.1.toNat) l (-1) 0 (Nat.two_pow_pos _)
  rw [← (nat7 h).2.2] at this; exact this
theorem KB70 : FnOk Try.prog 70 (F70 B70) := ok70 B63 KB63 B70 fun p l r h => ⟨1001, by
  simp only [B70] at h
  split at h
  · rename_i hc
    have hp := ck_ok.1 hc.1
    obtain ⟨n2, n7, hn⟩ := nat7 hp
    have h7 := pow_le7 n7
    have ew : w64 (p.1 - 1) = p.1 - 1 := w64_small (by omega)
    rw [← h, m70]
    have main := rangeInv l 0 (fun n (s : Nat × Int) t => l70a B63 1001 p l n (s.1 : Int) s.2 t) (fun xs s => s.1 < 2 ^ p.1.toNat) (fun xs s => some (((skL p.1 xs s.2 s.1).1 : Int), (skL p.1 xs s.2 s.1).2))
      (fun n s t x rest ht hx hI ih => by
        simp only [l70a, ixA ht, ixB ht, cond_true, chk_true, Int.toNat_natCast, hx, B63, ew, Option.bind_some, skL]
        cases e : decide (0 ≤ x ∧ x ≤ p.1 - 1) with
        | false => rfl
        | true =>
          have hxx := of_decide_eq_true e
          obtain ⟨z, rfl⟩ : ∃ z : Nat, x = z := ⟨x.toNat, by omega⟩
          simp only [Bool.not_true, cond_false, cond_true]
          cases decide ((z : Int) ≤ s.2) with
          | true => rfl
          | false =>
            have hp2 : 2 ^ z < 2 ^ p.1.toNat := Nat.pow_lt_pow_right (by decide) (by omega)
            simp only [cond_false, decide_eq_true hxx.1, chk_true, one_u8 (c := z) (by omega), ixW ht (by omega)]
            rw [bOr_u8 (by omega) (by omega)]
            exact ih ((s.1 ||| 2 ^ z), (z : Int)) (Nat.or_lt_two_pow hI hp2))
      (fun n s _ => by simp only [l70a, ixE, cond_false]; rfl) 1001 (0, -1) (by omega) (Nat.two_pow_pos _)
    exact main
  · cases h⟩
/-! ### Excludes -/
def exI (p : Pal) (s c : Nat) : Int := cond (!s.testBit 0 || p.2.1.any fun k => addI k s != s) 22 (cond (s.testBit c) 13 0)
def ecI (p : Pal) (l : List Int) (c : Int) : Int := if ck p = 0 then (if 0 ≤ c ∧ c < p.1 then (if (skI p l).2 = 0 then exI p (skI p l).1 c.toNat else (skI p l).2) else 4) else ck p
def B31 (p : Pal) (l : List Int) (c : Int) : Option Int := if fitP p = true ∧ l.length ≤ 1000 then some (ecI p l c) else none
theorem KB31 : FnOk Try.prog 31 (F31 B31) := ok31 B24 B61 B63 B68 B70 B71 KB24 KB61 KB63 KB68 KB70 KB71 B31 fun p l c r h => ⟨1001, by
  simp only [B31] at h
  split at h
  · rename_i hf
    rw [← h, m31, B24, if_pos hf.1, Option.bind_some, ecI]
    by_cases e : ck p = 0
    · have hp := ck_ok.1 e
      obtain ⟨n2, n7, hn⟩ := nat7 hp
      have h7 := pow_le7 n7
      have ew : w64 (p.1 - 1) = p.1 - 1 := w64_small (by omega)
      have e' : (ck p != 0) = false := by rw [bne_eq_false_iff_eq]; exact e
      rw [e', cond_false, if_pos e, B63, Option.bind_some, ew]
      by_cases hc : 0 ≤ c ∧ c < p.1
      · have hc' : decide (0 ≤ c ∧ c ≤ p.1 - 1) = true := decide_eq_true (by omega)
        rw [if_pos hc, hc', Bool.not_true, cond_false, B70, if_pos ⟨e, hf.2⟩, Option.bind_some]
        have hsl := sk_lt hp l
        generalize hsk : skI p l = sk at *
        obtain ⟨s, se⟩ := sk
        simp only at hsl
        simp only
        by_cases e2 : se = 0
        · subst e2
          have b0 : B71 (s : Int) 0 = some (s.testBit 0) := by rw [B71, if_pos (by omega)]; rfl
          have bc : B71 (s : Int) c = some (s.testBit c.toNat) := by rw [B71, if_pos (by omega)]; rfl
          simp only [bne_self_eq_false, cond_false, b0, Option.bind_some, if_true]
          have main := rangeIx p.2.1 [] (fun n (o : Bool) t => l31a B24 B61 B63 B68 B70 B71 1001 p c ((s : Int), 0) n o t) (fun t xs o => (∀ k ∈ xs, InkOk p.1.toNat k) ∧ (o = false → 0 < s)) (fun t xs o => some (cond (o || xs.any fun k => addI k s != s) 22 (cond (s.testBit c.toNat) 13 0)))
            (fun n o t x rest ht hx hI ih => by
              have hk := hI.1 x (List.mem_cons_self ..)
              have hr : ∀ k ∈ rest, InkOk p.1.toNat k := fun y hy => hI.1 y (by simp [hy])
              have e1 := hp.B61 (i := (t : Int)) (by omega)
              rw [Int.toNat_natCast, hx] at e1
              cases o with
              | true =>
                simp only [l31a, ixA ht, cond_true, ixW ht (by have := hp.i6; omega)]
                rw [ih true ⟨hr, fun h => by cases h⟩]; simp
              | false =>
                have h0 := hI.2 rfl
                have hb : (((addI x s : Nat) : Int) != (s : Int)) = (addI x s != s) := by
                  rw [Bool.eq_iff_iff, bne_iff_ne, bne_iff_ne]; omega
                simp only [l31a, ixA ht, cond_true, cond_false, e1, Option.bind_some, print_ok hk ⟨n2, n7⟩ h0 hsl, hb, ixW ht (by have := hp.i6; omega)]
                rw [ih _ ⟨hr, fun _ => h0⟩, List.any_cons]; simp)
            (fun n o _ => by
              simp only [l31a, ixE, cond_false, bc, Option.bind_some, List.any_nil, Bool.or_false]
              cases o with
              | true => rfl
              | false => cases s.testBit c.toNat <;> rfl) 1001 (!s.testBit 0) (by have := hp.i6; omega) ⟨hp.ink, fun h0 => by
                rcases Nat.eq_zero_or_pos s with rfl | h1
                · simp at h0
                · exact h1⟩
          rw [main]; rfl
        · have e2' : (se != 0) = true := by rw [bne_iff_ne]; exact e2
          rw [if_neg e2, e2', cond_true]
      · have hc' : decide (0 ≤ c ∧ c ≤ p.1 - 1) = false := decide_eq_false (by omega)
        rw [if_neg hc, hc']; rfl
    · have e' : (ck p != 0) = true := by rw [bne_iff_ne]; exact e
      rw [e', cond_true, if_neg e]
  · cases h⟩

end Go.Proofs.Ytaioadjcdjmkdaa
