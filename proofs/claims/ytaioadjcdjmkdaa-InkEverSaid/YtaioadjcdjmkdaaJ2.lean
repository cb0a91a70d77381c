/-
  What the laws without the reference need.
-/
import Derived.Test.YtaioadjcdjmkdaaJ1
namespace Go.Proofs.Ytaioadjcdjmkdaa
open Go.RowKit
set_option linter.unusedVariables false

/-! ### valid palettes and sequences -/
theorem outP_false {n c : Int} (h : -1000 ≤ n ∧ n ≤ 1000) : outP n c = false ↔ 0 ≤ c ∧ c < n := by
  have : w64 (n - 1) = n - 1 := w64_small (by omega)
  simp only [outP, this, Bool.not_eq_false', decide_eq_true_eq]; omega
theorem any_out {n : Int} {l : List Int} (h : -1000 ≤ n ∧ n ≤ 1000) : l.any (outP n) = false ↔ ∀ c ∈ l, 0 ≤ c ∧ c < n := by
  rw [List.any_eq_false]
  constructor
  · intro hh c hc; have := hh c hc; rw [Bool.not_eq_true] at this; exact (outP_false h).1 this
  · intro hh c hc; rw [Bool.not_eq_true]; exact (outP_false h).2 (hh c hc)
/-- An ink of some colours. -/
def InkOk (n : Nat) (l : List Int) : Prop := l.length = n ∧ ∀ c ∈ l, 0 ≤ c ∧ c < (n : Int)
structure PalOk (p : Pal) : Prop where
  n2 : 2 ≤ p.1
  n7 : p.1 ≤ 7
  i1 : 1 ≤ p.2.1.length
  i6 : p.2.1.length ≤ 6
  ink : ∀ l ∈ p.2.1, InkOk p.1.toNat l
theorem ckInk_ok {n : Int} {l : List Int} (h : 2 ≤ n ∧ n ≤ 7) : ckInk n l = 0 ↔ InkOk n.toNat l := by
  have e := any_out (n := n) (l := l) (by omega)
  simp only [ckInk, InkOk]
  by_cases h1 : (l.length : Int) = n
  · have : ((l.length : Int) != n) = false := by rw [bne_eq_false_iff_eq]; exact h1
    rw [this, cond_false]
    cases h2 : l.any (outP n) with
    | true =>
      simp only [cond_true]
      constructor
      · intro hh; omega
      · intro hh
        have := e.2 (fun c hc => by have := hh.2 c hc; omega)
        rw [h2] at this; cases this
    | false =>
      simp only [cond_false, true_iff]
      exact ⟨by omega, fun c hc => by have := e.1 h2 c hc; omega⟩
  · have : ((l.length : Int) != n) = true := by rw [bne_iff_ne]; exact h1
    rw [this, cond_true]
    constructor
    · intro hh; omega
    · intro hh; omega
theorem ckInks_ok {n : Int} (h : 2 ≤ n ∧ n ≤ 7) : ∀ {ls : List (List Int)}, ckInks n ls = 0 ↔ ∀ l ∈ ls, InkOk n.toNat l
  | [] => by simp [ckInks]
  | l :: r => by
    simp only [ckInks, List.forall_mem_cons, ← ckInks_ok h (ls := r), ← ckInk_ok (l := l) h]
    by_cases e : ckInk n l = 0
    · simp [e]
    · have : (ckInk n l == 0) = false := by rw [beq_eq_false_iff_ne]; exact e
      rw [this, cond_false]; simp [e]
theorem ck_ok {p : Pal} : ck p = 0 ↔ PalOk p := by
  simp only [ck]
  by_cases h1 : 2 ≤ p.1 ∧ p.1 ≤ 7
  · rw [if_pos h1]
    by_cases h2 : p.2.1.length = 0
    · rw [if_pos h2]; exact ⟨fun h => by omega, fun h => by have := h.i1; omega⟩
    · rw [if_neg h2]
      by_cases h3 : p.2.1.length > 6
      · rw [if_pos h3]; exact ⟨fun h => by omega, fun h => by have := h.i6; omega⟩
      · rw [if_neg h3, ckInks_ok h1]
        exact ⟨fun h => ⟨h1.1, h1.2, by omega, by omega, h⟩, fun h => h.ink⟩
  · rw [if_neg h1]; exact ⟨fun h => by omega, fun h => absurd ⟨h.n2, h.n7⟩ h1⟩
theorem PalOk.fit {p : Pal} (h : PalOk p) : fitP p = true := by
  have h1 := h.i6
  have h2 := h.n7
  simp only [fitP, Bool.and_eq_true, decide_eq_true_eq, List.all_eq_true]
  exact ⟨by omega, fun l hl => by have := (h.ink l hl).1; omega⟩
/-- Stones of a palette. -/
def SeqOk (p : Pal) (l : List Int) : Prop := ∀ i ∈ l, 0 ≤ i ∧ i < (p.2.1.length : Int)
theorem sq_ok {p : Pal} {l : List Int} {most : Int} : sqE p l most = 0 ↔ PalOk p ∧ (l.length : Int) ≤ most ∧ SeqOk p l := by
  simp only [sqE]
  by_cases h1 : ck p = 0
  · have hp := ck_ok.1 h1
    have e := any_out (n := (p.2.1.length : Int)) (l := l) (by have := hp.i6; omega)
    rw [if_pos h1]
    by_cases h2 : (l.length : Int) > most
    · rw [if_pos h2]; exact ⟨fun h => by omega, fun h => by omega⟩
    · rw [if_neg h2]
      cases h3 : l.any (outP (p.2.1.length : Int)) with
      | true =>
        simp only [cond_true]
        exact ⟨fun h => by omega, fun h => by have := e.2 h.2.2; rw [h3] at this; cases this⟩
      | false => simp only [cond_false, true_iff]; exact ⟨hp, by omega, e.1 h3⟩
  · rw [if_neg h1]; exact ⟨fun h => absurd h h1, fun h => absurd (ck_ok.2 h.1) h1⟩
theorem getD_mem {α : Type} {l : List α} {i : Nat} {d : α} (h : i < l.length) : l.getD i d ∈ l := by
  rw [List.getD_eq_getElem?_getD, List.getElem?_eq_getElem h]; exact List.getElem_mem h
theorem PalOk.at {p : Pal} (h : PalOk p) {i : Int} (hi : 0 ≤ i ∧ i < (p.2.1.length : Int)) : InkOk p.1.toNat (p.2.1.getD i.toNat []) := h.ink _ (getD_mem (by omega))
theorem InkOk.at {n : Nat} {l : List Int} (h : InkOk n l) {c : Nat} (hc : c < n) : 0 ≤ l.getD c 0 ∧ l.getD c 0 < (n : Int) := h.2 _ (getD_mem (by rw [h.1]; exact hc))

/-! ### sets -/
def orI (l : List Int) (o c : Nat) : Nat := o ||| 2 ^ (l.getD c 0).toNat
/-- The colours of a set. -/
def cols (s : Nat) : List Nat := (List.range 7).filter s.testBit
/-- With what an ink makes of them. -/
def addI (l : List Int) (s : Nat) : Nat := (cols s).foldl (orI l) s
def colsI (s : Nat) : List Int := (cols s).map fun (c : Nat) => (c : Int)

theorem lt_bit {s n c : Nat} (h : s < 2 ^ n) (hc : s.testBit c = true) : c < n := by
  rcases Nat.lt_or_ge c n with h' | h'
  · exact h'
  · rw [Nat.testBit_lt_two_pow (Nat.lt_of_lt_of_le h (Nat.pow_le_pow_right (by decide) h'))] at hc; cases hc
theorem cols_mem {s c : Nat} : c ∈ cols s ↔ c < 7 ∧ s.testBit c = true := by simp [cols]
theorem range_filter {s n : Nat} (h : s < 2 ^ n) (hn : n ≤ 7) : (List.range n).filter s.testBit = cols s := by
  obtain ⟨k, hk⟩ : ∃ k, 7 = n + k := ⟨7 - n, by omega⟩
  unfold cols
  rw [hk, List.range_add, List.filter_append]
  have : ((List.range k).map fun x => n + x).filter s.testBit = [] := by
    rw [List.filter_eq_nil_iff]
    intro c hc
    obtain ⟨x, _, rfl⟩ := List.mem_map.1 hc
    intro hb
    have := lt_bit h hb; omega
  rw [this, List.append_nil]
theorem foldl_filter' {α β : Type} (p : α → Bool) (f : β → α → β) : ∀ (l : List α) (b : β), l.foldl (fun o c => cond (p c) (f o c) o) b = (l.filter p).foldl f b
  | [], b => rfl
  | x :: l, b => by
    rw [List.foldl_cons, List.filter_cons]
    cases p x with
    | true => rw [cond_true, if_pos rfl, List.foldl_cons]; exact foldl_filter' p f l _
    | false => rw [cond_false, if_neg (by simp)]; exact foldl_filter' p f l b
theorem orI_lt {n : Nat} {l : List Int} (h : InkOk n l) {o c : Nat} (ho : o < 2 ^ n) (hc : c < n) : orI l o c < 2 ^ n := by
  have := h.at hc
  exact Nat.or_lt_two_pow ho (Nat.pow_lt_pow_right (by decide) (by omega))
theorem le_orI (l : List Int) (o c : Nat) : o ≤ orI l o c := Nat.left_le_or
theorem foldl_orI {n : Nat} {l : List Int} (h : InkOk n l) : ∀ (cs : List Nat) (o : Nat), (∀ c ∈ cs, c < n) → o < 2 ^ n → cs.foldl (orI l) o < 2 ^ n ∧ o ≤ cs.foldl (orI l) o
  | [], o, _, ho => ⟨ho, Nat.le_refl _⟩
  | c :: cs, o, hc, ho => by
    obtain ⟨a, b⟩ := foldl_orI h cs (orI l o c) (fun x hx => hc x (by simp [hx])) (orI_lt h ho (hc c (by simp)))
    exact ⟨a, Nat.le_trans (le_orI l o c) b⟩
theorem addI_lt {n : Nat} {l : List Int} (h : InkOk n l) {s : Nat} (hs : s < 2 ^ n) : addI l s < 2 ^ n ∧ s ≤ addI l s :=
  foldl_orI h _ _ (fun c hc => lt_bit hs (cols_mem.1 hc).2) hs
theorem pow_le7 {n : Nat} (h : n ≤ 7) : 2 ^ n ≤ 128 := (Nat.pow_le_pow_right (by decide) h : 2 ^ n ≤ 2 ^ 7)
theorem cols_ne {s n : Nat} (h0 : 0 < s) (h : s < 2 ^ n) (hn : n ≤ 7) : cols s ≠ [] := fun e => by
  obtain ⟨i, hi⟩ := Nat.exists_testBit_of_ne_zero (Nat.ne_of_gt h0)
  have : i ∈ cols s := cols_mem.2 ⟨by have := lt_bit h hi; omega, hi⟩
  rw [e] at this; cases this
/-- An ink that covers everything. -/
theorem addI_flat {n : Nat} {l : List Int} {k : Int} (h : ∀ c, c < n → l.getD c 0 = k) {s : Nat} (h0 : 0 < s) (hs : s < 2 ^ n) (hn : n ≤ 7) : addI l s = s ||| 2 ^ k.toNat := by
  have main : ∀ (cs : List Nat) (o : Nat), (∀ c ∈ cs, c < n) → cs ≠ [] → cs.foldl (orI l) o = o ||| 2 ^ k.toNat := by
    intro cs
    induction cs with
    | nil => intro o _ h; exact absurd rfl h
    | cons c cs ih =>
      intro o hc _
      rw [List.foldl_cons, orI, h c (hc c (by simp))]
      by_cases e : cs = []
      · subst e; rfl
      · rw [ih _ (fun x hx => hc x (by simp [hx])) e, Nat.or_assoc, Nat.or_self]
  exact main _ _ (fun c hc => lt_bit hs (cols_mem.1 hc).2) (cols_ne h0 hs hn)

/-- What a sequence gives. -/
def givI (p : Pal) (l : List Int) : Nat := l.foldl (fun s i => addI (p.2.1.getD i.toNat []) s) 1
theorem giv_from {p : Pal} (h : PalOk p) : ∀ (l : List Int) (s : Nat), SeqOk p l → 0 < s → s < 2 ^ p.1.toNat → 0 < l.foldl (fun s i => addI (p.2.1.getD i.toNat []) s) s ∧ l.foldl (fun s i => addI (p.2.1.getD i.toNat []) s) s < 2 ^ p.1.toNat
  | [], s, _, h0, h1 => ⟨h0, h1⟩
  | i :: l, s, hl, h0, h1 => by
    obtain ⟨a, b⟩ := addI_lt (h.at (hl i (by simp))) h1
    exact giv_from h l _ (fun x hx => hl x (by simp [hx])) (Nat.lt_of_lt_of_le h0 b) a
theorem giv_lt {p : Pal} (h : PalOk p) {l : List Int} (hl : SeqOk p l) : 0 < givI p l ∧ givI p l < 2 ^ p.1.toNat :=
  giv_from h l 1 hl (by decide) (by have := h.n2; exact (Nat.one_lt_two_pow (by omega)))

/-! ### the program's sets -/
def B71 (s c : Int) : Option Bool := if 0 ≤ s ∧ s < 256 ∧ 0 ≤ c ∧ c ≤ 8 then some (s.toNat.testBit c.toNat) else none
theorem KB71 : FnOk Try.prog 71 (F71 B71) := ok71 B71 fun s c r h => ⟨0, by
  simp only [B71] at h
  split at h
  · rename_i hl
    obtain ⟨h1, h2, h3, h4⟩ := hl
    obtain ⟨s, rfl⟩ : ∃ k : Nat, s = k := ⟨s.toNat, by omega⟩
    obtain ⟨c, rfl⟩ : ∃ k : Nat, c = k := ⟨c.toNat, by omega⟩
    rw [← h, m71, decide_eq_true h3, chk_true, bit_u8 (by omega) (by omega)]; rfl
  · cases h⟩
def B57 (s : Int) : Option (List Int) := if 0 ≤ s ∧ s < 256 then some (colsI s.toNat) else none
theorem range_at {n t x : Nat} (ht : t < (List.range n).length) (hx : (List.range n).getD t 0 = x) : x = t := by
  simp only [List.length_range] at ht
  rw [← hx]; simp [List.getD, ht]
theorem filter_map_len (p : Nat → Bool) (xs : List Nat) : (xs.filter p).length ≤ xs.length := List.length_filter_le _ _
theorem KB57 : FnOk Try.prog 57 (F57 B57) := ok57 B71 KB71 B57 fun s r h => ⟨1001, by
  simp only [B57] at h
  split at h
  · rename_i hl
    obtain ⟨s, rfl⟩ : ∃ k : Nat, s = k := ⟨s.toNat, by omega⟩
    rw [← h, m57]
    have main := rangeInv (List.range 7) 0 (fun n (out : List Int) t => l57a B71 1001 (s : Int) n t out) (fun xs out => out.length + xs.length ≤ 7) (fun xs out => some (out ++ (xs.filter s.testBit).map fun (c : Nat) => (c : Int)))
      (fun n out t x rest ht hx hI ih => by
        obtain rfl := range_at ht hx
        simp only [List.length_range] at ht
        simp only [List.length_cons] at hI
        have e1 : decide ((x : Int) < 7) = true := decide_eq_true (by omega)
        have e2 : B71 (s : Int) (x : Int) = some (s.testBit x) := by rw [B71, if_pos (by omega)]; rfl
        simp only [l57a, e1, cond_true, e2, Option.bind_some, ixW (n := 7) (by omega) (by omega), chk_of (small_of (n := out.length + 1) (eb := 8) (by omega) (by decide)), List.filter_cons]
        cases s.testBit x with
        | true => rw [cond_true, ih _ (by simp; omega)]; simp
        | false => rw [cond_false, ih _ (by omega)]; simp)
      (fun n out _ => by simp [l57a]) 1001 [] (by simp) (by simp)
    rw [main]; rfl
  · cases h⟩
theorem KB87 : FnOk Try.prog 87 (F87 fun o _ => some o) := ok87 (fun o _ => some o) fun o c r h => ⟨0, by rw [← h]; rfl⟩
def B127 (l : List Int) (c : Int) : Option Int := if 0 ≤ c ∧ c < (l.length : Int) then some (l.getD c.toNat 0) else none
theorem KB127 : FnOk Try.prog 127 (F127 B127) := ok127 B127 fun l c r h => ⟨0, by
  simp only [B127] at h
  split at h
  · rename_i hl; rw [← h, m127, decide_eq_true hl]; rfl
  · cases h⟩
/-! ### the inks -/
theorem ix0 {n : Nat} (h : 0 < n) : decide (0 ≤ (0 : Int) ∧ (0 : Int) < (n : Int)) = true := decide_eq_true (by omega)
def mx (l : List Int) : Int := (l.drop 1).foldl imax (l.getD 0 0)
def mn (l : List Int) : Int := (l.drop 1).foldl imin (l.getD 0 0)
def B82 (l : List Int) : Option Int := if 0 < l.length ∧ l.length ≤ 1000 then some (mx l) else none
def B83 (l : List Int) : Option Int := if 0 < l.length ∧ l.length ≤ 1000 then some (mn l) else none
theorem KB82 : FnOk Try.prog 82 (F82 B82) := ok82 B82 fun l r h => ⟨1001, by
  simp only [B82] at h
  split at h
  · rename_i hl
    rw [← h, m82, decide_eq_false (by omega : ¬ (l.length : Int) < 1), cond_false, ix0 hl.1, chk_true]
    exact rangeFrom l 0 (fun n m t => l82a 1001 l n m t) (fun _ xs m => some (xs.foldl imax m))
      (fun n m t x rest ht hx _ _ ih => by
        simp only [l82a, ixA ht, ixB ht, cond_true, chk_true, Int.toNat_natCast, ixW ht (by omega), hx, ih, List.foldl_cons])
      (fun n m => by simp only [l82a, ixE, cond_false]; rfl) 1001 (l.getD 0 0) 1 (by omega) (by omega)
  · cases h⟩
theorem KB83 : FnOk Try.prog 83 (F83 B83) := ok83 B83 fun l r h => ⟨1001, by
  simp only [B83] at h
  split at h
  · rename_i hl
    rw [← h, m83, decide_eq_false (by omega : ¬ (l.length : Int) < 1), cond_false, ix0 hl.1, chk_true]
    exact rangeFrom l 0 (fun n m t => l83a 1001 l n m t) (fun _ xs m => some (xs.foldl imin m))
      (fun n m t x rest ht hx _ _ ih => by
        simp only [l83a, ixA ht, ixB ht, cond_true, chk_true, Int.toNat_natCast, ixW ht (by omega), hx, ih, List.foldl_cons])
      (fun n m => by simp only [l83a, ixE, cond_false]; rfl) 1001 (l.getD 0 0) 1 (by omega) (by omega)
  · cases h⟩
theorem imax_le : ∀ (xs : List Int) (m : Int), m ≤ xs.foldl imax m ∧ ∀ x ∈ xs, x ≤ xs.foldl imax m
  | [], m => ⟨Int.le_refl _, fun x h => by cases h⟩
  | y :: xs, m => by
    obtain ⟨a, b⟩ := imax_le xs (imax m y)
    have e : m ≤ imax m y ∧ y ≤ imax m y := by simp only [imax]; split <;> omega
    rw [List.foldl_cons]
    refine ⟨by omega, fun x hx => ?_⟩
    rcases List.mem_cons.1 hx with rfl | hx
    · omega
    · exact b x hx
theorem imin_le : ∀ (xs : List Int) (m : Int), xs.foldl imin m ≤ m ∧ ∀ x ∈ xs, xs.foldl imin m ≤ x
  | [], m => ⟨Int.le_refl _, fun x h => by cases h⟩
  | y :: xs, m => by
    obtain ⟨a, b⟩ := imin_le xs (imin m y)
    have e : imin m y ≤ m ∧ imin m y ≤ y := by simp only [imin]; split <;> omega
    rw [List.foldl_cons]
    refine ⟨by omega, fun x hx => ?_⟩
    rcases List.mem_cons.1 hx with rfl | hx
    · omega
    · exact b x hx
theorem flat_of_mx {l : List Int} (h : mx l = mn l) : ∀ c, c < l.length → l.getD c 0 = l.getD 0 0 := by
  cases l with
  | nil => intro c hc; simp at hc
  | cons a l =>
    simp only [mx, mn, List.drop_succ_cons, List.drop_zero, List.getD_cons_zero] at h
    obtain ⟨a1, a2⟩ := imax_le l a
    obtain ⟨b1, b2⟩ := imin_le l a
    intro c hc
    cases c with
    | zero => rfl
    | succ c =>
      have hm : l.getD c 0 ∈ l := getD_mem (by simpa using hc)
      have h1 := a2 _ hm
      have h2 := b2 _ hm
      show l.getD c 0 = a
      omega
abbrev Ik := Int ⊕ (List Int ⊕ Unit)
def kd (l : List Int) : Ik := cond (mx l == mn l) (.inl (l.getD 0 0)) (.inr (.inl l))
def B61 (p : Pal) (i : Int) : Option Ik := if 0 ≤ i ∧ i < (p.2.1.length : Int) ∧ 0 < (p.2.1.getD i.toNat []).length ∧ (p.2.1.getD i.toNat []).length ≤ 1000 then some (kd (p.2.1.getD i.toNat [])) else none
theorem KB61 : FnOk Try.prog 61 (F61 B61) := ok61 B82 B83 KB82 KB83 B61 fun p i r h => ⟨0, by
  simp only [B61] at h
  split at h
  · rename_i hl
    obtain ⟨h1, h2, h3, h4⟩ := hl
    rw [← h, m61, decide_eq_true ⟨h1, h2⟩, chk_true, B82, B83, if_pos ⟨h3, h4⟩, if_pos ⟨h3, h4⟩, Option.bind_some, Option.bind_some, ix0 h3, chk_true, kd]
    cases mx (p.2.1.getD i.toNat []) == mn (p.2.1.getD i.toNat []) <;> rfl
  · cases h⟩
theorem PalOk.B61 {p : Pal} (h : PalOk p) {i : Int} (hi : 0 ≤ i ∧ i < (p.2.1.length : Int)) : Go.Proofs.Ytaioadjcdjmkdaa.B61 p i = some (kd (p.2.1.getD i.toNat [])) := by
  have := (h.at hi).1
  have h2 := h.n2
  have h7 := h.n7
  exact if_pos ⟨hi.1, hi.2, by omega, by omega⟩
/-! ### print -/
def okThin (s : Nat) (l : List Int) : Bool := (cols s).all fun c => decide (c < l.length) && decide (0 ≤ l.getD c 0) && decide (l.getD c 0 < 7)
def B68 (s : Int) (k : Ik) : Option Int := if 0 ≤ s ∧ s < 128 then (match k with
  | .inl o => if 0 ≤ o ∧ o < 8 then some ((s.toNat ||| 2 ^ o.toNat : Nat) : Int) else none
  | .inr (.inl l) => if okThin s.toNat l then some (addI l s.toNat : Int) else none
  | .inr (.inr _) => none) else none
theorem KB68 : FnOk Try.prog 68 (F68 B68) := ok68 B127 B57 (fun o _ => some o) KB127 KB57 KB87 B68 fun s k r h => ⟨1001, by
  simp only [B68] at h
  split at h
  · rename_i hs
    obtain ⟨s, rfl⟩ : ∃ k : Nat, s = k := ⟨s.toNat, by omega⟩
    have hs' : s < 128 := by omega
    split at h
    · rename_i o
      split at h
      · rename_i ho
        obtain ⟨o, rfl⟩ : ∃ k : Nat, o = k := ⟨o.toNat, by omega⟩
        have hp : 2 ^ o < 2 ^ 8 := Nat.pow_lt_pow_right (by decide) (by omega)
        rw [← h, m68]
        simp only [inL, Option.isSome_some, cond_true, Option.getD_some, Option.bind_some, decide_eq_true ho.1, chk_true]
        rw [one_u8 (by omega), bOr_u8 (by omega) hp]; rfl
      · cases h
    · rename_i l
      split at h
      · rename_i ho
        simp only [okThin, Int.toNat_natCast, List.all_eq_true, Bool.and_eq_true, decide_eq_true_eq] at ho
        rw [← h, m68]
        simp only [inL, Option.isSome_none, cond_false, B57, if_pos (show 0 ≤ (s : Int) ∧ (s : Int) < 256 by omega), Option.bind_some, Int.toNat_natCast]
        have hlen : (colsI s).length ≤ 7 := by simp only [colsI, List.length_map, cols]; exact Nat.le_trans (List.length_filter_le _ _) (by simp)
        have main := rangeInv (colsI s) 0 (fun n (o : Nat) t => l68a B127 (fun s => if 0 ≤ s ∧ s < 256 then some (colsI s.toNat) else none) (fun o _ => some o) 1001 (.inr (.inl l)) (colsI s) n (o : Int) t) (fun xs o => o < 128 ∧ ∀ x ∈ xs, 0 ≤ x ∧ x.toNat < l.length ∧ 0 ≤ l.getD x.toNat 0 ∧ l.getD x.toNat 0 < 7) (fun xs o => some ((xs.foldl (fun o x => orI l o x.toNat) o : Nat) : Int))
          (fun n o t x rest ht hx hI ih => by
            obtain ⟨x0, x1, x2, x3⟩ := hI.2 x (List.mem_cons_self ..)
            obtain ⟨z, hz⟩ : ∃ z : Nat, l.getD x.toNat 0 = z := ⟨(l.getD x.toNat 0).toNat, by omega⟩
            have hp : 2 ^ z < 2 ^ 7 := Nat.pow_lt_pow_right (by decide) (by omega)
            have hb : B127 l x = some (z : Int) := by rw [B127, if_pos (by omega), hz]
            have ho : o ||| 2 ^ z < 2 ^ 7 := Nat.or_lt_two_pow hI.1 hp
            simp only [l68a, ixA ht, ixB ht, cond_true, chk_true, Int.toNat_natCast, ixW ht (by omega), hx, ifElim, hb, Option.bind_some, decide_eq_true (show (0 : Int) ≤ z by omega)]
            have e1 := one_u8 (c := z) (by omega)
            simp only [Int.toNat_natCast] at e1
            rw [e1, bOr_u8 (by omega) (by omega), ih _ ⟨ho, fun y hy => hI.2 y (by simp [hy])⟩, List.foldl_cons]
            simp only [orI, hz, Int.toNat_natCast])
          (fun n o _ => by simp only [l68a, ixE, cond_false]; rfl) 1001 s (by omega) ⟨hs', fun x hx => by
            simp only [colsI, List.mem_map] at hx
            obtain ⟨c, hc, rfl⟩ := hx
            have := ho c hc
            simp only [Int.toNat_natCast]
            exact ⟨by omega, this.1.1, this.1.2, this.2⟩⟩
        rw [show ((s : Nat) : Int) = ((s : Nat) : Int) from rfl] at main
        refine main.trans ?_
        simp only [colsI, List.foldl_map, Int.toNat_natCast, addI]
      · cases h
    · cases h
  · cases h⟩
theorem print_ok {n : Nat} {l : List Int} (h : InkOk n l) (hn : 2 ≤ n ∧ n ≤ 7) {s : Nat} (h0 : 0 < s) (hs : s < 2 ^ n) : B68 (s : Int) (kd l) = some ((addI l s : Nat) : Int) := by
  have h7 := pow_le7 hn.2
  unfold B68
  rw [if_pos (by omega), kd]
  by_cases e : mx l = mn l
  · have e' : (mx l == mn l) = true := by rw [beq_iff_eq]; exact e
    have h1 := h.at (c := 0) (by omega)
    rw [e', cond_true]
    simp only
    rw [if_pos (by omega), Int.toNat_natCast, addI_flat (n := n) (fun c hc => flat_of_mx e c (by rw [h.1]; exact hc)) h0 hs hn.2]
  · have e' : (mx l == mn l) = false := by rw [beq_eq_false_iff_ne]; exact e
    rw [e', cond_false]
    simp only
    rw [if_pos, Int.toNat_natCast]
    simp only [okThin, Int.toNat_natCast, List.all_eq_true, Bool.and_eq_true, decide_eq_true_eq]
    intro c hc
    have hc' := lt_bit hs (cols_mem.1 hc).2
    have := h.at hc'
    exact ⟨⟨by rw [h.1]; exact hc', this.1⟩, by omega⟩

end Go.Proofs.Ytaioadjcdjmkdaa
