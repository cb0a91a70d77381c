/-
  What the laws without the reference need.
-/
import Derived.Test.YtaioadjcdjmkdaaJ5
import Derived.Test.YtaioadjcdjmkdaaOUN
namespace Go.Proofs.Ytaioadjcdjmkdaa
open Go.RowKit
set_option linter.unusedVariables false

/-! ### choices -/
def Rch (p : Pal) (l : List Int) (c k : Nat) : Prop := ∃ ch : List Bool, ch.length = l.length ∧ clI p l ch 0 = (c : Int) ∧ ch.count true = k
theorem cl_rng {p : Pal} (hp : PalOk p) : ∀ (l : List Int) (ch : List Bool) (c : Int), SeqOk p l → 0 ≤ c ∧ c < (p.1.toNat : Int) → 0 ≤ clI p l ch c ∧ clI p l ch c < (p.1.toNat : Int)
  | [], _, c, _, h => by simp only [clI]; exact h
  | i :: l, [], c, _, h => by simp only [clI]; exact h
  | i :: l, b :: ch, c, hs, h => by
    have hk := hp.at (hs i (by simp))
    have hke := hk.at (c := c.toNat) (by omega)
    simp only [clI]
    refine cl_rng hp l ch _ (fun x hx => hs x (by simp [hx])) ?_
    cases b with
    | true => exact hke
    | false => exact h
theorem n_pos {p : Pal} (hp : PalOk p) : (0 : Int) ≤ 0 ∧ (0 : Int) < (p.1.toNat : Int) := by have := hp.n2; omega
theorem Rch.lt {p : Pal} (hp : PalOk p) {l : List Int} (hs : SeqOk p l) {c k : Nat} (h : Rch p l c k) : c < p.1.toNat := by
  obtain ⟨ch, _, h2, _⟩ := h
  have := cl_rng hp l ch 0 hs (n_pos hp); omega
theorem Rch_nil {p : Pal} {c k : Nat} : Rch p [] c k ↔ c = 0 ∧ k = 0 := by
  constructor
  · rintro ⟨ch, h1, h2, h3⟩
    obtain rfl := List.eq_nil_of_length_eq_zero h1
    simp [clI] at h2; simp at h3; omega
  · rintro ⟨rfl, rfl⟩; exact ⟨[], rfl, rfl, rfl⟩
theorem Rch_snoc {p : Pal} (hp : PalOk p) {l : List Int} (hs : SeqOk p l) {x : Int} {c k : Nat} :
    Rch p (l ++ [x]) c k ↔ Rch p l c k ∨ ∃ c' k', Rch p l c' k' ∧ k = k' + 1 ∧ (c : Int) = (p.2.1.getD x.toNat []).getD c' 0 := by
  constructor
  · rintro ⟨ch, h1, h2, h3⟩
    rcases List.eq_nil_or_concat ch with rfl | ⟨ch', b, rfl⟩
    · simp at h1
    · rw [List.concat_eq_append] at *
      have hl : l.length = ch'.length := by simp at h1; omega
      rw [clI_snoc _ _ _ _ _ _ hl] at h2
      cases b with
      | false => exact .inl ⟨ch', hl.symm, h2, by simpa using h3⟩
      | true =>
        have hr := cl_rng hp l ch' 0 hs (n_pos hp)
        exact .inr ⟨(clI p l ch' 0).toNat, ch'.count true, ⟨ch', hl.symm, by omega, rfl⟩, by simp at h3; omega, by rw [cond_true] at h2; exact h2.symm⟩
  · rintro (⟨ch, h1, h2, h3⟩ | ⟨c', k', ⟨ch, h1, h2, h3⟩, h4, h5⟩)
    · exact ⟨ch ++ [false], by simp [h1], by rw [clI_snoc _ _ _ _ _ _ h1.symm]; exact h2, by simpa using h3⟩
    · exact ⟨ch ++ [true], by simp [h1], by rw [clI_snoc _ _ _ _ _ _ h1.symm, cond_true, h2, Int.toNat_natCast]; exact h5.symm, by simp; omega⟩

/-! ### sets, bit by bit -/
theorem fold_bit {l : List Int} {j : Nat} : ∀ (cs : List Nat) (o : Nat), (cs.foldl (orI l) o).testBit j = true ↔ o.testBit j = true ∨ ∃ c ∈ cs, (l.getD c 0).toNat = j
  | [], o => by simp
  | c :: cs, o => by
    rw [List.foldl_cons, fold_bit cs, orI, Nat.testBit_or, Nat.testBit_two_pow]
    simp only [Bool.or_eq_true, decide_eq_true_eq, List.mem_cons, exists_eq_or_imp]
    constructor
    · rintro ((h | h) | h)
      · exact .inl h
      · exact .inr (.inl h)
      · exact .inr (.inr h)
    · rintro (h | h | h)
      · exact .inl (.inl h)
      · exact .inl (.inr h)
      · exact .inr h
theorem add_bit {n : Nat} {l : List Int} {s : Nat} (hs : s < 2 ^ n) (hn : n ≤ 7) {j : Nat} : (addI l s).testBit j = true ↔ s.testBit j = true ∨ ∃ c, s.testBit c = true ∧ (l.getD c 0).toNat = j := by
  rw [addI, fold_bit]
  refine or_congr Iff.rfl ⟨fun ⟨c, hc, h⟩ => ⟨c, (cols_mem.1 hc).2, h⟩, fun ⟨c, hc, h⟩ => ⟨c, cols_mem.2 ⟨?_, hc⟩, h⟩⟩
  have := lt_bit hs hc; omega
theorem giv_bit_from {p : Pal} (hp : PalOk p) : ∀ (rest q : List Int) (s : Nat), SeqOk p q → SeqOk p rest → 0 < s → s < 2 ^ p.1.toNat → (∀ c, s.testBit c = true ↔ ∃ k, Rch p q c k) →
    ∀ c, (rest.foldl (fun s i => addI (p.2.1.getD i.toNat []) s) s).testBit c = true ↔ ∃ k, Rch p (q ++ rest) c k
  | [], q, s, _, _, _, _, h => by rw [List.append_nil]; exact h
  | x :: rest, q, s, hq, hr, h0, h1, h => by
    have hx := hr x (by simp)
    have hk := hp.at hx
    obtain ⟨a, b⟩ := addI_lt hk h1
    have hqx : SeqOk p (q ++ [x]) := fun y hy => by
      rcases List.mem_append.1 hy with hy | hy
      · exact hq y hy
      · simp at hy; subst hy; exact hx
    have := giv_bit_from hp rest (q ++ [x]) (addI (p.2.1.getD x.toNat []) s) hqx (fun y hy => hr y (by simp [hy])) (Nat.lt_of_lt_of_le h0 b) a (fun c => by
      rw [add_bit h1 (nat7 hp).2.1, h c]
      constructor
      · rintro (⟨k, hk⟩ | ⟨c', hc', he⟩)
        · exact ⟨k, (Rch_snoc hp hq).2 (.inl hk)⟩
        · obtain ⟨k, hk'⟩ := (h c').1 hc'
          have hl := hk'.lt hp hq
          have hke := hk.at hl
          exact ⟨k + 1, (Rch_snoc hp hq).2 (.inr ⟨c', k, hk', rfl, by omega⟩)⟩
      · rintro ⟨k, hk'⟩
        rcases (Rch_snoc hp hq).1 hk' with hk' | ⟨c', k', h2, h3, h4⟩
        · exact .inl ⟨k, hk'⟩
        · exact .inr ⟨c', (h c').2 ⟨k', h2⟩, by omega⟩)
    simpa using this
theorem giv_bit {p : Pal} (hp : PalOk p) {l : List Int} (hl : SeqOk p l) {c : Nat} : (givI p l).testBit c = true ↔ ∃ k, Rch p l c k := by
  have := giv_bit_from hp l [] 1 (fun x hx => by cases hx) hl (by decide) (Nat.one_lt_two_pow (by have := (nat7 hp).1; omega)) (fun c => by
    constructor
    · intro h
      have : c = 0 := by
        have := lt_bit (n := 1) (by decide) h; omega
      exact ⟨0, Rch_nil.2 ⟨this, rfl⟩⟩
    · rintro ⟨k, h⟩
      obtain ⟨rfl, _⟩ := Rch_nil.1 h; rfl) c
  rw [List.nil_append] at this; exact this

/-! ### the fewest stones -/
structure LstP (n : Nat) (Q : Nat → Nat → Prop) (R : List Int) : Prop where
  len : R.length = n
  lo : ∀ j, -1 ≤ R.getD j 0
  mem : ∀ j, j < n → 0 ≤ R.getD j 0 → Q j (R.getD j 0).toNat
  le : ∀ j k, j < n → Q j k → 0 ≤ R.getD j 0 ∧ R.getD j 0 ≤ k
theorem LstP.congr {n : Nat} {Q Q' : Nat → Nat → Prop} {R : List Int} (h : LstP n Q R) (e : ∀ j k, Q j k ↔ Q' j k) : LstP n Q' R :=
  ⟨h.len, h.lo, fun j h1 h2 => (e _ _).1 (h.mem j h1 h2), fun j k h1 h2 => h.le j k h1 ((e _ _).2 h2)⟩
theorem LstP.eq {n : Nat} {Q : Nat → Nat → Prop} {R R' : List Int} (h : LstP n Q R) (h' : LstP n Q R') : R = R' := by
  apply List.ext_getElem (h.len.trans h'.len.symm)
  intro j h1 h2
  have hj : j < n := by rw [← h.len]; exact h1
  have e1 : R[j] = R.getD j 0 := by rw [List.getD_eq_getElem?_getD, List.getElem?_eq_getElem h1]; rfl
  have e2 : R'[j] = R'.getD j 0 := by rw [List.getD_eq_getElem?_getD, List.getElem?_eq_getElem h2]; rfl
  rw [e1, e2]
  have a := h.lo j
  have b := h'.lo j
  by_cases c : 0 ≤ R.getD j 0
  · have := h'.le j _ hj (h.mem j hj c)
    have := h.le j _ hj (h'.mem j hj this.1)
    omega
  · by_cases d : 0 ≤ R'.getD j 0
    · have := h.le j _ hj (h'.mem j hj d); omega
    · omega
theorem LstP.put {n : Nat} {Q : Nat → Nat → Prop} {R : List Int} (h : LstP n Q R) {c k : Nat} (hc : c < n) {R' : List Int} (hR : R' = if R.getD c 0 < 0 ∨ (k : Int) < R.getD c 0 then R.set c (k : Int) else R) : LstP n (fun j i => Q j i ∨ (j = c ∧ i = k)) R' := by
  have hl := h.len
  by_cases hd : R.getD c 0 < 0 ∨ (k : Int) < R.getD c 0
  · rw [if_pos hd] at hR
    subst hR
    have at' : ∀ j, (R.set c (k : Int)).getD j 0 = if c = j then (k : Int) else R.getD j 0 := fun j => by
      rw [getD_set']
      by_cases e : c = j
      · rw [if_pos ⟨e, by omega⟩, if_pos e]
      · rw [if_neg (fun hh => e hh.1), if_neg e]
    refine ⟨by simp [hl], fun j => ?_, fun j h1 h2 => ?_, fun j i h1 h2 => ?_⟩
    · rw [at']; have := h.lo j; split <;> omega
    · rw [at'] at h2 ⊢
      by_cases e : c = j
      · rw [if_pos e]; exact .inr ⟨e.symm, by simp⟩
      · rw [if_neg e] at h2 ⊢; exact .inl (h.mem j h1 h2)
    · rw [at']
      by_cases e : c = j
      · subst e
        rw [if_pos rfl]
        rcases h2 with h2 | ⟨_, rfl⟩
        · have := h.le c i h1 h2; omega
        · omega
      · rw [if_neg e]
        rcases h2 with h2 | ⟨e', _⟩
        · exact h.le j i h1 h2
        · exact absurd e'.symm e
  · rw [if_neg hd] at hR
    subst hR
    refine ⟨hl, h.lo, fun j h1 h2 => .inl (h.mem j h1 h2), fun j i h1 h2 => ?_⟩
    rcases h2 with h2 | ⟨rfl, rfl⟩
    · exact h.le j i h1 h2
    · omega
abbrev Lst (p : Pal) (l : List Int) (R : List Int) : Prop := LstP p.1.toNat (Rch p l) R
theorem putL_at {ink least nx : List Int} {c : Nat} (hi : (ink.getD c 0).toNat < nx.length) (j : Nat) :
    (putL ink least nx c).getD j 0 = if (ink.getD c 0).toNat = j ∧ 0 ≤ least.getD c 0 ∧ (nx.getD j 0 < 0 ∨ least.getD c 0 + 1 < nx.getD j 0) then least.getD c 0 + 1 else nx.getD j 0 := by
  have hs : ∀ v : Int, (nx.set (ink.getD c 0).toNat v).getD j 0 = if (ink.getD c 0).toNat = j then v else nx.getD j 0 := fun v => by
    rw [getD_set']
    by_cases e : (ink.getD c 0).toNat = j
    · rw [if_pos ⟨e, hi⟩, if_pos e]
    · rw [if_neg (fun hh => e hh.1), if_neg e]
  unfold putL
  by_cases h0 : least.getD c 0 ≥ 0
  · rw [decide_eq_true h0, cond_true]
    by_cases e : (ink.getD c 0).toNat = j
    · subst e
      by_cases h1 : nx.getD (ink.getD c 0).toNat 0 < 0
      · rw [decide_eq_true h1, cond_true, hs, if_pos rfl, if_pos ⟨rfl, h0, .inl h1⟩]
      · rw [decide_eq_false h1, cond_false]
        by_cases h2 : least.getD c 0 + 1 < nx.getD (ink.getD c 0).toNat 0
        · rw [decide_eq_true h2, cond_true, hs, if_pos rfl, if_pos ⟨rfl, h0, .inr h2⟩]
        · rw [decide_eq_false h2, cond_false, if_neg (by omega)]
    · rw [if_neg (fun hh => e hh.1)]
      cases decide (nx.getD (ink.getD c 0).toNat 0 < 0) <;> cases decide (least.getD c 0 + 1 < nx.getD (ink.getD c 0).toNat 0) <;> simp only [cond_true, cond_false, hs, if_neg e]
  · rw [decide_eq_false h0, cond_false, if_neg (by omega)]
theorem stepL_lst {p : Pal} (hp : PalOk p) {q : List Int} (hq : SeqOk p q) {x : Int} (hx : 0 ≤ x ∧ x < (p.2.1.length : Int)) {least : List Int} (h : Lst p q least) : Lst p (q ++ [x]) (stepL p.1.toNat (p.2.1.getD x.toNat []) least) := by
  have hk := hp.at hx
  have fold : ∀ (cs : List Nat) (nx : List Int), (∀ c ∈ cs, c < p.1.toNat) → nx.length = p.1.toNat → (∀ j, -1 ≤ nx.getD j 0) → (∀ j, j < p.1.toNat → 0 ≤ nx.getD j 0 → Rch p (q ++ [x]) j (nx.getD j 0).toNat) →
      (cs.foldl (putL (p.2.1.getD x.toNat []) least) nx).length = p.1.toNat ∧ (∀ j, -1 ≤ (cs.foldl (putL (p.2.1.getD x.toNat []) least) nx).getD j 0) ∧
      (∀ j, j < p.1.toNat → 0 ≤ (cs.foldl (putL (p.2.1.getD x.toNat []) least) nx).getD j 0 → Rch p (q ++ [x]) j ((cs.foldl (putL (p.2.1.getD x.toNat []) least) nx).getD j 0).toNat) ∧
      (∀ j, 0 ≤ nx.getD j 0 → 0 ≤ (cs.foldl (putL (p.2.1.getD x.toNat []) least) nx).getD j 0 ∧ (cs.foldl (putL (p.2.1.getD x.toNat []) least) nx).getD j 0 ≤ nx.getD j 0) ∧
      (∀ c ∈ cs, 0 ≤ least.getD c 0 → 0 ≤ (cs.foldl (putL (p.2.1.getD x.toNat []) least) nx).getD ((p.2.1.getD x.toNat []).getD c 0).toNat 0 ∧ (cs.foldl (putL (p.2.1.getD x.toNat []) least) nx).getD ((p.2.1.getD x.toNat []).getD c 0).toNat 0 ≤ least.getD c 0 + 1) := by
    intro cs
    induction cs with
    | nil => intro nx _ h1 h2 h3; exact ⟨h1, h2, h3, fun j hj => ⟨hj, Int.le_refl _⟩, fun c hc => by cases hc⟩
    | cons c cs ih =>
      intro nx hc h1 h2 h3
      have hcn := hc c (by simp)
      have hke := hk.at hcn
      have pa := putL_at (ink := p.2.1.getD x.toNat []) (least := least) (nx := nx) (c := c) (by omega)
      obtain ⟨a1, a2, a3, a4, a5⟩ := ih (putL (p.2.1.getD x.toNat []) least nx c) (fun y hy => hc y (by simp [hy])) (by rw [putL_len]; exact h1) (fun j => by
        rw [pa j]; have := h2 j; split <;> omega) (fun j hj h0 => by
        rw [pa j] at h0 ⊢
        split
        · rename_i hh
          obtain ⟨e1, e2, _⟩ := hh
          refine (Rch_snoc hp hq).2 (.inr ⟨c, (least.getD c 0).toNat, h.mem c hcn e2, by omega, by omega⟩)
        · rename_i hh
          rw [if_neg hh] at h0
          exact h3 j hj h0)
      rw [List.foldl_cons]
      refine ⟨a1, a2, a3, fun j hj => ?_, fun c' hc' h0 => ?_⟩
      · have e := pa j
        have := a4 j (by rw [e]; split <;> omega)
        rw [e] at this
        split at this <;> omega
      · rcases List.mem_cons.1 hc' with rfl | hc'
        · have e := pa ((p.2.1.getD x.toNat []).getD c' 0).toNat
          have := a4 ((p.2.1.getD x.toNat []).getD c' 0).toNat (by rw [e]; split <;> omega)
          rw [e] at this
          split at this <;> omega
        · exact a5 c' hc' h0
  obtain ⟨a1, a2, a3, a4, a5⟩ := fold (List.range p.1.toNat) least (fun c hc => by simpa using hc) h.len h.lo (fun j hj h0 => (Rch_snoc hp hq).2 (.inl (h.mem j hj h0)))
  refine ⟨a1, a2, a3, fun j k hj hr => ?_⟩
  rcases (Rch_snoc hp hq).1 hr with hr | ⟨c', k', r1, r2, r3⟩
  · have b := h.le j k hj hr
    have := a4 j b.1
    exact ⟨this.1, Int.le_trans this.2 (by omega)⟩
  · have hl := r1.lt hp hq
    have b := h.le c' k' hl r1
    have := a5 c' (by simpa using hl) b.1
    rw [← r3, Int.toNat_natCast] at this
    exact ⟨this.1, Int.le_trans this.2 (by omega)⟩
theorem lea_lst_from {p : Pal} (hp : PalOk p) : ∀ (rest q : List Int) (least : List Int), SeqOk p q → SeqOk p rest → Lst p q least → Lst p (q ++ rest) (rest.foldl (fun least i => stepL p.1.toNat (p.2.1.getD i.toNat []) least) least)
  | [], q, least, _, _, h => by rw [List.append_nil]; exact h
  | x :: rest, q, least, hq, hr, h => by
    have hx := hr x (by simp)
    have := lea_lst_from hp rest (q ++ [x]) _ (fun y hy => by
      rcases List.mem_append.1 hy with hy | hy
      · exact hq y hy
      · simp at hy; subst hy; exact hx) (fun y hy => hr y (by simp [hy])) (stepL_lst hp hq hx h)
    simpa using this
theorem lea_lst {p : Pal} (hp : PalOk p) {l : List Int} (hl : SeqOk p l) : Lst p l (leaI p l) := by
  have n2 := (nat7 hp).1
  have at0 : ∀ j, ((List.replicate p.1.toNat (-1 : Int)).set 0 0).getD j 0 = if j = 0 ∨ p.1.toNat ≤ j then 0 else -1 := fun j => by
    rw [getD_set']
    by_cases h0 : j = 0
    · subst h0; rw [if_pos ⟨rfl, by rw [List.length_replicate]; omega⟩, if_pos (.inl rfl)]
    · rw [if_neg (fun h => h0 h.1.symm)]
      by_cases h1 : p.1.toNat ≤ j
      · rw [if_pos (.inr h1), List.getD_eq_getElem?_getD, List.getElem?_eq_none (by rw [List.length_replicate]; exact h1)]; rfl
      · rw [if_neg (by omega), List.getD_eq_getElem?_getD, List.getElem?_replicate, if_pos (by omega)]; rfl
  have := lea_lst_from hp l [] _ (fun x hx => by cases hx) hl (show Lst p [] ((List.replicate p.1.toNat (-1 : Int)).set 0 0) from ⟨by simp, fun j => by rw [at0]; split <;> omega, fun j h1 h2 => by
    rw [at0] at h2 ⊢
    by_cases h0 : j = 0
    · rw [if_pos (.inl h0)]; exact Rch_nil.2 ⟨h0, rfl⟩
    · rw [if_neg (by omega)] at h2; omega, fun j k h1 h2 => by
      obtain ⟨rfl, rfl⟩ := Rch_nil.1 h2
      rw [at0, if_pos (.inl rfl)]; omega⟩)
  rw [List.nil_append] at this; exact this
def B44 (R : List Int) : Option (List Int) := if R.length ≤ 1000 then some (((List.range R.length).filter fun c => decide (R.getD c 0 ≥ 0)).map fun (c : Nat) => (c : Int)) else none
theorem KB44 : FnOk Try.prog 44 (F44 B44) := ok44 B44 fun R r h => ⟨1001, by
  simp only [B44] at h
  split at h
  · rename_i hl
    rw [← h, m44]
    have main := rangeInv (List.range R.length) 0 (fun n (out : List Int) t => l44a 1001 R n t out) (fun xs out => out.length + xs.length ≤ 1000) (fun xs out => some (out ++ (xs.filter fun c => decide (R.getD c 0 ≥ 0)).map fun (c : Nat) => (c : Int)))
      (fun n out t x rest ht hx hI ih => by
        obtain rfl := range_at ht hx
        simp only [List.length_range] at ht
        simp only [List.length_cons] at hI
        simp only [l44a, ixA ht, ixB ht, cond_true, chk_true, Int.toNat_natCast, ixW ht (by omega), chk_of (small_of (n := out.length + 1) (eb := 8) (by omega) (by decide)), List.filter_cons]
        cases decide (R.getD x 0 ≥ 0) with
        | true => rw [cond_true, ih _ (by simp; omega)]; simp
        | false => rw [cond_false, ih _ (by omega)]; simp)
      (fun n out _ => by simp [l44a]) 1001 [] (by simp; omega) (by simp; omega)
    rw [main]; rfl
  · cases h⟩
theorem B44_lea {p : Pal} (hp : PalOk p) {l : List Int} (hl : SeqOk p l) : B44 (leaI p l) = some (colsI (givI p l)) := by
  have h := lea_lst hp hl
  have hn := (nat7 hp).2.1
  rw [B44, if_pos (by rw [h.len]; omega), colsI, ← range_filter (giv_lt hp hl).2 hn, h.len]
  congr 2
  apply List.filter_congr
  intro c hc
  have hc' : c < p.1.toNat := by simpa using hc
  rw [Bool.eq_iff_iff, decide_eq_true_eq, giv_bit hp hl]
  exact ⟨fun h0 => ⟨_, h.mem c hc' h0⟩, fun ⟨k, hk⟩ => (h.le c k hc' hk).1⟩

/-! ### all choices are tried -/
def chF (m : Nat) : Nat → List Int → List Bool
  | _, [] => []
  | t, _ :: r => m.testBit t :: chF m (t + 1) r
theorem chF_len (m : Nat) : ∀ (l : List Int) (t : Nat), (chF m t l).length = l.length
  | [], _ => rfl
  | _ :: l, t => by simp only [chF, List.length_cons, chF_len m l]
theorem chF_all : ∀ (l : List Int) (ch : List Bool), ch.length = l.length → ∃ m, m < 2 ^ l.length ∧ ∀ t m', (∀ i, m'.testBit (t + i) = m.testBit i) → chF m' t l = ch
  | [], ch, h => by
    obtain rfl := List.eq_nil_of_length_eq_zero h
    exact ⟨0, by simp, fun t m' _ => rfl⟩
  | x :: l, [], h => by simp at h
  | x :: l, b :: ch, h => by
    obtain ⟨m, h1, h2⟩ := chF_all l ch (by simpa using h)
    refine ⟨b.toNat + 2 * m, by rw [List.length_cons, Nat.pow_succ]; have := Bool.toNat_le b; omega, fun t m' hm => ?_⟩
    have hb := Bool.toNat_le b
    have e0 : m'.testBit t = b := by
      have := hm 0
      rw [Nat.add_zero] at this
      rw [this, Nat.testBit_zero]
      cases b <;> simp <;> omega
    rw [chF, e0, h2 (t + 1) m' (fun i => by
      have := hm (i + 1)
      rw [show t + 1 + i = t + (i + 1) by omega, this, Nat.testBit_succ]
      congr 1; omega)]
def B43 (p : Pal) (l : List Int) : Option (List Int) := if okS p l = true ∧ l.length ≤ 12 then some (leaI p l) else none
theorem KB43 : FnOk Try.prog 43 (F43 B43) := ok43 B43 fun p l r h => by
  simp only [B43] at h
  split at h
  · rename_i hf
    obtain ⟨hp, _, hs⟩ := okS_ok.1 hf.1
    obtain ⟨n2, n7, hn⟩ := nat7 hp
    obtain ⟨N, hN⟩ : ∃ N, 5000 < N := ⟨5001, by omega⟩
    refine ⟨N, ?_⟩
    have h12 : 2 ^ l.length ≤ 4096 := (Nat.pow_le_pow_right (by decide) hf.2 : 2 ^ l.length ≤ 2 ^ 12)
    have mk : mkOk p.1 p.1 8 = true := by simp only [mkOk, Bool.and_eq_true, decide_eq_true_eq]; omega
    rw [← h, m43, mk, chk_true]
    -- one choice
    have one : ∀ (m : Nat) (R : List Int) (rec : Int → List Int → Option (List Int)), m < 4096 → R.length = p.1.toNat →
        l43c N p l (m : Int) R rec N 0 0 0 = rec (w64 ((m : Int) + 1)) (if R.getD (clI p l (chF m 0 l) 0).toNat 0 < 0 ∨ (((chF m 0 l).count true : Nat) : Int) < R.getD (clI p l (chF m 0 l) 0).toNat 0 then R.set (clI p l (chF m 0 l) 0).toNat (((chF m 0 l).count true : Nat) : Int) else R) := by
      intro m R rec hm hR
      have main := rangeIx l 0 (fun n (s : Int × Nat) t => l43c N p l (m : Int) R rec n s.1 (s.2 : Int) t) (fun t xs s => SeqOk p xs ∧ 0 ≤ s.1 ∧ s.1 < (p.1.toNat : Int) ∧ s.2 ≤ t)
        (fun t xs s => rec (w64 ((m : Int) + 1)) (if R.getD (clI p xs (chF m t xs) s.1).toNat 0 < 0 ∨ ((s.2 + (chF m t xs).count true : Nat) : Int) < R.getD (clI p xs (chF m t xs) s.1).toNat 0 then R.set (clI p xs (chF m t xs) s.1).toNat ((s.2 + (chF m t xs).count true : Nat) : Int) else R))
        (fun n s t x rest ht hx hI ih => by
          obtain ⟨i1, i2, i3, i4⟩ := hI
          have hx1 := i1 x (List.mem_cons_self ..)
          have hk := hp.at hx1
          have hke := hk.at (c := s.1.toNat) (by omega)
          have hb := bit_i64 (s := m) (c := t) (by omega) (by omega)
          have e1 : decide (0 ≤ (t : Int)) = true := decide_eq_true (by omega)
          have e2 : decide (0 ≤ s.1 ∧ s.1 < ((p.2.1.getD x.toNat []).length : Int)) = true := decide_eq_true (by rw [hk.1]; omega)
          have e3 : w64 ((s.2 : Int) + 1) = ((s.2 + 1 : Nat) : Int) := w64_succ (by omega)
          simp only [Int.toNat_natCast] at hb
          have hr : SeqOk p rest := fun y hy => i1 y (by simp [hy])
          simp only [l43c, ixA ht, ixB ht, e1, cond_true, chk_true, Int.toNat_natCast, hb, hx, decide_eq_true hx1, e2, e3, ixW ht (by omega), chF, clI]
          cases m.testBit t with
          | true =>
            rw [cond_true, cond_true]
            refine (ih ((p.2.1.getD x.toNat []).getD s.1.toNat 0, s.2 + 1) ⟨hr, hke.1, hke.2, by simp only; omega⟩).trans ?_
            simp only [List.count_cons_self, show s.2 + 1 + (chF m (t + 1) rest).count true = s.2 + ((chF m (t + 1) rest).count true + 1) by omega]
          | false =>
            rw [cond_false, cond_false]
            refine (ih s ⟨hr, i2, i3, by omega⟩).trans ?_
            simp)
        (fun n s hI => by
          obtain ⟨i1, i2, i3, i4⟩ := hI
          have e2 : decide (0 ≤ s.1 ∧ s.1 < (R.length : Int)) = true := decide_eq_true (by omega)
          simp only [l43c, ixE, cond_false, e2, chk_true, chF, clI, List.count_nil, Nat.add_zero]
          by_cases d1 : R.getD s.1.toNat 0 < 0
          · simp only [d1, decide_true, cond_true, true_or, if_true]
          · rw [decide_eq_false d1, cond_false]
            by_cases d2 : (s.2 : Int) < R.getD s.1.toNat 0
            · simp only [d2, decide_true, cond_true, or_true, if_true]
            · simp only [d1, d2, decide_false, cond_false, or_self, if_false]) N (0, 0) (by omega) ⟨hs, by simp only; omega, by simp only; omega, Nat.le_refl _⟩
      simp only [Nat.zero_add] at main
      exact main
    -- all of them
    have all : ∀ R, LstP p.1.toNat (fun _ _ => False) R → l43b N p l N 0 R = some (leaI p l) := by
      intro R hR
      have e0 := one_i64 (c := l.length) (by omega)
      have p2 : (0 : Int) ≤ ((2 ^ l.length : Nat) : Int) := Int.natCast_nonneg _
      refine countUp 0 ((2 ^ l.length : Nat) : Int) p2 (fun n (R : List Int) t => l43b N p l n t R) (fun t R => LstP p.1.toNat (fun j k => ∃ m, m < t.toNat ∧ clI p l (chF m 0 l) 0 = (j : Int) ∧ (chF m 0 l).count true = k) R) (fun t R => some (leaI p l)) (fun n R t h1 h2 hI ih => ?_) (fun n R hI => ?_) N R (by rw [Int.sub_zero, Int.toNat_natCast]; omega) (hR.congr fun j k => by simp)
      · obtain ⟨m, rfl⟩ : ∃ m : Nat, t = m := ⟨t.toNat, by omega⟩
        have hr := cl_rng hp l (chF m 0 l) 0 hs (n_pos hp)
        simp only [l43b, decide_eq_true (show 0 ≤ (l.length : Int) by omega), chk_true, e0, decide_eq_true h2, cond_true]
        rw [one m R _ (by omega) hI.len, w64_succ (by omega)]
        refine ih _ ((hI.put (c := (clI p l (chF m 0 l) 0).toNat) (k := (chF m 0 l).count true) (by omega) rfl).congr fun j k => ?_)
        simp only [Int.toNat_natCast]
        constructor
        · rintro (⟨m', a, b⟩ | ⟨rfl, rfl⟩)
          · exact ⟨m', by omega, b⟩
          · exact ⟨m, by omega, by omega, rfl⟩
        · rintro ⟨m', a, b, c⟩
          by_cases e : m' = m
          · subst e; exact .inr ⟨by omega, c.symm⟩
          · exact .inl ⟨m', by omega, b, c⟩
      · have e1 : decide (((2 ^ l.length : Nat) : Int) < ((2 ^ l.length : Nat) : Int)) = false := decide_eq_false (by omega)
        simp only [l43b, decide_eq_true (show 0 ≤ (l.length : Int) by omega), chk_true, e0, e1, cond_false]
        congr 1
        refine LstP.eq (hI.congr fun j k => ?_) (lea_lst hp hs)
        constructor
        · rintro ⟨m, _, a, b⟩; exact ⟨chF m 0 l, chF_len m l 0, a, b⟩
        · rintro ⟨ch, a, b, c⟩
          obtain ⟨m, h1, h2⟩ := chF_all l ch a
          have := h2 0 m (fun i => by rw [Nat.zero_add])
          exact ⟨m, by rw [Int.toNat_natCast]; exact h1, by rw [this]; exact b, by rw [this]; exact c⟩
    have start := countUp 0 p.1 (by omega) (fun n (o : List Int) t => l43a N p l n t o) (fun t o => o.length = p.1.toNat ∧ ∀ j, j < t.toNat → o.getD j 0 = -1) (fun t o => some (leaI p l))
      (fun n o t h1 h2 hI ih => by
        have e1 : decide (t < ((List.replicate p.1.toNat (0 : Int)).length : Int)) = true := decide_eq_true (by simp; omega)
        have e2 : decide (0 ≤ t ∧ t < (o.length : Int)) = true := decide_eq_true (by omega)
        simp only [l43a, e1, cond_true, e2, chk_true]
        rw [w64_small (by omega)]
        refine ih _ ⟨by simp [hI.1], fun j hj => ?_⟩
        rw [getD_set']
        by_cases e : t.toNat = j
        · rw [if_pos ⟨e, by omega⟩]
        · rw [if_neg (fun hh => e hh.1)]; exact hI.2 j (by omega))
      (fun n o hI => by
        have e1 : decide (p.1 < ((List.replicate p.1.toNat (0 : Int)).length : Int)) = false := decide_eq_false (by simp; omega)
        simp only [l43a, e1, cond_false]
        refine all o ⟨hI.1, fun j => ?_, fun j h1 h2 => ?_, fun j k _ hq => hq.elim⟩
        · by_cases hj : j < p.1.toNat
          · rw [hI.2 j hj]; omega
          · rw [List.getD_eq_getElem?_getD, List.getElem?_eq_none (by omega)]; simp
        · rw [hI.2 j h1] at h2; omega) N (List.replicate p.1.toNat 0) (by omega) ⟨by simp, fun j hj => by omega⟩
    exact start
  · cases h

/-! ### easels -/
def mkN (e : Pal) : Nat := 2 + e.1.toNat % 4
def mkInk (n : Nat) (l : List Int) : List Int := (List.range n).map fun c => (((l.getD c 0).toNat % n : Nat) : Int)
def mkInks (e : Pal) : List (List Int) := if e.2.1 = [] then [(List.replicate (mkN e) (0 : Int)).set 0 1] else (e.2.1.take 3).map (mkInk (mkN e))
def mkP (e : Pal) : Pal := ((mkN e : Int), mkInks e, ())
def okE (e : Pal) : Bool := decide (0 ≤ e.1 ∧ e.1 < 256) && e.2.1.all fun l => decide (l.length = 5) && l.all fun x => decide (0 ≤ x ∧ x < 256)
def B41 (e : Pal) : Option Pal := if okE e then some (mkP e) else none
theorem okE_ok {e : Pal} : okE e = true ↔ (0 ≤ e.1 ∧ e.1 < 256) ∧ ∀ l ∈ e.2.1, l.length = 5 ∧ ∀ x ∈ l, 0 ≤ x ∧ x < 256 := by
  simp [okE]
theorem mkInk_ok {n : Nat} (h : 0 < n) (l : List Int) : InkOk n (mkInk n l) := by
  refine ⟨by simp [mkInk], fun c hc => ?_⟩
  simp only [mkInk, List.mem_map] at hc
  obtain ⟨j, _, rfl⟩ := hc
  have := Nat.mod_lt (l.getD j 0).toNat h
  omega
theorem mkP_ok (e : Pal) : PalOk (mkP e) := by
  have hn : 2 ≤ mkN e ∧ mkN e ≤ 5 := by unfold mkN; omega
  have hl : 1 ≤ (mkInks e).length ∧ (mkInks e).length ≤ 3 := by
    unfold mkInks
    split
    · simp
    · rename_i h
      have := List.length_pos_iff.2 h
      simp only [List.length_map, List.length_take]; omega
  refine ⟨by show (2 : Int) ≤ (mkN e : Int); omega, by show (mkN e : Int) ≤ 7; omega, hl.1, by have := hl.2; show (mkInks e).length ≤ 6; omega, fun l h => ?_⟩
  show InkOk ((mkN e : Int)).toNat l
  rw [Int.toNat_natCast]
  have h' : l ∈ mkInks e := h
  unfold mkInks at h'
  split at h'
  · simp at h'
    subst h'
    refine ⟨by simp, fun c hc => ?_⟩
    rcases List.mem_or_eq_of_mem_set hc with hc | rfl
    · have := List.eq_of_mem_replicate hc; omega
    · omega
  · obtain ⟨q, _, rfl⟩ := List.mem_map.1 h'
    exact mkInk_ok (by omega) q
theorem mkP_n (e : Pal) : (mkP e).1.toNat = mkN e := Int.toNat_natCast _
theorem tmod_nat (a b : Nat) : Int.tmod (a : Int) (b : Int) = ((a % b : Nat) : Int) := rfl
theorem KB41 : FnOk Try.prog 41 (F41 B41) := ok41 B41 fun e r h => ⟨1001, by
  simp only [B41] at h
  split at h
  · rename_i hf
    obtain ⟨h1, h2⟩ := okE_ok.1 hf
    have hn : 2 ≤ mkN e ∧ mkN e ≤ 5 := by unfold mkN; omega
    have en : w64 (2 + Int.tmod (w64 e.1) 4) = (mkN e : Int) := by
      rw [w64_small (x := e.1) (by omega)]
      obtain ⟨z, hz⟩ : ∃ z : Nat, e.1 = z := ⟨e.1.toNat, by omega⟩
      have : Int.tmod e.1 4 = ((z % 4 : Nat) : Int) := by rw [hz]; exact tmod_nat z 4
      have h4 : z % 4 < 4 := Nat.mod_lt _ (by decide)
      have e2 : mkN e = 2 + z % 4 := by unfold mkN; rw [hz, Int.toNat_natCast]
      rw [this, w64_small (by omega), e2]; omega
    have inner : ∀ (t : Nat) (x : List Int) (o : List (List Int)) (rec : Int → List (List Int) → Option Pal), t < e.2.1.length → e.2.1.getD t [0, 0, 0, 0, 0] = x → o.length ≤ 3 → l41b 1001 e (t : Int) o rec 1001 0 [] = rec (w64 ((t : Int) + 1)) (o ++ [mkInk (mkN e) x]) := by
      intro t x o rec ht hx ho
      have hxm : x ∈ e.2.1 := by rw [← hx]; exact getD_mem ht
      obtain ⟨hx5, hxb⟩ := h2 x hxm
      have main := rangeInv (List.range (mkN e)) 0 (fun n (l : List Int) c => l41b 1001 e (t : Int) o rec n c l) (fun xs l => l.length + xs.length ≤ 5 ∧ ∀ c ∈ xs, c < 5) (fun xs l => rec (w64 ((t : Int) + 1)) (o ++ [l ++ xs.map fun c => (((x.getD c 0).toNat % mkN e : Nat) : Int)]))
        (fun n l c y rest hc hy hI ih => by
          obtain rfl := range_at hc hy
          simp only [List.length_range] at hc
          simp only [List.length_cons] at hI
          have hy5 := hI.2 y (by simp)
          have hv := hxb _ (getD_mem (d := 0) (show y < x.length by omega))
          obtain ⟨z, hz⟩ : ∃ z : Nat, x.getD y 0 = z := ⟨(x.getD y 0).toNat, by omega⟩
          have e1 : decide ((y : Int) < (mkN e : Int)) = true := decide_eq_true (by omega)
          have e2 : decide (0 ≤ (y : Int) ∧ (y : Int) < 5) = true := decide_eq_true (by omega)
          have e3 : decide ((mkN e : Int) ≠ 0) = true := decide_eq_true (by omega)
          have e4 : Int.tmod (w64 (x.getD y 0)) (mkN e : Int) = (((x.getD y 0).toNat % mkN e : Nat) : Int) := by
            rw [hz, w64_small (by omega), tmod_nat, Int.toNat_natCast]
          simp only [l41b, en, e1, e2, e3, cond_true, ixB ht, chk_true, Int.toNat_natCast, hx, e4, chk_of (small_of (n := l.length + 1) (eb := 8) (by omega) (by decide)), ixW (t := y) (n := 5) (by omega) (by omega)]
          rw [ih _ ⟨by simp; omega, fun c hc => hI.2 c (by simp [hc])⟩]
          simp)
        (fun n l _ => by
          have e1 : decide ((((List.range (mkN e)).length : Nat) : Int) < (mkN e : Int)) = false := decide_eq_false (by simp)
          simp only [l41b, en, e1, cond_false, chk_of (small_of (n := o.length + 1) (eb := 24) (by omega) (by decide)), List.map_nil, List.append_nil]) 1001 [] (by simp; omega) ⟨by simp; omega, fun c hc => by simp at hc; omega⟩
      exact main
    have take_at : ∀ t, t < (e.2.1.take 3).length → t < 3 ∧ t < e.2.1.length ∧ (e.2.1.take 3).getD t [0, 0, 0, 0, 0] = e.2.1.getD t [0, 0, 0, 0, 0] := fun t ht => by
      simp only [List.length_take] at ht
      refine ⟨by omega, by omega, ?_⟩
      rw [List.getD_eq_getElem?_getD, List.getD_eq_getElem?_getD, List.getElem?_take_of_lt (by omega)]
    rw [← h, m41]
    have main := rangeInv (e.2.1.take 3) [0, 0, 0, 0, 0] (fun n (o : List (List Int)) t => l41a 1001 e n t o) (fun xs o => o.length + xs.length ≤ 3 ∧ (e.2.1 = [] ↔ (o = [] ∧ xs = []))) (fun xs o => some ((mkN e : Int), (if e.2.1 = [] then [(List.replicate (mkN e) (0 : Int)).set 0 1] else o ++ xs.map (mkInk (mkN e))), ()))
      (fun n o t x rest ht hx hI ih => by
        obtain ⟨t1, t2, t3⟩ := take_at t ht
        simp only [List.length_cons] at hI
        have e1 : decide ((t : Int) < 3) = true := decide_eq_true (by omega)
        have hne : e.2.1 ≠ [] := fun h => by rw [h] at t2; simp at t2
        simp only [l41a, ixA t2, e1, cond_true]
        rw [inner t x o _ t2 (t3.symm.trans hx) (by omega), w64_succ (by omega)]
        have := ih (o ++ [mkInk (mkN e) x]) ⟨by simp; omega, ⟨fun h => absurd h hne, fun h => by simp at h⟩⟩
        rw [this, if_neg hne, if_neg hne]; simp)
      (fun n o hI => by
        have fin : (cond ((o.length : Int) == 0) (chk (mkOk (w64 (2 + Int.tmod (w64 e.1) 4)) (w64 (2 + Int.tmod (w64 e.1) 4)) 8) (chk (decide (0 ≤ (0 : Int) ∧ (0 : Int) < ((List.replicate ((w64 (2 + Int.tmod (w64 e.1) 4)).toNat) (0 : Int)).length : Int))) (some (w64 (2 + Int.tmod (w64 e.1) 4), ([(List.replicate ((w64 (2 + Int.tmod (w64 e.1) 4)).toNat) (0 : Int)).set 0 1] : List (List Int)), ()))))
            (some (w64 (2 + Int.tmod (w64 e.1) 4), o, ()))) = some ((mkN e : Int), (if e.2.1 = [] then [(List.replicate (mkN e) (0 : Int)).set 0 1] else o ++ ([] : List (List Int)).map (mkInk (mkN e))), ()) := by
          rw [en, Int.toNat_natCast]
          have mk : mkOk (mkN e : Int) (mkN e : Int) 8 = true := by simp only [mkOk, Bool.and_eq_true, decide_eq_true_eq]; omega
          by_cases ho : o = []
          · have he : e.2.1 = [] := hI.2.2 ⟨ho, rfl⟩
            have e2 : decide (0 ≤ (0 : Int) ∧ (0 : Int) < ((List.replicate (mkN e) (0 : Int)).length : Int)) = true := decide_eq_true (by simp; omega)
            rw [if_pos he, ho, mk, chk_true, e2, chk_true]; rfl
          · have he : e.2.1 ≠ [] := fun h => ho (hI.2.1 h).1
            have e2 : ((o.length : Int) == 0) = false := by
              rw [beq_eq_false_iff_ne]; have := List.length_pos_iff.2 ho; omega
            rw [if_neg he, e2, cond_false]; simp
        by_cases hlt : e.2.1.length ≤ 3
        · have : (e.2.1.take 3).length = e.2.1.length := by simp; omega
          simp only [l41a, this, ixE, cond_false]; exact fin
        · have : (e.2.1.take 3).length = 3 := by simp; omega
          have e1 : decide (((3 : Nat) : Int) < (e.2.1.length : Int)) = true := decide_eq_true (by omega)
          have e3 : decide (((3 : Nat) : Int) < 3) = false := by decide
          simp only [l41a, this, e1, cond_true, e3, cond_false]; exact fin) 1001 [] (by simp only [List.length_take]; omega) ⟨by simp; omega, by cases e.2.1 <;> simp⟩
    refine main.trans ?_
    simp only [mkP, mkInks, List.nil_append]
  · cases h⟩
def sqB (p : Pal) (by_ : List Int) (k : Nat) : List Int := (by_.take k).map fun b => ((b.toNat % p.2.1.length : Nat) : Int)
def B42 (p : Pal) (by_ : List Int) (most : Int) : Option (List Int) := if 0 < p.2.1.length ∧ p.2.1.length ≤ 1000 ∧ 0 ≤ most ∧ most ≤ 100 ∧ (∀ b ∈ by_, 0 ≤ b ∧ b < 256) then some (sqB p by_ most.toNat) else none
theorem KB42 : FnOk Try.prog 42 (F42 B42) := ok42 B42 fun p by_ most r h => ⟨1001, by
  simp only [B42] at h
  split at h
  · rename_i hf
    obtain ⟨h1, h2, h3, h4, h5⟩ := hf
    obtain ⟨k, rfl⟩ : ∃ k : Nat, most = k := ⟨most.toNat, by omega⟩
    rw [← h, m42, Int.toNat_natCast]
    have main := rangeInv (by_.take k) 0 (fun n (o : List Int) t => l42a 1001 p by_ (k : Int) n t o) (fun xs o => o.length + xs.length ≤ 100) (fun xs o => some (o ++ xs.map fun b => ((b.toNat % p.2.1.length : Nat) : Int)))
      (fun n o t x rest ht hx hI ih => by
        simp only [List.length_cons] at hI
        simp only [List.length_take] at ht
        have hx' : by_.getD t 0 = x := by rw [← hx, List.getD_eq_getElem?_getD, List.getD_eq_getElem?_getD, List.getElem?_take_of_lt (by omega)]
        have hb := h5 x (by rw [← hx']; exact getD_mem (by omega))
        obtain ⟨z, rfl⟩ : ∃ z : Nat, x = z := ⟨x.toNat, by omega⟩
        have e1 : decide ((t : Int) < (k : Int)) = true := decide_eq_true (by omega)
        have e3 : decide ((p.2.1.length : Int) ≠ 0) = true := decide_eq_true (by omega)
        have t1 : t < by_.length := by omega
        have e4 : w64 (z : Int) = z := w64_small (by omega)
        simp only [l42a, ixA t1, e1, cond_true, ixB t1, chk_true, e3, Int.toNat_natCast, hx', e4, tmod_nat, chk_of (small_of (n := o.length + 1) (eb := 8) (by omega) (by decide)), ixW (t := t) (n := 100) (by omega) (by omega)]
        rw [ih _ (by simp; omega)]; simp)
      (fun n o hI => by
        by_cases hlt : by_.length ≤ k
        · have : (by_.take k).length = by_.length := by simp; omega
          simp only [l42a, this, ixE, cond_false]; simp
        · have : (by_.take k).length = k := by simp; omega
          have e1 : decide ((k : Int) < (by_.length : Int)) = true := decide_eq_true (by omega)
          simp only [l42a, this, e1, cond_true, ixE, cond_false]; simp) 1001 [] (by simp only [List.length_take]; omega) (by simp; omega)
    rw [main]; rfl
  · cases h⟩
theorem sqB_ok {p : Pal} (h : PalOk p) (by_ : List Int) (k : Nat) : SeqOk p (sqB p by_ k) ∧ (sqB p by_ k).length ≤ k := by
  refine ⟨fun x hx => ?_, by simp only [sqB, List.length_map, List.length_take]; omega⟩
  simp only [sqB, List.mem_map] at hx
  obtain ⟨b, _, rfl⟩ := hx
  have := Nat.mod_lt b.toNat (show 0 < p.2.1.length from h.i1)
  omega
theorem B42_ok {e : Pal} {by_ : List Int} (hb : ∀ b ∈ by_, 0 ≤ b ∧ b < 256) {k : Nat} (hk : k ≤ 100) : B42 (mkP e) by_ (k : Int) = some (sqB (mkP e) by_ k) := by
  have h := mkP_ok e
  have h1 := h.i1
  have h6 := h.i6
  rw [B42, if_pos ⟨by omega, by omega, by omega, by omega, hb⟩, Int.toNat_natCast]
theorem B43_ok {p : Pal} (hp : PalOk p) {l : List Int} (hl : SeqOk p l) (h : l.length ≤ 12) : B43 p l = some (leaI p l) := by
  rw [B43, if_pos ⟨okS_ok.2 ⟨hp, by omega, hl⟩, h⟩]

end Go.Proofs.Ytaioadjcdjmkdaa
