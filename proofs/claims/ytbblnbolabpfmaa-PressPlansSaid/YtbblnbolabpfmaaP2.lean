/-
  Sets, days that are overfull: the program's way.
-/
import Derived.Test.YtbblnbolabpfmaaP1
import Derived.Test.YtbblnbolabpfmaaD3
namespace Go.Proofs.Ytbblnbolabpfmaa
open Go.RowKit
set_option linter.unusedVariables false

/-! ### what days and fines are -/
def dyl (l : List Od) (i : Nat) : Nat := (l.getD i d3).1.toNat
def fnl (l : List Od) (i : Nat) : Int := (l.getD i d3).2.1
def mem (s : List Int) (i : Nat) : Bool := s.contains (i : Int)

/-- Numbers of orders, each once. -/
structure Ix (n : Nat) (s : List Int) : Prop where
  rng : ∀ i ∈ s, 0 ≤ i ∧ i < n
  nd : s.Nodup

theorem mem_cons (x : Nat) (s : List Int) (i : Nat) : mem ((x : Int) :: s) i = ins (mem s) x i := by
  simp only [mem, ins, List.contains_cons]
  by_cases h : i = x
  · subst h; simp
  · have h1 : ((i : Int) == (x : Int)) = false := by simp; omega
    have h2 : (i == x) = false := by simpa using h
    rw [h1, h2, Bool.false_or, Bool.or_false]

theorem cnt_mem {n : Nat} (r : Nat → Bool) : ∀ {s : List Int}, Ix n s → (s.filter fun i => r i.toNat).length = cnt (fun i => mem s i && r i) n
  | [], _ => by
    rw [cnt_zero fun i _ => by simp [mem]]; rfl
  | x :: s, h => by
    obtain ⟨h1, h2⟩ := List.nodup_cons.1 h.nd
    have hx := h.rng x (by simp)
    obtain ⟨k, rfl⟩ : ∃ k : Nat, x = k := ⟨x.toNat, by omega⟩
    have ih := cnt_mem r (s := s) ⟨fun i hi => h.rng i (List.mem_cons_of_mem _ hi), h2⟩
    have hk : k < n := by omega
    have hm : mem s k = false := by
      cases q : mem s k with
      | false => rfl
      | true => exact absurd (List.contains_iff_mem.1 q) h1
    rw [cnt_congr (q := fun i => ins (mem s) k i && r i) fun i _ => by rw [mem_cons], cnt_ins hk hm, ← ih, List.filter_cons]
    simp only [Int.toNat_natCast]
    by_cases hr : r k = true
    · simp [hr]
    · have hr : r k = false := by simpa using hr
      simp [hr]

theorem cnt_len {n : Nat} {s : List Int} (h : Ix n s) : s.length = cnt (mem s) n := by
  have h1 := cnt_mem (fun _ => true) h
  rw [List.filter_eq_self.2 fun _ _ => rfl] at h1
  rw [h1]; exact cnt_congr fun i _ => Bool.and_true _

/-! ### a sorted list's first overfull day -/
def fo : Nat → List Int → Int
  | _, [] => 0
  | k, d :: r => cond (decide (((k + 1 : Nat) : Int) > d)) d (fo (k + 1) r)

def cle (L : List Int) (d : Int) : Nat := (L.filter fun x => decide (x ≤ d)).length

theorem cle_cons (x : Int) (L : List Int) (d : Int) : cle (x :: L) d = (if x ≤ d then 1 else 0) + cle L d := by
  unfold cle
  by_cases h : x ≤ d
  · simp [h]; omega
  · simp [h]

theorem cle_pos {L : List Int} {d : Int} (h : 0 < cle L d) : ∃ x ∈ L, x ≤ d := by
  unfold cle at h
  obtain ⟨x, hx⟩ := List.exists_mem_of_length_pos h
  simp only [List.mem_filter, decide_eq_true_eq] at hx
  exact ⟨x, hx.1, hx.2⟩

theorem fo_zero : ∀ (L : List Int) (k : Nat), L.Pairwise (fun a b => decide (a ≤ b) = true) → (∀ x ∈ L, 1 ≤ x) → fo k L = 0 → ∀ d, 0 < cle L d → ((k + cle L d : Nat) : Int) ≤ d
  | [], k, _, _, _, d, h => by simp [cle] at h
  | x :: r, k, hs, h1, h0, d, h => by
    obtain ⟨s1, s2⟩ := List.pairwise_cons.1 hs
    have hx := h1 x (by simp)
    have hk : ¬ (((k + 1 : Nat) : Int) > x) := fun q => by
      rw [fo, decide_eq_true q, cond_true] at h0; omega
    rw [fo, decide_eq_false hk, cond_false] at h0
    have ih := fo_zero r (k + 1) s2 (fun y hy => h1 y (List.mem_cons_of_mem _ hy)) h0 d
    have hxd : x ≤ d := by
      obtain ⟨y, hy, hyd⟩ := cle_pos h
      rcases List.mem_cons.1 hy with rfl | hy
      · exact hyd
      · have := of_decide_eq_true (s1 y hy); omega
    rw [cle_cons, if_pos hxd]
    by_cases hc : 0 < cle r d
    · have := ih hc; omega
    · omega

theorem fo_pos : ∀ (L : List Int) (k : Nat) (v : Int), L.Pairwise (fun a b => decide (a ≤ b) = true) → (∀ x ∈ L, 1 ≤ x) → fo k L = v → v ≠ 0 → v ∈ L ∧ v < ((k + cle L v : Nat) : Int) ∧ ∀ d, d < v → 0 < cle L d → ((k + cle L d : Nat) : Int) ≤ d
  | [], k, v, _, _, h, h0 => absurd h.symm h0
  | x :: r, k, v, hs, h1, h, h0 => by
    obtain ⟨s1, s2⟩ := List.pairwise_cons.1 hs
    by_cases hk : ((k + 1 : Nat) : Int) > x
    · rw [fo, decide_eq_true hk, cond_true] at h
      subst h
      refine ⟨by simp, ?_, fun d hd hc => ?_⟩
      · rw [cle_cons, if_pos (Int.le_refl _)]; omega
      · obtain ⟨y, hy, hyd⟩ := cle_pos hc
        exfalso
        rcases List.mem_cons.1 hy with rfl | hy
        · omega
        · have := of_decide_eq_true (s1 y hy); omega
    · rw [fo, decide_eq_false hk, cond_false] at h
      obtain ⟨a, b, c⟩ := fo_pos r (k + 1) v s2 (fun y hy => h1 y (List.mem_cons_of_mem _ hy)) h h0
      have hxv : x ≤ v := of_decide_eq_true (s1 v a)
      refine ⟨List.mem_cons_of_mem _ a, ?_, fun d hd hc => ?_⟩
      · rw [cle_cons, if_pos hxv]; omega
      · rw [cle_cons] at hc ⊢
        by_cases hxd : x ≤ d
        · rw [if_pos hxd] at hc ⊢
          by_cases hc2 : 0 < cle r d
          · have := c d hd hc2; omega
          · omega
        · rw [if_neg hxd] at hc ⊢
          have := c d hd (by omega); omega

theorem cle_srt (L : List Int) (d : Int) : cle (srt L) d = cle L d := ((srt_perm L).filter _).length_eq

/-- The first day that is overfull for a set; 0: there is none. -/
def FO (dy : Nat → Nat) (n : Nat) (S : Nat → Bool) (v : Int) : Prop := (v = 0 ∧ Pos dy n S) ∨ ∃ d : Nat, v = d ∧ 1 ≤ d ∧ d < by_ dy n S d ∧ ∀ d', d' < d → by_ dy n S d' ≤ d'

theorem FO.uniq {dy : Nat → Nat} {n : Nat} {S : Nat → Bool} {v v' : Int} (h : FO dy n S v) (h' : FO dy n S v') : v = v' := by
  rcases h with ⟨h1, h2⟩ | ⟨d, h1, h2, h3, h4⟩ <;> rcases h' with ⟨g1, g2⟩ | ⟨d', g1, g2, g3, g4⟩
  · rw [h1, g1]
  · have := h2 d'; omega
  · have := g2 d; omega
  · rcases Nat.lt_trichotomy d d' with q | q | q
    · have := g4 d q; omega
    · rw [h1, g1, q]
    · have := h4 d' q; omega

theorem FO.zero {dy : Nat → Nat} {n : Nat} {S : Nat → Bool} {v : Int} (h : FO dy n S v) : v = 0 ↔ Pos dy n S := by
  rcases h with ⟨h1, h2⟩ | ⟨d, h1, h2, h3, h4⟩
  · exact ⟨fun _ => h2, fun _ => h1⟩
  · exact ⟨fun h => by omega, fun h => by have := h d; omega⟩

theorem FO.congr {dy : Nat → Nat} {n : Nat} {S T : Nat → Bool} {v : Int} (h : FO dy n S v) (hst : ∀ i, i < n → S i = T i) : FO dy n T v := by
  have e : ∀ d, by_ dy n T d = by_ dy n S d := fun d => cnt_congr fun i hi => by rw [hst i hi]
  rcases h with ⟨h1, h2⟩ | ⟨d, h1, h2, h3, h4⟩
  · exact .inl ⟨h1, fun d => by rw [e]; exact h2 d⟩
  · exact .inr ⟨d, h1, h2, by rw [e]; exact h3, fun d' hd => by rw [e]; exact h4 d' hd⟩

def daysOf (l : List Od) (s : List Int) : List Int := s.map fun i => (l.getD i.toNat d3).1

theorem cle_days {l : List Od} (h1 : ∀ o ∈ l, 1 ≤ o.1) {s : List Int} (hs : Ix l.length s) (d : Nat) : cle (daysOf l s) d = by_ (dyl l) l.length (mem s) d := by
  unfold by_
  rw [← cnt_mem _ hs]
  unfold cle daysOf
  rw [List.filter_map, List.length_map]
  congr 1
  apply List.filter_congr
  intro i hi
  have hr := hs.rng i hi
  have ho := h1 _ (List.getElem_mem (show i.toNat < l.length by omega))
  simp only [Function.comp, dyl, List.getD, List.getElem?_eq_getElem (show i.toNat < l.length by omega), Option.getD_some]
  congr 1
  exact propext ⟨fun h => by omega, fun h => by omega⟩

theorem fo_FO {l : List Od} (h1 : ∀ o ∈ l, 1 ≤ o.1) {s : List Int} (hs : Ix l.length s) : FO (dyl l) l.length (mem s) (fo 0 (srt (daysOf l s))) := by
  have hsrt := srt_sorted (daysOf l s)
  have hd1 : ∀ x ∈ srt (daysOf l s), 1 ≤ x := fun x hx => by
    have hx := (srt_perm _).mem_iff.1 hx
    obtain ⟨i, hi, rfl⟩ := List.mem_map.1 hx
    have hr := hs.rng i hi
    have ho := h1 _ (List.getElem_mem (show i.toNat < l.length by omega))
    simpa [List.getD, List.getElem?_eq_getElem (show i.toNat < l.length by omega)] using ho
  have hc : ∀ d : Nat, cle (srt (daysOf l s)) d = by_ (dyl l) l.length (mem s) d := fun d => by rw [cle_srt, cle_days h1 hs]
  by_cases h0 : fo 0 (srt (daysOf l s)) = 0
  · refine .inl ⟨h0, fun d => ?_⟩
    by_cases hp : 0 < by_ (dyl l) l.length (mem s) d
    · have := fo_zero _ 0 hsrt hd1 h0 d (by rw [hc]; exact hp)
      rw [hc] at this; omega
    · omega
  · obtain ⟨a, b, c⟩ := fo_pos _ 0 _ hsrt hd1 rfl h0
    have hv := hd1 _ a
    obtain ⟨d, hd⟩ : ∃ d : Nat, fo 0 (srt (daysOf l s)) = d := ⟨(fo 0 (srt (daysOf l s))).toNat, by omega⟩
    rw [hd] at b c hv
    refine .inr ⟨d, hd, by omega, by rw [hc] at b; omega, fun d' hd' => ?_⟩
    by_cases hp : 0 < by_ (dyl l) l.length (mem s) d'
    · have := c d' (by omega) (by rw [hc]; exact hp)
      rw [hc] at this; omega
    · omega

/-! ### press.overfull -/
def B50 (l : List Od) (s : List Int) : Option Int :=
  if l.length ≤ 1000 ∧ s.length ≤ 1000 ∧ ∀ i ∈ s, 0 ≤ i ∧ i < (l.length : Int) then some (fo 0 (srt (daysOf l s))) else none

theorem mkOk_of {a b : Int} {k : Nat} (h0 : 0 ≤ a) (h1 : a ≤ b) (h2 : b * (k : Int) ≤ 140737488355328) (h3 : b ≤ 140737488355328) : mkOk a b k = true := by
  simp only [mkOk, Bool.and_eq_true, decide_eq_true_eq]
  refine ⟨?_, ?_⟩ <;> omega

theorem fo_loop (r1 : List Int) (hl : r1.length ≤ 1000) (N : Nat) (hN : 1001 ≤ N) : l50b A70 N r1 N 0 = some (fo 0 r1) :=
  rangeIx r1 0 (fun n (_ : Unit) t => l50b A70 N r1 n t) (fun _ _ _ => True) (fun t xs _ => some (fo t xs))
    (fun n _ t x rest ht hx _ ih => by
      simp only [l50b, ixA ht, ixB ht, cond_true, chk_true, Int.toNat_natCast, ixW ht (by omega), hx, ih () trivial, fo]
      cases decide (((t + 1 : Nat) : Int) > x) <;> rfl)
    (fun n _ _ => by simp only [l50b, ixE, cond_false]; rfl) N () (by omega) trivial

theorem KB50 : FnOk Try.prog 50 (F50 B50) := ok50 A70 ok70 B50 fun l s r h => ⟨1001, by
  simp only [B50] at h
  split at h
  · rename_i hh
    obtain ⟨hl, hs, hr⟩ := hh
    rw [← h, m50, mkOk_of (by omega) (by omega) (by omega) (by omega), chk_true]
    have := rangeInv s 0 (fun n (days : List Int) t => l50a A70 1001 l s n t days) (fun xs days => days.length + xs.length ≤ 1000 ∧ ∀ i ∈ xs, 0 ≤ i ∧ i < (l.length : Int)) (fun xs days => some (fo 0 (srt (days ++ daysOf l xs))))
      (fun n days t x rest ht hx hI ih => by
        obtain ⟨h1, h2⟩ := hI
        simp only [List.length_cons] at h1
        have hxr := h2 x (by simp)
        have hsm : small (days.length + 1) 8 = true := small_of (by omega) (by decide)
        have hix : decide (0 ≤ x ∧ x < (l.length : Int)) = true := decide_eq_true hxr
        simp only [l50a, ixA ht, ixB ht, cond_true, chk_true, Int.toNat_natCast, ixW ht (by omega), hx, hsm, hix]
        rw [ih _ ⟨by simp; omega, fun i hi => h2 i (List.mem_cons_of_mem _ hi)⟩]
        simp [daysOf])
      (fun n days hI => by
        have h1 := hI.1
        simp only [List.length_nil, Nat.add_zero] at h1
        simp only [l50a, ixE, cond_false]
        rw [A70, if_pos (by omega), Option.bind_some, fo_loop _ (by rw [(srt_perm days).length_eq]; exact h1) 1001 (by omega)]
        simp [daysOf]) 1001 [] (by omega) ⟨by simpa using hs, hr⟩
    simpa using this
  · cases h⟩

end Go.Proofs.Ytbblnbolabpfmaa
