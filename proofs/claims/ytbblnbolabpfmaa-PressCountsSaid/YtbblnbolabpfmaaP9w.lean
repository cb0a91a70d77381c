/-
  Orders without one.
-/
import Derived.Test.YtbblnbolabpfmaaPB
namespace Go.Proofs.Ytbblnbolabpfmaa
open Go.RowKit
set_option linter.unusedVariables false

/-! ### without one -/
def wo (l : List Od) (i : Nat) : List Od := l.take i ++ l.drop (i + 1)

def B88 (n : Int) : Option (List Od) := if 0 ≤ n ∧ n ≤ 1000 then some [] else none
theorem KB88 : FnOk Try.prog 88 (F88c B88) := ok88c B88 fun n r h => ⟨0, by
  simp only [B88] at h
  split at h
  · rename_i hn
    rw [← h, m88c, decide_eq_false (show ¬ n < 0 by omega), cond_false, w64_small (by omega)]
    by_cases q : n - 0 > 0
    · rw [decide_eq_true q, cond_true, mkOk_of (by omega) (by omega) (by omega) (by omega), Bool.true_and, chk_true, decide_eq_true (show (0 : Int) ≤ 0 ∧ (0 : Int) ≤ ((List.replicate (n - 0).toNat ((0 : Int), ((0 : Int), ()))).length : Int) by omega), chk_true]
      rfl
    · rw [decide_eq_false q, cond_false]
  · cases h⟩
def lens : List (List Od) → Nat
  | [] => 0
  | a :: r => a.length + lens r
def B82 (L : List (List Od)) : Option (List Od) := if lens L ≤ 1000 ∧ L.length ≤ 1000 then some L.flatten else none
theorem KB82 : FnOk Try.prog 82 (F82 B82) := ok82 B88 KB88 B82 fun L r h => ⟨1001, by
  simp only [B82] at h
  split at h
  · rename_i hh
    obtain ⟨hs, hl⟩ := hh
    rw [← h, m82]
    have loop2 : l82b B88 1001 L 1001 0 [] = some ([] ++ L.flatten) :=
      rangeInv L [] (fun n (o : List Od) t => l82b B88 1001 L n t o) (fun xs o => o.length + lens xs ≤ 1000) (fun xs o => some (o ++ xs.flatten))
        (fun n o t x rest ht hx hI ih => by
          simp only [lens] at hI
          have hsm := small_of (n := o.length + x.length) (eb := 16) (by omega) (by decide)
          simp only [l82b, ixA ht, ixB ht, cond_true, chk_true, Int.toNat_natCast, ixW ht (by omega), hx, hsm]
          rw [ih _ (by simp only [List.length_append]; omega)]; simp)
        (fun n o hI => by simp only [l82b, ixE, cond_false]; simp) 1001 [] (by omega) (by simpa using hs)
    exact rangeInv L [] (fun n (s : Int) t => l82a B88 1001 L n s t) (fun xs s => 0 ≤ s ∧ s + (lens xs : Int) ≤ 1000) (fun xs s => some L.flatten)
      (fun n s t x rest ht hx hI ih => by
        simp only [lens] at hI
        simp only [l82a, ixA ht, ixB ht, cond_true, chk_true, Int.toNat_natCast, ixW ht (by omega), hx]
        rw [w64_small (by omega), decide_eq_false (show ¬ s + (x.length : Int) < 0 by omega), cond_false]
        exact ih _ (by omega))
      (fun n s hI => by
        simp only [lens] at hI
        have hb : B88 s = some [] := if_pos (by omega)
        simp only [l82a, ixE, cond_false, hb, Option.bind_some]
        simpa using loop2) 1001 0 (by omega) (by omega)
  · cases h⟩
def B64 (l : List Od) (i : Int) : Option (List Od) := if l.length ≤ 1000 ∧ 0 ≤ i ∧ i < (l.length : Int) then some (wo l i.toNat) else none
theorem KB64 : FnOk Try.prog 64 (F64 B64) := ok64 B82 KB82 B64 fun l i r h => ⟨0, by
  simp only [B64] at h
  split at h
  · rename_i hh
    obtain ⟨hl, h0, h1⟩ := hh
    obtain ⟨k, rfl⟩ : ∃ k : Nat, i = k := ⟨i.toNat, by omega⟩
    rw [← h, m64, w64_succ (by omega), Int.toNat_natCast, Int.toNat_natCast]
    have hb : B82 [l.take k, l.drop (k + 1)] = some (wo l k) := by
      rw [B82, if_pos ⟨by simp only [lens, List.length_take, List.length_drop]; omega, by simp⟩]; simp [wo]
    rw [decide_eq_true (by omega), decide_eq_true (by omega), chk_true, chk_true, hb]; rfl
  · cases h⟩

/-- Where a number lies with one more. -/
def skip (i j : Nat) : Nat := if j < i then j else j + 1
theorem skip_lt {i j : Nat} (h : j < i) : skip i j = j := if_pos h
theorem skip_ge {i j : Nat} (h : i ≤ j) : skip i j = j + 1 := if_neg (by omega)

theorem cnt_skip (p : Nat → Bool) : ∀ {n i : Nat}, i ≤ n → cnt p (n + 1) = (p i).toNat + cnt (fun j => p (skip i j)) n
  | 0, i, h => by
    obtain rfl : i = 0 := by omega
    simp [cnt]
  | n + 1, i, h => by
    by_cases q : i = n + 1
    · subst q
      have e : cnt (fun j => p (skip (n + 1) j)) (n + 1) = cnt p (n + 1) := cnt_congr fun j hj => by rw [skip_lt (by omega)]
      rw [cnt, e]; omega
    · rw [cnt, cnt_skip p (n := n) (i := i) (by omega), cnt, skip_ge (by omega)]; omega
theorem ws_skip (f : Nat → Int) (p : Nat → Bool) : ∀ {n i : Nat}, i ≤ n → ws f p (n + 1) = cond (p i) (f i) 0 + ws (fun j => f (skip i j)) (fun j => p (skip i j)) n
  | 0, i, h => by
    obtain rfl : i = 0 := by omega
    simp [ws]
  | n + 1, i, h => by
    by_cases q : i = n + 1
    · subst q
      rw [ws, ws_congr (f := fun j => f (skip (n + 1) j)) (g := f) (p := fun j => p (skip (n + 1) j)) (q := p) (fun j hj => by rw [skip_lt (by omega)]) (fun j hj _ => by rw [skip_lt (by omega)])]; omega
    · rw [ws, ws_skip f p (n := n) (i := i) (by omega), ws, skip_ge (by omega)]; omega

theorem wo_len {l : List Od} {i : Nat} (h : i < l.length) : (wo l i).length + 1 = l.length := by simp only [wo, List.length_append, List.length_take, List.length_drop]; omega
theorem wo_get {l : List Od} {i : Nat} (h : i < l.length) (j : Nat) : (wo l i).getD j d3 = l.getD (skip i j) d3 := by
  have hl : (l.take i).length = i := by rw [List.length_take]; omega
  simp only [wo, List.getD_eq_getElem?_getD]
  by_cases q : j < i
  · rw [skip_lt q, List.getElem?_append_left (by omega), List.getElem?_take_of_lt q]
  · rw [skip_ge (by omega), List.getElem?_append_right (by omega), List.getElem?_drop, hl, show i + 1 + (j - i) = j + 1 by omega]
theorem wo_mem {l : List Od} {i : Nat} {o : Od} (h : o ∈ wo l i) : o ∈ l := by
  rcases List.mem_append.1 h with h | h
  · exact List.mem_of_mem_take h
  · exact List.mem_of_mem_drop h
theorem Ok6.wo {l : List Od} (h : Ok6 l) (i : Nat) : Ok6 (wo l i) := ⟨by
  have := h.len
  simp only [Go.Proofs.Ytbblnbolabpfmaa.wo, List.length_append, List.length_take, List.length_drop]; omega, fun o ho => h.all o (wo_mem ho)⟩

theorem dyl_wo {l : List Od} {i : Nat} (h : i < l.length) (j : Nat) : dyl (wo l i) j = dyl l (skip i j) := by rw [dyl, wo_get h, dyl]
theorem fnl_wo {l : List Od} {i : Nat} (h : i < l.length) (j : Nat) : fnl (wo l i) j = fnl l (skip i j) := by rw [fnl, wo_get h, fnl]

theorem by_wo {l : List Od} {i : Nat} (h : i < l.length) {T : Nat → Bool} (hT : T i = false) (d : Nat) : by_ (dyl l) l.length T d = by_ (dyl (wo l i)) (wo l i).length (fun j => T (skip i j)) d := by
  unfold by_
  have hl := wo_len h
  rw [← hl, cnt_skip _ (i := i) (by omega), hT]
  simp only [Bool.false_and, Bool.toNat_false, Nat.zero_add]
  exact cnt_congr fun j _ => by rw [dyl_wo h]
theorem ws_wo {l : List Od} {i : Nat} (h : i < l.length) (T : Nat → Bool) : ws (fnl l) T l.length = cond (T i) (fnl l i) 0 + ws (fnl (wo l i)) (fun j => T (skip i j)) (wo l i).length := by
  have hl := wo_len h
  have e : ws (fnl (wo l i)) (fun j => T (skip i j)) (wo l i).length = ws (fun j => fnl l (skip i j)) (fun j => T (skip i j)) (wo l i).length := ws_congr (fun _ _ => rfl) fun j _ _ => fnl_wo h j
  rw [e, ← hl, ws_skip _ _ (i := i) (by omega)]
theorem pos_wo {l : List Od} {i : Nat} (h : i < l.length) {T : Nat → Bool} (hT : T i = false) : Pos (dyl l) l.length T ↔ Pos (dyl (wo l i)) (wo l i).length (fun j => T (skip i j)) := by
  constructor
  · intro hp d; rw [← by_wo h hT]; exact hp d
  · intro hp d; rw [by_wo h hT]; exact hp d
theorem tot_wo {l : List Od} {i : Nat} (h : i < l.length) : tot l = fnl l i + tot (wo l i) := ws_wo h fun _ => true

/-- A set, with a place for one more. -/
def lift (i : Nat) (T : Nat → Bool) (j : Nat) : Bool := if j < i then T j else if j = i then false else T (j - 1)
theorem lift_self (i : Nat) (T : Nat → Bool) : lift i T i = false := by simp [lift]
theorem lift_skip (i : Nat) (T : Nat → Bool) (j : Nat) : lift i T (skip i j) = T j := by
  by_cases q : j < i
  · rw [skip_lt q, lift, if_pos q]
  · rw [skip_ge (by omega), lift, if_neg (by omega), if_neg (by omega), Nat.add_sub_cancel]

theorem wo_least {l : List Od} (h : Ok6 l) {i : Nat} (hi : i < l.length) : (∀ T, Pos (dyl l) l.length T → T i = false → fnl l i + leastO (wo l i) ≤ tot l - ws (fnl l) T l.length) ∧ ∃ T, Pos (dyl l) l.length T ∧ T i = false ∧ fnl l i + leastO (wo l i) = tot l - ws (fnl l) T l.length := by
  obtain ⟨o1, T, o2, o3⟩ := leastO_ok (h.wo i)
  refine ⟨fun T hT hTi => ?_, lift i T, ?_, lift_self i T, ?_⟩
  · have := o1 _ ((pos_wo hi hTi).1 hT)
    rw [tot_wo hi, ws_wo hi, hTi, cond_false]; omega
  · exact (pos_wo hi (lift_self i T)).2 (o2.congr fun j _ => lift_skip i T j)
  · rw [tot_wo hi, ws_wo hi, lift_self, cond_false, ws_congr (q := T) (fun j _ => lift_skip i T j) fun _ _ _ => rfl]; omega

theorem alw_iff {l : List Od} (h : Ok6 l) {i : Nat} (hi : i < l.length) : leastO l < fnl l i + leastO (wo l i) ↔ ∀ T, BestS l T → T i = true := by
  obtain ⟨w1, T, w2, w3, w4⟩ := wo_least h hi
  constructor
  · intro hlt T hT
    cases q : T i with
    | true => rfl
    | false => have := w1 T hT.1 q; have := hT.2; omega
  · intro hall
    refine Classical.byContradiction fun hn => ?_
    have h1 := (leastO_ok h).1 T w2
    have := hall T ⟨w2, by omega⟩
    rw [w3] at this; cases this

theorem leastO_rng {l : List Od} (h : Ok6 l) : 0 ≤ leastO l ∧ leastO l ≤ 120000 := by
  obtain ⟨o1, T, o2, o3⟩ := leastO_ok h
  have hlen := h.len
  have h1 : 0 ≤ fim l 0 ∧ fim l 0 ≤ 10000 * l.length := ws_rng fun i hi => h.fn hi
  have h2 := o1 _ (Pos.empty (dy := dyl l) (n := l.length))
  have h3 : ws (fnl l) (fun i => !T i) l.length = tot l - ws (fnl l) T l.length := by
    have h := ws_split (fnl l) (fun _ => true) T l.length
    simp only [Bool.true_and] at h
    have e : ws (fnl l) (fun i => T i) l.length = ws (fnl l) T l.length := rfl
    unfold tot; omega
  have h4 : 0 ≤ ws (fnl l) (fun i => !T i) l.length ∧ ws (fnl l) (fun i => !T i) l.length ≤ 10000 * l.length := ws_rng fun i hi => h.fn hi
  omega

end Go.Proofs.Ytbblnbolabpfmaa
