/-
  What plans show, by both.
-/
import Derived.Test.YtjcgjbdlgmbepaaS2
namespace Go.Proofs.Ytjcgjbdlgmbepaa
open Go.RowKit
set_option linter.unusedVariables false

def ind (b : Bool) : Int := cond b 1 0
theorem cnt_one (s : Int) (l : List Int) : cnt s [l] = ind (l.contains s) := by
  simp only [cnt, List.filter_cons, List.filter_nil, ind]
  cases h : l.contains s <;> simp
def shW (odd way : Int) (w : Wg) : Int := way * (ind (w.2.1.contains odd) - ind (w.1.contains odd))
def shR (odd way : Int) (w : Wg) : Int := cond (w.2.1.contains odd) way (cond (w.1.contains odd) (-way) 0)
theorem shW_shR {odd way : Int} {w : Wg} (h : ∀ x ∈ w.2.1, w.1.contains x = false) : shW odd way w = shR odd way w := by
  unfold shW shR
  cases h2 : w.2.1.contains odd with
  | true =>
    rw [h odd (by rw [List.contains_iff_mem] at h2; exact h2)]; simp [ind]
  | false => cases h1 : w.1.contains odd <;> simp [ind]

theorem take_set {α : Type} {l : List α} {t : Nat} {v : α} (h : t < l.length) : (l.set t v).take (t + 1) = l.take t ++ [v] := by
  rw [List.take_add_one, List.take_set_of_le (Nat.le_refl t), List.getElem?_set_self h]; rfl

theorem mkOk_of {n eb : Nat} (h : n * eb ≤ 140737488355328) (hb : 0 < eb) : mkOk (n : Int) (n : Int) eb = true := by
  have : n ≤ n * eb := Nat.le_mul_of_pos_right n hb
  have h2 : ((n : Int) * (eb : Int)) ≤ 140737488355328 := by rw [← Int.natCast_mul]; omega
  unfold mkOk
  rw [decide_eq_true (show 0 ≤ (n : Int) ∧ (n : Int) ≤ (n : Int) by omega), decide_eq_true h2, decide_eq_true (show (n : Int) ≤ 140737488355328 by omega)]; rfl

def B66 (p : List Wg) (odd way : Int) : Option (List Int) := if fair p ∧ -1 ≤ way ∧ way ≤ 1 then some (p.map (shW odd way)) else none
theorem KB66 : FnOk Try.prog 66 (F66 B66) := ok66 B68 KB68 B66 fun p odd way r h => ⟨1001, by
  simp only [B66] at h
  split at h
  · rename_i hl
    obtain ⟨⟨hl, hm⟩, hw0, hw1⟩ := hl
    rw [← h, m66, mkOk_of (by omega) (by omega), chk_true]
    have main := rangeIx p ([], ([], ())) (fun n (o : List Int) t => l66a B68 1001 p odd way n t o) (fun _ _ o => o.length = p.length) (fun t xs o => some (o.take t ++ xs.map (shW odd way)))
      (fun n o t x rest ht hx hI ih => by
        have hxm := hm x (getD_mem ht hx)
        have f1 : B68 odd [x.2.1] = some (ind (x.2.1.contains odd)) := by rw [B68, if_pos ⟨by simp, by intro l hl; simp at hl; subst hl; exact hxm.2⟩, cnt_one]
        have f2 : B68 odd [x.1] = some (ind (x.1.contains odd)) := by rw [B68, if_pos ⟨by simp, by intro l hl; simp at hl; subst hl; exact hxm.1⟩, cnt_one]
        have hi : ∀ b, 0 ≤ ind b ∧ ind b ≤ 1 := by intro b; cases b <;> simp [ind]
        have b1 := hi (x.2.1.contains odd)
        have b2 := hi (x.1.contains odd)
        have e1 : w64 (ind (x.2.1.contains odd) - ind (x.1.contains odd)) = ind (x.2.1.contains odd) - ind (x.1.contains odd) := w64_small (by omega)
        have e2 : w64 (way * (ind (x.2.1.contains odd) - ind (x.1.contains odd))) = shW odd way x := by
          refine w64_small ?_
          have hw : way = -1 ∨ way = 0 ∨ way = 1 := by omega
          rcases hw with rfl | rfl | rfl <;> omega
        have hto : t < o.length := by rw [hI]; exact ht
        simp only [l66a, ixA ht, ixB ht, cond_true, chk_true, Int.toNat_natCast, ixW ht (by omega), hx, f1, f2, Option.bind_some, e1, e2, ixB hto]
        rw [ih _ (by rw [List.length_set]; exact hI), take_set hto]
        simp)
      (fun n o hI => by
        simp only [l66a, ixE, cond_false]
        rw [← hI, List.take_length]; simp) 1001 (List.replicate ((p.length : Int).toNat) 0) (by omega) (by simp)
    simpa using main
  · cases h⟩

def B67 (p : List Wg) (odd way : Int) : Option (List Int) := if fair p ∧ -1 ≤ way ∧ way ≤ 1 then some (p.map (shR odd way)) else none
theorem KB67 : FnOk Try.prog 67 (F67 B67) := ok67 Bon KB81 B67 fun p odd way r h => ⟨1001, by
  simp only [B67] at h
  split at h
  · rename_i hl
    obtain ⟨⟨hl, hm⟩, hw0, hw1⟩ := hl
    rw [← h, m67]
    have main := rangeInv p ([], ([], ())) (fun n (o : List Int) t => l67a Bon 1001 p odd way n t o) (fun xs o => o.length + xs.length ≤ 1000) (fun xs o => some (o ++ xs.map (shR odd way)))
      (fun n o t x rest ht hx hI ih => by
        have hxm := hm x (getD_mem ht hx)
        simp only [List.length_cons] at hI
        have hs : small (o.length + 1) 8 = true := small_of (by omega) (by omega)
        have hn : w64 (0 - way) = -way := by rw [w64_small (by omega)]; omega
        simp only [l67a, ixA ht, ixB ht, cond_true, chk_true, Int.toNat_natCast, ixW ht (by omega), hx, Bon, if_pos hxm.1, if_pos hxm.2, Option.bind_some, hs, hn]
        have hlen : ∀ v : Int, (o ++ [v]).length + rest.length ≤ 1000 := by intro v; simp; omega
        simp only [ih _ (hlen _), List.map_cons, shR]
        cases x.1.contains odd <;> cases x.2.1.contains odd <;> simp)
      (fun n o hI => by simp only [l67a, ixE, cond_false, List.map_nil, List.append_nil]) 1001 [] (by omega) (by simpa using hl)
    simpa using main
  · cases h⟩

theorem panE_zero {st : Int} {o : List Int} : ∀ {xs : List Int} {last : Int}, panE st o last xs = 0 → ∀ x ∈ xs, o.contains x = false
  | [], _, _, x, hx => by cases hx
  | y :: ys, last, h, x, hx => by
    by_cases a : 0 ≤ y ∧ y ≤ st - 1
    · by_cases b : y ≤ last
      · rw [panE_7 a b] at h; omega
      · cases c : o.contains y with
        | true => rw [panE_6 a b c] at h; omega
        | false =>
          rw [panE_go a b c] at h
          rcases List.mem_cons.1 hx with rfl | hx'
          · exact c
          · exact panE_zero h x hx'
    · rw [panE_5 a] at h; omega
theorem ore_zero {a b : Int} (h : ore a b = 0) : a = 0 ∧ b = 0 := by
  unfold ore at h
  cases e : a == 0 with
  | true => rw [e] at h; exact ⟨by simpa using e, h⟩
  | false =>
    rw [e] at h
    simp only [cond_false] at h
    rw [h] at e; cases e
theorem wgE_zero {st : Int} {w : Wg} (h : wgE st w = 0) : w.1.length ≠ 0 ∧ w.1.length = w.2.1.length ∧ panE st [] (-1) w.1 = 0 ∧ panE st w.1 (-1) w.2.1 = 0 := by
  unfold wgE at h
  cases e1 : w.1.length == 0 with
  | true => rw [e1] at h; simp at h
  | false =>
    cases e2 : w.2.1.length == 0 with
    | true => rw [e1, e2] at h; simp at h
    | false =>
      cases e3 : w.1.length != w.2.1.length with
      | true => rw [e1, e2, e3] at h; simp at h
      | false =>
        rw [e1, e2, e3] at h
        simp only [cond_false] at h
        exact ⟨by simpa using e1, by simpa using e3, ore_zero h⟩
theorem wgsE_zero {st : Int} : ∀ {p : List Wg}, wgsE st p = 0 → ∀ w ∈ p, wgE st w = 0
  | [], _, w, hw => by cases hw
  | v :: vs, h, w, hw => by
    obtain ⟨a, b⟩ := ore_zero h
    rcases List.mem_cons.1 hw with rfl | hw'
    · exact a
    · exact wgsE_zero b w hw'
theorem planE_zero {st : Int} {p : List Wg} (h : planE st p = 0) : (1 ≤ st ∧ st ≤ 13) ∧ p.length ≤ 3 ∧ ∀ w ∈ p, wgE st w = 0 := by
  unfold planE at h
  split at h
  · omega
  · rename_i a
    split at h
    · omega
    · exact ⟨by omega, by omega, wgsE_zero h⟩
theorem shows_same {st odd way : Int} {p : List Wg} (h : planE st p = 0) : p.map (shW odd way) = p.map (shR odd way) :=
  List.map_congr_left fun w hw => shW_shR (panE_zero (wgE_zero ((planE_zero h).2.2 w hw)).2.2.2)

/-- Shows. -/
def showsS (st : Int) (p : List Wg) (odd way : Int) : List Int × Int :=
  cond (planE st p == 0) (cond (decide (0 ≤ odd ∧ odd ≤ st - 1)) (cond (decide (-1 ≤ way ∧ way ≤ 1)) (p.map (shR odd way), 0) ([], 3)) ([], 5)) ([], planE st p)
def B33 (st : Int) (p : List Wg) (odd way : Int) : Option (List Int × Int) := if fair p then some (showsS st p odd way) else none
theorem KB33 : FnOk Try.prog 33 (F33 B33) := ok33 B36 B57 B66 KB35 KB57 KB66 B33 fun st p odd way r h => ⟨0, by
  simp only [B33] at h
  split at h
  · rename_i hf
    rw [← h, m33, B36, if_pos hf, Option.bind_some, showsS]
    cases e : planE st p == 0 with
    | false => simp only [bne, e, Bool.not_false, cond_true, cond_false]
    | true =>
      have e0 : planE st p = 0 := by simpa using e
      have hst := (planE_zero e0).1
      simp only [bne, e, Bool.not_true, cond_true, cond_false, B57, Option.bind_some, w64_small (show -4611686018427387904 ≤ st - 1 ∧ st - 1 ≤ 4611686018427387904 by omega)]
      by_cases a : 0 ≤ odd ∧ odd ≤ st - 1
      · by_cases b : -1 ≤ way ∧ way ≤ 1
        · rw [decide_eq_true a, decide_eq_true b, B66, if_pos ⟨hf, b⟩, shows_same e0]; rfl
        · rw [decide_eq_true a, decide_eq_false b]; rfl
      · rw [decide_eq_false a]; rfl
  · cases h⟩
theorem KB34 : FnOk Try.prog 34 (F34 B33) := ok34 B36 B58 B67 KB36 KB58 KB67 B33 fun st p odd way r h => ⟨0, by
  simp only [B33] at h
  split at h
  · rename_i hf
    rw [← h, m34, B36, if_pos hf, Option.bind_some, showsS]
    cases e : planE st p == 0 with
    | false => simp only [bne, e, Bool.not_false, cond_true, cond_false]
    | true =>
      have e0 : planE st p = 0 := by simpa using e
      have hst := (planE_zero e0).1
      simp only [bne, e, Bool.not_true, cond_true, cond_false, B58, Option.bind_some, w64_small (show -4611686018427387904 ≤ st - 1 ∧ st - 1 ≤ 4611686018427387904 by omega)]
      by_cases a : 0 ≤ odd ∧ odd ≤ st - 1
      · by_cases b : -1 ≤ way ∧ way ≤ 1
        · rw [decide_eq_true a, decide_eq_true b, B67, if_pos ⟨hf, b⟩]; rfl
        · rw [decide_eq_true a, decide_eq_false b]; rfl
      · rw [decide_eq_false a]; rfl
  · cases h⟩

/-- large, given. -/
def largeL (p : List Wg) : Bool := decide (p.length > 20) || p.any fun w => decide (w.1.length > 40) || decide (w.2.1.length > 40)
theorem KB31 : FnOk Try.prog 31 (F31 fun p => some (largeL p)) := ok31 _ fun p r h => ⟨1001, by
  rw [← h, m31, largeL]
  by_cases hl : p.length > 20
  · rw [decide_eq_true (show (p.length : Int) > 20 by omega), decide_eq_true hl]; rfl
  · rw [decide_eq_false (show ¬ (p.length : Int) > 20 by omega), decide_eq_false hl, cond_false, Bool.false_or]
    exact rangeInd p ([], ([], ())) (fun n (_ : Unit) t => l31a 1001 p n t) (fun xs _ => some (xs.any fun w => decide (w.1.length > 40) || decide (w.2.1.length > 40)))
      (fun n _ t x rest ht hx ih => by
        simp only [l31a, ixA ht, ixB ht, cond_true, chk_true, Int.toNat_natCast, ixW ht (by omega), hx, ih (), List.any_cons]
        by_cases a : x.1.length > 40
        · rw [decide_eq_true (show (x.1.length : Int) > 40 by omega), decide_eq_true a]; rfl
        · rw [decide_eq_false (show ¬ (x.1.length : Int) > 40 by omega), decide_eq_false a]
          by_cases b : x.2.1.length > 40
          · rw [decide_eq_true (show (x.2.1.length : Int) > 40 by omega), decide_eq_true b]; rfl
          · rw [decide_eq_false (show ¬ (x.2.1.length : Int) > 40 by omega), decide_eq_false b]; rfl)
      (fun n _ => by simp only [l31a, ixE, cond_false]; rfl) 1001 () (by omega)⟩
theorem fair_of_large {p : List Wg} (h : largeL p = false) : fair p := by
  simp only [largeL, Bool.or_eq_false_iff, decide_eq_false_iff_not, List.any_eq_false] at h
  refine ⟨by omega, fun w hw => ?_⟩
  have := h.2 w hw
  simp at this
  omega
def B32 (p : List Wg) : Option (List Wg) := if p.length ≤ 1000 then some p else none
theorem KB32 : FnOk Try.prog 32 (F32 B32) := ok32 B32 fun p r h => ⟨1001, by
  simp only [B32] at h
  split at h
  · rename_i hl
    rw [← h, m32]
    have main := rangeInv p ([], ([], ())) (fun n (o : List Wg) t => l32a 1001 p n t o) (fun xs o => o.length + xs.length ≤ 1000) (fun xs o => some (o ++ xs))
      (fun n o t x rest ht hx hI ih => by
        simp only [List.length_cons] at hI
        have hs : small (o.length + 1) 48 = true := small_of (by omega) (by omega)
        simp only [l32a, ixA ht, ixB ht, cond_true, chk_true, Int.toNat_natCast, ixW ht (by omega), hx, hs]
        rw [ih _ (by simp; omega)]; simp)
      (fun n o hI => by simp only [l32a, ixE, cond_false, List.append_nil]) 1001 [] (by omega) (by simpa using hl)
    simpa using main
  · cases h⟩

/-- WeighCases. -/
theorem KB5 : FnOk Try.prog 5 (F5 fun _ _ _ _ => some true) := ok5 (some true) Beq (fun p => some (largeL p)) B32 B33 B33 B36 B36 K16t KB21 KB31 KB32 KB33 KB34 KB35 KB36 _ fun st p odd way r h => ⟨0, by
  rw [← h, m5, Option.bind_some]
  cases hL : largeL p with
  | true => rfl
  | false =>
    have hf := fair_of_large hL
    have hlen : (showsS st p odd way).1.length ≤ 1000 := by
      unfold showsS
      cases planE st p == 0 with
      | false => exact Nat.zero_le _
      | true =>
        cases decide (0 ≤ odd ∧ odd ≤ st - 1) with
        | false => exact Nat.zero_le _
        | true =>
          cases decide (-1 ≤ way ∧ way ≤ 1) with
          | false => exact Nat.zero_le _
          | true => simpa using hf.1
    simp only [cond_false, B32, if_pos hf.1, Option.bind_some, B33, if_pos hf, Beq, if_pos hlen, decide_true, cond_true, B36, beq_self_eq_true]⟩
end Go.Proofs.Ytjcgjbdlgmbepaa
