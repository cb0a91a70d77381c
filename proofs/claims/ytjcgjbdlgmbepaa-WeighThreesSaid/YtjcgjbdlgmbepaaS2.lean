/-
  CheckPlan and Shows of both, as plain functions.
-/
import Derived.Test.YtjcgjbdlgmbepaaS1
namespace Go.Proofs.Ytjcgjbdlgmbepaa
open Go.RowKit
set_option linter.unusedVariables false

/-- The error of a pan, behind a stone; other is the pan before it. -/
def panE (st : Int) (other : List Int) : Int → List Int → Int
  | _, [] => 0
  | last, x :: xs => if ¬ (0 ≤ x ∧ x ≤ st - 1) then 5 else if x ≤ last then 7 else if other.contains x then 6 else panE st other x xs
theorem panE_5 {st : Int} {o : List Int} {last x : Int} {xs : List Int} (h : ¬ (0 ≤ x ∧ x ≤ st - 1)) : panE st o last (x :: xs) = 5 := if_pos h
theorem panE_7 {st : Int} {o : List Int} {last x : Int} {xs : List Int} (h : 0 ≤ x ∧ x ≤ st - 1) (h2 : x ≤ last) : panE st o last (x :: xs) = 7 := (if_neg (not_not_intro h)).trans (if_pos h2)
theorem panE_6 {st : Int} {o : List Int} {last x : Int} {xs : List Int} (h : 0 ≤ x ∧ x ≤ st - 1) (h2 : ¬ x ≤ last) (h3 : o.contains x = true) : panE st o last (x :: xs) = 6 := (if_neg (not_not_intro h)).trans ((if_neg h2).trans (if_pos h3))
theorem panE_go {st : Int} {o : List Int} {last x : Int} {xs : List Int} (h : 0 ≤ x ∧ x ≤ st - 1) (h2 : ¬ x ≤ last) (h3 : o.contains x = false) : panE st o last (x :: xs) = panE st o x xs := (if_neg (not_not_intro h)).trans ((if_neg h2).trans (if_neg (by rw [h3]; exact Bool.false_ne_true)))
/-- The first of two errors; an error, or what follows. -/
def ore (a b : Int) : Int := cond (a == 0) b a
def oreO (a : Int) (k : Option Int) : Option Int := cond (a == 0) k (some a)
theorem oreO_some (a b : Int) : oreO a (some b) = some (ore a b) := by unfold oreO ore; cases a == 0 <;> rfl
theorem oreO_ne {a : Int} {k : Option Int} (h : (a == 0) = false) : oreO a k = some a := by unfold oreO; rw [h]; rfl
/-- The error of a weighing. -/
def wgE (st : Int) (w : Wg) : Int := cond (w.1.length == 0) 1 (cond (w.2.1.length == 0) 1 (cond (w.1.length != w.2.1.length) 9 (ore (panE st [] (-1) w.1) (panE st w.1 (-1) w.2.1))))
def wgsE (st : Int) : List Wg → Int
  | [] => 0
  | w :: ws => ore (wgE st w) (wgsE st ws)
theorem wg_walk {st : Int} {x : Wg} {k : Option Int} {m : Int} (hk : k = some m) : cond ((x.1.length : Int) == 0) (some 1) (cond ((x.2.1.length : Int) == 0) (some 1) (cond ((x.1.length : Int) != (x.2.1.length : Int)) (some 9) (oreO (panE st [] (-1) x.1) (oreO (panE st x.1 (-1) x.2.1) k)))) = some (ore (wgE st x) m) := by
  subst hk
  have e1 : ((x.1.length : Int) == 0) = (x.1.length == 0) := by cases x.1 <;> simp <;> omega
  have e2 : ((x.2.1.length : Int) == 0) = (x.2.1.length == 0) := by cases x.2.1 <;> simp <;> omega
  have e3 : ((x.1.length : Int) != (x.2.1.length : Int)) = (x.1.length != x.2.1.length) := by
    by_cases c : x.1.length = x.2.1.length
    · rw [eq_len c]; simp [c]
    · rw [(neq_len c).1]; simp [c]
  rw [e1, e2, e3, wgE]
  cases x.1.length == 0
  · cases x.2.1.length == 0
    · cases x.1.length != x.2.1.length
      · simp only [cond_false]
        cases h : panE st [] (-1) x.1 == 0
        · rw [oreO_ne h]; simp only [ore, h, cond_false]
        · simp only [oreO, ore, h, cond_true]
          cases h2 : panE st x.1 (-1) x.2.1 == 0
          · rfl
          · rfl
      · rfl
    · rfl
  · rfl
def planE (st : Int) (p : List Wg) : Int := if ¬ (1 ≤ st ∧ st ≤ 13) then 3 else if p.length > 3 then 2 else wgsE st p
/-- No list is long. -/
def fair (p : List Wg) : Prop := p.length ≤ 1000 ∧ ∀ w ∈ p, w.1.length ≤ 1000 ∧ w.2.1.length ≤ 1000
instance (p : List Wg) : Decidable (fair p) := inferInstanceAs (Decidable (_ ∧ _))

def B69 (st : Int) (pan other : List Int) : Option Int := if pan.length ≤ 1000 ∧ other.length ≤ 1000 ∧ 0 ≤ st ∧ st ≤ 1000 then some (panE st other (-1) pan) else none
theorem KB69 : FnOk Try.prog 69 (F69 B69) := ok69 B58 Bon KB58 KB81 B69 fun st pan other r h => ⟨1001, by
  simp only [B69] at h
  split at h
  · rename_i hl
    obtain ⟨hl, ho, hs0, hs1⟩ := hl
    rw [← h, m69]
    have hst : w64 (st - 1) = st - 1 := w64_small (by omega)
    have main := rangeIx pan 0 (fun n (_ : Unit) t => l69a B58 Bon 1001 st pan other n t) (fun _ _ _ => True)
      (fun t xs _ => some (panE st other (if t = 0 then -1 else pan.getD (t - 1) 0) xs))
      (fun n _ t x rest ht hx _ ih => by
        simp only [l69a, ixA ht, ixB ht, cond_true, chk_true, Int.toNat_natCast, ixW ht (by omega), hx, ih () trivial, B58, Option.bind_some, hst, panE, Bon, if_pos ho]
        by_cases e : 0 ≤ x ∧ x ≤ st - 1
        · rw [decide_eq_true e, Bool.not_true, cond_false, if_neg (not_not_intro e), if_neg (show ¬ t + 1 = 0 by omega), show t + 1 - 1 = t by omega, hx]
          by_cases e0 : t = 0
          · subst e0
            rw [show decide (((0 : Nat) : Int) > 0) = false from rfl, cond_false, if_pos rfl, if_neg (by omega)]
            cases hq : other.contains x <;> simp
          · have e1 : decide ((t : Int) > 0) = true := decide_eq_true (by omega)
            have e2 : w64 ((t : Int) - 1) = ((t - 1 : Nat) : Int) := by rw [w64_small (by omega)]; omega
            rw [e1, cond_true, if_neg e0, e2, Int.toNat_natCast, ixB (show t - 1 < pan.length by omega), chk_true]
            by_cases e3 : x ≤ pan.getD (t - 1) 0
            · rw [decide_eq_true e3, cond_true, if_pos e3]
            · rw [decide_eq_false e3, cond_false, if_neg e3]
              cases hq : other.contains x <;> simp
        · rw [decide_eq_false e, Bool.not_false, cond_true, if_pos e])
      (fun n _ _ => by simp only [l69a, ixE, cond_false]; rfl) 1001 () (by omega) trivial
    simpa using main
  · cases h⟩

theorem getD_mem {α : Type} {l : List α} {d x : α} {t : Nat} (ht : t < l.length) (hx : l.getD t d = x) : x ∈ l := by
  rw [List.getD_eq_getElem?_getD, List.getElem?_eq_getElem ht] at hx
  simp only [Option.getD_some] at hx
  exact hx ▸ List.getElem_mem ht

def B36 (st : Int) (p : List Wg) : Option Int := if fair p then some (planE st p) else none
theorem KB36 : FnOk Try.prog 36 (F36 B36) := ok36 B58 B69 KB58 KB69 B36 fun st p r h => ⟨1001, by
  simp only [B36] at h
  split at h
  · rename_i hl
    obtain ⟨hl, hm⟩ := hl
    rw [← h, m36, planE]
    simp only [B58, Option.bind_some]
    by_cases hs : 1 ≤ st ∧ st ≤ 13
    · rw [decide_eq_true hs, Bool.not_true, cond_false, if_neg (not_not_intro hs)]
      by_cases hp : p.length > 3
      · rw [decide_eq_true (show (p.length : Int) > 3 by omega), cond_true, if_pos hp]
      · rw [decide_eq_false (show ¬ (p.length : Int) > 3 by omega), cond_false, if_neg hp]
        exact rangeInd p ([], ([], ())) (fun n (_ : Unit) t => l36a B58 B69 1001 st p n t) (fun xs _ => some (wgsE st xs))
          (fun n _ t x rest ht hx ih => by
            have hxm := hm x (getD_mem ht hx)
            simp only [l36a, ixA ht, ixB ht, cond_true, chk_true, Int.toNat_natCast, ixW ht (by omega), hx, ih (), B69, wgsE, wgE, if_pos (show x.1.length ≤ 1000 ∧ ([] : List Int).length ≤ 1000 ∧ 0 ≤ st ∧ st ≤ 1000 from ⟨hxm.1, Nat.zero_le _, by omega, by omega⟩),
              if_pos (show x.2.1.length ≤ 1000 ∧ x.1.length ≤ 1000 ∧ 0 ≤ st ∧ st ≤ 1000 from ⟨hxm.2, hxm.1, by omega, by omega⟩), Option.bind_some]
            refine Eq.trans ?_ (wg_walk (st := st) (x := x) (k := some (wgsE st rest)) rfl)
            congr 3
            unfold oreO
            cases h1 : panE st [] (-1) x.1 == 0
            · simp only [cond_false, bne, h1, Bool.not_false, cond_true]
            · simp only [cond_true, bne]
              cases h2 : panE st x.1 (-1) x.2.1 == 0
              · simp only [Bool.not_false, cond_true, cond_false]
              · simp only [Bool.not_true, cond_true, cond_false])
          (fun n _ => by simp only [l36a, ixE, cond_false]; rfl) 1001 () (by omega)
    · rw [decide_eq_false hs, Bool.not_false, cond_true, if_pos hs]
  · cases h⟩

theorem panE_side {st : Int} {a : List Int} : ∀ {last : Int} {xs b : List Int}, (∀ x ∈ xs, b.contains x = true) → panE st a last xs = panE st a last xs := fun _ => rfl

theorem cnt_two {s : Int} {a b : List Int} (hb : b.contains s = true) : (cnt s [a, b] == 2) = a.contains s := by
  simp only [cnt, List.filter_cons, hb, if_true, List.filter_nil]
  cases h : a.contains s <;> simp

theorem getD01 {α : Type} {a b d : α} : ([a, b].getD 0 d = a) ∧ ([a, b].getD 1 d = b) := ⟨rfl, rfl⟩

theorem KB35 : FnOk Try.prog 35 (F35 B36) := ok35 B57 B68 KB57 KB68 B36 fun st p r h => ⟨1001, by
  simp only [B36] at h
  split at h
  · rename_i hl
    obtain ⟨hl, hm⟩ := hl
    rw [← h, m35, planE]
    simp only [B57, Option.bind_some]
    by_cases hs : 1 ≤ st ∧ st ≤ 13
    · rw [decide_eq_true hs, Bool.not_true, cond_false, if_neg (not_not_intro hs)]
      have hst : w64 (st - 1) = st - 1 := w64_small (by omega)
      by_cases hp : p.length > 3
      · rw [decide_eq_true (show (p.length : Int) > 3 by omega), cond_true, if_pos hp]
      · rw [decide_eq_false (show ¬ (p.length : Int) > 3 by omega), cond_false, if_neg hp]
        -- a pan
        have pan0 : ∀ (t22 : Nat) (x : Wg), x.1.length ≤ 1000 → p.getD t22 ([], ([], ())) = x → ∀ (rec : Int → Option Int) (last : Int), l35c B57 B68 1001 st p (t22 : Int) 0 rec 1001 last 0 = oreO (panE st [] last x.1) (rec 1) := by
          intro t22 x hxl hx rec last
          exact rangeInd x.1 0 (fun n (s : Int) t => l35c B57 B68 1001 st p (t22 : Int) 0 rec n s t) (fun xs s => oreO (panE st [] s xs) (rec 1))
            (fun n s t y rest ht hy ih => by
              simp only [l35c, Int.toNat_natCast, hx, Int.toNat_zero, getD01, ixA ht, ixB ht, cond_true, chk_true, ixW ht (by omega), hy, ih, B57, Option.bind_some, hst]
              by_cases e : 0 ≤ y ∧ y ≤ st - 1
              · rw [decide_eq_true e, Bool.not_true, cond_false]
                by_cases e3 : y ≤ s
                · rw [decide_eq_true e3, cond_true, panE_7 e e3]; rfl
                · rw [decide_eq_false e3, cond_false, panE_go e e3 rfl]; rfl
              · rw [decide_eq_false e, Bool.not_false, cond_true, panE_5 e]; rfl)
            (fun n s => by simp only [l35c, Int.toNat_natCast, hx, Int.toNat_zero, getD01, ixE, cond_false, panE]; rfl) 1001 last (by omega)
        have pan1 : ∀ (t22 : Nat) (x : Wg), x.1.length ≤ 1000 → x.2.1.length ≤ 1000 → p.getD t22 ([], ([], ())) = x → ∀ (rec : Int → Option Int) (last : Int), l35c B57 B68 1001 st p (t22 : Int) 1 rec 1001 last 0 = oreO (panE st x.1 last x.2.1) (rec 2) := by
          intro t22 x hxl hxl2 hx rec last
          exact rangeInd x.2.1 0 (fun n (s : Int) t => l35c B57 B68 1001 st p (t22 : Int) 1 rec n s t) (fun xs s => oreO (panE st x.1 s xs) (rec 2))
            (fun n s t y rest ht hy ih => by
              have hc : x.2.1.contains y = true := by rw [List.contains_iff_mem]; exact getD_mem ht hy
              have hf : B68 y [x.1, x.2.1] = some (cnt y [x.1, x.2.1]) := if_pos ⟨by simp, by intro l hl; simp at hl; rcases hl with rfl | rfl <;> assumption⟩
              simp only [l35c, Int.toNat_natCast, hx, show (1 : Int).toNat = 1 from rfl, getD01, ixA ht, ixB ht, cond_true, chk_true, ixW ht (by omega), hy, ih, B57, Option.bind_some, hst, hf, cnt_two hc]
              by_cases e : 0 ≤ y ∧ y ≤ st - 1
              · rw [decide_eq_true e, Bool.not_true, cond_false]
                by_cases e3 : y ≤ s
                · rw [decide_eq_true e3, cond_true, panE_7 e e3]; rfl
                · rw [decide_eq_false e3, cond_false]
                  cases hq : x.1.contains y
                  · rw [panE_go e e3 hq]; rfl
                  · rw [panE_6 e e3 hq]; rfl
              · rw [decide_eq_false e, Bool.not_false, cond_true, panE_5 e]; rfl)
            (fun n s => by simp only [l35c, Int.toNat_natCast, hx, show (1 : Int).toNat = 1 from rfl, getD01, ixE, cond_false, panE]; rfl) 1001 last (by omega)
        exact rangeInd p ([], ([], ())) (fun n (_ : Unit) t => l35a B57 B68 1001 st p n t) (fun xs _ => some (wgsE st xs))
          (fun n _ t x rest ht hx ih => by
            have hxm := hm x (getD_mem ht hx)
            have hb : ∀ rec : Int → Option Int, l35b B57 B68 1001 st p (t : Int) rec 1001 0 = oreO (panE st [] (-1) x.1) (oreO (panE st x.1 (-1) x.2.1) (rec (w64 ((t : Int) + 1)))) := by
              intro rec
              show l35b B57 B68 1001 st p (t : Int) rec (1000 + 1) 0 = _
              rw [l35b, show decide ((0 : Int) < 2) = true from rfl, cond_true, show decide (0 ≤ (0 : Int) ∧ (0 : Int) < 2) = true from rfl, chk_true, pan0 t x hxm.1 hx]
              congr 1
              show l35b B57 B68 1001 st p (t : Int) rec (999 + 1) 1 = _
              rw [l35b, show decide ((1 : Int) < 2) = true from rfl, cond_true, show decide (0 ≤ (1 : Int) ∧ (1 : Int) < 2) = true from rfl, chk_true, pan1 t x hxm.1 hxm.2 hx]
              congr 1
            simp only [l35a, ixA ht, ixB ht, cond_true, chk_true, Int.toNat_natCast, hx, hb, ixW ht (by omega), ih (), wgsE, wgE]
            exact wg_walk rfl)
          (fun n _ => by simp only [l35a, ixE, cond_false]; rfl) 1001 () (by omega)
    · rw [decide_eq_false hs, Bool.not_false, cond_true, if_pos hs]
  · cases h⟩
end Go.Proofs.Ytjcgjbdlgmbepaa
