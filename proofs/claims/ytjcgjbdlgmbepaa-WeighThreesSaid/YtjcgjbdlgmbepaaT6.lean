/-
  Lay of both; the law WeighLays.
-/
import Derived.Test.YtjcgjbdlgmbepaaT5
namespace Go.Proofs.Ytjcgjbdlgmbepaa
open Go.RowKit
set_option linter.unusedVariables false

theorem KB30 : FnOk Try.prog 30 (F30 B29) := ok30 B22 B58 B63 KB23 KB58 KB63 B29 fun ws l load r h => ⟨1001, by
  simp only [B29] at h
  split at h
  · rename_i hl
    obtain ⟨hl, hb0, hb1⟩ := hl
    rw [← h, m30, B22, Option.bind_some, balE, len_bne2]
    cases e : wE ws == 0 with
    | false => simp only [bne, e, Bool.not_false, cond_true, cond_false]
    | true =>
      have h0 : wE ws = 0 := by simpa using e
      rw [show (wE ws != 0) = false by simp [bne, e], cond_false, cond_true]
      cases e2 : l.length != ws.length with
      | true => rfl
      | false =>
        have hlen : l.length = ws.length := by simpa using e2
        rw [cond_false, cond_false]
        have main := rangeIx l 0 (fun n (_ : Unit) t => l30a B22 B58 B63 1001 ws l load n t) (fun t xs _ => okLay (l.take t) = true ∧ l.drop t = xs) (fun t xs _ => some (cond (!okLay xs) 9 (cond (bal ws l != load) 13 0)))
          (fun n _ t x rest ht hx hI ih => by
            obtain ⟨i1, i2⟩ := hI
            obtain ⟨_, _, hd⟩ := getD_drop (d := (0 : Int)) i2
            simp only [l30a, ixA ht, ixB ht, cond_true, chk_true, Int.toNat_natCast, hx, B58, Option.bind_some, ixW ht (by omega)]
            have e3 : okLay (x :: rest) = (decide (-1 ≤ x ∧ x ≤ 1) && okLay rest) := rfl
            rw [e3]
            cases e4 : decide (-1 ≤ x ∧ x ≤ 1) with
            | false => rfl
            | true =>
              rw [Bool.not_true, cond_false, Bool.true_and]
              refine ih () ⟨?_, hd⟩
              have htake : l.take (t + 1) = l.take t ++ [x] := by
                rw [List.take_add_one, List.getElem?_eq_getElem ht]
                rw [List.getD_eq_getElem?_getD, List.getElem?_eq_getElem ht] at hx
                rw [← hx]; rfl
              rw [htake]
              unfold okLay at i1 ⊢
              rw [List.all_append, i1]; simp [List.all_cons]; exact of_decide_eq_true e4)
          (fun n _ hI => by
            have i1 := hI.1
            rw [List.take_length] at i1
            simp only [l30a, ixE, cond_false, B63, if_pos (show wE ws = 0 ∧ l.length = ws.length ∧ okLay l = true from ⟨h0, hlen, i1⟩), Option.bind_some]
            cases bal ws l != load <;> rfl) 1001 () (by omega) ⟨rfl, List.drop_zero⟩
        exact main
  · cases h⟩

/-! ### the search -/
def srch : List Int → Int → Int → Option (List Int)
  | [], left, use => cond (decide (use < 0)) none (cond (left == 0) (some []) none)
  | w :: ws, left, use => cond (decide (use < 0)) none (match srch ws (left - w) (use - 1) with
    | some l => some (1 :: l)
    | none => match srch ws left use with
      | some l => some (0 :: l)
      | none => (srch ws (left + w) (use - 1)).map (-1 :: ·))
theorem used_nonneg : ∀ l, 0 ≤ used l
  | [] => Int.le_refl _
  | a :: l => by have := used_nonneg l; rw [used]; cases a != 0 <;> simp <;> omega
theorem used_le : ∀ l : List Int, used l ≤ (l.length : Int)
  | [] => by simp [used]
  | a :: l => by have := used_le l; rw [used, List.length_cons]; cases a != 0 <;> simp <;> omega
theorem lays_cons : ∀ k, lays (k + 1) = (lays k).map (1 :: ·) ++ ((lays k).map (0 :: ·) ++ (lays k).map (-1 :: ·))
  | 0 => rfl
  | k + 1 => by
    have e : ∀ a : Int, ((lays k).map (a :: ·)).flatMap (fun l => [l ++ [1], l ++ [0], l ++ [-1]]) = ((lays k).flatMap fun l => [l ++ [1], l ++ [0], l ++ [-1]]).map (a :: ·) := by
      intro a
      generalize lays k = L
      induction L with
      | nil => rfl
      | cons x xs ih => simp only [List.map_cons, List.flatMap_cons, List.map_append, ih]; rfl
    rw [lays, lays_cons k, List.flatMap_append, List.flatMap_append, e, e, e, ← lays_cons k]
    rfl
theorem srch_find : ∀ (ws : List Int) (left use : Int), srch ws left use = (lays ws.length).find? fun l => bal ws l == left && decide (used l ≤ use)
  | [], left, use => by
    rw [srch]
    show _ = [([] : List Int)].find? _
    rw [List.find?_singleton]
    by_cases c : use < 0
    · rw [decide_eq_true c, cond_true, if_neg (by rw [show decide (used ([] : List Int) ≤ use) = false from decide_eq_false (by show ¬ (0 : Int) ≤ use; omega), Bool.and_false]; exact Bool.false_ne_true)]
    · rw [decide_eq_false c, cond_false]
      by_cases d : left = 0
      · subst d; rw [if_pos (by rw [show decide (used ([] : List Int) ≤ use) = true from decide_eq_true (by show (0 : Int) ≤ use; omega)]; rfl)]; rfl
      · rw [beq_false_of_ne d, cond_false, if_neg (by simp [bal]; intro e; exact absurd e.symm d)]
  | w :: ws, left, use => by
    have h1 : ∀ a : Int, ((lays ws.length).map (a :: ·)).find? (fun l => bal (w :: ws) l == left && decide (used l ≤ use)) = (srch ws (left - w * a) (use - cond (a != 0) 1 0)).map (a :: ·) := by
      intro a
      rw [srch_find ws, List.find?_map]
      congr 1
      congr 1
      funext l
      simp only [Function.comp, bal, used]
      congr 1
      · by_cases c : w * a + bal ws l = left
        · rw [show (w * a + bal ws l == left) = true by simp [c], show (bal ws l == left - w * a) = true by simp; omega]
        · rw [beq_false_of_ne c, beq_false_of_ne (by omega)]
      · exact decide_eq_decide.2 (by omega)
    rw [srch, List.length_cons, lays_cons, List.find?_append, List.find?_append, h1, h1, h1]
    by_cases c : use < 0
    · have none : ∀ (x u : Int), u < 0 → srch ws x u = Option.none := fun x u hu => by cases ws <;> simp [srch, hu]
      rw [decide_eq_true c, cond_true, none _ _ (by simp; omega), none _ _ (by simp; omega), none _ _ (by simp; omega)]; rfl
    · rw [decide_eq_false c, cond_false]
      have e1 : left - w * 1 = left - w := by omega
      have e2 : left - w * 0 = left := by omega
      have e3 : left - w * -1 = left + w := by omega
      rw [e1, e2, e3, show (cond ((1 : Int) != 0) (1 : Int) 0) = 1 from rfl, show (cond ((0 : Int) != 0) (1 : Int) 0) = 0 from rfl, show (cond ((-1 : Int) != 0) (1 : Int) 0) = 1 from rfl, Int.sub_zero]
      cases srch ws (left - w) (use - 1) with
      | some l => rfl
      | none =>
        cases srch ws left use with
        | some l => rfl
        | none => cases srch ws (left + w) (use - 1) <;> rfl
theorem srch_some {ws : List Int} {left use : Int} {l : List Int} (h : srch ws left use = some l) : l ∈ lays ws.length ∧ bal ws l = left ∧ used l ≤ use := by
  rw [srch_find] at h
  have a := List.mem_of_find?_eq_some h
  have b := List.find?_some h
  simp only [Bool.and_eq_true, beq_iff_eq, decide_eq_true_eq] at b
  exact ⟨a, b.1, b.2⟩
theorem srch_neg {ws : List Int} {x u : Int} (hu : u < 0) : srch ws x u = none := by cases ws <;> simp [srch, hu]
theorem srch_out {ws : List Int} (hp : ∀ w ∈ ws, 0 ≤ w) {left use : Int} (h : left > ws.sum ∨ left < -ws.sum) : srch ws left use = none := by
  cases e : srch ws left use with
  | none => rfl
  | some l =>
    obtain ⟨a, b, _⟩ := srch_some e
    have := R_le hp (R_lays.2 ⟨l, a, b⟩)
    omega

def B61 (l : List Int) : Option (List Int) := some l
theorem KB61 : FnOk Try.prog 61 (F61 B61) := ok61 B61 fun l r h => ⟨0, by
  rw [← h, m61, B61, chk_of (by simp), Int.toNat_natCast, List.take_length]⟩
def B60 (l : Option (List Int)) : Option (Option (List Int)) := match l with
  | none => none
  | some l => if 0 < l.length ∧ l.length ≤ 1000 then some (some l) else none
theorem KB60 : FnOk Try.prog 60 (F60 B60) := ok60 B60 fun l r h => ⟨0, by
  cases l with
  | none => cases h
  | some l =>
    simp only [B60] at h
    split at h
    · rename_i hl
      rw [← h, m60]
      have s1 : small (0 + l.length) 8 = true := small_of (by omega) (by omega)
      simp only [Option.isNone_some, cond_false, Option.getD_some, s1, chk_true, List.nil_append]
      rw [chk_of (by rw [decide_eq_true hl.1]; rfl)]
    · cases h⟩

def ok59 (k : Nat) (l : List Int) (rest use : Int) (ws : List Int) : Prop := wE ws = 0 ∧ l.length ≤ ws.length ∧ ws.length - l.length < k ∧ rest = (ws.drop l.length).sum ∧ -10 ≤ use ∧ use ≤ 10
instance (k : Nat) (l : List Int) (rest use : Int) (ws : List Int) : Decidable (ok59 k l rest use ws) := inferInstanceAs (Decidable (_ ∧ _))
def B59 (k : Nat) (l : List Int) (left rest use : Int) (ws : List Int) : Option (Option (List Int) × List Int) :=
  if ok59 k l rest use ws then some ((srch (ws.drop l.length) left use).map (l ++ ·), ws) else none
theorem KB59 : ∀ k, FnOk Try.prog 59 (F59c (B59 k))
  | 0 => by
    intro args Of x hx
    simp only [F59c] at hx
    split at hx
    · simp only [B59] at hx
      rw [if_neg (by intro h; have := h.2.2.1; omega)] at hx
      cases hx
    · cases hx
  | k + 1 => ok59c (B59 k) B60 B61 (KB59 k) KB60 KB61 (B59 (k + 1)) fun l left rest use ws r h => ⟨1001, by
    simp only [B59] at h
    split at h
    · rename_i hk
      obtain ⟨hw, hl, hk1, hr, hu0, hu1⟩ := hk
      obtain ⟨h7, hp, _⟩ := wE_zero hw
      have hpd : Pos (ws.drop l.length) := fun w h => hp w (List.mem_of_mem_drop h)
      have hsum := hpd.sum
      have hdl : (ws.drop l.length).length ≤ 7 := by rw [List.length_drop]; omega
      have hr14 : 0 ≤ rest ∧ rest ≤ 14000 := by omega
      have hneg : w64 (0 - rest) = -rest := by rw [w64_small (by omega)]; omega
      rw [← h, m59c, hneg]
      by_cases c1 : use < 0
      · rw [decide_eq_true c1, cond_true, srch_neg c1]; rfl
      · rw [decide_eq_false c1, cond_false]
        by_cases c2 : left > rest
        · rw [decide_eq_true c2, cond_true, srch_out hpd.nonneg (.inl (by omega))]; rfl
        · rw [decide_eq_false c2, cond_false]
          by_cases c3 : left < -rest
          · rw [decide_eq_true c3, cond_true, srch_out hpd.nonneg (.inr (by omega))]; rfl
          · rw [decide_eq_false c3, cond_false]
            by_cases c4 : l.length = ws.length
            · have e0 : ws.drop l.length = [] := by rw [c4, List.drop_length]
              rw [e0] at hr ⊢
              have hl0 : left = 0 := by simp at hr; omega
              rw [show ((l.length : Int) == (ws.length : Int)) = true by simp [c4], cond_true, chk_of (by rw [decide_eq_true (show 0 < l.length by omega)]; rfl), B60, if_pos (by omega), Option.bind_some, hl0, srch, decide_eq_false c1]
              simp
            · have hlt : l.length < ws.length := by omega
              rw [show ((l.length : Int) == (ws.length : Int)) = false by rw [beq_eq_false_iff_ne]; omega, cond_false, ixB hlt, chk_true]
              have e : ws.drop l.length = ws.getD l.length 0 :: ws.drop (l.length + 1) := by
                rw [List.drop_eq_getElem_cons hlt, List.getD_eq_getElem?_getD, List.getElem?_eq_getElem hlt]; rfl
              have hwp := hp (ws.getD l.length 0) (getD_mem hlt rfl)
              rw [e] at hr hpd ⊢
              generalize hwd : ws.getD l.length 0 = w at hr hwp hpd e ⊢
              rw [List.sum_cons] at hr
              have hs1 : small (l.length + 1) 8 = true := small_of (by omega) (by omega)
              have call : ∀ v : Int, IsWay v → B59 k (l ++ [v]) (left - v * w) (rest - w) (use - v * v) ws = some ((srch (ws.drop (l.length + 1)) (left - v * w) (use - v * v)).map (l ++ [v] ++ ·), ws) := fun v hv => by
                have e1 : (l ++ [v]).length = l.length + 1 := by simp
                have hvv : 0 ≤ v * v ∧ v * v ≤ 1 := by rcases hv with rfl | rfl | rfl <;> omega
                rw [B59, if_pos ⟨hw, by omega, by omega, by rw [e1]; omega, by omega, by omega⟩, e1]
              have one : ∀ (m : Nat) (t : Nat) (v : Int), t < 3 → ([1, 0, -1] : List Int).getD t 0 = v → IsWay v → l59ca (B59 k) B60 B61 1001 l left rest use ws (m + 1) (t : Int) ws =
                  match srch (ws.drop (l.length + 1)) (left - v * w) (use - v * v) with
                  | some s => some (some (l ++ [v] ++ s), ws)
                  | none => l59ca (B59 k) B60 B61 1001 l left rest use ws m ((t + 1 : Nat) : Int) ws := by
                intro m t v ht hv hw'
                have b1 : -2000 ≤ v * w ∧ v * w ≤ 2000 := by rcases hw' with rfl | rfl | rfl <;> omega
                have b2 : 0 ≤ v * v ∧ v * v ≤ 1 := by rcases hw' with rfl | rfl | rfl <;> omega
                simp only [l59ca, decide_eq_true (show (t : Int) < 3 by omega), decide_eq_true (show 0 ≤ (t : Int) ∧ (t : Int) < 3 by omega), cond_true, chk_true, B61, Option.bind_some, hs1, Int.toNat_natCast, hv, hwd,
                  w64_small (show -4611686018427387904 ≤ v * w ∧ v * w ≤ 4611686018427387904 by omega), w64_small (show -4611686018427387904 ≤ v * v ∧ v * v ≤ 4611686018427387904 by omega),
                  w64_small (show -4611686018427387904 ≤ left - v * w ∧ left - v * w ≤ 4611686018427387904 by omega), w64_small (show -4611686018427387904 ≤ rest - w ∧ rest - w ≤ 4611686018427387904 by omega),
                  w64_small (show -4611686018427387904 ≤ use - v * v ∧ use - v * v ≤ 4611686018427387904 by omega), call v hw', w64_succ (show t < 4611686018427387904 by omega)]
                cases srch (ws.drop (l.length + 1)) (left - v * w) (use - v * v) <;> rfl
              have o1 := one 1000 0 1 (by omega) rfl (.inl rfl)
              have o2 := one 999 1 0 (by omega) rfl (.inr (.inl rfl))
              have o3 := one 998 2 (-1) (by omega) rfl (.inr (.inr rfl))
              have o4 : ∀ m, l59ca (B59 k) B60 B61 1001 l left rest use ws (m + 1) ((3 : Nat) : Int) ws = some (none, ws) := fun m => rfl
              rw [srch, decide_eq_false c1, cond_false]
              simp only [Int.one_mul, Int.zero_mul, Int.sub_zero, Int.mul_one, Int.neg_mul, Int.neg_neg, Int.sub_neg] at o1 o2 o3
              refine Eq.trans o1 ?_
              cases srch (ws.drop (l.length + 1)) (left - w) (use - 1) with
              | some s => simp
              | none =>
                refine Eq.trans o2 ?_
                cases srch (ws.drop (l.length + 1)) left use with
                | some s => simp
                | none =>
                  refine Eq.trans o3 ?_
                  cases srch (ws.drop (l.length + 1)) (left + w) (use - 1) with
                  | some s => simp
                  | none => exact o4 997
    · cases h⟩

/-! ### the least laying -/
def stepB (ws : List Int) (load : Int) (s : List Int × Int) (l : List Int) : List Int × Int := cond (bal ws l == load) (cond (decide (used l < s.2)) (l, used l) s) s
theorem stepB_eq (ws : List Int) (load : Int) (s : List Int × Int) (l : List Int) : stepB ws load s l = cond (bal ws l == load) (cond (decide (used l < s.2)) (l, used l) s) s := rfl
def bestS (ws : List Int) (load : Int) : List Int × Int := (lays ws.length).foldl (stepB ws load) ([], 8)
def layF (q : List Int × Int) : List Int × Int := cond (decide (q.2 > 7)) ([], 14) (q.1, 0)
theorem layF_hi {q : List Int × Int} (h : q.2 > 7) : layF q = ([], 14) := by unfold layF; rw [decide_eq_true h]; rfl
theorem layF_lo {q : List Int × Int} (h : ¬ q.2 > 7) : layF q = (q.1, 0) := by unfold layF; rw [decide_eq_false h]; rfl
def layS (ws : List Int) (load : Int) : List Int × Int := cond (wE ws == 0) (layF (bestS ws load)) ([], wE ws)
def BInv (ws : List Int) (load : Int) (pre : List (List Int)) (s : List Int × Int) : Prop :=
  (s.2 = 8 ∧ ∀ l ∈ pre, ¬ bal ws l = load) ∨ (0 ≤ s.2 ∧ s.2 ≤ 7 ∧ pre.find? (fun l => bal ws l == load && decide (used l ≤ s.2)) = some s.1 ∧ ∀ l ∈ pre, bal ws l = load → s.2 ≤ used l)
theorem binv_step {ws : List Int} {load : Int} {pre : List (List Int)} {s : List Int × Int} {x : List Int} (hx : used x ≤ 7) (h : BInv ws load pre s) : BInv ws load (pre ++ [x]) (stepB ws load s x) := by
  unfold stepB
  by_cases c : bal ws x = load
  · rw [show (bal ws x == load) = true by simp [c], cond_true]
    by_cases d : used x < s.2
    · rw [decide_eq_true d, cond_true]
      have hn : pre.find? (fun l => bal ws l == load && decide (used l ≤ used x)) = none := by
        rw [List.find?_eq_none]
        intro l hl
        simp only [Bool.and_eq_true, beq_iff_eq, decide_eq_true_eq, not_and]
        intro hb hu
        rcases h with ⟨_, h⟩ | ⟨_, _, _, h⟩
        · exact h l hl hb
        · have := h l hl hb; omega
      refine .inr ⟨used_nonneg x, hx, ?_, fun l hl hb => ?_⟩
      · show (pre ++ [x]).find? (fun l => bal ws l == load && decide (used l ≤ used x)) = some x
        rw [List.find?_append, hn]; simp [c]
      · show used x ≤ used l
        rcases List.mem_append.1 hl with hl | hl
        · rcases h with ⟨_, h⟩ | ⟨_, _, _, h⟩
          · exact absurd hb (h l hl)
          · have := h l hl hb; omega
        · simp at hl; subst hl; omega
    · rw [decide_eq_false d, cond_false]
      rcases h with ⟨h1, h⟩ | ⟨h1, h2, h3, h⟩
      · omega
      · refine .inr ⟨h1, h2, by rw [List.find?_append, h3]; rfl, fun l hl hb => ?_⟩
        rcases List.mem_append.1 hl with hl | hl
        · exact h l hl hb
        · simp at hl; subst hl; omega
  · rw [beq_false_of_ne c, cond_false]
    rcases h with ⟨h1, h⟩ | ⟨h1, h2, h3, h⟩
    · refine .inl ⟨h1, fun l hl => ?_⟩
      rcases List.mem_append.1 hl with hl | hl
      · exact h l hl
      · simp at hl; subst hl; exact c
    · refine .inr ⟨h1, h2, by rw [List.find?_append, h3]; rfl, fun l hl hb => ?_⟩
      rcases List.mem_append.1 hl with hl | hl
      · exact h l hl hb
      · simp at hl; subst hl; exact absurd hb c
theorem binv_all {ws : List Int} {load : Int} : ∀ (xs pre : List (List Int)) (s : List Int × Int), (∀ x ∈ xs, used x ≤ 7) → BInv ws load pre s → BInv ws load (pre ++ xs) (xs.foldl (stepB ws load) s)
  | [], pre, s, _, h => by simpa using h
  | x :: xs, pre, s, hx, h => by
    have := binv_all xs (pre ++ [x]) _ (fun y hy => hx y (List.mem_cons_of_mem _ hy)) (binv_step (hx x (List.mem_cons_self ..)) h)
    simpa using this
theorem best_inv {ws : List Int} {load : Int} (h : ws.length ≤ 7) : BInv ws load (lays ws.length) (bestS ws load) := by
  have := binv_all (ws := ws) (load := load) (lays ws.length) [] ([], 8) (fun x hx => by have := (mem_lays.1 hx).1; have := used_le x; omega) (.inl ⟨rfl, by simp⟩)
  unfold bestS
  simpa using this

def B28 (ws : List Int) (load : Int) : Option (List Int × Int) := some (layS ws load)
theorem KB28 : FnOk Try.prog 28 (F28 B28) := ok28 B22 B62 B63 KB23 KB62 KB63 B28 fun ws load r h => ⟨20000, by
  rw [← h, m28, B22, Option.bind_some, B28, layS]
  cases e : wE ws == 0 with
  | false => simp only [bne, e, Bool.not_false, cond_true, cond_false]
  | true =>
    have h0 : wE ws = 0 := by simpa using e
    obtain ⟨h7, hp, _⟩ := wE_zero h0
    have hll : (lays ws.length).length ≤ 2187 := by rw [lays_length]; exact Nat.le_trans (Nat.pow_le_pow_right (by omega) h7.2) (by decide)
    rw [show (wE ws != 0) = false by simp [bne, e], cond_false, cond_true, B62, if_pos (by omega), Option.bind_some, Int.toNat_natCast]
    exact rangeInv (lays ws.length) [] (fun n (s : List Int × Int) t => l28a B22 B62 B63 20000 ws load (lays ws.length) n s.1 s.2 t) (fun xs _ => ∀ l ∈ xs, l ∈ lays ws.length)
      (fun xs s => some (layF (xs.foldl (stepB ws load) s)))
      (fun n s t x rest ht hx hI ih => by
        have hxm := hI x (List.mem_cons_self ..)
        have hI' : ∀ l ∈ rest, l ∈ lays ws.length := fun l hl => hI l (List.mem_cons_of_mem _ hl)
        simp only [l28a, ixA ht, ixB ht, cond_true, chk_true, Int.toNat_natCast, hx, B63_lays h0 hxm, Option.bind_some, ixW ht (by omega), List.foldl_cons]
        have nx := fun s' => ih s' hI'
        rw [stepB_eq]
        cases bal ws x == load with
        | false => exact nx s
        | true =>
          cases decide (used x < s.2) with
          | false => exact nx s
          | true => exact nx (x, used x))
      (fun n s _ => by
        simp only [l28a, ixE, cond_false]
        show cond (decide (s.2 > 7)) (some ([], 14)) (some (s.1, 0)) = some (layF s)
        unfold layF
        cases decide (s.2 > 7) <;> rfl) 20000 ([], 8) (by omega) fun l hl => hl⟩
theorem KB27 : FnOk Try.prog 27 (F27 B28) := ok27 B22 (B59 10) KB22 (KB59 10) B28 fun ws load r h => ⟨1001, by
  rw [← h, m27, B22, Option.bind_some, B28, layS]
  cases e : wE ws == 0 with
  | false => simp only [bne, e, Bool.not_false, cond_true, cond_false]
  | true =>
    have h0 : wE ws = 0 := by simpa using e
    obtain ⟨h7, hp, _⟩ := wE_zero h0
    have hsum := hp.sum
    have inv := best_inv (load := load) h7.2
    rw [show (wE ws != 0) = false by simp [bne, e], cond_false, cond_true]
    refine rangeInv ws 0 (fun n (s : Int) t => l27a B22 (B59 10) 1001 ws load n s t) (fun xs s => s + xs.sum = ws.sum ∧ 0 ≤ s ∧ Pos xs) (fun xs s => some (layF (bestS ws load)))
      (fun n s t x rest ht hx hI ih => by
        obtain ⟨i1, i2, i3⟩ := hI
        have hx1 := i3 x (List.mem_cons_self ..)
        have hr : Pos rest := fun w hw => i3 w (List.mem_cons_of_mem _ hw)
        have hrs := hr.sum
        rw [List.sum_cons] at i1
        simp only [l27a, ixA ht, ixB ht, cond_true, chk_true, Int.toNat_natCast, hx, ixW ht (by omega), w64_small (show -4611686018427387904 ≤ s + x ∧ s + x ≤ 4611686018427387904 by omega)]
        exact ih (s + x) ⟨by omega, by omega, hr⟩)
      (fun n s hI => ?_) 1001 0 (by omega) ⟨by simp, by omega, hp⟩
    obtain ⟨i1, i2, _⟩ := hI
    have es : s = ws.sum := by simpa using i1
    subst es
    simp only [l27a, ixE, cond_false]
    have hcall : ∀ u : Int, 0 ≤ u → u ≤ 8 → B59 10 [] load ws.sum u ws = some (srch ws load u, ws) := fun u hu0 hu1 => by
      rw [B59, if_pos ⟨h0, Nat.zero_le _, by simp; omega, rfl, by omega, by omega⟩]
      simp
    have hwl : w64 ((ws.length : Int) + 1) = (ws.length : Int) + 1 := w64_small (by omega)
    have hlow : ∀ u : Int, u < (bestS ws load).2 → srch ws load u = none := fun u hu => by
      cases e : srch ws load u with
      | none => rfl
      | some l =>
        obtain ⟨a, b, c⟩ := srch_some e
        rcases inv with ⟨_, q⟩ | ⟨_, _, _, q⟩
        · exact absurd b (q l a)
        · have := q l a b; omega
    have hat : (bestS ws load).2 ≤ 7 → srch ws load (bestS ws load).2 = some (bestS ws load).1 ∧ (bestS ws load).2 ≤ (ws.length : Int) ∧ 0 ≤ (bestS ws load).2 := fun h => by
      rcases inv with ⟨q, _⟩ | ⟨q0, _, q1, q2⟩
      · omega
      · rw [srch_find]
        refine ⟨q1, ?_, q0⟩
        have m := List.mem_of_find?_eq_some q1
        have b := List.find?_some q1
        simp only [Bool.and_eq_true, beq_iff_eq] at b
        have := q2 _ m b.1
        have := used_le (bestS ws load).1
        have := (mem_lays.1 m).1
        omega
    exact countUp 0 ((ws.length : Int) + 1) (by omega) (fun m (o : List Int) t => l27b B22 (B59 10) 1001 ws load ws.sum m t o) (fun t o => o = ws ∧ (t ≤ (bestS ws load).2 ∨ (bestS ws load).2 > 7)) (fun t o => some (layF (bestS ws load)))
      (fun m o t t0 t1 hI ih => by
        obtain ⟨rfl, hI⟩ := hI
        simp only [l27b, hwl, decide_eq_true t1, cond_true, hcall t (by omega) (by omega), Option.bind_some, w64_small (show -4611686018427387904 ≤ t + 1 ∧ t + 1 ≤ 4611686018427387904 by omega)]
        by_cases c : (bestS o load).2 > 7
        · have hn : srch o load t = none := by
            cases e : srch o load t with
            | none => rfl
            | some l =>
              obtain ⟨a, b, _⟩ := srch_some e
              rcases inv with ⟨_, q⟩ | ⟨_, q, _⟩
              · exact absurd b (q l a)
              · omega
          rw [hn]
          exact ih o ⟨rfl, .inr c⟩
        · by_cases d : t = (bestS o load).2
          · obtain ⟨a1, _, _⟩ := hat (by omega)
            rw [d, a1, layF_lo c]; rfl
          · rw [hlow t (by omega)]
            exact ih o ⟨rfl, by omega⟩)
      (fun m o hI => by
        obtain ⟨rfl, hI⟩ := hI
        simp only [l27b, hwl, decide_eq_false (show ¬ (o.length : Int) + 1 < (o.length : Int) + 1 by omega), cond_false]
        by_cases c : (bestS o load).2 > 7
        · rw [layF_hi c]
        · have := (hat (by omega)).2.1; omega) 1001 ws (by omega) ⟨rfl, by
          by_cases c : (bestS ws load).2 > 7
          · exact .inr c
          · exact .inl (hat (by omega)).2.2⟩⟩
theorem layS_len {ws : List Int} {load : Int} : (layS ws load).1.length ≤ 10000 := by
  unfold layS
  cases e : wE ws == 0 with
  | false => exact Nat.zero_le _
  | true =>
    have h0 : wE ws = 0 := by simpa using e
    have h7 := (wE_zero h0).1
    have inv := best_inv (load := load) h7.2
    rcases inv with ⟨q, _⟩ | ⟨_, q0, q1, _⟩
    · rw [cond_true, layF_hi (by omega)]; exact Nat.zero_le _
    · rw [cond_true, layF_lo (by omega)]
      have := (mem_lays.1 (List.mem_of_find?_eq_some q1)).1
      show (bestS ws load).1.length ≤ _
      omega

/-- WeighLays. -/
theorem KB4 (other : Int) (ho : -9223372036854775808 ≤ other ∧ other ≤ 9223372036854775807) : FnOk Try.prog 4 (F4 fun _ _ _ o => if o = other then some true else none) :=
  ok4 (some true) Beq2 B28 B28 B29 B29 K16t KB21b KB27 KB28 KB29 KB30 _ fun ws load l o r h => ⟨0, by
    split at h
    · rename_i ho'
      subst ho'
      rw [← h, m4]
      by_cases c1 : ws.length > 30
      · rw [decide_eq_true (show (ws.length : Int) > 30 by omega)]; rfl
      · rw [decide_eq_false (show ¬ (ws.length : Int) > 30 by omega), cond_false]
        by_cases c2 : l.length > 30
        · rw [decide_eq_true (show (l.length : Int) > 30 by omega)]; rfl
        · rw [decide_eq_false (show ¬ (l.length : Int) > 30 by omega), cond_false]
          simp only [B28, Option.bind_some, Beq2, if_pos layS_len, decide_true, cond_true, beq_self_eq_true, B29, if_pos (show l.length ≤ 1000 ∧ -9223372036854775808 ≤ o ∧ o ≤ 9223372036854775807 from ⟨by omega, ho⟩)]
    · cases h⟩
end Go.Proofs.Ytjcgjbdlgmbepaa
