/-
  Plans: fines, whether one is a best one, and the one that is returned.
-/
import Derived.Test.YtbblnbolabpfmaaPOl
namespace Go.Proofs.Ytbblnbolabpfmaa
open Go.RowKit
set_option linter.unusedVariables false

/-! ### fines of a plan -/
def fnR (l : List Od) : List Int → List Int → Int → Int × Int
  | _, [], n => (n, 0)
  | pre, x :: r, n => cond (!decide (1 ≤ x ∧ x ≤ 42)) (0, 4) (cond (pre.contains x) (0, 6) (fnR l (pre ++ [x]) r (cond (decide (x > (l.getD pre.length d3).1)) (n + fnl l pre.length) n)))
def finP (l : List Od) (plan : List Int) : Int × Int := if ckO l = 0 then (if plan.length = l.length then fnR l [] plan 0 else (0, 3)) else (0, ckO l)
def B26 (l : List Od) (plan : List Int) : Option (Int × Int) := if l.length ≤ 1000 then some (finP l plan) else none

theorem len_bne {a b : Nat} (h : ¬ a = b) : ((a : Int) != (b : Int)) = true := by simp; omega
theorem len_beq {a b : Nat} (h : a = b) : ((a : Int) != (b : Int)) = false := by simp [h]

theorem take_of {α : Type} {l pre rest : List α} {x : α} (h : l = pre ++ x :: rest) : l.take pre.length = pre := by rw [h]; simp

theorem take_of1 {α : Type} {l pre rest : List α} {x : α} (h : l = pre ++ x :: rest) : l.take (pre.length + 1) = pre ++ [x] := by
  rw [h, show pre ++ x :: rest = (pre ++ [x]) ++ rest by simp, show pre.length + 1 = (pre ++ [x]).length by simp]
  exact List.take_left

theorem KB26 : FnOk Try.prog 26 (F26 B26) := ok26 B23 B49 B63 KB23 KB49 KB63 B26 fun l plan r h => ⟨1001, by
  simp only [B26] at h
  split at h
  · rename_i hl
    rw [← h, m26, B23, if_pos hl, Option.bind_some, finP]
    by_cases hc : ckO l = 0
    · rw [if_pos hc, bne_F hc, cond_false]
      have h6 := okO_of hc
      have hlen := h6.len
      by_cases he : plan.length = l.length
      · rw [if_pos he, len_beq he, cond_false]
        exact rangeIx plan 0 (fun n (s : Int) t => l26a B23 B49 B63 1001 l plan n s t) (fun t xs s => ∃ pre, plan = pre ++ xs ∧ pre.length = t ∧ 0 ≤ s ∧ s ≤ 10000 * (t : Int)) (fun t xs s => some (fnR l (plan.take t) xs s))
          (fun n s t x rest ht hx hI ih => by
            obtain ⟨pre, e1, e2, h0, h1⟩ := hI
            have htk : plan.take t = pre := by rw [← e2]; exact take_of e1
            have htk2 : plan.take (t + 1) = pre ++ [x] := by rw [← e2]; exact take_of1 e1
            have hb : B63 pre x = some (pre.contains x) := if_pos (by omega)
            have hft := h6.fn (show t < l.length by omega)
            have hle : decide (0 ≤ (t : Int) ∧ (t : Int) ≤ (plan.length : Int)) = true := decide_eq_true (by omega)
            have hf : (l.getD t ((0 : Int), ((0 : Int), ()))).2.1 = fnl l t := rfl
            have hq : ∀ s', s' = (cond (decide (x > (l.getD t d3).1)) (s + fnl l t) s) → l26a B23 B49 B63 1001 l plan n s' ((t + 1 : Nat) : Int) = some (fnR l (pre ++ [x]) rest (cond (decide (x > (l.getD t d3).1)) (s + fnl l t) s)) := fun s' hs' => by
              have hsb : 0 ≤ s' ∧ s' ≤ 10000 * ((t + 1 : Nat) : Int) := by
                subst hs'
                cases decide (x > (l.getD t d3).1) <;> simp <;> omega
              rw [ih s' ⟨pre ++ [x], by rw [e1]; simp, by simp [e2], hsb.1, hsb.2⟩, htk2, hs']
            simp only [l26a, ixA ht, ixB ht, cond_true, chk_true, Int.toNat_natCast, ixW ht (by omega), hx, B49, Option.bind_some, hle, htk, hb, ixB (show t < l.length by omega), hf, fnR, e2]
            by_cases q1 : 1 ≤ x ∧ x ≤ 42
            · simp only [decide_eq_true q1, Bool.not_true, cond_false]
              cases pre.contains x with
              | true => rfl
              | false =>
                simp only [cond_false]
                by_cases q2 : x > (l.getD t d3).1
                · simp only [decide_eq_true q2, cond_true] at hq ⊢
                  rw [w64_small (by omega)]
                  exact hq _ rfl
                · simp only [decide_eq_false q2, cond_false] at hq ⊢
                  exact hq _ rfl
            · simp only [decide_eq_false q1, Bool.not_false, cond_true])
          (fun n s hI => by simp only [l26a, ixE, cond_false]; rfl) 1001 0 (by omega) ⟨[], rfl, rfl, by omega, by omega⟩
      · rw [if_neg he, len_bne he, cond_true]
    · rw [if_neg hc, bne_T hc, cond_true]
  · cases h⟩

/-! ### Verify -/
def verP (l : List Od) (plan : List Int) : Int := cond ((finP l plan).2 == 0) (cond (decide ((finP l plan).1 > leastO l)) 14 (finP l plan).2) (finP l plan).2
def B28 (l : List Od) (plan : List Int) : Option Int := if l.length ≤ 1000 then some (verP l plan) else none
theorem finP_ck {l : List Od} {plan : List Int} (h : (finP l plan).2 = 0) : ckO l = 0 := by
  unfold finP at h
  split at h
  · rename_i hc; exact hc
  · exact h
theorem KB28 : FnOk Try.prog 28 (F28 B28) := ok28 B26 B53 KB26 KB53 B28 fun l plan r h => ⟨0, by
  simp only [B28] at h
  split at h
  · rename_i hl
    rw [← h, m28, B26, if_pos hl, Option.bind_some, verP]
    by_cases hz : (finP l plan).2 = 0
    · rw [beq_T hz, cond_true, cond_true, B53_ok (okO_of (finP_ck hz)), Option.bind_some]
      cases decide ((finP l plan).1 > leastO l) <;> rfl
    · rw [beq_F hz]; rfl
  · cases h⟩
/-! ### Plan -/
def plc : List Int → Nat → List Int → List Int
  | [], _, p => p
  | i :: r, t, p => plc r (t + 1) (p.set i.toNat ((t + 1 : Nat) : Int))
def fil : List Int → Int → List Int
  | [], _ => []
  | x :: r, d => cond (x == 0) ((d + 1) :: fil r (d + 1)) (x :: fil r d)
def dayS (l : List Od) : List Int := isortR (lt61 l) (greedy l [])
def planO (l : List Od) : List Int := fil (plc (dayS l) 0 (List.replicate l.length 0)) 30
def plnO (l : List Od) : List Int × Int := if ckO l = 0 then (planO l, 0) else ([], ckO l)
def B25 (l : List Od) : Option (List Int × Int) := if l.length ≤ 1000 then some (plnO l) else none

theorem plc_len : ∀ (S : List Int) (t : Nat) (p : List Int), (plc S t p).length = p.length
  | [], _, _ => rfl
  | i :: r, t, p => by rw [plc, plc_len r]; simp
theorem fil_len : ∀ (p : List Int) (d : Int), (fil p d).length = p.length
  | [], _ => rfl
  | x :: r, d => by
    rw [fil]
    cases x == 0 <;> simp [fil_len r]

theorem greedy_len {l : List Od} (h : Ok6 l) : (greedy l []).length ≤ l.length := by
  have := cnt_len (greedy_gr h).1
  have h2 := cnt_le_n (mem (greedy l [])) l.length
  omega
theorem dayS_perm (l : List Od) : (dayS l).Perm (greedy l []) := isortR_perm _ _

theorem KB25 : FnOk Try.prog 25 (F25 B25) := ok25 B20 (B60 lt61) KB20 KB60c61 B25 fun l r h => ⟨1001, by
  simp only [B25] at h
  split at h
  · rename_i hl
    rw [← h, m25, B20, if_pos hl, Option.bind_some, plnO]
    by_cases hc : ckO l = 0
    · have h6 := okO_of hc
      have hlen := h6.len
      have hst : stO l = (greedy l [], 0) := by rw [stO, if_pos hc]
      have hix := (greedy_gr h6).1
      have h60 : B60 lt61 (greedy l []) l = some (dayS l, l) := if_pos ⟨by have := greedy_len h6; omega, fun i hi => inR_iff.2 (hix.rng i hi)⟩
      rw [if_pos hc, hst]
      have e0 : ((0 : Int) != 0) = false := rfl
      simp only [e0, cond_false, h60, Option.bind_some, Int.toNat_natCast]
      rw [mkOk_of (by omega) (by omega) (by omega) (by omega), chk_true]
      have hSr : ∀ i ∈ dayS l, 0 ≤ i ∧ i < (l.length : Int) := fun i hi => hix.rng i ((dayS_perm l).mem_iff.1 hi)
      have hSl : (dayS l).length ≤ 12 := by rw [(dayS_perm l).length_eq]; have := greedy_len h6; omega
      have loop2 : ∀ p : List Int, p.length ≤ 12 → l25b B20 (B60 lt61) 1001 p 1001 30 0 p = some (fil p 30, 0) := fun p hp =>
        rangeIx p 0 (fun n (s : Int × List Int) t => l25b B20 (B60 lt61) 1001 p n s.1 t s.2) (fun t xs s => (∃ done, s.2 = done ++ xs ∧ done.length = t) ∧ s.2.length = p.length ∧ 30 ≤ s.1 ∧ s.1 ≤ 30 + (t : Int)) (fun t xs s => some (s.2.take t ++ fil xs s.1, 0))
          (fun n s t x rest ht hx hI ih => by
            obtain ⟨⟨done, e1, e2⟩, e3, h0, h1⟩ := hI
            have hgx : s.2.getD t 0 = x := by rw [e1, ← e2]; simp [List.getD]
            have htk : s.2.take t = done := by rw [e1, ← e2]; simp
            have hb : decide (0 ≤ (t : Int) ∧ (t : Int) < (s.2.length : Int)) = true := by rw [e3]; exact ixB ht
            simp only [l25b, ixA ht, hb, cond_true, chk_true, Int.toNat_natCast, ixW ht (by omega), hgx, htk]
            rw [w64_small (by omega)]
            have hset : s.2.set t (s.1 + 1) = done ++ (s.1 + 1) :: rest := by
              rw [e1, List.set_append_right _ _ (by omega), e2, Nat.sub_self, List.set_cons_zero]
            rw [hset, fil]
            cases hz : x == 0 with
            | true =>
              rw [cond_true, cond_true, ih (s.1 + 1, done ++ (s.1 + 1) :: rest) ⟨⟨done ++ [s.1 + 1], by simp, by simp [e2]⟩, by rw [← e3, e1]; simp, by show 30 ≤ s.1 + 1; omega, by show s.1 + 1 ≤ _; omega⟩]
              show some (((done ++ (s.1 + 1) :: rest).take (t + 1)) ++ fil rest (s.1 + 1), (0 : Int)) = _
              have : (done ++ (s.1 + 1) :: rest).take (t + 1) = done ++ [s.1 + 1] := by
                rw [← e2, show done ++ (s.1 + 1) :: rest = (done ++ [s.1 + 1]) ++ rest by simp, show done.length + 1 = (done ++ [s.1 + 1]).length by simp]
                exact List.take_left
              rw [this]; simp
            | false =>
              rw [cond_false, cond_false, ih s ⟨⟨done ++ [x], by rw [e1]; simp, by simp [e2]⟩, e3, h0, by omega⟩]
              have : s.2.take (t + 1) = done ++ [x] := by
                rw [e1, ← e2, show done ++ x :: rest = (done ++ [x]) ++ rest by simp, show done.length + 1 = (done ++ [x]).length by simp]
                exact List.take_left
              rw [this]; simp)
          (fun n s hI => by
            obtain ⟨⟨done, e1, e2⟩, e3, h0, h1⟩ := hI
            simp only [l25b, ixE, cond_false, fil, List.append_nil]
            rw [← e3, List.take_length]) 1001 (30, p) (by omega) ⟨⟨[], rfl, rfl⟩, rfl, Int.le_refl _, by simp⟩
      have main := rangeIx (dayS l) 0 (fun n (p : List Int) t => l25a B20 (B60 lt61) 1001 (dayS l, l) n t p) (fun t xs p => p.length = l.length ∧ ∀ i ∈ xs, 0 ≤ i ∧ i < (l.length : Int)) (fun t xs p => some (fil (plc xs t p) 30, 0))
        (fun n p t x rest ht hx hI ih => by
          obtain ⟨hp, hr⟩ := hI
          have hxr := hr x (by simp)
          have hb : decide (0 ≤ x ∧ x < (p.length : Int)) = true := by rw [hp]; exact decide_eq_true hxr
          simp only [l25a, ixA ht, ixB ht, cond_true, chk_true, Int.toNat_natCast, ixW ht (by omega), hx, hb]
          exact ih _ ⟨by simpa using hp, fun i hi => hr i (List.mem_cons_of_mem _ hi)⟩)
        (fun n p hI => by
          simp only [l25a, ixE, cond_false, plc]
          exact loop2 p (by have := hI.1; omega)) 1001 (List.replicate l.length 0) (by omega) ⟨by simp, hSr⟩
      exact main
    · have hst : stO l = ([], ckO l) := by rw [stO, if_neg hc]
      rw [if_neg hc, hst]
      simp only [bne_T hc, cond_true]
  · cases h⟩

/-! ### the plan is a best one -/
def pos : List Int → Nat → Int → Int
  | [], _, _ => 0
  | i :: r, t, j => if i = j then ((t + 1 : Nat) : Int) else pos r (t + 1) j

theorem pos_zero : ∀ {S : List Int} {t : Nat} {j : Int}, j ∉ S → pos S t j = 0
  | [], _, _, _ => rfl
  | i :: r, t, j, h => by
    rw [pos, if_neg fun e => h (by simp [e]), pos_zero fun q => h (List.mem_cons_of_mem _ q)]
theorem pos_get : ∀ {S : List Int} {t : Nat} {j : Int}, j ∈ S → ∃ k, k < S.length ∧ pos S t j = ((t + k + 1 : Nat) : Int) ∧ S.getD k 0 = j
  | [], _, _, h => by cases h
  | i :: r, t, j, h => by
    by_cases e : i = j
    · exact ⟨0, by simp, by rw [pos, if_pos e], by simpa using e⟩
    · rcases List.mem_cons.1 h with q | q
      · exact absurd q.symm e
      · obtain ⟨k, k1, k2, k3⟩ := pos_get (t := t + 1) q
        exact ⟨k + 1, by simp; omega, by rw [pos, if_neg e, k2]; congr 1; omega, by simpa using k3⟩

theorem plc_get : ∀ {S : List Int} {t : Nat} {p : List Int} {j : Nat}, S.Nodup → (∀ i ∈ S, 0 ≤ i ∧ i < (p.length : Int)) → (plc S t p).getD j 0 = if (j : Int) ∈ S then pos S t j else p.getD j 0
  | [], t, p, j, _, _ => by simp [plc]
  | i :: r, t, p, j, hn, hr => by
    obtain ⟨n1, n2⟩ := List.nodup_cons.1 hn
    have hir := hr i (by simp)
    rw [plc, plc_get n2 (by intro x hx; rw [List.length_set]; exact hr x (List.mem_cons_of_mem _ hx))]
    by_cases e : i = (j : Int)
    · subst e
      rw [if_neg n1, if_pos (by simp), pos, if_pos rfl]
      simp only [Int.toNat_natCast, List.getD_eq_getElem?_getD]
      rw [List.getElem?_set_self (by omega)]; rfl
    · have hne : i.toNat ≠ j := by omega
      have hg : (p.set i.toNat ((t + 1 : Nat) : Int)).getD j 0 = p.getD j 0 := by
        simp only [List.getD_eq_getElem?_getD]; rw [List.getElem?_set_ne hne]
      by_cases q : (j : Int) ∈ r
      · rw [if_pos q, if_pos (List.mem_cons_of_mem _ q), pos, if_neg e]
      · rw [if_neg q, if_neg (fun h => (List.mem_cons.1 h).elim (fun h => e h.symm) q), hg]

theorem fil_get : ∀ {p : List Int} {d : Int} {i : Nat}, i < p.length → (p.getD i 0 ≠ 0 → (fil p d).getD i 0 = p.getD i 0) ∧ (p.getD i 0 = 0 → d < (fil p d).getD i 0)
  | [], _, _, h => by simp at h
  | x :: r, d, 0, _ => by
    rw [fil]
    by_cases hx : x = 0
    · subst hx
      exact ⟨fun h => absurd rfl h, fun _ => by show d < d + 1; omega⟩
    · rw [beq_F hx, cond_false]
      exact ⟨fun _ => rfl, fun h => absurd h hx⟩
  | x :: r, d, i + 1, h => by
    rw [fil]
    have h := Nat.lt_of_succ_lt_succ h
    simp only [List.getD_cons_succ]
    by_cases hx : x = 0
    · rw [beq_T hx, cond_true, List.getD_cons_succ]
      obtain ⟨a, b⟩ := fil_get (d := d + 1) h
      exact ⟨a, fun q => by have := b q; omega⟩
    · rw [beq_F hx, cond_false, List.getD_cons_succ]
      exact fil_get h

theorem fil_mem : ∀ {p : List Int} {d x : Int}, x ∈ fil p d → (x ∈ p ∧ x ≠ 0) ∨ (d < x ∧ x ≤ d + p.length)
  | [], _, _, h => by cases h
  | y :: r, d, x, h => by
    rw [fil] at h
    by_cases hy : y = 0
    · rw [beq_T hy, cond_true] at h
      rcases List.mem_cons.1 h with rfl | h
      · exact .inr ⟨by omega, by simp; omega⟩
      · rcases fil_mem h with ⟨a, b⟩ | ⟨a, b⟩
        · exact .inl ⟨List.mem_cons_of_mem _ a, b⟩
        · exact .inr ⟨by omega, by simp only [List.length_cons]; omega⟩
    · rw [beq_F hy, cond_false] at h
      rcases List.mem_cons.1 h with rfl | h
      · exact .inl ⟨by simp, hy⟩
      · rcases fil_mem h with ⟨a, b⟩ | ⟨a, b⟩
        · exact .inl ⟨List.mem_cons_of_mem _ a, b⟩
        · exact .inr ⟨a, by simp only [List.length_cons]; omega⟩

theorem fil_nodup : ∀ {p : List Int} {d : Int}, p.Pairwise (fun a b => a = b → a = 0) → (∀ x ∈ p, x ≤ d) → 0 ≤ d → (fil p d).Nodup
  | [], _, _, _, _ => by simp [fil]
  | y :: r, d, hp, hd, h0 => by
    obtain ⟨p1, p2⟩ := List.pairwise_cons.1 hp
    rw [fil]
    by_cases hy : y = 0
    · rw [beq_T hy, cond_true]
      refine List.nodup_cons.2 ⟨fun h => ?_, fil_nodup p2 (fun x hx => by have := hd x (List.mem_cons_of_mem _ hx); omega) (by omega)⟩
      rcases fil_mem h with ⟨a, _⟩ | ⟨a, _⟩
      · have := hd _ (List.mem_cons_of_mem _ a); omega
      · omega
    · rw [beq_F hy, cond_false]
      refine List.nodup_cons.2 ⟨fun h => ?_, fil_nodup p2 (fun x hx => hd x (List.mem_cons_of_mem _ hx)) h0⟩
      rcases fil_mem h with ⟨a, _⟩ | ⟨a, _⟩
      · exact hy (p1 y a rfl)
      · have := hd y (by simp); omega

/-- The fines of a plan of different days. -/
theorem fnR_ok {l : List Od} : ∀ (xs pre : List Int) (n : Int), (pre ++ xs).Nodup → (∀ x ∈ xs, 1 ≤ x ∧ x ≤ 42) → n = ws (fnl l) (fun i => decide ((pre ++ xs).getD i 0 > (l.getD i d3).1)) pre.length → fnR l pre xs n = (ws (fnl l) (fun i => decide ((pre ++ xs).getD i 0 > (l.getD i d3).1)) (pre ++ xs).length, 0)
  | [], pre, n, _, _, e => by simp only [List.append_nil] at e ⊢; rw [fnR, e]
  | x :: r, pre, n, hn, hr, e => by
    have hx := hr x (by simp)
    have hc : pre.contains x = false := by
      cases q : pre.contains x with
      | false => rfl
      | true => exact absurd rfl ((List.nodup_append.1 hn).2.2 x (List.contains_iff_mem.1 q) x (by simp))
    rw [fnR, decide_eq_true hx, hc]
    simp only [Bool.not_true, cond_false]
    have ea : pre ++ x :: r = (pre ++ [x]) ++ r := by simp
    rw [ea] at hn e ⊢
    have hg : ((pre ++ [x]) ++ r).getD pre.length 0 = x := by rw [← ea]; simp [List.getD]
    refine fnR_ok r (pre ++ [x]) _ hn (fun y hy => hr y (List.mem_cons_of_mem _ hy)) ?_
    rw [List.length_append, List.length_singleton, ws, hg, ← e]
    cases decide (x > (l.getD pre.length d3).1) <;> simp

theorem dayS_sorted (l : List Od) (hl : ∀ i ∈ greedy l [], 0 ≤ i) : (dayS l).Pairwise fun a b => (l.getD a.toNat d3).1 ≤ (l.getD b.toNat d3).1 := by
  refine isortR_pw (R := fun a b => (l.getD a.toNat d3).1 ≤ (l.getD b.toNat d3).1) (fun a b c h1 h2 => Int.le_trans h1 h2) ?_
  refine List.Pairwise.imp (R := fun _ _ => True) (fun {y x} _ => ⟨fun h => ?_, fun h => ?_⟩) (List.pairwise_of_forall fun _ _ => trivial)
  · have := of_decide_eq_true h; omega
  · have := of_decide_eq_false h; omega

theorem planO_ok {l : List Od} (hok : OkO l) : (planO l).length = l.length ∧ (planO l).Nodup ∧ (∀ x ∈ planO l, 1 ≤ x ∧ x ≤ 42) ∧ ∀ i, i < l.length → decide ((planO l).getD i 0 > (l.getD i d3).1) = !mem (greedy l []) i := by
  have h6 := hok.six
  have hlen := h6.len
  obtain ⟨hix, hg⟩ := greedy_gr h6
  have hperm := dayS_perm l
  have hixS : Ix l.length (dayS l) := hix.perm hperm
  have hmem : ∀ j : Int, j ∈ dayS l ↔ j ∈ greedy l [] := fun j => hperm.mem_iff
  have hrl : (List.replicate l.length (0 : Int)).length = l.length := by simp
  have hget : ∀ j : Nat, (plc (dayS l) 0 (List.replicate l.length 0)).getD j 0 = if (j : Int) ∈ dayS l then pos (dayS l) 0 j else 0 := fun j => by
    rw [plc_get hixS.nd (by rw [hrl]; exact hixS.rng)]
    by_cases q : (j : Int) ∈ dayS l
    · rw [if_pos q, if_pos q]
    · rw [if_neg q, if_neg q, List.getD_eq_getElem?_getD, List.getElem?_replicate]; split <;> rfl
  -- whoever is in the set is on time
  have hpos : ∀ j : Nat, (j : Int) ∈ dayS l → ∃ k, k < (dayS l).length ∧ pos (dayS l) 0 j = ((k + 1 : Nat) : Int) ∧ (dayS l).getD k 0 = (j : Int) ∧ k + 1 ≤ dyl l j := fun j hj => by
    obtain ⟨k, k1, k2, k3⟩ := pos_get (t := 0) hj
    refine ⟨k, k1, by rw [k2, Nat.zero_add], k3, ?_⟩
    have hs := dayS_sorted l fun i hi => (hix.rng i hi).1
    have hsplit : dayS l = (dayS l).take (k + 1) ++ (dayS l).drop (k + 1) := (List.take_append_drop _ _).symm
    have hall : ∀ x ∈ (dayS l).take (k + 1), decide (dyl l x.toNat ≤ dyl l j) = true := fun x hx => by
      obtain ⟨m, hm, rfl⟩ := List.mem_iff_getElem.1 hx
      have hm' : m < k + 1 := by rw [List.length_take] at hm; omega
      have hkj : (dayS l)[k] = (j : Int) := by rw [← k3, List.getD_eq_getElem?_getD, List.getElem?_eq_getElem k1]; rfl
      have hle : (l.getD ((dayS l)[m]'(by omega)).toNat d3).1 ≤ (l.getD (j : Int).toNat d3).1 := by
        by_cases q : m = k
        · subst q; rw [hkj]; exact Int.le_refl _
        · have := List.pairwise_iff_getElem.1 hs m k (by omega) k1 (by omega)
          rw [hkj] at this; exact this
      rw [List.getElem_take]
      refine decide_eq_true ?_
      unfold dyl
      rw [Int.toNat_natCast] at hle
      omega
    have hc := cnt_mem (fun i => decide (dyl l i ≤ dyl l j)) hixS
    have hb : by_ (dyl l) l.length (mem (dayS l)) (dyl l j) ≤ dyl l j := (hg.pos.congr fun i _ => mem_perm hperm i) _
    unfold by_ at hb
    rw [← hc, hsplit, List.filter_append, List.length_append] at hb
    rw [List.filter_eq_self.2 hall, List.length_take] at hb
    omega
  have hday : ∀ j, j < l.length → (1 ≤ (l.getD j d3).1 ∧ (l.getD j d3).1 ≤ 30) ∧ dyl l j = (l.getD j d3).1.toNat := fun j hj => by
    have := hok.all _ (List.getElem_mem hj)
    have e : l.getD j d3 = l[j] := by simp [List.getD, List.getElem?_eq_getElem hj]
    rw [e]; exact ⟨this.1, by rw [dyl, e]⟩
  have hpl : (plc (dayS l) 0 (List.replicate l.length 0)).length = l.length := by rw [plc_len, hrl]
  have hgt : ∀ x ∈ plc (dayS l) 0 (List.replicate l.length 0), ∃ j, j < l.length ∧ (plc (dayS l) 0 (List.replicate l.length 0)).getD j 0 = x := fun x hx => by
    obtain ⟨j, hj, rfl⟩ := List.mem_iff_getElem.1 hx
    exact ⟨j, by rw [hpl] at hj; exact hj, by rw [List.getD_eq_getElem?_getD, List.getElem?_eq_getElem hj]; rfl⟩
  have hSl : (dayS l).length ≤ l.length := by rw [hperm.length_eq]; exact greedy_len h6
  have hb12 : ∀ x ∈ plc (dayS l) 0 (List.replicate l.length 0), 0 ≤ x ∧ x ≤ 12 := fun x hx => by
    obtain ⟨j, hj, rfl⟩ := hgt x hx
    rw [hget]
    split
    · rename_i hm
      obtain ⟨k, k1, k2, _⟩ := hpos j hm
      rw [k2]; omega
    · omega
  refine ⟨by rw [planO, fil_len, hpl], ?_, ?_, ?_⟩
  · refine fil_nodup ?_ (fun x hx => by have := hb12 x hx; omega) (by omega)
    refine List.pairwise_iff_getElem.2 fun a b ha hb hab e => ?_
    have ea : (plc (dayS l) 0 (List.replicate l.length 0))[a] = (plc (dayS l) 0 (List.replicate l.length 0)).getD a 0 := by rw [List.getD_eq_getElem?_getD, List.getElem?_eq_getElem ha]; rfl
    have eb : (plc (dayS l) 0 (List.replicate l.length 0))[b] = (plc (dayS l) 0 (List.replicate l.length 0)).getD b 0 := by rw [List.getD_eq_getElem?_getD, List.getElem?_eq_getElem hb]; rfl
    rw [ea, hget]
    rw [ea, eb, hget, hget] at e
    by_cases q1 : (a : Int) ∈ dayS l
    · obtain ⟨k, k1, k2, k3, _⟩ := hpos a q1
      rw [if_pos q1, k2] at e
      by_cases q2 : (b : Int) ∈ dayS l
      · obtain ⟨k', _, k2', k3', _⟩ := hpos b q2
        rw [if_pos q2, k2'] at e
        have : k = k' := by omega
        subst this
        rw [k3] at k3'
        omega
      · rw [if_neg q2] at e; omega
    · rw [if_neg q1]
  · intro x hx
    rcases fil_mem hx with ⟨a, b⟩ | ⟨a, b⟩
    · have := hb12 x a; omega
    · rw [hpl] at b; omega
  · intro i hi
    obtain ⟨f1, f2⟩ := fil_get (p := plc (dayS l) 0 (List.replicate l.length 0)) (d := 30) (i := i) (by rw [hpl]; exact hi)
    obtain ⟨d1, d2⟩ := hday i hi
    have hmi : mem (greedy l []) i = decide ((i : Int) ∈ dayS l) := by
      by_cases q : (i : Int) ∈ dayS l
      · rw [decide_eq_true q]; exact List.contains_iff_mem.2 ((hmem _).1 q)
      · rw [decide_eq_false q]
        cases q2 : mem (greedy l []) i with
        | false => rfl
        | true => exact absurd ((hmem _).2 (List.contains_iff_mem.1 q2)) q
    rw [hget] at f1 f2
    rw [hmi]
    by_cases q : (i : Int) ∈ dayS l
    · obtain ⟨k, k1, k2, _, k4⟩ := hpos i q
      rw [if_pos q, k2] at f1
      have := f1 (by omega)
      have hv : (planO l).getD i 0 = ((k + 1 : Nat) : Int) := this
      rw [hv, decide_eq_true q]
      exact decide_eq_false (by omega)
    · rw [if_neg q] at f2
      have hv : (30 : Int) < (planO l).getD i 0 := f2 rfl
      rw [decide_eq_false q]
      exact decide_eq_true (by omega)

theorem planO_fines {l : List Od} (hok : OkO l) (hc : ckO l = 0) : finP l (planO l) = (leastO l, 0) := by
  obtain ⟨p1, p2, p3, p4⟩ := planO_ok hok
  rw [finP, if_pos hc, if_pos p1, fnR_ok (planO l) [] 0 (by simpa using p2) p3 rfl]
  simp only [List.nil_append]
  rw [p1, ws_congr (q := fun i => !mem (greedy l []) i) (fun i hi => p4 i hi) (fun _ _ _ => rfl)]
  have hb := greedy_best hok.six
  have h := ws_split (fnl l) (fun _ => true) (mem (greedy l [])) l.length
  simp only [Bool.true_and] at h
  have e1 : ws (fnl l) (fun i => mem (greedy l []) i) l.length = ws (fnl l) (mem (greedy l [])) l.length := rfl
  have e2 := hb.2
  unfold tot at e2
  rw [e1, e2] at h
  have : ws (fnl l) (fun i => !mem (greedy l []) i) l.length = leastO l := by omega
  rw [this]

theorem verP_plan {l : List Od} (hc : ckO l = 0) : verP l (planO l) = 0 := by
  rw [verP, planO_fines (ckO_ok hc) hc]
  simp

end Go.Proofs.Ytbblnbolabpfmaa
