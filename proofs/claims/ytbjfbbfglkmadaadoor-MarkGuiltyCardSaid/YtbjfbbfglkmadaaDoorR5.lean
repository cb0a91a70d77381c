/-
  The reference: the smallest coalition, lean coalitions, who is guilty, who is nearest.
-/
import Derived.Test.YtbjfbbfglkmadaaDoorR2
import Derived.Test.YtbjfbbfglkmadaaDoorR3
import Derived.Test.YtbjfbbfglkmadaaDoorM7
import Derived.Test.YtbjfbbfglkmadaaDoorRD
namespace Go.Proofs.YtbjfbbfglkmadaaDoor
open Go.RowKit
set_option linter.unusedVariables false

theorem isCo_ne {N k : Nat} {x : List Int} (h : isCo N k x) : 0 < x.length := by
  have := h.1
  cases x with
  | nil => exact absurd rfl this
  | cons _ _ => simp
/-! ### the smallest coalition -/
def Bst (c : Cd) (w : List Int) (P : List (List Int)) (b : List Int) : Prop :=
  (b = [] ∧ ∀ x ∈ P, mk c x w = false) ∨ (b ∈ P ∧ mk c b w = true ∧ ∀ x ∈ P, mk c x w = true → b.length < x.length ∨ (b.length = x.length ∧ (x = b ∨ bf b x = true)))
theorem Bst.uniq {c : Cd} {w : List Int} {P : List (List Int)} {b b' : List Int} (h : Bst c w P b) (h' : Bst c w P b') : b = b' := by
  rcases h with ⟨h1, h2⟩ | ⟨h1, h2, h3⟩ <;> rcases h' with ⟨g1, g2⟩ | ⟨g1, g2, g3⟩
  · rw [h1, g1]
  · rw [h2 b' g1] at g2; cases g2
  · rw [g2 b h1] at h2; cases h2
  · rcases h3 b' g1 g2 with q1 | ⟨q1, q2⟩ <;> rcases g3 b h1 h2 with p1 | ⟨p1, p2⟩
    · omega
    · omega
    · omega
    · rcases q2 with q2 | q2
      · exact q2.symm
      · rcases p2 with p2 | p2
        · exact p2
        · rw [bf_asym q2] at p2; cases p2
theorem find_first {p : List Int → Bool} {l : List Int} : ∀ {L : List (List Int)}, L.Pairwise (fun a b => bf a b = true) → L.find? p = some l → l ∈ L ∧ p l = true ∧ ∀ x ∈ L, p x = true → x = l ∨ bf l x = true
  | [], _, h => by cases h
  | a :: r, hs, h => by
    obtain ⟨h1, h2⟩ := List.pairwise_cons.1 hs
    rw [List.find?_cons] at h
    cases e : p a with
    | true =>
      rw [e] at h
      obtain rfl := Option.some.inj h
      exact ⟨by simp, e, fun x hx _ => (List.mem_cons.1 hx).imp id fun hx => h1 x hx⟩
    | false =>
      rw [e] at h
      obtain ⟨a1, a2, a3⟩ := find_first h2 h
      refine ⟨by simp [a1], a2, fun x hx hp => ?_⟩
      rcases List.mem_cons.1 hx with rfl | hx
      · rw [e] at hp; cases hp
      · exact a3 x hx hp
theorem isCo_up {N k k' : Nat} {x : List Int} (h : isCo N k x) (hk : x.length ≤ k') : isCo N k' x := ⟨h.1, hk, h.2.2⟩
theorem fwF_best {c : Cd} {w : List Int} (hn : c.2.1.length ≤ 10) : ∀ (n s : Nat), n + s = c.2.1.length + 1 → (∀ x ∈ co c.2.1.length 10, mk c x w = true → s ≤ x.length) →
    ∃ b, Bst c w (co c.2.1.length 10) b ∧ fwF c w n s = cond (decide (b.length = 0)) ([], 14) (b, 0)
  | 0, s, h, hs => ⟨[], .inl ⟨rfl, fun x hx => by
      cases e : mk c x w with
      | false => rfl
      | true =>
        have := hs x hx e
        have := isCo_len (co_mem.1 hx)
        omega⟩, rfl⟩
  | n + 1, s, h, hs => by
    rw [fwF]
    cases hf : fwP c w s with
    | some l =>
      obtain ⟨h1, h2, h3⟩ := find_first (co_sorted _ _) hf
      simp only [Bool.and_eq_true, decide_eq_true_eq] at h2 h3
      have hl := co_mem.1 h1
      have hll := isCo_len hl
      refine ⟨l, .inr ⟨co_mem.2 (isCo_up hl (by omega)), h2.2, fun x hx hm => ?_⟩, ?_⟩
      · have hx1 := hs x hx hm
        by_cases e : x.length = s
        · exact .inr ⟨by omega, h3 x (co_mem.2 (isCo_up (co_mem.1 hx) (by omega))) ⟨e, hm⟩⟩
        · exact .inl (by omega)
      · have := isCo_ne hl
        simp only
        rw [decide_eq_false (by omega), cond_false]
    | none =>
      refine fwF_best hn n (s + 1) (by omega) fun x hx hm => ?_
      have h1 := hs x hx hm
      have h2 := List.find?_eq_none.1 hf
      by_cases e : x.length = s
      · have := h2 x (co_mem.2 (isCo_up (co_mem.1 hx) (by omega)))
        simp only [Bool.and_eq_true, decide_eq_true_eq, not_and] at this
        exact absurd hm (this e)
      · omega
theorem ltLen (a b : Nat) : decide ((a : Int) < (b : Int)) = decide (a < b) := decide_eq_decide.2 (by omega)
theorem KB25 : FnOk Tryd.prog 25 (F25 B24) := ok25 B22 B58 B59 B69 KB23 KB60 KB61 KB69 B24 fun c w r h => ⟨2001, by
  simp only [B24] at h
  split at h
  · rename_i hs
    rw [← h, m25, B22, if_pos hs.1, Option.bind_some]
    simp only [beqDec, bneDec]
    cases e : decide (cdE c = 0) with
    | false =>
      have := of_decide_eq_false e
      rw [show cwE c w = cdE c by rw [cwE, e, cond_false], decide_eq_false this]; rfl
    | true =>
      have hc := of_decide_eq_true e
      have hn := (cdE_ok hc).2.1
      rw [show cwE c w = wE c w by rw [cwE, e, cond_true]]
      simp only [cond_true, B58, if_pos (show 0 < c.2.1.length ∧ w.length ≤ 1000 from ⟨hn.1, hs.2⟩), Option.bind_some]
      cases ew : decide (wE c w = 0) with
      | false => rfl
      | true =>
        have h0 : cwE c w = 0 := by rw [cwE, e, cond_true]; exact of_decide_eq_true ew
        have e69 : B69 c 10 = some (co c.2.1.length 10) := if_pos hn.2
        simp only [Bool.not_true, cond_false, cond_true, e69, Option.bind_some]
        have hsort := co_sorted c.2.1.length 10
        have hlen : (co c.2.1.length 10).length ≤ 1024 := co_len hn.2
        obtain ⟨b0, hb0, hv⟩ := fwF_best (c := c) (w := w) hn.2 c.2.1.length 1 (by omega) fun x hx _ => isCo_ne (co_mem.1 hx)
        rw [hv]
        have hco : ∀ x ∈ co c.2.1.length 10, isCo c.2.1.length 10 x := fun x hx => co_mem.1 hx
        generalize co c.2.1.length 10 = L at *
        refine rangeP L [] (fun n s t => l25a B22 B58 B59 B69 2001 c w n s L t) (fun t rest b => Bst c w (L.take t) b) (fun r => r = some (cond (decide (b0.length = 0)) ([], 14) (b0, 0))) (fun n b t x rest ht hx hd hI ih => ?_) (fun n b hI => ?_) 2001 [] (by omega) (.inl ⟨rfl, fun x hx => by cases hx⟩)
        · have hxL : x ∈ L := hx ▸ getD_mem ht
          have hxc := hco x hxL
          have hxn := isCo_ne hxc
          have e59 : B59 c x w = some (mk c x w) := if_pos (okC_co h0 hxc)
          have hpx : ∀ y ∈ L.take t, bf y x = true := fun y hy => by
            have hp := hsort
            rw [← List.take_append_drop t L, List.pairwise_append] at hp
            refine hp.2.2 y hy x ?_
            rw [drop_cons' (d := []) ht, hx]; exact List.mem_cons_self
          have htk := take_succ' ht hx
          have hmem : ∀ y, y ∈ L.take (t + 1) ↔ y ∈ L.take t ∨ y = x := fun y => by rw [htk, List.mem_append, List.mem_singleton]
          have hlt : ∀ y ∈ L.take t, 0 < y.length := fun y hy => isCo_ne (hco y (List.mem_of_mem_take hy))
          simp only [l25a, ixA ht, ixB ht, cond_true, chk_true, Int.toNat_natCast, hx, ixW ht (by omega), e59, Option.bind_some, lenEq0, ltLen]
          cases em : mk c x w with
          | false =>
            rw [cond_false]
            refine ih b ?_
            rcases hI with ⟨h1, h2⟩ | ⟨h1, h2, h3⟩
            · refine .inl ⟨h1, fun y hy => ?_⟩
              rcases (hmem y).1 hy with hy | rfl
              · exact h2 y hy
              · exact em
            · refine .inr ⟨(hmem b).2 (.inl h1), h2, fun y hy hm => ?_⟩
              rcases (hmem y).1 hy with hy | rfl
              · exact h3 y hy hm
              · rw [em] at hm; cases hm
          | true =>
            rw [cond_true]
            rcases hI with ⟨h1, h2⟩ | ⟨h1, h2, h3⟩
            · subst h1
              simp only [List.length_nil, decide_true, cond_true]
              refine ih x (.inr ⟨(hmem x).2 (.inr rfl), em, fun y hy hm => ?_⟩)
              rcases (hmem y).1 hy with hy | rfl
              · rw [h2 y hy] at hm; cases hm
              · exact .inr ⟨rfl, .inl rfl⟩
            · have := hlt b h1
              rw [decide_eq_false (show ¬ b.length = 0 by omega), cond_false]
              cases el : decide (x.length < b.length) with
              | true =>
                have hl := of_decide_eq_true el
                rw [cond_true]
                refine ih x (.inr ⟨(hmem x).2 (.inr rfl), em, fun y hy hm => ?_⟩)
                rcases (hmem y).1 hy with hy | rfl
                · rcases h3 y hy hm with q | q
                  · exact .inl (by omega)
                  · exact .inl (by omega)
                · exact .inr ⟨rfl, .inl rfl⟩
              | false =>
                have hl := of_decide_eq_false el
                rw [cond_false]
                refine ih b (.inr ⟨(hmem b).2 (.inl h1), h2, fun y hy hm => ?_⟩)
                rcases (hmem y).1 hy with hy | rfl
                · exact h3 y hy hm
                · by_cases q : b.length = y.length
                  · exact .inr ⟨q, .inr (hpx b h1)⟩
                  · exact .inl (by omega)
        · rw [List.take_length] at hI
          obtain rfl := hI.uniq hb0
          simp only [l25a, ixE, cond_false, lenEq0]
          cases decide (b.length = 0) <;> rfl
  · cases h⟩

/-! ### lean coalitions -/
def B71 (c : Cd) (w : List Int) (z : Int) : Option Int := if smB c = true ∧ w.length ≤ 1000 then some (cond (decide (cwE c w = 0)) (cond (decide (1 ≤ z ∧ z ≤ 10)) 0 4) (cwE c w)) else none
theorem KB71 : FnOk Tryd.prog 71 (F71 B71) := ok71 B22 B58 B65 KB23 KB60 KB65 B71 fun c w z r h => ⟨0, by
  simp only [B71] at h
  split at h
  · rename_i hs
    rw [← h, m71, B22, if_pos hs.1, Option.bind_some]
    simp only [beqDec]
    cases e : decide (cdE c = 0) with
    | false =>
      have := of_decide_eq_false e
      rw [show cwE c w = cdE c by rw [cwE, e, cond_false], decide_eq_false this]; rfl
    | true =>
      have hc := of_decide_eq_true e
      have hn := (cdE_ok hc).2.1
      rw [show cwE c w = wE c w by rw [cwE, e, cond_true]]
      simp only [cond_true, B58, if_pos (show 0 < c.2.1.length ∧ w.length ≤ 1000 from ⟨hn.1, hs.2⟩), Option.bind_some]
      cases ew : decide (wE c w = 0) with
      | false => rfl
      | true =>
        have := of_decide_eq_true ew
        simp only [cond_true, B65, Option.bind_some]
        cases decide (1 ≤ z ∧ z ≤ 10) with
        | false => rfl
        | true => simp only [Bool.not_true, cond_false, cond_true, this]
  · cases h⟩
def B72 (l : List Int) (i : Int) : Option (List Int) := if (0 ≤ i ∧ i < l.length) ∧ l.length ≤ 1000 then some (er l i.toNat) else none
theorem KB72 : FnOk Tryd.prog 72 (F72 B72) := ok72 B72 fun l i r h => ⟨0, by
  simp only [B72] at h
  split at h
  · rename_i hs
    obtain ⟨⟨h1, h2⟩, h3⟩ := hs
    obtain ⟨k, rfl⟩ : ∃ j : Nat, i = j := ⟨i.toNat, by omega⟩
    have hk : k < l.length := by omega
    rw [← h, m72, ixW hk (by omega)]
    simp only [Int.toNat_natCast]
    rw [chk_dec (by omega), chk_of (small_of (by simp; omega) (by decide)), chk_dec (by omega), chk_of (small_of (by simp; omega) (by decide)), List.nil_append]
    rfl
  · cases h⟩
theorem KB27 : FnOk Tryd.prog 27 (F27 B26) := ok27 B59 B69 B71 B72 KB61 KB69 KB71 KB72 B26 fun c w z r h => ⟨2001, by
  simp only [B26] at h
  split at h
  · rename_i hs
    rw [← h, m27, B71, if_pos hs, Option.bind_some, bneDec]
    cases e : decide (cwE c w = 0) with
    | false =>
      have := of_decide_eq_false e
      rw [cond_false, decide_eq_false this]; rfl
    | true =>
      have h0 := of_decide_eq_true e
      have hn := (cdE_ok (cwE_ok h0).1).2.1
      rw [cond_true]
      cases e2 : decide (1 ≤ z ∧ z ≤ 10) with
      | false => rfl
      | true =>
        have e69 : B69 c z = some (co c.2.1.length z.toNat) := if_pos hn.2
        simp only [cond_true, decide_true, Bool.not_true, cond_false, e69, Option.bind_some, lnL]
        have hlen : (co c.2.1.length z.toNat).length ≤ 1024 := co_len hn.2
        have hco : ∀ x ∈ co c.2.1.length z.toNat, isCo c.2.1.length z.toNat x := fun x hx => co_mem.1 hx
        generalize co c.2.1.length z.toNat = L at *
        refine (rangeIx L [] (fun n s t => l27a B59 B69 B71 B72 2001 c w L n t s) (fun t rest s => s.length ≤ t) (fun t xs s => some (s ++ xs.filter (fun l => ln c l w), 0)) (fun n s t x rest ht hx hI ih => ?_)
          (fun n s _ => by simp only [l27a, ixE, cond_false, List.filter_nil, List.append_nil]) 2001 [] (by omega) (Nat.le_refl _)).trans (by rw [List.nil_append])
        have hxL : x ∈ L := hx ▸ getD_mem ht
        have hxc := hco x hxL
        have hxl := isCo_len hxc
        have e59 : B59 c x w = some (mk c x w) := if_pos (okC_co h0 hxc)
        simp only [l27a, ixA ht, ixB ht, cond_true, chk_true, Int.toNat_natCast, hx, e59, Option.bind_some]
        refine (rangeIx x 0 (fun n' (b : Bool) k => l27b B59 B69 B71 B72 2001 c w L (t : Int) s (fun y0 y1 => l27a B59 B69 B71 B72 2001 c w L n y0 y1) n' b k) (fun k ys _ => ys.length = x.length - k)
          (fun k ys b => cond (b && (List.range' k ys.length).all fun k => !mk c (er x k) w) (l27a B59 B69 B71 B72 2001 c w L n ((t + 1 : Nat) : Int) (s ++ [x])) (l27a B59 B69 B71 B72 2001 c w L n ((t + 1 : Nat) : Int) s)) (fun n' b k y ys hk hy hI' ih' => ?_) (fun n' b _ => ?_) 2001 (mk c x w) (by omega) rfl).trans ?_
        · have hl : ys.length = x.length - (k + 1) := by simp only [List.length_cons] at hI'; omega
          simp only [l27b, ixB ht, chk_true, Int.toNat_natCast, hx, ixA hk, cond_true, ixW hk (by omega), List.length_cons, List.range'_succ, List.all_cons]
          cases b with
          | false => simp only [cond_false, Bool.false_and]; exact (ih' false hl).trans (by simp only [Bool.false_and, cond_false])
          | true =>
            have e72 : B72 x (k : Int) = some (er x k) := if_pos ⟨by omega, by omega⟩
            have e59' : B59 c (er x k) w = some (mk c (er x k) w) := if_pos (okC_er (okC_co h0 hxc) k)
            simp only [cond_true, e72, e59', Option.bind_some, Bool.true_and]
            rw [ih' _ hl]
        · simp only [l27b, ixB ht, chk_true, Int.toNat_natCast, hx, ixE, cond_false, ixW ht (by omega), List.length_nil, List.range'_zero, List.all_nil, Bool.and_true]
          cases b with
          | false => rfl
          | true => rw [cond_true, cond_true, chk_of (small_of (by omega) (by decide))]
        · rw [List.filter_cons]
          have hln : (mk c x w && (List.range' 0 x.length).all fun k => !mk c (er x k) w) = ln c x w := by rw [ln, Bool.and_comm]
          rw [hln]
          cases ln c x w with
          | true =>
            rw [cond_true, ih _ (by simp; omega), List.append_assoc]; rfl
          | false =>
            rw [cond_false, ih _ (by omega)]; rfl
  · cases h⟩

/-! ### who is guilty -/
theorem glF_cons {fl : List Int} {L N t : Nat} (h : t < N) : glF fl L N t = cond (decide (fl.count (t : Int) = L)) ((t : Int) :: glF fl L N (t + 1)) (glF fl L N (t + 1)) := by
  unfold glF
  rw [show N - t = (N - (t + 1)) + 1 by omega, List.range'_succ, List.map_cons, List.filter_cons]
  cases decide (fl.count (t : Int) = L) <;> rfl
theorem cntCons (x y : Int) (r : List Int) : ((x :: r).count y : Int) = cond (decide (x = y)) ((r.count y : Int) + 1) (r.count y : Int) := by
  rw [List.count_cons, beqDec]
  cases decide (x = y) <;> simp
theorem KB29 : FnOk Tryd.prog 29 (F29 B28) := ok29 B26 KB27 B28 fun c w z r h => ⟨2001, by
  simp only [B28] at h
  split at h
  · rename_i hs
    obtain rfl := Option.some.inj h
    rw [m29, B26, if_pos hs, Option.bind_some, guV, bneDec, beqDec, lenEq0]
    cases e : decide (cwE c w = 0) with
    | false =>
      have h0 := of_decide_eq_false e
      simp only [cond_false]
      rw [decide_eq_false h0]; rfl
    | true =>
      have h0 := of_decide_eq_true e
      have hn := (cdE_ok (cwE_ok h0).1).2.1
      simp only [cond_true]
      cases e2 : decide (1 ≤ z ∧ z ≤ 10) with
      | false => rfl
      | true =>
        simp only [cond_true, decide_true, Bool.not_true, cond_false]
        cases e3 : decide ((lnL c w z).length = 0) with
        | true => rfl
        | false =>
          simp only [cond_false]
          have hx10 : ∀ x ∈ lnL c w z, x.length ≤ 10 := fun x hx => by have := isCo_len (lnL_mem hx); omega
          have hL := lnL_len (c := c) (w := w) (z := z) hn.2
          have hgl : gl c w z = glF (lnL c w z).flatten (lnL c w z).length c.2.1.length 0 := rfl
          rw [hgl]
          generalize lnL c w z = L at *
          refine (countUp 0 (c.2.1.length : Int) (by omega) (fun n s t => l29a B26 2001 c (L, 0) n t s) (fun t s => (s.length : Int) ≤ t) (fun t s => some (s ++ glF L.flatten L.length c.2.1.length t.toNat, 0)) (fun n s t h1 h2 hI ih => ?_)
            (fun n s _ => by simp only [l29a, decide_eq_false (Int.lt_irrefl _), cond_false, Int.toNat_natCast, glF, Nat.sub_self]; simp) 2001 [] (by omega) (by simp)).trans (by rw [List.nil_append]; rfl)
          obtain ⟨k, rfl⟩ : ∃ j : Nat, t = j := ⟨t.toNat, by omega⟩
          have hk : k < c.2.1.length := by omega
          have ih' := fun s' h' => ih s' h'
          simp only [show ((k : Int) + 1).toNat = k + 1 by omega] at ih'
          simp only [l29a, decide_eq_true h2, cond_true, Int.toNat_natCast, glF_cons hk]
          refine (rangeIx L [] (fun n' a j => l29b B26 2001 c (L, 0) (k : Int) s (fun y0 y1 => l29a B26 2001 c (L, 0) n y0 y1) n' a j) (fun j ys a => (0 ≤ a ∧ a ≤ 10 * j) ∧ ∀ x ∈ ys, x.length ≤ 10)
            (fun j ys a => cond (decide (a + (ys.flatten.count (k : Int) : Int) = (L.length : Int))) (l29a B26 2001 c (L, 0) n ((k : Int) + 1) (s ++ [(k : Int)])) (l29a B26 2001 c (L, 0) n ((k : Int) + 1) s)) (fun n' a j x ys hj hx hI' ih2 => ?_) (fun n' a _ => ?_) 2001 0 (by omega) ⟨by omega, hx10⟩).trans ?_
          · obtain ⟨⟨a1, a2⟩, a3⟩ := hI'
            have hxl := a3 x (by simp)
            simp only [l29b, ixA hj, cond_true]
            refine (rangeIx x 0 (fun n2 a m => l29c B26 2001 c (L, 0) (k : Int) s (j : Int) (fun y0 y1 => l29b B26 2001 c (L, 0) (k : Int) s (fun y0 y1 => l29a B26 2001 c (L, 0) n y0 y1) n' y0 y1) n2 a m) (fun m zs a' => a ≤ a' ∧ a' ≤ a + m)
              (fun m zs a' => l29b B26 2001 c (L, 0) (k : Int) s (fun y0 y1 => l29a B26 2001 c (L, 0) n y0 y1) n' (a' + (zs.count (k : Int) : Int)) ((j + 1 : Nat) : Int)) (fun n2 a' m y zs hm hy hI3 ih3 => ?_) (fun n2 a' _ => ?_) 2001 a (by omega) ⟨by omega, by omega⟩).trans ?_
            · simp only [l29c, ixB hj, chk_true, Int.toNat_natCast, hx, ixA hm, ixB hm, cond_true, hy, ixW hm (by omega), beqDec, cntCons]
              cases decide (y = (k : Int)) with
              | true =>
                simp only [cond_true]
                rw [w64_small (by omega), ih3 _ ⟨by omega, by omega⟩]
                congr 1
                omega
              | false => exact ih3 _ ⟨by omega, by omega⟩
            · simp only [l29c, ixB hj, chk_true, Int.toNat_natCast, hx, ixE, cond_false, ixW hj (by omega), List.count_nil]
              rw [show a' + ((0 : Nat) : Int) = a' by omega]
            · have := List.count_le_length (a := (k : Int)) (l := x)
              rw [ih2 _ ⟨by omega, fun y hy => a3 y (by simp [hy])⟩, List.flatten_cons, List.count_append]
              rw [show a + ((x.count (k : Int) + ys.flatten.count (k : Int) : Nat) : Int) = a + (x.count (k : Int) : Int) + (ys.flatten.count (k : Int) : Int) by omega]
          · simp only [l29b, ixE, cond_false, ixW hk (by omega), beqDec]
            rw [show decide (a + ((([] : List (List Int)).flatten.count (k : Int) : Nat) : Int) = (L.length : Int)) = decide (a = (L.length : Int)) from decide_eq_decide.2 (by simp), show ((k + 1 : Nat) : Int) = (k : Int) + 1 by omega]
            cases decide (a = (L.length : Int)) with
            | true => rw [cond_true, cond_true, chk_of (small_of (by omega) (by decide))]
            | false => rfl
          · rw [show decide ((0 : Int) + (L.flatten.count (k : Int) : Int) = (L.length : Int)) = decide (L.flatten.count (k : Int) = L.length) from decide_eq_decide.2 (by omega)]
            cases decide (L.flatten.count (k : Int) = L.length) with
            | true => rw [cond_true, cond_true, ih' _ (by simp; omega), List.append_assoc]; rfl
            | false => rw [cond_false, cond_false, ih' _ (by omega)]
  · cases h⟩

/-! ### who is nearest -/
theorem KB31 : FnOk Tryd.prog 31 (F31 B30) := ok31 B22 B53 B58 KB23 KB54 KB60 B30 fun c w r h => ⟨2001, by
  simp only [B30] at h
  split at h
  · rename_i hs
    rw [← h, m31, B22, if_pos hs.1, Option.bind_some]
    simp only [beqDec, bneDec, nrV]
    cases e : decide (cdE c = 0) with
    | false =>
      have := of_decide_eq_false e
      rw [show cwE c w = cdE c by rw [cwE, e, cond_false], decide_eq_false this]; rfl
    | true =>
      have hc := of_decide_eq_true e
      obtain ⟨_, hn, hz, hlen, _⟩ := cdE_ok hc
      rw [show cwE c w = wE c w by rw [cwE, e, cond_true]]
      simp only [cond_true, B58, if_pos (show 0 < c.2.1.length ∧ w.length ≤ 1000 from ⟨hn.1, hs.2⟩), Option.bind_some]
      cases ew : decide (wE c w = 0) with
      | false => rfl
      | true =>
        have hw := of_decide_eq_true ew
        have hwl := (wE_ok hw hc).1
        simp only [Bool.not_true, cond_false, cond_true]
        have e53 : ∀ x, x.length = sz c → B53 x w = some (ap x w) := fun x hx => if_pos ⟨by omega, by omega⟩
        refine (rangeIx c.2.1 [] (fun n m t => l31a B22 B53 B58 2001 c w n m t) (fun t xs _ => ∀ x ∈ xs, x.length = sz c) (fun t xs m => some (nrF w (minF m (xs.map fun x => ap x w)) 0 c.2.1, 0)) (fun n m t x rest ht hx hI ih => ?_)
          (fun n m _ => ?_) 2001 8 (by omega) hlen).trans rfl
        · simp only [l31a, ixA ht, ixB ht, cond_true, chk_true, Int.toNat_natCast, hx, ixW ht (by omega), e53 x (hI x (by simp)), Option.bind_some]
          rw [ih _ fun y hy => hI y (by simp [hy])]
          rfl
        · simp only [l31a, ixE, cond_false]
          exact (rangeIx c.2.1 [] (fun n o t => l31b B22 B53 B58 2001 c w m n t o) (fun t xs o => (∀ x ∈ xs, x.length = sz c) ∧ o.length ≤ t) (fun t xs o => some (o ++ nrF w m t xs, 0)) (fun n o t x rest ht hx hI ih => by
              obtain ⟨i1, i2⟩ := hI
              have i1' : ∀ y ∈ rest, y.length = sz c := fun y hy => i1 y (by simp [hy])
              simp only [l31b, ixA ht, ixB ht, cond_true, chk_true, Int.toNat_natCast, hx, ixW ht (by omega), e53 x (i1 x (by simp)), Option.bind_some, beqDec, nrF]
              cases decide (ap x w = m) with
              | true => rw [cond_true, cond_true, chk_of (small_of (by omega) (by decide)), ih _ ⟨i1', by simp; omega⟩, List.append_assoc]; rfl
              | false => rw [cond_false, cond_false, ih _ ⟨i1', by omega⟩])
            (fun n o _ => by simp only [l31b, ixE, cond_false, nrF, List.append_nil]) 2001 [] (by omega) ⟨hlen, Nat.le_refl _⟩).trans (by rw [List.nil_append]; rfl)
  · cases h⟩

end Go.Proofs.YtbjfbbfglkmadaaDoor
