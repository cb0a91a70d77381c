/-
  Who is framed: what the program computes.
-/
import Derived.Test.YtbjfbbfglkmadaaDoorM5
namespace Go.Proofs.YtbjfbbfglkmadaaDoor
open Go.RowKit
set_option linter.unusedVariables false

def B93 (s : List Int) (v : Int) : Option Int := if s.length ≤ 1000 then some (fx (fun x => v == x) 0 s) else none
theorem KB93 : FnOk Tryd.prog 93 (F93 B93) := ok93 B93 fun s v r h => ⟨1001, by
  simp only [B93] at h
  split at h
  · rename_i hl
    rw [← h, m93]
    exact rangeIx s 0 (fun n (_ : Unit) t => l93a 1001 s v n t) (fun _ _ _ => True) (fun t xs _ => some (fx (fun x => v == x) t xs))
      (fun n _ t x rest ht hx _ ih => by
        simp only [l93a, ixA ht, ixB ht, cond_true, chk_true, Int.toNat_natCast, ixW ht (by omega), hx, ih () trivial, fx]
        cases (v == x) <;> rfl)
      (fun n _ _ => by simp only [l93a, ixE, cond_false]; rfl) 1001 () (by omega) trivial
  · cases h⟩
def B75 (s : List Int) (v : Int) : Option Bool := if s.length ≤ 1000 then some (decide (v ∈ s)) else none
theorem any_mem (s : List Int) (v : Int) : (s.any fun x => v == x) = decide (v ∈ s) := by
  rw [Bool.eq_iff_iff, List.any_eq_true, decide_eq_true_eq]
  constructor
  · rintro ⟨x, hx, h⟩; rw [eq_of_beq h]; exact hx
  · exact fun h => ⟨v, h, beq_self_eq_true v⟩
theorem KB75 : FnOk Tryd.prog 75 (F75 B75) := ok75 B93 KB93 B75 fun s v r h => ⟨0, by
  simp only [B75] at h
  split at h
  · rename_i hl
    rw [← h, m75, B93, if_pos hl, Option.bind_some, fx_ge _ s 0 (by omega), any_mem]
  · cases h⟩
def fi (c : Cd) (l : List Int) : Nat → List (List Int) → Option Int
  | _, [] => none
  | k, w :: r => cond (!decide ((k : Int) ∈ l) && mk c l w) (some (k : Int)) (fi c l (k + 1) r)
def frS (c : Cd) (b : Option (List Int) × Int) (l : List Int) : Option (List Int) × Int :=
  cond (b.1.isSome && decide ((b.1.getD []).length ≤ l.length)) b (match fi c l 0 c.2.1 with
    | some i => (some l, i)
    | none => b)
def frR (b : Option (List Int) × Int) : List Int × Int × Int := match b.1 with
  | some l => (l, b.2, 0)
  | none => ([], 0, 5)
def frA (c : Cd) (s : Int) : Option (List Int) × Int := (co c.2.1.length s.toNat).foldl (frS c) (none, 0)
def B34 (c : Cd) (s : Int) : Option (List Int × Int × Int) := if smB c = true then some (cond (decide (cdE c = 0)) (cond (decide (1 ≤ s ∧ s ≤ 10)) (frR (frA c s)) ([], 0, 4)) ([], 0, cdE c)) else none
theorem wE_of {c : Cd} (h : cdE c = 0) {w : List Int} (hw : w ∈ c.2.1) : wE c w = 0 := by
  obtain ⟨hm, _, _, hlen, hb⟩ := cdE_ok h
  rw [wE, decide_eq_true (hlen w hw), cond_true]
  have : w.any (outM c.1) = false := List.any_eq_false.2 fun m hmm => by
    have := hb w hw m hmm
    simp only [outM, Bool.not_eq_true, Bool.not_eq_false', decide_eq_true_eq]
    rw [w64_small (by omega)]; omega
  rw [this]; rfl
theorem okC_word {c : Cd} (h : cdE c = 0) {w x : List Int} (hw : w ∈ c.2.1) {k : Nat} (hx : isCo c.2.1.length k x) : okC c x w = true :=
  okC_co (by rw [cwE, decide_eq_true h, cond_true]; exact wE_of h hw) hx
theorem KB34 : FnOk Tryd.prog 34 (F34 B34) := ok34 B22 B59 B62 B67 B68 B75 KB22 KB59 KB62 KB67 KB68 KB75 B34 fun c z r h => ⟨1001, by
  simp only [B34] at h
  split at h
  · rename_i hs
    obtain ⟨h1, h2⟩ := smB_at hs
    rw [← h, m34, B22, if_pos hs, Option.bind_some, bneDec]
    cases e : decide (cdE c = 0) with
    | false => rfl
    | true =>
      have h0 := of_decide_eq_true e
      have hn := (cdE_ok h0).2.1
      simp only [Bool.not_true, cond_false, cond_true, B62, Option.bind_some]
      cases e2 : decide (1 ≤ z ∧ z ≤ 10) with
      | false => rfl
      | true =>
        have hz := of_decide_eq_true e2
        simp only [Bool.not_true, cond_false, cond_true, B67, Option.bind_some]
        rw [chk_dec (by omega), gr_co]
        have key : ∀ (l : List (List Int)) (b : Option (List Int)) (q : Int), (∀ x ∈ l, isCo c.2.1.length z.toNat x) → l34a B22 B59 B62 B67 B68 B75 1001 c (cdE c) (z, c) l b q = some (frR (l.foldl (frS c) (b, q))) := by
          intro l
          induction l with
          | nil => intro b q _; cases b <;> rfl
          | cons x r ih =>
            intro b q hl
            have hx := hl x (by simp)
            have hxl := isCo_len hx
            have hpos : 0 < x.length := by
              have := hx.1
              cases x with
              | nil => exact absurd rfl this
              | cons _ _ => simp
            have hr := fun b q => ih b q fun y hy => hl y (by simp [hy])
            have inner : l34b B22 B59 B62 B67 B68 B75 1001 c b q x (fun y0 y1 => l34a B22 B59 B62 B67 B68 B75 1001 c (cdE c) (z, c) r y0 y1) 1001 0 = some (frR (r.foldl (frS c) (match fi c x 0 c.2.1 with | some i => (some x, i) | none => (b, q)))) := by
              refine (rangeIx c.2.1 [] (fun n (_ : Unit) t => l34b B22 B59 B62 B67 B68 B75 1001 c b q x (fun y0 y1 => l34a B22 B59 B62 B67 B68 B75 1001 c (cdE c) (z, c) r y0 y1) n t) (fun _ _ _ => True)
                (fun t xs _ => some (frR (r.foldl (frS c) (match fi c x t xs with | some i => (some x, i) | none => (b, q))))) (fun n _ t w rest ht hw _ ihn => ?_) (fun n _ _ => ?_) 1001 () (by omega) trivial)
              · have hwm : w ∈ c.2.1 := hw ▸ getD_mem ht
                have e75 : B75 x (t : Int) = some (decide ((t : Int) ∈ x)) := if_pos (by omega)
                have e59 : B59 c x w = some (mk c x w) := if_pos (okC_word h0 hwm hx)
                simp only [l34b, ixA ht, ixB ht, cond_true, chk_true, Int.toNat_natCast, hw, ixW ht (by omega), ihn () trivial, e75, Option.bind_some, fi]
                cases decide ((t : Int) ∈ x) with
                | true => rfl
                | false =>
                  simp only [Bool.not_false, cond_true, e59, Option.bind_some, Bool.true_and]
                  cases mk c x w with
                  | false => rfl
                  | true =>
                    simp only [cond_true]
                    rw [chk_of (by simp only [Bool.and_true, decide_eq_true_eq]; exact hpos)]
                    simp only [B68, if_pos (show x.length ≤ 1000 by omega), Option.bind_some]
                    rw [chk_dec hpos, hr]
              · simp only [l34b, ixE, cond_false, fi]
                exact hr b q
            rw [List.foldl_cons]
            cases b with
            | none =>
              rw [l34a]
              exact inner
            | some y =>
              rw [l34a]
              simp only [Option.isNone_some, Bool.not_false, cond_true, Option.getD_some]
              rw [show decide ((x.length : Int) ≥ (y.length : Int)) = decide (y.length ≤ x.length) from decide_eq_decide.2 (by omega)]
              show _ = some (frR (r.foldl (frS c) (cond (true && decide (y.length ≤ x.length)) (some y, q) _)))
              rw [Bool.true_and]
              cases decide (y.length ≤ x.length) with
              | true => exact hr (some y) q
              | false => exact inner
        exact (key _ none 0 fun x hx => co_mem.1 hx).trans rfl
  · cases h⟩
end Go.Proofs.YtbjfbbfglkmadaaDoor
