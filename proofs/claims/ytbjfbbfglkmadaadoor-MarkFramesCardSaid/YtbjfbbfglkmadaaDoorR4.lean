/-
  The reference: who is framed.
-/
import Derived.Test.YtbjfbbfglkmadaaDoorR2
import Derived.Test.YtbjfbbfglkmadaaDoorR3
import Derived.Test.YtbjfbbfglkmadaaDoorM6
import Derived.Test.YtbjfbbfglkmadaaDoorRE
namespace Go.Proofs.YtbjfbbfglkmadaaDoor
open Go.RowKit
set_option linter.unusedVariables false

theorem KB76 : FnOk Tryd.prog 76 (F76 B75) := ok76 B75 fun s v r h => ⟨1001, by
  simp only [B75] at h
  split at h
  · rename_i hl
    rw [← h, m76, ← any_mem]
    exact rangeInd s 0 (fun n (_ : Unit) t => l76a 1001 s v n t) (fun xs _ => some (xs.any fun x => v == x))
      (fun n _ t x rest ht hx ih => by
        simp only [l76a, ixA ht, ixB ht, cond_true, chk_true, Int.toNat_natCast, ixW ht (by omega), hx, ih (), List.any_cons]
        rw [show (x == v) = (v == x) from BEq.comm]
        cases (v == x) <;> rfl)
      (fun n _ => by simp only [l76a, ixE, cond_false]; rfl) 1001 () (by omega)
  · cases h⟩

def toB (s : List Int × Int) : Option (List Int) × Int := (match s.1 with | [] => none | y :: r => some (y :: r), s.2)
def okI (c : Cd) (x : List Int) (k : Nat) : Bool := !decide ((k : Int) ∈ x) && mk c x (c.2.1.getD k [])
theorem fi_drop {c : Cd} {x : List Int} {k : Nat} (h : k < c.2.1.length) : fi c x k (c.2.1.drop k) = cond (okI c x k) (some (k : Int)) (fi c x (k + 1) (c.2.1.drop (k + 1))) := by
  rw [drop_cons' (d := []) h]; rfl
theorem KB35 : FnOk Tryd.prog 35 (F35 B34) := ok35 B22 B59 B65 B69 B75 B77 KB23 KB61 KB65 KB69 KB76 KB77 B34 fun c z r h => ⟨2001, by
  simp only [B34] at h
  split at h
  · rename_i hs
    obtain ⟨h1, h2⟩ := smB_at hs
    rw [← h, m35, B22, if_pos hs, Option.bind_some]
    simp only [beqDec, bneDec]
    cases e : decide (cdE c = 0) with
    | false => rfl
    | true =>
      have h0 := of_decide_eq_true e
      have hn := (cdE_ok h0).2.1
      simp only [Bool.not_true, cond_false, cond_true, B65, Option.bind_some]
      cases e2 : decide (1 ≤ z ∧ z ≤ 10) with
      | false => rfl
      | true =>
        have hz := of_decide_eq_true e2
        have e69 : B69 c z = some (co c.2.1.length z.toNat) := if_pos hn.2
        simp only [Bool.not_true, cond_false, cond_true, e69, Option.bind_some]
        have hsort := co_sorted c.2.1.length z.toNat
        have hlen : (co c.2.1.length z.toNat).length ≤ 1024 := co_len hn.2
        generalize hL : co c.2.1.length z.toNat = L at *
        have hco : ∀ x ∈ L, isCo c.2.1.length z.toNat x := fun x hx => co_mem.1 (by rw [hL]; exact hx)
        unfold frA
        rw [hL]
        refine (rangeIx L [] (fun n (s : List Int × Int) t => l35a B22 B59 B65 B69 B75 B77 2001 c n s.1 s.2 L t) (fun t rest s => rest = L.drop t ∧ s.1.length ≤ 10 ∧ (s.1 = [] ∨ ∀ x ∈ rest, bf s.1 x = true)) (fun _ xs s => some (frR (xs.foldl (frS c) (toB s)))) (fun n s t x rest ht hx hI ih => ?_)
          (fun n s _ => ?_) 2001 ([], 0) (by omega) ⟨rfl, by simp, .inl rfl⟩).trans rfl
        · obtain ⟨i1, i2, i3⟩ := hI
          obtain ⟨b, q⟩ := s
          simp only at i2 i3
          have hxL : x ∈ L := hx ▸ getD_mem ht
          have hxc := hco x hxL
          have hxl := isCo_len hxc
          have hxne : x ≠ [] := hxc.1
          have hrest : rest = L.drop (t + 1) := by
            have := congrArg List.tail i1
            rwa [List.tail_cons, List.tail_drop] at this
          have hxr : ∀ y ∈ rest, bf x y = true := by
            have hs2 : (L.drop t).Pairwise (fun a b => bf a b = true) := hsort.sublist (List.drop_sublist _ _)
            rw [← i1] at hs2
            exact (List.pairwise_cons.1 hs2).1
          have rec' : ∀ s' : List Int × Int, s'.1.length ≤ 10 → (s'.1 = [] ∨ ∀ y ∈ rest, bf s'.1 y = true) → l35a B22 B59 B65 B69 B75 B77 2001 c n s'.1 s'.2 L (w64 ((t : Int) + 1)) = some (frR (rest.foldl (frS c) (toB s'))) := fun s' a b => by
            rw [ixW ht (by omega)]; exact ih s' ⟨hrest, a, b⟩
          have step : ∀ (n2 k : Nat) (b' : List Int) (q' : Int), k < c.2.1.length → b'.length ≤ 10 → l35b B22 B59 B65 B69 B75 B77 2001 c L (t : Int) (fun y0 y1 y2 y3 => l35a B22 B59 B65 B69 B75 B77 2001 c n y0 y1 y2 y3) (n2 + 1) b' q' (k : Int) =
              cond (okI c x k && (decide (b'.length = 0) || (decide (x.length < b'.length) || !bf b' x)))
                (l35b B22 B59 B65 B69 B75 B77 2001 c L (t : Int) (fun y0 y1 y2 y3 => l35a B22 B59 B65 B69 B75 B77 2001 c n y0 y1 y2 y3) n2 x (k : Int) ((k : Int) - 1))
                (l35b B22 B59 B65 B69 B75 B77 2001 c L (t : Int) (fun y0 y1 y2 y3 => l35a B22 B59 B65 B69 B75 B77 2001 c n y0 y1 y2 y3) n2 b' q' ((k : Int) - 1)) := fun n2 k b' q' hk hb' => by
            have e75 : B75 x (k : Int) = some (decide ((k : Int) ∈ x)) := if_pos (by omega)
            have e59 : B59 c x (c.2.1.getD k []) = some (mk c x (c.2.1.getD k [])) := if_pos (okC_word h0 (getD_mem hk) hxc)
            have e77 : B77 b' x = some (bf b' x) := if_pos ⟨by omega, by omega⟩
            simp only [l35b, decide_eq_true (show (k : Int) ≥ 0 by omega), cond_true, ixB ht, ixB hk, chk_true, Int.toNat_natCast, hx, e75, Option.bind_some, okI, w64_small (x := (k : Int) - 1) (by omega)]
            cases decide ((k : Int) ∈ x) with
            | true => rfl
            | false =>
              simp only [Bool.not_false, cond_true, e59, Option.bind_some, Bool.true_and]
              cases mk c x (c.2.1.getD k []) with
              | false => rfl
              | true =>
                rw [cond_true, Bool.true_and, lenEq0]
                cases decide (b'.length = 0) with
                | true => rfl
                | false =>
                  rw [cond_false, Bool.false_or, ltDec]
                  cases decide (x.length < b'.length) with
                  | true => rfl
                  | false =>
                    simp only [cond_false, Bool.false_or, e77, Option.bind_some]
          have stop : ∀ (n2 : Nat) (b' : List Int) (q' : Int), l35b B22 B59 B65 B69 B75 B77 2001 c L (t : Int) (fun y0 y1 y2 y3 => l35a B22 B59 B65 B69 B75 B77 2001 c n y0 y1 y2 y3) (n2 + 1) b' q' (((0 : Nat) : Int) - 1) = l35a B22 B59 B65 B69 B75 B77 2001 c n b' q' L (w64 ((t : Int) + 1)) := fun n2 b' q' => by
            simp only [l35b, show decide ((((0 : Nat) : Int) - 1) ≥ 0) = false from rfl, cond_false]
          simp only [l35a, ixA ht, cond_true]
          rw [w64_small (x := (c.2.1.length : Int) - 1) (by omega), List.foldl_cons]
          have hcase : frS c (toB (b, q)) x = cond (decide (b.length ≠ 0) && decide (b.length ≤ x.length)) (toB (b, q)) (match fi c x 0 c.2.1 with | some i => (some x, i) | none => toB (b, q)) := by
            cases b <;> rfl
          rw [hcase]
          by_cases hc0 : b.length ≠ 0 ∧ b.length ≤ x.length
          · -- nothing better
            rw [decide_eq_true hc0.1, decide_eq_true hc0.2]
            have hbx : bf b x = true := by
              rcases i3 with h | h
              · rw [h] at hc0; exact absurd rfl hc0.1
              · exact h x (by simp)
            have no : (decide (b.length = 0) || (decide (x.length < b.length) || !bf b x)) = false := by
              rw [decide_eq_false hc0.1, decide_eq_false (by omega), hbx]; rfl
            have main : ∀ (k n2 : Nat), k ≤ c.2.1.length → k < n2 → l35b B22 B59 B65 B69 B75 B77 2001 c L (t : Int) (fun y0 y1 y2 y3 => l35a B22 B59 B65 B69 B75 B77 2001 c n y0 y1 y2 y3) n2 b q ((k : Int) - 1) = l35a B22 B59 B65 B69 B75 B77 2001 c n b q L (w64 ((t : Int) + 1)) := by
              intro k
              induction k with
              | zero => intro n2 _ h; obtain ⟨n3, rfl⟩ : ∃ j, n2 = j + 1 := ⟨n2 - 1, by omega⟩; exact stop n3 b q
              | succ k ihk =>
                intro n2 hk h
                obtain ⟨n3, rfl⟩ : ∃ j, n2 = j + 1 := ⟨n2 - 1, by omega⟩
                rw [show ((k + 1 : Nat) : Int) - 1 = (k : Int) by omega, step n3 k b q (by omega) i2, no, Bool.and_false, cond_false]
                exact ihk n3 (by omega) (by omega)
            rw [main _ 2001 (Nat.le_refl _) (by omega)]
            exact rec' (b, q) i2 (i3.imp id fun h y hy => h y (by simp [hy]))
          · have hc1 : (decide (b.length ≠ 0) && decide (b.length ≤ x.length)) = false := by
              rw [← Bool.decide_and]; exact decide_eq_false hc0
            rw [hc1, cond_false]
            have yes : (decide (b.length = 0) || (decide (x.length < b.length) || !bf b x)) = true := by
              by_cases q0 : b.length = 0
              · rw [decide_eq_true q0]; rfl
              · rw [decide_eq_false q0, decide_eq_true (show x.length < b.length by omega)]; rfl
            have yesx : (decide (x.length = 0) || (decide (x.length < x.length) || !bf x x)) = true := by
              rw [bf_irr]; simp
            let st : Nat → List Int × Int := fun k => match fi c x k (c.2.1.drop k) with | some i => (x, i) | none => (b, q)
            have main : ∀ (k n2 : Nat), k ≤ c.2.1.length → k < n2 → l35b B22 B59 B65 B69 B75 B77 2001 c L (t : Int) (fun y0 y1 y2 y3 => l35a B22 B59 B65 B69 B75 B77 2001 c n y0 y1 y2 y3) n2 (st k).1 (st k).2 ((k : Int) - 1) = l35a B22 B59 B65 B69 B75 B77 2001 c n (st 0).1 (st 0).2 L (w64 ((t : Int) + 1)) := by
              intro k
              induction k with
              | zero => intro n2 _ h; obtain ⟨n3, rfl⟩ : ∃ j, n2 = j + 1 := ⟨n2 - 1, by omega⟩; exact stop n3 _ _
              | succ k ihk =>
                intro n2 hk h
                obtain ⟨n3, rfl⟩ : ∃ j, n2 = j + 1 := ⟨n2 - 1, by omega⟩
                have hkl : k < c.2.1.length := by omega
                have hst : st k = cond (okI c x k) (x, (k : Int)) (st (k + 1)) := by
                  show (match fi c x k (c.2.1.drop k) with | some i => (x, i) | none => (b, q)) = _
                  rw [fi_drop hkl]
                  cases okI c x k <;> rfl
                have hl1 : (st (k + 1)).1.length ≤ 10 := by
                  show (match fi c x (k + 1) (c.2.1.drop (k + 1)) with | some i => (x, i) | none => (b, q)).1.length ≤ 10
                  cases fi c x (k + 1) (c.2.1.drop (k + 1)) with
                  | none => exact i2
                  | some i => show x.length ≤ 10; omega
                have hup : (decide ((st (k + 1)).1.length = 0) || (decide (x.length < (st (k + 1)).1.length) || !bf (st (k + 1)).1 x)) = true := by
                  show (decide ((match fi c x (k + 1) (c.2.1.drop (k + 1)) with | some i => (x, i) | none => (b, q)).1.length = 0) || (decide (x.length < (match fi c x (k + 1) (c.2.1.drop (k + 1)) with | some i => (x, i) | none => (b, q)).1.length) || !bf (match fi c x (k + 1) (c.2.1.drop (k + 1)) with | some i => (x, i) | none => (b, q)).1 x)) = true
                  cases fi c x (k + 1) (c.2.1.drop (k + 1)) with
                  | none => exact yes
                  | some i => exact yesx
                have ihk' := ihk n3 (by omega) (by omega)
                rw [hst] at ihk'
                rw [show ((k + 1 : Nat) : Int) - 1 = (k : Int) by omega, step n3 k _ _ hkl hl1, hup, Bool.and_true]
                cases hok : okI c x k with
                | true => rw [hok] at ihk'; exact ihk'
                | false => rw [hok] at ihk'; exact ihk'
            have hstn : st c.2.1.length = (b, q) := by
              show (match fi c x c.2.1.length (c.2.1.drop c.2.1.length) with | some i => (x, i) | none => (b, q)) = _
              rw [List.drop_length]; rfl
            have m1 := main c.2.1.length 2001 (Nat.le_refl _) (by omega)
            rw [hstn] at m1
            rw [m1]
            have hst0 : toB (st 0) = (match fi c x 0 c.2.1 with | some i => (some x, i) | none => toB (b, q)) := by
              show toB (match fi c x 0 (c.2.1.drop 0) with | some i => (x, i) | none => (b, q)) = _
              rw [List.drop_zero]
              cases fi c x 0 c.2.1 with
              | none => rfl
              | some i =>
                cases x with
                | nil => exact absurd rfl hxne
                | cons _ _ => rfl
            rw [← hst0]
            have : (st 0).1 = x ∨ (st 0).1 = b := by
              show (match fi c x 0 (c.2.1.drop 0) with | some i => (x, i) | none => (b, q)).1 = x ∨ (match fi c x 0 (c.2.1.drop 0) with | some i => (x, i) | none => (b, q)).1 = b
              cases fi c x 0 (c.2.1.drop 0) with
              | none => exact .inr rfl
              | some i => exact .inl rfl
            refine rec' (st 0) ?_ ?_
            · rcases this with h | h <;> rw [h] <;> omega
            · rcases this with h | h
              · rw [h]; exact .inr hxr
              · rw [h]; exact i3.imp id fun h y hy => h y (by simp [hy])
        · obtain ⟨b, q⟩ := s
          simp only [l35a, ixE, cond_false, List.foldl_nil]
          cases b with
          | nil => rfl
          | cons y r =>
            rw [lenEq0, List.length_cons]
            rfl
  · cases h⟩

end Go.Proofs.YtbjfbbfglkmadaaDoor
