/-
  The reference: all coalitions.
-/
import Derived.Test.YtbjfbbfglkmadaaDoorM5
import Derived.Test.YtbjfbbfglkmadaaDoorRC
namespace Go.Proofs.YtbjfbbfglkmadaaDoor
open Go.RowKit
set_option linter.unusedVariables false

def B77 (a b : List Int) : Option Bool := if a.length ≤ 1000 ∧ b.length ≤ 1000 then some (bf a b) else none
theorem ltDec (a b : Nat) : decide ((a : Int) < (b : Int)) = decide (a < b) := decide_eq_decide.2 (by omega)
theorem KB77 : FnOk Tryd.prog 77 (F77 B77) := ok77 B77 fun a b r h => ⟨1001, by
  simp only [B77] at h
  split at h
  · rename_i hl
    rw [← h, m77]
    refine (rangeIx a 0 (fun n (_ : Unit) t => l77a 1001 a b n t) (fun t rest _ => rest.length = a.length - t ∧ t ≤ b.length) (fun t xs _ => some (bf xs (b.drop t))) (fun n _ t x rest ht hx hI ih => ?_)
      (fun n _ hI => ?_) 1001 () (by omega) ⟨rfl, Nat.zero_le _⟩).trans (by rw [List.drop_zero])
    · by_cases hb : t < b.length
      · simp only [l77a, ixA ht, ixB ht, ixA hb, ixB hb, cond_true, chk_true, Int.toNat_natCast, ixW ht (by omega), hx, bneDec]
        rw [drop_cons' (d := 0) hb, bf]
        cases e : decide (x = b.getD t 0) with
        | false => rfl
        | true =>
          simp only [Bool.not_true, cond_false, cond_true]
          exact ih () ⟨by simp only [List.length_cons] at hI; omega, hb⟩
      · have hbt : b.length = t := by omega
        simp only [l77a, ixA ht, cond_true]
        rw [decide_eq_false (show ¬ (t : Int) < (b.length : Int) by omega), cond_false, ltDec, decide_eq_false (by omega), ← hbt, List.drop_length]
        rfl
    · simp only [l77a, ixE, cond_false, ltDec]
      cases hd : b.drop a.length with
      | nil =>
        have := congrArg List.length hd
        simp only [List.length_drop, List.length_nil] at this
        rw [decide_eq_false (by omega)]; rfl
      | cons y s =>
        have := congrArg List.length hd
        simp only [List.length_drop, List.length_cons] at this
        rw [decide_eq_true (by omega)]; rfl
  · cases h⟩
theorem getD_mid {α : Type} {d x : α} : ∀ (P S : List α), (P ++ x :: S).getD P.length d = x
  | [], S => rfl
  | p :: P, S => by rw [List.cons_append, List.length_cons, List.getD_cons_succ]; exact getD_mid P S
theorem set_swap {α : Type} {p x : α} : ∀ (P S : List α), ((P ++ p :: x :: S).set (P.length + 1) p).set P.length x = P ++ x :: p :: S
  | [], S => rfl
  | q :: P, S => by
    rw [List.cons_append, List.length_cons, List.set_cons_succ, List.set_cons_succ, set_swap P S]; rfl
theorem bs_succ (n s : Nat) : bs (n + 1) s = bs n s ++ (if s.testBit n then [(n : Int)] else []) := by
  unfold bs
  rw [List.range_succ, List.filter_append, List.map_append]
  congr 1
  simp only [List.filter_cons, List.filter_nil]
  cases s.testBit n <;> rfl
def B69 (c : Cd) (s : Int) : Option (List (List Int)) := if c.2.1.length ≤ 10 then some (co c.2.1.length s.toNat) else none
theorem KB69 : FnOk Tryd.prog 69 (F69 B69) := ok69 B77 KB77 B69 fun c z r h => ⟨2001, by
  simp only [B69] at h
  split at h
  · rename_i hn
    have hp : 2 ^ c.2.1.length ≤ 1024 := Nat.pow_le_pow_right (show 0 < 2 by decide) hn
    rw [← h, m69]
    generalize hN : c.2.1.length = n at *
    refine countP' 1 ((2 ^ n : Nat) : Int) (by have := Nat.two_pow_pos n; omega) (fun m o t => l69a B77 2001 c z m t o) (fun t o => o.Pairwise (fun a b => bf a b = true) ∧ (o.length : Int) < t ∧ (∀ x ∈ o, x.length ≤ 10) ∧ ∀ x, x ∈ o ↔ ∃ s : Nat, 1 ≤ s ∧ (s : Int) < t ∧ bs n s = x ∧ x.length ≤ z.toNat)
      (fun r => r = some (co n z.toNat)) (fun m o t h1 h2 hI ih => ?_) (fun m o hI => ?_) 2001 [] (by omega) ⟨.nil, by simp, fun x hx => by simp at hx, fun x => by
        simp only [List.not_mem_nil, false_iff]
        rintro ⟨s, h1, h2, _⟩; omega⟩
    · obtain ⟨s, rfl⟩ : ∃ s : Nat, t = s := ⟨t.toNat, by omega⟩
      obtain ⟨i1, i2, i2b, i3⟩ := hI
      have hs : s < 2 ^ n := by omega
      have hw : IntKind.wrap .i64 (1 * 2 ^ min (Int.toNat ((n : Nat) : Int)) 64) = ((2 ^ n : Nat) : Int) := one_i64 (by omega)
      have hne : bs n s ≠ [] := fun q => by have := (bs_nil hs).1 q; omega
      have hbl : (bs n s).length ≤ 10 := by
        have := rise_len (lo := 0) (N := n) (bs_rise n s) fun e he => by have := bs_mem.1 he; omega
        omega
      simp only [l69a, hN, chk_dec (show 0 ≤ (n : Int) by omega), hw, decide_eq_true h2, cond_true]
      -- the members of the set
      refine countP' 0 (n : Int) (by omega) (fun m' l i => l69b B77 2001 c z (s : Int) o (fun y0 y1 => l69a B77 2001 c z m y0 y1) m' i l) (fun i l => l = bs i.toNat s) (fun r => r = some (co n z.toNat)) (fun m' l i h3 h4 hl ih' => ?_) (fun m' l hl => ?_) 2001 [] (by omega) rfl
      · obtain ⟨i, rfl⟩ : ∃ j : Nat, i = j := ⟨i.toNat, by omega⟩
        rw [Int.toNat_natCast] at hl
        have hil : i < n := by omega
        have hll : l.length ≤ i := by
          have := rise_len (lo := 0) (N := i) (bs_rise i s) fun e he => by have := bs_mem.1 he; omega
          rw [hl]; omega
        have hb := bit_i64 (s := s) (c := i) (by omega) (by omega)
        simp only [l69b, hN, decide_eq_true h4, cond_true, chk_dec (show 0 ≤ (i : Int) by omega), hb, ixW hil (by omega)]
        have e1 := bs_succ i s
        have ih2 := ih' (l ++ (if s.testBit i then [(i : Int)] else [])) (by rw [show ((i : Int) + 1).toNat = i + 1 by omega, e1, hl])
        rw [show ((i : Int) + 1) = ((i + 1 : Nat) : Int) by omega] at ih2
        cases hbt : s.testBit i with
        | true =>
          rw [hbt, if_pos rfl] at ih2
          rw [cond_true, chk_of (small_of (by omega) (by decide))]; exact ih2
        | false =>
          rw [hbt, if_neg (by simp), List.append_nil] at ih2
          rw [cond_false]; exact ih2
      · rw [Int.toNat_natCast] at hl
        subst hl
        simp only [l69b, hN, decide_eq_false (Int.lt_irrefl _), cond_false]
        have hpos : 0 < (bs n s).length := by
          cases hq : bs n s with
          | nil => exact absurd hq hne
          | cons _ _ => simp
        rw [w64_small (x := (s : Int) + 1) (by omega)]
        by_cases hlz : (bs n s).length ≤ z.toNat
        · rw [decide_eq_false (show ¬ ((bs n s).length : Int) > z by omega), cond_false, chk_of (small_of (by omega) (by decide))]
          -- sink
          have hnot : bs n s ∉ o := fun hm => by
            obtain ⟨s', q1, q2, q3, _⟩ := (i3 _).1 hm
            have e1 := num_bs (N := n) (s := s') (by omega)
            rw [q3, num_bs hs] at e1
            omega
          have done : ∀ o' : List (List Int), o'.Pairwise (fun a b => bf a b = true) → o'.length = o.length + 1 → (∀ y, y ∈ o' ↔ y = bs n s ∨ y ∈ o) → l69a B77 2001 c z m ((s : Int) + 1) o' = some (co n z.toNat) := fun o' p1 p2 p3 => by
            refine ih o' ⟨p1, by omega, fun x hx => ?_, fun x => ?_⟩
            · rcases (p3 x).1 hx with rfl | hx
              · exact hbl
              · exact i2b x hx
            · rw [p3, i3]
              constructor
              · rintro (rfl | ⟨s', q1, q2, q3, q4⟩)
                · exact ⟨s, by omega, by omega, rfl, hlz⟩
                · exact ⟨s', q1, by omega, q3, q4⟩
              · rintro ⟨s', q1, q2, q3, q4⟩
                by_cases e : s' = s
                · subst e; exact .inl q3.symm
                · exact .inr ⟨s', q1, by omega, q3, q4⟩
          have sink : ∀ (P S : List (List Int)) (m' : Nat), P.length < m' → P ++ S = o → (∀ y ∈ S, bf (bs n s) y = true) → l69c B77 2001 c z (s : Int) (fun y0 y1 => l69a B77 2001 c z m y0 y1) m' (P.length : Int) (P ++ bs n s :: S) = some (co n z.toNat) := by
            intro P
            induction hk : P.length generalizing P with
            | zero =>
              intro S m' hm hPS hS
              have hP : P = [] := List.eq_nil_of_length_eq_zero hk
              subst hP
              obtain ⟨m2, rfl⟩ : ∃ j, m' = j + 1 := ⟨m' - 1, by omega⟩
              rw [List.nil_append] at hPS
              subst hPS
              simp only [l69c, show decide (((0 : Nat) : Int) > 0) = false from rfl, cond_false, List.nil_append]
              rw [w64_small (x := (s : Int) + 1) (by omega)]
              exact done _ (List.pairwise_cons.2 ⟨hS, i1⟩) (by simp) fun y => by simp
            | succ k ihk =>
              intro S m' hm hPS hS
              obtain ⟨m2, rfl⟩ : ∃ j, m' = j + 1 := ⟨m' - 1, by omega⟩
              obtain ⟨P', p, rfl⟩ : ∃ P' p, P = P' ++ [p] := ⟨P.dropLast, P.getLast (fun q => by rw [q] at hk; cases hk), (List.dropLast_concat_getLast _).symm⟩
              have hk' : P'.length = k := by simpa using hk
              have hpo : p ∈ o := by rw [← hPS]; simp
              have ho : o.length = k + 1 + S.length := by rw [← hPS, List.length_append, hk]
              have eo : P' ++ [p] ++ bs n s :: S = P' ++ p :: bs n s :: S := by simp
              have g1 : (P' ++ p :: bs n s :: S).getD (k + 1) [] = bs n s := by
                have := getD_mid (d := ([] : List Int)) (x := bs n s) (P' ++ [p]) S
                rwa [eo, List.length_append, hk'] at this
              have g2 : (P' ++ p :: bs n s :: S).getD k [] = p := by rw [← hk']; exact getD_mid P' _
              have hlen : (P' ++ p :: bs n s :: S).length = k + 2 + S.length := by simp; omega
              have e77 : B77 (bs n s) p = some (bf (bs n s) p) := if_pos ⟨by omega, by have := i2b p hpo; omega⟩
              rw [eo]
              simp only [l69c, show decide (((k + 1 : Nat) : Int) > 0) = true from decide_eq_true (by omega), cond_true]
              rw [w64_small (x := ((k + 1 : Nat) : Int) - 1) (by omega), show (((k + 1 : Nat) : Int) - 1) = (k : Int) by omega]
              simp only [Int.toNat_natCast, g1, g2, hlen, List.length_set, e77, Option.bind_some]
              rw [chk_dec (by omega), chk_dec (by omega)]
              cases hb : bf (bs n s) p with
              | true =>
                rw [cond_true, chk_dec (by omega), chk_dec (by omega), chk_dec (by omega), chk_dec (by omega)]
                have hsw := set_swap (p := p) (x := bs n s) P' S
                rw [hk'] at hsw
                rw [hsw]
                have := ihk P' hk' (p :: S) m2 (by omega) (by rw [← hPS]; simp) fun y hy => by
                  rcases List.mem_cons.1 hy with rfl | hy
                  · exact hb
                  · exact hS y hy
                exact this
              | false =>
                rw [cond_false]
                rw [w64_small (x := (s : Int) + 1) (by omega)]
                have hpx : bf p (bs n s) = true := by
                  rcases bf_tri p (bs n s) with e | e | e
                  · exact absurd (e ▸ hpo) hnot
                  · exact e
                  · rw [hb] at e; cases e
                have i1' := i1
                rw [← hPS, List.pairwise_append] at i1'
                have i1P := List.pairwise_append.1 i1'.1
                refine done _ ?_ (by rw [hlen, ho]; omega) fun y => ?_
                · rw [← eo, List.pairwise_append]
                  refine ⟨i1'.1, List.pairwise_cons.2 ⟨hS, i1'.2.1⟩, fun a ha b hb' => ?_⟩
                  rcases List.mem_cons.1 hb' with rfl | hb'
                  · rcases List.mem_append.1 ha with ha | ha
                    · exact bf_trans (i1P.2.2 a ha p (by simp)) hpx
                    · rw [List.mem_singleton.1 ha]; exact hpx
                  · exact i1'.2.2 a ha b hb'
                · rw [← hPS]
                  simp only [List.mem_append, List.mem_cons, List.not_mem_nil, or_false]
                  constructor
                  · rintro (h | h | h | h)
                    · exact .inr (.inl (.inl h))
                    · exact .inr (.inl (.inr h))
                    · exact .inl h
                    · exact .inr (.inr h)
                  · rintro (h | (h | h) | h)
                    · exact .inr (.inr (.inl h))
                    · exact .inl h
                    · exact .inr (.inl h)
                    · exact .inr (.inr (.inr h))
          rw [List.length_append, List.length_singleton, w64_small (by omega), show (((o.length + 1 : Nat) : Int) - 1) = (o.length : Int) by omega]
          exact sink o [] 2001 (by omega) (List.append_nil o) fun y hy => by cases hy
        · rw [decide_eq_true (show ((bs n s).length : Int) > z by omega), cond_true]
          refine ih o ⟨i1, by omega, i2b, fun x => ?_⟩
          rw [i3]
          constructor
          · rintro ⟨s', q1, q2, q3, q4⟩; exact ⟨s', q1, by omega, q3, q4⟩
          · rintro ⟨s', q1, q2, q3, q4⟩
            by_cases e : s' = s
            · subst e; rw [q3] at hlz; exact absurd q4 hlz
            · exact ⟨s', q1, by omega, q3, q4⟩
    · obtain ⟨i1, i2, i2b, i3⟩ := hI
      have hw : IntKind.wrap .i64 (1 * 2 ^ min (Int.toNat ((n : Nat) : Int)) 64) = ((2 ^ n : Nat) : Int) := one_i64 (by omega)
      simp only [l69a, hN, chk_dec (show 0 ≤ (n : Int) by omega), hw, decide_eq_false (Int.lt_irrefl _), cond_false]
      refine congrArg some (co_eq i1 fun x => ?_)
      rw [i3]
      constructor
      · rintro ⟨s, q1, q2, q3, q4⟩
        rw [← q3]
        exact (isCo_bs (by omega) (by omega)).2 (by rw [q3]; exact q4)
      · intro hx
        obtain ⟨s, q1, q2, q3, q4⟩ := co_bs hx
        exact ⟨s, q1, by omega, q3, q4⟩
  · cases h⟩
end Go.Proofs.YtbjfbbfglkmadaaDoor
