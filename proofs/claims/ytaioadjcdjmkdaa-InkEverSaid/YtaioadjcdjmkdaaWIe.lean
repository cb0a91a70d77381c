/-
  The law InkEver returns true and turns nothing that was there.
-/
import Derived.Test.YtaioadjcdjmkdaaJ18
import Derived.Test.YtaioadjcdjmkdaaQM10
import Derived.Test.YtaioadjcdjmkdaaRows
import Derived.Test.YtaioadjcdjmkdaaEN
import Derived.WalkKit
import Derived.ProofKit
import Derived.OpenShut
import Derived.ChangeOld
import Derived.Below
namespace Go.Proofs.Ytaioadjcdjmkdaa.inkEver
open Go.RowKit Go.ChangeShapes Go.WideShapes Go.ChangeAt
set_option linter.unusedVariables false
theorem mkP_small (e : Pal) : (mkP e).2.1.length ≤ 3 ∧ (mkP e).1.toNat ≤ 5 := by
  rw [mkP_n]
  refine ⟨?_, by unfold mkN; omega⟩
  show (mkInks e).length ≤ 3
  unfold mkInks
  split
  · simp
  · simp only [List.length_map, List.length_take]; omega
def B10 (e : Pal) (col list : Int) : Option Bool := if okE e = true ∧ (0 ≤ col ∧ col < 256) ∧ 0 ≤ list ∧ list < 256 then some true else none
theorem KB10 : FnOk Try.prog 10 (F10 B10) := ok10 (some true) B29 B31 B35 B41 B46e K16t KB29 KB31 KB35 KB41 KB46e B10 fun e col list r h => by
  simp only [B10] at h
  split at h
  · rename_i hf
    obtain ⟨he, ⟨hc0, hc1⟩, hl0, hl1⟩ := hf
    obtain ⟨N, hN⟩ : ∃ N, 1000 < N := ⟨1001, by omega⟩
    refine ⟨N, ?_⟩
    have hp := mkP_ok e
    have hsm := mkP_small e
    rw [← h, m10, B41, if_pos he, Option.bind_some]
    generalize mkP e = p at *
    obtain ⟨n2, n7, hn⟩ := nat7 hp
    have h7 := pow_le7 n7
    obtain ⟨z, rfl⟩ : ∃ z : Nat, col = z := ⟨col.toNat, by omega⟩
    obtain ⟨li, rfl⟩ : ∃ z : Nat, list = z := ⟨list.toNat, by omega⟩
    have hcn : z % p.1.toNat < p.1.toNat := Nat.mod_lt _ (by omega)
    have ec : Int.tmod (w64 (z : Int)) p.1 = ((z % p.1.toNat : Nat) : Int) := by
      rw [w64_small (by omega)]; conv => lhs; rw [hn]
      exact tmod_nat z _
    generalize z % p.1.toNat = c at *
    rw [decide_eq_true (by omega : p.1 ≠ 0), chk_true, ec]
    have hg : ([p] : List Pal).getD 0 dP = p := rfl
    have hg' : ([p] : List Pal).getD 0 ((0 : Int), ([] : List (List Int)), ()) = p := rfl
    have hS := it_lt hp p.1.toNat
    have e29 := B29_ok hp
    have e35 := B35_ok hp hcn
    have hbit := it_bit hp (c := c)
    have hz := it_z p p.1.toNat
    have hcl := fix_all p.2.1 _ (it_fix hp)
    generalize itI p p.1.toNat = S at *
    have e31 := B31_ok hp (sk_cols hp hS.2) (by have := colsI_len S; omega) hcn
    have eany : (p.2.1.any fun k => addI k S != S) = false := by
      rw [List.any_eq_false]
      intro k hk
      rw [bne_iff_ne, Decidable.not_not]; exact hcl k hk
    have ex : exI p S c = cond (S.testBit c) 13 0 := by
      rw [exI, hz, eany]; rfl
    rw [ex] at e31
    -- a list
    obtain ⟨s2, hsk, hs2, hsb⟩ := sk_filter hp li.testBit
    generalize hsome : ((List.range p.1.toNat).filter li.testBit).map (fun (c : Nat) => (c : Int)) = some_ at *
    have hwm : ∀ x : Int, x ∈ some_ ↔ ∃ z : Nat, x = z ∧ s2.testBit z = true := fun x => by
      rw [← hsome]
      simp only [List.mem_map, List.mem_filter, List.mem_range]
      constructor
      · rintro ⟨z, hz, rfl⟩; exact ⟨z, rfl, (hsb z).2 hz⟩
      · rintro ⟨z, rfl, hz⟩; exact ⟨z, (hsb z).1 hz, rfl⟩
    have hwl : some_.length ≤ 7 := by
      rw [← hsome, List.length_map]
      exact Nat.le_trans (List.length_filter_le _ _) (by simp; omega)
    have e31' := B31_ok hp hsk (by omega) hcn
    have hb0 := bAnd_u8 (a := li) (b := 1) (by omega) (by decide)
    have b0 : (bAnd .u8 (li : Int) 1 == 1) = li.testBit 0 := by
      rw [show ((1 : Nat) : Int) = 1 from rfl] at hb0
      rw [hb0]
      have := bit_of li 0
      rw [Nat.pow_zero, Nat.div_one] at this; exact this
    have bx : ∀ x : Nat, x ≤ 8 → (bAnd .u8 (Int.fdiv (li : Int) (2 ^ min x 8)) 1 == 1) = li.testBit x := fun x hx => by
      have := bit_u8 (s := li) (c := x) (by omega) hx
      rw [Int.toNat_natCast] at this; exact this
    have inkAt : ∀ k ∈ p.2.1, ∀ x : Nat, x < p.1.toNat → 0 ≤ k.getD x 0 ∧ k.getD x 0 < (p.1.toNat : Int) := fun k hk x hx => (hp.ink k hk).at hx
    let f1 : Int → Bool := fun x => p.2.1.all fun k => li.testBit (k.getD x.toNat 0).toNat
    -- what is asked at the end
    have last : ∀ (n9 : Int), (decide (n9 < 0) = !S.testBit c) → ∀ cl : Bool, cl = (li.testBit 0 && some_.all f1) → ∀ n, l10d (some true) B29 B31 B35 B41 B46e N (li : Int) n9 [p] (c : Int) some_ (n + 1) cl (some_.length : Int) = some true := fun n9 h9 cl hcl2 n => by
      have hop : ((!s2.testBit 0 || p.2.1.any fun k => addI k s2 != s2) = !cl) := by
        have s0 : s2.testBit 0 = li.testBit 0 := by rw [Bool.eq_iff_iff, hsb]; exact ⟨fun h => h.2, fun h => ⟨by omega, h⟩⟩
        rw [s0, hcl2]
        cases li.testBit 0 with
        | false => rfl
        | true =>
          rw [Bool.not_true, Bool.false_or, Bool.true_and]
          have key : (p.2.1.any fun k => addI k s2 != s2) = false ↔ some_.all f1 = true := by
            rw [closed_iff hp hs2, List.all_eq_true]
            constructor
            · intro hh x hx
              obtain ⟨y, rfl, hy⟩ := (hwm x).1 hx
              simp only [f1, List.all_eq_true, Int.toNat_natCast]
              intro k hk
              exact ((hsb _).1 (hh y hy k hk)).2
            · intro hh y hy k hk
              have := hh (y : Int) ((hwm _).2 ⟨y, rfl, hy⟩)
              simp only [f1, List.all_eq_true, Int.toNat_natCast] at this
              have hr := inkAt k hk y (lt_bit hs2 hy)
              exact (hsb _).2 ⟨by omega, this k hk⟩
          cases ha : some_.all f1 with
          | true => rw [key.2 ha]; rfl
          | false =>
            cases hb : (p.2.1.any fun k => addI k s2 != s2) with
            | true => rfl
            | false => rw [key.1 hb] at ha; cases ha
      have sc : s2.testBit c = li.testBit c := by rw [Bool.eq_iff_iff, hsb]; exact ⟨fun h => h.2, fun h => ⟨hcn, h⟩⟩
      have bc := bx c (by omega)
      rw [exI, hop, sc] at e31'
      simp only [l10d, ixE, cond_false, hg', e31', Option.bind_some, decide_eq_true (show (0 : Int) ≤ (c : Int) by omega), chk_true, Int.toNat_natCast, bc]
      cases hq : cl with
      | false => rfl
      | true =>
        rw [hq] at hop
        cases hlc : li.testBit c with
        | true => rfl
        | false =>
          have : S.testBit c = false := by
            cases hSc : S.testBit c with
            | false => rfl
            | true =>
              rw [hSc] at hbit
              obtain ⟨l, hl⟩ := Option.isSome_iff_exists.1 hbit.symm
              obtain ⟨l1, l2, _⟩ := few_some hp hl
              rw [Bool.not_true, Bool.or_eq_false_iff] at hop
              have s0 : s2.testBit 0 = true := by simpa using hop.1
              have cl2 : ∀ k ∈ p.2.1, addI k s2 = s2 := fun k hk => by
                have := (List.any_eq_false.1 hop.2) k hk
                rw [bne_iff_ne, Decidable.not_not] at this; exact this
              have := closed_giv hp hs2 s0 cl2 l1 c (sv_bit.1 l2)
              rw [sc, hlc] at this; cases this
          rw [h9, this]; rfl
    have loopD : ∀ (n9 : Int), (decide (n9 < 0) = !S.testBit c) → l10d (some true) B29 B31 B35 B41 B46e N (li : Int) n9 [p] (c : Int) some_ N (bAnd .u8 (li : Int) 1 == 1) 0 = some true := fun n9 h9 => by
      rw [b0]
      exact rangeInv some_ 0 (fun n (cl : Bool) t => l10d (some true) B29 B31 B35 B41 B46e N (li : Int) n9 [p] (c : Int) some_ n cl t) (fun xs cl => (cl && xs.all f1) = (li.testBit 0 && some_.all f1) ∧ ∀ x ∈ xs, x ∈ some_) (fun _ _ => some true)
        (fun n cl t x rest ht hx hI ih => by
          obtain ⟨i1, i2⟩ := hI
          obtain ⟨y, rfl, hy⟩ := (hwm x).1 (i2 x (by simp))
          have hyn := lt_bit hs2 hy
          have inner : ∀ (rec : Bool → Int → Option Bool), l10e (some true) B29 B31 B35 B41 B46e N (li : Int) n9 [p] (c : Int) some_ (t : Int) rec N cl 0 = rec (cl && f1 (y : Int)) ((t + 1 : Nat) : Int) := fun rec => by
            exact rangeInv p.2.1 [] (fun n (cl : Bool) u => l10e (some true) B29 B31 B35 B41 B46e N (li : Int) n9 [p] (c : Int) some_ (t : Int) rec n cl u) (fun ks cl => ∀ k ∈ ks, k ∈ p.2.1) (fun ks cl => rec (cl && ks.all fun k => li.testBit (k.getD y 0).toNat) ((t + 1 : Nat) : Int))
              (fun n cl u k ks hu hk hJ ih2 => by
                have hkm := hJ k (by simp)
                have hr := inkAt k hkm y hyn
                have d1 : decide (0 ≤ (y : Int) ∧ (y : Int) < (k.length : Int)) = true := decide_eq_true (by have := (hp.ink k hkm).1; omega)
                have d2 : decide (0 ≤ k.getD y 0) = true := decide_eq_true hr.1
                have d3 := bx (k.getD y 0).toNat (by omega)
                simp only [l10e, hg', ixA hu, ixB hu, cond_true, chk_true, Int.toNat_natCast, hk, hx, d1, d2, d3, ixW hu (by have := hp.i6; omega)]
                rw [ih2 _ (fun q hq => hJ q (by simp [hq])), ih2 _ (fun q hq => hJ q (by simp [hq])), List.all_cons]
                cases cl with
                | true => rw [cond_true, Bool.true_and]
                | false => rfl)
              (fun n cl _ => by simp only [l10e, hg', ixE, cond_false, ixW ht (by omega), List.all_nil, Bool.and_true]) N cl (by have := hp.i6; omega) (fun k hk => hk)
          simp only [l10d, ixA ht, ixB ht, cond_true, chk_true]
          rw [inner]
          exact ih _ ⟨by rw [← i1, List.all_cons, Bool.and_assoc], fun q hq => i2 q (by simp [hq])⟩)
        (fun n cl hI => last n9 h9 cl (by have := hI.1; simpa using this) n) N (li.testBit 0) (by omega) ⟨rfl, fun x hx => hx⟩
    have loopC : ∀ (n9 : Int), (decide (n9 < 0) = !S.testBit c) → l10c (some true) B29 B31 B35 B41 B46e N (li : Int) n9 [p] (c : Int) N 0 [] = some true := fun n9 h9 => by
      exact rangeInv (List.range p.1.toNat) 0 (fun n (o : List Int) t => l10c (some true) B29 B31 B35 B41 B46e N (li : Int) n9 [p] (c : Int) n t o) (fun xs o => o.length + xs.length ≤ 7 ∧ o ++ (xs.filter li.testBit).map (fun (c : Nat) => (c : Int)) = some_) (fun _ _ => some true)
        (fun n o t x rest ht hx hI ih => by
          obtain rfl := range_at ht hx
          simp only [List.length_range] at ht
          obtain ⟨i1, i2⟩ := hI
          simp only [List.length_cons] at i1
          have e1 : decide ((x : Int) < p.1) = true := decide_eq_true (by omega)
          have e2 : decide ((0 : Int) ≤ (x : Int)) = true := decide_eq_true (by omega)
          have hb := bx x (by omega)
          rw [List.filter_cons] at i2
          simp only [l10c, hg', e1, e2, cond_true, chk_true, Int.toNat_natCast, hb, ixW (t := x) (n := 7) (by omega) (by omega), chk_of (small_of (n := o.length + 1) (eb := 8) (by omega) (by decide))]
          cases hbt : li.testBit x with
          | true =>
            rw [hbt, if_pos rfl] at i2
            rw [cond_true]
            exact ih _ ⟨by simp; omega, by rw [← i2]; simp⟩
          | false =>
            rw [hbt, if_neg (by simp)] at i2
            rw [cond_false]
            exact ih _ ⟨by omega, i2⟩)
        (fun n o hI => by
          have e1 : decide ((((List.range p.1.toNat).length : Nat) : Int) < p.1) = false := decide_eq_false (by simp only [List.length_range]; omega)
          have : o = some_ := by have := hI.2; simpa using this
          subst this
          simp only [l10c, hg', e1, cond_false]
          exact loopD n9 h9) N [] (by simp only [List.length_range]; omega) ⟨by simp; omega, by rw [List.nil_append]; exact hsome⟩
    -- all colours
    have loopB : ∀ (n9 m13 g14 : Int), (match fewI p (2 ^ c) with | some l => n9 = (l.length : Int) ∧ m13 = (l.length : Int) ∧ g14 = 0 | none => n9 = -1 ∧ m13 = 0 ∧ g14 = 14) → l10b (some true) B29 B31 B35 B41 B46e N (li : Int) n9 [p] (c : Int) N (colsI S) m13 g14 false (colsI S) ((colsI S).length : Int) 0 = some true := fun n9 m13 g14 hh => by
      have hcS := colsI_len S
      have e9 : decide (n9 < 0) = !S.testBit c := by
        rw [hbit]
        cases hq : fewI p (2 ^ c) with
        | none => rw [hq] at hh; rw [hh.1]; rfl
        | some l => rw [hq] at hh; rw [hh.1, decide_eq_false (by omega)]; rfl
      have e9' : decide (n9 ≥ 0) = S.testBit c := by
        have := congrArg (!·) e9
        simp only [Bool.not_not] at this
        rw [← this]
        by_cases q : n9 < 0
        · rw [decide_eq_true q, decide_eq_false (by omega)]; rfl
        · rw [decide_eq_false q, decide_eq_true (by omega)]; rfl
      exact rangeInv (colsI S) 0 (fun n (is : Bool) t => l10b (some true) B29 B31 B35 B41 B46e N (li : Int) n9 [p] (c : Int) n (colsI S) m13 g14 is (colsI S) ((colsI S).length : Int) t) (fun xs is => (is || xs.contains (c : Int)) = S.testBit c) (fun _ _ => some true)
        (fun n is t x rest ht hx hI ih => by
          simp only [l10b, ixA ht, ixB ht, cond_true, chk_true, Int.toNat_natCast, hx, ixW ht (by omega)]
          rw [List.contains_cons] at hI
          cases is with
          | true => rw [cond_true]; exact ih true (by rw [← hI]; rfl)
          | false =>
            rw [cond_false]
            refine ih _ ?_
            rw [← hI, Bool.false_or]
            congr 1
            rw [Bool.eq_iff_iff, beq_iff_eq, beq_iff_eq]; exact ⟨fun h => h.symm, fun h => h.symm⟩)
        (fun n is hI => by
          have his : is = S.testBit c := by simpa using hI
          subst his
          have nx := loopC n9 e9
          cases hq : fewI p (2 ^ c) with
          | none =>
            rw [hq] at hh hbit
            have hSc : S.testBit c = false := hbit
            rw [hSc] at e9 e9' e31
            obtain ⟨_, rfl, rfl⟩ := hh
            simp only [l10b, ixE, cond_false, hSc, e9, e9', Bool.not_false, cond_true, hg', e31, Option.bind_some, bne_self_eq_false, nx]
          | some l =>
            rw [hq] at hh hbit
            have hSc : S.testBit c = true := hbit
            rw [hSc] at e9 e9' e31
            obtain ⟨hn9, rfl, rfl⟩ := hh
            subst hn9
            simp only [l10b, ixE, cond_false, hSc, e9, e9', Bool.not_true, cond_true, hg', e31, Option.bind_some, bne_self_eq_false, nx]) N false (by omega) (by
          rw [Bool.false_or, Bool.eq_iff_iff, List.contains_iff_mem, colsI_mem]
          exact ⟨fun h => h.2, fun h => ⟨by omega, h⟩⟩)
    -- the search
    have e46 : ∀ k : Nat, k ≤ 12 → B46e (p.2.1.length : Int) (k : Int) [p] (c : Int) = some (((allS p.2.1.length k).find? fun l => (givI p l).testBit c).isSome, [p], (c : Int)) := fun k hk => by
      rw [B46e, hg, if_pos ⟨ck_ok.2 hp, rfl, by omega, by omega, by omega⟩, Int.toNat_natCast, Int.toNat_natCast]
    have hsv : ∀ l, (givI p l).testBit c = true ↔ Sv p (2 ^ c) l := fun l => sv_bit.symm
    let E : Int → Option Bool := fun n9 => l10b (some true) B29 B31 B35 B41 B46e N (li : Int) n9 [p] (c : Int) N (colsI S) ((ansE (fewI p (2 ^ c))).1.length : Int) (ansE (fewI p (2 ^ c))).2 false (colsI S) ((colsI S).length : Int) 0
    have stepE : ∀ (n : Nat) (n9 size : Int), l10a (some true) B29 B31 B35 B41 B46e N (li : Int) (n + 1) n9 size [p] (c : Int) = cond (decide (size < p.1)) (cond (decide (n9 < 0)) ((B46e (p.2.1.length : Int) size [p] (c : Int)).bind fun r2 => cond r2.1 (l10a (some true) B29 B31 B35 B41 B46e N (li : Int) n size (w64 (size + 1)) r2.2.1 r2.2.2) (l10a (some true) B29 B31 B35 B41 B46e N (li : Int) n n9 (w64 (size + 1)) r2.2.1 r2.2.2)) (E n9)) (E n9) := fun n n9 size => by
      simp only [l10a, hg', e29, e35, Option.bind_some, bne_self_eq_false, cond_false, E]
    have hE0 : fewI p (2 ^ c) = none → E (-1) = some true := fun hq => loopB _ _ _ (by rw [hq]; exact ⟨rfl, rfl, rfl⟩)
    have hE1 : ∀ l, fewI p (2 ^ c) = some l → E (l.length : Int) = some true := fun l hq => loopB _ _ _ (by rw [hq]; exact ⟨rfl, rfl, rfl⟩)
    have doneE : ∀ (n : Nat) (size : Int) (l : List Int), fewI p (2 ^ c) = some l → l10a (some true) B29 B31 B35 B41 B46e N (li : Int) (n + 1) (l.length : Int) size [p] (c : Int) = some true := fun n size l hl => by
      rw [stepE, hE1 l hl, decide_eq_false (by omega : ¬ (l.length : Int) < 0)]
      cases decide (size < p.1) <;> rfl
    have main : ∀ (j k n : Nat), k + j = p.1.toNat → j + 2 ≤ n → (∀ l, fewI p (2 ^ c) = some l → k ≤ l.length) → l10a (some true) B29 B31 B35 B41 B46e N (li : Int) n (-1) (k : Int) [p] (c : Int) = some true := by
      intro j
      induction j with
      | zero =>
        intro k n h1 h2 h3
        obtain ⟨n, rfl⟩ : ∃ q, n = q + 1 := ⟨n - 1, by omega⟩
        rw [stepE, decide_eq_false (by omega : ¬ (k : Int) < p.1), cond_false]
        cases hq : fewI p (2 ^ c) with
        | none => exact hE0 hq
        | some l => have := h3 l hq; have := few_len hp hq; omega
      | succ j ih =>
        intro k n h1 h2 h3
        obtain ⟨n, rfl⟩ : ∃ q, n = q + 1 := ⟨n - 1, by omega⟩
        rw [stepE, decide_eq_true (by omega : (k : Int) < p.1), cond_true, show decide ((-1 : Int) < 0) = true from rfl, cond_true, e46 k (by omega), Option.bind_some, w64_succ (by omega)]
        by_cases hk : ∃ l, fewI p (2 ^ c) = some l ∧ l.length = k
        · obtain ⟨l, hl, rfl⟩ := hk
          rw [find_some hp hsv hl]
          obtain ⟨n, rfl⟩ : ∃ q, n = q + 1 := ⟨n - 1, by omega⟩
          exact doneE n _ l hl
        · rw [find_none hp hsv (fun l hl => by
            have := h3 l hl
            rcases Nat.lt_or_ge k l.length with q | q
            · exact q
            · exact absurd ⟨l, hl, by omega⟩ hk)]
          refine ih (k + 1) n (by omega) (by omega) fun l hl => ?_
          have := h3 l hl
          rcases Nat.lt_or_ge k l.length with q | q
          · exact q
          · exact absurd ⟨l, hl, by omega⟩ hk
    exact main p.1.toNat 0 N (by omega) (by omega) fun l _ => Nat.zero_le _
  · cases h

theorem b256 {n : Int} (h : (Lit.int .u8 n).wf = true) : 0 ≤ n ∧ n < 256 := by have := bounds_u8 h; omega
theorem wfE {y : Pal} (h : DT.wf (.pair (.int .u8) (.pair (.sl (.arr 5 (.int .u8))) .unit)) y) : okE y = true := by
  obtain ⟨h1, ⟨_, h2⟩, _⟩ := (show (Lit.int .u8 y.1).wf = true ∧ (y.2.1.length ≤ maxLen ∧ ∀ i, i < y.2.1.length → DT.wf (.arr 5 (.int .u8)) (y.2.1.getD i (DT.dflt (.arr 5 (.int .u8))))) ∧ True from h)
  refine okE_ok.2 ⟨b256 h1, fun l hl => ?_⟩
  obtain ⟨i, hi, rfl⟩ := List.getElem_of_mem hl
  have := h2 i hi
  rw [List.getD_eq_getElem?_getD, List.getElem?_eq_getElem hi] at this
  obtain ⟨a, b⟩ := (show (y.2.1[i]).length = 5 ∧ ∀ j, j < (y.2.1[i]).length → (Lit.int .u8 ((y.2.1[i]).getD j 0)).wf = true from this)
  refine ⟨a, fun x hx => ?_⟩
  obtain ⟨j, hj, rfl⟩ := List.getElem_of_mem hx
  have := b256 (b j hj)
  rw [List.getD_eq_getElem?_getD, List.getElem?_eq_getElem hj] at this
  exact this
theorem okB_of {y : List Int} (h2 : ∀ i, i < y.length → (Lit.int .u8 (y.getD i 0)).wf = true) : okB y = true := by
  simp only [okB, List.all_eq_true, decide_eq_true_eq]
  intro x hx
  obtain ⟨j, hj, rfl⟩ := List.getElem_of_mem hx
  have := b256 (h2 j hj)
  rw [List.getD_eq_getElem?_getD, List.getElem?_eq_getElem hj] at this
  exact this
theorem wfB {y : List Int} (h : DT.wf (.sl (.int .u8)) y) : okB y = true := okB_of (show y.length ≤ maxLen ∧ ∀ i, i < y.length → (Lit.int .u8 (y.getD i 0)).wf = true from h).2
theorem wfA {n : Nat} {y : List Int} (h : DT.wf (.arr n (.int .u8)) y) : y.length = n ∧ okB y = true := by
  obtain ⟨h1, h2⟩ := (show y.length = n ∧ ∀ i, i < y.length → (Lit.int .u8 (y.getD i 0)).wf = true from h)
  exact ⟨h1, okB_of h2⟩
theorem K (y0 : Pal) (y1 : Int) (y2 : Int) (_ : DT.wf (.pair (.int .u8) (.pair (.sl (.arr 5 (.int .u8))) .unit)) y0) (_ : DT.wf (.int .u8) y1) (_ : DT.wf (.int .u8) y2) : FnOk Try.prog 10 (F10 B10) := KB10

set_option maxRecDepth 100000 in
theorem walk (w : World) (vs : List Value) (h : ArgsOk w [.pair (.int .u8) (.pair (.sl (.arr 5 (.int .u8))) .unit), .int .u8, .int .u8] vs) : Calls Try.prog 10 vs.toArray w fun e w' => e = .returned (.bool true) ∧ Below w.heap.size w w' := by
  obtain ⟨v0, vs0, y0, rfl, w0, h0, k0⟩ := ArgsOk.cons h
  obtain ⟨v1, vs1, y1, rfl, w1, h1, k1⟩ := ArgsOk.cons k0
  obtain ⟨v2, vs2, y2, rfl, w2, h2, k2⟩ := ArgsOk.cons k1
  obtain rfl := ArgsOk.nil k2
  exact walkAll (K y0 y1 y2 w0 w1 w2) (xs := [.dv (.pair (.int .u8) (.pair (.sl (.arr 5 (.int .u8))) .unit)) y0, .dv (.int .u8) y1, .dv (.int .u8) y2]) (r := true) (if_pos ⟨wfE w0, b256 w1, b256 w2⟩) rfl (HoldsAll.cons h0 (HoldsAll.cons h1 (HoldsAll.cons h2 HoldsAll.nil)))

set_option maxRecDepth 100000 in
theorem lifted (os : Os) (started : os.Started) (H : Type) (enc : TypeId × Value → H) :
    ReturnsInHanded {} Try.checked os 10 .any (Rows.inkEverSpec.pre6 enc Try.prog Try.f10 Rows.inkEverRow.domain false) (Rows.inkEverSpec.post enc Try.prog Try.f10 false true false false) :=
  lawShell (fn := Try.f10) (s := Rows.inkEverSpec) (tb := 4) [.pair (.int .u8) (.pair (.sl (.arr 5 (.int .u8))) .unit), .int .u8, .int .u8] Try.func10 (by kernel_rfl) (by kernel_rfl) (by kernel_rfl) Try.underlying4 (by kernel_rfl) os started H enc Rows.inkEverRow.domain
    (fun ds hl => by
      match ds, hl with
      | [d0, d1, d2], _ => rfl)
    (ChangeSpec.witness6 (enc := enc) (C := Try.checked) false ⟨#[], #[.agg #[.int .u8 0, .slice none 0 0], .int .u8 0, .int .u8 0], []⟩ 8 (by kernel_rfl) (by kernel_rfl) (by kernel_rfl) (by kernel_rfl)) walk

theorem over : Rows.inkEverRow.holds Try.pinned (OpenSpec.ofChange Rows.inkEverSpec) :=
  OpenClaim.holds_of_wide 10 Try.f10 rfl rfl rfl rfl rfl rfl rfl ⟨rfl, rfl, rfl, rfl, rfl⟩ rfl rfl rfl rfl rfl (by kernel_rfl) Try.func10 (by kernel_rfl)
    (of_decide_eq_true (by kernel_rfl)) (by unfold Func.isWrapper; first | (rw [if_pos (by decide +kernel)]; kernel_rfl) | (rw [if_neg (by decide +kernel)]; exact ⟨rfl, rfl⟩))
    (fun os started H enc _ => lifted os started H enc)

/-- THE STATEMENT. -/
theorem proved : Rows.InkEverSaid := over

end Go.Proofs.Ytaioadjcdjmkdaa.inkEver
