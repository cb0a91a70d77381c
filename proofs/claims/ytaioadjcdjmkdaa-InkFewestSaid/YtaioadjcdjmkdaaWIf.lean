/-
  The law InkFewest returns true and turns nothing that was there.
-/
import Derived.Test.YtaioadjcdjmkdaaJ17
import Derived.Test.YtaioadjcdjmkdaaQM9
import Derived.Test.YtaioadjcdjmkdaaRows
import Derived.Test.YtaioadjcdjmkdaaEN
import Derived.WalkKit
import Derived.ProofKit
import Derived.OpenShut
import Derived.ChangeOld
import Derived.Below
namespace Go.Proofs.Ytaioadjcdjmkdaa.inkFewest
open Go.RowKit Go.ChangeShapes Go.WideShapes Go.ChangeAt
set_option linter.unusedVariables false
theorem mkP_small (e : Pal) : (mkP e).2.1.length ≤ 3 ∧ (mkP e).1.toNat ≤ 5 := by
  rw [mkP_n]
  refine ⟨?_, by unfold mkN; omega⟩
  show (mkInks e).length ≤ 3
  unfold mkInks
  split
  · simp
  · simp only [List.length_map, List.length_take]; omega
instance (p : Pal) (s : Nat) (l : List Int) : Decidable (Sv p s l) := inferInstanceAs (Decidable (_ = _))
theorem B37_ok {p : Pal} (hp : PalOk p) {want l : List Int} {s : Nat} (hk : skI p want = (s, 0)) (hw : want.length ≤ 1000) (hl : SeqOk p l) (h12 : l.length ≤ 12) : B37 p want l = some (cond (decide (Sv p s l)) 0 13) := by
  rw [B37, if_pos ⟨hp.fit, by omega, hw⟩, seI, if_pos (sq_ok.2 ⟨hp, by omega, hl⟩), hk, if_pos rfl]
  by_cases e : Sv p s l
  · have : (((givI p l &&& s : Nat) : Int) != (s : Int)) = false := by rw [bne_eq_false_iff_eq]; unfold Sv at e; rw [e]
    rw [this, decide_eq_true e]; rfl
  · have : (((givI p l &&& s : Nat) : Int) != (s : Int)) = true := by
      rw [bne_iff_ne]; intro h; exact e (by unfold Sv; omega)
    rw [this, decide_eq_false e]; rfl
def B9 (e : Pal) (sk : Int) : Option Bool := if okE e = true ∧ 0 ≤ sk ∧ sk < 256 then some true else none
theorem KB9 : FnOk Try.prog 9 (F9 B9) := ok9 (some true) Beq B33 B37 B41 B43 B44 B46 K16t KB23 KB33 KB37 KB41 KB43 KB44 KB46 B9 fun e sk r h => by
  simp only [B9] at h
  split at h
  · rename_i hf
    obtain ⟨he, h0, h1⟩ := hf
    obtain ⟨N, hN⟩ : ∃ N, 1000 < N := ⟨1001, by omega⟩
    refine ⟨N, ?_⟩
    have hp := mkP_ok e
    have hsm := mkP_small e
    rw [← h, m9, B41, if_pos he, Option.bind_some]
    generalize mkP e = p at *
    obtain ⟨n2, n7, hn⟩ := nat7 hp
    have h7 := pow_le7 n7
    obtain ⟨sk, rfl⟩ : ∃ z : Nat, sk = z := ⟨sk.toNat, by omega⟩
    obtain ⟨s, hsk, hs, hsb⟩ := sk_filter hp sk.testBit
    generalize hwant : ((List.range p.1.toNat).filter sk.testBit).map (fun (c : Nat) => (c : Int)) = want at *
    have hwm : ∀ c : Int, c ∈ want ↔ ∃ z : Nat, c = z ∧ s.testBit z = true := fun c => by
      rw [← hwant]
      simp only [List.mem_map, List.mem_filter, List.mem_range]
      constructor
      · rintro ⟨z, hz, rfl⟩; exact ⟨z, rfl, (hsb z).2 hz⟩
      · rintro ⟨z, rfl, hz⟩; exact ⟨z, (hsb z).1 hz, rfl⟩
    have hwl : want.length ≤ 7 := by
      rw [← hwant, List.length_map]
      exact Nat.le_trans (List.length_filter_le _ _) (by simp; omega)
    have hw : okW p want = true := okW_ok.2 ⟨by omega, fun c hc => by
      obtain ⟨z, rfl, hz⟩ := (hwm c).1 hc
      have := lt_bit hs hz; omega⟩
    have hsv : ∀ l, svL p want l = true ↔ Sv p s l := fun l => by
      simp only [svL, List.all_eq_true]
      unfold Sv
      constructor
      · intro hh
        refine Nat.eq_of_testBit_eq fun i => ?_
        rw [Nat.testBit_and]
        cases hb : s.testBit i with
        | false => simp
        | true =>
          have := hh (i : Int) ((hwm _).2 ⟨i, rfl, hb⟩)
          rw [Int.toNat_natCast] at this
          rw [this]; rfl
      · intro hh c hc
        obtain ⟨z, rfl, hz⟩ := (hwm c).1 hc
        rw [Int.toNat_natCast]
        have := congrArg (fun x => x.testBit z) hh
        simp only [Nat.testBit_and, hz, Bool.and_true] at this
        exact this
    have hg : ([p] : List Pal).getD 0 dP = p := rfl
    have hg' : ([p] : List Pal).getD 0 ((0 : Int), ([] : List (List Int)), ()) = p := rfl
    have e33 : B33 p want = some (ansE (fewI p s)) := by
      rw [B33, if_pos ⟨hp.fit, by omega⟩, feI, if_pos (ck_ok.2 hp), hsk, if_pos rfl]
    have e46 : ∀ (k : Nat) (best : List Int), k ≤ 12 → B46 (p.2.1.length : Int) (k : Int) best [p] want = some (ansF best [p] want ((allS p.2.1.length k).find? (svL p want))) := fun k best hk => by
      rw [B46, hg, if_pos ⟨ck_ok.2 hp, rfl, by omega, hw⟩, Int.toNat_natCast]
    have wn : w64 (p.1 - 1) = p.1 - 1 := w64_small (by omega)
    -- stone by stone
    have fin : ∀ l, fewI p s = some l → l9c (some true) Beq B33 B37 B41 B43 B44 B46 N [p] want N l (l.length : Int) 0 = some true := fun l hl => by
      obtain ⟨l1, l2, l3⟩ := few_some hp hl
      have hln := few_len hp hl
      exact rangeIx l 0 (fun n (_ : Unit) t => l9c (some true) Beq B33 B37 B41 B43 B44 B46 N [p] want n l (l.length : Int) t) (fun _ _ _ => True) (fun _ _ _ => some true)
        (fun n _ t x rest ht hx _ ih => by
          have d1 : decide (0 ≤ (t : Int) ∧ (t : Int) ≤ (l.length : Int)) = true := decide_eq_true (by omega)
          have d2 : decide (0 ≤ ((t + 1 : Nat) : Int) ∧ ((t + 1 : Nat) : Int) ≤ (l.length : Int)) = true := decide_eq_true (by omega)
          have a1 := take_seq l1 t
          have a2 := take_seq l1 (t + 1)
          have c1 : (l.take t).length ≤ 12 := by simp; omega
          have c2 : (l.take (t + 1)).length ≤ 12 := by simp; omega
          have q1 := few_grow hp hl ht
          have hx1 := l1 (l.getD t 0) (getD_mem ht)
          have q2 : (cols (givI p (l.take (t + 1)))).length ≤ 2 * (cols (givI p (l.take t))).length := by
            rw [giv_take ht]
            exact add_two (hp.at hx1) (giv_lt hp a1).2 n7
          have q3 : (cols (givI p (l.take t))).length ≤ 7 := cols_le (Nat.lt_of_lt_of_le (giv_lt hp a1).2 (Nat.pow_le_pow_right (by decide) n7)) (by omega)
          have ec : ∀ s, (colsI s).length = (cols s).length := fun s => by simp [colsI]
          have nsv : ¬ Sv p s (l.take t) := fun hh => by
            have := sle_len (l3 _ a1 hh)
            simp at this; omega
          have e37 := B37_ok hp hsk (by omega) a1 c1
          rw [decide_eq_false nsv] at e37
          have w2 : w64 (2 * ((cols (givI p (l.take t))).length : Int)) = 2 * ((cols (givI p (l.take t))).length : Int) := w64_small (by omega)
          simp only [l9c, ixA ht, cond_true, d1, d2, chk_true, hg', Int.toNat_natCast, ixW ht (by omega), B43_ok hp a1 c1, B43_ok hp a2 c2, Option.bind_some, B44_lea hp a1, B44_lea hp a2, ec, w2]
          rw [decide_eq_false (by omega), cond_false, decide_eq_false (by omega), cond_false, e37, Option.bind_some]
          exact ih () trivial)
        (fun n _ _ => by simp only [l9c, ixE, cond_false, Option.bind_some]) N () (by omega) trivial
    -- the answer
    let E : Bool → List Int → Option Bool := fun found best => cond (!found) (cond ((ansE (fewI p s)).2 == 14) (cond ((((ansE (fewI p s)).1.length : Nat) : Int) == 0) (some true) (some false)) (some false))
      (cond ((ansE (fewI p s)).2 != 0) (some false) ((Beq (ansE (fewI p s)).1 best).bind fun r5 => cond (!r5) (some false) (cond (decide ((((ansE (fewI p s)).1.length : Nat) : Int) > p.1 - 1)) (some false) ((B37 p want (ansE (fewI p s)).1).bind fun r6 => cond (r6 != 0) (some false) (l9c (some true) Beq B33 B37 B41 B43 B44 B46 N [p] want N (ansE (fewI p s)).1 (((ansE (fewI p s)).1.length : Nat) : Int) 0)))))
    have hE0 : fewI p s = none → E false [] = some true := fun hnone => by simp only [E, hnone]; rfl
    have hE1 : ∀ l, fewI p s = some l → E true l = some true := fun l hl => by
      obtain ⟨l1, l2, l3⟩ := few_some hp hl
      have hln := few_len hp hl
      have e37 := B37_ok hp hsk (by omega) l1 (by omega)
      rw [decide_eq_true l2] at e37
      simp only [E, hl]
      show (Beq l l).bind (fun r5 => cond (!r5) (some false) (cond (decide ((l.length : Int) > p.1 - 1)) (some false) ((B37 p want l).bind fun r6 => cond (r6 != 0) (some false) (l9c (some true) Beq B33 B37 B41 B43 B44 B46 N [p] want N l (l.length : Int) 0)))) = some true
      rw [Beq_self (by omega), Option.bind_some, decide_eq_false (by omega), e37]
      exact fin l hl
    have stepE : ∀ (n : Nat) (found : Bool) (size : Int) (best : List Int), l9b (some true) Beq B33 B37 B41 B43 B44 B46 N (n + 1) found size [p] best want = cond (decide (size < p.1)) (cond (!found) ((B46 (p.2.1.length : Int) size best [p] want).bind fun r2 => l9b (some true) Beq B33 B37 B41 B43 B44 B46 N n r2.1 (w64 (size + 1)) r2.2.2.1 r2.2.1 r2.2.2.2) (E found best)) (E found best) := fun n found size best => by
      simp only [l9b, hg', e33, Option.bind_some, wn, E]
    have doneE : ∀ (n : Nat) (size : Int) (l : List Int), fewI p s = some l → l9b (some true) Beq B33 B37 B41 B43 B44 B46 N (n + 1) true size [p] l want = some true := fun n size l hl => by
      rw [stepE, hE1 l hl]
      cases decide (size < p.1) <;> rfl
    have search : l9b (some true) Beq B33 B37 B41 B43 B44 B46 N N false 0 [p] [] want = some true := by
      have main : ∀ (j k n : Nat), k + j = p.1.toNat → j + 2 ≤ n → (∀ l, fewI p s = some l → k ≤ l.length) → l9b (some true) Beq B33 B37 B41 B43 B44 B46 N n false (k : Int) [p] [] want = some true := by
        intro j
        induction j with
        | zero =>
          intro k n h1 h2 h3
          obtain ⟨n, rfl⟩ : ∃ q, n = q + 1 := ⟨n - 1, by omega⟩
          rw [stepE, decide_eq_false (by omega : ¬ (k : Int) < p.1), cond_false]
          cases hq : fewI p s with
          | none => exact hE0 hq
          | some l => have := h3 l hq; have := few_len hp hq; omega
        | succ j ih =>
          intro k n h1 h2 h3
          obtain ⟨n, rfl⟩ : ∃ q, n = q + 1 := ⟨n - 1, by omega⟩
          rw [stepE, decide_eq_true (by omega : (k : Int) < p.1), cond_true, Bool.not_false, cond_true, e46 k [] (by omega), Option.bind_some, w64_succ (by omega)]
          by_cases hk : ∃ l, fewI p s = some l ∧ l.length = k
          · obtain ⟨l, hl, rfl⟩ := hk
            rw [find_some hp hsv hl]
            obtain ⟨n, rfl⟩ : ∃ q, n = q + 1 := ⟨n - 1, by omega⟩
            exact doneE n _ l hl
          · rw [find_none hp hsv (fun l hl => by
              have := h3 l hl
              rcases Nat.lt_or_ge k l.length with q | q
              · exact q
              · exact absurd ⟨l, hl, by omega⟩ hk)]
            refine ih (k + 1) n (by omega) (by omega) fun l hl => ?_
            have := h3 l hl
            rcases Nat.lt_or_ge k l.length with q | q
            · exact q
            · exact absurd ⟨l, hl, by omega⟩ hk
      exact main p.1.toNat 0 N (by omega) (by omega) fun l _ => Nat.zero_le _
    -- the sketch
    have main := rangeInv (List.range p.1.toNat) 0 (fun n (o : List Int) t => l9a (some true) Beq B33 B37 B41 B43 B44 B46 N (sk : Int) p n t o) (fun xs o => o.length + xs.length ≤ 7 ∧ o ++ (xs.filter sk.testBit).map (fun (c : Nat) => (c : Int)) = want) (fun _ _ => some true)
      (fun n o t x rest ht hx hI ih => by
        obtain rfl := range_at ht hx
        simp only [List.length_range] at ht
        obtain ⟨i1, i2⟩ := hI
        simp only [List.length_cons] at i1
        have e1 : decide ((x : Int) < p.1) = true := decide_eq_true (by omega)
        have e2 : decide ((0 : Int) ≤ (x : Int)) = true := decide_eq_true (by omega)
        have hb := bit_u8 (s := sk) (c := x) (by omega) (by omega)
        simp only [Int.toNat_natCast] at hb
        rw [List.filter_cons] at i2
        simp only [l9a, e1, e2, cond_true, chk_true, Int.toNat_natCast, hb, ixW (t := x) (n := 7) (by omega) (by omega), chk_of (small_of (n := o.length + 1) (eb := 8) (by omega) (by decide))]
        cases hbt : sk.testBit x with
        | true =>
          rw [hbt, if_pos rfl] at i2
          rw [cond_true]
          exact ih _ ⟨by simp; omega, by rw [← i2]; simp⟩
        | false =>
          rw [hbt, if_neg (by simp)] at i2
          rw [cond_false]
          exact ih _ ⟨by omega, i2⟩)
      (fun n o hI => by
        have e1 : decide ((((List.range p.1.toNat).length : Nat) : Int) < p.1) = false := decide_eq_false (by simp only [List.length_range]; omega)
        have : o = want := by have := hI.2; simpa using this
        subst this
        simp only [l9a, e1, cond_false]
        exact search) N [] (by simp only [List.length_range]; omega) ⟨by simp; omega, by rw [List.nil_append]; exact hwant⟩
    exact main
  · cases h

theorem b256 {n : Int} (h : (Lit.int .u8 n).wf = true) : 0 ≤ n ∧ n < 256 := by have := bounds_u8 h; omega
theorem wfE {y : Pal} (h : DT.wf (.pair (.int .u8) (.pair (.sl (.arr 5 (.int .u8))) .unit)) y) : okE y = true := by
  obtain ⟨h1, ⟨_, h2⟩, _⟩ := (show (Lit.int .u8 y.1).wf = true ∧ (y.2.1.length ≤ maxLen ∧ ∀ i, i < y.2.1.length → DT.wf (.arr 5 (.int .u8)) (y.2.1.getD i (DT.dflt (.arr 5 (.int .u8))))) ∧ True from h)
  refine okE_ok.2 ⟨b256 h1, fun l hl => ?_⟩
  obtain ⟨i, hi, rfl⟩ := List.getElem_of_mem hl
  have := h2 i hi
  rw [List.getD_eq_getElem?_getD, List.getElem?_eq_getElem hi] at this
  obtain ⟨a, b⟩ := (show (y.2.1[i]).length = 5 ∧ ∀ j, j < (y.2.1[i]).length → (Lit.int .u8 ((y.2.1[i]).getD j 0)).wf = true from this)
  refine ⟨a, fun x hx => ?_⟩
  obtain ⟨j, hj, rfl⟩ := List.getElem_of_mem hx
  have := b256 (b j hj)
  rw [List.getD_eq_getElem?_getD, List.getElem?_eq_getElem hj] at this
  exact this
theorem okB_of {y : List Int} (h2 : ∀ i, i < y.length → (Lit.int .u8 (y.getD i 0)).wf = true) : okB y = true := by
  simp only [okB, List.all_eq_true, decide_eq_true_eq]
  intro x hx
  obtain ⟨j, hj, rfl⟩ := List.getElem_of_mem hx
  have := b256 (h2 j hj)
  rw [List.getD_eq_getElem?_getD, List.getElem?_eq_getElem hj] at this
  exact this
theorem wfB {y : List Int} (h : DT.wf (.sl (.int .u8)) y) : okB y = true := okB_of (show y.length ≤ maxLen ∧ ∀ i, i < y.length → (Lit.int .u8 (y.getD i 0)).wf = true from h).2
theorem wfA {n : Nat} {y : List Int} (h : DT.wf (.arr n (.int .u8)) y) : y.length = n ∧ okB y = true := by
  obtain ⟨h1, h2⟩ := (show y.length = n ∧ ∀ i, i < y.length → (Lit.int .u8 (y.getD i 0)).wf = true from h)
  exact ⟨h1, okB_of h2⟩
theorem K (y0 : Pal) (y1 : Int) (_ : DT.wf (.pair (.int .u8) (.pair (.sl (.arr 5 (.int .u8))) .unit)) y0) (_ : DT.wf (.int .u8) y1) : FnOk Try.prog 9 (F9 B9) := KB9

set_option maxRecDepth 100000 in
theorem walk (w : World) (vs : List Value) (h : ArgsOk w [.pair (.int .u8) (.pair (.sl (.arr 5 (.int .u8))) .unit), .int .u8] vs) : Calls Try.prog 9 vs.toArray w fun e w' => e = .returned (.bool true) ∧ Below w.heap.size w w' := by
  obtain ⟨v0, vs0, y0, rfl, w0, h0, k0⟩ := ArgsOk.cons h
  obtain ⟨v1, vs1, y1, rfl, w1, h1, k1⟩ := ArgsOk.cons k0
  obtain rfl := ArgsOk.nil k1
  exact walkAll (K y0 y1 w0 w1) (xs := [.dv (.pair (.int .u8) (.pair (.sl (.arr 5 (.int .u8))) .unit)) y0, .dv (.int .u8) y1]) (r := true) (if_pos ⟨wfE w0, b256 w1⟩) rfl (HoldsAll.cons h0 (HoldsAll.cons h1 HoldsAll.nil))

set_option maxRecDepth 100000 in
theorem lifted (os : Os) (started : os.Started) (H : Type) (enc : TypeId × Value → H) :
    ReturnsInHanded {} Try.checked os 9 .any (Rows.inkFewestSpec.pre6 enc Try.prog Try.f9 Rows.inkFewestRow.domain false) (Rows.inkFewestSpec.post enc Try.prog Try.f9 false true false false) :=
  lawShell (fn := Try.f9) (s := Rows.inkFewestSpec) (tb := 4) [.pair (.int .u8) (.pair (.sl (.arr 5 (.int .u8))) .unit), .int .u8] Try.func9 (by kernel_rfl) (by kernel_rfl) (by kernel_rfl) Try.underlying4 (by kernel_rfl) os started H enc Rows.inkFewestRow.domain
    (fun ds hl => by
      match ds, hl with
      | [d0, d1], _ => rfl)
    (ChangeSpec.witness6 (enc := enc) (C := Try.checked) false ⟨#[], #[.agg #[.int .u8 0, .slice none 0 0], .int .u8 0], []⟩ 8 (by kernel_rfl) (by kernel_rfl) (by kernel_rfl) (by kernel_rfl)) walk

theorem over : Rows.inkFewestRow.holds Try.pinned (OpenSpec.ofChange Rows.inkFewestSpec) :=
  OpenClaim.holds_of_wide 9 Try.f9 rfl rfl rfl rfl rfl rfl rfl ⟨rfl, rfl, rfl, rfl, rfl⟩ rfl rfl rfl rfl rfl (by kernel_rfl) Try.func9 (by kernel_rfl)
    (of_decide_eq_true (by kernel_rfl)) (by unfold Func.isWrapper; first | (rw [if_pos (by decide +kernel)]; kernel_rfl) | (rw [if_neg (by decide +kernel)]; exact ⟨rfl, rfl⟩))
    (fun os started H enc _ => lifted os started H enc)

/-- THE STATEMENT. -/
theorem proved : Rows.InkFewestSaid := over

end Go.Proofs.Ytaioadjcdjmkdaa.inkFewest
