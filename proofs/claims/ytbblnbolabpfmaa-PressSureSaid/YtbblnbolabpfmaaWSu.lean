/-
  The law PressSure returns true and turns nothing that was there.
-/
import Derived.Test.YtbblnbolabpfmaaO1
import Derived.Test.YtbblnbolabpfmaaP11o
import Derived.Test.YtbblnbolabpfmaaQM10
import Derived.Test.YtbblnbolabpfmaaRows
import Derived.Test.YtbblnbolabpfmaaEN
import Derived.WalkKit
import Derived.ProofKit
import Derived.OpenShut
import Derived.ChangeOld
import Derived.Below
namespace Go.Proofs.Ytbblnbolabpfmaa.pressSure
open Go.RowKit Go.ChangeShapes Go.WideShapes Go.ChangeAt
set_option linter.unusedVariables false
theorem b256 {n : Int} (h : (Lit.int .u8 n).wf = true) : 0 ≤ n ∧ n ≤ 255 := by have := bounds_u8 h; omega
theorem wfD {y : List (List Int)} (h : DT.wf (.sl (.arr 2 (.int .u8))) y) : ∀ p ∈ y, u8p p := fun p hp => by
  obtain ⟨_, h2⟩ := (show y.length ≤ maxLen ∧ ∀ i, i < y.length → DT.wf (.arr 2 (.int .u8)) (y.getD i (DT.dflt (.arr 2 (.int .u8)))) from h)
  obtain ⟨i, hi, rfl⟩ := List.getElem_of_mem hp
  have := h2 i hi
  rw [List.getD_eq_getElem?_getD, List.getElem?_eq_getElem hi] at this
  obtain ⟨a, b⟩ := (show (y[i]).length = 2 ∧ ∀ j, j < (y[i]).length → (Lit.int .u8 ((y[i]).getD j 0)).wf = true from this)
  exact ⟨b256 (b 0 (by omega)), b256 (b 1 (by omega))⟩
theorem worth_nn {l : List Od} (h : Ok6 l) {i : Nat} (hi : i < l.length) : leastO (wo l i) ≤ leastO l ∧ leastO l ≤ fnl l i + leastO (wo l i) := by
  obtain ⟨w1, T, w2, w3, w4⟩ := wo_least h hi
  obtain ⟨T', hT⟩ := best_ex h
  constructor
  · have hd : Pos (dyl l) l.length (del T' i) := hT.1.sub fun j _ hj => by simp only [del, Bool.and_eq_true] at hj; exact hj.1
    have hdi : del T' i i = false := by simp [del]
    have h1 := w1 _ hd hdi
    have h2 := hT.2
    have h3 := h.fn hi
    cases q : T' i with
    | true => have := ws_del (fnl l) hi q; omega
    | false =>
      have : ws (fnl l) (del T' i) l.length = ws (fnl l) T' l.length := ws_congr (fun j _ => by
        rw [del]
        by_cases e : j = i
        · subst e; rw [q]; rfl
        · have : (j == i) = false := by simpa using e
          rw [this]; simp) fun _ _ _ => rfl
      omega
  · have := (leastO_ok h).1 T w2; omega

theorem tb_full (n i : Nat) : tb (2 ^ n - 1) i = decide (i < n) := Nat.testBit_two_pow_sub_one n i

theorem eqs22 {a b : List Int} (e : a = b) (h : a.length ≤ 1000) : B22 a b = some true := by rw [B22, if_pos h, decide_eq_true e]

theorem ten {l : List Od} (hk : Dk l) : l10a (some true) B22 B30 B32 B38 B40 B41 B43 100 l (leastO l, (bests l).map Int.ofNat) 100 ((2 ^ l.length - 1 : Nat) : Int) 0 0 = some true := by
  have h6 := hk.six
  have hc := hk.ck
  have hlen := hk.len
  have hp : 2 ^ l.length ≤ 2 ^ 6 := Nat.pow_le_pow_right (by decide) hlen
  have hp0 := Nat.two_pow_pos l.length
  have hbl := bests_len l
  have hpow : IntKind.wrap .i64 ((1 : Int) * 2 ^ min (Int.toNat (l.length : Int)) 64) = ((2 ^ l.length : Nat) : Int) := one_i64 (by omega)
  have hwp : w64 (((2 ^ l.length : Nat) : Int) - 1) = ((2 ^ l.length - 1 : Nat) : Int) := by rw [w64_small (by omega)]; omega
  -- the end: what an order is worth
  have worth : ∀ (all : Nat) (hall : all < 2 ^ l.length) (hbit : ∀ i, i < l.length → alwP l i = tb all i), l10b (some true) B22 B30 B32 B38 B40 B41 B43 100 l (leastO l, (bests l).map Int.ofNat) (all : Int) 100 0 = some true := fun all hall hbit =>
    rangeIx l d3 (fun n (_ : Unit) t => l10b (some true) B22 B30 B32 B38 B40 B41 B43 100 l (leastO l, (bests l).map Int.ofNat) (all : Int) n t) (fun _ _ _ => True) (fun _ _ _ => some true)
      (fun n _ t x rest ht hx _ ih => by
        have e : ([] ++ l.take t) ++ l.drop (t + 1) = wo l t := by simp [wo]
        have b41 : B41 (wo l t) = some (leastO (wo l t), (bests (wo l t)).map Int.ofNat) := if_pos (h6.wo t)
        have b38 : B38 l (t : Int) = some (leastO l - leastO (wo l t), 0) := by
          rw [B38, if_pos (by omega), worO, if_pos hc, if_pos (by omega), Int.toNat_natCast]
        obtain ⟨w1, w2⟩ := worth_nn h6 ht
        have r1 := leastO_rng h6
        have r2 := leastO_rng (h6.wo t)
        have hb := bit0_i64 (s := all) (by omega) (show t ≤ 64 by omega)
        rw [Int.toNat_natCast] at hb
        have hf : (l.getD t ((0 : Int), ((0 : Int), ()))).2.1 = fnl l t := rfl
        have hs1 := small_of (n := 0 + (l.take t).length) (eb := 16) (by rw [List.length_take]; omega) (by decide)
        have hs2 := small_of (n := ([] ++ l.take t).length + (l.drop (t + 1)).length) (eb := 16) (by simp only [List.nil_append, List.length_take, List.length_drop]; omega) (by decide)
        have hlast : ((leastO l - leastO (wo l t) == fnl l t) != !all.testBit t) = false := by
          rw [show all.testBit t = tb all t from rfl, ← hbit t ht, alwP]
          by_cases q : fnl l t + leastO (wo l t) > leastO l
          · have e1 : (leastO l - leastO (wo l t) == fnl l t) = false := by simp; omega
            rw [e1, decide_eq_true q]; rfl
          · have e1 : (leastO l - leastO (wo l t) == fnl l t) = true := by simp; omega
            rw [e1, decide_eq_false q]; rfl
        simp only [l10b, ixA ht, ixB ht, cond_true, chk_true, Int.toNat_natCast, ixW ht (by omega), decide_eq_true (show (0 : Int) ≤ (t : Int) ∧ (t : Int) ≤ (l.length : Int) by omega), decide_eq_true (show (0 : Int) ≤ ((t + 1 : Nat) : Int) ∧ ((t + 1 : Nat) : Int) ≤ (l.length : Int) by omega), decide_eq_true (show (0 : Int) ≤ (t : Int) by omega), hs1, hs2, e, b41, b38, Option.bind_some, hb, hf]
        rw [w64_small (by omega)]
        have hbne : ∀ x : Int, (x != x) = false := fun x => by simp
        rw [hbne, hbne, cond_false, cond_false, decide_eq_false (show ¬ leastO l - leastO (wo l t) < 0 by omega), cond_false, decide_eq_false (show ¬ leastO l - leastO (wo l t) > fnl l t by omega), cond_false, hlast, cond_false]
        exact ih () trivial)
      (fun n _ _ => by simp only [l10b, ixE, cond_false, Option.bind_some]) 100 () (by omega) trivial
  have main := rangeInv ((bests l).map Int.ofNat) 0 (fun n (s : Int × Int) t => l10a (some true) B22 B30 B32 B38 B40 B41 B43 100 l (leastO l, (bests l).map Int.ofNat) n s.1 s.2 t) (fun xs s => ∃ (a b : Nat) (ys : List Nat), s = ((a : Int), (b : Int)) ∧ a < 2 ^ l.length ∧ b < 2 ^ l.length ∧ xs = ys.map Int.ofNat ∧ (∀ k ∈ ys, k < 2 ^ l.length) ∧ ∀ i, i < l.length → (alwP l i = true ↔ tb a i = true ∧ ∀ k ∈ ys, tb k i = true) ∧ (nevP l i = true ↔ tb b i = false ∧ ∀ k ∈ ys, tb k i = false)) (fun xs s => some true)
    (fun n s t x rest ht hx hI ih => by
      obtain ⟨a, b, ys, rfl, ha, hb, e, hy, hiff⟩ := hI
      cases ys with
      | nil => cases e
      | cons k ys =>
        simp only [List.map_cons, List.cons.injEq] at e
        obtain ⟨rfl, rfl⟩ := e
        have hk := hy k (by simp)
        have htl : t < (bests l).length := by simpa using ht
        simp only [l10a, ixA ht, ixB ht, cond_true, chk_true, Int.toNat_natCast, ixW ht (by rw [List.length_map]; omega), hx]
        have hand : bAnd .i64 (a : Int) (Int.ofNat k) = ((a &&& k : Nat) : Int) := bAnd_i64 (by omega) (by omega)
        have hor : bOr .i64 (b : Int) (Int.ofNat k) = ((b ||| k : Nat) : Int) := bOr_i64 (by omega) (by omega)
        rw [hand, hor]
        refine ih (_, _) ⟨a &&& k, b ||| k, ys, rfl, Nat.lt_of_le_of_lt Nat.and_le_left ha, Nat.or_lt_two_pow hb hk, rfl, fun j hj => hy j (List.mem_cons_of_mem _ hj), fun i hi => ?_⟩
        obtain ⟨i1, i2⟩ := hiff i hi
        rw [i1, i2, tb_and, tb_or, Bool.and_eq_true, Bool.or_eq_false_iff]
        simp only [List.mem_cons, forall_eq_or_imp]
        exact ⟨by rw [and_assoc], by rw [and_assoc]⟩)
    (fun n s hI => by
      obtain ⟨a, b, ys, rfl, ha, hb, e, hy, hiff⟩ := hI
      have : ys = [] := by simpa using e.symm
      subst this
      have h30 : B30 l = some (lstF (alwP l) l.length 0, 0) := by rw [B30, if_pos (by omega), alwO, if_pos hc]
      have h32 : B32 l = some (lstF (nevP l) l.length 0, 0) := by rw [B32, if_pos (by omega), nevO, if_pos hc]
      have hA : ∀ i, i < l.length → alwP l i = tb a i := fun i hi => by
        have := (hiff i hi).1
        cases q1 : alwP l i <;> cases q2 : tb a i <;> simp_all
      have h43a : B43 (a : Int) = some (lstM a) := if_pos ⟨by omega, by omega⟩
      obtain ⟨c, c1, c2, c3⟩ := andNot_bits (a := 2 ^ l.length - 1) (b := b) (by omega) (by omega)
      have hN : ∀ i, i < l.length → nevP l i = tb c i := fun i hi => by
        have := (hiff i hi).2
        rw [c3, tb_full, decide_eq_true hi, Bool.true_and]
        cases q1 : nevP l i <;> cases q2 : tb b i <;> simp_all
      have h43c : B43 (c : Int) = some (lstM c) := if_pos ⟨by omega, by omega⟩
      have e1 : lstF (alwP l) l.length 0 = lstM a := lstF_two (by omega) hA fun i hi _ => tb_big ha hi
      have e2 : lstF (nevP l) l.length 0 = lstM c := lstF_two (by omega) hN fun i hi _ => by rw [c3, tb_full, decide_eq_false (by omega), Bool.false_and]
      have n1 := lstF_len (alwP l) l.length 0
      have n2 := lstF_len (nevP l) l.length 0
      have z0 : ((0 : Int) != 0) = false := rfl
      simp only [l10a, ixE, cond_false, h30, h32, Option.bind_some, z0, h43a, eqs22 e1 (by omega), Bool.not_true, decide_eq_true (show (0 : Int) ≤ (l.length : Int) by omega), chk_true, hpow, hwp, c1, h43c, eqs22 e2 (by omega)]
      exact worth a ha hA) 100 (((2 ^ l.length - 1 : Nat) : Int), 0) (by rw [List.length_map]; omega) ⟨2 ^ l.length - 1, 0, bests l, rfl, by omega, by omega, rfl, fun k hk => ((bests_mem h6).1 hk).1, fun i hi => by
      refine ⟨?_, ?_⟩
      · rw [alwP, decide_eq_true_eq, tb_full, decide_eq_true hi]
        refine (alw_iff h6 hi).trans ⟨fun hT => ⟨rfl, fun k hk => hT _ ((bests_mem h6).1 hk).2⟩, fun hT T hB' => ?_⟩
        have := hT.2 _ (bests_mask h6 hB')
        rw [maskT_bit, decide_eq_true hi, Bool.true_and] at this
        exact this
      · refine (nevP_iff h6 hi).trans ⟨fun hT => ⟨tb_0 i, fun k hk => hT _ ((bests_mem h6).1 hk).2⟩, fun hT T hB' => ?_⟩
        have := hT.2 _ (bests_mask h6 hB')
        rw [maskT_bit, decide_eq_true hi, Bool.true_and] at this
        exact this⟩
  exact main

theorem KB10 : FnOk Try.prog 10 (F10 fun d => if ∀ p ∈ d, u8p p then some true else none) := ok10 (some true) B22 B30 B32 B38 B40 B41 B43 K14t KB22 KB30 KB32 KB38 KB40 KB41 KB43 _ fun d r h => ⟨100, by
  split at h
  · rename_i hd
    have hk := mkD_ok d
    have hlen := hk.len
    have hp : 2 ^ (mkD d).length ≤ 2 ^ 6 := Nat.pow_le_pow_right (by decide) hlen
    have hp0 := Nat.two_pow_pos (mkD d).length
    have hpow : IntKind.wrap .i64 ((1 : Int) * 2 ^ min (Int.toNat ((mkD d).length : Int)) 64) = ((2 ^ (mkD d).length : Nat) : Int) := one_i64 (by omega)
    have hwp : w64 (((2 ^ (mkD d).length : Nat) : Int) - 1) = ((2 ^ (mkD d).length - 1 : Nat) : Int) := by rw [w64_small (by omega)]; omega
    have h41 : B41 (mkD d) = some (leastO (mkD d), (bests (mkD d)).map Int.ofNat) := if_pos hk.six
    rw [← h, m10, B40, if_pos hd, Option.bind_some, h41, Option.bind_some, decide_eq_true (show (0 : Int) ≤ ((mkD d).length : Int) by omega), chk_true, hpow, hwp]
    exact ten hk
  · cases h⟩
theorem K (y0 : List (List Int)) (_ : DT.wf (.sl (.arr 2 (.int .u8))) y0) : FnOk Try.prog 10 (F10 (fun d => if ∀ p ∈ d, u8p p then some true else none)) := KB10

set_option maxRecDepth 100000 in
theorem walk (w : World) (vs : List Value) (h : ArgsOk w [.sl (.arr 2 (.int .u8))] vs) : Calls Try.prog 10 vs.toArray w fun e w' => e = .returned (.bool true) ∧ Below w.heap.size w w' := by
  obtain ⟨v0, vs0, y0, rfl, w0, h0, k0⟩ := ArgsOk.cons h
  obtain rfl := ArgsOk.nil k0
  exact walkAll (K y0 w0) (xs := [.dv (.sl (.arr 2 (.int .u8))) y0]) (r := true) (if_pos (wfD w0)) rfl (HoldsAll.cons h0 HoldsAll.nil)

set_option maxRecDepth 100000 in
theorem lifted (os : Os) (started : os.Started) (H : Type) (enc : TypeId × Value → H) :
    ReturnsInHanded {} Try.checked os 10 .any (Rows.pressSureSpec.pre6 enc Try.prog Try.f10 Rows.pressSureRow.domain false) (Rows.pressSureSpec.post enc Try.prog Try.f10 false true false false) :=
  lawShell (fn := Try.f10) (s := Rows.pressSureSpec) (tb := 4) [.sl (.arr 2 (.int .u8))] Try.func10 (by kernel_rfl) (by kernel_rfl) (by kernel_rfl) Try.underlying4 (by kernel_rfl) os started H enc Rows.pressSureRow.domain
    (fun ds hl => by
      match ds, hl with
      | [d0], _ => rfl)
    (ChangeSpec.witness6 (enc := enc) (C := Try.checked) false ⟨#[], #[.slice none 0 0], []⟩ 8 (by kernel_rfl) (by kernel_rfl) (by kernel_rfl) (by kernel_rfl)) walk

theorem over : Rows.pressSureRow.holds Try.pinned (OpenSpec.ofChange Rows.pressSureSpec) :=
  OpenClaim.holds_of_wide 10 Try.f10 rfl rfl rfl rfl rfl rfl rfl ⟨rfl, rfl, rfl, rfl, rfl⟩ rfl rfl rfl rfl rfl (by kernel_rfl) Try.func10 (by kernel_rfl)
    (of_decide_eq_true (by kernel_rfl)) (by unfold Func.isWrapper; first | (rw [if_pos (by decide +kernel)]; kernel_rfl) | (rw [if_neg (by decide +kernel)]; exact ⟨rfl, rfl⟩))
    (fun os started H enc _ => lifted os started H enc)

/-- THE STATEMENT. -/
theorem proved : Rows.PressSureSaid := over

end Go.Proofs.Ytbblnbolabpfmaa.pressSure
