/-
 Count, of the reference.
-/
import Derived.Test.YtmpbbkldopfkpaaDoorL7
import Derived.Test.YtmpbbkldopfkpaaDoorL5
import Derived.Test.YtmpbbkldopfkpaaDoorQM50c
import Derived.Test.YtmpbbkldopfkpaaDoorQM19
namespace Go.Proofs.YtmpbbkldopfkpaaDoor
open Go.RowKit
set_option linter.unusedVariables false

theorem p62 : (2 : Nat) ^ 62 = 4611686018427387904 := by decide
theorem wrap_i64 {n : Nat} (h : n < 9223372036854775808) : IntKind.wrap .i64 (n : Int) = n := w64_nat h
theorem bOr_i64 {a b : Nat} (ha : a < 4611686018427387904) (hb : b < 4611686018427387904) : bOr .i64 (a : Int) (b : Int) = ((a ||| b : Nat) : Int) := by
 have h : a ||| b < 2 ^ 62 := Nat.or_lt_two_pow (by rw [p62]; exact ha) (by rw [p62]; exact hb)
 rw [p62] at h
 have e := or_bits 64 a b (by rw [p64]; omega) (by rw [p64]; omega)
 show IntKind.wrap .i64 ((((BitVec.ofInt 64 (a : Int)) ||| (BitVec.ofInt 64 (b : Int))).toNat : Nat) : Int) = _
 rw [e]
 exact wrap_i64 (by omega)
theorem bAnd_i64 {a b : Nat} (ha : a < 4611686018427387904) (hb : b < 4611686018427387904) : bAnd .i64 (a : Int) (b : Int) = ((a &&& b : Nat) : Int) := by
 have h : a &&& b < 2 ^ 62 := Nat.and_lt_two_pow a (by rw [p62]; exact hb)
 rw [p62] at h
 have e := and_bits 64 a b (by rw [p64]; omega) (by rw [p64]; omega)
 show IntKind.wrap .i64 ((((BitVec.ofInt 64 (a : Int)) &&& (BitVec.ofInt 64 (b : Int))).toNat : Nat) : Int) = _
 rw [e]
 exact wrap_i64 (by omega)
theorem bit_i64 {s c : Nat} (hs : s < 4611686018427387904) (hc : c ≤ 64) : ((bAnd .i64 (Int.fdiv (s : Int) (2 ^ min (Int.toNat (c : Int)) 64)) 1) == 1) = s.testBit c := by
 rw [Int.toNat_natCast, Nat.min_eq_left hc, fdiv_pow]
 have h := bAnd_i64 (a := s / 2 ^ c) (b := 1) (Nat.lt_of_le_of_lt (Nat.div_le_self _ _) hs) (by decide)
 rw [show ((1 : Nat) : Int) = 1 from rfl] at h
 rw [h]; exact bit_of s c
theorem shl_i64 {c : Nat} (h : c ≤ 14) : IntKind.wrap .i64 (1 * 2 ^ min c 64) = ((2 ^ c : Nat) : Int) := by
 have := pow14 h
 rw [Nat.min_eq_left (by omega), Int.one_mul, pow_cast, wrap_i64 (by omega)]
section
variable (D : UInt8 → UInt8 → Bool) (log : Wd)

def opn (g i : Nat) : Bool := !g.testBit i && fr D log (Rm log.length g) i
def run : Nat → Nat → List Int → List Int
 | 0, _, p => p
 | d + 1, g, p => if g = 2 ^ log.length - 1 then p else if p.getD g 0 > 0 then p else
  ((List.range' 0 log.length).foldl (fun p i => if opn D log g i = true then run d (g ||| 2 ^ i) p else p) p).set g ((Fm D log g : Nat) + 1)
def Vt (p : List Int) : Prop := p.length = 2 ^ log.length ∧ ∀ g, g < 2 ^ log.length → p.getD g 0 = 0 ∨ p.getD g 0 = (Fm D log g : Nat) + 1
end

section
variable {D : UInt8 → UInt8 → Bool} {log : Wd}

theorem Vt.set {p : List Int} (h : Vt D log p) {g : Nat} (hg : g < 2 ^ log.length) : Vt D log (p.set g ((Fm D log g : Nat) + 1)) := by
 refine ⟨by rw [List.length_set]; exact h.1, fun i hi => ?_⟩
 rw [List.getD_eq_getElem?_getD, List.getElem?_set]
 by_cases e : g = i
 ·subst e; rw [if_pos rfl, if_pos (by rw [h.1]; exact hg)]; exact .inr rfl
 ·rw [if_neg e, ← List.getD_eq_getElem?_getD]; exact h.2 i hi
theorem run_ok : ∀ (d g : Nat) (p : List Int), g < 2 ^ log.length → Vt D log p → Vt D log (run D log d g p)
 | 0, g, p, _, h => h
 | d + 1, g, p, hg, h => by
  simp only [run]
  split
  ·exact h
  ·split
   ·exact h
   ·refine Vt.set ?_ hg
    have main : ∀ (l : List Nat) (p : List Int), (∀ i ∈ l, i < log.length) → Vt D log p → Vt D log (l.foldl (fun p i => if opn D log g i = true then run D log d (g ||| 2 ^ i) p else p) p) := by
     intro l
     induction l with
     | nil => intro p _ h; exact h
     | cons i l ih =>
      intro p hl h
      rw [List.foldl_cons]
      refine ih _ (fun j hj => hl j (by simp [hj])) ?_
      split
      ·exact run_ok d _ p (Nat.or_lt_two_pow hg (Nat.pow_lt_pow_right (by decide) (hl i (by simp)))) h
      ·exact h
    exact main _ p (fun i hi => by have := List.mem_range'_1.1 hi; omega) h
end

open Classical in
noncomputable def B50 (d : Nat) : Of → Wd → Int → List Int → Option (Int × List Int) := fun o l g p =>
 if errO o = 0 ∧ l.length ≤ 14 ∧ Ls o l ∧ (0 ≤ g ∧ g < (2 ^ l.length : Nat)) ∧ Vt (Do o) l p ∧ (Rm l.length g.toNat).length < d then some ((Fm (Do o) l g.toNat : Nat), run (Do o) l d g.toNat p) else none
theorem Fm_le (D : UInt8 → UInt8 → Bool) {log : Wd} (hn : log.length ≤ 14) (m : Nat) : Fm D log m ≤ 14 ^ 14 := by
 unfold Fm
 have h : (Rm log.length m).length ≤ 14 := by
  unfold Rm
  exact Nat.le_trans (List.length_filter_le _ _) (by rw [List.length_range]; exact hn)
 exact Nat.le_trans (Fp_le _ _ _ _ h) (Nat.pow_le_pow_right (by decide) h)
theorem sum_range'_split (f : Nat → Nat) {i n : Nat} (h : i ≤ n) : ((List.range' 0 n).map f).sum = ((List.range' 0 i).map f).sum + ((List.range' i (n - i)).map f).sum := by
 have : List.range' 0 n = List.range' 0 i ++ List.range' i (n - i) := by
  have := List.range'_append_1 (s := 0) (m := i) (n := n - i)
  rw [Nat.zero_add, show i + (n - i) = n by omega] at this
  exact this.symm
 rw [this, List.map_append, List.sum_append]
theorem kb50 : ∀ d : Nat, FnOk Tryd.prog 50 (F50c (B50 d))
 | 0 => fun args Of x hx => by
  simp only [F50c, B50] at hx
  split at hx
  ·rw [if_neg (by omega)] at hx; cases hx
  ·cases hx
 | d + 1 => ok50c B48 (B50 d) kb48 (kb50 d) (B50 (d + 1)) fun o l g p r h => by
  unfold B50 at h
  split at h
  ·rename_i hq
   obtain ⟨h0, hn, hw, ⟨hg0, hg1⟩, hp, hd⟩ := hq
   obtain rfl := Option.some.inj h
   obtain ⟨g, rfl⟩ : ∃ k : Nat, g = (k : Int) := ⟨g.toNat, by omega⟩
   rw [Int.toNat_natCast] at hd ⊢
   have hg : g < 2 ^ l.length := by omega
   have h14 := pow14 hn
   have hpow : 1 ≤ 2 ^ l.length := Nat.one_le_two_pow
   have h1414 : (14 : Nat) ^ 14 = 11112006825558016 := by decide
   have hL := hw.isL h0
   refine ⟨20, ?_⟩
   unfold m50c
   rw [chk_dec (by omega), Int.toNat_natCast, shl_i64 hn, show ((2 ^ l.length : Nat) : Int) - 1 = ((2 ^ l.length - 1 : Nat) : Int) by omega, w64_nat (by omega)]
   simp only [run]
   by_cases hfull : g = 2 ^ l.length - 1
   ·rw [if_pos hfull, beq_iff_eq.2 (by omega), cond_true]
    have : Fm (Do o) l g = 1 := by
     unfold Fm
     have : Rm l.length g = [] := List.eq_nil_iff_forall_not_mem.2 fun i hi => by
      have := mem_Rm.1 hi
      rw [hfull, Nat.testBit_two_pow_sub_one] at this
      simp at this
      omega
     rw [this]; rfl
    rw [this]; rfl
   ·rw [if_neg hfull, beq_eq_false_iff_ne.2 (by omega), cond_false, chk_dec (by rw [hp.1]; omega), chk_dec (by rw [hp.1]; omega), Int.toNat_natCast]
    by_cases hk : p.getD g 0 > 0
    ·rw [if_pos hk, decide_eq_true hk, cond_true]
     rcases hp.2 g hg with e | e
     ·omega
     ·have := Fm_le (Do o) hn g
      rw [e, show (((Fm (Do o) l g : Nat) : Int) + 1 - 1) = ((Fm (Do o) l g : Nat) : Int) by omega, w64_nat (by omega)]
    ·rw [if_neg hk, decide_eq_false hk, cond_false]
     have hne : ∃ t, (Rm l.length g).length = t + 1 := by
      cases hr : Rm l.length g with
      | nil => exact absurd (Rm_nil hg hr) hfull
      | cons a b => exact ⟨b.length, rfl⟩
     obtain ⟨t, ht⟩ := hne
     have hF := Fm_sum (Do o) l ht
     have hFle := Fm_le (Do o) hn g
     refine (rangeIx l 0 (fun n (s : Int × List Int) i => l50ca B48 (B50 d) 20 o l (g : Int) n s.1 i s.2) (fun i _ s => s.1 = (((List.range' 0 i).map (gi (Do o) l g)).sum : Nat) ∧ Vt (Do o) l s.2)
      (fun i _ s => some (((Fm (Do o) l g : Nat) : Int), ((List.range' i (l.length - i)).foldl (fun p i => if opn (Do o) l g i = true then run (Do o) l d (g ||| 2 ^ i) p else p) s.2).set g ((Fm (Do o) l g : Nat) + 1))) (fun n s i x rest q1 q2 hI ih => ?_) (fun n s hI => ?_) 20 ((0 : Int), p) (by omega) ⟨rfl, hp⟩)
     ·obtain ⟨out, p⟩ := s
      obtain ⟨i1, i2⟩ := hI
      simp only at i1 i2 ih
      show l50ca B48 (B50 d) 20 o l (g : Int) (n + 1) out (i : Int) p = _
      have hi14 : i < 14 := by omega
      have hpi := pow14 (n := i) (by omega)
      have hsplit := sum_range'_split (gi (Do o) l g) (i := i) (n := l.length) (by omega)
      have hsplit2 : ((List.range' 0 (i + 1)).map (gi (Do o) l g)).sum = ((List.range' 0 i).map (gi (Do o) l g)).sum + gi (Do o) l g i := by
       rw [List.range'_concat, List.map_append, List.sum_append]; simp
      rw [range'_step q1, List.map_cons, List.sum_cons] at hsplit
      rw [range'_step q1, List.foldl_cons]
      rw [l50ca, ixA q1, cond_true, chk_dec (by omega), bit_i64 (by omega) (by omega)]
      have inner : ∀ (b : Bool), l50cb B48 (B50 d) 20 o l (g : Int) out (i : Int) p (fun y0 y1 y2 => l50ca B48 (B50 d) 20 o l (g : Int) n y0 y1 y2) 20 b 0 =
        cond (b && (List.range' 0 i).all fun k => g.testBit k || !Do o (l.getD k 0) (l.getD i 0)) ((B50 d o l (bOr .i64 (g : Int) (IntKind.wrap .i64 (1 * 2 ^ min i 64))) p).bind (fun r2 => l50ca B48 (B50 d) 20 o l (g : Int) n (w64 (out + r2.1)) (w64 ((i : Int) + 1)) r2.2))
        (l50ca B48 (B50 d) 20 o l (g : Int) n out (w64 ((i : Int) + 1)) p) := by
       intro b
       have key := countUp 0 (i : Int) (by omega) (fun m (s : Bool) k => l50cb B48 (B50 d) 20 o l (g : Int) out (i : Int) p (fun y0 y1 y2 => l50ca B48 (B50 d) 20 o l (g : Int) n y0 y1 y2) m s k) (fun k _ => 0 ≤ k) (fun k s => cond (s && (List.range' k.toNat (i - k.toNat)).all fun k => g.testBit k || !Do o (l.getD k 0) (l.getD i 0)) ((B50 d o l (bOr .i64 (g : Int) (IntKind.wrap .i64 (1 * 2 ^ min i 64))) p).bind (fun r2 => l50ca B48 (B50 d) 20 o l (g : Int) n (w64 (out + r2.1)) (w64 ((i : Int) + 1)) r2.2))
        (l50ca B48 (B50 d) 20 o l (g : Int) n out (w64 ((i : Int) + 1)) p)) (fun m s k k0 k1 _ jh => ?_) (fun m s _ => ?_) 20 b (by omega) (by omega)
       ·exact key
       ·obtain ⟨k, rfl⟩ : ∃ z : Nat, k = (z : Int) := ⟨k.toNat, by omega⟩
        have hki : k < i := by omega
        show l50cb B48 (B50 d) 20 o l (g : Int) out (i : Int) p (fun y0 y1 y2 => l50ca B48 (B50 d) 20 o l (g : Int) n y0 y1 y2) (m + 1) s (k : Int) = _
        have jh := fun s => jh s (by omega)
        rw [show ((k : Int) + 1) = ((k + 1 : Nat) : Int) by omega] at jh
        simp only [Int.toNat_natCast] at jh ⊢
        rw [range'_step (t := k) (k := i) hki, List.all_cons]
        rw [l50cb, decide_eq_true k1, cond_true, w64_succ (by omega)]
        cases s with
        | false =>
         rw [cond_false]
         have := jh false
         simpa using this
        | true =>
         rw [cond_true, chk_dec (by omega), bit_i64 (by omega) (by omega)]
         cases hb : g.testBit k with
         | true =>
          rw [cond_true]
          have := jh true
          simpa using this
         | false =>
          rw [cond_false, chk_dec (by omega), chk_dec (by omega), Int.toNat_natCast, Int.toNat_natCast, B48_of h0 (hL _ (getD_mem (by omega))) (hL _ (getD_mem q1)), Option.bind_some]
          have := jh (!Do o (l.getD k 0) (l.getD i 0))
          rw [this]
          simp
       ·show l50cb B48 (B50 d) 20 o l (g : Int) out (i : Int) p (fun y0 y1 y2 => l50ca B48 (B50 d) 20 o l (g : Int) n y0 y1 y2) (m + 1) s (i : Int) = _
        rw [l50cb, decide_eq_false (by omega), cond_false, Int.toNat_natCast, Nat.sub_self]
        cases s with
        | true => rw [cond_true, chk_dec (by omega)]; rfl
        | false => rfl
      have hfr : ((List.range' 0 i).all fun k => g.testBit k || !Do o (l.getD k 0) (l.getD i 0)) = fr (Do o) l (Rm l.length g) i := by
       unfold fr
       rw [Bool.eq_iff_iff, List.all_eq_true, List.all_eq_true]
       constructor
       ·intro hall k hk
        by_cases hki : k < i
        ·have h1 := hall k (List.mem_range'_1.2 (by omega))
         rw [(mem_Rm.1 hk).2, Bool.false_or] at h1
         rw [decide_eq_true hki, Bool.true_and]; exact h1
        ·rw [decide_eq_false hki]; rfl
       ·intro hall k hk
        have hki : k < i := by have := List.mem_range'_1.1 hk; omega
        cases hb : g.testBit k with
        | true => rfl
        | false =>
         have h1 := hall k (mem_Rm.2 ⟨by omega, hb⟩)
         rw [decide_eq_true hki, Bool.true_and] at h1
         rw [Bool.false_or]; exact h1
      rw [ixW q1 (by omega)] at inner ⊢
      cases hb : g.testBit i with
      | true =>
       have hgi : gi (Do o) l g i = 0 := by unfold gi; rw [if_neg (by simp [hb])]
       have hop : opn (Do o) l g i = false := by unfold opn; rw [hb]; rfl
       rw [cond_true, hop, if_neg (by simp)]
       exact ih (out, p) ⟨by rw [hsplit2, hgi, Nat.add_zero]; exact i1, i2⟩
      | false =>
       rw [cond_false, inner true, Bool.true_and, hfr]
       cases hf : fr (Do o) l (Rm l.length g) i with
       | false =>
        have hgi : gi (Do o) l g i = 0 := by unfold gi; rw [if_neg (by simp [hf])]
        have hop : opn (Do o) l g i = false := by unfold opn; rw [hf, Bool.and_false]
        rw [cond_false, hop, if_neg (by simp)]
        exact ih (out, p) ⟨by rw [hsplit2, hgi, Nat.add_zero]; exact i1, i2⟩
       | true =>
        have hgi : gi (Do o) l g i = Fm (Do o) l (g ||| 2 ^ i) := by unfold gi; rw [if_pos ⟨hb, hf⟩]
        have hop : opn (Do o) l g i = true := by unfold opn; rw [hb, hf]; rfl
        have hlt : g ||| 2 ^ i < 2 ^ l.length := Nat.or_lt_two_pow hg (Nat.pow_lt_pow_right (by decide) q1)
        have hbb : B50 d o l (bOr .i64 (g : Int) (IntKind.wrap .i64 (1 * 2 ^ min i 64))) p = some (((Fm (Do o) l (g ||| 2 ^ i) : Nat) : Int), run (Do o) l d (g ||| 2 ^ i) p) := by
         rw [shl_i64 (by omega), bOr_i64 (by omega) (by omega)]
         unfold B50
         have hlen : (Rm l.length ((g ||| 2 ^ i : Nat) : Int).toNat).length < d := by
          rw [Int.toNat_natCast, Rm_erase, List.length_erase_of_mem (mem_Rm.2 ⟨q1, hb⟩)]
          omega
         rw [if_pos ⟨h0, hn, hw, ⟨by omega, by omega⟩, i2, hlen⟩, Int.toNat_natCast]
        have hgle := Fm_le (Do o) hn (g ||| 2 ^ i)
        rw [cond_true, hbb, Option.bind_some, hop, if_pos rfl]
        rw [i1, ← Int.natCast_add, w64_nat (by omega)]
        exact ih ((((((List.range' 0 i).map (gi (Do o) l g)).sum + Fm (Do o) l (g ||| 2 ^ i) : Nat)) : Int), run (Do o) l d (g ||| 2 ^ i) p) ⟨by rw [hsplit2, hgi], run_ok d _ p hlt i2⟩
     ·obtain ⟨out, p⟩ := s
      obtain ⟨i1, i2⟩ := hI
      simp only at i1 i2
      show l50ca B48 (B50 d) 20 o l (g : Int) (n + 1) out (l.length : Int) p = _
      rw [← hF] at i1
      rw [l50ca, ixE, cond_false, chk_dec (by rw [i2.1]; omega), Int.toNat_natCast, Nat.sub_self, i1, w64_succ (by omega)]
      rfl
  ·cases h
theorem kb19 : FnOk Tryd.prog 19 (F19 B18) := ok19 B44 (B50 20) kb44 (kb50 20) B18 fun o l r h => ⟨0, by
 obtain rfl := Option.some.inj h
 unfold m19
 show (B44 o l).bind _ = _
 unfold B44
 rw [Option.bind_some]
 by_cases he : errA o [l] = 0
 ·obtain ⟨h1, h2⟩ := errA_word he (l := l) (by simp)
  have h0 := (errA_zero he).1
  have h14 := pow14 h1
  have hpow : 1 ≤ 2 ^ l.length := Nat.one_le_two_pow
  rw [he, if_pos rfl]
  show cond false _ _ = _
  rw [cond_false, chk_dec (by omega), Int.toNat_natCast, shl_i64 h1, Int.toNat_natCast]
  have hmk : mkOk ((2 ^ l.length : Nat) : Int) ((2 ^ l.length : Nat) : Int) 8 = true := by
   simp only [mkOk, Bool.and_eq_true, decide_eq_true_eq]
   omega
  have hb : B50 20 o l 0 (List.replicate (2 ^ l.length) 0) = some (((Fm (Do o) l 0 : Nat) : Int), run (Do o) l 20 0 (List.replicate (2 ^ l.length) 0)) := by
   unfold B50
   have hz : (Rm l.length 0).length < 20 := by rw [Rm_zero, List.length_range]; omega
   rw [if_pos ⟨h0, h1, h2, ⟨by omega, by omega⟩, ⟨by simp, fun g hg => .inl (by simp [List.getD, hg])⟩, hz⟩]
   rfl
  have hF : Fp (Do o) l l.length (List.range l.length) = Fm (Do o) l 0 := by unfold Fm; rw [Rm_zero, List.length_range]
  rw [chk_of hmk, hb, hF]; rfl
 ·have : (errA o [l] != 0) = true := by simpa using he
  rw [this, cond_true, if_neg he]⟩
end Go.Proofs.YtmpbbkldopfkpaaDoor
