/-
  The law InkMore returns true and turns nothing that was there.
-/
import Derived.Test.YtaioadjcdjmkdaaJ13
import Derived.Test.YtaioadjcdjmkdaaQM11
import Derived.Test.YtaioadjcdjmkdaaRows
import Derived.Test.YtaioadjcdjmkdaaEN
import Derived.WalkKit
import Derived.ProofKit
import Derived.OpenShut
import Derived.ChangeOld
import Derived.Below
namespace Go.Proofs.Ytaioadjcdjmkdaa.inkMore
open Go.RowKit Go.ChangeShapes Go.WideShapes Go.ChangeAt
set_option linter.unusedVariables false
theorem mkP_small (e : Pal) : (mkP e).2.1.length ≤ 3 ∧ (mkP e).1.toNat ≤ 5 := by
  rw [mkP_n]
  refine ⟨?_, by unfold mkN; omega⟩
  show (mkInks e).length ≤ 3
  unfold mkInks
  split
  · simp
  · simp only [List.length_map, List.length_take]; omega
def B11 (e : Pal) (by_ : List Int) (at_ w : Int) (other : List Int) : Option Bool := if okE e = true ∧ okB by_ = true ∧ (0 ≤ at_ ∧ at_ < 256) ∧ (0 ≤ w ∧ w < 256) ∧ other.length = 5 ∧ okB other = true then some true else none
theorem KB11 : FnOk Try.prog 11 (F11 B11) := ok11 (some true) B17 B29 B35 B41 B42 B49 K16t KB17 KB29 KB35 KB41 KB42 KB49 B11 fun e by_ at_ w other r h => by
  simp only [B11] at h
  split at h
  · rename_i hf
    obtain ⟨he, hb, hat, hw, ho5, ho⟩ := hf
    have hb' : ∀ b ∈ by_, 0 ≤ b ∧ b < 256 := by simpa [okB] using hb
    have ho' : ∀ b ∈ other, 0 ≤ b ∧ b < 256 := by simpa [okB] using ho
    obtain ⟨N, hN⟩ : ∃ N, 1000 < N := ⟨1001, by omega⟩
    refine ⟨N, ?_⟩
    have e42 := B42_ok (e := e) hb' (k := 10) (by omega)
    have hp := mkP_ok e
    have hsm := mkP_small e
    rw [← h, m11]
    rw [show ((10 : Nat) : Int) = 10 from rfl] at e42
    rw [B41, if_pos he, Option.bind_some, e42, Option.bind_some]
    obtain ⟨hs, hl7⟩ := sqB_ok hp by_ 10
    generalize sqB (mkP e) by_ 10 = l at *
    generalize mkP e = p at *
    obtain ⟨n2, n7, hn⟩ := nat7 hp
    have h7 := pow_le7 n7
    have hm1 := hp.i1
    obtain ⟨at_, rfl⟩ : ∃ z : Nat, at_ = z := ⟨at_.toNat, by omega⟩
    obtain ⟨w, rfl⟩ : ∃ z : Nat, w = z := ⟨w.toNat, by omega⟩
    have hk : at_ % (l.length + 1) < l.length + 1 := Nat.mod_lt _ (by omega)
    have hwm : w % p.2.1.length < p.2.1.length := Nat.mod_lt _ (by omega)
    have hwn : w % p.1.toNat < p.1.toNat := Nat.mod_lt _ (by omega)
    have a1 : w64 ((l.length : Int) + 1) = ((l.length + 1 : Nat) : Int) := w64_succ (by omega)
    have a2 : Int.tmod (w64 (at_ : Int)) ((l.length + 1 : Nat) : Int) = ((at_ % (l.length + 1) : Nat) : Int) := by rw [w64_small (by omega)]; exact tmod_nat ..
    have a3 : Int.tmod (w64 (w : Int)) (p.2.1.length : Int) = ((w % p.2.1.length : Nat) : Int) := by rw [w64_small (by omega)]; exact tmod_nat ..
    have a4 : Int.tmod (w64 (w : Int)) p.1 = ((w % p.1.toNat : Nat) : Int) := by
      rw [w64_small (by omega)]; conv => lhs; rw [hn]
      exact tmod_nat ..
    generalize at_ % (l.length + 1) = k at *
    generalize w % p.2.1.length = wm at *
    generalize w % p.1.toNat = wn at *
    have htk : (l.take k).length = k := by simp; omega
    have hdk : (l.drop k).length = l.length - k := by simp
    have c1 : decide (((l.length + 1 : Nat) : Int) ≠ 0) = true := decide_eq_true (by omega)
    have c2 : decide (0 ≤ (k : Int) ∧ (k : Int) ≤ (l.length : Int)) = true := decide_eq_true (by omega)
    have c3 : small (0 + (l.take k).length) 8 = true := small_of (by omega) (by decide)
    have c4 : decide ((p.2.1.length : Int) ≠ 0) = true := decide_eq_true (by omega)
    have c5 : small ((l.take k).length + 1) 8 = true := small_of (by omega) (by decide)
    have c6 : small ((l.take k ++ [(wm : Int)]).length + (l.drop k).length) 8 = true := small_of (by rw [List.length_append, htk, hdk]; simp; omega) (by decide)
    have c7 : small (0 + p.2.1.length) 24 = true := small_of (by omega) (by decide)
    have c8 : decide (p.1 ≠ 0) = true := decide_eq_true (by omega)
    simp only [a1, a2, a3, c1, c2, c3, c4, c5, c6, c7, chk_true, Int.toNat_natCast, List.nil_append]
    -- the end
    have fin : ∀ (thin full : List Int), InkOk p.1.toNat thin → InkOk p.1.toNat full → (∀ c, c < p.1.toNat → full.getD c 0 = (wn : Int)) → ∀ n, l11a (some true) B17 B29 B35 B41 B42 B49 N (at_ : Int) (w : Int) other p l (n + 1) p.1 thin full = some true := by
      intro thin full ht hf hfl n
      have hq : PalOk (addP p [thin, full]) := addP_ok hp (fun k hk => by
        rcases List.mem_cons.1 hk with rfl | hk
        · exact ht
        · simp at hk; subst hk; exact hf) (by simp; omega)
      have hws : 0 ≤ (wm : Int) ∧ (wm : Int) < (p.2.1.length : Int) := by omega
      have hst : SeqOk p (l.take k) := fun x hx => hs x (List.mem_of_mem_take hx)
      have hsd : SeqOk p (l.drop k) := fun x hx => hs x (List.mem_of_mem_drop hx)
      have hsm2 : SeqOk p ((l.take k ++ [(wm : Int)]) ++ l.drop k) := fun x hx => by
        rcases List.mem_append.1 hx with hx | hx
        · exact seq_snoc hst hws x hx
        · exact hsd x hx
      have hlm : ((l.take k ++ [(wm : Int)]) ++ l.drop k).length ≤ 12 := by simp; omega
      have ew : w64 (((p.2.1 ++ [thin, full]).length : Int) - 1) = ((p.2.1.length + 1 : Nat) : Int) := by
        rw [w64_small (by simp; omega)]; simp; omega
      have hsq : SeqOk (addP p [thin, full]) (l ++ [((p.2.1.length + 1 : Nat) : Int)]) := seq_snoc (seq_addP hs) (by
        show 0 ≤ ((p.2.1.length + 1 : Nat) : Int) ∧ ((p.2.1.length + 1 : Nat) : Int) < ((p.2.1 ++ [thin, full]).length : Int)
        simp; omega)
      have hgl := giv_lt hp hs
      have eS : givI (addP p [thin, full]) (l ++ [((p.2.1.length + 1 : Nat) : Int)]) = givI p l ||| 2 ^ wn := by
        rw [giv_snoc, Int.toNat_natCast]
        have e1 : givI (addP p [thin, full]) l = givI p l := giv_addP _ l 1 hs
        have e2 : (addP p [thin, full]).2.1.getD (p.2.1.length + 1) [] = full := by
          show (p.2.1 ++ [thin, full]).getD (p.2.1.length + 1) [] = full
          rw [List.getD_eq_getElem?_getD, List.getElem?_append_right (by omega), show p.2.1.length + 1 - p.2.1.length = 1 by omega]; rfl
        rw [e1, e2, addI_flat hfl hgl.1 hgl.2 n7, Int.toNat_natCast]
      have bA := B17_ok hp hs (by omega)
      have bM := B17_ok hp hsm2 hlm
      have bE := B29_ok hp
      have bQ := B29_ok hq
      have bS := B17_ok hq hsq (by simp; omega)
      rw [eS] at bS
      have s1 : small (p.2.1.length + 2) 24 = true := small_of (by omega) (by decide)
      have s2 : small (0 + l.length) 8 = true := small_of (by omega) (by decide)
      have s3 : small (l.length + 1) 8 = true := small_of (by omega) (by decide)
      have w1 := within_ok (giv_more hp hst hsd hws)
      rw [List.take_append_drop] at w1
      have w2 := within_ok (it_addP hp hq p.1.toNat)
      have bQ' : B29 (p.1, p.2.1 ++ [thin, full], ()) = some (colsI (itI (addP p [thin, full]) p.1.toNat), 0) := bQ
      have bS' : B17 (p.1, p.2.1 ++ [thin, full], ()) (l ++ [((p.2.1.length + 1 : Nat) : Int)]) = some (colsI (givI p l ||| 2 ^ wn), 0) := bS
      simp only [l11a, decide_eq_false (by omega : ¬ p.1 < p.1), cond_false, List.nil_append, s1, s2, s3, chk_true, a1, a2, a3, a4, Int.toNat_natCast, bA, bM, bE, bQ', bS', ew, Option.bind_some, bne_self_eq_false, w1, w2, Bool.not_true, c8]
      -- stones
      have stones : l11d (some true) B17 B29 B35 B41 B42 B49 N p thin full N 0 = some true := by
        exact countUp 0 p.1 (by omega) (fun n (_ : Unit) t => l11d (some true) B17 B29 B35 B41 B42 B49 N p thin full n t) (fun _ _ => True) (fun _ _ => some true)
          (fun n _ t h1 h2 _ ih => by
            obtain ⟨c, rfl⟩ : ∃ c : Nat, t = c := ⟨t.toNat, by omega⟩
            have e1 := B35_ok hp (c := c) (by omega)
            have e2 : B35 (p.1, p.2.1 ++ [thin, full], ()) (c : Int) = _ := B35_ok hq (c := c) (by show c < p.1.toNat; omega)
            simp only [l11d, decide_eq_true h2, cond_true, List.nil_append, e1, e2, Option.bind_some, w64_small (show -4611686018427387904 ≤ (c : Int) + 1 ∧ (c : Int) + 1 ≤ 4611686018427387904 by omega), ih () trivial]
            cases ef : fewI p (2 ^ c) with
            | none => rfl
            | some m =>
              obtain ⟨m1, m2, _⟩ := few_some hp ef
              obtain ⟨m', f1, f2⟩ := few_of hq (want := 2 ^ c) (seq_addP m1) (sv_bit.2 (by
                show (givI (addP p [thin, full]) m).testBit c = true
                rw [show givI (addP p [thin, full]) m = givI p m from giv_addP _ m 1 m1]
                exact sv_bit.1 m2))
              have hle := sle_len f2
              rw [f1]
              show cond ((0 : Int) == 0) (cond ((0 : Int) != 0) (some false) (cond (decide ((m'.length : Int) > (m.length : Int))) (some false) (some true))) (some true) = some true
              rw [decide_eq_false (by omega)]; rfl)
          (fun n _ _ => by simp only [l11d, decide_eq_false (by omega : ¬ p.1 < p.1), cond_false, Option.bind_some]) N () (by omega) trivial
      -- the union
      have after : ∀ um : List (Int × Bool), (∀ q ∈ um, q.2 = true) → (um.map (·.1)).Nodup → (∀ y, y ∈ um.map (·.1) ↔ y = (wn : Int) ∨ y ∈ colsI (givI p l)) → l11c (some true) B17 B29 B35 B41 B42 B49 N p thin full (colsI (givI p l ||| 2 ^ wn), 0) um N 0 = some true := by
        intro um u1 u2 u3
        have key : ∀ y, y ∈ colsI (givI p l ||| 2 ^ wn) ↔ y ∈ um.map (·.1) := fun y => by
          rw [u3]
          constructor
          · intro hy
            obtain ⟨c, rfl, hc, hb⟩ := colsI_nat hy
            rw [Nat.testBit_or, Nat.testBit_two_pow] at hb
            simp only [Bool.or_eq_true, decide_eq_true_eq] at hb
            rcases hb with hb | hb
            · exact .inr (colsI_mem.2 ⟨hc, hb⟩)
            · exact .inl (by omega)
          · rintro (rfl | hy)
            · exact colsI_mem.2 ⟨by omega, by rw [Nat.testBit_or, Nat.testBit_two_pow]; simp⟩
            · obtain ⟨c, rfl, hc, hb⟩ := colsI_nat hy
              exact colsI_mem.2 ⟨hc, by rw [Nat.testBit_or, hb]; rfl⟩
        have hlen : (colsI (givI p l ||| 2 ^ wn)).length = um.length := by
          have l1 := (colsI_nodup (givI p l ||| 2 ^ wn)).length_le_of_subset (fun y hy => (key y).1 hy)
          have l2 := u2.length_le_of_subset (fun y hy => (key y).2 hy)
          rw [List.length_map] at l1 l2; omega
        have hc7 := colsI_len (givI p l ||| 2 ^ wn)
        exact rangeInv (colsI (givI p l ||| 2 ^ wn)) 0 (fun n (_ : Unit) t => l11c (some true) B17 B29 B35 B41 B42 B49 N p thin full (colsI (givI p l ||| 2 ^ wn), 0) um n t) (fun xs _ => ∀ x ∈ xs, x ∈ um.map (·.1)) (fun _ _ => some true)
          (fun n _ t x rest ht hx hI ih => by
            have hg : (mget (kt := .int .i64) (vt := .bool) um ((colsI (givI p l ||| 2 ^ wn)).getD t 0)).getD false = true := by
              refine (get_of (m := um) u1).trans ?_
              rw [hx]; exact decide_eq_true (hI x (by simp))
            simp only [l11c, ixA ht, ixB ht, cond_true, chk_true, Int.toNat_natCast, ixW ht (by omega), ih () (fun y hy => hI y (by simp [hy]))]
            refine (congrArg (fun b : Bool => cond (!b) (some false) (some true)) hg).trans rfl)
          (fun n _ _ => by
            have : (((colsI (givI p l ||| 2 ^ wn)).length : Int) != (um.length : Int)) = false := by rw [bne_eq_false_iff_eq, hlen]
            simp only [l11c, ixE, cond_false, this, stones]) N () (by omega) (fun x hx => (key x).1 hx)
      have hcA := colsI_len (givI p l)
      exact rangeInv (colsI (givI p l)) 0 (fun n (um : List (Int × Bool)) t => l11b (some true) B17 B29 B35 B41 B42 B49 N p thin full (colsI (givI p l), 0) (colsI (givI p l ||| 2 ^ wn), 0) n t um) (fun xs um => (∀ q ∈ um, q.2 = true) ∧ (um.map (·.1)).Nodup ∧ ∀ y, (y ∈ um.map (·.1) ∨ y ∈ xs) ↔ y = (wn : Int) ∨ y ∈ colsI (givI p l)) (fun _ _ => some true)
        (fun n um t x rest ht hx hI ih => by
          obtain ⟨u1, u2, u3⟩ := hI
          obtain ⟨v1, v2, v3⟩ := put_of (m := um) (x := x) u1 u2
          simp only [l11b, ixA ht, ixB ht, cond_true, chk_true, Int.toNat_natCast, ixW ht (by omega), hx]
          exact ih _ ⟨v1, v2, fun y => by
            rw [v3, ← u3, List.mem_cons]
            constructor
            · rintro ((h | h) | h)
              · exact .inl h
              · exact .inr (.inl h)
              · exact .inr (.inr h)
            · rintro (h | h | h)
              · exact .inl (.inl h)
              · exact .inl (.inr h)
              · exact .inr h⟩)
        (fun n um hI => by
          obtain ⟨u1, u2, u3⟩ := hI
          simp only [l11b, ixE, cond_false]
          exact after um u1 u2 fun y => by rw [← u3]; simp) N _ (by omega) (by
            obtain ⟨v1, v2, v3⟩ := put_of (m := []) (x := (wn : Int)) (fun q hq => by cases hq) (by simp)
            exact ⟨v1, v2, fun y => by rw [v3]; simp⟩)
    have main := rangeIx (List.range p.1.toNat) 0 (fun n (s : List Int × List Int) t => l11a (some true) B17 B29 B35 B41 B42 B49 N (at_ : Int) (w : Int) other p l n t s.1 s.2) (fun t xs s => s.1.length = t ∧ (∀ c ∈ s.1, 0 ≤ c ∧ c < (p.1.toNat : Int)) ∧ s.2 = List.replicate t (wn : Int)) (fun _ _ _ => some true)
      (fun n s t x rest ht hx hI ih => by
        obtain rfl := range_at ht hx
        simp only [List.length_range] at ht
        obtain ⟨i1, i2, i3⟩ := hI
        have hl2 : s.2.length = x := by rw [i3]; simp
        have e1 : decide ((x : Int) < p.1) = true := decide_eq_true (by omega)
        have e2 : decide (0 ≤ (x : Int) ∧ (x : Int) < 5) = true := decide_eq_true (by omega)
        have hv := ho' _ (getD_mem (d := 0) (show x < other.length by omega))
        obtain ⟨z, hz⟩ : ∃ z : Nat, other.getD x 0 = z := ⟨(other.getD x 0).toNat, by omega⟩
        have e4 : Int.tmod (w64 (other.getD x 0)) p.1 = ((z % p.1.toNat : Nat) : Int) := by
          rw [hz, w64_small (by omega)]; conv => lhs; rw [hn]
          exact tmod_nat ..
        have hzn : z % p.1.toNat < p.1.toNat := Nat.mod_lt _ (by omega)
        simp only [l11a, e1, e2, c8, cond_true, chk_true, Int.toNat_natCast, e4, a4, chk_of (small_of (n := s.1.length + 1) (eb := 8) (by omega) (by decide)), chk_of (small_of (n := s.2.length + 1) (eb := 8) (by omega) (by decide)), ixW (t := x) (n := 7) (by omega) (by omega)]
        exact ih (s.1 ++ [((z % p.1.toNat : Nat) : Int)], s.2 ++ [(wn : Int)]) ⟨by simp [i1], fun c hc => by
          rcases List.mem_append.1 hc with hc | hc
          · exact i2 c hc
          · rw [List.mem_singleton] at hc; subst hc; exact ⟨Int.natCast_nonneg _, by omega⟩, by show s.2 ++ [(wn : Int)] = _; rw [i3, List.replicate_succ']⟩)
      (fun n s hI => by
        obtain ⟨i1, i2, i3⟩ := hI
        simp only [List.length_range] at i1 i3
        have e : (((List.range p.1.toNat).length : Nat) : Int) = p.1 := by simp only [List.length_range]; omega
        show l11a (some true) B17 B29 B35 B41 B42 B49 N (at_ : Int) (w : Int) other p l (n + 1) (((List.range p.1.toNat).length : Nat) : Int) s.1 s.2 = some true
        rw [e]
        refine fin s.1 s.2 ⟨i1, i2⟩ ⟨by rw [i3]; simp, fun c hc => by rw [i3] at hc; have := List.eq_of_mem_replicate hc; omega⟩ (fun c hc => by
          rw [i3, List.getD_eq_getElem?_getD, List.getElem?_replicate, if_pos hc]; rfl) n) N ([], []) (by simp; omega) ⟨rfl, (fun c hc => by simp at hc), rfl⟩
    exact main
  · cases h

theorem b256 {n : Int} (h : (Lit.int .u8 n).wf = true) : 0 ≤ n ∧ n < 256 := by have := bounds_u8 h; omega
theorem wfE {y : Pal} (h : DT.wf (.pair (.int .u8) (.pair (.sl (.arr 5 (.int .u8))) .unit)) y) : okE y = true := by
  obtain ⟨h1, ⟨_, h2⟩, _⟩ := (show (Lit.int .u8 y.1).wf = true ∧ (y.2.1.length ≤ maxLen ∧ ∀ i, i < y.2.1.length → DT.wf (.arr 5 (.int .u8)) (y.2.1.getD i (DT.dflt (.arr 5 (.int .u8))))) ∧ True from h)
  refine okE_ok.2 ⟨b256 h1, fun l hl => ?_⟩
  obtain ⟨i, hi, rfl⟩ := List.getElem_of_mem hl
  have := h2 i hi
  rw [List.getD_eq_getElem?_getD, List.getElem?_eq_getElem hi] at this
  obtain ⟨a, b⟩ := (show (y.2.1[i]).length = 5 ∧ ∀ j, j < (y.2.1[i]).length → (Lit.int .u8 ((y.2.1[i]).getD j 0)).wf = true from this)
  refine ⟨a, fun x hx => ?_⟩
  obtain ⟨j, hj, rfl⟩ := List.getElem_of_mem hx
  have := b256 (b j hj)
  rw [List.getD_eq_getElem?_getD, List.getElem?_eq_getElem hj] at this
  exact this
theorem okB_of {y : List Int} (h2 : ∀ i, i < y.length → (Lit.int .u8 (y.getD i 0)).wf = true) : okB y = true := by
  simp only [okB, List.all_eq_true, decide_eq_true_eq]
  intro x hx
  obtain ⟨j, hj, rfl⟩ := List.getElem_of_mem hx
  have := b256 (h2 j hj)
  rw [List.getD_eq_getElem?_getD, List.getElem?_eq_getElem hj] at this
  exact this
theorem wfB {y : List Int} (h : DT.wf (.sl (.int .u8)) y) : okB y = true := okB_of (show y.length ≤ maxLen ∧ ∀ i, i < y.length → (Lit.int .u8 (y.getD i 0)).wf = true from h).2
theorem wfA {n : Nat} {y : List Int} (h : DT.wf (.arr n (.int .u8)) y) : y.length = n ∧ okB y = true := by
  obtain ⟨h1, h2⟩ := (show y.length = n ∧ ∀ i, i < y.length → (Lit.int .u8 (y.getD i 0)).wf = true from h)
  exact ⟨h1, okB_of h2⟩
theorem K (y0 : Pal) (y1 : List Int) (y2 : Int) (y3 : Int) (y4 : List Int) (_ : DT.wf (.pair (.int .u8) (.pair (.sl (.arr 5 (.int .u8))) .unit)) y0) (_ : DT.wf (.sl (.int .u8)) y1) (_ : DT.wf (.int .u8) y2) (_ : DT.wf (.int .u8) y3) (_ : DT.wf (.arr 5 (.int .u8)) y4) : FnOk Try.prog 11 (F11 B11) := KB11

set_option maxRecDepth 100000 in
theorem walk (w : World) (vs : List Value) (h : ArgsOk w [.pair (.int .u8) (.pair (.sl (.arr 5 (.int .u8))) .unit), .sl (.int .u8), .int .u8, .int .u8, .arr 5 (.int .u8)] vs) : Calls Try.prog 11 vs.toArray w fun e w' => e = .returned (.bool true) ∧ Below w.heap.size w w' := by
  obtain ⟨v0, vs0, y0, rfl, w0, h0, k0⟩ := ArgsOk.cons h
  obtain ⟨v1, vs1, y1, rfl, w1, h1, k1⟩ := ArgsOk.cons k0
  obtain ⟨v2, vs2, y2, rfl, w2, h2, k2⟩ := ArgsOk.cons k1
  obtain ⟨v3, vs3, y3, rfl, w3, h3, k3⟩ := ArgsOk.cons k2
  obtain ⟨v4, vs4, y4, rfl, w4, h4, k4⟩ := ArgsOk.cons k3
  obtain rfl := ArgsOk.nil k4
  exact walkAll (K y0 y1 y2 y3 y4 w0 w1 w2 w3 w4) (xs := [.dv (.pair (.int .u8) (.pair (.sl (.arr 5 (.int .u8))) .unit)) y0, .dv (.sl (.int .u8)) y1, .dv (.int .u8) y2, .dv (.int .u8) y3, .dv (.arr 5 (.int .u8)) y4]) (r := true) (if_pos ⟨wfE w0, wfB w1, b256 w2, b256 w3, (wfA w4).1, (wfA w4).2⟩) rfl (HoldsAll.cons h0 (HoldsAll.cons h1 (HoldsAll.cons h2 (HoldsAll.cons h3 (HoldsAll.cons h4 HoldsAll.nil)))))

set_option maxRecDepth 100000 in
theorem lifted (os : Os) (started : os.Started) (H : Type) (enc : TypeId × Value → H) :
    ReturnsInHanded {} Try.checked os 11 .any (Rows.inkMoreSpec.pre6 enc Try.prog Try.f11 Rows.inkMoreRow.domain false) (Rows.inkMoreSpec.post enc Try.prog Try.f11 false true false false) :=
  lawShell (fn := Try.f11) (s := Rows.inkMoreSpec) (tb := 4) [.pair (.int .u8) (.pair (.sl (.arr 5 (.int .u8))) .unit), .sl (.int .u8), .int .u8, .int .u8, .arr 5 (.int .u8)] Try.func11 (by kernel_rfl) (by kernel_rfl) (by kernel_rfl) Try.underlying4 (by kernel_rfl) os started H enc Rows.inkMoreRow.domain
    (fun ds hl => by
      match ds, hl with
      | [d0, d1, d2, d3, d4], _ => rfl)
    (ChangeSpec.witness6 (enc := enc) (C := Try.checked) false ⟨#[], #[.agg #[.int .u8 0, .slice none 0 0], .slice none 0 0, .int .u8 0, .int .u8 0, .agg #[.int .u8 0, .int .u8 0, .int .u8 0, .int .u8 0, .int .u8 0]], []⟩ 8 (by kernel_rfl) (by kernel_rfl) (by kernel_rfl) (by kernel_rfl)) walk

theorem over : Rows.inkMoreRow.holds Try.pinned (OpenSpec.ofChange Rows.inkMoreSpec) :=
  OpenClaim.holds_of_wide 11 Try.f11 rfl rfl rfl rfl rfl rfl rfl ⟨rfl, rfl, rfl, rfl, rfl⟩ rfl rfl rfl rfl rfl (by kernel_rfl) Try.func11 (by kernel_rfl)
    (of_decide_eq_true (by kernel_rfl)) (by unfold Func.isWrapper; first | (rw [if_pos (by decide +kernel)]; kernel_rfl) | (rw [if_neg (by decide +kernel)]; exact ⟨rfl, rfl⟩))
    (fun os started H enc _ => lifted os started H enc)

/-- THE STATEMENT. -/
theorem proved : Rows.InkMoreSaid := over

end Go.Proofs.Ytaioadjcdjmkdaa.inkMore
