/-
  The law LettersMore returns true and turns nothing that was there; the tables are what the program lays.
-/
import Derived.Test.YtmpbbkldopfkpaaDoorL12
import Derived.Test.YtmpbbkldopfkpaaDoorL7
import Derived.Test.YtmpbbkldopfkpaaDoorQM9
import Derived.Test.YtmpbbkldopfkpaaDoorWC0
import Derived.Test.YtmpbbkldopfkpaaDoorRows
import Derived.Test.YtmpbbkldopfkpaaDoorLD
import Derived.WalkKit
import Derived.ProofKit
import Derived.OpenShut
import Derived.ChangeOld
import Derived.Below
namespace Go.Proofs.YtmpbbkldopfkpaaDoor.lettersMore
open Go.RowKit Go.ChangeShapes Go.WideShapes Go.ChangeAt
set_option linter.unusedVariables false
theorem wfU {z : Int} (h : DT.wf (.int .u8) z) : u8z z := by
  have := bounds_u8 (show (Lit.int .u8 z).wf = true from h)
  unfold u8z; omega
theorem wfLs {y : List Int} (h : DT.wf (.sl (.int .u8)) y) : u8l y := by
  obtain ⟨h1, h2⟩ := (show y.length ≤ maxLen ∧ ∀ j, j < y.length → (Lit.int .u8 (y.getD j 0)).wf = true from h)
  refine ⟨fun z hz => ?_, h1⟩
  obtain ⟨j, hj, rfl⟩ := List.getElem_of_mem hz
  have := wfU (show DT.wf (.int .u8) _ from h2 j hj)
  rw [List.getD_eq_getElem?_getD, List.getElem?_eq_getElem hj] at this
  exact this
theorem wfDq {y : Int × Int × Unit} (h : DT.wf (.pair (.int .u8) (.pair (.int .u8) .unit)) y) : u8z y.1 ∧ u8z y.2.1 := by
  obtain ⟨h1, h2, _⟩ := (show DT.wf (.int .u8) y.1 ∧ DT.wf (.int .u8) y.2.1 ∧ True from h)
  exact ⟨wfU h1, wfU h2⟩

theorem bOr8 {F b : Nat} (hF : F < 256) (hb : b < 6) : bOr .u8 (F : Int) (IntKind.wrap .u8 (1 * 2 ^ min b 8)) = ((F ||| 2 ^ b : Nat) : Int) ∧ F ||| 2 ^ b < 256 := by
  have hp := pw_lt hb
  have e : IntKind.wrap .u8 (1 * 2 ^ min b 8) = ((2 ^ b : Nat) : Int) := by
    rw [Nat.min_eq_left (by omega), Int.one_mul, pow_cast, wrap_u8 (Int.natCast_nonneg _) (by omega)]
  have hor : F ||| 2 ^ b < 256 := Nat.or_lt_two_pow (n := 8) hF (by omega)
  refine ⟨?_, hor⟩
  rw [e]
  have e2 := or_bits 8 F (2 ^ b) hF (by omega)
  show IntKind.wrap .u8 ((((BitVec.ofInt 8 (F : Int)) ||| (BitVec.ofInt 8 ((2 ^ b : Nat) : Int))).toNat : Nat) : Int) = _
  rw [e2, wrap_u8 (Int.natCast_nonneg _) (by omega)]

theorem even9 {K : Nat} {a c : Wd} (ha : Ls (offN K 0) a) (hc : Ls (offN K 0) c) (la : a.length ≤ 14) (lc : c.length ≤ 14) (r12 : Bool × Int) (hr : r12.1 = true ↔ ∀ x, prj x x a = prj x x c) :
    l9a (some true) B18 B26 B27 B28 B32 B34 10 a c r12 10 true 97 = some true := by
  have h0 := (off_ok (K := K) (F := 0)).1
  have hk := kOf_le K
  have main : ∀ (n m : Nat) (e : Bool), 97 ≤ m → m ≤ 101 → 101 - m < n → (e = true ↔ ∀ x : UInt8, x.toNat < m → prj x x a = prj x x c) → l9a (some true) B18 B26 B27 B28 B32 B34 10 a c r12 n e (m : Int) = some true := by
    intro n
    induction n with
    | zero => intro m e h1 h2 h3; omega
    | succ n ih =>
      intro m e h1 h2 h3 he
      rw [l9a]
      by_cases hm : m = 101
      · subst hm
        rw [decide_eq_false (by decide), cond_false]
        have : r12.1 = e := by
          rw [Bool.eq_iff_iff, hr, he]
          constructor
          · intro h x _; exact h x
          · intro h x
            by_cases hx : x.toNat < 101
            · exact h x hx
            · have hx' : ¬ inK (kOf K) x := fun q => by unfold inK at q; omega
              have h1 : x ∉ a := fun hm => hx' (Ls_inK ha x hm)
              have h2 : x ∉ c := fun hm => hx' (Ls_inK hc x hm)
              rw [prj_nil_of (x := x) (y := x) (a := a) fun z hz => ⟨fun e => h1 (e ▸ hz), fun e => h1 (e ▸ hz)⟩, prj_nil_of (x := x) (y := x) (a := c) fun z hz => ⟨fun e => h2 (e ▸ hz), fun e => h2 (e ▸ hz)⟩]
        rw [this, beq_self_eq_true, cond_true]; rfl
      · obtain ⟨x, hx, hxm, _⟩ := abc_step h1 (by omega)
        rw [decide_eq_true (by omega), cond_true, wrap_u8 (by omega) (by omega), show ((m : Int) + 1) = ((m + 1 : Nat) : Int) by omega]
        have hstep : (∀ y : UInt8, y.toNat < m + 1 → prj y y a = prj y y c) ↔ (∀ y : UInt8, y.toNat < m → prj y y a = prj y y c) ∧ prj x x a = prj x x c := by
          constructor
          · intro h; exact ⟨fun y hy => h y (by omega), h x (by omega)⟩
          · rintro ⟨h, hx'⟩ y hy
            by_cases hy' : y.toNat < m
            · exact h y hy'
            · have : y = x := UInt8.toNat_inj.1 (by omega)
              rw [this]; exact hx'
        cases e with
        | false =>
          rw [cond_false]
          exact ih (m + 1) false (by omega) (by omega) (by omega) (by rw [hstep, ← he]; simp)
        | true =>
          rw [cond_true, ← hxm, B32_of h0 ha la x, Option.bind_some, B32_of h0 hc lc x, Option.bind_some, hxm]
          refine ih (m + 1) _ (by omega) (by omega) (by omega) ?_
          rw [hstep, ← he, beq_iff_eq]; simp
  exact main 10 97 true (by omega) (by omega) (by omega) ⟨fun _ x hx => by
    have hx' : ¬ inK (kOf K) x := fun q => by unfold inK at q; omega
    have h1 : x ∉ a := fun hm => hx' (Ls_inK ha x hm)
    have h2 : x ∉ c := fun hm => hx' (Ls_inK hc x hm)
    rw [prj_nil_of (x := x) (y := x) (a := a) fun z hz => ⟨fun e => h1 (e ▸ hz), fun e => h1 (e ▸ hz)⟩, prj_nil_of (x := x) (y := x) (a := c) fun z hz => ⟨fun e => h2 (e ▸ hz), fun e => h2 (e ▸ hz)⟩], fun _ => rfl⟩

theorem B34_of {o : Of} (h0 : errO o = 0) {a b : Wd} (la : a.length ≤ 14) (lb : b.length ≤ 14) (wa : Ls o a) (wb : Ls o b) : B34 o a b = some (decide (rst (Do o) a b = some []), 0) := by
  unfold B34
  rw [if_pos (errA_ok h0 fun l hl => by
    simp only [List.mem_cons, List.not_mem_nil, or_false] at hl
    rcases hl with rfl | rfl
    · exact ⟨la, wa⟩
    · exact ⟨lb, wb⟩)]
theorem B18_of {o : Of} (h0 : errO o = 0) {a : Wd} (la : a.length ≤ 14) (wa : Ls o a) : B18 o a = some ((((lin (Do o) abc a.length a).length : Nat) : Int), 0) := by
  unfold B18
  rw [if_pos (errA_ok h0 fun l hl => by
    obtain rfl := List.mem_singleton.1 hl
    exact ⟨la, wa⟩), Fp_cnt (fun x _ => (Do_bnd h0).refl x) (wa.isL h0)]

theorem KB9 : FnOk Tryd.prog 9 (F9 B9) := ok9 (some true) B18 B26 B27 B28 B32 B34 K11t kb18 kb26 kb27 kb28 kb32 kb34 B9 fun d bit p q b r h => ⟨10, by
  unfold B9 at h
  split at h
  · rename_i hq
    obtain ⟨d1, d2, hbit, hp, hqq, hb⟩ := hq
    obtain rfl := Option.some.inj h
    obtain ⟨K, F, ⟨⟩⟩ := d
    simp only at d1 d2
    obtain ⟨hK0, hK1⟩ := d1
    obtain ⟨hF0, hF1⟩ := d2
    obtain ⟨hb0, hb1⟩ := hbit
    obtain ⟨K, rfl⟩ : ∃ z : Nat, K = (z : Int) := ⟨K.toNat, by omega⟩
    obtain ⟨F, rfl⟩ : ∃ z : Nat, F = (z : Int) := ⟨F.toNat, by omega⟩
    obtain ⟨bit, rfl⟩ : ∃ z : Nat, bit = (z : Int) := ⟨bit.toNat, by omega⟩
    have e6 : Int.tmod (bit : Int) 6 = ((bit % 6 : Nat) : Int) := by
      rw [Int.tmod_eq_emod_of_nonneg (by omega)]; omega
    have hlt : bit % 6 < 6 := Nat.mod_lt _ (by decide)
    obtain ⟨o1, o2⟩ := bOr8 (F := F) (b := bit % 6) (by omega) hlt
    unfold m9
    rw [e6, Int.toNat_natCast]
    simp only [o1]
    have k1 : ∀ G : Nat, G < 256 → B26 ((K : Int), ((G : Int), ())) = some (offN K G) := fun G hG => by
      rw [B26_of (show u8z (K : Int) from ⟨hK0, hK1⟩) (show u8z (G : Int) by unfold u8z; omega)]; rfl
    rw [k1 F (by omega), Option.bind_some, chk_dec (by omega), k1 _ o2, Option.bind_some, show ((0 : Int)) = ((0 : Nat) : Int) from rfl, k1 0 (by omega), Option.bind_some, show ((255 : Int)) = ((255 : Nat) : Int) from rfl, k1 255 (by omega), Option.bind_some, show ((10 : Int)) = ((10 : Nat) : Int) from rfl, B27_of K F hp (by omega), Option.bind_some]
    have h0 := (off_ok (K := K) (F := F)).1
    have hm0 := (off_ok (K := K) (F := F ||| 2 ^ (bit % 6))).1
    have hn0 := (off_ok (K := K) (F := 0)).1
    have ha0 := (off_ok (K := K) (F := 255)).1
    have lp := pst_len (kOf K) p 10
    have lq := pst_len (kOf K) q 10
    have wp := Ls_pst K F p 10
    have wq := Ls_pst K F q 10
    generalize pst (kOf K) p 10 = a at lp wp
    rw [B28_of h0 wp (by omega) hb, Option.bind_some, B27_of K F hqq (by omega), Option.bind_some]
    generalize pst (kOf K) q 10 = c at lq wq
    have hE := mix_eqv (Do_bnd h0) b a
    have wm := wp.eqv h0 hE
    have lm := hE.length (Do_bnd h0)
    generalize mix (Do (offN K F)) a b = t at hE wm lm
    have hEm : Eqv (Do (offN K (F ||| 2 ^ (bit % 6)))) a t := fun x y hxy => hE x y (more_Do K F _ x y hxy)
    rw [B34_of hm0 (by omega) (by omega) wp wm, Option.bind_some, B18_of h0 (by omega) wp, Option.bind_some, B18_of hm0 (by omega) wp, Option.bind_some, B34_of hn0 (by omega) (by omega) wp wq, Option.bind_some, B34_of ha0 (by omega) (by omega) wp wq, Option.bind_some]
    have hone := lin_pos (Do_bnd h0) (wp.abc h0)
    have hmore := lin_more (Do_bnd h0) (Do_bnd hm0) (fun x y => more_Do K F _ x y) (wp.abc h0)
    have e1 : rst (Do (offN K (F ||| 2 ^ (bit % 6)))) a t = some [] := (eqv_rst (Do_bnd hm0)).1 hEm
    have e2 : decide (rst (Do (offN K 0)) a c = some []) = (a == c) := by
      rw [Bool.eq_iff_iff, decide_eq_true_iff, beq_iff_eq, ← eqv_rst (Do_bnd hn0)]
      exact ⟨fun h => eqv_bound (Do_bnd hn0) (none_Do K) h, fun h => h ▸ Eqv.refl a⟩
    simp only [cond_false, e1, e2, decide_true, Bool.not_true, bne_self_eq_false]
    rw [decide_eq_false (by omega), cond_false, decide_eq_false (by omega), cond_false]
    exact even9 (K := K) wp wq (by omega) (by omega) _ (by
      show decide (rst (Do (offN K 255)) a c = some []) = true ↔ _
      rw [decide_eq_true_iff, ← eqv_rst (Do_bnd ha0)]
      exact eqv_free wp wq)
  · cases h⟩

theorem K (y0 : Int × Int × Unit) (y1 : Int) (y2 : List Int) (y3 : List Int) (y4 : List Int) (_ : DT.wf (.pair (.int .u8) (.pair (.int .u8) .unit)) y0) (_ : DT.wf (.int .u8) y1) (_ : DT.wf (.sl (.int .u8)) y2) (_ : DT.wf (.sl (.int .u8)) y3) (_ : DT.wf (.sl (.int .u8)) y4) : FnOk Tryd.prog 9 (F9 (B9)) := KB9

set_option maxRecDepth 100000 in
theorem walk (w : World) (vs : List Value) (hgl : GlbOk w (fun b => b < w.heap.size)) (h : ArgsOk w [.pair (.int .u8) (.pair (.int .u8) .unit), .int .u8, .sl (.int .u8), .sl (.int .u8), .sl (.int .u8)] vs) : Calls Tryd.prog 9 vs.toArray w fun e w' => e = .returned (.bool true) ∧ Below w.heap.size w w' := by
  obtain ⟨v0, vs0, y0, rfl, w0, h0, k0⟩ := ArgsOk.cons h
  obtain ⟨v1, vs1, y1, rfl, w1, h1, k1⟩ := ArgsOk.cons k0
  obtain ⟨v2, vs2, y2, rfl, w2, h2, k2⟩ := ArgsOk.cons k1
  obtain ⟨v3, vs3, y3, rfl, w3, h3, k3⟩ := ArgsOk.cons k2
  obtain ⟨v4, vs4, y4, rfl, w4, h4, k4⟩ := ArgsOk.cons k3
  obtain rfl := ArgsOk.nil k4
  exact walkAll (K y0 y1 y2 y3 y4 w0 w1 w2 w3 w4) (xs := [.dv (.pair (.int .u8) (.pair (.int .u8) .unit)) y0, .dv (.int .u8) y1, .dv (.sl (.int .u8)) y2, .dv (.sl (.int .u8)) y3, .dv (.sl (.int .u8)) y4]) (r := true) (if_pos ⟨(wfDq w0).1, (wfDq w0).2, wfU w1, wfLs w2, wfLs w3, wfLs w4⟩) rfl (HoldsAll.cons h0 (HoldsAll.cons h1 (HoldsAll.cons h2 (HoldsAll.cons h3 (HoldsAll.cons h4 HoldsAll.nil))))) hgl

set_option maxRecDepth 100000 in
theorem lifted (os : Os) (started : os.Started) (H : Type) (enc : TypeId × Value → H) :
    ReturnsInHanded {} Tryd.checked os 9 .any (fun w args => (Rows.lettersMoreSpec.pre enc Tryd.prog Tryd.f9 [] false w args ∧ laidMetH Tryd.prog laidL w) ∧ sizedMet enc Tryd.prog Tryd.f9 (OpenSpec.ofChange Rows.lettersMoreSpec) false w args) (Rows.lettersMoreSpec.post enc Tryd.prog Tryd.f9 false true false false) :=
  lawShellT (fn := Tryd.f9) (s := Rows.lettersMoreSpec) (tb := 4) [.pair (.int .u8) (.pair (.int .u8) .unit), .int .u8, .sl (.int .u8), .sl (.int .u8), .sl (.int .u8)] Tryd.func9 (by kernel_rfl) (by kernel_rfl) (by kernel_rfl) Tryd.underlying4 (by kernel_rfl) os started H enc []
    (fun ds hl => by
      match ds, hl with
      | [d0, d1, d2, d3, d4], _ => rfl)
    (ChangeSpec.witness_shaped (enc := enc) (C := Tryd.checked) (os := os) (X := fun w _ => laidMetH Tryd.prog laidL w) false (laidWorld os) #[.agg #[.int .u8 0, .int .u8 0], .int .u8 0, .slice none 0 0, .slice none 0 0, .slice none 0 0] 8 rfl (World.shaped_of_RefB (by kernel_rfl) (by kernel_rfl)) (by kernel_rfl) (by kernel_rfl) (by kernel_rfl) (laidWorld_met os _)) walk

theorem over : Rows.LettersMoreSaid :=
  OpenClaim.holds_of_wide 9 Tryd.f9 rfl rfl rfl rfl rfl rfl rfl ⟨rfl, rfl, rfl, rfl, rfl⟩ rfl rfl rfl rfl rfl (by kernel_rfl) Tryd.func9 (by kernel_rfl)
    (of_decide_eq_true (by kernel_rfl)) (by unfold Func.isWrapper; first | (rw [if_pos (by decide +kernel)]; kernel_rfl) | (rw [if_neg (by decide +kernel)]; exact ⟨rfl, rfl⟩))
    (fun os started H enc _ => lifted os started H enc)

set_option maxRecDepth 100000 in
/-- THE STATEMENT. -/
theorem proved : Rows.LettersMoreCardSaid :=
  Claim7.holds_tied_plain_at .later [] [.data, .data, .data, .pinned] true (true, "319dfa66b581b5b6d08f6f2fb949c4fc49c9104c5b2ccc686a739ed36fa85254") false
    over (fun _ h => by cases h) (by kernel_rfl) (fun _ h => by cases h) lettersMore_row_tie rfl ⟨rfl, rfl⟩ mainIs0 rfl
    (fun f fn hf hfn => by
      obtain rfl : f = 9 := Option.some.inj ((show Tryd.prog.funcNamed "tusche/tuschelaw10.LettersMore" = some 9 by kernel_rfl).symm.trans hf) |>.symm
      obtain rfl : fn = Tryd.f9 := (Option.some.inj (Tryd.func9.symm.trans hfn)).symm
      exact ⟨by kernel_rfl, fun j t ht => by
        rw [Tryd.params9] at ht
        have hall : (#[48, 5, 50, 50, 49] : Array TypeId).toList.all (fun t => !Tryd.pinned.checked.prog.wantsStandIn t) = true := by kernel_rfl
        have := List.all_eq_true.1 hall t (Array.mem_toList_iff.2 (Array.mem_of_getElem? ht))
        simpa using this⟩)
    (by kernel_rfl)

end Go.Proofs.YtmpbbkldopfkpaaDoor.lettersMore
