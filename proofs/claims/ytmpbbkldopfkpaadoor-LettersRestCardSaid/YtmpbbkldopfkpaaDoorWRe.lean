/-
  The law LettersRest returns true and turns nothing that was there; the tables are what the program lays.
-/
import Derived.Test.YtmpbbkldopfkpaaDoorL13
import Derived.Test.YtmpbbkldopfkpaaDoorQM7
import Derived.Test.YtmpbbkldopfkpaaDoorWC0
import Derived.Test.YtmpbbkldopfkpaaDoorRows
import Derived.Test.YtmpbbkldopfkpaaDoorLD
import Derived.WalkKit
import Derived.ProofKit
import Derived.OpenShut
import Derived.ChangeOld
import Derived.Below
namespace Go.Proofs.YtmpbbkldopfkpaaDoor.lettersRest
open Go.RowKit Go.ChangeShapes Go.WideShapes Go.ChangeAt
set_option linter.unusedVariables false
theorem wfU {z : Int} (h : DT.wf (.int .u8) z) : u8z z := by
  have := bounds_u8 (show (Lit.int .u8 z).wf = true from h)
  unfold u8z; omega
theorem wfLs {y : List Int} (h : DT.wf (.sl (.int .u8)) y) : u8l y := by
  obtain ⟨h1, h2⟩ := (show y.length ≤ maxLen ∧ ∀ j, j < y.length → (Lit.int .u8 (y.getD j 0)).wf = true from h)
  refine ⟨fun z hz => ?_, h1⟩
  obtain ⟨j, hj, rfl⟩ := List.getElem_of_mem hz
  have := wfU (show DT.wf (.int .u8) _ from h2 j hj)
  rw [List.getD_eq_getElem?_getD, List.getElem?_eq_getElem hj] at this
  exact this
theorem wfDq {y : Int × Int × Unit} (h : DT.wf (.pair (.int .u8) (.pair (.int .u8) .unit)) y) : u8z y.1 ∧ u8z y.2.1 := by
  obtain ⟨h1, h2, _⟩ := (show DT.wf (.int .u8) y.1 ∧ DT.wf (.int .u8) y.2.1 ∧ True from h)
  exact ⟨wfU h1, wfU h2⟩

theorem KB7 : FnOk Tryd.prog 7 (F7 fun d p q => if u8z d.1 ∧ u8z d.2.1 ∧ u8l p ∧ u8l q then some true else none) := ok7 (some true) B13 B22 B26 B27 B29 B34 K11t kb13 kb22 kb26 kb27 kb29 kb34 _ fun d p q r h => by
  split at h
  · rename_i hq
    obtain ⟨d1, d2, hp, hqq⟩ := hq
    obtain rfl := Option.some.inj h
    have hB26 := B26_of d1 d2
    generalize d.1.toNat = K at hB26
    generalize d.2.1.toNat = F at hB26
    have h0 := (off_ok (K := K) (F := F)).1
    have hB := Do_bnd h0
    have lp := pst_len (kOf K) p 3
    have lq := pst_len (kOf K) q 7
    have wp := Ls_pst K F p 3
    have wq := Ls_pst K F q 7
    have e1 := B27_of K F hp (m := 3) (by omega)
    have e2 := B27_of K F hqq (m := 7) (by omega)
    generalize pst (kOf K) p 3 = a at lp wp e1
    generalize pst (kOf K) q 7 = b at lq wq e2
    generalize offN K F = o at h0 hB wp wq e1 e2 hB26
    obtain ⟨M, hM, hnd, hmem⟩ := B29_of h0 (s := b) lq wq
    refine ⟨M.length + 1, ?_⟩
    unfold m7
    rw [hB26, Option.bind_some, show ((3 : Int)) = ((3 : Nat) : Int) from rfl, e1, Option.bind_some, show ((7 : Int)) = ((7 : Nat) : Int) from rfl, e2, Option.bind_some, B22_of h0 (by omega) (by omega) wp wq, Option.bind_some, hM, Option.bind_some]
    have hrl : ∀ r, rst (Do o) a b = some r → r.length ≤ 7 ∧ Ls o r := fun r hr => ⟨by have := rst_len hr; omega, fun z hz => wq z (rst_mem hr z hz)⟩
    have main : ∀ (n : Nat) (bg : Bool) (l : Mw), l.length < n → (∀ e ∈ l, Eqv (Do o) e.1 b) → ((bg = true ∨ ∃ e ∈ l, a.length ≤ e.1.length ∧ e.1.take a.length = a) ↔ (rst (Do o) a b).isSome = true) →
        l7a (some true) B13 B22 B26 B27 B29 B34 true (M.length + 1) o a b (match rst (Do o) a b with
          | some r => (nfo o r, 0)
          | none => ([], 14)) n bg l = some () := by
      intro n
      induction n with
      | zero => intro bg l h; omega
      | succ n ih =>
        intro bg l hl hE hI
        rw [l7a]
        refine eachK_of l (fun hn => ?_) fun u e v he => ?_
        · subst hn
          simp only [List.not_mem_nil, false_and, exists_false, or_false] at hI
          cases hr : rst (Do o) a b with
          | none =>
            rw [hr] at hI
            have hbg : bg = false := by
              cases bg with
              | false => rfl
              | true => have := hI.1 rfl; cases this
            rw [hbg]; rfl
          | some r =>
            rw [hr] at hI
            have hbg : bg = true := hI.2 rfl
            obtain ⟨lr, wr⟩ := hrl r hr
            have hnr := nfo_eqv h0 wr
            have lnr := hnr.length hB
            have wnr : Ls o (nfo o r) := wr.back h0 hnr
            have hself : rst (Do o) b b = some [] := by have := rst_self (D := Do o) b []; rwa [List.append_nil] at this
            have hlast : Eqv (Do o) (a ++ nfo o r) b := (Eqv.append (Eqv.refl a) hnr).trans (rst_some hB hr)
            rw [hbg, Bool.not_true, cond_false, B13_of h0 (by omega) wq, Option.bind_some, chk_dec (by omega), B22_of h0 (by omega) (by rw [List.length_append]; omega) wp (wp.append wq), rst_self, Option.bind_some, B22_of h0 (by omega) (by omega) wq wq, hself, Option.bind_some, B22_of h0 (by simp) (by omega) (fun z hz => by cases hz) wq, Option.bind_some, chk_dec (by simp only; omega), B34_eqv h0 (by rw [List.length_append]; omega) (by omega) (wp.append wnr) wq hlast, Option.bind_some]
            have en : nfo o [] = [] := rfl
            simp only [rst, en, beq_self_eq_true, cond_true, Option.bind_some]
            rfl
        · have hee := hE e (by rw [he]; simp)
          have le := hee.length hB
          have hE' : ∀ x ∈ u ++ v, Eqv (Do o) x.1 b := fun x hx => hE x (by
            rw [he]
            rcases List.mem_append.1 hx with h | h <;> simp [h])
          have hl' : (u ++ v).length < n := by
            rw [he] at hl
            simp only [List.length_append, List.length_cons] at hl ⊢
            omega
          have skip : ¬ (a.length ≤ e.1.length ∧ e.1.take a.length = a) → ((bg = true ∨ ∃ x ∈ u ++ v, a.length ≤ x.1.length ∧ x.1.take a.length = a) ↔ (rst (Do o) a b).isSome = true) := fun hn => by
            rw [← hI]
            refine or_congr Iff.rfl ⟨?_, ?_⟩
            · rintro ⟨x, hx, h⟩
              exact ⟨x, by rw [he]; rcases List.mem_append.1 hx with h | h <;> simp [h], h⟩
            · rintro ⟨x, hx, h⟩
              rw [he] at hx
              rcases List.mem_append.1 hx with hx | hx
              · exact ⟨x, List.mem_append.2 (.inl hx), h⟩
              · rcases List.mem_cons.1 hx with rfl | hx
                · exact absurd h hn
                · exact ⟨x, List.mem_append.2 (.inr hx), h⟩
          by_cases hlen : (e.1.length : Int) < (a.length : Int)
          · rw [decide_eq_true hlen, cond_true]
            exact ih bg _ hl' hE' (skip fun h => by omega)
          · rw [decide_eq_false hlen, cond_false, chk_dec (by omega), Int.toNat_natCast]
            by_cases hpre : e.1.take a.length = a
            · have hap : e.1 = a ++ e.1.drop a.length := by
                conv => lhs; rw [← List.take_append_drop a.length e.1, hpre]
              have hEa : Eqv (Do o) (a ++ e.1.drop a.length) b := hap ▸ hee
              obtain ⟨r, hr, hrE⟩ := rst_of hB hEa
              obtain ⟨lr, wr⟩ := hrl r hr
              have hnr := nfo_eqv h0 wr
              have lnr := hnr.length hB
              have wd : Ls o (e.1.drop a.length) := wr.back h0 hrE
              have ld : (e.1.drop a.length).length ≤ 14 := by rw [List.length_drop]; omega
              rw [hpre, beq_self_eq_true, Bool.not_true, cond_false, chk_dec (by omega)]
              simp only [hr]
              rw [B34_eqv h0 (by omega) ld (wr.back h0 hnr) wd (hnr.trans hrE.symm), Option.bind_some]
              have := ih true _ hl' hE' ⟨fun _ => by rw [hr]; rfl, fun _ => .inl rfl⟩
              simp only [hr] at this
              exact this
            · rw [beq_eq_false_iff_ne.2 hpre, Bool.not_false, cond_true]
              exact ih bg _ hl' hE' (skip fun h => hpre h.2)
    refine main (M.length + 1) false M (by omega) (fun e he => (hmem e.1).1 (List.mem_map.2 ⟨e, he, rfl⟩)) ⟨fun h => ?_, fun h => .inr ?_⟩
    · rcases h with h | ⟨e, he, h1, h2⟩
      · cases h
      · have hee := (hmem e.1).1 (List.mem_map.2 ⟨e, he, rfl⟩)
        have hap : e.1 = a ++ e.1.drop a.length := by
          conv => lhs; rw [← List.take_append_drop a.length e.1, h2]
        obtain ⟨r, hr, _⟩ := rst_of hB (show Eqv (Do o) (a ++ e.1.drop a.length) b from hap ▸ hee)
        rw [hr]; rfl
    · obtain ⟨r, hr⟩ := Option.isSome_iff_exists.1 h
      have hm := (hmem (a ++ r)).2 (rst_some hB hr)
      obtain ⟨e, he, h1⟩ := List.mem_map.1 hm
      exact ⟨e, he, by rw [h1, List.length_append]; omega, by rw [h1, List.take_left]⟩
  · cases h

theorem K (y0 : Int × Int × Unit) (y1 : List Int) (y2 : List Int) (_ : DT.wf (.pair (.int .u8) (.pair (.int .u8) .unit)) y0) (_ : DT.wf (.sl (.int .u8)) y1) (_ : DT.wf (.sl (.int .u8)) y2) : FnOk Tryd.prog 7 (F7 (fun d p q => if u8z d.1 ∧ u8z d.2.1 ∧ u8l p ∧ u8l q then some true else none)) := KB7

set_option maxRecDepth 100000 in
theorem walk (w : World) (vs : List Value) (hgl : GlbOk w (fun b => b < w.heap.size)) (h : ArgsOk w [.pair (.int .u8) (.pair (.int .u8) .unit), .sl (.int .u8), .sl (.int .u8)] vs) : Calls Tryd.prog 7 vs.toArray w fun e w' => e = .returned (.bool true) ∧ Below w.heap.size w w' := by
  obtain ⟨v0, vs0, y0, rfl, w0, h0, k0⟩ := ArgsOk.cons h
  obtain ⟨v1, vs1, y1, rfl, w1, h1, k1⟩ := ArgsOk.cons k0
  obtain ⟨v2, vs2, y2, rfl, w2, h2, k2⟩ := ArgsOk.cons k1
  obtain rfl := ArgsOk.nil k2
  exact walkAll (K y0 y1 y2 w0 w1 w2) (xs := [.dv (.pair (.int .u8) (.pair (.int .u8) .unit)) y0, .dv (.sl (.int .u8)) y1, .dv (.sl (.int .u8)) y2]) (r := true) (if_pos ⟨(wfDq w0).1, (wfDq w0).2, wfLs w1, wfLs w2⟩) rfl (HoldsAll.cons h0 (HoldsAll.cons h1 (HoldsAll.cons h2 HoldsAll.nil))) hgl

set_option maxRecDepth 100000 in
theorem lifted (os : Os) (started : os.Started) (H : Type) (enc : TypeId × Value → H) :
    ReturnsInHanded {} Tryd.checked os 7 .any (fun w args => (Rows.lettersRestSpec.pre enc Tryd.prog Tryd.f7 [] false w args ∧ laidMetH Tryd.prog laidL w) ∧ sizedMet enc Tryd.prog Tryd.f7 (OpenSpec.ofChange Rows.lettersRestSpec) false w args) (Rows.lettersRestSpec.post enc Tryd.prog Tryd.f7 false true false false) :=
  lawShellT (fn := Tryd.f7) (s := Rows.lettersRestSpec) (tb := 4) [.pair (.int .u8) (.pair (.int .u8) .unit), .sl (.int .u8), .sl (.int .u8)] Tryd.func7 (by kernel_rfl) (by kernel_rfl) (by kernel_rfl) Tryd.underlying4 (by kernel_rfl) os started H enc []
    (fun ds hl => by
      match ds, hl with
      | [d0, d1, d2], _ => rfl)
    (ChangeSpec.witness_shaped (enc := enc) (C := Tryd.checked) (os := os) (X := fun w _ => laidMetH Tryd.prog laidL w) false (laidWorld os) #[.agg #[.int .u8 0, .int .u8 0], .slice none 0 0, .slice none 0 0] 8 rfl (World.shaped_of_RefB (by kernel_rfl) (by kernel_rfl)) (by kernel_rfl) (by kernel_rfl) (by kernel_rfl) (laidWorld_met os _)) walk

theorem over : Rows.LettersRestSaid :=
  OpenClaim.holds_of_wide 7 Tryd.f7 rfl rfl rfl rfl rfl rfl rfl ⟨rfl, rfl, rfl, rfl, rfl⟩ rfl rfl rfl rfl rfl (by kernel_rfl) Tryd.func7 (by kernel_rfl)
    (of_decide_eq_true (by kernel_rfl)) (by unfold Func.isWrapper; first | (rw [if_pos (by decide +kernel)]; kernel_rfl) | (rw [if_neg (by decide +kernel)]; exact ⟨rfl, rfl⟩))
    (fun os started H enc _ => lifted os started H enc)

set_option maxRecDepth 100000 in
/-- THE STATEMENT. -/
theorem proved : Rows.LettersRestCardSaid :=
  Claim7.holds_tied_plain_at .later [] [.data, .data, .data, .pinned] true (true, "319dfa66b581b5b6d08f6f2fb949c4fc49c9104c5b2ccc686a739ed36fa85254") false
    over (fun _ h => by cases h) (by kernel_rfl) (fun _ h => by cases h) lettersRest_row_tie rfl ⟨rfl, rfl⟩ mainIs0 rfl
    (fun f fn hf hfn => by
      obtain rfl : f = 7 := Option.some.inj ((show Tryd.prog.funcNamed "tusche/tuschelaw10.LettersRest" = some 7 by kernel_rfl).symm.trans hf) |>.symm
      obtain rfl : fn = Tryd.f7 := (Option.some.inj (Tryd.func7.symm.trans hfn)).symm
      exact ⟨by kernel_rfl, fun j t ht => by
        rw [Tryd.params7] at ht
        have hall : (#[48, 50, 50] : Array TypeId).toList.all (fun t => !Tryd.pinned.checked.prog.wantsStandIn t) = true := by kernel_rfl
        have := List.all_eq_true.1 hall t (Array.mem_toList_iff.2 (Array.mem_of_getElem? ht))
        simpa using this⟩)
    (by kernel_rfl)

end Go.Proofs.YtmpbbkldopfkpaaDoor.lettersRest
