/-
  The law LettersForms returns true and turns nothing that was there; the tables are what the program lays.
-/
import Derived.Test.YtmpbbkldopfkpaaDoorL10
import Derived.Test.YtmpbbkldopfkpaaDoorL9
import Derived.Test.YtmpbbkldopfkpaaDoorL8
import Derived.Test.YtmpbbkldopfkpaaDoorQM3
import Derived.Test.YtmpbbkldopfkpaaDoorWC0
import Derived.Test.YtmpbbkldopfkpaaDoorRows
import Derived.Test.YtmpbbkldopfkpaaDoorLD
import Derived.WalkKit
import Derived.ProofKit
import Derived.OpenShut
import Derived.ChangeOld
import Derived.Below
namespace Go.Proofs.YtmpbbkldopfkpaaDoor.lettersForms
open Go.RowKit Go.ChangeShapes Go.WideShapes Go.ChangeAt
set_option linter.unusedVariables false
theorem KB3 : FnOk Tryd.prog 3 (F3 fun _ _ _ _ => some true) := ok3 (some true) (fun o => some o) B13 B13 B15 B15 B17 B18 B18 B20 B20 K11t kb12 kb13 kb14 kb15 kb16 kb17 kb18 kb19 kb20 kb21 _ fun o l i k r h => ⟨0, by
  obtain rfl := Option.some.inj h
  unfold m3
  cases decide ((o.2.1.length : Int) > 60) with
  | true => rfl
  | false =>
    cases decide ((l.length : Int) > 100) with
    | true => rfl
    | false =>
      simp only [cond_false, Option.bind_some]
      have e17 : ∀ a : List (List UInt8), a.length ≤ 1000 → B17 a a = some true := fun a ha => by unfold B17; rw [if_pos ⟨rfl, ha⟩]
      unfold B13 B15 B18 B20
      simp only [Option.bind_some, beq_self_eq_true, bne_self_eq_false, Bool.not_true, cond_true, cond_false]
      by_cases he : errA o [l] = 0
      · simp only [if_pos he]
        rw [e17 _ (stW_len (errA_word he (l := l) (by simp)).1)]; rfl
      · simp only [if_neg he]
        rw [e17 _ (by simp)]; rfl⟩

theorem K (y0 : Of) (y1 : List UInt8) (y2 : Int) (y3 : Int) (_ : DT.wf (.pair (.int .i64) (.pair (.sl (.arr 2 (.int .i64))) .unit)) y0) (_ : DT.wf (.str) y1) (_ : DT.wf (.int .i64) y2) (_ : DT.wf (.int .i64) y3) : FnOk Tryd.prog 3 (F3 (fun _ _ _ _ => some true)) := KB3

set_option maxRecDepth 100000 in
theorem walk (w : World) (vs : List Value) (hgl : GlbOk w (fun b => b < w.heap.size)) (h : ArgsOk w [.pair (.int .i64) (.pair (.sl (.arr 2 (.int .i64))) .unit), .str, .int .i64, .int .i64] vs) : Calls Tryd.prog 3 vs.toArray w fun e w' => e = .returned (.bool true) ∧ Below w.heap.size w w' := by
  obtain ⟨v0, vs0, y0, rfl, w0, h0, k0⟩ := ArgsOk.cons h
  obtain ⟨v1, vs1, y1, rfl, w1, h1, k1⟩ := ArgsOk.cons k0
  obtain ⟨v2, vs2, y2, rfl, w2, h2, k2⟩ := ArgsOk.cons k1
  obtain ⟨v3, vs3, y3, rfl, w3, h3, k3⟩ := ArgsOk.cons k2
  obtain rfl := ArgsOk.nil k3
  exact walkAll (K y0 y1 y2 y3 w0 w1 w2 w3) (xs := [.dv (.pair (.int .i64) (.pair (.sl (.arr 2 (.int .i64))) .unit)) y0, .dv (.str) y1, .dv (.int .i64) y2, .dv (.int .i64) y3]) (r := true) (rfl) rfl (HoldsAll.cons h0 (HoldsAll.cons h1 (HoldsAll.cons h2 (HoldsAll.cons h3 HoldsAll.nil)))) hgl

set_option maxRecDepth 100000 in
theorem lifted (os : Os) (started : os.Started) (H : Type) (enc : TypeId × Value → H) :
    ReturnsInHanded {} Tryd.checked os 3 .any (fun w args => (Rows.lettersFormsSpec.pre enc Tryd.prog Tryd.f3 [] false w args ∧ laidMetH Tryd.prog laidL w) ∧ sizedMet enc Tryd.prog Tryd.f3 (OpenSpec.ofChange Rows.lettersFormsSpec) false w args) (Rows.lettersFormsSpec.post enc Tryd.prog Tryd.f3 false true false false) :=
  lawShellT (fn := Tryd.f3) (s := Rows.lettersFormsSpec) (tb := 4) [.pair (.int .i64) (.pair (.sl (.arr 2 (.int .i64))) .unit), .str, .int .i64, .int .i64] Tryd.func3 (by kernel_rfl) (by kernel_rfl) (by kernel_rfl) Tryd.underlying4 (by kernel_rfl) os started H enc []
    (fun ds hl => by
      match ds, hl with
      | [d0, d1, d2, d3], _ => rfl)
    (ChangeSpec.witness_shaped (enc := enc) (C := Tryd.checked) (os := os) (X := fun w _ => laidMetH Tryd.prog laidL w) false (laidWorld os) #[.agg #[.int .i64 0, .slice none 0 0], .string ⟨#[]⟩, .int .i64 0, .int .i64 0] 8 rfl (World.shaped_of_RefB (by kernel_rfl) (by kernel_rfl)) (by kernel_rfl) (by kernel_rfl) (by kernel_rfl) (laidWorld_met os _)) walk

theorem over : Rows.LettersFormsSaid :=
  OpenClaim.holds_of_wide 3 Tryd.f3 rfl rfl rfl rfl rfl rfl rfl ⟨rfl, rfl, rfl, rfl, rfl⟩ rfl rfl rfl rfl rfl (by kernel_rfl) Tryd.func3 (by kernel_rfl)
    (of_decide_eq_true (by kernel_rfl)) (by unfold Func.isWrapper; first | (rw [if_pos (by decide +kernel)]; kernel_rfl) | (rw [if_neg (by decide +kernel)]; exact ⟨rfl, rfl⟩))
    (fun os started H enc _ => lifted os started H enc)

set_option maxRecDepth 100000 in
/-- THE STATEMENT. -/
theorem proved : Rows.LettersFormsCardSaid :=
  Claim7.holds_tied_plain_at .later [] [.data, .data, .data, .pinned] true (true, "319dfa66b581b5b6d08f6f2fb949c4fc49c9104c5b2ccc686a739ed36fa85254") false
    over (fun _ h => by cases h) (by kernel_rfl) (fun _ h => by cases h) lettersForms_row_tie rfl ⟨rfl, rfl⟩ mainIs0 rfl
    (fun f fn hf hfn => by
      obtain rfl : f = 3 := Option.some.inj ((show Tryd.prog.funcNamed "tusche/tuschelaw10.LettersForms" = some 3 by kernel_rfl).symm.trans hf) |>.symm
      obtain rfl : fn = Tryd.f3 := (Option.some.inj (Tryd.func3.symm.trans hfn)).symm
      exact ⟨by kernel_rfl, fun j t ht => by
        rw [Tryd.params3] at ht
        have hall : (#[24, 9, 3, 3] : Array TypeId).toList.all (fun t => !Tryd.pinned.checked.prog.wantsStandIn t) = true := by kernel_rfl
        have := List.all_eq_true.1 hall t (Array.mem_toList_iff.2 (Array.mem_of_getElem? ht))
        simpa using this⟩)
    (by kernel_rfl)

end Go.Proofs.YtmpbbkldopfkpaaDoor.lettersForms
