/-
  The law LettersKnown returns true and turns nothing that was there; the tables are what the program lays.
-/
import Derived.Test.YtmpbbkldopfkpaaDoorWkk
import Derived.Test.YtmpbbkldopfkpaaDoorRows
import Derived.Test.YtmpbbkldopfkpaaDoorLD
import Derived.WalkKit
import Derived.ProofKit
import Derived.OpenShut
import Derived.ChangeOld
import Derived.Below
namespace Go.Proofs.YtmpbbkldopfkpaaDoor.lettersKnown
open Go.RowKit Go.ChangeShapes Go.WideShapes Go.ChangeAt
set_option linter.unusedVariables false
theorem K   : FnOk Tryd.prog 10 (F10 (some true)) := K10k

set_option maxRecDepth 100000 in
theorem walk (w : World) (vs : List Value) (hgl : GlbOk w (fun b => b < w.heap.size)) (h : ArgsOk w [] vs) : Calls Tryd.prog 10 vs.toArray w fun e w' => e = .returned (.bool true) ∧ Below w.heap.size w w' := by
  obtain rfl := ArgsOk.nil h
  exact walkAll (K  ) (xs := []) (r := true) (rfl) rfl HoldsAll.nil hgl

set_option maxRecDepth 100000 in
theorem lifted (os : Os) (started : os.Started) (H : Type) (enc : TypeId × Value → H) :
    ReturnsInHanded {} Tryd.checked os 10 .any (fun w args => (Rows.lettersKnownSpec.pre enc Tryd.prog Tryd.f10 [] false w args ∧ laidMetH Tryd.prog laidL w) ∧ sizedMet enc Tryd.prog Tryd.f10 (OpenSpec.ofChange Rows.lettersKnownSpec) false w args) (Rows.lettersKnownSpec.post enc Tryd.prog Tryd.f10 false true false false) :=
  lawShellT (fn := Tryd.f10) (s := Rows.lettersKnownSpec) (tb := 4) [] Tryd.func10 (by kernel_rfl) (by kernel_rfl) (by kernel_rfl) Tryd.underlying4 (by kernel_rfl) os started H enc []
    (fun ds hl => by
      match ds, hl with
      | [], _ => rfl)
    (ChangeSpec.witness_shaped (enc := enc) (C := Tryd.checked) (os := os) (X := fun w _ => laidMetH Tryd.prog laidL w) false (laidWorld os) #[] 8 rfl (World.shaped_of_RefB (by kernel_rfl) (by kernel_rfl)) (by kernel_rfl) (by kernel_rfl) (by kernel_rfl) (laidWorld_met os _)) walk

theorem over : Rows.LettersKnownSaid :=
  OpenClaim.holds_of_wide 10 Tryd.f10 rfl rfl rfl rfl rfl rfl rfl ⟨rfl, rfl, rfl, rfl, rfl⟩ rfl rfl rfl rfl rfl (by kernel_rfl) Tryd.func10 (by kernel_rfl)
    (of_decide_eq_true (by kernel_rfl)) (by unfold Func.isWrapper; first | (rw [if_pos (by decide +kernel)]; kernel_rfl) | (rw [if_neg (by decide +kernel)]; exact ⟨rfl, rfl⟩))
    (fun os started H enc _ => lifted os started H enc)

set_option maxRecDepth 100000 in
/-- THE STATEMENT. -/
theorem proved : Rows.LettersKnownCardSaid :=
  Claim7.holds_tied_plain_at .later [] [.data, .data, .data, .pinned] true (true, "319dfa66b581b5b6d08f6f2fb949c4fc49c9104c5b2ccc686a739ed36fa85254") false
    over (fun _ h => by cases h) (by kernel_rfl) (fun _ h => by cases h) lettersKnown_row_tie rfl ⟨rfl, rfl⟩ mainIs0 rfl
    (fun f fn hf hfn => by
      obtain rfl : f = 10 := Option.some.inj ((show Tryd.prog.funcNamed "tusche/tuschelaw10.LettersKnown" = some 10 by kernel_rfl).symm.trans hf) |>.symm
      obtain rfl : fn = Tryd.f10 := (Option.some.inj (Tryd.func10.symm.trans hfn)).symm
      exact ⟨by kernel_rfl, fun j t ht => by
        rw [Tryd.params10] at ht
        have hall : (#[] : Array TypeId).toList.all (fun t => !Tryd.pinned.checked.prog.wantsStandIn t) = true := by kernel_rfl
        have := List.all_eq_true.1 hall t (Array.mem_toList_iff.2 (Array.mem_of_getElem? ht))
        simpa using this⟩)
    (by kernel_rfl)

end Go.Proofs.YtmpbbkldopfkpaaDoor.lettersKnown
