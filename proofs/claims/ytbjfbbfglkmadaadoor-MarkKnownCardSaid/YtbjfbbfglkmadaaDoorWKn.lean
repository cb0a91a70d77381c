/-
  The law MarkKnown returns true and turns nothing that was there; the table count is what the program lays.
-/
import Derived.Test.YtbjfbbfglkmadaaDoorWkk
import Derived.Test.YtbjfbbfglkmadaaDoorRows
import Derived.Test.YtbjfbbfglkmadaaDoorLD
import Derived.WalkKit
import Derived.ProofKit
import Derived.OpenShut
import Derived.ChangeOld
import Derived.Below
namespace Go.Proofs.YtbjfbbfglkmadaaDoor.markKnown
open Go.RowKit Go.ChangeShapes Go.WideShapes Go.ChangeAt
set_option linter.unusedVariables false
theorem K   : FnOk Tryd.prog 13 (F13 (some true)) := K13t

set_option maxRecDepth 100000 in
theorem walk (w : World) (vs : List Value) (hgl : GlbOk w (fun b => b < w.heap.size)) (h : ArgsOk w [] vs) : Calls Tryd.prog 13 vs.toArray w fun e w' => e = .returned (.bool true) ∧ Below w.heap.size w w' := by
  obtain rfl := ArgsOk.nil h
  exact walkAll (K  ) (xs := []) (r := true) (rfl) rfl HoldsAll.nil hgl

set_option maxRecDepth 100000 in
theorem lifted (os : Os) (started : os.Started) (H : Type) (enc : TypeId × Value → H) :
    ReturnsInHanded {} Tryd.checked os 13 .any (fun w args => (Rows.markKnownSpec.pre enc Tryd.prog Tryd.f13 [] false w args ∧ laidMetH Tryd.prog laidL w) ∧ sizedMet enc Tryd.prog Tryd.f13 (OpenSpec.ofChange Rows.markKnownSpec) false w args) (Rows.markKnownSpec.post enc Tryd.prog Tryd.f13 false true false false) :=
  lawShellT (fn := Tryd.f13) (s := Rows.markKnownSpec) (tb := 4) [] Tryd.func13 (by kernel_rfl) (by kernel_rfl) (by kernel_rfl) Tryd.underlying4 (by kernel_rfl) os started H enc []
    (fun ds hl => by
      match ds, hl with
      | [], _ => rfl)
    (ChangeSpec.witness_shaped (enc := enc) (C := Tryd.checked) (os := os) (X := fun w _ => laidMetH Tryd.prog laidL w) false (laidWorld os) #[] 8 rfl (World.shaped_of_RefB (by kernel_rfl) (by kernel_rfl)) (by kernel_rfl) (by kernel_rfl) (by kernel_rfl) (laidWorld_met os _)) walk

theorem over : Rows.MarkKnownSaid :=
  OpenClaim.holds_of_wide 13 Tryd.f13 rfl rfl rfl rfl rfl rfl rfl ⟨rfl, rfl, rfl, rfl, rfl⟩ rfl rfl rfl rfl rfl (by kernel_rfl) Tryd.func13 (by kernel_rfl)
    (of_decide_eq_true (by kernel_rfl)) (by unfold Func.isWrapper; first | (rw [if_pos (by decide +kernel)]; kernel_rfl) | (rw [if_neg (by decide +kernel)]; exact ⟨rfl, rfl⟩))
    (fun os started H enc _ => lifted os started H enc)

set_option maxRecDepth 100000 in
/-- THE STATEMENT. -/
theorem proved : Rows.MarkKnownCardSaid :=
  Claim7.holds_tied_plain_at .later [] [.data] true (true, "018cc82852a7e087e6539cfb5cb3f00d3e0f6e4bd9da8bf234baf6754ce1d347") false
    over (fun _ h => by cases h) (by kernel_rfl) (fun _ h => by cases h) markKnown_row_tie rfl ⟨rfl, rfl⟩ mainIs0 rfl
    (fun f fn hf hfn => by
      obtain rfl : f = 13 := Option.some.inj ((show Tryd.prog.funcNamed "tusche/tuschelaw09.MarkKnown" = some 13 by kernel_rfl).symm.trans hf) |>.symm
      obtain rfl : fn = Tryd.f13 := (Option.some.inj (Tryd.func13.symm.trans hfn)).symm
      exact ⟨by kernel_rfl, fun j t ht => by
        rw [Tryd.params13] at ht
        have hall : (#[] : Array TypeId).toList.all (fun t => !Tryd.pinned.checked.prog.wantsStandIn t) = true := by kernel_rfl
        have := List.all_eq_true.1 hall t (Array.mem_toList_iff.2 (Array.mem_of_getElem? ht))
        simpa using this⟩)
    (by kernel_rfl)

end Go.Proofs.YtbjfbbfglkmadaaDoor.markKnown
