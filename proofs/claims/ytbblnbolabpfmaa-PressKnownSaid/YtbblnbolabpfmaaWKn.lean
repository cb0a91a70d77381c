/-
  The law PressKnown returns true and turns nothing that was there.
-/
import Derived.Test.YtbblnbolabpfmaaRows
import Derived.Test.YtbblnbolabpfmaaQM13
import Derived.Test.YtbblnbolabpfmaaWC0
import Derived.WalkKit
import Derived.ProofKit
import Derived.OpenShut
import Derived.ChangeOld
import Derived.Below
namespace Go.Proofs.Ytbblnbolabpfmaa.pressKnown
open Go.ChangeShapes Go.WideShapes Go.ChangeAt Go.RowKit
set_option linter.unusedVariables false

def A13 : Option (Bool) := m13 (some true) A23 A26 A34 A36 A38 A47 A48 60
theorem K13 : FnOk Try.prog 13 (F13 A13) := ok13 (some true) A23 A26 A34 A36 A38 A47 A48 K14t K23 K26 K34 K36 K38 K47 K48 A13 fun r h => ⟨60, h⟩

theorem own : ownKnob Try.prog.godebug = none := by kernel_rfl
theorem laidOut : laidOutB Try.prog = true := by kernel_rfl
theorem known : A13 = some true := by kernel_rfl

theorem walkOf (a : Option Bool) (K : FnOk Try.prog 13 (F13 a)) (ha : a = some true) (w : World) : Calls Try.prog 13 #[] w fun e w' => e = .returned (.bool true) ∧ Below w.heap.size w w' := by
  have h := K [] [] true ha
  have none : ∀ {π : Nat → Pl} {id g : Nat}, ¬ Own π (tlook []) id g := fun ⟨_, o, ho, _⟩ => by cases ho
  have hfr0 : Frame (fun b => b < w.heap.size) w (fun _ => ⟨Option.none, 0, 0⟩) [] := ⟨fun id o ho => (by cases ho), fun i j g hi => absurd hi none, fun id g hi => absurd hi none⟩
  refine (h.calls w (fun b => b < w.heap.size) (fun _ => ⟨Option.none, 0, 0⟩) [] rfl (fun b hb => hb) hfr0 fun i x v hx => (by simp at hx)).mono fun e w' hq => ?_
  obtain ⟨r, v, O', π', he, ⟨hr, hO⟩, hfr, hv, _, _, hk⟩ := hq
  subst hr
  have hv' : v = .bool true := (DT.val_one (t := .bool) rfl).1 hv
  subst hv'
  exact ⟨he, hk.os, hk.tape, hk.output, hk.size, fun k hk' => hk.block k ⟨fun id => none, hk'⟩⟩

theorem walk (w : World) : Calls Try.prog 13 #[] w fun e w' => e = .returned (.bool true) ∧ Below w.heap.size w w' := walkOf _ K13 known w

set_option maxRecDepth 100000 in
theorem lifted (os : Os) (started : os.Started) (H : Type) (enc : TypeId × Value → H) :
    ReturnsInHanded {} Try.checked os 13 .any (Rows.pressKnownSpec.pre6 enc Try.prog Try.f13 Rows.pressKnownRow.domain false) (Rows.pressKnownSpec.post enc Try.prog Try.f13 false true false false) := by
  refine returnsInHanded_of_change (C := Try.checked) own started (by kernel_rfl) Try.func13
    (ChangeSpec.witness6 (enc := enc) (C := Try.checked) false ⟨#[], #[], []⟩ 8 (by kernel_rfl) (by kernel_rfl) (by kernel_rfl) (by kernel_rfl)) ?_
  intro W base args ds gs before hval0 hW hcnd _
  have hW' := hW
  obtain ⟨p, q, hA0, hV, rfl, hfz, hnd⟩ := hW
  have hA : DataW.TrodAll enc Try.prog W 0 (fun _ => true) true Try.f13.params.toList args.toList ds p := hA0
  rw [Try.params13] at hA
  obtain ⟨rfl, rfl, rfl⟩ := trodAll_none hA
  obtain ⟨rfl, rfl⟩ := trodVars_none hV
  refine (walk W).mono fun e W' ⟨he, bel⟩ => ?_
  subst he
  exact ⟨_, rfl, _, _, _, [], _, [], hW', trodAll_mk1 (shut_bool Try.underlying4 _), trodAll_mk0, rfl, bel.frame _, fun h => by cases h⟩

theorem over : Rows.pressKnownRow.holds Try.pinned (OpenSpec.ofChange Rows.pressKnownSpec) :=
  OpenClaim.holds_of_wide 13 Try.f13 rfl rfl rfl rfl rfl rfl rfl ⟨rfl, rfl, rfl, rfl, rfl⟩ rfl rfl rfl rfl rfl (by kernel_rfl) Try.func13 (by kernel_rfl)
    (of_decide_eq_true (by kernel_rfl)) (by unfold Func.isWrapper; first | (rw [if_pos (by decide +kernel)]; kernel_rfl) | (rw [if_neg (by decide +kernel)]; exact ⟨rfl, rfl⟩))
    (fun os started H enc _ => lifted os started H enc)

/-- THE STATEMENT. -/
theorem proved : Rows.PressKnownSaid := over

end Go.Proofs.Ytbblnbolabpfmaa.pressKnown
