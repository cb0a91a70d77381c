/-
  The law WeighPlans returns true and turns nothing that was there.
-/
import Derived.Test.YtjcgjbdlgmbepaaWC0
import Derived.Test.YtjcgjbdlgmbepaaWPM
import Derived.Test.YtjcgjbdlgmbepaaRows
import Derived.Test.YtjcgjbdlgmbepaaEN
import Derived.WalkKit
import Derived.ProofKit
import Derived.OpenShut
import Derived.ChangeOld
import Derived.Below
namespace Go.Proofs.Ytjcgjbdlgmbepaa.weighPlans
open Go.RowKit Go.ChangeShapes Go.WideShapes Go.ChangeAt
set_option linter.unusedVariables false
def A32 : (List (List Int × List Int × Unit)) → Option (List (List Int × List Int × Unit)) := fun l0 => m32 60 l0
theorem K32 : FnOk Try.prog 32 (F32 A32) := ok32 A32 fun l0 r h => ⟨60, h⟩
def A79 : Int → Int → Int → Option (Bool) := fun n0 lo1 hi2 => m79 60 n0 lo1 hi2
theorem K79 : FnOk Try.prog 79 (F79 A79) := ok79 A79 fun n0 lo1 hi2 r h => ⟨60, h⟩
def A58 : Int → Int → Int → Option (Bool) := fun n0 lo1 hi2 => m58 A79 60 n0 lo1 hi2
theorem K58 : FnOk Try.prog 58 (F58 A58) := ok58 A79 K79 A58 fun n0 lo1 hi2 r h => ⟨60, h⟩
def A81 : (List Int) → Int → Option (Bool) := fun pan0 stone1 => m81 60 pan0 stone1
theorem K81 : FnOk Try.prog 81 (F81 A81) := ok81 A81 fun pan0 stone1 r h => ⟨60, h⟩
def A69 : Int → (List Int) → (List Int) → Option (Int) := fun stones0 pan1 other2 => m69 A58 A81 60 stones0 pan1 other2
theorem K69 : FnOk Try.prog 69 (F69 A69) := ok69 A58 A81 K58 K81 A69 fun stones0 pan1 other2 r h => ⟨60, h⟩
def A36 : Int → (List (List Int × List Int × Unit)) → Option (Int) := fun stones0 plan1 => m36 A58 A69 60 stones0 plan1
theorem K36 : FnOk Try.prog 36 (F36 A36) := ok36 A58 A69 K58 K69 A36 fun stones0 plan1 r h => ⟨60, h⟩
def A67 : (List (List Int × List Int × Unit)) → Int → Int → Option (List Int) := fun plan0 odd1 way2 => m67 A81 60 plan0 odd1 way2
theorem K67 : FnOk Try.prog 67 (F67 A67) := ok67 A81 K81 A67 fun plan0 odd1 way2 r h => ⟨60, h⟩
def A72 : Int → Option (List (List Int)) := fun stones0 => m72 60 stones0
theorem K72 : FnOk Try.prog 72 (F72 A72) := ok72 A72 fun stones0 r h => ⟨60, h⟩
def A73 : (List Int) → (List Int) → Option (Bool) := fun a0 b1 => m73 60 a0 b1
theorem K73 : FnOk Try.prog 73 (F73 A73) := ok73 A73 fun a0 b1 r h => ⟨60, h⟩
def A38 : Int → (List (List Int × List Int × Unit)) → Option (List Int × List Int × Int) := fun stones0 plan1 => m38 A36 A67 A72 A73 60 stones0 plan1
theorem K38 : FnOk Try.prog 38 (F38 A38) := ok38 A36 A67 A72 A73 K36 K67 K72 K73 A38 fun stones0 plan1 r h => ⟨60, h⟩
def A42 : Int → Int → Option (Int) := fun stones0 weighings1 => m42 A58 60 stones0 weighings1
theorem K42 : FnOk Try.prog 42 (F42 A42) := ok42 A58 K58 A42 fun stones0 weighings1 r h => ⟨60, h⟩
def M7 (s w : Int) : Option Bool := m7 (some true) A32 A38 P41 A42 60 s w
theorem m7_1_0 : M7 1 0 = some true := by kernel_rfl
theorem m7_2_0 : M7 2 0 = some true := by kernel_rfl
theorem m7_3_0 : M7 3 0 = some true := by kernel_rfl
theorem m7_4_0 : M7 4 0 = some true := by kernel_rfl
theorem m7_5_0 : M7 5 0 = some true := by kernel_rfl
theorem m7_6_0 : M7 6 0 = some true := by kernel_rfl
theorem m7_7_0 : M7 7 0 = some true := by kernel_rfl
theorem m7_8_0 : M7 8 0 = some true := by kernel_rfl
theorem m7_9_0 : M7 9 0 = some true := by kernel_rfl
theorem m7_10_0 : M7 10 0 = some true := by kernel_rfl
theorem m7_11_0 : M7 11 0 = some true := by kernel_rfl
theorem m7_12_0 : M7 12 0 = some true := by kernel_rfl
theorem m7_13_0 : M7 13 0 = some true := by kernel_rfl
theorem m7_1_1 : M7 1 1 = some true := by kernel_rfl
theorem m7_2_1 : M7 2 1 = some true := by kernel_rfl
theorem m7_3_1 : M7 3 1 = some true := by kernel_rfl
theorem m7_4_1 : M7 4 1 = some true := by kernel_rfl
theorem m7_5_1 : M7 5 1 = some true := by kernel_rfl
theorem m7_6_1 : M7 6 1 = some true := by kernel_rfl
theorem m7_7_1 : M7 7 1 = some true := by kernel_rfl
theorem m7_8_1 : M7 8 1 = some true := by kernel_rfl
theorem m7_9_1 : M7 9 1 = some true := by kernel_rfl
theorem m7_10_1 : M7 10 1 = some true := by kernel_rfl
theorem m7_11_1 : M7 11 1 = some true := by kernel_rfl
theorem m7_12_1 : M7 12 1 = some true := by kernel_rfl
theorem m7_13_1 : M7 13 1 = some true := by kernel_rfl
theorem m7_1_2 : M7 1 2 = some true := by kernel_rfl
theorem m7_2_2 : M7 2 2 = some true := by kernel_rfl
theorem m7_3_2 : M7 3 2 = some true := by kernel_rfl
theorem m7_4_2 : M7 4 2 = some true := by kernel_rfl
theorem m7_5_2 : M7 5 2 = some true := by kernel_rfl
theorem m7_6_2 : M7 6 2 = some true := by kernel_rfl
theorem m7_7_2 : M7 7 2 = some true := by kernel_rfl
theorem m7_8_2 : M7 8 2 = some true := by kernel_rfl
theorem m7_9_2 : M7 9 2 = some true := by kernel_rfl
theorem m7_10_2 : M7 10 2 = some true := by kernel_rfl
theorem m7_11_2 : M7 11 2 = some true := by kernel_rfl
theorem m7_12_2 : M7 12 2 = some true := by kernel_rfl
theorem m7_13_2 : M7 13 2 = some true := by kernel_rfl
theorem m7_1_3 : M7 1 3 = some true := by kernel_rfl
theorem m7_2_3 : M7 2 3 = some true := by kernel_rfl
theorem m7_3_3 : M7 3 3 = some true := by kernel_rfl
theorem m7_4_3 : M7 4 3 = some true := by kernel_rfl
theorem m7_5_3 : M7 5 3 = some true := by kernel_rfl
theorem m7_6_3 : M7 6 3 = some true := by kernel_rfl
theorem m7_7_3 : M7 7 3 = some true := by kernel_rfl
theorem m7_8_3 : M7 8 3 = some true := by kernel_rfl
theorem m7_9_3 : M7 9 3 = some true := by kernel_rfl
theorem m7_10_3 : M7 10 3 = some true := by kernel_rfl
theorem m7_11_3 : M7 11 3 = some true := by kernel_rfl
theorem m7_12_3 : M7 12 3 = some true := by kernel_rfl
theorem m7_13_3 : M7 13 3 = some true := by kernel_rfl
theorem law (s w : Int) : M7 s w = some true := by
  by_cases h : 1 ≤ s ∧ s ≤ 13
  · by_cases h2 : 0 ≤ w ∧ w ≤ 3
    · obtain ⟨ha, hb⟩ := h
      obtain ⟨hc, hd⟩ := h2
      have es : s = 1 ∨ s = 2 ∨ s = 3 ∨ s = 4 ∨ s = 5 ∨ s = 6 ∨ s = 7 ∨ s = 8 ∨ s = 9 ∨ s = 10 ∨ s = 11 ∨ s = 12 ∨ s = 13 := by omega
      have ew : w = 0 ∨ w = 1 ∨ w = 2 ∨ w = 3 := by omega
      rcases ew with rfl | rfl | rfl | rfl
      · rcases es with rfl | rfl | rfl | rfl | rfl | rfl | rfl | rfl | rfl | rfl | rfl | rfl | rfl
        · exact m7_1_0
        · exact m7_2_0
        · exact m7_3_0
        · exact m7_4_0
        · exact m7_5_0
        · exact m7_6_0
        · exact m7_7_0
        · exact m7_8_0
        · exact m7_9_0
        · exact m7_10_0
        · exact m7_11_0
        · exact m7_12_0
        · exact m7_13_0
      · rcases es with rfl | rfl | rfl | rfl | rfl | rfl | rfl | rfl | rfl | rfl | rfl | rfl | rfl
        · exact m7_1_1
        · exact m7_2_1
        · exact m7_3_1
        · exact m7_4_1
        · exact m7_5_1
        · exact m7_6_1
        · exact m7_7_1
        · exact m7_8_1
        · exact m7_9_1
        · exact m7_10_1
        · exact m7_11_1
        · exact m7_12_1
        · exact m7_13_1
      · rcases es with rfl | rfl | rfl | rfl | rfl | rfl | rfl | rfl | rfl | rfl | rfl | rfl | rfl
        · exact m7_1_2
        · exact m7_2_2
        · exact m7_3_2
        · exact m7_4_2
        · exact m7_5_2
        · exact m7_6_2
        · exact m7_7_2
        · exact m7_8_2
        · exact m7_9_2
        · exact m7_10_2
        · exact m7_11_2
        · exact m7_12_2
        · exact m7_13_2
      · rcases es with rfl | rfl | rfl | rfl | rfl | rfl | rfl | rfl | rfl | rfl | rfl | rfl | rfl
        · exact m7_1_3
        · exact m7_2_3
        · exact m7_3_3
        · exact m7_4_3
        · exact m7_5_3
        · exact m7_6_3
        · exact m7_7_3
        · exact m7_8_3
        · exact m7_9_3
        · exact m7_10_3
        · exact m7_11_3
        · exact m7_12_3
        · exact m7_13_3
    · have e1 : P41 s w = some ([], 3) := by rw [P41, if_neg (fun hh => h2 hh.2.2)]
      have e2 : A58 s 1 13 = some true := by simp [A58, m58, A79, m79, h.1, h.2]
      have e3 : A58 w 0 3 = some false := by
        simp only [A58, m58, A79, m79]
        by_cases hw : 0 ≤ w
        · have : ¬ w ≤ 3 := fun hh => h2 ⟨hw, hh⟩
          simp [hw, this]
        · simp [hw]
      have e4 : A42 s w = some 3 := by simp [A42, m42, e2, e3]
      simp [M7, m7, e1, e4]
  · have e1 : P41 s w = some ([], 3) := by rw [P41, if_neg (fun hh => h ⟨hh.1, hh.2.1⟩)]
    have e2 : A58 s 1 13 = some false := by
      simp only [A58, m58, A79, m79]
      by_cases hw : 1 ≤ s
      · have : ¬ s ≤ 13 := fun hh => h ⟨hw, hh⟩
        simp [hw, this]
      · simp [hw]
    have e4 : A42 s w = some 3 := by simp [A42, m42, e2]
    simp [M7, m7, e1, e4]
theorem K0 : FnOk Try.prog 7 (F7 fun _ _ => some true) := ok7 (some true) A32 A38 P41 A42 K16t K32 K38 K41t K42 _ fun s w r h => ⟨60, by cases h; exact law s w⟩
theorem K (y0 y1 : Int) (_ : DT.wf (.int .i64) y0) (_ : DT.wf (.int .i64) y1) : FnOk Try.prog 7 (F7 fun _ _ => some true) := K0

set_option maxRecDepth 100000 in
theorem walk (w : World) (vs : List Value) (h : ArgsOk w [.int .i64, .int .i64] vs) : Calls Try.prog 7 vs.toArray w fun e w' => e = .returned (.bool true) ∧ Below w.heap.size w w' := by
  obtain ⟨v0, vs0, y0, rfl, w0, h0, k0⟩ := ArgsOk.cons h
  obtain ⟨v1, vs1, y1, rfl, w1, h1, k1⟩ := ArgsOk.cons k0
  obtain rfl := ArgsOk.nil k1
  exact walkAll (K y0 y1 w0 w1) (xs := [.dv (.int .i64) y0, .dv (.int .i64) y1]) (r := true) rfl rfl (HoldsAll.cons h0 (HoldsAll.cons h1 HoldsAll.nil))

set_option maxRecDepth 100000 in
theorem lifted (os : Os) (started : os.Started) (H : Type) (enc : TypeId × Value → H) :
    ReturnsInHanded {} Try.checked os 7 .any (Rows.weighPlansSpec.pre6 enc Try.prog Try.f7 Rows.weighPlansRow.domain false) (Rows.weighPlansSpec.post enc Try.prog Try.f7 false true false false) :=
  lawShell (fn := Try.f7) (s := Rows.weighPlansSpec) (tb := 4) [.int .i64, .int .i64] Try.func7 (by kernel_rfl) (by kernel_rfl) (by kernel_rfl) Try.underlying4 (by kernel_rfl) os started H enc Rows.weighPlansRow.domain
    (fun ds hl => by
      match ds, hl with
      | [d0, d1], _ => rfl)
    (ChangeSpec.witness6 (enc := enc) (C := Try.checked) false ⟨#[], #[.int .i64 0, .int .i64 0], []⟩ 8 (by kernel_rfl) (by kernel_rfl) (by kernel_rfl) (by kernel_rfl)) walk

theorem over : Rows.weighPlansRow.holds Try.pinned (OpenSpec.ofChange Rows.weighPlansSpec) :=
  OpenClaim.holds_of_wide 7 Try.f7 rfl rfl rfl rfl rfl rfl rfl ⟨rfl, rfl, rfl, rfl, rfl⟩ rfl rfl rfl rfl rfl (by kernel_rfl) Try.func7 (by kernel_rfl)
    (of_decide_eq_true (by kernel_rfl)) (by unfold Func.isWrapper; first | (rw [if_pos (by decide +kernel)]; kernel_rfl) | (rw [if_neg (by decide +kernel)]; exact ⟨rfl, rfl⟩))
    (fun os started H enc _ => lifted os started H enc)

/-- THE STATEMENT. -/
theorem proved : Rows.WeighPlansSaid := over

end Go.Proofs.Ytjcgjbdlgmbepaa.weighPlans
