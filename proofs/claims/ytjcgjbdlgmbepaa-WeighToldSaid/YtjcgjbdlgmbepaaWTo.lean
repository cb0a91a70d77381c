/-
  The law WeighTold returns true and turns nothing that was there.
-/
import Derived.Test.YtjcgjbdlgmbepaaP0
import Derived.Test.YtjcgjbdlgmbepaaWC0
import Derived.Test.YtjcgjbdlgmbepaaWDM
import Derived.Test.YtjcgjbdlgmbepaaRows
import Derived.Test.YtjcgjbdlgmbepaaEN
import Derived.WalkKit
import Derived.ProofKit
import Derived.OpenShut
import Derived.ChangeOld
import Derived.Below
namespace Go.Proofs.Ytjcgjbdlgmbepaa.weighTold
open Go.RowKit Go.ChangeShapes Go.WideShapes Go.ChangeAt
set_option linter.unusedVariables false
def A49 : Int → (List (List Int × List Int × Unit)) → Int → Int → Option (List Int) := fun n0 plan1 odd2 way3 => m49 60 n0 plan1 odd2 way3
theorem K49 : FnOk Try.prog 49 (F49 A49) := ok49 A49 fun n0 plan1 odd2 way3 r h => ⟨60, h⟩
def M12 (s w : Int) : Option Bool := m12 (some true) A35 A37 P41 A49 A51 60 s w
theorem m12_0_0 : M12 0 0 = some true := by kernel_rfl
theorem m12_1_0 : M12 1 0 = some true := by kernel_rfl
theorem m12_2_0 : M12 2 0 = some true := by kernel_rfl
theorem m12_3_0 : M12 3 0 = some true := by kernel_rfl
theorem m12_4_0 : M12 4 0 = some true := by kernel_rfl
theorem m12_5_0 : M12 5 0 = some true := by kernel_rfl
theorem m12_6_0 : M12 6 0 = some true := by kernel_rfl
theorem m12_7_0 : M12 7 0 = some true := by kernel_rfl
theorem m12_8_0 : M12 8 0 = some true := by kernel_rfl
theorem m12_9_0 : M12 9 0 = some true := by kernel_rfl
theorem m12_10_0 : M12 10 0 = some true := by kernel_rfl
theorem m12_11_0 : M12 11 0 = some true := by kernel_rfl
theorem m12_12_0 : M12 12 0 = some true := by kernel_rfl
theorem m12_0_1 : M12 0 1 = some true := by kernel_rfl
theorem m12_1_1 : M12 1 1 = some true := by kernel_rfl
theorem m12_2_1 : M12 2 1 = some true := by kernel_rfl
theorem m12_3_1 : M12 3 1 = some true := by kernel_rfl
theorem m12_4_1 : M12 4 1 = some true := by kernel_rfl
theorem m12_5_1 : M12 5 1 = some true := by kernel_rfl
theorem m12_6_1 : M12 6 1 = some true := by kernel_rfl
theorem m12_7_1 : M12 7 1 = some true := by kernel_rfl
theorem m12_8_1 : M12 8 1 = some true := by kernel_rfl
theorem m12_9_1 : M12 9 1 = some true := by kernel_rfl
theorem m12_10_1 : M12 10 1 = some true := by kernel_rfl
theorem m12_11_1 : M12 11 1 = some true := by kernel_rfl
theorem m12_12_1 : M12 12 1 = some true := by kernel_rfl
theorem m12_0_2 : M12 0 2 = some true := by kernel_rfl
theorem m12_1_2 : M12 1 2 = some true := by kernel_rfl
theorem m12_2_2 : M12 2 2 = some true := by kernel_rfl
theorem m12_3_2 : M12 3 2 = some true := by kernel_rfl
theorem m12_4_2 : M12 4 2 = some true := by kernel_rfl
theorem m12_5_2 : M12 5 2 = some true := by kernel_rfl
theorem m12_6_2 : M12 6 2 = some true := by kernel_rfl
theorem m12_7_2 : M12 7 2 = some true := by kernel_rfl
theorem m12_8_2 : M12 8 2 = some true := by kernel_rfl
theorem m12_9_2 : M12 9 2 = some true := by kernel_rfl
theorem m12_10_2 : M12 10 2 = some true := by kernel_rfl
theorem m12_11_2 : M12 11 2 = some true := by kernel_rfl
theorem m12_12_2 : M12 12 2 = some true := by kernel_rfl
theorem m12_0_3 : M12 0 3 = some true := by kernel_rfl
theorem m12_1_3 : M12 1 3 = some true := by kernel_rfl
theorem m12_2_3 : M12 2 3 = some true := by kernel_rfl
theorem m12_3_3 : M12 3 3 = some true := by kernel_rfl
theorem m12_4_3 : M12 4 3 = some true := by kernel_rfl
theorem m12_5_3 : M12 5 3 = some true := by kernel_rfl
theorem m12_6_3 : M12 6 3 = some true := by kernel_rfl
theorem m12_7_3 : M12 7 3 = some true := by kernel_rfl
theorem m12_8_3 : M12 8 3 = some true := by kernel_rfl
theorem m12_9_3 : M12 9 3 = some true := by kernel_rfl
theorem m12_10_3 : M12 10 3 = some true := by kernel_rfl
theorem m12_11_3 : M12 11 3 = some true := by kernel_rfl
theorem m12_12_3 : M12 12 3 = some true := by kernel_rfl
theorem red (x y u v : Int) (h : Int.tmod (w64 x) 13 = Int.tmod (w64 y) 13) (h2 : Int.tmod (w64 u) 4 = Int.tmod (w64 v) 4) : M12 x u = M12 y v := by
  have he : ∀ n r1 t83 r5 t89 o t101 rec t113, l12e (some true) A35 A37 P41 A49 A51 60 x r1 t83 r5 t89 o t101 rec n t113 = l12e (some true) A35 A37 P41 A49 A51 60 y r1 t83 r5 t89 o t101 rec n t113 := by
    intro n
    induction n with
    | zero => intros; rfl
    | succ n ih => intros; simp only [l12e, h, ih]
  have hd : ∀ n r1 t83 r5 t89 o rec t101, l12d (some true) A35 A37 P41 A49 A51 60 x r1 t83 r5 t89 o rec n t101 = l12d (some true) A35 A37 P41 A49 A51 60 y r1 t83 r5 t89 o rec n t101 := by
    intro n
    induction n with
    | zero => intros; rfl
    | succ n ih => intros; simp only [l12d, h, ih, he]
  have hc : ∀ n r1 t83 r5 rec t89 o, l12c (some true) A35 A37 P41 A49 A51 60 x r1 t83 r5 rec n t89 o = l12c (some true) A35 A37 P41 A49 A51 60 y r1 t83 r5 rec n t89 o := by
    intro n
    induction n with
    | zero => intros; rfl
    | succ n ih => intros; simp only [l12c, ih, hd]
  have hb : ∀ n r1 t83 o, l12b (some true) A35 A37 P41 A49 A51 60 x r1 n t83 o = l12b (some true) A35 A37 P41 A49 A51 60 y r1 n t83 o := by
    intro n
    induction n with
    | zero => intros; rfl
    | succ n ih => intros; simp only [l12b, h, ih, hc]
  have ha : ∀ n r1 t9 t36, l12a (some true) A35 A37 P41 A49 A51 60 x u r1 n t9 t36 = l12a (some true) A35 A37 P41 A49 A51 60 y v r1 n t9 t36 := by
    intro n
    induction n with
    | zero => intros; rfl
    | succ n ih => intros; simp only [l12a, h, h2, ih, hb]
  simp only [M12, m12, h, h2, ha]
theorem law (s w : Int) (h0 : 0 ≤ s ∧ s ≤ 255) (h1 : 0 ≤ w ∧ w ≤ 255) : M12 s w = some true := by
  have e1 : w64 s = s := w64_eq (by omega) (by omega)
  have e2 : w64 w = w := w64_eq (by omega) (by omega)
  have e3 : w64 (s % 13) = s % 13 := w64_eq (by omega) (by omega)
  have e4 : w64 (w % 4) = w % 4 := w64_eq (by omega) (by omega)
  rw [red s (s % 13) w (w % 4) (by rw [e1, e3, Int.tmod_eq_emod_of_nonneg h0.1, Int.tmod_eq_emod_of_nonneg (by omega)]; omega) (by rw [e2, e4, Int.tmod_eq_emod_of_nonneg h1.1, Int.tmod_eq_emod_of_nonneg (by omega)]; omega)]
  have es : s % 13 = 0 ∨ s % 13 = 1 ∨ s % 13 = 2 ∨ s % 13 = 3 ∨ s % 13 = 4 ∨ s % 13 = 5 ∨ s % 13 = 6 ∨ s % 13 = 7 ∨ s % 13 = 8 ∨ s % 13 = 9 ∨ s % 13 = 10 ∨ s % 13 = 11 ∨ s % 13 = 12 := by omega
  have ew : w % 4 = 0 ∨ w % 4 = 1 ∨ w % 4 = 2 ∨ w % 4 = 3 := by omega
  rcases ew with ew | ew | ew | ew <;> rw [ew]
  · rcases es with es | es | es | es | es | es | es | es | es | es | es | es | es <;> rw [es]
    · exact m12_0_0
    · exact m12_1_0
    · exact m12_2_0
    · exact m12_3_0
    · exact m12_4_0
    · exact m12_5_0
    · exact m12_6_0
    · exact m12_7_0
    · exact m12_8_0
    · exact m12_9_0
    · exact m12_10_0
    · exact m12_11_0
    · exact m12_12_0
  · rcases es with es | es | es | es | es | es | es | es | es | es | es | es | es <;> rw [es]
    · exact m12_0_1
    · exact m12_1_1
    · exact m12_2_1
    · exact m12_3_1
    · exact m12_4_1
    · exact m12_5_1
    · exact m12_6_1
    · exact m12_7_1
    · exact m12_8_1
    · exact m12_9_1
    · exact m12_10_1
    · exact m12_11_1
    · exact m12_12_1
  · rcases es with es | es | es | es | es | es | es | es | es | es | es | es | es <;> rw [es]
    · exact m12_0_2
    · exact m12_1_2
    · exact m12_2_2
    · exact m12_3_2
    · exact m12_4_2
    · exact m12_5_2
    · exact m12_6_2
    · exact m12_7_2
    · exact m12_8_2
    · exact m12_9_2
    · exact m12_10_2
    · exact m12_11_2
    · exact m12_12_2
  · rcases es with es | es | es | es | es | es | es | es | es | es | es | es | es <;> rw [es]
    · exact m12_0_3
    · exact m12_1_3
    · exact m12_2_3
    · exact m12_3_3
    · exact m12_4_3
    · exact m12_5_3
    · exact m12_6_3
    · exact m12_7_3
    · exact m12_8_3
    · exact m12_9_3
    · exact m12_10_3
    · exact m12_11_3
    · exact m12_12_3
theorem K (y0 y1 : Int) (h : DT.wf (.int .u8) y0) (h2 : DT.wf (.int .u8) y1) : FnOk Try.prog 12 (F12 fun s w => if s = y0 ∧ w = y1 then some true else none) := by
  have hb : 0 ≤ y0 ∧ y0 ≤ 255 := bounds_u8 h
  have hc : 0 ≤ y1 ∧ y1 ≤ 255 := bounds_u8 h2
  refine ok12 (some true) A35 A37 P41 A49 A51 K16t K35 K37 K41t K49 K51 _ fun s w r hr => ⟨60, ?_⟩
  split at hr
  · rename_i e
    rw [← hr, e.1, e.2]; exact law _ _ hb hc
  · cases hr

set_option maxRecDepth 100000 in
theorem walk (w : World) (vs : List Value) (h : ArgsOk w [.int .u8, .int .u8] vs) : Calls Try.prog 12 vs.toArray w fun e w' => e = .returned (.bool true) ∧ Below w.heap.size w w' := by
  obtain ⟨v0, vs0, y0, rfl, w0, h0, k0⟩ := ArgsOk.cons h
  obtain ⟨v1, vs1, y1, rfl, w1, h1, k1⟩ := ArgsOk.cons k0
  obtain rfl := ArgsOk.nil k1
  exact walkAll (K y0 y1 w0 w1) (xs := [.dv (.int .u8) y0, .dv (.int .u8) y1]) (r := true) (if_pos ⟨rfl, rfl⟩) rfl (HoldsAll.cons h0 (HoldsAll.cons h1 HoldsAll.nil))

set_option maxRecDepth 100000 in
theorem lifted (os : Os) (started : os.Started) (H : Type) (enc : TypeId × Value → H) :
    ReturnsInHanded {} Try.checked os 12 .any (Rows.weighToldSpec.pre6 enc Try.prog Try.f12 Rows.weighToldRow.domain false) (Rows.weighToldSpec.post enc Try.prog Try.f12 false true false false) :=
  lawShell (fn := Try.f12) (s := Rows.weighToldSpec) (tb := 4) [.int .u8, .int .u8] Try.func12 (by kernel_rfl) (by kernel_rfl) (by kernel_rfl) Try.underlying4 (by kernel_rfl) os started H enc Rows.weighToldRow.domain
    (fun ds hl => by
      match ds, hl with
      | [d0, d1], _ => rfl)
    (ChangeSpec.witness6 (enc := enc) (C := Try.checked) false ⟨#[], #[.int .u8 0, .int .u8 0], []⟩ 8 (by kernel_rfl) (by kernel_rfl) (by kernel_rfl) (by kernel_rfl)) walk

theorem over : Rows.weighToldRow.holds Try.pinned (OpenSpec.ofChange Rows.weighToldSpec) :=
  OpenClaim.holds_of_wide 12 Try.f12 rfl rfl rfl rfl rfl rfl rfl ⟨rfl, rfl, rfl, rfl, rfl⟩ rfl rfl rfl rfl rfl (by kernel_rfl) Try.func12 (by kernel_rfl)
    (of_decide_eq_true (by kernel_rfl)) (by unfold Func.isWrapper; first | (rw [if_pos (by decide +kernel)]; kernel_rfl) | (rw [if_neg (by decide +kernel)]; exact ⟨rfl, rfl⟩))
    (fun os started H enc _ => lifted os started H enc)

/-- THE STATEMENT. -/
theorem proved : Rows.WeighToldSaid := over

end Go.Proofs.Ytjcgjbdlgmbepaa.weighTold
