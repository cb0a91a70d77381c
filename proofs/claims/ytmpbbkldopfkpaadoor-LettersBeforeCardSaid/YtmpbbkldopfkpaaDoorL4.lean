/-
  First, Rest and Same, in plain words.
-/
import Derived.Test.YtmpbbkldopfkpaaDoorL3
namespace Go.Proofs.YtmpbbkldopfkpaaDoor
open Go.RowKit
set_option linter.unusedVariables false

section
variable {D E : UInt8 → UInt8 → Bool}

end

def Ls (o : Of) (l : Wd) : Prop := ∀ b ∈ l, 97 ≤ (b.toNat : Int) ∧ (b.toNat : Int) ≤ 97 + o.1 - 1
theorem Ls.isL {o : Of} (h : errO o = 0) {l : Wd} (hl : Ls o l) : ∀ b ∈ l, isL b := fun b hb => by
  have := hl b hb
  have := (errO_zero h).1
  unfold Go.Proofs.YtmpbbkldopfkpaaDoor.isL; omega
theorem Ls.abc {o : Of} (h : errO o = 0) {l : Wd} (hl : Ls o l) : ∀ b ∈ l, b ∈ abc := fun b hb => isL_abc (hl.isL h b hb)
theorem Ls.refl {o : Of} (h : errO o = 0) {l : Wd} (hl : Ls o l) : ∀ b ∈ l, Dk (deskO o) b b = true := fun b hb => Dk_refl h (hl b hb)
def errA (o : Of) (ls : List Wd) : Int := if errO o = 0 then errL o.1 ls else errO o
theorem errA_zero {o : Of} {ls : List Wd} (h : errA o ls = 0) : errO o = 0 ∧ errL o.1 ls = 0 := by
  unfold errA at h
  split at h
  · rename_i h0; exact ⟨h0, h⟩
  · rename_i h0; exact absurd h h0
theorem errL_zero {k : Int} : ∀ {ls : List Wd}, errL k ls = 0 → ∀ l ∈ ls, errL1 k l = 0
  | [], _, l, hl => by cases hl
  | a :: ls, h, l, hl => by
    unfold errL at h
    split at h
    · rename_i h0
      rcases List.mem_cons.1 hl with rfl | hl
      · exact h0
      · exact errL_zero h l hl
    · rename_i h0; exact absurd h h0
theorem errA_word {o : Of} {ls : List Wd} (h : errA o ls = 0) {l : Wd} (hl : l ∈ ls) : l.length ≤ 14 ∧ Ls o l := errL1_zero (errL_zero (errA_zero h).2 l hl)
def C41 : Of → List Wd → Option (List Int × Int) := fun o ls => if ls.length < 1000 then B41 o ls else none
theorem kc41 : FnOk Tryd.prog 41 (F41 C41) := kb41
theorem C41_bad {o : Of} {ls : List Wd} (hl : ls.length < 1000) (h : errA o ls ≠ 0) : ∃ d, C41 o ls = some (d, errA o ls) := by
  unfold C41 B41 errA
  rw [if_pos hl]
  by_cases h0 : errO o = 0
  · rw [if_pos h0, if_pos h0]; exact ⟨_, rfl⟩
  · rw [if_neg h0, if_neg h0]; exact ⟨_, rfl⟩
theorem C41_good {o : Of} {ls : List Wd} (hl : ls.length < 1000) (h : errA o ls = 0) : C41 o ls = some (deskO o, 0) := by
  obtain ⟨h0, h1⟩ := errA_zero h
  unfold C41 B41
  rw [if_pos hl, if_pos h0, h1]
theorem Ls.asc {o : Of} (h : errO o = 0) {l : Wd} (hl : Ls o l) : Go.Proofs.YtmpbbkldopfkpaaDoor.asc l = true := by
  have := (errO_zero h).1
  unfold Go.Proofs.YtmpbbkldopfkpaaDoor.asc
  rw [List.all_eq_true]
  intro b hb
  have := hl b hb
  exact decide_eq_true (by omega)
end Go.Proofs.YtmpbbkldopfkpaaDoor
