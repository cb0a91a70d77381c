/-
 Examples of chapters 9 and 12 hold.
-/
import Derived.Test.YtfopcfnggdonkaaGreatDoorWFC
import Derived.Test.YtfopcfnggdonkaaGreatDoorWG
import Derived.Test.YtfopcfnggdonkaaGreatDoorTYM
import Derived.Test.YtfopcfnggdonkaaGreatDoorT1
namespace Go.Proofs.YtfopcfnggdonkaaGreatDoor
open Go.Proofs.Tryz
open Go.RowKit
set_option linter.unusedVariables false
theorem aoO : aF prog 13 (XE (some true)) := fun args o x h => by
 simp only [XE] at h
 split at h
 ·obtain rfl := Option.some.inj h; exact H13 [] [] _ amF
 ·cases h
def V8 : (List Int) -> Option (Int) := fun bV => Il pR 60 bV
theorem K79 : aF prog 79 (QN V8) := aB4 pR XO V8 fun bV r h => ⟨60, h⟩
def V6 : (List Int) -> Option (List Int) := fun s0 => Wx 60 s0
theorem K73 : aF prog 73 (LZ V6) := aBY V6 fun s0 r h => ⟨60, h⟩
def PH : Nat -> (List Int) -> Int -> Int -> Int -> (List Int) -> Option (Option (List Int) × List Int)
 | 0 => fun _ _ _ _ _ => none
 | k + 1 => fun fV left1 jV kP p4 => Io G7 V6 (PH k) 60 fV left1 jV kP p4
theorem abY : ∀ k, aF prog 80 (AV (PH k))
 | 0 => by intro args Of x hx; simp only [AV, PH] at hx; split at hx <;> cases hx
 | k + 1 => aB5 G7 V6 (PH k) K43 K73 (abY k) _ (fun fV left1 jV kP p4 r h => ⟨60, h⟩)
def Ll : (List Int) -> Int -> Int -> Int -> (List Int) -> Option (Option (List Int) × List Int) := PH 60
theorem apV : aF prog 80 (AV Ll) := abY 60
def V3 : (List Int) -> Int -> Option (List Int × Int) := fun bV gX => Ib V8 Ll 60 bV gX
theorem K47 : aF prog 47 (QI V3) := aBQ V8 Ll K79 apV V3 fun bV gX r h => ⟨60, h⟩
def Lh : Option (Bool) := m20 (some true) lC V3 60
theorem K20 : aF prog 20 (F20 Lh) := aA' (some true) lC V3 aoO abZ K47 Lh fun r h => ⟨60, h⟩
theorem aJY : Lh = some true := by kernel_rfl
theorem ao4 : aF prog 20 (F20 (some true)) := aJY ▸ K20
end Go.Proofs.YtfopcfnggdonkaaGreatDoor
