/-
  DERIVED. GIVEN WITH THE SEED: THE CARDS: each row of YtjcnfpfldocpdaaGreatDoorRows.lean that lists a variable, with what it lists TIED to the program's text (the seventh form; the later family's looks); each row that meets fmt, with fmt's text TOLD by the authors' own Lean function (tested against real Go, not proved from fmt's source: count such statements apart). THE CARD IS WHAT COUNTS. Prove the row's statement (the work); the ties are given (YtjcnfpfldocpdaaGreatDoorTie.lean); close each card by the builder's one call (the guide's Derived/Test/ToyasCard.lean, 'card_holds'). Laid BY PROGRAM, IN A SANDBOX (cutbox-door.mjs). By AI agents, Wed Nov 11 2026. No macro, syntax, notation, axiom, sorry.
-/
import Derived.Test.YtjcnfpfldocpdaaGreatDoorRows
import GoSem.ClaimSeven
namespace Go.Proofs.YtjcnfpfldocpdaaGreatDoor
namespace Rows

/-- THE TIED CARD OF 'tuschetop.TopQueued'. -/
def topQueuedCard : Claim7 := { stood := { row := topQueuedRow, standIns := [], harness := (true, "39f172c8ff1af7884556b7223ad623c2a00a7c2e00b93a4f69d836dbaf9171a3"), looks := true }, kinds := [], alts := [], laidByText := true, laidKinds := [.data], laidTests := true, laidLooks := .later }
def TopQueuedCardSaid : Prop := Claim7.holds Tryz.pinned (.plain (OpenSpec.ofChange topQueuedSpec)) topQueuedCard

/-- THE TIED CARD OF 'tuschetop.TopBalanced'. -/
def topBalancedCard : Claim7 := { stood := { row := topBalancedRow, standIns := [], harness := (true, "39f172c8ff1af7884556b7223ad623c2a00a7c2e00b93a4f69d836dbaf9171a3"), looks := true }, kinds := [], alts := [], laidByText := true, laidKinds := [.data], laidTests := true, laidLooks := .later }
def TopBalancedCardSaid : Prop := Claim7.holds Tryz.pinned (.plain (OpenSpec.ofChange topBalancedSpec)) topBalancedCard

/-- THE SECOND FORM's CARD OF 'tuschetop.TopQueued'. -/
def topQueuedUptoCard : Claim7 := { stood := { row := topQueuedUptoRow, standIns := [], harness := (true, "39f172c8ff1af7884556b7223ad623c2a00a7c2e00b93a4f69d836dbaf9171a3"), looks := true }, kinds := [], alts := [], laidByText := true, laidKinds := [.data], laidTests := true, laidLooks := .later }
def TopQueuedUptoCardSaid : Prop := Claim7.holds Tryz.pinned (.plain (OpenSpec.upto topQueuedSpec)) topQueuedUptoCard

/-- THE SECOND FORM's CARD OF 'tuschetop.TopBalanced'. -/
def topBalancedUptoCard : Claim7 := { stood := { row := topBalancedUptoRow, standIns := [], harness := (true, "39f172c8ff1af7884556b7223ad623c2a00a7c2e00b93a4f69d836dbaf9171a3"), looks := true }, kinds := [], alts := [], laidByText := true, laidKinds := [.data], laidTests := true, laidLooks := .later }
def TopBalancedUptoCardSaid : Prop := Claim7.holds Tryz.pinned (.plain (OpenSpec.upto topBalancedSpec)) topBalancedUptoCard
end Rows
end Go.Proofs.YtjcnfpfldocpdaaGreatDoor
