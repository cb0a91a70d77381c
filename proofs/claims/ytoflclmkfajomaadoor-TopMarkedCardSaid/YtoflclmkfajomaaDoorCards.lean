/-
  DERIVED. GIVEN WITH THE SEED: THE CARDS: each row of YtoflclmkfajomaaDoorRows.lean that lists a variable, with what it lists TIED to the program's text (the seventh form; the later family's looks); each row that meets fmt, with fmt's text TOLD by the authors' own Lean function (tested against real Go, not proved from fmt's source: count such statements apart). THE CARD IS WHAT COUNTS. Prove the row's statement (the work); the ties are given (YtoflclmkfajomaaDoorTie.lean); close each card by the builder's one call (the guide's Derived/Test/ToyasCard.lean, 'card_holds'). Laid BY PROGRAM, IN A SANDBOX (cutbox-door.mjs). By AI agents, Wed Nov 11 2026. No macro, syntax, notation, axiom, sorry.
-/
import Derived.Test.YtoflclmkfajomaaDoorRows
import GoSem.ClaimSeven
namespace Go.Proofs.YtoflclmkfajomaaDoor
namespace Rows

/-- THE TIED CARD OF 'tuschetop.TopMarked'. -/
def topMarkedCard : Claim7 := { stood := { row := topMarkedRow, standIns := [], harness := (true, "62b2e457bc3aeff24a005e6a33b4f4b6a7ceb87ed687c4c684f9548e573e8069"), looks := true }, kinds := [], alts := [], laidByText := true, laidKinds := [.data], laidTests := true, laidLooks := .later }
def TopMarkedCardSaid : Prop := Claim7.holds Tryd.pinned (.plain (OpenSpec.ofChange topMarkedSpec)) topMarkedCard

/-- THE SECOND FORM's CARD OF 'tuschetop.TopMarked'. -/
def topMarkedUptoCard : Claim7 := { stood := { row := topMarkedUptoRow, standIns := [], harness := (true, "62b2e457bc3aeff24a005e6a33b4f4b6a7ceb87ed687c4c684f9548e573e8069"), looks := true }, kinds := [], alts := [], laidByText := true, laidKinds := [.data], laidTests := true, laidLooks := .later }
def TopMarkedUptoCardSaid : Prop := Claim7.holds Tryd.pinned (.plain (OpenSpec.upto topMarkedSpec)) topMarkedUptoCard
end Rows
end Go.Proofs.YtoflclmkfajomaaDoor
