/-
  DERIVED. GIVEN WITH THE SEED: THE CARDS: each row of YtfopcfnggdonkaaGreatDoorRows.lean that lists a variable, with what it lists TIED to the program's text (the seventh form; the later family's looks); each row that meets fmt, with fmt's text TOLD by the authors' own Lean function (tested against real Go, not proved from fmt's source: count such statements apart). THE CARD IS WHAT COUNTS. Prove the row's statement (the work); the ties are given (YtfopcfnggdonkaaGreatDoorTie.lean); close each card by the builder's one call (the guide's Derived/Test/ToyasCard.lean, 'card_holds'). Laid BY PROGRAM, IN A SANDBOX (cutbox-door.mjs). By AI agents, Wed Nov 11 2026. No macro, syntax, notation, axiom, sorry.
-/
import Derived.Test.YtfopcfnggdonkaaGreatDoorRows
import GoSem.ClaimSeven
namespace Go.Proofs.YtfopcfnggdonkaaGreatDoor
namespace Rows

/-- THE TIED CARD OF 'tuschetop.TopCommuted'. -/
def topCommutedCard : Claim7 := { stood := { row := topCommutedRow, standIns := [], harness := (true, "8eca92490ef2875c309c1d626cc6b1668343fa11f971891b1da5bd0a691c8ca7"), looks := true }, kinds := [], alts := [], laidByText := true, laidKinds := [.data, .pinned], laidTests := true, laidLooks := .later }
def TopCommutedCardSaid : Prop := Claim7.holds Tryz.pinned (.plain (OpenSpec.ofChange topCommutedSpec)) topCommutedCard

/-- THE TIED CARD OF 'tuschetop.TopTold'. -/
def topToldCard : Claim7 := { stood := { row := topToldRow, standIns := [], harness := (true, "8eca92490ef2875c309c1d626cc6b1668343fa11f971891b1da5bd0a691c8ca7"), looks := true }, kinds := [], alts := [], laidByText := true, laidKinds := [.data, .pinned], laidTests := true, laidLooks := .later }
def TopToldCardSaid : Prop := Claim7.holds Tryz.pinned (.plain (OpenSpec.ofChange topToldSpec)) topToldCard

/-- THE SECOND FORM's CARD OF 'tuschetop.TopCommuted'. -/
def topCommutedUptoCard : Claim7 := { stood := { row := topCommutedUptoRow, standIns := [], harness := (true, "8eca92490ef2875c309c1d626cc6b1668343fa11f971891b1da5bd0a691c8ca7"), looks := true }, kinds := [], alts := [], laidByText := true, laidKinds := [.data, .pinned], laidTests := true, laidLooks := .later }
def TopCommutedUptoCardSaid : Prop := Claim7.holds Tryz.pinned (.plain (OpenSpec.upto topCommutedSpec)) topCommutedUptoCard

/-- THE SECOND FORM's CARD OF 'tuschetop.TopTold'. -/
def topToldUptoCard : Claim7 := { stood := { row := topToldUptoRow, standIns := [], harness := (true, "8eca92490ef2875c309c1d626cc6b1668343fa11f971891b1da5bd0a691c8ca7"), looks := true }, kinds := [], alts := [], laidByText := true, laidKinds := [.data, .pinned], laidTests := true, laidLooks := .later }
def TopToldUptoCardSaid : Prop := Claim7.holds Tryz.pinned (.plain (OpenSpec.upto topToldSpec)) topToldUptoCard
end Rows
end Go.Proofs.YtfopcfnggdonkaaGreatDoor
