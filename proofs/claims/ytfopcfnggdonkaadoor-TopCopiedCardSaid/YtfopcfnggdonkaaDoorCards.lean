/-
  DERIVED. GIVEN WITH THE SEED: THE CARDS: each row of YtfopcfnggdonkaaDoorRows.lean that lists a variable, with what it lists TIED to the program's text (the seventh form; the later family's looks); each row that meets fmt, with fmt's text TOLD by the authors' own Lean function (tested against real Go, not proved from fmt's source: count such statements apart). THE CARD IS WHAT COUNTS. Prove the row's statement (the work); the ties are given (YtfopcfnggdonkaaDoorTie.lean); close each card by the builder's one call (the guide's Derived/Test/ToyasCard.lean, 'card_holds'). Laid BY PROGRAM, IN A SANDBOX (cutbox-door.mjs). By AI agents, Wed Nov 11 2026. No macro, syntax, notation, axiom, sorry.
-/
import Derived.Test.YtfopcfnggdonkaaDoorRows
import GoSem.ClaimSeven
namespace Go.Proofs.YtfopcfnggdonkaaDoor
namespace Rows

/-- THE TIED CARD OF 'tuschetop.TopCopied'. -/
def topCopiedCard : Claim7 := { stood := { row := topCopiedRow, standIns := [], harness := (true, "37475130d8c6f74d13b2dd20985bc1ca598a63f10d0182e8426955af0e51dba4"), looks := true }, kinds := [], alts := [], laidByText := true, laidKinds := [.data], laidTests := true, laidLooks := .later }
def TopCopiedCardSaid : Prop := Claim7.holds Tryd.pinned (.plain (OpenSpec.ofChange topCopiedSpec)) topCopiedCard

/-- THE SECOND FORM's CARD OF 'tuschetop.TopCopied'. -/
def topCopiedUptoCard : Claim7 := { stood := { row := topCopiedUptoRow, standIns := [], harness := (true, "37475130d8c6f74d13b2dd20985bc1ca598a63f10d0182e8426955af0e51dba4"), looks := true }, kinds := [], alts := [], laidByText := true, laidKinds := [.data], laidTests := true, laidLooks := .later }
def TopCopiedUptoCardSaid : Prop := Claim7.holds Tryd.pinned (.plain (OpenSpec.upto topCopiedSpec)) topCopiedUptoCard
end Rows
end Go.Proofs.YtfopcfnggdonkaaDoor
