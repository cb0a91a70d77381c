/-
  DERIVED. GIVEN WITH THE SEED: THE CARDS: each row of YtbjfbbfglkmadaaDoorRows.lean that lists a variable, with what it lists TIED to the program's text (the seventh form; the later family's looks); each row that meets fmt, with fmt's text TOLD by the authors' own Lean function (tested against real Go, not proved from fmt's source: count such statements apart). THE CARD IS WHAT COUNTS. Prove the row's statement (the work); the ties are given (YtbjfbbfglkmadaaDoorTie.lean); close each card by the builder's one call (the guide's Derived/Test/ToyasCard.lean, 'card_holds'). Laid BY PROGRAM, IN A SANDBOX (cutbox-door.mjs). By AI agents, Wed Nov 11 2026. No macro, syntax, notation, axiom, sorry.
-/
import Derived.Test.YtbjfbbfglkmadaaDoorRows
import GoSem.ClaimSeven
namespace Go.Proofs.YtbjfbbfglkmadaaDoor
namespace Rows

/-- THE TIED CARD OF 'tuschelaw09.MarkMakes'. -/
def markMakesCard : Claim7 := { stood := { row := markMakesRow, standIns := [], harness := (true, "018cc82852a7e087e6539cfb5cb3f00d3e0f6e4bd9da8bf234baf6754ce1d347"), looks := false }, kinds := [], alts := [], laidByText := true, laidKinds := [.data], laidTests := true, laidLooks := .later }
def MarkMakesCardSaid : Prop := Claim7.holds Tryd.pinned (.plain (OpenSpec.ofChange markMakesSpec)) markMakesCard

/-- THE TIED CARD OF 'tuschelaw09.MarkGuilty'. -/
def markGuiltyCard : Claim7 := { stood := { row := markGuiltyRow, standIns := [], harness := (true, "018cc82852a7e087e6539cfb5cb3f00d3e0f6e4bd9da8bf234baf6754ce1d347"), looks := false }, kinds := [], alts := [], laidByText := true, laidKinds := [.data], laidTests := true, laidLooks := .later }
def MarkGuiltyCardSaid : Prop := Claim7.holds Tryd.pinned (.plain (OpenSpec.ofChange markGuiltySpec)) markGuiltyCard

/-- THE TIED CARD OF 'tuschelaw09.MarkFrames'. -/
def markFramesCard : Claim7 := { stood := { row := markFramesRow, standIns := [], harness := (true, "018cc82852a7e087e6539cfb5cb3f00d3e0f6e4bd9da8bf234baf6754ce1d347"), looks := false }, kinds := [], alts := [], laidByText := true, laidKinds := [.data], laidTests := true, laidLooks := .later }
def MarkFramesCardSaid : Prop := Claim7.holds Tryd.pinned (.plain (OpenSpec.ofChange markFramesSpec)) markFramesCard

/-- THE TIED CARD OF 'tuschelaw09.MarkDoubts'. -/
def markDoubtsCard : Claim7 := { stood := { row := markDoubtsRow, standIns := [], harness := (true, "018cc82852a7e087e6539cfb5cb3f00d3e0f6e4bd9da8bf234baf6754ce1d347"), looks := false }, kinds := [], alts := [], laidByText := true, laidKinds := [.data], laidTests := true, laidLooks := .later }
def MarkDoubtsCardSaid : Prop := Claim7.holds Tryd.pinned (.plain (OpenSpec.ofChange markDoubtsSpec)) markDoubtsCard

/-- THE TIED CARD OF 'tuschelaw09.MarkConvicts'. -/
def markConvictsCard : Claim7 := { stood := { row := markConvictsRow, standIns := [], harness := (true, "018cc82852a7e087e6539cfb5cb3f00d3e0f6e4bd9da8bf234baf6754ce1d347"), looks := false }, kinds := [], alts := [], laidByText := true, laidKinds := [.data], laidTests := true, laidLooks := .later }
def MarkConvictsCardSaid : Prop := Claim7.holds Tryd.pinned (.plain (OpenSpec.ofChange markConvictsSpec)) markConvictsCard

/-- THE TIED CARD OF 'tuschelaw09.MarkLean'. -/
def markLeanCard : Claim7 := { stood := { row := markLeanRow, standIns := [], harness := (true, "018cc82852a7e087e6539cfb5cb3f00d3e0f6e4bd9da8bf234baf6754ce1d347"), looks := false }, kinds := [], alts := [], laidByText := true, laidKinds := [.data], laidTests := true, laidLooks := .later }
def MarkLeanCardSaid : Prop := Claim7.holds Tryd.pinned (.plain (OpenSpec.ofChange markLeanSpec)) markLeanCard

/-- THE TIED CARD OF 'tuschelaw09.MarkFramed'. -/
def markFramedCard : Claim7 := { stood := { row := markFramedRow, standIns := [], harness := (true, "018cc82852a7e087e6539cfb5cb3f00d3e0f6e4bd9da8bf234baf6754ce1d347"), looks := false }, kinds := [], alts := [], laidByText := true, laidKinds := [.data], laidTests := true, laidLooks := .later }
def MarkFramedCardSaid : Prop := Claim7.holds Tryd.pinned (.plain (OpenSpec.ofChange markFramedSpec)) markFramedCard

/-- THE TIED CARD OF 'tuschelaw09.MarkFar'. -/
def markFarCard : Claim7 := { stood := { row := markFarRow, standIns := [], harness := (true, "018cc82852a7e087e6539cfb5cb3f00d3e0f6e4bd9da8bf234baf6754ce1d347"), looks := false }, kinds := [], alts := [], laidByText := true, laidKinds := [.data], laidTests := true, laidLooks := .later }
def MarkFarCardSaid : Prop := Claim7.holds Tryd.pinned (.plain (OpenSpec.ofChange markFarSpec)) markFarCard

/-- THE TIED CARD OF 'tuschelaw09.MarkCopies'. -/
def markCopiesCard : Claim7 := { stood := { row := markCopiesRow, standIns := [], harness := (true, "018cc82852a7e087e6539cfb5cb3f00d3e0f6e4bd9da8bf234baf6754ce1d347"), looks := false }, kinds := [], alts := [], laidByText := true, laidKinds := [.data], laidTests := true, laidLooks := .later }
def MarkCopiesCardSaid : Prop := Claim7.holds Tryd.pinned (.plain (OpenSpec.ofChange markCopiesSpec)) markCopiesCard

/-- THE TIED CARD OF 'tuschelaw09.MarkRenamed'. -/
def markRenamedCard : Claim7 := { stood := { row := markRenamedRow, standIns := [], harness := (true, "018cc82852a7e087e6539cfb5cb3f00d3e0f6e4bd9da8bf234baf6754ce1d347"), looks := false }, kinds := [], alts := [], laidByText := true, laidKinds := [.data], laidTests := true, laidLooks := .later }
def MarkRenamedCardSaid : Prop := Claim7.holds Tryd.pinned (.plain (OpenSpec.ofChange markRenamedSpec)) markRenamedCard

/-- THE TIED CARD OF 'tuschelaw09.MarkKnown'. -/
def markKnownCard : Claim7 := { stood := { row := markKnownRow, standIns := [], harness := (true, "018cc82852a7e087e6539cfb5cb3f00d3e0f6e4bd9da8bf234baf6754ce1d347"), looks := false }, kinds := [], alts := [], laidByText := true, laidKinds := [.data], laidTests := true, laidLooks := .later }
def MarkKnownCardSaid : Prop := Claim7.holds Tryd.pinned (.plain (OpenSpec.ofChange markKnownSpec)) markKnownCard

/-- THE SECOND FORM's CARD OF 'tuschelaw09.MarkMakes'. -/
def markMakesUptoCard : Claim7 := { stood := { row := markMakesUptoRow, standIns := [], harness := (true, "018cc82852a7e087e6539cfb5cb3f00d3e0f6e4bd9da8bf234baf6754ce1d347"), looks := false }, kinds := [], alts := [], laidByText := true, laidKinds := [.data], laidTests := true, laidLooks := .later }
def MarkMakesUptoCardSaid : Prop := Claim7.holds Tryd.pinned (.plain (OpenSpec.upto markMakesSpec)) markMakesUptoCard

/-- THE SECOND FORM's CARD OF 'tuschelaw09.MarkGuilty'. -/
def markGuiltyUptoCard : Claim7 := { stood := { row := markGuiltyUptoRow, standIns := [], harness := (true, "018cc82852a7e087e6539cfb5cb3f00d3e0f6e4bd9da8bf234baf6754ce1d347"), looks := false }, kinds := [], alts := [], laidByText := true, laidKinds := [.data], laidTests := true, laidLooks := .later }
def MarkGuiltyUptoCardSaid : Prop := Claim7.holds Tryd.pinned (.plain (OpenSpec.upto markGuiltySpec)) markGuiltyUptoCard

/-- THE SECOND FORM's CARD OF 'tuschelaw09.MarkFrames'. -/
def markFramesUptoCard : Claim7 := { stood := { row := markFramesUptoRow, standIns := [], harness := (true, "018cc82852a7e087e6539cfb5cb3f00d3e0f6e4bd9da8bf234baf6754ce1d347"), looks := false }, kinds := [], alts := [], laidByText := true, laidKinds := [.data], laidTests := true, laidLooks := .later }
def MarkFramesUptoCardSaid : Prop := Claim7.holds Tryd.pinned (.plain (OpenSpec.upto markFramesSpec)) markFramesUptoCard

/-- THE SECOND FORM's CARD OF 'tuschelaw09.MarkDoubts'. -/
def markDoubtsUptoCard : Claim7 := { stood := { row := markDoubtsUptoRow, standIns := [], harness := (true, "018cc82852a7e087e6539cfb5cb3f00d3e0f6e4bd9da8bf234baf6754ce1d347"), looks := false }, kinds := [], alts := [], laidByText := true, laidKinds := [.data], laidTests := true, laidLooks := .later }
def MarkDoubtsUptoCardSaid : Prop := Claim7.holds Tryd.pinned (.plain (OpenSpec.upto markDoubtsSpec)) markDoubtsUptoCard

/-- THE SECOND FORM's CARD OF 'tuschelaw09.MarkConvicts'. -/
def markConvictsUptoCard : Claim7 := { stood := { row := markConvictsUptoRow, standIns := [], harness := (true, "018cc82852a7e087e6539cfb5cb3f00d3e0f6e4bd9da8bf234baf6754ce1d347"), looks := false }, kinds := [], alts := [], laidByText := true, laidKinds := [.data], laidTests := true, laidLooks := .later }
def MarkConvictsUptoCardSaid : Prop := Claim7.holds Tryd.pinned (.plain (OpenSpec.upto markConvictsSpec)) markConvictsUptoCard

/-- THE SECOND FORM's CARD OF 'tuschelaw09.MarkLean'. -/
def markLeanUptoCard : Claim7 := { stood := { row := markLeanUptoRow, standIns := [], harness := (true, "018cc82852a7e087e6539cfb5cb3f00d3e0f6e4bd9da8bf234baf6754ce1d347"), looks := false }, kinds := [], alts := [], laidByText := true, laidKinds := [.data], laidTests := true, laidLooks := .later }
def MarkLeanUptoCardSaid : Prop := Claim7.holds Tryd.pinned (.plain (OpenSpec.upto markLeanSpec)) markLeanUptoCard

/-- THE SECOND FORM's CARD OF 'tuschelaw09.MarkFramed'. -/
def markFramedUptoCard : Claim7 := { stood := { row := markFramedUptoRow, standIns := [], harness := (true, "018cc82852a7e087e6539cfb5cb3f00d3e0f6e4bd9da8bf234baf6754ce1d347"), looks := false }, kinds := [], alts := [], laidByText := true, laidKinds := [.data], laidTests := true, laidLooks := .later }
def MarkFramedUptoCardSaid : Prop := Claim7.holds Tryd.pinned (.plain (OpenSpec.upto markFramedSpec)) markFramedUptoCard

/-- THE SECOND FORM's CARD OF 'tuschelaw09.MarkFar'. -/
def markFarUptoCard : Claim7 := { stood := { row := markFarUptoRow, standIns := [], harness := (true, "018cc82852a7e087e6539cfb5cb3f00d3e0f6e4bd9da8bf234baf6754ce1d347"), looks := false }, kinds := [], alts := [], laidByText := true, laidKinds := [.data], laidTests := true, laidLooks := .later }
def MarkFarUptoCardSaid : Prop := Claim7.holds Tryd.pinned (.plain (OpenSpec.upto markFarSpec)) markFarUptoCard

/-- THE SECOND FORM's CARD OF 'tuschelaw09.MarkCopies'. -/
def markCopiesUptoCard : Claim7 := { stood := { row := markCopiesUptoRow, standIns := [], harness := (true, "018cc82852a7e087e6539cfb5cb3f00d3e0f6e4bd9da8bf234baf6754ce1d347"), looks := false }, kinds := [], alts := [], laidByText := true, laidKinds := [.data], laidTests := true, laidLooks := .later }
def MarkCopiesUptoCardSaid : Prop := Claim7.holds Tryd.pinned (.plain (OpenSpec.upto markCopiesSpec)) markCopiesUptoCard

/-- THE SECOND FORM's CARD OF 'tuschelaw09.MarkRenamed'. -/
def markRenamedUptoCard : Claim7 := { stood := { row := markRenamedUptoRow, standIns := [], harness := (true, "018cc82852a7e087e6539cfb5cb3f00d3e0f6e4bd9da8bf234baf6754ce1d347"), looks := false }, kinds := [], alts := [], laidByText := true, laidKinds := [.data], laidTests := true, laidLooks := .later }
def MarkRenamedUptoCardSaid : Prop := Claim7.holds Tryd.pinned (.plain (OpenSpec.upto markRenamedSpec)) markRenamedUptoCard

/-- THE SECOND FORM's CARD OF 'tuschelaw09.MarkKnown'. -/
def markKnownUptoCard : Claim7 := { stood := { row := markKnownUptoRow, standIns := [], harness := (true, "018cc82852a7e087e6539cfb5cb3f00d3e0f6e4bd9da8bf234baf6754ce1d347"), looks := false }, kinds := [], alts := [], laidByText := true, laidKinds := [.data], laidTests := true, laidLooks := .later }
def MarkKnownUptoCardSaid : Prop := Claim7.holds Tryd.pinned (.plain (OpenSpec.upto markKnownSpec)) markKnownUptoCard
end Rows
end Go.Proofs.YtbjfbbfglkmadaaDoor
