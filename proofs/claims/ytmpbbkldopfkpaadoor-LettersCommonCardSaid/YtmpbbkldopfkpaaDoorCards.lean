/-
  DERIVED. GIVEN WITH THE SEED: THE CARDS: each row of YtmpbbkldopfkpaaDoorRows.lean that lists a variable, with what it lists TIED to the program's text (the seventh form; the later family's looks); each row that meets fmt, with fmt's text TOLD by the authors' own Lean function (tested against real Go, not proved from fmt's source: count such statements apart). THE CARD IS WHAT COUNTS. Prove the row's statement (the work); the ties are given (YtmpbbkldopfkpaaDoorTie.lean); close each card by the builder's one call (the guide's Derived/Test/ToyasCard.lean, 'card_holds'). Laid BY PROGRAM, IN A SANDBOX (cutbox-door.mjs). By AI agents, Wed Nov 11 2026. No macro, syntax, notation, axiom, sorry.
-/
import Derived.Test.YtmpbbkldopfkpaaDoorRows
import GoSem.ClaimSeven
namespace Go.Proofs.YtmpbbkldopfkpaaDoor
namespace Rows

/-- THE TIED CARD OF 'tuschelaw10.LettersForms'. -/
def lettersFormsCard : Claim7 := { stood := { row := lettersFormsRow, standIns := [], harness := (true, "319dfa66b581b5b6d08f6f2fb949c4fc49c9104c5b2ccc686a739ed36fa85254"), looks := false }, kinds := [], alts := [], laidByText := true, laidKinds := [.data, .data, .data, .pinned], laidTests := true, laidLooks := .later }
def LettersFormsCardSaid : Prop := Claim7.holds Tryd.pinned (.plain (OpenSpec.ofChange lettersFormsSpec)) lettersFormsCard

/-- THE TIED CARD OF 'tuschelaw10.LettersRests'. -/
def lettersRestsCard : Claim7 := { stood := { row := lettersRestsRow, standIns := [], harness := (true, "319dfa66b581b5b6d08f6f2fb949c4fc49c9104c5b2ccc686a739ed36fa85254"), looks := false }, kinds := [], alts := [], laidByText := true, laidKinds := [.data, .data, .data, .pinned], laidTests := true, laidLooks := .later }
def LettersRestsCardSaid : Prop := Claim7.holds Tryd.pinned (.plain (OpenSpec.ofChange lettersRestsSpec)) lettersRestsCard

/-- THE TIED CARD OF 'tuschelaw10.LettersFirst'. -/
def lettersFirstCard : Claim7 := { stood := { row := lettersFirstRow, standIns := [], harness := (true, "319dfa66b581b5b6d08f6f2fb949c4fc49c9104c5b2ccc686a739ed36fa85254"), looks := false }, kinds := [], alts := [], laidByText := true, laidKinds := [.data, .data, .data, .pinned], laidTests := true, laidLooks := .later }
def LettersFirstCardSaid : Prop := Claim7.holds Tryd.pinned (.plain (OpenSpec.ofChange lettersFirstSpec)) lettersFirstCard

/-- THE TIED CARD OF 'tuschelaw10.LettersBefore'. -/
def lettersBeforeCard : Claim7 := { stood := { row := lettersBeforeRow, standIns := [], harness := (true, "319dfa66b581b5b6d08f6f2fb949c4fc49c9104c5b2ccc686a739ed36fa85254"), looks := false }, kinds := [], alts := [], laidByText := true, laidKinds := [.data, .data, .data, .pinned], laidTests := true, laidLooks := .later }
def LettersBeforeCardSaid : Prop := Claim7.holds Tryd.pinned (.plain (OpenSpec.ofChange lettersBeforeSpec)) lettersBeforeCard

/-- THE TIED CARD OF 'tuschelaw10.LettersRest'. -/
def lettersRestCard : Claim7 := { stood := { row := lettersRestRow, standIns := [], harness := (true, "319dfa66b581b5b6d08f6f2fb949c4fc49c9104c5b2ccc686a739ed36fa85254"), looks := false }, kinds := [], alts := [], laidByText := true, laidKinds := [.data, .data, .data, .pinned], laidTests := true, laidLooks := .later }
def LettersRestCardSaid : Prop := Claim7.holds Tryd.pinned (.plain (OpenSpec.ofChange lettersRestSpec)) lettersRestCard

/-- THE TIED CARD OF 'tuschelaw10.LettersCommon'. -/
def lettersCommonCard : Claim7 := { stood := { row := lettersCommonRow, standIns := [], harness := (true, "319dfa66b581b5b6d08f6f2fb949c4fc49c9104c5b2ccc686a739ed36fa85254"), looks := false }, kinds := [], alts := [], laidByText := true, laidKinds := [.data, .data, .data, .pinned], laidTests := true, laidLooks := .later }
def LettersCommonCardSaid : Prop := Claim7.holds Tryd.pinned (.plain (OpenSpec.ofChange lettersCommonSpec)) lettersCommonCard

/-- THE TIED CARD OF 'tuschelaw10.LettersMore'. -/
def lettersMoreCard : Claim7 := { stood := { row := lettersMoreRow, standIns := [], harness := (true, "319dfa66b581b5b6d08f6f2fb949c4fc49c9104c5b2ccc686a739ed36fa85254"), looks := false }, kinds := [], alts := [], laidByText := true, laidKinds := [.data, .data, .data, .pinned], laidTests := true, laidLooks := .later }
def LettersMoreCardSaid : Prop := Claim7.holds Tryd.pinned (.plain (OpenSpec.ofChange lettersMoreSpec)) lettersMoreCard

/-- THE TIED CARD OF 'tuschelaw10.LettersKnown'. -/
def lettersKnownCard : Claim7 := { stood := { row := lettersKnownRow, standIns := [], harness := (true, "319dfa66b581b5b6d08f6f2fb949c4fc49c9104c5b2ccc686a739ed36fa85254"), looks := false }, kinds := [], alts := [], laidByText := true, laidKinds := [.data, .data, .data, .pinned], laidTests := true, laidLooks := .later }
def LettersKnownCardSaid : Prop := Claim7.holds Tryd.pinned (.plain (OpenSpec.ofChange lettersKnownSpec)) lettersKnownCard

/-- THE SECOND FORM's CARD OF 'tuschelaw10.LettersForms'. -/
def lettersFormsUptoCard : Claim7 := { stood := { row := lettersFormsUptoRow, standIns := [], harness := (true, "319dfa66b581b5b6d08f6f2fb949c4fc49c9104c5b2ccc686a739ed36fa85254"), looks := false }, kinds := [], alts := [], laidByText := true, laidKinds := [.data, .data, .data, .pinned], laidTests := true, laidLooks := .later }
def LettersFormsUptoCardSaid : Prop := Claim7.holds Tryd.pinned (.plain (OpenSpec.upto lettersFormsSpec)) lettersFormsUptoCard

/-- THE SECOND FORM's CARD OF 'tuschelaw10.LettersRests'. -/
def lettersRestsUptoCard : Claim7 := { stood := { row := lettersRestsUptoRow, standIns := [], harness := (true, "319dfa66b581b5b6d08f6f2fb949c4fc49c9104c5b2ccc686a739ed36fa85254"), looks := false }, kinds := [], alts := [], laidByText := true, laidKinds := [.data, .data, .data, .pinned], laidTests := true, laidLooks := .later }
def LettersRestsUptoCardSaid : Prop := Claim7.holds Tryd.pinned (.plain (OpenSpec.upto lettersRestsSpec)) lettersRestsUptoCard

/-- THE SECOND FORM's CARD OF 'tuschelaw10.LettersFirst'. -/
def lettersFirstUptoCard : Claim7 := { stood := { row := lettersFirstUptoRow, standIns := [], harness := (true, "319dfa66b581b5b6d08f6f2fb949c4fc49c9104c5b2ccc686a739ed36fa85254"), looks := false }, kinds := [], alts := [], laidByText := true, laidKinds := [.data, .data, .data, .pinned], laidTests := true, laidLooks := .later }
def LettersFirstUptoCardSaid : Prop := Claim7.holds Tryd.pinned (.plain (OpenSpec.upto lettersFirstSpec)) lettersFirstUptoCard

/-- THE SECOND FORM's CARD OF 'tuschelaw10.LettersBefore'. -/
def lettersBeforeUptoCard : Claim7 := { stood := { row := lettersBeforeUptoRow, standIns := [], harness := (true, "319dfa66b581b5b6d08f6f2fb949c4fc49c9104c5b2ccc686a739ed36fa85254"), looks := false }, kinds := [], alts := [], laidByText := true, laidKinds := [.data, .data, .data, .pinned], laidTests := true, laidLooks := .later }
def LettersBeforeUptoCardSaid : Prop := Claim7.holds Tryd.pinned (.plain (OpenSpec.upto lettersBeforeSpec)) lettersBeforeUptoCard

/-- THE SECOND FORM's CARD OF 'tuschelaw10.LettersRest'. -/
def lettersRestUptoCard : Claim7 := { stood := { row := lettersRestUptoRow, standIns := [], harness := (true, "319dfa66b581b5b6d08f6f2fb949c4fc49c9104c5b2ccc686a739ed36fa85254"), looks := false }, kinds := [], alts := [], laidByText := true, laidKinds := [.data, .data, .data, .pinned], laidTests := true, laidLooks := .later }
def LettersRestUptoCardSaid : Prop := Claim7.holds Tryd.pinned (.plain (OpenSpec.upto lettersRestSpec)) lettersRestUptoCard

/-- THE SECOND FORM's CARD OF 'tuschelaw10.LettersCommon'. -/
def lettersCommonUptoCard : Claim7 := { stood := { row := lettersCommonUptoRow, standIns := [], harness := (true, "319dfa66b581b5b6d08f6f2fb949c4fc49c9104c5b2ccc686a739ed36fa85254"), looks := false }, kinds := [], alts := [], laidByText := true, laidKinds := [.data, .data, .data, .pinned], laidTests := true, laidLooks := .later }
def LettersCommonUptoCardSaid : Prop := Claim7.holds Tryd.pinned (.plain (OpenSpec.upto lettersCommonSpec)) lettersCommonUptoCard

/-- THE SECOND FORM's CARD OF 'tuschelaw10.LettersMore'. -/
def lettersMoreUptoCard : Claim7 := { stood := { row := lettersMoreUptoRow, standIns := [], harness := (true, "319dfa66b581b5b6d08f6f2fb949c4fc49c9104c5b2ccc686a739ed36fa85254"), looks := false }, kinds := [], alts := [], laidByText := true, laidKinds := [.data, .data, .data, .pinned], laidTests := true, laidLooks := .later }
def LettersMoreUptoCardSaid : Prop := Claim7.holds Tryd.pinned (.plain (OpenSpec.upto lettersMoreSpec)) lettersMoreUptoCard

/-- THE SECOND FORM's CARD OF 'tuschelaw10.LettersKnown'. -/
def lettersKnownUptoCard : Claim7 := { stood := { row := lettersKnownUptoRow, standIns := [], harness := (true, "319dfa66b581b5b6d08f6f2fb949c4fc49c9104c5b2ccc686a739ed36fa85254"), looks := false }, kinds := [], alts := [], laidByText := true, laidKinds := [.data, .data, .data, .pinned], laidTests := true, laidLooks := .later }
def LettersKnownUptoCardSaid : Prop := Claim7.holds Tryd.pinned (.plain (OpenSpec.upto lettersKnownSpec)) lettersKnownUptoCard
end Rows
end Go.Proofs.YtmpbbkldopfkpaaDoor
