/-
  NARROWER THAN 'FOR EVERY INPUT', by the rows' own cells (each row's printed sentence says how): LettersForms: laid · LettersRests: laid · LettersFirst: laid · LettersBefore: laid · LettersRest: laid · LettersCommon: laid · LettersMore: laid · LettersKnown: laid.
  DERIVED. THE GIVEN ROWS OF THIS SEAT. 8 by the template 'for every input the law returns true; each argument reads behind the call as it read before'; 0 by the template 'total and deterministic' (their statements: YtmpbbkldopfkpaaDoorTotals.lean).
  GIVEN WITH THE SEED: the statements are not yours to turn. If you find one false, say at which input.
  Laid BY PROGRAM, IN A SANDBOX (cutbox-rows.mjs): the forced cells as the released guide's own fill.sh prints them over the translation 8ba649c9d8c5cac7… (all of the seat's roots in one cut). By AI agents, Wed Nov 11 2026. No macro, syntax, notation, axiom, sorry.
-/
import Derived.Test.YtmpbbkldopfkpaaDoorChecked
import GoSem.PinnedTables
import GoSem.Claim
import GoSem.ClaimJoined
import GoSem.ClaimMapViews
import Derived.JoinedTies
import Derived.KernelRfl
namespace Go.Proofs.YtmpbbkldopfkpaaDoor
/- THE CELL 'sum', in the pinned program and in every row, IS THE sha256 OF THE DUMP (.gsa) THAT YtmpbbkldopfkpaaDoorProg.lean LOADS. Nothing in Lean hashes anything: it is a label: what it is worth is what the hold of that sum in a sandbox is worth. -/
noncomputable def Tryd.pinned : Pinned := { name := "ytmpbbkldopfkpaadoor", sum := "8ba649c9d8c5cac791c0a5cd69edb443b44495a14ded7efed2244df03ade8d78", checked := Tryd.checked }
namespace Rows
def none {H : Type} : Left H := { results := [], args := [] }

/- WHAT THE LISTED PACKAGE-LEVEL VARIABLES READ AS WHEN THE CALL BEGINS. Each datum BY PROGRAM (the guide's laid-datum.mjs) off the statement by which the dump's own 'gosem.cut.vars' lays the variable. In a bare row this is a premise. The card (YtmpbbkldopfkpaaDoorCards.lean) ties it to the program's text. -/
def laid_math_bits_deBruijn32tab {H : Type} : DataW H := .agg [.lit (.int .u8 0), .lit (.int .u8 1), .lit (.int .u8 28), .lit (.int .u8 2), .lit (.int .u8 29), .lit (.int .u8 14), .lit (.int .u8 24), .lit (.int .u8 3), .lit (.int .u8 30), .lit (.int .u8 22), .lit (.int .u8 20), .lit (.int .u8 15), .lit (.int .u8 25), .lit (.int .u8 17), .lit (.int .u8 4), .lit (.int .u8 8), .lit (.int .u8 31), .lit (.int .u8 27), .lit (.int .u8 13), .lit (.int .u8 23), .lit (.int .u8 21), .lit (.int .u8 19), .lit (.int .u8 16), .lit (.int .u8 7), .lit (.int .u8 26), .lit (.int .u8 12), .lit (.int .u8 18), .lit (.int .u8 6), .lit (.int .u8 11), .lit (.int .u8 5), .lit (.int .u8 10), .lit (.int .u8 9)]
def laid_math_bits_deBruijn64tab {H : Type} : DataW H := .agg [.lit (.int .u8 0), .lit (.int .u8 1), .lit (.int .u8 56), .lit (.int .u8 2), .lit (.int .u8 57), .lit (.int .u8 49), .lit (.int .u8 28), .lit (.int .u8 3), .lit (.int .u8 61), .lit (.int .u8 58), .lit (.int .u8 42), .lit (.int .u8 50), .lit (.int .u8 38), .lit (.int .u8 29), .lit (.int .u8 17), .lit (.int .u8 4), .lit (.int .u8 62), .lit (.int .u8 47), .lit (.int .u8 59), .lit (.int .u8 36), .lit (.int .u8 45), .lit (.int .u8 43), .lit (.int .u8 51), .lit (.int .u8 22), .lit (.int .u8 53), .lit (.int .u8 39), .lit (.int .u8 33), .lit (.int .u8 30), .lit (.int .u8 24), .lit (.int .u8 18), .lit (.int .u8 12), .lit (.int .u8 5), .lit (.int .u8 63), .lit (.int .u8 55), .lit (.int .u8 48), .lit (.int .u8 27), .lit (.int .u8 60), .lit (.int .u8 41), .lit (.int .u8 37), .lit (.int .u8 16), .lit (.int .u8 46), .lit (.int .u8 35), .lit (.int .u8 44), .lit (.int .u8 21), .lit (.int .u8 52), .lit (.int .u8 32), .lit (.int .u8 23), .lit (.int .u8 11), .lit (.int .u8 54), .lit (.int .u8 26), .lit (.int .u8 40), .lit (.int .u8 15), .lit (.int .u8 34), .lit (.int .u8 20), .lit (.int .u8 31), .lit (.int .u8 10), .lit (.int .u8 25), .lit (.int .u8 14), .lit (.int .u8 19), .lit (.int .u8 9), .lit (.int .u8 13), .lit (.int .u8 8), .lit (.int .u8 7), .lit (.int .u8 6)]
def laid_unicode_utf8_acceptRanges {H : Type} : DataW H := .agg [.agg [.lit (.int .u8 128), .lit (.int .u8 191)], .agg [.lit (.int .u8 160), .lit (.int .u8 191)], .agg [.lit (.int .u8 128), .lit (.int .u8 159)], .agg [.lit (.int .u8 144), .lit (.int .u8 191)], .agg [.lit (.int .u8 128), .lit (.int .u8 143)], .agg [.lit (.int .u8 0), .lit (.int .u8 0)], .agg [.lit (.int .u8 0), .lit (.int .u8 0)], .agg [.lit (.int .u8 0), .lit (.int .u8 0)], .agg [.lit (.int .u8 0), .lit (.int .u8 0)], .agg [.lit (.int .u8 0), .lit (.int .u8 0)], .agg [.lit (.int .u8 0), .lit (.int .u8 0)], .agg [.lit (.int .u8 0), .lit (.int .u8 0)], .agg [.lit (.int .u8 0), .lit (.int .u8 0)], .agg [.lit (.int .u8 0), .lit (.int .u8 0)], .agg [.lit (.int .u8 0), .lit (.int .u8 0)], .agg [.lit (.int .u8 0), .lit (.int .u8 0)]]
/-- One of Go's own tables, pinned by name: the form's constant. -/
def laid_unicode_utf8_first : DataW Unit := Go.Pinned.utf8First

/-- 'tuschelaw10.LettersForms': WHATEVER THE INPUT: true; the input reads as it did. -/
def lettersFormsSpec : ChangeSpec := { name := "lettersForms", fn := fun _ => fun
  | [d1, d2, d3, d4] => { results := [.lit (.bool true)], args := [d1, d2, d3, d4] }
  | _ => none }
def lettersFormsRow : OpenClaim := { program := "ytmpbbkldopfkpaadoor", sum := "8ba649c9d8c5cac791c0a5cd69edb443b44495a14ded7efed2244df03ade8d78", func := "tusche/tuschelaw10.LettersForms", spec := "lettersForms", inPlace := ["internal/abi.NoEscape", "internal/bytealg.MakeNoZero"], unfollowed := true, recurses := true, named := ["unicode/utf8.first", "unicode/utf8.acceptRanges", "math/bits.deBruijn32tab", "math/bits.deBruijn64tab"], apart := false, laid := [("math/bits.deBruijn32tab", laid_math_bits_deBruijn32tab), ("math/bits.deBruijn64tab", laid_math_bits_deBruijn64tab), ("unicode/utf8.acceptRanges", laid_unicode_utf8_acceptRanges), ("unicode/utf8.first", laid_unicode_utf8_first)] }
def LettersFormsSaid : Prop := lettersFormsRow.holds Tryd.pinned (OpenSpec.ofChange lettersFormsSpec)

/-- ITS FALSE NEIGHBOUR: 'it returns false'. Refute it at one input. -/
def lettersFormsWrong : ChangeSpec := { name := "lettersForms", fn := fun _ => fun
  | [d1, d2, d3, d4] => { results := [.lit (.bool false)], args := [d1, d2, d3, d4] }
  | _ => none }
def LettersFormsWrongFalsely : Prop := lettersFormsRow.holds Tryd.pinned (OpenSpec.ofChange lettersFormsWrong)

/-- 'tuschelaw10.LettersRests': WHATEVER THE INPUT: true; the input reads as it did. -/
def lettersRestsSpec : ChangeSpec := { name := "lettersRests", fn := fun _ => fun
  | [d1, d2, d3] => { results := [.lit (.bool true)], args := [d1, d2, d3] }
  | _ => none }
def lettersRestsRow : OpenClaim := { program := "ytmpbbkldopfkpaadoor", sum := "8ba649c9d8c5cac791c0a5cd69edb443b44495a14ded7efed2244df03ade8d78", func := "tusche/tuschelaw10.LettersRests", spec := "lettersRests", inPlace := ["internal/abi.NoEscape", "internal/bytealg.MakeNoZero"], unfollowed := true, recurses := true, named := ["unicode/utf8.first", "unicode/utf8.acceptRanges", "math/bits.deBruijn32tab", "math/bits.deBruijn64tab"], apart := false, laid := [("math/bits.deBruijn32tab", laid_math_bits_deBruijn32tab), ("math/bits.deBruijn64tab", laid_math_bits_deBruijn64tab), ("unicode/utf8.acceptRanges", laid_unicode_utf8_acceptRanges), ("unicode/utf8.first", laid_unicode_utf8_first)] }
def LettersRestsSaid : Prop := lettersRestsRow.holds Tryd.pinned (OpenSpec.ofChange lettersRestsSpec)

/-- ITS FALSE NEIGHBOUR: 'it returns false'. Refute it at one input. -/
def lettersRestsWrong : ChangeSpec := { name := "lettersRests", fn := fun _ => fun
  | [d1, d2, d3] => { results := [.lit (.bool false)], args := [d1, d2, d3] }
  | _ => none }
def LettersRestsWrongFalsely : Prop := lettersRestsRow.holds Tryd.pinned (OpenSpec.ofChange lettersRestsWrong)

/-- 'tuschelaw10.LettersFirst': WHATEVER THE INPUT: true; the input reads as it did. -/
def lettersFirstSpec : ChangeSpec := { name := "lettersFirst", fn := fun _ => fun
  | [d1, d2, d3] => { results := [.lit (.bool true)], args := [d1, d2, d3] }
  | _ => none }
def lettersFirstRow : OpenClaim := { program := "ytmpbbkldopfkpaadoor", sum := "8ba649c9d8c5cac791c0a5cd69edb443b44495a14ded7efed2244df03ade8d78", func := "tusche/tuschelaw10.LettersFirst", spec := "lettersFirst", inPlace := ["internal/abi.NoEscape", "internal/bytealg.MakeNoZero"], unfollowed := true, recurses := true, named := ["unicode/utf8.first", "unicode/utf8.acceptRanges", "math/bits.deBruijn32tab", "math/bits.deBruijn64tab"], apart := false, laid := [("math/bits.deBruijn32tab", laid_math_bits_deBruijn32tab), ("math/bits.deBruijn64tab", laid_math_bits_deBruijn64tab), ("unicode/utf8.acceptRanges", laid_unicode_utf8_acceptRanges), ("unicode/utf8.first", laid_unicode_utf8_first)] }
def LettersFirstSaid : Prop := lettersFirstRow.holds Tryd.pinned (OpenSpec.ofChange lettersFirstSpec)

/-- ITS FALSE NEIGHBOUR: 'it returns false'. Refute it at one input. -/
def lettersFirstWrong : ChangeSpec := { name := "lettersFirst", fn := fun _ => fun
  | [d1, d2, d3] => { results := [.lit (.bool false)], args := [d1, d2, d3] }
  | _ => none }
def LettersFirstWrongFalsely : Prop := lettersFirstRow.holds Tryd.pinned (OpenSpec.ofChange lettersFirstWrong)

/-- 'tuschelaw10.LettersBefore': WHATEVER THE INPUT: true; the input reads as it did. -/
def lettersBeforeSpec : ChangeSpec := { name := "lettersBefore", fn := fun _ => fun
  | [d1, d2, d3, d4] => { results := [.lit (.bool true)], args := [d1, d2, d3, d4] }
  | _ => none }
def lettersBeforeRow : OpenClaim := { program := "ytmpbbkldopfkpaadoor", sum := "8ba649c9d8c5cac791c0a5cd69edb443b44495a14ded7efed2244df03ade8d78", func := "tusche/tuschelaw10.LettersBefore", spec := "lettersBefore", inPlace := ["internal/abi.NoEscape", "internal/bytealg.MakeNoZero"], unfollowed := true, recurses := true, named := ["unicode/utf8.first", "unicode/utf8.acceptRanges", "math/bits.deBruijn32tab", "math/bits.deBruijn64tab"], apart := false, laid := [("math/bits.deBruijn32tab", laid_math_bits_deBruijn32tab), ("math/bits.deBruijn64tab", laid_math_bits_deBruijn64tab), ("unicode/utf8.acceptRanges", laid_unicode_utf8_acceptRanges), ("unicode/utf8.first", laid_unicode_utf8_first)] }
def LettersBeforeSaid : Prop := lettersBeforeRow.holds Tryd.pinned (OpenSpec.ofChange lettersBeforeSpec)

/-- ITS FALSE NEIGHBOUR: 'it returns false'. Refute it at one input. -/
def lettersBeforeWrong : ChangeSpec := { name := "lettersBefore", fn := fun _ => fun
  | [d1, d2, d3, d4] => { results := [.lit (.bool false)], args := [d1, d2, d3, d4] }
  | _ => none }
def LettersBeforeWrongFalsely : Prop := lettersBeforeRow.holds Tryd.pinned (OpenSpec.ofChange lettersBeforeWrong)

/-- 'tuschelaw10.LettersRest': WHATEVER THE INPUT: true; the input reads as it did. -/
def lettersRestSpec : ChangeSpec := { name := "lettersRest", fn := fun _ => fun
  | [d1, d2, d3] => { results := [.lit (.bool true)], args := [d1, d2, d3] }
  | _ => none }
def lettersRestRow : OpenClaim := { program := "ytmpbbkldopfkpaadoor", sum := "8ba649c9d8c5cac791c0a5cd69edb443b44495a14ded7efed2244df03ade8d78", func := "tusche/tuschelaw10.LettersRest", spec := "lettersRest", inPlace := ["internal/abi.NoEscape", "internal/bytealg.MakeNoZero"], unfollowed := true, recurses := true, named := ["unicode/utf8.first", "unicode/utf8.acceptRanges", "math/bits.deBruijn32tab", "math/bits.deBruijn64tab"], apart := false, laid := [("math/bits.deBruijn32tab", laid_math_bits_deBruijn32tab), ("math/bits.deBruijn64tab", laid_math_bits_deBruijn64tab), ("unicode/utf8.acceptRanges", laid_unicode_utf8_acceptRanges), ("unicode/utf8.first", laid_unicode_utf8_first)] }
def LettersRestSaid : Prop := lettersRestRow.holds Tryd.pinned (OpenSpec.ofChange lettersRestSpec)

/-- ITS FALSE NEIGHBOUR: 'it returns false'. Refute it at one input. -/
def lettersRestWrong : ChangeSpec := { name := "lettersRest", fn := fun _ => fun
  | [d1, d2, d3] => { results := [.lit (.bool false)], args := [d1, d2, d3] }
  | _ => none }
def LettersRestWrongFalsely : Prop := lettersRestRow.holds Tryd.pinned (OpenSpec.ofChange lettersRestWrong)

/-- 'tuschelaw10.LettersCommon': WHATEVER THE INPUT: true; the input reads as it did. -/
def lettersCommonSpec : ChangeSpec := { name := "lettersCommon", fn := fun _ => fun
  | [d1, d2, d3] => { results := [.lit (.bool true)], args := [d1, d2, d3] }
  | _ => none }
def lettersCommonRow : OpenClaim := { program := "ytmpbbkldopfkpaadoor", sum := "8ba649c9d8c5cac791c0a5cd69edb443b44495a14ded7efed2244df03ade8d78", func := "tusche/tuschelaw10.LettersCommon", spec := "lettersCommon", inPlace := ["internal/abi.NoEscape", "internal/bytealg.MakeNoZero"], unfollowed := true, recurses := true, named := ["math/bits.deBruijn32tab", "math/bits.deBruijn64tab", "unicode/utf8.first", "unicode/utf8.acceptRanges"], apart := false, laid := [("math/bits.deBruijn32tab", laid_math_bits_deBruijn32tab), ("math/bits.deBruijn64tab", laid_math_bits_deBruijn64tab), ("unicode/utf8.acceptRanges", laid_unicode_utf8_acceptRanges), ("unicode/utf8.first", laid_unicode_utf8_first)] }
def LettersCommonSaid : Prop := lettersCommonRow.holds Tryd.pinned (OpenSpec.ofChange lettersCommonSpec)

/-- ITS FALSE NEIGHBOUR: 'it returns false'. Refute it at one input. -/
def lettersCommonWrong : ChangeSpec := { name := "lettersCommon", fn := fun _ => fun
  | [d1, d2, d3] => { results := [.lit (.bool false)], args := [d1, d2, d3] }
  | _ => none }
def LettersCommonWrongFalsely : Prop := lettersCommonRow.holds Tryd.pinned (OpenSpec.ofChange lettersCommonWrong)

/-- 'tuschelaw10.LettersMore': WHATEVER THE INPUT: true; the input reads as it did. -/
def lettersMoreSpec : ChangeSpec := { name := "lettersMore", fn := fun _ => fun
  | [d1, d2, d3, d4, d5] => { results := [.lit (.bool true)], args := [d1, d2, d3, d4, d5] }
  | _ => none }
def lettersMoreRow : OpenClaim := { program := "ytmpbbkldopfkpaadoor", sum := "8ba649c9d8c5cac791c0a5cd69edb443b44495a14ded7efed2244df03ade8d78", func := "tusche/tuschelaw10.LettersMore", spec := "lettersMore", inPlace := ["internal/abi.NoEscape", "internal/bytealg.MakeNoZero"], unfollowed := true, recurses := true, named := ["unicode/utf8.first", "unicode/utf8.acceptRanges", "math/bits.deBruijn32tab", "math/bits.deBruijn64tab"], apart := false, laid := [("math/bits.deBruijn32tab", laid_math_bits_deBruijn32tab), ("math/bits.deBruijn64tab", laid_math_bits_deBruijn64tab), ("unicode/utf8.acceptRanges", laid_unicode_utf8_acceptRanges), ("unicode/utf8.first", laid_unicode_utf8_first)] }
def LettersMoreSaid : Prop := lettersMoreRow.holds Tryd.pinned (OpenSpec.ofChange lettersMoreSpec)

/-- ITS FALSE NEIGHBOUR: 'it returns false'. Refute it at one input. -/
def lettersMoreWrong : ChangeSpec := { name := "lettersMore", fn := fun _ => fun
  | [d1, d2, d3, d4, d5] => { results := [.lit (.bool false)], args := [d1, d2, d3, d4, d5] }
  | _ => none }
def LettersMoreWrongFalsely : Prop := lettersMoreRow.holds Tryd.pinned (OpenSpec.ofChange lettersMoreWrong)

/-- 'tuschelaw10.LettersKnown': WHATEVER THE INPUT: true; the input reads as it did. -/
def lettersKnownSpec : ChangeSpec := { name := "lettersKnown", fn := fun _ => fun
  | [] => { results := [.lit (.bool true)], args := [] }
  | _ => none }
def lettersKnownRow : OpenClaim := { program := "ytmpbbkldopfkpaadoor", sum := "8ba649c9d8c5cac791c0a5cd69edb443b44495a14ded7efed2244df03ade8d78", func := "tusche/tuschelaw10.LettersKnown", spec := "lettersKnown", inPlace := ["internal/abi.NoEscape", "internal/bytealg.MakeNoZero"], unfollowed := true, recurses := true, named := ["unicode/utf8.first", "unicode/utf8.acceptRanges", "math/bits.deBruijn32tab", "math/bits.deBruijn64tab"], apart := false, laid := [("math/bits.deBruijn32tab", laid_math_bits_deBruijn32tab), ("math/bits.deBruijn64tab", laid_math_bits_deBruijn64tab), ("unicode/utf8.acceptRanges", laid_unicode_utf8_acceptRanges), ("unicode/utf8.first", laid_unicode_utf8_first)] }
def LettersKnownSaid : Prop := lettersKnownRow.holds Tryd.pinned (OpenSpec.ofChange lettersKnownSpec)

/-- ITS FALSE NEIGHBOUR: 'it returns false'. Refute it at one input. -/
def lettersKnownWrong : ChangeSpec := { name := "lettersKnown", fn := fun _ => fun
  | [] => { results := [.lit (.bool false)], args := [] }
  | _ => none }
def LettersKnownWrongFalsely : Prop := lettersKnownRow.holds Tryd.pinned (OpenSpec.ofChange lettersKnownWrong)

/- THE SECOND FORM. 'bulk': how many values and letters a reading holds, each counted each time it is reached (what is shared counts as often as it is met; a slice's spare places count too). A statement '..UptoSaid' is the law's where the arguments, and the package variables that the reading takes, are together of bulk at most 1048576: NARROWER than '..Said'. Prove '..Said' where nothing that the law and all that it calls make is longer than what came in: it says more and counts as full. Else prove '..UptoSaid'. A law counts once. -/
mutual
def uptoBulk {H : Type} : DataW H → Nat
  | .lit (.string bytes) => bytes.length + 1
  | .lit _ => 1
  | .nil => 1
  | .ptr d => uptoBulk d + 1
  | .slice elems spare => uptoBulkAll elems + uptoBulkAll spare + 1
  | .agg parts => uptoBulkAll parts + 1
  | .iface _ d => uptoBulk d + 1
  | .map entries => uptoBulkEntries entries + 1
  | .held _ => 1
def uptoBulkAll {H : Type} : List (DataW H) → Nat
  | [] => 0
  | d :: r => uptoBulk d + uptoBulkAll r
def uptoBulkEntries {H : Type} : List (Lit × DataW H) → Nat
  | [] => 0
  | x :: r => uptoBulkEntry x + uptoBulkEntries r
def uptoBulkEntry {H : Type} : Lit × DataW H → Nat
  | (.string bytes, d) => bytes.length + uptoBulk d + 1
  | (_, d) => uptoBulk d + 1
 end
def uptoSmall : (H : Type) → List (DataW H) → Bool := fun _ ds => decide (uptoBulkAll ds ≤ 1048576)
def OpenSpec.upto (s : _root_.Go.ChangeSpec) : _root_.Go.OpenSpec := { _root_.Go.OpenSpec.ofChange s with cond := some uptoSmall }

/-- 'tuschelaw10.LettersForms', WHERE WHAT IT READS IS OF BULK AT MOST 1048576: true; the input reads as it did. -/
def lettersFormsUptoRow : OpenClaim := { program := "ytmpbbkldopfkpaadoor", sum := "8ba649c9d8c5cac791c0a5cd69edb443b44495a14ded7efed2244df03ade8d78", func := "tusche/tuschelaw10.LettersForms", spec := "lettersForms", inPlace := ["internal/abi.NoEscape", "internal/bytealg.MakeNoZero"], unfollowed := true, recurses := true, named := ["unicode/utf8.first", "unicode/utf8.acceptRanges", "math/bits.deBruijn32tab", "math/bits.deBruijn64tab"], apart := false, laid := [("math/bits.deBruijn32tab", laid_math_bits_deBruijn32tab), ("math/bits.deBruijn64tab", laid_math_bits_deBruijn64tab), ("unicode/utf8.acceptRanges", laid_unicode_utf8_acceptRanges), ("unicode/utf8.first", laid_unicode_utf8_first)], narrowed := true }
def LettersFormsUptoSaid : Prop := lettersFormsUptoRow.holds Tryd.pinned (OpenSpec.upto lettersFormsSpec)

/-- 'tuschelaw10.LettersRests', WHERE WHAT IT READS IS OF BULK AT MOST 1048576: true; the input reads as it did. -/
def lettersRestsUptoRow : OpenClaim := { program := "ytmpbbkldopfkpaadoor", sum := "8ba649c9d8c5cac791c0a5cd69edb443b44495a14ded7efed2244df03ade8d78", func := "tusche/tuschelaw10.LettersRests", spec := "lettersRests", inPlace := ["internal/abi.NoEscape", "internal/bytealg.MakeNoZero"], unfollowed := true, recurses := true, named := ["unicode/utf8.first", "unicode/utf8.acceptRanges", "math/bits.deBruijn32tab", "math/bits.deBruijn64tab"], apart := false, laid := [("math/bits.deBruijn32tab", laid_math_bits_deBruijn32tab), ("math/bits.deBruijn64tab", laid_math_bits_deBruijn64tab), ("unicode/utf8.acceptRanges", laid_unicode_utf8_acceptRanges), ("unicode/utf8.first", laid_unicode_utf8_first)], narrowed := true }
def LettersRestsUptoSaid : Prop := lettersRestsUptoRow.holds Tryd.pinned (OpenSpec.upto lettersRestsSpec)

/-- 'tuschelaw10.LettersFirst', WHERE WHAT IT READS IS OF BULK AT MOST 1048576: true; the input reads as it did. -/
def lettersFirstUptoRow : OpenClaim := { program := "ytmpbbkldopfkpaadoor", sum := "8ba649c9d8c5cac791c0a5cd69edb443b44495a14ded7efed2244df03ade8d78", func := "tusche/tuschelaw10.LettersFirst", spec := "lettersFirst", inPlace := ["internal/abi.NoEscape", "internal/bytealg.MakeNoZero"], unfollowed := true, recurses := true, named := ["unicode/utf8.first", "unicode/utf8.acceptRanges", "math/bits.deBruijn32tab", "math/bits.deBruijn64tab"], apart := false, laid := [("math/bits.deBruijn32tab", laid_math_bits_deBruijn32tab), ("math/bits.deBruijn64tab", laid_math_bits_deBruijn64tab), ("unicode/utf8.acceptRanges", laid_unicode_utf8_acceptRanges), ("unicode/utf8.first", laid_unicode_utf8_first)], narrowed := true }
def LettersFirstUptoSaid : Prop := lettersFirstUptoRow.holds Tryd.pinned (OpenSpec.upto lettersFirstSpec)

/-- 'tuschelaw10.LettersBefore', WHERE WHAT IT READS IS OF BULK AT MOST 1048576: true; the input reads as it did. -/
def lettersBeforeUptoRow : OpenClaim := { program := "ytmpbbkldopfkpaadoor", sum := "8ba649c9d8c5cac791c0a5cd69edb443b44495a14ded7efed2244df03ade8d78", func := "tusche/tuschelaw10.LettersBefore", spec := "lettersBefore", inPlace := ["internal/abi.NoEscape", "internal/bytealg.MakeNoZero"], unfollowed := true, recurses := true, named := ["unicode/utf8.first", "unicode/utf8.acceptRanges", "math/bits.deBruijn32tab", "math/bits.deBruijn64tab"], apart := false, laid := [("math/bits.deBruijn32tab", laid_math_bits_deBruijn32tab), ("math/bits.deBruijn64tab", laid_math_bits_deBruijn64tab), ("unicode/utf8.acceptRanges", laid_unicode_utf8_acceptRanges), ("unicode/utf8.first", laid_unicode_utf8_first)], narrowed := true }
def LettersBeforeUptoSaid : Prop := lettersBeforeUptoRow.holds Tryd.pinned (OpenSpec.upto lettersBeforeSpec)

/-- 'tuschelaw10.LettersRest', WHERE WHAT IT READS IS OF BULK AT MOST 1048576: true; the input reads as it did. -/
def lettersRestUptoRow : OpenClaim := { program := "ytmpbbkldopfkpaadoor", sum := "8ba649c9d8c5cac791c0a5cd69edb443b44495a14ded7efed2244df03ade8d78", func := "tusche/tuschelaw10.LettersRest", spec := "lettersRest", inPlace := ["internal/abi.NoEscape", "internal/bytealg.MakeNoZero"], unfollowed := true, recurses := true, named := ["unicode/utf8.first", "unicode/utf8.acceptRanges", "math/bits.deBruijn32tab", "math/bits.deBruijn64tab"], apart := false, laid := [("math/bits.deBruijn32tab", laid_math_bits_deBruijn32tab), ("math/bits.deBruijn64tab", laid_math_bits_deBruijn64tab), ("unicode/utf8.acceptRanges", laid_unicode_utf8_acceptRanges), ("unicode/utf8.first", laid_unicode_utf8_first)], narrowed := true }
def LettersRestUptoSaid : Prop := lettersRestUptoRow.holds Tryd.pinned (OpenSpec.upto lettersRestSpec)

/-- 'tuschelaw10.LettersCommon', WHERE WHAT IT READS IS OF BULK AT MOST 1048576: true; the input reads as it did. -/
def lettersCommonUptoRow : OpenClaim := { program := "ytmpbbkldopfkpaadoor", sum := "8ba649c9d8c5cac791c0a5cd69edb443b44495a14ded7efed2244df03ade8d78", func := "tusche/tuschelaw10.LettersCommon", spec := "lettersCommon", inPlace := ["internal/abi.NoEscape", "internal/bytealg.MakeNoZero"], unfollowed := true, recurses := true, named := ["math/bits.deBruijn32tab", "math/bits.deBruijn64tab", "unicode/utf8.first", "unicode/utf8.acceptRanges"], apart := false, laid := [("math/bits.deBruijn32tab", laid_math_bits_deBruijn32tab), ("math/bits.deBruijn64tab", laid_math_bits_deBruijn64tab), ("unicode/utf8.acceptRanges", laid_unicode_utf8_acceptRanges), ("unicode/utf8.first", laid_unicode_utf8_first)], narrowed := true }
def LettersCommonUptoSaid : Prop := lettersCommonUptoRow.holds Tryd.pinned (OpenSpec.upto lettersCommonSpec)

/-- 'tuschelaw10.LettersMore', WHERE WHAT IT READS IS OF BULK AT MOST 1048576: true; the input reads as it did. -/
def lettersMoreUptoRow : OpenClaim := { program := "ytmpbbkldopfkpaadoor", sum := "8ba649c9d8c5cac791c0a5cd69edb443b44495a14ded7efed2244df03ade8d78", func := "tusche/tuschelaw10.LettersMore", spec := "lettersMore", inPlace := ["internal/abi.NoEscape", "internal/bytealg.MakeNoZero"], unfollowed := true, recurses := true, named := ["unicode/utf8.first", "unicode/utf8.acceptRanges", "math/bits.deBruijn32tab", "math/bits.deBruijn64tab"], apart := false, laid := [("math/bits.deBruijn32tab", laid_math_bits_deBruijn32tab), ("math/bits.deBruijn64tab", laid_math_bits_deBruijn64tab), ("unicode/utf8.acceptRanges", laid_unicode_utf8_acceptRanges), ("unicode/utf8.first", laid_unicode_utf8_first)], narrowed := true }
def LettersMoreUptoSaid : Prop := lettersMoreUptoRow.holds Tryd.pinned (OpenSpec.upto lettersMoreSpec)

/-- 'tuschelaw10.LettersKnown', WHERE WHAT IT READS IS OF BULK AT MOST 1048576: true; the input reads as it did. -/
def lettersKnownUptoRow : OpenClaim := { program := "ytmpbbkldopfkpaadoor", sum := "8ba649c9d8c5cac791c0a5cd69edb443b44495a14ded7efed2244df03ade8d78", func := "tusche/tuschelaw10.LettersKnown", spec := "lettersKnown", inPlace := ["internal/abi.NoEscape", "internal/bytealg.MakeNoZero"], unfollowed := true, recurses := true, named := ["unicode/utf8.first", "unicode/utf8.acceptRanges", "math/bits.deBruijn32tab", "math/bits.deBruijn64tab"], apart := false, laid := [("math/bits.deBruijn32tab", laid_math_bits_deBruijn32tab), ("math/bits.deBruijn64tab", laid_math_bits_deBruijn64tab), ("unicode/utf8.acceptRanges", laid_unicode_utf8_acceptRanges), ("unicode/utf8.first", laid_unicode_utf8_first)], narrowed := true }
def LettersKnownUptoSaid : Prop := lettersKnownUptoRow.holds Tryd.pinned (OpenSpec.upto lettersKnownSpec)

end Rows
end Go.Proofs.YtmpbbkldopfkpaaDoor
