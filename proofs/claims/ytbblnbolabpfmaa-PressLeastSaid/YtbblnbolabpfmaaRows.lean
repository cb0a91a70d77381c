/-
  No cell of these rows narrows 'for every input' (looked for: loops, veiled, ifaces, maps, wideKeys, modest, calm, conditions, laid).
  DERIVED. THE GIVEN ROWS OF THIS SEAT. 11 by the template 'for every input the law returns true; each argument reads behind the call as it read before'; 0 by the template 'total and deterministic' (their statements: YtbblnbolabpfmaaTotals.lean).
  GIVEN WITH THE SEED: the statements are not yours to turn. If you find one false, say at which input.
  Laid BY PROGRAM, IN A SANDBOX (cutbox-rows.mjs): the forced cells as the released guide's own fill.sh prints them over the translation 3e9255fafbf679f9… (all of the seat's roots in one cut). By AI agents, Wed Nov 11 2026. No macro, syntax, notation, axiom, sorry.
-/
import Derived.Test.YtbblnbolabpfmaaChecked
import GoSem.Claim
import GoSem.ClaimJoined
import GoSem.ClaimMapViews
import Derived.JoinedTies
import Derived.KernelRfl
namespace Go.Proofs.Ytbblnbolabpfmaa
/- THE CELL 'sum', in the pinned program and in every row, IS THE sha256 OF THE DUMP (.gsa) THAT YtbblnbolabpfmaaProg.lean LOADS. Nothing in Lean hashes anything: it is a label: what it is worth is what the hold of that sum in a sandbox is worth. -/
noncomputable def Try.pinned : Pinned := { name := "ytbblnbolabpfmaa", sum := "3e9255fafbf679f9d329c33de75489419f9a72f2272cc8094a1f65a0a2e4bbed", checked := Try.checked }
namespace Rows
def none {H : Type} : Left H := { results := [], args := [] }

/-- 'tuschelaw13.PressSets': WHATEVER THE INPUT: true; the input reads as it did. -/
def pressSetsSpec : ChangeSpec := { name := "pressSets", fn := fun _ => fun
  | [d1, d2] => { results := [.lit (.bool true)], args := [d1, d2] }
  | _ => none }
def pressSetsRow : OpenClaim := { program := "ytbblnbolabpfmaa", sum := "3e9255fafbf679f9d329c33de75489419f9a72f2272cc8094a1f65a0a2e4bbed", func := "tusche/tuschelaw13.PressSets", spec := "pressSets", inPlace := ["slices.overlaps[tusche/press.Order]"], unfollowed := true, recurses := true, apart := false }
def PressSetsSaid : Prop := pressSetsRow.holds Try.pinned (OpenSpec.ofChange pressSetsSpec)

/-- ITS FALSE NEIGHBOUR: 'it returns false'. Refute it at one input. -/
def pressSetsWrong : ChangeSpec := { name := "pressSets", fn := fun _ => fun
  | [d1, d2] => { results := [.lit (.bool false)], args := [d1, d2] }
  | _ => none }
def PressSetsWrongFalsely : Prop := pressSetsRow.holds Try.pinned (OpenSpec.ofChange pressSetsWrong)

/-- 'tuschelaw13.PressPlans': WHATEVER THE INPUT: true; the input reads as it did. -/
def pressPlansSpec : ChangeSpec := { name := "pressPlans", fn := fun _ => fun
  | [d1, d2] => { results := [.lit (.bool true)], args := [d1, d2] }
  | _ => none }
def pressPlansRow : OpenClaim := { program := "ytbblnbolabpfmaa", sum := "3e9255fafbf679f9d329c33de75489419f9a72f2272cc8094a1f65a0a2e4bbed", func := "tusche/tuschelaw13.PressPlans", spec := "pressPlans", inPlace := ["slices.overlaps[tusche/press.Order]"], unfollowed := true, recurses := true, apart := false }
def PressPlansSaid : Prop := pressPlansRow.holds Try.pinned (OpenSpec.ofChange pressPlansSpec)

/-- ITS FALSE NEIGHBOUR: 'it returns false'. Refute it at one input. -/
def pressPlansWrong : ChangeSpec := { name := "pressPlans", fn := fun _ => fun
  | [d1, d2] => { results := [.lit (.bool false)], args := [d1, d2] }
  | _ => none }
def PressPlansWrongFalsely : Prop := pressPlansRow.holds Try.pinned (OpenSpec.ofChange pressPlansWrong)

/-- 'tuschelaw13.PressAlways': WHATEVER THE INPUT: true; the input reads as it did. -/
def pressAlwaysSpec : ChangeSpec := { name := "pressAlways", fn := fun _ => fun
  | [d] => { results := [.lit (.bool true)], args := [d] }
  | _ => none }
def pressAlwaysRow : OpenClaim := { program := "ytbblnbolabpfmaa", sum := "3e9255fafbf679f9d329c33de75489419f9a72f2272cc8094a1f65a0a2e4bbed", func := "tusche/tuschelaw13.PressAlways", spec := "pressAlways", inPlace := ["slices.overlaps[tusche/press.Order]"], unfollowed := true, recurses := true, apart := false }
def PressAlwaysSaid : Prop := pressAlwaysRow.holds Try.pinned (OpenSpec.ofChange pressAlwaysSpec)

/-- ITS FALSE NEIGHBOUR: 'it returns false'. Refute it at one input. -/
def pressAlwaysWrong : ChangeSpec := { name := "pressAlways", fn := fun _ => fun
  | [d] => { results := [.lit (.bool false)], args := [d] }
  | _ => none }
def PressAlwaysWrongFalsely : Prop := pressAlwaysRow.holds Try.pinned (OpenSpec.ofChange pressAlwaysWrong)

/-- 'tuschelaw13.PressCounts': WHATEVER THE INPUT: true; the input reads as it did. -/
def pressCountsSpec : ChangeSpec := { name := "pressCounts", fn := fun _ => fun
  | [d1, d2, d3, d4] => { results := [.lit (.bool true)], args := [d1, d2, d3, d4] }
  | _ => none }
def pressCountsRow : OpenClaim := { program := "ytbblnbolabpfmaa", sum := "3e9255fafbf679f9d329c33de75489419f9a72f2272cc8094a1f65a0a2e4bbed", func := "tusche/tuschelaw13.PressCounts", spec := "pressCounts", inPlace := ["slices.overlaps[tusche/press.Order]"], unfollowed := true, recurses := true, apart := false }
def PressCountsSaid : Prop := pressCountsRow.holds Try.pinned (OpenSpec.ofChange pressCountsSpec)

/-- ITS FALSE NEIGHBOUR: 'it returns false'. Refute it at one input. -/
def pressCountsWrong : ChangeSpec := { name := "pressCounts", fn := fun _ => fun
  | [d1, d2, d3, d4] => { results := [.lit (.bool false)], args := [d1, d2, d3, d4] }
  | _ => none }
def PressCountsWrongFalsely : Prop := pressCountsRow.holds Try.pinned (OpenSpec.ofChange pressCountsWrong)

/-- 'tuschelaw13.PressLeast': WHATEVER THE INPUT: true; the input reads as it did. -/
def pressLeastSpec : ChangeSpec := { name := "pressLeast", fn := fun _ => fun
  | [d] => { results := [.lit (.bool true)], args := [d] }
  | _ => none }
def pressLeastRow : OpenClaim := { program := "ytbblnbolabpfmaa", sum := "3e9255fafbf679f9d329c33de75489419f9a72f2272cc8094a1f65a0a2e4bbed", func := "tusche/tuschelaw13.PressLeast", spec := "pressLeast", inPlace := ["slices.overlaps[tusche/press.Order]"], unfollowed := true, recurses := true, apart := false }
def PressLeastSaid : Prop := pressLeastRow.holds Try.pinned (OpenSpec.ofChange pressLeastSpec)

/-- ITS FALSE NEIGHBOUR: 'it returns false'. Refute it at one input. -/
def pressLeastWrong : ChangeSpec := { name := "pressLeast", fn := fun _ => fun
  | [d] => { results := [.lit (.bool false)], args := [d] }
  | _ => none }
def PressLeastWrongFalsely : Prop := pressLeastRow.holds Try.pinned (OpenSpec.ofChange pressLeastWrong)

/-- 'tuschelaw13.PressSet': WHATEVER THE INPUT: true; the input reads as it did. -/
def pressSetSpec : ChangeSpec := { name := "pressSet", fn := fun _ => fun
  | [d] => { results := [.lit (.bool true)], args := [d] }
  | _ => none }
def pressSetRow : OpenClaim := { program := "ytbblnbolabpfmaa", sum := "3e9255fafbf679f9d329c33de75489419f9a72f2272cc8094a1f65a0a2e4bbed", func := "tusche/tuschelaw13.PressSet", spec := "pressSet", inPlace := ["slices.overlaps[tusche/press.Order]"], unfollowed := true, recurses := true, apart := false }
def PressSetSaid : Prop := pressSetRow.holds Try.pinned (OpenSpec.ofChange pressSetSpec)

/-- ITS FALSE NEIGHBOUR: 'it returns false'. Refute it at one input. -/
def pressSetWrong : ChangeSpec := { name := "pressSet", fn := fun _ => fun
  | [d] => { results := [.lit (.bool false)], args := [d] }
  | _ => none }
def PressSetWrongFalsely : Prop := pressSetRow.holds Try.pinned (OpenSpec.ofChange pressSetWrong)

/-- 'tuschelaw13.PressAdded': WHATEVER THE INPUT: true; the input reads as it did. -/
def pressAddedSpec : ChangeSpec := { name := "pressAdded", fn := fun _ => fun
  | [d] => { results := [.lit (.bool true)], args := [d] }
  | _ => none }
def pressAddedRow : OpenClaim := { program := "ytbblnbolabpfmaa", sum := "3e9255fafbf679f9d329c33de75489419f9a72f2272cc8094a1f65a0a2e4bbed", func := "tusche/tuschelaw13.PressAdded", spec := "pressAdded", inPlace := ["slices.overlaps[tusche/press.Order]"], unfollowed := true, recurses := true, apart := false }
def PressAddedSaid : Prop := pressAddedRow.holds Try.pinned (OpenSpec.ofChange pressAddedSpec)

/-- ITS FALSE NEIGHBOUR: 'it returns false'. Refute it at one input. -/
def pressAddedWrong : ChangeSpec := { name := "pressAdded", fn := fun _ => fun
  | [d] => { results := [.lit (.bool false)], args := [d] }
  | _ => none }
def PressAddedWrongFalsely : Prop := pressAddedRow.holds Try.pinned (OpenSpec.ofChange pressAddedWrong)

/-- 'tuschelaw13.PressSure': WHATEVER THE INPUT: true; the input reads as it did. -/
def pressSureSpec : ChangeSpec := { name := "pressSure", fn := fun _ => fun
  | [d] => { results := [.lit (.bool true)], args := [d] }
  | _ => none }
def pressSureRow : OpenClaim := { program := "ytbblnbolabpfmaa", sum := "3e9255fafbf679f9d329c33de75489419f9a72f2272cc8094a1f65a0a2e4bbed", func := "tusche/tuschelaw13.PressSure", spec := "pressSure", inPlace := ["slices.overlaps[tusche/press.Order]"], unfollowed := true, recurses := true, apart := false }
def PressSureSaid : Prop := pressSureRow.holds Try.pinned (OpenSpec.ofChange pressSureSpec)

/-- ITS FALSE NEIGHBOUR: 'it returns false'. Refute it at one input. -/
def pressSureWrong : ChangeSpec := { name := "pressSure", fn := fun _ => fun
  | [d] => { results := [.lit (.bool false)], args := [d] }
  | _ => none }
def PressSureWrongFalsely : Prop := pressSureRow.holds Try.pinned (OpenSpec.ofChange pressSureWrong)

/-- 'tuschelaw13.PressDays': WHATEVER THE INPUT: true; the input reads as it did. -/
def pressDaysSpec : ChangeSpec := { name := "pressDays", fn := fun _ => fun
  | [d] => { results := [.lit (.bool true)], args := [d] }
  | _ => none }
def pressDaysRow : OpenClaim := { program := "ytbblnbolabpfmaa", sum := "3e9255fafbf679f9d329c33de75489419f9a72f2272cc8094a1f65a0a2e4bbed", func := "tusche/tuschelaw13.PressDays", spec := "pressDays", inPlace := ["slices.overlaps[tusche/press.Order]"], unfollowed := true, recurses := true, apart := false }
def PressDaysSaid : Prop := pressDaysRow.holds Try.pinned (OpenSpec.ofChange pressDaysSpec)

/-- ITS FALSE NEIGHBOUR: 'it returns false'. Refute it at one input. -/
def pressDaysWrong : ChangeSpec := { name := "pressDays", fn := fun _ => fun
  | [d] => { results := [.lit (.bool false)], args := [d] }
  | _ => none }
def PressDaysWrongFalsely : Prop := pressDaysRow.holds Try.pinned (OpenSpec.ofChange pressDaysWrong)

/-- 'tuschelaw13.PressTurned': WHATEVER THE INPUT: true; the input reads as it did. -/
def pressTurnedSpec : ChangeSpec := { name := "pressTurned", fn := fun _ => fun
  | [d1, d2, d3, d4] => { results := [.lit (.bool true)], args := [d1, d2, d3, d4] }
  | _ => none }
def pressTurnedRow : OpenClaim := { program := "ytbblnbolabpfmaa", sum := "3e9255fafbf679f9d329c33de75489419f9a72f2272cc8094a1f65a0a2e4bbed", func := "tusche/tuschelaw13.PressTurned", spec := "pressTurned", inPlace := ["slices.overlaps[tusche/press.Order]"], unfollowed := true, recurses := true, apart := false }
def PressTurnedSaid : Prop := pressTurnedRow.holds Try.pinned (OpenSpec.ofChange pressTurnedSpec)

/-- ITS FALSE NEIGHBOUR: 'it returns false'. Refute it at one input. -/
def pressTurnedWrong : ChangeSpec := { name := "pressTurned", fn := fun _ => fun
  | [d1, d2, d3, d4] => { results := [.lit (.bool false)], args := [d1, d2, d3, d4] }
  | _ => none }
def PressTurnedWrongFalsely : Prop := pressTurnedRow.holds Try.pinned (OpenSpec.ofChange pressTurnedWrong)

/-- 'tuschelaw13.PressKnown': WHATEVER THE INPUT: true; the input reads as it did. -/
def pressKnownSpec : ChangeSpec := { name := "pressKnown", fn := fun _ => fun
  | [] => { results := [.lit (.bool true)], args := [] }
  | _ => none }
def pressKnownRow : OpenClaim := { program := "ytbblnbolabpfmaa", sum := "3e9255fafbf679f9d329c33de75489419f9a72f2272cc8094a1f65a0a2e4bbed", func := "tusche/tuschelaw13.PressKnown", spec := "pressKnown", inPlace := ["slices.overlaps[tusche/press.Order]"], unfollowed := true, recurses := true, apart := false }
def PressKnownSaid : Prop := pressKnownRow.holds Try.pinned (OpenSpec.ofChange pressKnownSpec)

/-- ITS FALSE NEIGHBOUR: 'it returns false'. Refute it at one input. -/
def pressKnownWrong : ChangeSpec := { name := "pressKnown", fn := fun _ => fun
  | [] => { results := [.lit (.bool false)], args := [] }
  | _ => none }
def PressKnownWrongFalsely : Prop := pressKnownRow.holds Try.pinned (OpenSpec.ofChange pressKnownWrong)

/- THE SECOND FORM. 'bulk': how many values and letters a reading holds, each counted each time it is reached (what is shared counts as often as it is met; a slice's spare places count too). A statement '..UptoSaid' is the law's where the arguments, and the package variables that the reading takes, are together of bulk at most 1048576: NARROWER than '..Said'. Prove '..Said' where nothing that the law and all that it calls make is longer than what came in: it says more and counts as full. Else prove '..UptoSaid'. A law counts once. -/
mutual
def uptoBulk {H : Type} : DataW H → Nat
  | .lit (.string bytes) => bytes.length + 1
  | .lit _ => 1
  | .nil => 1
  | .ptr d => uptoBulk d + 1
  | .slice elems spare => uptoBulkAll elems + uptoBulkAll spare + 1
  | .agg parts => uptoBulkAll parts + 1
  | .iface _ d => uptoBulk d + 1
  | .map entries => uptoBulkEntries entries + 1
  | .held _ => 1
def uptoBulkAll {H : Type} : List (DataW H) → Nat
  | [] => 0
  | d :: r => uptoBulk d + uptoBulkAll r
def uptoBulkEntries {H : Type} : List (Lit × DataW H) → Nat
  | [] => 0
  | x :: r => uptoBulkEntry x + uptoBulkEntries r
def uptoBulkEntry {H : Type} : Lit × DataW H → Nat
  | (.string bytes, d) => bytes.length + uptoBulk d + 1
  | (_, d) => uptoBulk d + 1
 end
def uptoSmall : (H : Type) → List (DataW H) → Bool := fun _ ds => decide (uptoBulkAll ds ≤ 1048576)
def OpenSpec.upto (s : _root_.Go.ChangeSpec) : _root_.Go.OpenSpec := { _root_.Go.OpenSpec.ofChange s with cond := some uptoSmall }

/-- 'tuschelaw13.PressSets', WHERE WHAT IT READS IS OF BULK AT MOST 1048576: true; the input reads as it did. -/
def pressSetsUptoRow : OpenClaim := { program := "ytbblnbolabpfmaa", sum := "3e9255fafbf679f9d329c33de75489419f9a72f2272cc8094a1f65a0a2e4bbed", func := "tusche/tuschelaw13.PressSets", spec := "pressSets", inPlace := ["slices.overlaps[tusche/press.Order]"], unfollowed := true, recurses := true, apart := false, narrowed := true }
def PressSetsUptoSaid : Prop := pressSetsUptoRow.holds Try.pinned (OpenSpec.upto pressSetsSpec)

/-- 'tuschelaw13.PressPlans', WHERE WHAT IT READS IS OF BULK AT MOST 1048576: true; the input reads as it did. -/
def pressPlansUptoRow : OpenClaim := { program := "ytbblnbolabpfmaa", sum := "3e9255fafbf679f9d329c33de75489419f9a72f2272cc8094a1f65a0a2e4bbed", func := "tusche/tuschelaw13.PressPlans", spec := "pressPlans", inPlace := ["slices.overlaps[tusche/press.Order]"], unfollowed := true, recurses := true, apart := false, narrowed := true }
def PressPlansUptoSaid : Prop := pressPlansUptoRow.holds Try.pinned (OpenSpec.upto pressPlansSpec)

/-- 'tuschelaw13.PressAlways', WHERE WHAT IT READS IS OF BULK AT MOST 1048576: true; the input reads as it did. -/
def pressAlwaysUptoRow : OpenClaim := { program := "ytbblnbolabpfmaa", sum := "3e9255fafbf679f9d329c33de75489419f9a72f2272cc8094a1f65a0a2e4bbed", func := "tusche/tuschelaw13.PressAlways", spec := "pressAlways", inPlace := ["slices.overlaps[tusche/press.Order]"], unfollowed := true, recurses := true, apart := false, narrowed := true }
def PressAlwaysUptoSaid : Prop := pressAlwaysUptoRow.holds Try.pinned (OpenSpec.upto pressAlwaysSpec)

/-- 'tuschelaw13.PressCounts', WHERE WHAT IT READS IS OF BULK AT MOST 1048576: true; the input reads as it did. -/
def pressCountsUptoRow : OpenClaim := { program := "ytbblnbolabpfmaa", sum := "3e9255fafbf679f9d329c33de75489419f9a72f2272cc8094a1f65a0a2e4bbed", func := "tusche/tuschelaw13.PressCounts", spec := "pressCounts", inPlace := ["slices.overlaps[tusche/press.Order]"], unfollowed := true, recurses := true, apart := false, narrowed := true }
def PressCountsUptoSaid : Prop := pressCountsUptoRow.holds Try.pinned (OpenSpec.upto pressCountsSpec)

/-- 'tuschelaw13.PressLeast', WHERE WHAT IT READS IS OF BULK AT MOST 1048576: true; the input reads as it did. -/
def pressLeastUptoRow : OpenClaim := { program := "ytbblnbolabpfmaa", sum := "3e9255fafbf679f9d329c33de75489419f9a72f2272cc8094a1f65a0a2e4bbed", func := "tusche/tuschelaw13.PressLeast", spec := "pressLeast", inPlace := ["slices.overlaps[tusche/press.Order]"], unfollowed := true, recurses := true, apart := false, narrowed := true }
def PressLeastUptoSaid : Prop := pressLeastUptoRow.holds Try.pinned (OpenSpec.upto pressLeastSpec)

/-- 'tuschelaw13.PressSet', WHERE WHAT IT READS IS OF BULK AT MOST 1048576: true; the input reads as it did. -/
def pressSetUptoRow : OpenClaim := { program := "ytbblnbolabpfmaa", sum := "3e9255fafbf679f9d329c33de75489419f9a72f2272cc8094a1f65a0a2e4bbed", func := "tusche/tuschelaw13.PressSet", spec := "pressSet", inPlace := ["slices.overlaps[tusche/press.Order]"], unfollowed := true, recurses := true, apart := false, narrowed := true }
def PressSetUptoSaid : Prop := pressSetUptoRow.holds Try.pinned (OpenSpec.upto pressSetSpec)

/-- 'tuschelaw13.PressAdded', WHERE WHAT IT READS IS OF BULK AT MOST 1048576: true; the input reads as it did. -/
def pressAddedUptoRow : OpenClaim := { program := "ytbblnbolabpfmaa", sum := "3e9255fafbf679f9d329c33de75489419f9a72f2272cc8094a1f65a0a2e4bbed", func := "tusche/tuschelaw13.PressAdded", spec := "pressAdded", inPlace := ["slices.overlaps[tusche/press.Order]"], unfollowed := true, recurses := true, apart := false, narrowed := true }
def PressAddedUptoSaid : Prop := pressAddedUptoRow.holds Try.pinned (OpenSpec.upto pressAddedSpec)

/-- 'tuschelaw13.PressSure', WHERE WHAT IT READS IS OF BULK AT MOST 1048576: true; the input reads as it did. -/
def pressSureUptoRow : OpenClaim := { program := "ytbblnbolabpfmaa", sum := "3e9255fafbf679f9d329c33de75489419f9a72f2272cc8094a1f65a0a2e4bbed", func := "tusche/tuschelaw13.PressSure", spec := "pressSure", inPlace := ["slices.overlaps[tusche/press.Order]"], unfollowed := true, recurses := true, apart := false, narrowed := true }
def PressSureUptoSaid : Prop := pressSureUptoRow.holds Try.pinned (OpenSpec.upto pressSureSpec)

/-- 'tuschelaw13.PressDays', WHERE WHAT IT READS IS OF BULK AT MOST 1048576: true; the input reads as it did. -/
def pressDaysUptoRow : OpenClaim := { program := "ytbblnbolabpfmaa", sum := "3e9255fafbf679f9d329c33de75489419f9a72f2272cc8094a1f65a0a2e4bbed", func := "tusche/tuschelaw13.PressDays", spec := "pressDays", inPlace := ["slices.overlaps[tusche/press.Order]"], unfollowed := true, recurses := true, apart := false, narrowed := true }
def PressDaysUptoSaid : Prop := pressDaysUptoRow.holds Try.pinned (OpenSpec.upto pressDaysSpec)

/-- 'tuschelaw13.PressTurned', WHERE WHAT IT READS IS OF BULK AT MOST 1048576: true; the input reads as it did. -/
def pressTurnedUptoRow : OpenClaim := { program := "ytbblnbolabpfmaa", sum := "3e9255fafbf679f9d329c33de75489419f9a72f2272cc8094a1f65a0a2e4bbed", func := "tusche/tuschelaw13.PressTurned", spec := "pressTurned", inPlace := ["slices.overlaps[tusche/press.Order]"], unfollowed := true, recurses := true, apart := false, narrowed := true }
def PressTurnedUptoSaid : Prop := pressTurnedUptoRow.holds Try.pinned (OpenSpec.upto pressTurnedSpec)

/-- 'tuschelaw13.PressKnown', WHERE WHAT IT READS IS OF BULK AT MOST 1048576: true; the input reads as it did. -/
def pressKnownUptoRow : OpenClaim := { program := "ytbblnbolabpfmaa", sum := "3e9255fafbf679f9d329c33de75489419f9a72f2272cc8094a1f65a0a2e4bbed", func := "tusche/tuschelaw13.PressKnown", spec := "pressKnown", inPlace := ["slices.overlaps[tusche/press.Order]"], unfollowed := true, recurses := true, apart := false, narrowed := true }
def PressKnownUptoSaid : Prop := pressKnownUptoRow.holds Try.pinned (OpenSpec.upto pressKnownSpec)

end Rows
end Go.Proofs.Ytbblnbolabpfmaa
