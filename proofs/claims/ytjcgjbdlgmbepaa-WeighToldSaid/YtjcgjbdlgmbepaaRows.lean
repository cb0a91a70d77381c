/-
  No cell of these rows narrows 'for every input' (looked for: loops, veiled, ifaces, maps, wideKeys, modest, calm, conditions, laid).
  DERIVED. THE GIVEN ROWS OF THIS SEAT. 13 by the template 'for every input the law returns true; each argument reads behind the call as it read before'; 0 by the template 'total and deterministic' (their statements: YtjcgjbdlgmbepaaTotals.lean).
  GIVEN WITH THE SEED: the statements are not yours to turn. If you find one false, say at which input.
  Laid BY PROGRAM, IN A SANDBOX (cutbox-rows.mjs): the forced cells as the released guide's own fill.sh prints them over the translation 589a2cdce1c1578f… (all of the seat's roots in one cut). By AI agents, Wed Nov 11 2026. No macro, syntax, notation, axiom, sorry.
-/
import Derived.Test.YtjcgjbdlgmbepaaChecked
import GoSem.Claim
import GoSem.ClaimJoined
import GoSem.ClaimMapViews
import Derived.JoinedTies
import Derived.KernelRfl
namespace Go.Proofs.Ytjcgjbdlgmbepaa
/- THE CELL 'sum', in the pinned program and in every row, IS THE sha256 OF THE DUMP (.gsa) THAT YtjcgjbdlgmbepaaProg.lean LOADS. Nothing in Lean hashes anything: it is a label: what it is worth is what the hold of that sum in a sandbox is worth. -/
noncomputable def Try.pinned : Pinned := { name := "ytjcgjbdlgmbepaa", sum := "589a2cdce1c1578f121904d3ca0f98d80c1bfe0d05439ef8ba0c9f002f3d01c1", checked := Try.checked }
namespace Rows
def none {H : Type} : Left H := { results := [], args := [] }

/-- 'tuschelaw12.WeighLoads': WHATEVER THE INPUT: true; the input reads as it did. -/
def weighLoadsSpec : ChangeSpec := { name := "weighLoads", fn := fun _ => fun
  | [d1, d2] => { results := [.lit (.bool true)], args := [d1, d2] }
  | _ => none }
def weighLoadsRow : OpenClaim := { program := "ytjcgjbdlgmbepaa", sum := "589a2cdce1c1578f121904d3ca0f98d80c1bfe0d05439ef8ba0c9f002f3d01c1", func := "tusche/tuschelaw12.WeighLoads", spec := "weighLoads", unfollowed := true, recurses := true, plainKeys := false, apart := false }
def WeighLoadsSaid : Prop := weighLoadsRow.holds Try.pinned (OpenSpec.ofChange weighLoadsSpec)

/-- ITS FALSE NEIGHBOUR: 'it returns false'. Refute it at one input. -/
def weighLoadsWrong : ChangeSpec := { name := "weighLoads", fn := fun _ => fun
  | [d1, d2] => { results := [.lit (.bool false)], args := [d1, d2] }
  | _ => none }
def WeighLoadsWrongFalsely : Prop := weighLoadsRow.holds Try.pinned (OpenSpec.ofChange weighLoadsWrong)

/-- 'tuschelaw12.WeighLays': WHATEVER THE INPUT: true; the input reads as it did. -/
def weighLaysSpec : ChangeSpec := { name := "weighLays", fn := fun _ => fun
  | [d1, d2, d3, d4] => { results := [.lit (.bool true)], args := [d1, d2, d3, d4] }
  | _ => none }
def weighLaysRow : OpenClaim := { program := "ytjcgjbdlgmbepaa", sum := "589a2cdce1c1578f121904d3ca0f98d80c1bfe0d05439ef8ba0c9f002f3d01c1", func := "tusche/tuschelaw12.WeighLays", spec := "weighLays", unfollowed := true, recurses := true, plainKeys := false, apart := false }
def WeighLaysSaid : Prop := weighLaysRow.holds Try.pinned (OpenSpec.ofChange weighLaysSpec)

/-- ITS FALSE NEIGHBOUR: 'it returns false'. Refute it at one input. -/
def weighLaysWrong : ChangeSpec := { name := "weighLays", fn := fun _ => fun
  | [d1, d2, d3, d4] => { results := [.lit (.bool false)], args := [d1, d2, d3, d4] }
  | _ => none }
def WeighLaysWrongFalsely : Prop := weighLaysRow.holds Try.pinned (OpenSpec.ofChange weighLaysWrong)

/-- 'tuschelaw12.WeighCases': WHATEVER THE INPUT: true; the input reads as it did. -/
def weighCasesSpec : ChangeSpec := { name := "weighCases", fn := fun _ => fun
  | [d1, d2, d3, d4] => { results := [.lit (.bool true)], args := [d1, d2, d3, d4] }
  | _ => none }
def weighCasesRow : OpenClaim := { program := "ytjcgjbdlgmbepaa", sum := "589a2cdce1c1578f121904d3ca0f98d80c1bfe0d05439ef8ba0c9f002f3d01c1", func := "tusche/tuschelaw12.WeighCases", spec := "weighCases", unfollowed := true, recurses := true, plainKeys := false, apart := false }
def WeighCasesSaid : Prop := weighCasesRow.holds Try.pinned (OpenSpec.ofChange weighCasesSpec)

/-- ITS FALSE NEIGHBOUR: 'it returns false'. Refute it at one input. -/
def weighCasesWrong : ChangeSpec := { name := "weighCases", fn := fun _ => fun
  | [d1, d2, d3, d4] => { results := [.lit (.bool false)], args := [d1, d2, d3, d4] }
  | _ => none }
def WeighCasesWrongFalsely : Prop := weighCasesRow.holds Try.pinned (OpenSpec.ofChange weighCasesWrong)

/-- 'tuschelaw12.WeighTwins': WHATEVER THE INPUT: true; the input reads as it did. -/
def weighTwinsSpec : ChangeSpec := { name := "weighTwins", fn := fun _ => fun
  | [d1, d2, d3] => { results := [.lit (.bool true)], args := [d1, d2, d3] }
  | _ => none }
def weighTwinsRow : OpenClaim := { program := "ytjcgjbdlgmbepaa", sum := "589a2cdce1c1578f121904d3ca0f98d80c1bfe0d05439ef8ba0c9f002f3d01c1", func := "tusche/tuschelaw12.WeighTwins", spec := "weighTwins", unfollowed := true, recurses := true, plainKeys := false, apart := false }
def WeighTwinsSaid : Prop := weighTwinsRow.holds Try.pinned (OpenSpec.ofChange weighTwinsSpec)

/-- ITS FALSE NEIGHBOUR: 'it returns false'. Refute it at one input. -/
def weighTwinsWrong : ChangeSpec := { name := "weighTwins", fn := fun _ => fun
  | [d1, d2, d3] => { results := [.lit (.bool false)], args := [d1, d2, d3] }
  | _ => none }
def WeighTwinsWrongFalsely : Prop := weighTwinsRow.holds Try.pinned (OpenSpec.ofChange weighTwinsWrong)

/-- 'tuschelaw12.WeighPlans': WHATEVER THE INPUT: true; the input reads as it did. -/
def weighPlansSpec : ChangeSpec := { name := "weighPlans", fn := fun _ => fun
  | [d1, d2] => { results := [.lit (.bool true)], args := [d1, d2] }
  | _ => none }
def weighPlansRow : OpenClaim := { program := "ytjcgjbdlgmbepaa", sum := "589a2cdce1c1578f121904d3ca0f98d80c1bfe0d05439ef8ba0c9f002f3d01c1", func := "tusche/tuschelaw12.WeighPlans", spec := "weighPlans", unfollowed := true, recurses := true, plainKeys := false, apart := false }
def WeighPlansSaid : Prop := weighPlansRow.holds Try.pinned (OpenSpec.ofChange weighPlansSpec)

/-- ITS FALSE NEIGHBOUR: 'it returns false'. Refute it at one input. -/
def weighPlansWrong : ChangeSpec := { name := "weighPlans", fn := fun _ => fun
  | [d1, d2] => { results := [.lit (.bool false)], args := [d1, d2] }
  | _ => none }
def WeighPlansWrongFalsely : Prop := weighPlansRow.holds Try.pinned (OpenSpec.ofChange weighPlansWrong)

/-- 'tuschelaw12.WeighThrees': WHATEVER THE INPUT: true; the input reads as it did. -/
def weighThreesSpec : ChangeSpec := { name := "weighThrees", fn := fun _ => fun
  | [d1, d2] => { results := [.lit (.bool true)], args := [d1, d2] }
  | _ => none }
def weighThreesRow : OpenClaim := { program := "ytjcgjbdlgmbepaa", sum := "589a2cdce1c1578f121904d3ca0f98d80c1bfe0d05439ef8ba0c9f002f3d01c1", func := "tusche/tuschelaw12.WeighThrees", spec := "weighThrees", unfollowed := true, recurses := true, plainKeys := false, apart := false }
def WeighThreesSaid : Prop := weighThreesRow.holds Try.pinned (OpenSpec.ofChange weighThreesSpec)

/-- ITS FALSE NEIGHBOUR: 'it returns false'. Refute it at one input. -/
def weighThreesWrong : ChangeSpec := { name := "weighThrees", fn := fun _ => fun
  | [d1, d2] => { results := [.lit (.bool false)], args := [d1, d2] }
  | _ => none }
def WeighThreesWrongFalsely : Prop := weighThreesRow.holds Try.pinned (OpenSpec.ofChange weighThreesWrong)

/-- 'tuschelaw12.WeighLeast': WHATEVER THE INPUT: true; the input reads as it did. -/
def weighLeastSpec : ChangeSpec := { name := "weighLeast", fn := fun _ => fun
  | [d1, d2] => { results := [.lit (.bool true)], args := [d1, d2] }
  | _ => none }
def weighLeastRow : OpenClaim := { program := "ytjcgjbdlgmbepaa", sum := "589a2cdce1c1578f121904d3ca0f98d80c1bfe0d05439ef8ba0c9f002f3d01c1", func := "tusche/tuschelaw12.WeighLeast", spec := "weighLeast", unfollowed := true, recurses := true, plainKeys := false, apart := false }
def WeighLeastSaid : Prop := weighLeastRow.holds Try.pinned (OpenSpec.ofChange weighLeastSpec)

/-- ITS FALSE NEIGHBOUR: 'it returns false'. Refute it at one input. -/
def weighLeastWrong : ChangeSpec := { name := "weighLeast", fn := fun _ => fun
  | [d1, d2] => { results := [.lit (.bool false)], args := [d1, d2] }
  | _ => none }
def WeighLeastWrongFalsely : Prop := weighLeastRow.holds Try.pinned (OpenSpec.ofChange weighLeastWrong)

/-- 'tuschelaw12.WeighMore': WHATEVER THE INPUT: true; the input reads as it did. -/
def weighMoreSpec : ChangeSpec := { name := "weighMore", fn := fun _ => fun
  | [d1, d2, d3] => { results := [.lit (.bool true)], args := [d1, d2, d3] }
  | _ => none }
def weighMoreRow : OpenClaim := { program := "ytjcgjbdlgmbepaa", sum := "589a2cdce1c1578f121904d3ca0f98d80c1bfe0d05439ef8ba0c9f002f3d01c1", func := "tusche/tuschelaw12.WeighMore", spec := "weighMore", unfollowed := true, recurses := true, plainKeys := false, apart := false }
def WeighMoreSaid : Prop := weighMoreRow.holds Try.pinned (OpenSpec.ofChange weighMoreSpec)

/-- ITS FALSE NEIGHBOUR: 'it returns false'. Refute it at one input. -/
def weighMoreWrong : ChangeSpec := { name := "weighMore", fn := fun _ => fun
  | [d1, d2, d3] => { results := [.lit (.bool false)], args := [d1, d2, d3] }
  | _ => none }
def WeighMoreWrongFalsely : Prop := weighMoreRow.holds Try.pinned (OpenSpec.ofChange weighMoreWrong)

/-- 'tuschelaw12.WeighSeen': WHATEVER THE INPUT: true; the input reads as it did. -/
def weighSeenSpec : ChangeSpec := { name := "weighSeen", fn := fun _ => fun
  | [d] => { results := [.lit (.bool true)], args := [d] }
  | _ => none }
def weighSeenRow : OpenClaim := { program := "ytjcgjbdlgmbepaa", sum := "589a2cdce1c1578f121904d3ca0f98d80c1bfe0d05439ef8ba0c9f002f3d01c1", func := "tusche/tuschelaw12.WeighSeen", spec := "weighSeen", unfollowed := true, recurses := true, plainKeys := false, apart := false }
def WeighSeenSaid : Prop := weighSeenRow.holds Try.pinned (OpenSpec.ofChange weighSeenSpec)

/-- ITS FALSE NEIGHBOUR: 'it returns false'. Refute it at one input. -/
def weighSeenWrong : ChangeSpec := { name := "weighSeen", fn := fun _ => fun
  | [d] => { results := [.lit (.bool false)], args := [d] }
  | _ => none }
def WeighSeenWrongFalsely : Prop := weighSeenRow.holds Try.pinned (OpenSpec.ofChange weighSeenWrong)

/-- 'tuschelaw12.WeighTold': WHATEVER THE INPUT: true; the input reads as it did. -/
def weighToldSpec : ChangeSpec := { name := "weighTold", fn := fun _ => fun
  | [d1, d2] => { results := [.lit (.bool true)], args := [d1, d2] }
  | _ => none }
def weighToldRow : OpenClaim := { program := "ytjcgjbdlgmbepaa", sum := "589a2cdce1c1578f121904d3ca0f98d80c1bfe0d05439ef8ba0c9f002f3d01c1", func := "tusche/tuschelaw12.WeighTold", spec := "weighTold", unfollowed := true, recurses := true, plainKeys := false, apart := false }
def WeighToldSaid : Prop := weighToldRow.holds Try.pinned (OpenSpec.ofChange weighToldSpec)

/-- ITS FALSE NEIGHBOUR: 'it returns false'. Refute it at one input. -/
def weighToldWrong : ChangeSpec := { name := "weighTold", fn := fun _ => fun
  | [d1, d2] => { results := [.lit (.bool false)], args := [d1, d2] }
  | _ => none }
def WeighToldWrongFalsely : Prop := weighToldRow.holds Try.pinned (OpenSpec.ofChange weighToldWrong)

/-- 'tuschelaw12.WeighNone': WHATEVER THE INPUT: true; the input reads as it did. -/
def weighNoneSpec : ChangeSpec := { name := "weighNone", fn := fun _ => fun
  | [d] => { results := [.lit (.bool true)], args := [d] }
  | _ => none }
def weighNoneRow : OpenClaim := { program := "ytjcgjbdlgmbepaa", sum := "589a2cdce1c1578f121904d3ca0f98d80c1bfe0d05439ef8ba0c9f002f3d01c1", func := "tusche/tuschelaw12.WeighNone", spec := "weighNone", unfollowed := true, recurses := true, plainKeys := false, apart := false }
def WeighNoneSaid : Prop := weighNoneRow.holds Try.pinned (OpenSpec.ofChange weighNoneSpec)

/-- ITS FALSE NEIGHBOUR: 'it returns false'. Refute it at one input. -/
def weighNoneWrong : ChangeSpec := { name := "weighNone", fn := fun _ => fun
  | [d] => { results := [.lit (.bool false)], args := [d] }
  | _ => none }
def WeighNoneWrongFalsely : Prop := weighNoneRow.holds Try.pinned (OpenSpec.ofChange weighNoneWrong)

/-- 'tuschelaw12.WeighNames': WHATEVER THE INPUT: true; the input reads as it did. -/
def weighNamesSpec : ChangeSpec := { name := "weighNames", fn := fun _ => fun
  | [d1, d2, d3, d4] => { results := [.lit (.bool true)], args := [d1, d2, d3, d4] }
  | _ => none }
def weighNamesRow : OpenClaim := { program := "ytjcgjbdlgmbepaa", sum := "589a2cdce1c1578f121904d3ca0f98d80c1bfe0d05439ef8ba0c9f002f3d01c1", func := "tusche/tuschelaw12.WeighNames", spec := "weighNames", unfollowed := true, recurses := true, plainKeys := false, apart := false }
def WeighNamesSaid : Prop := weighNamesRow.holds Try.pinned (OpenSpec.ofChange weighNamesSpec)

/-- ITS FALSE NEIGHBOUR: 'it returns false'. Refute it at one input. -/
def weighNamesWrong : ChangeSpec := { name := "weighNames", fn := fun _ => fun
  | [d1, d2, d3, d4] => { results := [.lit (.bool false)], args := [d1, d2, d3, d4] }
  | _ => none }
def WeighNamesWrongFalsely : Prop := weighNamesRow.holds Try.pinned (OpenSpec.ofChange weighNamesWrong)

/-- 'tuschelaw12.WeighKnown': WHATEVER THE INPUT: true; the input reads as it did. -/
def weighKnownSpec : ChangeSpec := { name := "weighKnown", fn := fun _ => fun
  | [] => { results := [.lit (.bool true)], args := [] }
  | _ => none }
def weighKnownRow : OpenClaim := { program := "ytjcgjbdlgmbepaa", sum := "589a2cdce1c1578f121904d3ca0f98d80c1bfe0d05439ef8ba0c9f002f3d01c1", func := "tusche/tuschelaw12.WeighKnown", spec := "weighKnown", unfollowed := true, recurses := true, plainKeys := false, apart := false }
def WeighKnownSaid : Prop := weighKnownRow.holds Try.pinned (OpenSpec.ofChange weighKnownSpec)

/-- ITS FALSE NEIGHBOUR: 'it returns false'. Refute it at one input. -/
def weighKnownWrong : ChangeSpec := { name := "weighKnown", fn := fun _ => fun
  | [] => { results := [.lit (.bool false)], args := [] }
  | _ => none }
def WeighKnownWrongFalsely : Prop := weighKnownRow.holds Try.pinned (OpenSpec.ofChange weighKnownWrong)

/- THE SECOND FORM. 'bulk': how many values and letters a reading holds, each counted each time it is reached (what is shared counts as often as it is met; a slice's spare places count too). A statement '..UptoSaid' is the law's where the arguments, and the package variables that the reading takes, are together of bulk at most 1048576: NARROWER than '..Said'. Prove '..Said' where nothing that the law and all that it calls make is longer than what came in: it says more and counts as full. Else prove '..UptoSaid'. A law counts once. -/
mutual
def uptoBulk {H : Type} : DataW H → Nat
  | .lit (.string bytes) => bytes.length + 1
  | .lit _ => 1
  | .nil => 1
  | .ptr d => uptoBulk d + 1
  | .slice elems spare => uptoBulkAll elems + uptoBulkAll spare + 1
  | .agg parts => uptoBulkAll parts + 1
  | .iface _ d => uptoBulk d + 1
  | .map entries => uptoBulkEntries entries + 1
  | .held _ => 1
def uptoBulkAll {H : Type} : List (DataW H) → Nat
  | [] => 0
  | d :: r => uptoBulk d + uptoBulkAll r
def uptoBulkEntries {H : Type} : List (Lit × DataW H) → Nat
  | [] => 0
  | x :: r => uptoBulkEntry x + uptoBulkEntries r
def uptoBulkEntry {H : Type} : Lit × DataW H → Nat
  | (.string bytes, d) => bytes.length + uptoBulk d + 1
  | (_, d) => uptoBulk d + 1
 end
def uptoSmall : (H : Type) → List (DataW H) → Bool := fun _ ds => decide (uptoBulkAll ds ≤ 1048576)
def OpenSpec.upto (s : _root_.Go.ChangeSpec) : _root_.Go.OpenSpec := { _root_.Go.OpenSpec.ofChange s with cond := some uptoSmall }

/-- 'tuschelaw12.WeighLoads', WHERE WHAT IT READS IS OF BULK AT MOST 1048576: true; the input reads as it did. -/
def weighLoadsUptoRow : OpenClaim := { program := "ytjcgjbdlgmbepaa", sum := "589a2cdce1c1578f121904d3ca0f98d80c1bfe0d05439ef8ba0c9f002f3d01c1", func := "tusche/tuschelaw12.WeighLoads", spec := "weighLoads", unfollowed := true, recurses := true, plainKeys := false, apart := false, narrowed := true }
def WeighLoadsUptoSaid : Prop := weighLoadsUptoRow.holds Try.pinned (OpenSpec.upto weighLoadsSpec)

/-- 'tuschelaw12.WeighLays', WHERE WHAT IT READS IS OF BULK AT MOST 1048576: true; the input reads as it did. -/
def weighLaysUptoRow : OpenClaim := { program := "ytjcgjbdlgmbepaa", sum := "589a2cdce1c1578f121904d3ca0f98d80c1bfe0d05439ef8ba0c9f002f3d01c1", func := "tusche/tuschelaw12.WeighLays", spec := "weighLays", unfollowed := true, recurses := true, plainKeys := false, apart := false, narrowed := true }
def WeighLaysUptoSaid : Prop := weighLaysUptoRow.holds Try.pinned (OpenSpec.upto weighLaysSpec)

/-- 'tuschelaw12.WeighCases', WHERE WHAT IT READS IS OF BULK AT MOST 1048576: true; the input reads as it did. -/
def weighCasesUptoRow : OpenClaim := { program := "ytjcgjbdlgmbepaa", sum := "589a2cdce1c1578f121904d3ca0f98d80c1bfe0d05439ef8ba0c9f002f3d01c1", func := "tusche/tuschelaw12.WeighCases", spec := "weighCases", unfollowed := true, recurses := true, plainKeys := false, apart := false, narrowed := true }
def WeighCasesUptoSaid : Prop := weighCasesUptoRow.holds Try.pinned (OpenSpec.upto weighCasesSpec)

/-- 'tuschelaw12.WeighTwins', WHERE WHAT IT READS IS OF BULK AT MOST 1048576: true; the input reads as it did. -/
def weighTwinsUptoRow : OpenClaim := { program := "ytjcgjbdlgmbepaa", sum := "589a2cdce1c1578f121904d3ca0f98d80c1bfe0d05439ef8ba0c9f002f3d01c1", func := "tusche/tuschelaw12.WeighTwins", spec := "weighTwins", unfollowed := true, recurses := true, plainKeys := false, apart := false, narrowed := true }
def WeighTwinsUptoSaid : Prop := weighTwinsUptoRow.holds Try.pinned (OpenSpec.upto weighTwinsSpec)

/-- 'tuschelaw12.WeighPlans', WHERE WHAT IT READS IS OF BULK AT MOST 1048576: true; the input reads as it did. -/
def weighPlansUptoRow : OpenClaim := { program := "ytjcgjbdlgmbepaa", sum := "589a2cdce1c1578f121904d3ca0f98d80c1bfe0d05439ef8ba0c9f002f3d01c1", func := "tusche/tuschelaw12.WeighPlans", spec := "weighPlans", unfollowed := true, recurses := true, plainKeys := false, apart := false, narrowed := true }
def WeighPlansUptoSaid : Prop := weighPlansUptoRow.holds Try.pinned (OpenSpec.upto weighPlansSpec)

/-- 'tuschelaw12.WeighThrees', WHERE WHAT IT READS IS OF BULK AT MOST 1048576: true; the input reads as it did. -/
def weighThreesUptoRow : OpenClaim := { program := "ytjcgjbdlgmbepaa", sum := "589a2cdce1c1578f121904d3ca0f98d80c1bfe0d05439ef8ba0c9f002f3d01c1", func := "tusche/tuschelaw12.WeighThrees", spec := "weighThrees", unfollowed := true, recurses := true, plainKeys := false, apart := false, narrowed := true }
def WeighThreesUptoSaid : Prop := weighThreesUptoRow.holds Try.pinned (OpenSpec.upto weighThreesSpec)

/-- 'tuschelaw12.WeighLeast', WHERE WHAT IT READS IS OF BULK AT MOST 1048576: true; the input reads as it did. -/
def weighLeastUptoRow : OpenClaim := { program := "ytjcgjbdlgmbepaa", sum := "589a2cdce1c1578f121904d3ca0f98d80c1bfe0d05439ef8ba0c9f002f3d01c1", func := "tusche/tuschelaw12.WeighLeast", spec := "weighLeast", unfollowed := true, recurses := true, plainKeys := false, apart := false, narrowed := true }
def WeighLeastUptoSaid : Prop := weighLeastUptoRow.holds Try.pinned (OpenSpec.upto weighLeastSpec)

/-- 'tuschelaw12.WeighMore', WHERE WHAT IT READS IS OF BULK AT MOST 1048576: true; the input reads as it did. -/
def weighMoreUptoRow : OpenClaim := { program := "ytjcgjbdlgmbepaa", sum := "589a2cdce1c1578f121904d3ca0f98d80c1bfe0d05439ef8ba0c9f002f3d01c1", func := "tusche/tuschelaw12.WeighMore", spec := "weighMore", unfollowed := true, recurses := true, plainKeys := false, apart := false, narrowed := true }
def WeighMoreUptoSaid : Prop := weighMoreUptoRow.holds Try.pinned (OpenSpec.upto weighMoreSpec)

/-- 'tuschelaw12.WeighSeen', WHERE WHAT IT READS IS OF BULK AT MOST 1048576: true; the input reads as it did. -/
def weighSeenUptoRow : OpenClaim := { program := "ytjcgjbdlgmbepaa", sum := "589a2cdce1c1578f121904d3ca0f98d80c1bfe0d05439ef8ba0c9f002f3d01c1", func := "tusche/tuschelaw12.WeighSeen", spec := "weighSeen", unfollowed := true, recurses := true, plainKeys := false, apart := false, narrowed := true }
def WeighSeenUptoSaid : Prop := weighSeenUptoRow.holds Try.pinned (OpenSpec.upto weighSeenSpec)

/-- 'tuschelaw12.WeighTold', WHERE WHAT IT READS IS OF BULK AT MOST 1048576: true; the input reads as it did. -/
def weighToldUptoRow : OpenClaim := { program := "ytjcgjbdlgmbepaa", sum := "589a2cdce1c1578f121904d3ca0f98d80c1bfe0d05439ef8ba0c9f002f3d01c1", func := "tusche/tuschelaw12.WeighTold", spec := "weighTold", unfollowed := true, recurses := true, plainKeys := false, apart := false, narrowed := true }
def WeighToldUptoSaid : Prop := weighToldUptoRow.holds Try.pinned (OpenSpec.upto weighToldSpec)

/-- 'tuschelaw12.WeighNone', WHERE WHAT IT READS IS OF BULK AT MOST 1048576: true; the input reads as it did. -/
def weighNoneUptoRow : OpenClaim := { program := "ytjcgjbdlgmbepaa", sum := "589a2cdce1c1578f121904d3ca0f98d80c1bfe0d05439ef8ba0c9f002f3d01c1", func := "tusche/tuschelaw12.WeighNone", spec := "weighNone", unfollowed := true, recurses := true, plainKeys := false, apart := false, narrowed := true }
def WeighNoneUptoSaid : Prop := weighNoneUptoRow.holds Try.pinned (OpenSpec.upto weighNoneSpec)

/-- 'tuschelaw12.WeighNames', WHERE WHAT IT READS IS OF BULK AT MOST 1048576: true; the input reads as it did. -/
def weighNamesUptoRow : OpenClaim := { program := "ytjcgjbdlgmbepaa", sum := "589a2cdce1c1578f121904d3ca0f98d80c1bfe0d05439ef8ba0c9f002f3d01c1", func := "tusche/tuschelaw12.WeighNames", spec := "weighNames", unfollowed := true, recurses := true, plainKeys := false, apart := false, narrowed := true }
def WeighNamesUptoSaid : Prop := weighNamesUptoRow.holds Try.pinned (OpenSpec.upto weighNamesSpec)

/-- 'tuschelaw12.WeighKnown', WHERE WHAT IT READS IS OF BULK AT MOST 1048576: true; the input reads as it did. -/
def weighKnownUptoRow : OpenClaim := { program := "ytjcgjbdlgmbepaa", sum := "589a2cdce1c1578f121904d3ca0f98d80c1bfe0d05439ef8ba0c9f002f3d01c1", func := "tusche/tuschelaw12.WeighKnown", spec := "weighKnown", unfollowed := true, recurses := true, plainKeys := false, apart := false, narrowed := true }
def WeighKnownUptoSaid : Prop := weighKnownUptoRow.holds Try.pinned (OpenSpec.upto weighKnownSpec)

end Rows
end Go.Proofs.Ytjcgjbdlgmbepaa
