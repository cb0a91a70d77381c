/-
  NARROWER THAN 'FOR EVERY INPUT', by the rows' own cells (each row's printed sentence says how): TopQueued: laid · TopBalanced: laid.
  DERIVED. THE GIVEN ROWS OF THIS SEAT. 2 by the template 'for every input the law returns true; each argument reads behind the call as it read before'; 0 by the template 'total and deterministic' (their statements: YtjcnfpfldocpdaaGreatDoorTotals.lean).
  GIVEN WITH THE SEED: the statements are not yours to turn. If you find one false, say at which input.
  Laid BY PROGRAM, IN A SANDBOX (cutbox-rows.mjs): the forced cells as the released guide's own fill.sh prints them over the translation b4832513dca03927… (all of the seat's roots in one cut). By AI agents, Wed Nov 11 2026. No macro, syntax, notation, axiom, sorry.
-/
import Derived.Test.YtjcnfpfldocpdaaGreatDoorChecked
import GoSem.Claim
import GoSem.ClaimJoined
import GoSem.ClaimMapViews
import Derived.JoinedTies
import Derived.KernelRfl
namespace Go.Proofs.YtjcnfpfldocpdaaGreatDoor
/- THE CELL 'sum', in the pinned program and in every row, IS THE sha256 OF THE DUMP (.gsa) THAT YtjcnfpfldocpdaaGreatDoorProg.lean LOADS. Nothing in Lean hashes anything: it is a label: what it is worth is what the hold of that sum in a sandbox is worth. -/
noncomputable def Tryz.pinned : Pinned := { name := "ytjcnfpfldocpdaagreatdoor", sum := "b4832513dca0392767d548e67220187db8b12ef961e1acb8c260cc4d9f00072d", checked := Tryz.checked }
namespace Rows
def none {H : Type} : Left H := { results := [], args := [] }

/- WHAT THE LISTED PACKAGE-LEVEL VARIABLES READ AS WHEN THE CALL BEGINS. Each datum BY PROGRAM (the guide's laid-datum.mjs) off the statement by which the dump's own 'gosem.cut.vars' lays the variable. In a bare row this is a premise. The card (YtjcnfpfldocpdaaGreatDoorCards.lean) ties it to the program's text. -/
def laid_tusche_mark_count {H : Type} : DataW H := .slice [.lit (.int .i64 0), .lit (.int .i64 1), .lit (.int .i64 1), .lit (.int .i64 2), .lit (.int .i64 1), .lit (.int .i64 2), .lit (.int .i64 2), .lit (.int .i64 3), .lit (.int .i64 1), .lit (.int .i64 2), .lit (.int .i64 2), .lit (.int .i64 3), .lit (.int .i64 2), .lit (.int .i64 3), .lit (.int .i64 3), .lit (.int .i64 4)] []

/-- 'tuschetop.TopQueued': WHATEVER THE INPUT: true; the input reads as it did. -/
def topQueuedSpec : ChangeSpec := { name := "topQueued", fn := fun _ => fun
  | [d1, d2] => { results := [.lit (.bool true)], args := [d1, d2] }
  | _ => none }
def topQueuedRow : OpenClaim := { program := "ytjcnfpfldocpdaagreatdoor", sum := "b4832513dca0392767d548e67220187db8b12ef961e1acb8c260cc4d9f00072d", func := "tusche/tuschetop.TopQueued", spec := "topQueued", inPlace := ["slices.overlaps[tusche/press.Order]"], unfollowed := true, recurses := true, named := ["tusche/mark.count"], apart := false, laid := [("tusche/mark.count", laid_tusche_mark_count)] }
def TopQueuedSaid : Prop := topQueuedRow.holds Tryz.pinned (OpenSpec.ofChange topQueuedSpec)

/-- ITS FALSE NEIGHBOUR: 'it returns false'. Refute it at one input. -/
def topQueuedWrong : ChangeSpec := { name := "topQueued", fn := fun _ => fun
  | [d1, d2] => { results := [.lit (.bool false)], args := [d1, d2] }
  | _ => none }
def TopQueuedWrongFalsely : Prop := topQueuedRow.holds Tryz.pinned (OpenSpec.ofChange topQueuedWrong)

/-- 'tuschetop.TopBalanced': WHATEVER THE INPUT: true; the input reads as it did. -/
def topBalancedSpec : ChangeSpec := { name := "topBalanced", fn := fun _ => fun
  | [d1, d2] => { results := [.lit (.bool true)], args := [d1, d2] }
  | _ => none }
def topBalancedRow : OpenClaim := { program := "ytjcnfpfldocpdaagreatdoor", sum := "b4832513dca0392767d548e67220187db8b12ef961e1acb8c260cc4d9f00072d", func := "tusche/tuschetop.TopBalanced", spec := "topBalanced", inPlace := ["slices.overlaps[tusche/press.Order]"], unfollowed := true, recurses := true, named := ["tusche/mark.count"], apart := false, laid := [("tusche/mark.count", laid_tusche_mark_count)] }
def TopBalancedSaid : Prop := topBalancedRow.holds Tryz.pinned (OpenSpec.ofChange topBalancedSpec)

/-- ITS FALSE NEIGHBOUR: 'it returns false'. Refute it at one input. -/
def topBalancedWrong : ChangeSpec := { name := "topBalanced", fn := fun _ => fun
  | [d1, d2] => { results := [.lit (.bool false)], args := [d1, d2] }
  | _ => none }
def TopBalancedWrongFalsely : Prop := topBalancedRow.holds Tryz.pinned (OpenSpec.ofChange topBalancedWrong)

/- THE SECOND FORM. 'bulk': how many values and letters a reading holds, each counted each time it is reached (what is shared counts as often as it is met; a slice's spare places count too). A statement '..UptoSaid' is the law's where the arguments, and the package variables that the reading takes, are together of bulk at most 1048576: NARROWER than '..Said'. Prove '..Said' where nothing that the law and all that it calls make is longer than what came in: it says more and counts as full. Else prove '..UptoSaid'. A law counts once. -/
mutual
def uptoBulk {H : Type} : DataW H → Nat
  | .lit (.string bytes) => bytes.length + 1
  | .lit _ => 1
  | .nil => 1
  | .ptr d => uptoBulk d + 1
  | .slice elems spare => uptoBulkAll elems + uptoBulkAll spare + 1
  | .agg parts => uptoBulkAll parts + 1
  | .iface _ d => uptoBulk d + 1
  | .map entries => uptoBulkEntries entries + 1
  | .held _ => 1
def uptoBulkAll {H : Type} : List (DataW H) → Nat
  | [] => 0
  | d :: r => uptoBulk d + uptoBulkAll r
def uptoBulkEntries {H : Type} : List (Lit × DataW H) → Nat
  | [] => 0
  | x :: r => uptoBulkEntry x + uptoBulkEntries r
def uptoBulkEntry {H : Type} : Lit × DataW H → Nat
  | (.string bytes, d) => bytes.length + uptoBulk d + 1
  | (_, d) => uptoBulk d + 1
 end
def uptoSmall : (H : Type) → List (DataW H) → Bool := fun _ ds => decide (uptoBulkAll ds ≤ 1048576)
def OpenSpec.upto (s : _root_.Go.ChangeSpec) : _root_.Go.OpenSpec := { _root_.Go.OpenSpec.ofChange s with cond := some uptoSmall }

/-- 'tuschetop.TopQueued', WHERE WHAT IT READS IS OF BULK AT MOST 1048576: true; the input reads as it did. -/
def topQueuedUptoRow : OpenClaim := { program := "ytjcnfpfldocpdaagreatdoor", sum := "b4832513dca0392767d548e67220187db8b12ef961e1acb8c260cc4d9f00072d", func := "tusche/tuschetop.TopQueued", spec := "topQueued", inPlace := ["slices.overlaps[tusche/press.Order]"], unfollowed := true, recurses := true, named := ["tusche/mark.count"], apart := false, laid := [("tusche/mark.count", laid_tusche_mark_count)], narrowed := true }
def TopQueuedUptoSaid : Prop := topQueuedUptoRow.holds Tryz.pinned (OpenSpec.upto topQueuedSpec)

/-- 'tuschetop.TopBalanced', WHERE WHAT IT READS IS OF BULK AT MOST 1048576: true; the input reads as it did. -/
def topBalancedUptoRow : OpenClaim := { program := "ytjcnfpfldocpdaagreatdoor", sum := "b4832513dca0392767d548e67220187db8b12ef961e1acb8c260cc4d9f00072d", func := "tusche/tuschetop.TopBalanced", spec := "topBalanced", inPlace := ["slices.overlaps[tusche/press.Order]"], unfollowed := true, recurses := true, named := ["tusche/mark.count"], apart := false, laid := [("tusche/mark.count", laid_tusche_mark_count)], narrowed := true }
def TopBalancedUptoSaid : Prop := topBalancedUptoRow.holds Tryz.pinned (OpenSpec.upto topBalancedSpec)

end Rows
end Go.Proofs.YtjcnfpfldocpdaaGreatDoor
