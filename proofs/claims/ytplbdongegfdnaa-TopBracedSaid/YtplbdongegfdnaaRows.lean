/-
  No cell of these rows narrows 'for every input' (looked for: loops, veiled, ifaces, maps, wideKeys, modest, calm, conditions, laid).
  DERIVED. THE GIVEN ROWS OF THIS SEAT. 3 by the template 'for every input the law returns true; each argument reads behind the call as it read before'; 0 by the template 'total and deterministic' (their statements: YtplbdongegfdnaaTotals.lean).
  GIVEN WITH THE SEED: the statements are not yours to turn. If you find one false, say at which input.
  Laid BY PROGRAM, IN A SANDBOX (cutbox-rows.mjs): the forced cells as the released guide's own fill.sh prints them over the translation a5a26d753bcda93d… (all of the seat's roots in one cut). By AI agents, Wed Nov 11 2026. No macro, syntax, notation, axiom, sorry.
-/
import Derived.Test.YtplbdongegfdnaaChecked
import GoSem.Claim
import GoSem.ClaimJoined
import GoSem.ClaimMapViews
import Derived.JoinedTies
import Derived.KernelRfl
namespace Go.Proofs.Ytplbdongegfdnaa
/- THE CELL 'sum', in the pinned program and in every row, IS THE sha256 OF THE DUMP (.gsa) THAT YtplbdongegfdnaaProg.lean LOADS. Nothing in Lean hashes anything: it is a label: what it is worth is what the hold of that sum in a sandbox is worth. -/
noncomputable def Try.pinned : Pinned := { name := "ytplbdongegfdnaa", sum := "a5a26d753bcda93d8467620cbd99df8a70162233d908c2258cc360afda48f963", checked := Try.checked }
namespace Rows
def none {H : Type} : Left H := { results := [], args := [] }

/-- 'tuschetop.TopRegular': WHATEVER THE INPUT: true; the input reads as it did. -/
def topRegularSpec : ChangeSpec := { name := "topRegular", fn := fun _ => fun
  | [d1, d2] => { results := [.lit (.bool true)], args := [d1, d2] }
  | _ => none }
def topRegularRow : OpenClaim := { program := "ytplbdongegfdnaa", sum := "a5a26d753bcda93d8467620cbd99df8a70162233d908c2258cc360afda48f963", func := "tusche/tuschetop.TopRegular", spec := "topRegular", unfollowed := true, recurses := true, apart := false }
def TopRegularSaid : Prop := topRegularRow.holds Try.pinned (OpenSpec.ofChange topRegularSpec)

/-- ITS FALSE NEIGHBOUR: 'it returns false'. Refute it at one input. -/
def topRegularWrong : ChangeSpec := { name := "topRegular", fn := fun _ => fun
  | [d1, d2] => { results := [.lit (.bool false)], args := [d1, d2] }
  | _ => none }
def TopRegularWrongFalsely : Prop := topRegularRow.holds Try.pinned (OpenSpec.ofChange topRegularWrong)

/-- 'tuschetop.TopBraced': WHATEVER THE INPUT: true; the input reads as it did. -/
def topBracedSpec : ChangeSpec := { name := "topBraced", fn := fun _ => fun
  | [d1, d2, d3, d4, d5] => { results := [.lit (.bool true)], args := [d1, d2, d3, d4, d5] }
  | _ => none }
def topBracedRow : OpenClaim := { program := "ytplbdongegfdnaa", sum := "a5a26d753bcda93d8467620cbd99df8a70162233d908c2258cc360afda48f963", func := "tusche/tuschetop.TopBraced", spec := "topBraced", unfollowed := true, recurses := true, apart := false }
def TopBracedSaid : Prop := topBracedRow.holds Try.pinned (OpenSpec.ofChange topBracedSpec)

/-- ITS FALSE NEIGHBOUR: 'it returns false'. Refute it at one input. -/
def topBracedWrong : ChangeSpec := { name := "topBraced", fn := fun _ => fun
  | [d1, d2, d3, d4, d5] => { results := [.lit (.bool false)], args := [d1, d2, d3, d4, d5] }
  | _ => none }
def TopBracedWrongFalsely : Prop := topBracedRow.holds Try.pinned (OpenSpec.ofChange topBracedWrong)

/-- 'tuschetop.TopTabled': WHATEVER THE INPUT: true; the input reads as it did. -/
def topTabledSpec : ChangeSpec := { name := "topTabled", fn := fun _ => fun
  | [d1, d2] => { results := [.lit (.bool true)], args := [d1, d2] }
  | _ => none }
def topTabledRow : OpenClaim := { program := "ytplbdongegfdnaa", sum := "a5a26d753bcda93d8467620cbd99df8a70162233d908c2258cc360afda48f963", func := "tusche/tuschetop.TopTabled", spec := "topTabled", unfollowed := true, recurses := true, apart := false }
def TopTabledSaid : Prop := topTabledRow.holds Try.pinned (OpenSpec.ofChange topTabledSpec)

/-- ITS FALSE NEIGHBOUR: 'it returns false'. Refute it at one input. -/
def topTabledWrong : ChangeSpec := { name := "topTabled", fn := fun _ => fun
  | [d1, d2] => { results := [.lit (.bool false)], args := [d1, d2] }
  | _ => none }
def TopTabledWrongFalsely : Prop := topTabledRow.holds Try.pinned (OpenSpec.ofChange topTabledWrong)

/- THE SECOND FORM. 'bulk': how many values and letters a reading holds, each counted each time it is reached (what is shared counts as often as it is met; a slice's spare places count too). A statement '..UptoSaid' is the law's where the arguments, and the package variables that the reading takes, are together of bulk at most 1048576: NARROWER than '..Said'. Prove '..Said' where nothing that the law and all that it calls make is longer than what came in: it says more and counts as full. Else prove '..UptoSaid'. A law counts once. -/
mutual
def uptoBulk {H : Type} : DataW H → Nat
  | .lit (.string bytes) => bytes.length + 1
  | .lit _ => 1
  | .nil => 1
  | .ptr d => uptoBulk d + 1
  | .slice elems spare => uptoBulkAll elems + uptoBulkAll spare + 1
  | .agg parts => uptoBulkAll parts + 1
  | .iface _ d => uptoBulk d + 1
  | .map entries => uptoBulkEntries entries + 1
  | .held _ => 1
def uptoBulkAll {H : Type} : List (DataW H) → Nat
  | [] => 0
  | d :: r => uptoBulk d + uptoBulkAll r
def uptoBulkEntries {H : Type} : List (Lit × DataW H) → Nat
  | [] => 0
  | x :: r => uptoBulkEntry x + uptoBulkEntries r
def uptoBulkEntry {H : Type} : Lit × DataW H → Nat
  | (.string bytes, d) => bytes.length + uptoBulk d + 1
  | (_, d) => uptoBulk d + 1
 end
def uptoSmall : (H : Type) → List (DataW H) → Bool := fun _ ds => decide (uptoBulkAll ds ≤ 1048576)
def OpenSpec.upto (s : _root_.Go.ChangeSpec) : _root_.Go.OpenSpec := { _root_.Go.OpenSpec.ofChange s with cond := some uptoSmall }

/-- 'tuschetop.TopRegular', WHERE WHAT IT READS IS OF BULK AT MOST 1048576: true; the input reads as it did. -/
def topRegularUptoRow : OpenClaim := { program := "ytplbdongegfdnaa", sum := "a5a26d753bcda93d8467620cbd99df8a70162233d908c2258cc360afda48f963", func := "tusche/tuschetop.TopRegular", spec := "topRegular", unfollowed := true, recurses := true, apart := false, narrowed := true }
def TopRegularUptoSaid : Prop := topRegularUptoRow.holds Try.pinned (OpenSpec.upto topRegularSpec)

/-- 'tuschetop.TopBraced', WHERE WHAT IT READS IS OF BULK AT MOST 1048576: true; the input reads as it did. -/
def topBracedUptoRow : OpenClaim := { program := "ytplbdongegfdnaa", sum := "a5a26d753bcda93d8467620cbd99df8a70162233d908c2258cc360afda48f963", func := "tusche/tuschetop.TopBraced", spec := "topBraced", unfollowed := true, recurses := true, apart := false, narrowed := true }
def TopBracedUptoSaid : Prop := topBracedUptoRow.holds Try.pinned (OpenSpec.upto topBracedSpec)

/-- 'tuschetop.TopTabled', WHERE WHAT IT READS IS OF BULK AT MOST 1048576: true; the input reads as it did. -/
def topTabledUptoRow : OpenClaim := { program := "ytplbdongegfdnaa", sum := "a5a26d753bcda93d8467620cbd99df8a70162233d908c2258cc360afda48f963", func := "tusche/tuschetop.TopTabled", spec := "topTabled", unfollowed := true, recurses := true, apart := false, narrowed := true }
def TopTabledUptoSaid : Prop := topTabledUptoRow.holds Try.pinned (OpenSpec.upto topTabledSpec)

end Rows
end Go.Proofs.Ytplbdongegfdnaa
