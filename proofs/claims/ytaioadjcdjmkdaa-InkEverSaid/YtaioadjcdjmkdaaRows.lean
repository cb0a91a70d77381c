/-
  No cell of these rows narrows 'for every input' (looked for: loops, veiled, ifaces, maps, wideKeys, modest, calm, conditions, laid).
  DERIVED. THE GIVEN ROWS OF THIS SEAT. 12 by the template 'for every input the law returns true; each argument reads behind the call as it read before'; 0 by the template 'total and deterministic' (their statements: YtaioadjcdjmkdaaTotals.lean).
  GIVEN WITH THE SEED: the statements are not yours to turn. If you find one false, say at which input.
  Laid BY PROGRAM, IN A SANDBOX (cutbox-rows.mjs): the forced cells as the released guide's own fill.sh prints them over the translation 67ebbd8bfa222168… (all of the seat's roots in one cut). By AI agents, Wed Nov 11 2026. No macro, syntax, notation, axiom, sorry.
-/
import Derived.Test.YtaioadjcdjmkdaaChecked
import GoSem.Claim
import GoSem.ClaimJoined
import GoSem.ClaimMapViews
import Derived.JoinedTies
import Derived.KernelRfl
namespace Go.Proofs.Ytaioadjcdjmkdaa
/- THE CELL 'sum', in the pinned program and in every row, IS THE sha256 OF THE DUMP (.gsa) THAT YtaioadjcdjmkdaaProg.lean LOADS. Nothing in Lean hashes anything: it is a label: what it is worth is what the hold of that sum in a sandbox is worth. -/
noncomputable def Try.pinned : Pinned := { name := "ytaioadjcdjmkdaa", sum := "67ebbd8bfa2221687964d5c3003dd7c92c22a14864cd4d61c06eb670d66f83de", checked := Try.checked }
namespace Rows
def none {H : Type} : Left H := { results := [], args := [] }

/-- 'tuschelaw03.InkGives': WHATEVER THE INPUT: true; the input reads as it did. -/
def inkGivesSpec : ChangeSpec := { name := "inkGives", fn := fun _ => fun
  | [d1, d2, d3] => { results := [.lit (.bool true)], args := [d1, d2, d3] }
  | _ => none }
def inkGivesRow : OpenClaim := { program := "ytaioadjcdjmkdaa", sum := "67ebbd8bfa2221687964d5c3003dd7c92c22a14864cd4d61c06eb670d66f83de", func := "tusche/tuschelaw03.InkGives", spec := "inkGives", unfollowed := true, recurses := true, apart := false }
def InkGivesSaid : Prop := inkGivesRow.holds Try.pinned (OpenSpec.ofChange inkGivesSpec)

/-- ITS FALSE NEIGHBOUR: 'it returns false'. Refute it at one input. -/
def inkGivesWrong : ChangeSpec := { name := "inkGives", fn := fun _ => fun
  | [d1, d2, d3] => { results := [.lit (.bool false)], args := [d1, d2, d3] }
  | _ => none }
def InkGivesWrongFalsely : Prop := inkGivesRow.holds Try.pinned (OpenSpec.ofChange inkGivesWrong)

/-- 'tuschelaw03.InkChoices': WHATEVER THE INPUT: true; the input reads as it did. -/
def inkChoicesSpec : ChangeSpec := { name := "inkChoices", fn := fun _ => fun
  | [d1, d2, d3] => { results := [.lit (.bool true)], args := [d1, d2, d3] }
  | _ => none }
def inkChoicesRow : OpenClaim := { program := "ytaioadjcdjmkdaa", sum := "67ebbd8bfa2221687964d5c3003dd7c92c22a14864cd4d61c06eb670d66f83de", func := "tusche/tuschelaw03.InkChoices", spec := "inkChoices", unfollowed := true, recurses := true, apart := false }
def InkChoicesSaid : Prop := inkChoicesRow.holds Try.pinned (OpenSpec.ofChange inkChoicesSpec)

/-- ITS FALSE NEIGHBOUR: 'it returns false'. Refute it at one input. -/
def inkChoicesWrong : ChangeSpec := { name := "inkChoices", fn := fun _ => fun
  | [d1, d2, d3] => { results := [.lit (.bool false)], args := [d1, d2, d3] }
  | _ => none }
def InkChoicesWrongFalsely : Prop := inkChoicesRow.holds Try.pinned (OpenSpec.ofChange inkChoicesWrong)

/-- 'tuschelaw03.InkNever': WHATEVER THE INPUT: true; the input reads as it did. -/
def inkNeverSpec : ChangeSpec := { name := "inkNever", fn := fun _ => fun
  | [d1, d2, d3] => { results := [.lit (.bool true)], args := [d1, d2, d3] }
  | _ => none }
def inkNeverRow : OpenClaim := { program := "ytaioadjcdjmkdaa", sum := "67ebbd8bfa2221687964d5c3003dd7c92c22a14864cd4d61c06eb670d66f83de", func := "tusche/tuschelaw03.InkNever", spec := "inkNever", unfollowed := true, recurses := true, apart := false }
def InkNeverSaid : Prop := inkNeverRow.holds Try.pinned (OpenSpec.ofChange inkNeverSpec)

/-- ITS FALSE NEIGHBOUR: 'it returns false'. Refute it at one input. -/
def inkNeverWrong : ChangeSpec := { name := "inkNever", fn := fun _ => fun
  | [d1, d2, d3] => { results := [.lit (.bool false)], args := [d1, d2, d3] }
  | _ => none }
def InkNeverWrongFalsely : Prop := inkNeverRow.holds Try.pinned (OpenSpec.ofChange inkNeverWrong)

/-- 'tuschelaw03.InkSketches': WHATEVER THE INPUT: true; the input reads as it did. -/
def inkSketchesSpec : ChangeSpec := { name := "inkSketches", fn := fun _ => fun
  | [d1, d2, d3, d4] => { results := [.lit (.bool true)], args := [d1, d2, d3, d4] }
  | _ => none }
def inkSketchesRow : OpenClaim := { program := "ytaioadjcdjmkdaa", sum := "67ebbd8bfa2221687964d5c3003dd7c92c22a14864cd4d61c06eb670d66f83de", func := "tusche/tuschelaw03.InkSketches", spec := "inkSketches", unfollowed := true, recurses := true, apart := false }
def InkSketchesSaid : Prop := inkSketchesRow.holds Try.pinned (OpenSpec.ofChange inkSketchesSpec)

/-- ITS FALSE NEIGHBOUR: 'it returns false'. Refute it at one input. -/
def inkSketchesWrong : ChangeSpec := { name := "inkSketches", fn := fun _ => fun
  | [d1, d2, d3, d4] => { results := [.lit (.bool false)], args := [d1, d2, d3, d4] }
  | _ => none }
def InkSketchesWrongFalsely : Prop := inkSketchesRow.holds Try.pinned (OpenSpec.ofChange inkSketchesWrong)

/-- 'tuschelaw03.InkOrders': WHATEVER THE INPUT: true; the input reads as it did. -/
def inkOrdersSpec : ChangeSpec := { name := "inkOrders", fn := fun _ => fun
  | [d1, d2] => { results := [.lit (.bool true)], args := [d1, d2] }
  | _ => none }
def inkOrdersRow : OpenClaim := { program := "ytaioadjcdjmkdaa", sum := "67ebbd8bfa2221687964d5c3003dd7c92c22a14864cd4d61c06eb670d66f83de", func := "tusche/tuschelaw03.InkOrders", spec := "inkOrders", unfollowed := true, recurses := true, apart := false }
def InkOrdersSaid : Prop := inkOrdersRow.holds Try.pinned (OpenSpec.ofChange inkOrdersSpec)

/-- ITS FALSE NEIGHBOUR: 'it returns false'. Refute it at one input. -/
def inkOrdersWrong : ChangeSpec := { name := "inkOrders", fn := fun _ => fun
  | [d1, d2] => { results := [.lit (.bool false)], args := [d1, d2] }
  | _ => none }
def InkOrdersWrongFalsely : Prop := inkOrdersRow.holds Try.pinned (OpenSpec.ofChange inkOrdersWrong)

/-- 'tuschelaw03.InkChoice': WHATEVER THE INPUT: true; the input reads as it did. -/
def inkChoiceSpec : ChangeSpec := { name := "inkChoice", fn := fun _ => fun
  | [d1, d2, d3] => { results := [.lit (.bool true)], args := [d1, d2, d3] }
  | _ => none }
def inkChoiceRow : OpenClaim := { program := "ytaioadjcdjmkdaa", sum := "67ebbd8bfa2221687964d5c3003dd7c92c22a14864cd4d61c06eb670d66f83de", func := "tusche/tuschelaw03.InkChoice", spec := "inkChoice", unfollowed := true, recurses := true, apart := false }
def InkChoiceSaid : Prop := inkChoiceRow.holds Try.pinned (OpenSpec.ofChange inkChoiceSpec)

/-- ITS FALSE NEIGHBOUR: 'it returns false'. Refute it at one input. -/
def inkChoiceWrong : ChangeSpec := { name := "inkChoice", fn := fun _ => fun
  | [d1, d2, d3] => { results := [.lit (.bool false)], args := [d1, d2, d3] }
  | _ => none }
def InkChoiceWrongFalsely : Prop := inkChoiceRow.holds Try.pinned (OpenSpec.ofChange inkChoiceWrong)

/-- 'tuschelaw03.InkFewest': WHATEVER THE INPUT: true; the input reads as it did. -/
def inkFewestSpec : ChangeSpec := { name := "inkFewest", fn := fun _ => fun
  | [d1, d2] => { results := [.lit (.bool true)], args := [d1, d2] }
  | _ => none }
def inkFewestRow : OpenClaim := { program := "ytaioadjcdjmkdaa", sum := "67ebbd8bfa2221687964d5c3003dd7c92c22a14864cd4d61c06eb670d66f83de", func := "tusche/tuschelaw03.InkFewest", spec := "inkFewest", unfollowed := true, recurses := true, apart := false }
def InkFewestSaid : Prop := inkFewestRow.holds Try.pinned (OpenSpec.ofChange inkFewestSpec)

/-- ITS FALSE NEIGHBOUR: 'it returns false'. Refute it at one input. -/
def inkFewestWrong : ChangeSpec := { name := "inkFewest", fn := fun _ => fun
  | [d1, d2] => { results := [.lit (.bool false)], args := [d1, d2] }
  | _ => none }
def InkFewestWrongFalsely : Prop := inkFewestRow.holds Try.pinned (OpenSpec.ofChange inkFewestWrong)

/-- 'tuschelaw03.InkEver': WHATEVER THE INPUT: true; the input reads as it did. -/
def inkEverSpec : ChangeSpec := { name := "inkEver", fn := fun _ => fun
  | [d1, d2, d3] => { results := [.lit (.bool true)], args := [d1, d2, d3] }
  | _ => none }
def inkEverRow : OpenClaim := { program := "ytaioadjcdjmkdaa", sum := "67ebbd8bfa2221687964d5c3003dd7c92c22a14864cd4d61c06eb670d66f83de", func := "tusche/tuschelaw03.InkEver", spec := "inkEver", unfollowed := true, recurses := true, apart := false }
def InkEverSaid : Prop := inkEverRow.holds Try.pinned (OpenSpec.ofChange inkEverSpec)

/-- ITS FALSE NEIGHBOUR: 'it returns false'. Refute it at one input. -/
def inkEverWrong : ChangeSpec := { name := "inkEver", fn := fun _ => fun
  | [d1, d2, d3] => { results := [.lit (.bool false)], args := [d1, d2, d3] }
  | _ => none }
def InkEverWrongFalsely : Prop := inkEverRow.holds Try.pinned (OpenSpec.ofChange inkEverWrong)

/-- 'tuschelaw03.InkMore': WHATEVER THE INPUT: true; the input reads as it did. -/
def inkMoreSpec : ChangeSpec := { name := "inkMore", fn := fun _ => fun
  | [d1, d2, d3, d4, d5] => { results := [.lit (.bool true)], args := [d1, d2, d3, d4, d5] }
  | _ => none }
def inkMoreRow : OpenClaim := { program := "ytaioadjcdjmkdaa", sum := "67ebbd8bfa2221687964d5c3003dd7c92c22a14864cd4d61c06eb670d66f83de", func := "tusche/tuschelaw03.InkMore", spec := "inkMore", unfollowed := true, recurses := true, apart := false }
def InkMoreSaid : Prop := inkMoreRow.holds Try.pinned (OpenSpec.ofChange inkMoreSpec)

/-- ITS FALSE NEIGHBOUR: 'it returns false'. Refute it at one input. -/
def inkMoreWrong : ChangeSpec := { name := "inkMore", fn := fun _ => fun
  | [d1, d2, d3, d4, d5] => { results := [.lit (.bool false)], args := [d1, d2, d3, d4, d5] }
  | _ => none }
def InkMoreWrongFalsely : Prop := inkMoreRow.holds Try.pinned (OpenSpec.ofChange inkMoreWrong)

/-- 'tuschelaw03.InkOrder': WHATEVER THE INPUT: true; the input reads as it did. -/
def inkOrderSpec : ChangeSpec := { name := "inkOrder", fn := fun _ => fun
  | [d1, d2] => { results := [.lit (.bool true)], args := [d1, d2] }
  | _ => none }
def inkOrderRow : OpenClaim := { program := "ytaioadjcdjmkdaa", sum := "67ebbd8bfa2221687964d5c3003dd7c92c22a14864cd4d61c06eb670d66f83de", func := "tusche/tuschelaw03.InkOrder", spec := "inkOrder", unfollowed := true, recurses := true, apart := false }
def InkOrderSaid : Prop := inkOrderRow.holds Try.pinned (OpenSpec.ofChange inkOrderSpec)

/-- ITS FALSE NEIGHBOUR: 'it returns false'. Refute it at one input. -/
def inkOrderWrong : ChangeSpec := { name := "inkOrder", fn := fun _ => fun
  | [d1, d2] => { results := [.lit (.bool false)], args := [d1, d2] }
  | _ => none }
def InkOrderWrongFalsely : Prop := inkOrderRow.holds Try.pinned (OpenSpec.ofChange inkOrderWrong)

/-- 'tuschelaw03.InkRenamed': WHATEVER THE INPUT: true; the input reads as it did. -/
def inkRenamedSpec : ChangeSpec := { name := "inkRenamed", fn := fun _ => fun
  | [d1, d2, d3, d4] => { results := [.lit (.bool true)], args := [d1, d2, d3, d4] }
  | _ => none }
def inkRenamedRow : OpenClaim := { program := "ytaioadjcdjmkdaa", sum := "67ebbd8bfa2221687964d5c3003dd7c92c22a14864cd4d61c06eb670d66f83de", func := "tusche/tuschelaw03.InkRenamed", spec := "inkRenamed", unfollowed := true, recurses := true, apart := false }
def InkRenamedSaid : Prop := inkRenamedRow.holds Try.pinned (OpenSpec.ofChange inkRenamedSpec)

/-- ITS FALSE NEIGHBOUR: 'it returns false'. Refute it at one input. -/
def inkRenamedWrong : ChangeSpec := { name := "inkRenamed", fn := fun _ => fun
  | [d1, d2, d3, d4] => { results := [.lit (.bool false)], args := [d1, d2, d3, d4] }
  | _ => none }
def InkRenamedWrongFalsely : Prop := inkRenamedRow.holds Try.pinned (OpenSpec.ofChange inkRenamedWrong)

/-- 'tuschelaw03.InkKnown': WHATEVER THE INPUT: true; the input reads as it did. -/
def inkKnownSpec : ChangeSpec := { name := "inkKnown", fn := fun _ => fun
  | [] => { results := [.lit (.bool true)], args := [] }
  | _ => none }
def inkKnownRow : OpenClaim := { program := "ytaioadjcdjmkdaa", sum := "67ebbd8bfa2221687964d5c3003dd7c92c22a14864cd4d61c06eb670d66f83de", func := "tusche/tuschelaw03.InkKnown", spec := "inkKnown", unfollowed := true, recurses := true, apart := false }
def InkKnownSaid : Prop := inkKnownRow.holds Try.pinned (OpenSpec.ofChange inkKnownSpec)

/-- ITS FALSE NEIGHBOUR: 'it returns false'. Refute it at one input. -/
def inkKnownWrong : ChangeSpec := { name := "inkKnown", fn := fun _ => fun
  | [] => { results := [.lit (.bool false)], args := [] }
  | _ => none }
def InkKnownWrongFalsely : Prop := inkKnownRow.holds Try.pinned (OpenSpec.ofChange inkKnownWrong)

/- THE SECOND FORM. 'bulk': how many values and letters a reading holds, each counted each time it is reached (what is shared counts as often as it is met; a slice's spare places count too). A statement '..UptoSaid' is the law's where the arguments, and the package variables that the reading takes, are together of bulk at most 1048576: NARROWER than '..Said'. Prove '..Said' where nothing that the law and all that it calls make is longer than what came in: it says more and counts as full. Else prove '..UptoSaid'. A law counts once. -/
mutual
def uptoBulk {H : Type} : DataW H → Nat
  | .lit (.string bytes) => bytes.length + 1
  | .lit _ => 1
  | .nil => 1
  | .ptr d => uptoBulk d + 1
  | .slice elems spare => uptoBulkAll elems + uptoBulkAll spare + 1
  | .agg parts => uptoBulkAll parts + 1
  | .iface _ d => uptoBulk d + 1
  | .map entries => uptoBulkEntries entries + 1
  | .held _ => 1
def uptoBulkAll {H : Type} : List (DataW H) → Nat
  | [] => 0
  | d :: r => uptoBulk d + uptoBulkAll r
def uptoBulkEntries {H : Type} : List (Lit × DataW H) → Nat
  | [] => 0
  | x :: r => uptoBulkEntry x + uptoBulkEntries r
def uptoBulkEntry {H : Type} : Lit × DataW H → Nat
  | (.string bytes, d) => bytes.length + uptoBulk d + 1
  | (_, d) => uptoBulk d + 1
 end
def uptoSmall : (H : Type) → List (DataW H) → Bool := fun _ ds => decide (uptoBulkAll ds ≤ 1048576)
def OpenSpec.upto (s : _root_.Go.ChangeSpec) : _root_.Go.OpenSpec := { _root_.Go.OpenSpec.ofChange s with cond := some uptoSmall }

/-- 'tuschelaw03.InkGives', WHERE WHAT IT READS IS OF BULK AT MOST 1048576: true; the input reads as it did. -/
def inkGivesUptoRow : OpenClaim := { program := "ytaioadjcdjmkdaa", sum := "67ebbd8bfa2221687964d5c3003dd7c92c22a14864cd4d61c06eb670d66f83de", func := "tusche/tuschelaw03.InkGives", spec := "inkGives", unfollowed := true, recurses := true, apart := false, narrowed := true }
def InkGivesUptoSaid : Prop := inkGivesUptoRow.holds Try.pinned (OpenSpec.upto inkGivesSpec)

/-- 'tuschelaw03.InkChoices', WHERE WHAT IT READS IS OF BULK AT MOST 1048576: true; the input reads as it did. -/
def inkChoicesUptoRow : OpenClaim := { program := "ytaioadjcdjmkdaa", sum := "67ebbd8bfa2221687964d5c3003dd7c92c22a14864cd4d61c06eb670d66f83de", func := "tusche/tuschelaw03.InkChoices", spec := "inkChoices", unfollowed := true, recurses := true, apart := false, narrowed := true }
def InkChoicesUptoSaid : Prop := inkChoicesUptoRow.holds Try.pinned (OpenSpec.upto inkChoicesSpec)

/-- 'tuschelaw03.InkNever', WHERE WHAT IT READS IS OF BULK AT MOST 1048576: true; the input reads as it did. -/
def inkNeverUptoRow : OpenClaim := { program := "ytaioadjcdjmkdaa", sum := "67ebbd8bfa2221687964d5c3003dd7c92c22a14864cd4d61c06eb670d66f83de", func := "tusche/tuschelaw03.InkNever", spec := "inkNever", unfollowed := true, recurses := true, apart := false, narrowed := true }
def InkNeverUptoSaid : Prop := inkNeverUptoRow.holds Try.pinned (OpenSpec.upto inkNeverSpec)

/-- 'tuschelaw03.InkSketches', WHERE WHAT IT READS IS OF BULK AT MOST 1048576: true; the input reads as it did. -/
def inkSketchesUptoRow : OpenClaim := { program := "ytaioadjcdjmkdaa", sum := "67ebbd8bfa2221687964d5c3003dd7c92c22a14864cd4d61c06eb670d66f83de", func := "tusche/tuschelaw03.InkSketches", spec := "inkSketches", unfollowed := true, recurses := true, apart := false, narrowed := true }
def InkSketchesUptoSaid : Prop := inkSketchesUptoRow.holds Try.pinned (OpenSpec.upto inkSketchesSpec)

/-- 'tuschelaw03.InkOrders', WHERE WHAT IT READS IS OF BULK AT MOST 1048576: true; the input reads as it did. -/
def inkOrdersUptoRow : OpenClaim := { program := "ytaioadjcdjmkdaa", sum := "67ebbd8bfa2221687964d5c3003dd7c92c22a14864cd4d61c06eb670d66f83de", func := "tusche/tuschelaw03.InkOrders", spec := "inkOrders", unfollowed := true, recurses := true, apart := false, narrowed := true }
def InkOrdersUptoSaid : Prop := inkOrdersUptoRow.holds Try.pinned (OpenSpec.upto inkOrdersSpec)

/-- 'tuschelaw03.InkChoice', WHERE WHAT IT READS IS OF BULK AT MOST 1048576: true; the input reads as it did. -/
def inkChoiceUptoRow : OpenClaim := { program := "ytaioadjcdjmkdaa", sum := "67ebbd8bfa2221687964d5c3003dd7c92c22a14864cd4d61c06eb670d66f83de", func := "tusche/tuschelaw03.InkChoice", spec := "inkChoice", unfollowed := true, recurses := true, apart := false, narrowed := true }
def InkChoiceUptoSaid : Prop := inkChoiceUptoRow.holds Try.pinned (OpenSpec.upto inkChoiceSpec)

/-- 'tuschelaw03.InkFewest', WHERE WHAT IT READS IS OF BULK AT MOST 1048576: true; the input reads as it did. -/
def inkFewestUptoRow : OpenClaim := { program := "ytaioadjcdjmkdaa", sum := "67ebbd8bfa2221687964d5c3003dd7c92c22a14864cd4d61c06eb670d66f83de", func := "tusche/tuschelaw03.InkFewest", spec := "inkFewest", unfollowed := true, recurses := true, apart := false, narrowed := true }
def InkFewestUptoSaid : Prop := inkFewestUptoRow.holds Try.pinned (OpenSpec.upto inkFewestSpec)

/-- 'tuschelaw03.InkEver', WHERE WHAT IT READS IS OF BULK AT MOST 1048576: true; the input reads as it did. -/
def inkEverUptoRow : OpenClaim := { program := "ytaioadjcdjmkdaa", sum := "67ebbd8bfa2221687964d5c3003dd7c92c22a14864cd4d61c06eb670d66f83de", func := "tusche/tuschelaw03.InkEver", spec := "inkEver", unfollowed := true, recurses := true, apart := false, narrowed := true }
def InkEverUptoSaid : Prop := inkEverUptoRow.holds Try.pinned (OpenSpec.upto inkEverSpec)

/-- 'tuschelaw03.InkMore', WHERE WHAT IT READS IS OF BULK AT MOST 1048576: true; the input reads as it did. -/
def inkMoreUptoRow : OpenClaim := { program := "ytaioadjcdjmkdaa", sum := "67ebbd8bfa2221687964d5c3003dd7c92c22a14864cd4d61c06eb670d66f83de", func := "tusche/tuschelaw03.InkMore", spec := "inkMore", unfollowed := true, recurses := true, apart := false, narrowed := true }
def InkMoreUptoSaid : Prop := inkMoreUptoRow.holds Try.pinned (OpenSpec.upto inkMoreSpec)

/-- 'tuschelaw03.InkOrder', WHERE WHAT IT READS IS OF BULK AT MOST 1048576: true; the input reads as it did. -/
def inkOrderUptoRow : OpenClaim := { program := "ytaioadjcdjmkdaa", sum := "67ebbd8bfa2221687964d5c3003dd7c92c22a14864cd4d61c06eb670d66f83de", func := "tusche/tuschelaw03.InkOrder", spec := "inkOrder", unfollowed := true, recurses := true, apart := false, narrowed := true }
def InkOrderUptoSaid : Prop := inkOrderUptoRow.holds Try.pinned (OpenSpec.upto inkOrderSpec)

/-- 'tuschelaw03.InkRenamed', WHERE WHAT IT READS IS OF BULK AT MOST 1048576: true; the input reads as it did. -/
def inkRenamedUptoRow : OpenClaim := { program := "ytaioadjcdjmkdaa", sum := "67ebbd8bfa2221687964d5c3003dd7c92c22a14864cd4d61c06eb670d66f83de", func := "tusche/tuschelaw03.InkRenamed", spec := "inkRenamed", unfollowed := true, recurses := true, apart := false, narrowed := true }
def InkRenamedUptoSaid : Prop := inkRenamedUptoRow.holds Try.pinned (OpenSpec.upto inkRenamedSpec)

/-- 'tuschelaw03.InkKnown', WHERE WHAT IT READS IS OF BULK AT MOST 1048576: true; the input reads as it did. -/
def inkKnownUptoRow : OpenClaim := { program := "ytaioadjcdjmkdaa", sum := "67ebbd8bfa2221687964d5c3003dd7c92c22a14864cd4d61c06eb670d66f83de", func := "tusche/tuschelaw03.InkKnown", spec := "inkKnown", unfollowed := true, recurses := true, apart := false, narrowed := true }
def InkKnownUptoSaid : Prop := inkKnownUptoRow.holds Try.pinned (OpenSpec.upto inkKnownSpec)

end Rows
end Go.Proofs.Ytaioadjcdjmkdaa
