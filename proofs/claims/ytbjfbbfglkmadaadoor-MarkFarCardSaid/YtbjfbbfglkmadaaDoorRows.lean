/-
  NARROWER THAN 'FOR EVERY INPUT', by the rows' own cells (each row's printed sentence says how): MarkMakes: laid · MarkGuilty: laid · MarkFrames: laid · MarkDoubts: laid · MarkConvicts: laid · MarkLean: laid · MarkFramed: laid · MarkFar: laid · MarkCopies: laid · MarkRenamed: laid · MarkKnown: laid.
  DERIVED. THE GIVEN ROWS OF THIS SEAT. 11 by the template 'for every input the law returns true; each argument reads behind the call as it read before'; 0 by the template 'total and deterministic' (their statements: YtbjfbbfglkmadaaDoorTotals.lean).
  GIVEN WITH THE SEED: the statements are not yours to turn. If you find one false, say at which input.
  Laid BY PROGRAM, IN A SANDBOX (cutbox-rows.mjs): the forced cells as the released guide's own fill.sh prints them over the translation cbdda7fd4d3e0b96… (all of the seat's roots in one cut). By AI agents, Wed Nov 11 2026. No macro, syntax, notation, axiom, sorry.
-/
import Derived.Test.YtbjfbbfglkmadaaDoorChecked
import GoSem.Claim
import GoSem.ClaimJoined
import GoSem.ClaimMapViews
import Derived.JoinedTies
import Derived.KernelRfl
namespace Go.Proofs.YtbjfbbfglkmadaaDoor
/- THE CELL 'sum', in the pinned program and in every row, IS THE sha256 OF THE DUMP (.gsa) THAT YtbjfbbfglkmadaaDoorProg.lean LOADS. Nothing in Lean hashes anything: it is a label: what it is worth is what the hold of that sum in a sandbox is worth. -/
noncomputable def Tryd.pinned : Pinned := { name := "ytbjfbbfglkmadaadoor", sum := "cbdda7fd4d3e0b96df6e43749f76c8798bd8d39f5b3d5c616d7045efc9c1fb2b", checked := Tryd.checked }
namespace Rows
def none {H : Type} : Left H := { results := [], args := [] }

/- WHAT THE LISTED PACKAGE-LEVEL VARIABLES READ AS WHEN THE CALL BEGINS. Each datum BY PROGRAM (the guide's laid-datum.mjs) off the statement by which the dump's own 'gosem.cut.vars' lays the variable. In a bare row this is a premise. The card (YtbjfbbfglkmadaaDoorCards.lean) ties it to the program's text. -/
def laid_tusche_mark_count {H : Type} : DataW H := .slice [.lit (.int .i64 0), .lit (.int .i64 1), .lit (.int .i64 1), .lit (.int .i64 2), .lit (.int .i64 1), .lit (.int .i64 2), .lit (.int .i64 2), .lit (.int .i64 3), .lit (.int .i64 1), .lit (.int .i64 2), .lit (.int .i64 2), .lit (.int .i64 3), .lit (.int .i64 2), .lit (.int .i64 3), .lit (.int .i64 3), .lit (.int .i64 4)] []

/-- 'tuschelaw09.MarkMakes': WHATEVER THE INPUT: true; the input reads as it did. -/
def markMakesSpec : ChangeSpec := { name := "markMakes", fn := fun _ => fun
  | [d1, d2, d3] => { results := [.lit (.bool true)], args := [d1, d2, d3] }
  | _ => none }
def markMakesRow : OpenClaim := { program := "ytbjfbbfglkmadaadoor", sum := "cbdda7fd4d3e0b96df6e43749f76c8798bd8d39f5b3d5c616d7045efc9c1fb2b", func := "tusche/tuschelaw09.MarkMakes", spec := "markMakes", unfollowed := true, recurses := true, named := ["tusche/mark.count"], apart := false, laid := [("tusche/mark.count", laid_tusche_mark_count)] }
def MarkMakesSaid : Prop := markMakesRow.holds Tryd.pinned (OpenSpec.ofChange markMakesSpec)

/-- ITS FALSE NEIGHBOUR: 'it returns false'. Refute it at one input. -/
def markMakesWrong : ChangeSpec := { name := "markMakes", fn := fun _ => fun
  | [d1, d2, d3] => { results := [.lit (.bool false)], args := [d1, d2, d3] }
  | _ => none }
def MarkMakesWrongFalsely : Prop := markMakesRow.holds Tryd.pinned (OpenSpec.ofChange markMakesWrong)

/-- 'tuschelaw09.MarkGuilty': WHATEVER THE INPUT: true; the input reads as it did. -/
def markGuiltySpec : ChangeSpec := { name := "markGuilty", fn := fun _ => fun
  | [d1, d2, d3] => { results := [.lit (.bool true)], args := [d1, d2, d3] }
  | _ => none }
def markGuiltyRow : OpenClaim := { program := "ytbjfbbfglkmadaadoor", sum := "cbdda7fd4d3e0b96df6e43749f76c8798bd8d39f5b3d5c616d7045efc9c1fb2b", func := "tusche/tuschelaw09.MarkGuilty", spec := "markGuilty", unfollowed := true, recurses := true, named := ["tusche/mark.count"], apart := false, laid := [("tusche/mark.count", laid_tusche_mark_count)] }
def MarkGuiltySaid : Prop := markGuiltyRow.holds Tryd.pinned (OpenSpec.ofChange markGuiltySpec)

/-- ITS FALSE NEIGHBOUR: 'it returns false'. Refute it at one input. -/
def markGuiltyWrong : ChangeSpec := { name := "markGuilty", fn := fun _ => fun
  | [d1, d2, d3] => { results := [.lit (.bool false)], args := [d1, d2, d3] }
  | _ => none }
def MarkGuiltyWrongFalsely : Prop := markGuiltyRow.holds Tryd.pinned (OpenSpec.ofChange markGuiltyWrong)

/-- 'tuschelaw09.MarkFrames': WHATEVER THE INPUT: true; the input reads as it did. -/
def markFramesSpec : ChangeSpec := { name := "markFrames", fn := fun _ => fun
  | [d1, d2] => { results := [.lit (.bool true)], args := [d1, d2] }
  | _ => none }
def markFramesRow : OpenClaim := { program := "ytbjfbbfglkmadaadoor", sum := "cbdda7fd4d3e0b96df6e43749f76c8798bd8d39f5b3d5c616d7045efc9c1fb2b", func := "tusche/tuschelaw09.MarkFrames", spec := "markFrames", unfollowed := true, recurses := true, named := ["tusche/mark.count"], apart := false, laid := [("tusche/mark.count", laid_tusche_mark_count)] }
def MarkFramesSaid : Prop := markFramesRow.holds Tryd.pinned (OpenSpec.ofChange markFramesSpec)

/-- ITS FALSE NEIGHBOUR: 'it returns false'. Refute it at one input. -/
def markFramesWrong : ChangeSpec := { name := "markFrames", fn := fun _ => fun
  | [d1, d2] => { results := [.lit (.bool false)], args := [d1, d2] }
  | _ => none }
def MarkFramesWrongFalsely : Prop := markFramesRow.holds Tryd.pinned (OpenSpec.ofChange markFramesWrong)

/-- 'tuschelaw09.MarkDoubts': WHATEVER THE INPUT: true; the input reads as it did. -/
def markDoubtsSpec : ChangeSpec := { name := "markDoubts", fn := fun _ => fun
  | [d1, d2] => { results := [.lit (.bool true)], args := [d1, d2] }
  | _ => none }
def markDoubtsRow : OpenClaim := { program := "ytbjfbbfglkmadaadoor", sum := "cbdda7fd4d3e0b96df6e43749f76c8798bd8d39f5b3d5c616d7045efc9c1fb2b", func := "tusche/tuschelaw09.MarkDoubts", spec := "markDoubts", unfollowed := true, recurses := true, named := ["tusche/mark.count"], apart := false, laid := [("tusche/mark.count", laid_tusche_mark_count)] }
def MarkDoubtsSaid : Prop := markDoubtsRow.holds Tryd.pinned (OpenSpec.ofChange markDoubtsSpec)

/-- ITS FALSE NEIGHBOUR: 'it returns false'. Refute it at one input. -/
def markDoubtsWrong : ChangeSpec := { name := "markDoubts", fn := fun _ => fun
  | [d1, d2] => { results := [.lit (.bool false)], args := [d1, d2] }
  | _ => none }
def MarkDoubtsWrongFalsely : Prop := markDoubtsRow.holds Tryd.pinned (OpenSpec.ofChange markDoubtsWrong)

/-- 'tuschelaw09.MarkConvicts': WHATEVER THE INPUT: true; the input reads as it did. -/
def markConvictsSpec : ChangeSpec := { name := "markConvicts", fn := fun _ => fun
  | [d] => { results := [.lit (.bool true)], args := [d] }
  | _ => none }
def markConvictsRow : OpenClaim := { program := "ytbjfbbfglkmadaadoor", sum := "cbdda7fd4d3e0b96df6e43749f76c8798bd8d39f5b3d5c616d7045efc9c1fb2b", func := "tusche/tuschelaw09.MarkConvicts", spec := "markConvicts", unfollowed := true, recurses := true, named := ["tusche/mark.count"], apart := false, laid := [("tusche/mark.count", laid_tusche_mark_count)] }
def MarkConvictsSaid : Prop := markConvictsRow.holds Tryd.pinned (OpenSpec.ofChange markConvictsSpec)

/-- ITS FALSE NEIGHBOUR: 'it returns false'. Refute it at one input. -/
def markConvictsWrong : ChangeSpec := { name := "markConvicts", fn := fun _ => fun
  | [d] => { results := [.lit (.bool false)], args := [d] }
  | _ => none }
def MarkConvictsWrongFalsely : Prop := markConvictsRow.holds Tryd.pinned (OpenSpec.ofChange markConvictsWrong)

/-- 'tuschelaw09.MarkLean': WHATEVER THE INPUT: true; the input reads as it did. -/
def markLeanSpec : ChangeSpec := { name := "markLean", fn := fun _ => fun
  | [d1, d2, d3] => { results := [.lit (.bool true)], args := [d1, d2, d3] }
  | _ => none }
def markLeanRow : OpenClaim := { program := "ytbjfbbfglkmadaadoor", sum := "cbdda7fd4d3e0b96df6e43749f76c8798bd8d39f5b3d5c616d7045efc9c1fb2b", func := "tusche/tuschelaw09.MarkLean", spec := "markLean", unfollowed := true, recurses := true, named := ["tusche/mark.count"], apart := false, laid := [("tusche/mark.count", laid_tusche_mark_count)] }
def MarkLeanSaid : Prop := markLeanRow.holds Tryd.pinned (OpenSpec.ofChange markLeanSpec)

/-- ITS FALSE NEIGHBOUR: 'it returns false'. Refute it at one input. -/
def markLeanWrong : ChangeSpec := { name := "markLean", fn := fun _ => fun
  | [d1, d2, d3] => { results := [.lit (.bool false)], args := [d1, d2, d3] }
  | _ => none }
def MarkLeanWrongFalsely : Prop := markLeanRow.holds Tryd.pinned (OpenSpec.ofChange markLeanWrong)

/-- 'tuschelaw09.MarkFramed': WHATEVER THE INPUT: true; the input reads as it did. -/
def markFramedSpec : ChangeSpec := { name := "markFramed", fn := fun _ => fun
  | [d1, d2] => { results := [.lit (.bool true)], args := [d1, d2] }
  | _ => none }
def markFramedRow : OpenClaim := { program := "ytbjfbbfglkmadaadoor", sum := "cbdda7fd4d3e0b96df6e43749f76c8798bd8d39f5b3d5c616d7045efc9c1fb2b", func := "tusche/tuschelaw09.MarkFramed", spec := "markFramed", unfollowed := true, recurses := true, named := ["tusche/mark.count"], apart := false, laid := [("tusche/mark.count", laid_tusche_mark_count)] }
def MarkFramedSaid : Prop := markFramedRow.holds Tryd.pinned (OpenSpec.ofChange markFramedSpec)

/-- ITS FALSE NEIGHBOUR: 'it returns false'. Refute it at one input. -/
def markFramedWrong : ChangeSpec := { name := "markFramed", fn := fun _ => fun
  | [d1, d2] => { results := [.lit (.bool false)], args := [d1, d2] }
  | _ => none }
def MarkFramedWrongFalsely : Prop := markFramedRow.holds Tryd.pinned (OpenSpec.ofChange markFramedWrong)

/-- 'tuschelaw09.MarkFar': WHATEVER THE INPUT: true; the input reads as it did. -/
def markFarSpec : ChangeSpec := { name := "markFar", fn := fun _ => fun
  | [d1, d2, d3, d4] => { results := [.lit (.bool true)], args := [d1, d2, d3, d4] }
  | _ => none }
def markFarRow : OpenClaim := { program := "ytbjfbbfglkmadaadoor", sum := "cbdda7fd4d3e0b96df6e43749f76c8798bd8d39f5b3d5c616d7045efc9c1fb2b", func := "tusche/tuschelaw09.MarkFar", spec := "markFar", unfollowed := true, recurses := true, named := ["tusche/mark.count"], apart := false, laid := [("tusche/mark.count", laid_tusche_mark_count)] }
def MarkFarSaid : Prop := markFarRow.holds Tryd.pinned (OpenSpec.ofChange markFarSpec)

/-- ITS FALSE NEIGHBOUR: 'it returns false'. Refute it at one input. -/
def markFarWrong : ChangeSpec := { name := "markFar", fn := fun _ => fun
  | [d1, d2, d3, d4] => { results := [.lit (.bool false)], args := [d1, d2, d3, d4] }
  | _ => none }
def MarkFarWrongFalsely : Prop := markFarRow.holds Tryd.pinned (OpenSpec.ofChange markFarWrong)

/-- 'tuschelaw09.MarkCopies': WHATEVER THE INPUT: true; the input reads as it did. -/
def markCopiesSpec : ChangeSpec := { name := "markCopies", fn := fun _ => fun
  | [d1, d2, d3, d4, d5] => { results := [.lit (.bool true)], args := [d1, d2, d3, d4, d5] }
  | _ => none }
def markCopiesRow : OpenClaim := { program := "ytbjfbbfglkmadaadoor", sum := "cbdda7fd4d3e0b96df6e43749f76c8798bd8d39f5b3d5c616d7045efc9c1fb2b", func := "tusche/tuschelaw09.MarkCopies", spec := "markCopies", unfollowed := true, recurses := true, named := ["tusche/mark.count"], apart := false, laid := [("tusche/mark.count", laid_tusche_mark_count)] }
def MarkCopiesSaid : Prop := markCopiesRow.holds Tryd.pinned (OpenSpec.ofChange markCopiesSpec)

/-- ITS FALSE NEIGHBOUR: 'it returns false'. Refute it at one input. -/
def markCopiesWrong : ChangeSpec := { name := "markCopies", fn := fun _ => fun
  | [d1, d2, d3, d4, d5] => { results := [.lit (.bool false)], args := [d1, d2, d3, d4, d5] }
  | _ => none }
def MarkCopiesWrongFalsely : Prop := markCopiesRow.holds Tryd.pinned (OpenSpec.ofChange markCopiesWrong)

/-- 'tuschelaw09.MarkRenamed': WHATEVER THE INPUT: true; the input reads as it did. -/
def markRenamedSpec : ChangeSpec := { name := "markRenamed", fn := fun _ => fun
  | [d1, d2, d3, d4] => { results := [.lit (.bool true)], args := [d1, d2, d3, d4] }
  | _ => none }
def markRenamedRow : OpenClaim := { program := "ytbjfbbfglkmadaadoor", sum := "cbdda7fd4d3e0b96df6e43749f76c8798bd8d39f5b3d5c616d7045efc9c1fb2b", func := "tusche/tuschelaw09.MarkRenamed", spec := "markRenamed", unfollowed := true, recurses := true, named := ["tusche/mark.count"], apart := false, laid := [("tusche/mark.count", laid_tusche_mark_count)] }
def MarkRenamedSaid : Prop := markRenamedRow.holds Tryd.pinned (OpenSpec.ofChange markRenamedSpec)

/-- ITS FALSE NEIGHBOUR: 'it returns false'. Refute it at one input. -/
def markRenamedWrong : ChangeSpec := { name := "markRenamed", fn := fun _ => fun
  | [d1, d2, d3, d4] => { results := [.lit (.bool false)], args := [d1, d2, d3, d4] }
  | _ => none }
def MarkRenamedWrongFalsely : Prop := markRenamedRow.holds Tryd.pinned (OpenSpec.ofChange markRenamedWrong)

/-- 'tuschelaw09.MarkKnown': WHATEVER THE INPUT: true; the input reads as it did. -/
def markKnownSpec : ChangeSpec := { name := "markKnown", fn := fun _ => fun
  | [] => { results := [.lit (.bool true)], args := [] }
  | _ => none }
def markKnownRow : OpenClaim := { program := "ytbjfbbfglkmadaadoor", sum := "cbdda7fd4d3e0b96df6e43749f76c8798bd8d39f5b3d5c616d7045efc9c1fb2b", func := "tusche/tuschelaw09.MarkKnown", spec := "markKnown", unfollowed := true, recurses := true, named := ["tusche/mark.count"], apart := false, laid := [("tusche/mark.count", laid_tusche_mark_count)] }
def MarkKnownSaid : Prop := markKnownRow.holds Tryd.pinned (OpenSpec.ofChange markKnownSpec)

/-- ITS FALSE NEIGHBOUR: 'it returns false'. Refute it at one input. -/
def markKnownWrong : ChangeSpec := { name := "markKnown", fn := fun _ => fun
  | [] => { results := [.lit (.bool false)], args := [] }
  | _ => none }
def MarkKnownWrongFalsely : Prop := markKnownRow.holds Tryd.pinned (OpenSpec.ofChange markKnownWrong)

/- THE SECOND FORM. 'bulk': how many values and letters a reading holds, each counted each time it is reached (what is shared counts as often as it is met; a slice's spare places count too). A statement '..UptoSaid' is the law's where the arguments, and the package variables that the reading takes, are together of bulk at most 1048576: NARROWER than '..Said'. Prove '..Said' where nothing that the law and all that it calls make is longer than what came in: it says more and counts as full. Else prove '..UptoSaid'. A law counts once. -/
mutual
def uptoBulk {H : Type} : DataW H → Nat
  | .lit (.string bytes) => bytes.length + 1
  | .lit _ => 1
  | .nil => 1
  | .ptr d => uptoBulk d + 1
  | .slice elems spare => uptoBulkAll elems + uptoBulkAll spare + 1
  | .agg parts => uptoBulkAll parts + 1
  | .iface _ d => uptoBulk d + 1
  | .map entries => uptoBulkEntries entries + 1
  | .held _ => 1
def uptoBulkAll {H : Type} : List (DataW H) → Nat
  | [] => 0
  | d :: r => uptoBulk d + uptoBulkAll r
def uptoBulkEntries {H : Type} : List (Lit × DataW H) → Nat
  | [] => 0
  | x :: r => uptoBulkEntry x + uptoBulkEntries r
def uptoBulkEntry {H : Type} : Lit × DataW H → Nat
  | (.string bytes, d) => bytes.length + uptoBulk d + 1
  | (_, d) => uptoBulk d + 1
 end
def uptoSmall : (H : Type) → List (DataW H) → Bool := fun _ ds => decide (uptoBulkAll ds ≤ 1048576)
def OpenSpec.upto (s : _root_.Go.ChangeSpec) : _root_.Go.OpenSpec := { _root_.Go.OpenSpec.ofChange s with cond := some uptoSmall }

/-- 'tuschelaw09.MarkMakes', WHERE WHAT IT READS IS OF BULK AT MOST 1048576: true; the input reads as it did. -/
def markMakesUptoRow : OpenClaim := { program := "ytbjfbbfglkmadaadoor", sum := "cbdda7fd4d3e0b96df6e43749f76c8798bd8d39f5b3d5c616d7045efc9c1fb2b", func := "tusche/tuschelaw09.MarkMakes", spec := "markMakes", unfollowed := true, recurses := true, named := ["tusche/mark.count"], apart := false, laid := [("tusche/mark.count", laid_tusche_mark_count)], narrowed := true }
def MarkMakesUptoSaid : Prop := markMakesUptoRow.holds Tryd.pinned (OpenSpec.upto markMakesSpec)

/-- 'tuschelaw09.MarkGuilty', WHERE WHAT IT READS IS OF BULK AT MOST 1048576: true; the input reads as it did. -/
def markGuiltyUptoRow : OpenClaim := { program := "ytbjfbbfglkmadaadoor", sum := "cbdda7fd4d3e0b96df6e43749f76c8798bd8d39f5b3d5c616d7045efc9c1fb2b", func := "tusche/tuschelaw09.MarkGuilty", spec := "markGuilty", unfollowed := true, recurses := true, named := ["tusche/mark.count"], apart := false, laid := [("tusche/mark.count", laid_tusche_mark_count)], narrowed := true }
def MarkGuiltyUptoSaid : Prop := markGuiltyUptoRow.holds Tryd.pinned (OpenSpec.upto markGuiltySpec)

/-- 'tuschelaw09.MarkFrames', WHERE WHAT IT READS IS OF BULK AT MOST 1048576: true; the input reads as it did. -/
def markFramesUptoRow : OpenClaim := { program := "ytbjfbbfglkmadaadoor", sum := "cbdda7fd4d3e0b96df6e43749f76c8798bd8d39f5b3d5c616d7045efc9c1fb2b", func := "tusche/tuschelaw09.MarkFrames", spec := "markFrames", unfollowed := true, recurses := true, named := ["tusche/mark.count"], apart := false, laid := [("tusche/mark.count", laid_tusche_mark_count)], narrowed := true }
def MarkFramesUptoSaid : Prop := markFramesUptoRow.holds Tryd.pinned (OpenSpec.upto markFramesSpec)

/-- 'tuschelaw09.MarkDoubts', WHERE WHAT IT READS IS OF BULK AT MOST 1048576: true; the input reads as it did. -/
def markDoubtsUptoRow : OpenClaim := { program := "ytbjfbbfglkmadaadoor", sum := "cbdda7fd4d3e0b96df6e43749f76c8798bd8d39f5b3d5c616d7045efc9c1fb2b", func := "tusche/tuschelaw09.MarkDoubts", spec := "markDoubts", unfollowed := true, recurses := true, named := ["tusche/mark.count"], apart := false, laid := [("tusche/mark.count", laid_tusche_mark_count)], narrowed := true }
def MarkDoubtsUptoSaid : Prop := markDoubtsUptoRow.holds Tryd.pinned (OpenSpec.upto markDoubtsSpec)

/-- 'tuschelaw09.MarkConvicts', WHERE WHAT IT READS IS OF BULK AT MOST 1048576: true; the input reads as it did. -/
def markConvictsUptoRow : OpenClaim := { program := "ytbjfbbfglkmadaadoor", sum := "cbdda7fd4d3e0b96df6e43749f76c8798bd8d39f5b3d5c616d7045efc9c1fb2b", func := "tusche/tuschelaw09.MarkConvicts", spec := "markConvicts", unfollowed := true, recurses := true, named := ["tusche/mark.count"], apart := false, laid := [("tusche/mark.count", laid_tusche_mark_count)], narrowed := true }
def MarkConvictsUptoSaid : Prop := markConvictsUptoRow.holds Tryd.pinned (OpenSpec.upto markConvictsSpec)

/-- 'tuschelaw09.MarkLean', WHERE WHAT IT READS IS OF BULK AT MOST 1048576: true; the input reads as it did. -/
def markLeanUptoRow : OpenClaim := { program := "ytbjfbbfglkmadaadoor", sum := "cbdda7fd4d3e0b96df6e43749f76c8798bd8d39f5b3d5c616d7045efc9c1fb2b", func := "tusche/tuschelaw09.MarkLean", spec := "markLean", unfollowed := true, recurses := true, named := ["tusche/mark.count"], apart := false, laid := [("tusche/mark.count", laid_tusche_mark_count)], narrowed := true }
def MarkLeanUptoSaid : Prop := markLeanUptoRow.holds Tryd.pinned (OpenSpec.upto markLeanSpec)

/-- 'tuschelaw09.MarkFramed', WHERE WHAT IT READS IS OF BULK AT MOST 1048576: true; the input reads as it did. -/
def markFramedUptoRow : OpenClaim := { program := "ytbjfbbfglkmadaadoor", sum := "cbdda7fd4d3e0b96df6e43749f76c8798bd8d39f5b3d5c616d7045efc9c1fb2b", func := "tusche/tuschelaw09.MarkFramed", spec := "markFramed", unfollowed := true, recurses := true, named := ["tusche/mark.count"], apart := false, laid := [("tusche/mark.count", laid_tusche_mark_count)], narrowed := true }
def MarkFramedUptoSaid : Prop := markFramedUptoRow.holds Tryd.pinned (OpenSpec.upto markFramedSpec)

/-- 'tuschelaw09.MarkFar', WHERE WHAT IT READS IS OF BULK AT MOST 1048576: true; the input reads as it did. -/
def markFarUptoRow : OpenClaim := { program := "ytbjfbbfglkmadaadoor", sum := "cbdda7fd4d3e0b96df6e43749f76c8798bd8d39f5b3d5c616d7045efc9c1fb2b", func := "tusche/tuschelaw09.MarkFar", spec := "markFar", unfollowed := true, recurses := true, named := ["tusche/mark.count"], apart := false, laid := [("tusche/mark.count", laid_tusche_mark_count)], narrowed := true }
def MarkFarUptoSaid : Prop := markFarUptoRow.holds Tryd.pinned (OpenSpec.upto markFarSpec)

/-- 'tuschelaw09.MarkCopies', WHERE WHAT IT READS IS OF BULK AT MOST 1048576: true; the input reads as it did. -/
def markCopiesUptoRow : OpenClaim := { program := "ytbjfbbfglkmadaadoor", sum := "cbdda7fd4d3e0b96df6e43749f76c8798bd8d39f5b3d5c616d7045efc9c1fb2b", func := "tusche/tuschelaw09.MarkCopies", spec := "markCopies", unfollowed := true, recurses := true, named := ["tusche/mark.count"], apart := false, laid := [("tusche/mark.count", laid_tusche_mark_count)], narrowed := true }
def MarkCopiesUptoSaid : Prop := markCopiesUptoRow.holds Tryd.pinned (OpenSpec.upto markCopiesSpec)

/-- 'tuschelaw09.MarkRenamed', WHERE WHAT IT READS IS OF BULK AT MOST 1048576: true; the input reads as it did. -/
def markRenamedUptoRow : OpenClaim := { program := "ytbjfbbfglkmadaadoor", sum := "cbdda7fd4d3e0b96df6e43749f76c8798bd8d39f5b3d5c616d7045efc9c1fb2b", func := "tusche/tuschelaw09.MarkRenamed", spec := "markRenamed", unfollowed := true, recurses := true, named := ["tusche/mark.count"], apart := false, laid := [("tusche/mark.count", laid_tusche_mark_count)], narrowed := true }
def MarkRenamedUptoSaid : Prop := markRenamedUptoRow.holds Tryd.pinned (OpenSpec.upto markRenamedSpec)

/-- 'tuschelaw09.MarkKnown', WHERE WHAT IT READS IS OF BULK AT MOST 1048576: true; the input reads as it did. -/
def markKnownUptoRow : OpenClaim := { program := "ytbjfbbfglkmadaadoor", sum := "cbdda7fd4d3e0b96df6e43749f76c8798bd8d39f5b3d5c616d7045efc9c1fb2b", func := "tusche/tuschelaw09.MarkKnown", spec := "markKnown", unfollowed := true, recurses := true, named := ["tusche/mark.count"], apart := false, laid := [("tusche/mark.count", laid_tusche_mark_count)], narrowed := true }
def MarkKnownUptoSaid : Prop := markKnownUptoRow.holds Tryd.pinned (OpenSpec.upto markKnownSpec)

end Rows
end Go.Proofs.YtbjfbbfglkmadaaDoor
