/-
  No cell of these rows narrows 'for every input' (looked for: loops, veiled, ifaces, maps, wideKeys, modest, calm, conditions, laid).
  DERIVED. THE GIVEN ROWS OF THIS SEAT. 10 by the template 'for every input the law returns true; each argument reads behind the call as it read before'; 0 by the template 'total and deterministic' (their statements: YtmhnkfcbbjbpfaaTotals.lean).
  GIVEN WITH THE SEED: the statements are not yours to turn. If you find one false, say at which input.
  Laid BY PROGRAM, IN A SANDBOX (cutbox-rows.mjs): the forced cells as the released guide's own fill.sh prints them over the translation d18c477b821a3645… (all of the seat's roots in one cut). By AI agents, Wed Nov 11 2026. No macro, syntax, notation, axiom, sorry.
-/
import Derived.Test.YtmhnkfcbbjbpfaaChecked
import GoSem.Claim
import GoSem.ClaimJoined
import GoSem.ClaimMapViews
import Derived.JoinedTies
import Derived.KernelRfl
namespace Go.Proofs.Ytmhnkfcbbjbpfaa
/- THE CELL 'sum', in the pinned program and in every row, IS THE sha256 OF THE DUMP (.gsa) THAT YtmhnkfcbbjbpfaaProg.lean LOADS. Nothing in Lean hashes anything: it is a label: what it is worth is what the hold of that sum in a sandbox is worth. -/
noncomputable def Try.pinned : Pinned := { name := "ytmhnkfcbbjbpfaa", sum := "d18c477b821a36452eb63af42c8e2908154f19e205986d10f9838e2e5ad041a0", checked := Try.checked }
namespace Rows
def none {H : Type} : Left H := { results := [], args := [] }

/-- 'bikesharelaw18.EventChecks': WHATEVER THE INPUT: true; the input reads as it did. -/
def eventChecksSpec : ChangeSpec := { name := "eventChecks", fn := fun _ => fun
  | [d1, d2] => { results := [.lit (.bool true)], args := [d1, d2] }
  | _ => none }
def eventChecksRow : OpenClaim := { program := "ytmhnkfcbbjbpfaa", sum := "d18c477b821a36452eb63af42c8e2908154f19e205986d10f9838e2e5ad041a0", func := "bikeshare/bikesharelaw18.EventChecks", spec := "eventChecks", unfollowed := true, recurses := true, apart := false }
def EventChecksSaid : Prop := eventChecksRow.holds Try.pinned (OpenSpec.ofChange eventChecksSpec)

/-- ITS FALSE NEIGHBOUR: 'it returns false'. Refute it at one input. -/
def eventChecksWrong : ChangeSpec := { name := "eventChecks", fn := fun _ => fun
  | [d1, d2] => { results := [.lit (.bool false)], args := [d1, d2] }
  | _ => none }
def EventChecksWrongFalsely : Prop := eventChecksRow.holds Try.pinned (OpenSpec.ofChange eventChecksWrong)

/-- 'bikesharelaw18.EventLess': WHATEVER THE INPUT: true; the input reads as it did. -/
def eventLessSpec : ChangeSpec := { name := "eventLess", fn := fun _ => fun
  | [d1, d2] => { results := [.lit (.bool true)], args := [d1, d2] }
  | _ => none }
def eventLessRow : OpenClaim := { program := "ytmhnkfcbbjbpfaa", sum := "d18c477b821a36452eb63af42c8e2908154f19e205986d10f9838e2e5ad041a0", func := "bikeshare/bikesharelaw18.EventLess", spec := "eventLess", unfollowed := true, recurses := true, apart := false }
def EventLessSaid : Prop := eventLessRow.holds Try.pinned (OpenSpec.ofChange eventLessSpec)

/-- ITS FALSE NEIGHBOUR: 'it returns false'. Refute it at one input. -/
def eventLessWrong : ChangeSpec := { name := "eventLess", fn := fun _ => fun
  | [d1, d2] => { results := [.lit (.bool false)], args := [d1, d2] }
  | _ => none }
def EventLessWrongFalsely : Prop := eventLessRow.holds Try.pinned (OpenSpec.ofChange eventLessWrong)

/-- 'bikesharelaw18.EventSets': WHATEVER THE INPUT: true; the input reads as it did. -/
def eventSetsSpec : ChangeSpec := { name := "eventSets", fn := fun _ => fun
  | [d] => { results := [.lit (.bool true)], args := [d] }
  | _ => none }
def eventSetsRow : OpenClaim := { program := "ytmhnkfcbbjbpfaa", sum := "d18c477b821a36452eb63af42c8e2908154f19e205986d10f9838e2e5ad041a0", func := "bikeshare/bikesharelaw18.EventSets", spec := "eventSets", unfollowed := true, recurses := true, apart := false }
def EventSetsSaid : Prop := eventSetsRow.holds Try.pinned (OpenSpec.ofChange eventSetsSpec)

/-- ITS FALSE NEIGHBOUR: 'it returns false'. Refute it at one input. -/
def eventSetsWrong : ChangeSpec := { name := "eventSets", fn := fun _ => fun
  | [d] => { results := [.lit (.bool false)], args := [d] }
  | _ => none }
def EventSetsWrongFalsely : Prop := eventSetsRow.holds Try.pinned (OpenSpec.ofChange eventSetsWrong)

/-- 'bikesharelaw18.EventOrder': WHATEVER THE INPUT: true; the input reads as it did. -/
def eventOrderSpec : ChangeSpec := { name := "eventOrder", fn := fun _ => fun
  | [d1, d2, d3, d4, d5] => { results := [.lit (.bool true)], args := [d1, d2, d3, d4, d5] }
  | _ => none }
def eventOrderRow : OpenClaim := { program := "ytmhnkfcbbjbpfaa", sum := "d18c477b821a36452eb63af42c8e2908154f19e205986d10f9838e2e5ad041a0", func := "bikeshare/bikesharelaw18.EventOrder", spec := "eventOrder", unfollowed := true, recurses := true, apart := false }
def EventOrderSaid : Prop := eventOrderRow.holds Try.pinned (OpenSpec.ofChange eventOrderSpec)

/-- ITS FALSE NEIGHBOUR: 'it returns false'. Refute it at one input. -/
def eventOrderWrong : ChangeSpec := { name := "eventOrder", fn := fun _ => fun
  | [d1, d2, d3, d4, d5] => { results := [.lit (.bool false)], args := [d1, d2, d3, d4, d5] }
  | _ => none }
def EventOrderWrongFalsely : Prop := eventOrderRow.holds Try.pinned (OpenSpec.ofChange eventOrderWrong)

/-- 'bikesharelaw18.EventLeast': WHATEVER THE INPUT: true; the input reads as it did. -/
def eventLeastSpec : ChangeSpec := { name := "eventLeast", fn := fun _ => fun
  | [d] => { results := [.lit (.bool true)], args := [d] }
  | _ => none }
def eventLeastRow : OpenClaim := { program := "ytmhnkfcbbjbpfaa", sum := "d18c477b821a36452eb63af42c8e2908154f19e205986d10f9838e2e5ad041a0", func := "bikeshare/bikesharelaw18.EventLeast", spec := "eventLeast", unfollowed := true, recurses := true, apart := false }
def EventLeastSaid : Prop := eventLeastRow.holds Try.pinned (OpenSpec.ofChange eventLeastSpec)

/-- ITS FALSE NEIGHBOUR: 'it returns false'. Refute it at one input. -/
def eventLeastWrong : ChangeSpec := { name := "eventLeast", fn := fun _ => fun
  | [d] => { results := [.lit (.bool false)], args := [d] }
  | _ => none }
def EventLeastWrongFalsely : Prop := eventLeastRow.holds Try.pinned (OpenSpec.ofChange eventLeastWrong)

/-- 'bikesharelaw18.EventJoins': WHATEVER THE INPUT: true; the input reads as it did. -/
def eventJoinsSpec : ChangeSpec := { name := "eventJoins", fn := fun _ => fun
  | [d1, d2] => { results := [.lit (.bool true)], args := [d1, d2] }
  | _ => none }
def eventJoinsRow : OpenClaim := { program := "ytmhnkfcbbjbpfaa", sum := "d18c477b821a36452eb63af42c8e2908154f19e205986d10f9838e2e5ad041a0", func := "bikeshare/bikesharelaw18.EventJoins", spec := "eventJoins", unfollowed := true, recurses := true, apart := false }
def EventJoinsSaid : Prop := eventJoinsRow.holds Try.pinned (OpenSpec.ofChange eventJoinsSpec)

/-- ITS FALSE NEIGHBOUR: 'it returns false'. Refute it at one input. -/
def eventJoinsWrong : ChangeSpec := { name := "eventJoins", fn := fun _ => fun
  | [d1, d2] => { results := [.lit (.bool false)], args := [d1, d2] }
  | _ => none }
def EventJoinsWrongFalsely : Prop := eventJoinsRow.holds Try.pinned (OpenSpec.ofChange eventJoinsWrong)

/-- 'bikesharelaw18.EventCodes': WHATEVER THE INPUT: true; the input reads as it did. -/
def eventCodesSpec : ChangeSpec := { name := "eventCodes", fn := fun _ => fun
  | [d1, d2] => { results := [.lit (.bool true)], args := [d1, d2] }
  | _ => none }
def eventCodesRow : OpenClaim := { program := "ytmhnkfcbbjbpfaa", sum := "d18c477b821a36452eb63af42c8e2908154f19e205986d10f9838e2e5ad041a0", func := "bikeshare/bikesharelaw18.EventCodes", spec := "eventCodes", unfollowed := true, recurses := true, apart := false }
def EventCodesSaid : Prop := eventCodesRow.holds Try.pinned (OpenSpec.ofChange eventCodesSpec)

/-- ITS FALSE NEIGHBOUR: 'it returns false'. Refute it at one input. -/
def eventCodesWrong : ChangeSpec := { name := "eventCodes", fn := fun _ => fun
  | [d1, d2] => { results := [.lit (.bool false)], args := [d1, d2] }
  | _ => none }
def EventCodesWrongFalsely : Prop := eventCodesRow.holds Try.pinned (OpenSpec.ofChange eventCodesWrong)

/-- 'bikesharelaw18.EventBack': WHATEVER THE INPUT: true; the input reads as it did. -/
def eventBackSpec : ChangeSpec := { name := "eventBack", fn := fun _ => fun
  | [d1, d2] => { results := [.lit (.bool true)], args := [d1, d2] }
  | _ => none }
def eventBackRow : OpenClaim := { program := "ytmhnkfcbbjbpfaa", sum := "d18c477b821a36452eb63af42c8e2908154f19e205986d10f9838e2e5ad041a0", func := "bikeshare/bikesharelaw18.EventBack", spec := "eventBack", unfollowed := true, recurses := true, apart := false }
def EventBackSaid : Prop := eventBackRow.holds Try.pinned (OpenSpec.ofChange eventBackSpec)

/-- ITS FALSE NEIGHBOUR: 'it returns false'. Refute it at one input. -/
def eventBackWrong : ChangeSpec := { name := "eventBack", fn := fun _ => fun
  | [d1, d2] => { results := [.lit (.bool false)], args := [d1, d2] }
  | _ => none }
def EventBackWrongFalsely : Prop := eventBackRow.holds Try.pinned (OpenSpec.ofChange eventBackWrong)

/-- 'bikesharelaw18.EventReports': WHATEVER THE INPUT: true; the input reads as it did. -/
def eventReportsSpec : ChangeSpec := { name := "eventReports", fn := fun _ => fun
  | [d1, d2, d3, d4, d5] => { results := [.lit (.bool true)], args := [d1, d2, d3, d4, d5] }
  | _ => none }
def eventReportsRow : OpenClaim := { program := "ytmhnkfcbbjbpfaa", sum := "d18c477b821a36452eb63af42c8e2908154f19e205986d10f9838e2e5ad041a0", func := "bikeshare/bikesharelaw18.EventReports", spec := "eventReports", unfollowed := true, recurses := true, apart := false }
def EventReportsSaid : Prop := eventReportsRow.holds Try.pinned (OpenSpec.ofChange eventReportsSpec)

/-- ITS FALSE NEIGHBOUR: 'it returns false'. Refute it at one input. -/
def eventReportsWrong : ChangeSpec := { name := "eventReports", fn := fun _ => fun
  | [d1, d2, d3, d4, d5] => { results := [.lit (.bool false)], args := [d1, d2, d3, d4, d5] }
  | _ => none }
def EventReportsWrongFalsely : Prop := eventReportsRow.holds Try.pinned (OpenSpec.ofChange eventReportsWrong)

/-- 'bikesharelaw18.EventKnows': WHATEVER THE INPUT: true; the input reads as it did. -/
def eventKnowsSpec : ChangeSpec := { name := "eventKnows", fn := fun _ => fun
  | [d1, d2, d3, d4, d5, d6] => { results := [.lit (.bool true)], args := [d1, d2, d3, d4, d5, d6] }
  | _ => none }
def eventKnowsRow : OpenClaim := { program := "ytmhnkfcbbjbpfaa", sum := "d18c477b821a36452eb63af42c8e2908154f19e205986d10f9838e2e5ad041a0", func := "bikeshare/bikesharelaw18.EventKnows", spec := "eventKnows", unfollowed := true, recurses := true, apart := false }
def EventKnowsSaid : Prop := eventKnowsRow.holds Try.pinned (OpenSpec.ofChange eventKnowsSpec)

/-- ITS FALSE NEIGHBOUR: 'it returns false'. Refute it at one input. -/
def eventKnowsWrong : ChangeSpec := { name := "eventKnows", fn := fun _ => fun
  | [d1, d2, d3, d4, d5, d6] => { results := [.lit (.bool false)], args := [d1, d2, d3, d4, d5, d6] }
  | _ => none }
def EventKnowsWrongFalsely : Prop := eventKnowsRow.holds Try.pinned (OpenSpec.ofChange eventKnowsWrong)

/- THE SECOND FORM. 'bulk': how many values and letters a reading holds, each counted each time it is reached (what is shared counts as often as it is met; a slice's spare places count too). A statement '..UptoSaid' is the law's where the arguments, and the package variables that the reading takes, are together of bulk at most 1048576: NARROWER than '..Said'. Prove '..Said' where nothing that the law and all that it calls make is longer than what came in: it says more and counts as full. Else prove '..UptoSaid'. A law counts once. -/
mutual
def uptoBulk {H : Type} : DataW H → Nat
  | .lit (.string bytes) => bytes.length + 1
  | .lit _ => 1
  | .nil => 1
  | .ptr d => uptoBulk d + 1
  | .slice elems spare => uptoBulkAll elems + uptoBulkAll spare + 1
  | .agg parts => uptoBulkAll parts + 1
  | .iface _ d => uptoBulk d + 1
  | .map entries => uptoBulkEntries entries + 1
  | .held _ => 1
def uptoBulkAll {H : Type} : List (DataW H) → Nat
  | [] => 0
  | d :: r => uptoBulk d + uptoBulkAll r
def uptoBulkEntries {H : Type} : List (Lit × DataW H) → Nat
  | [] => 0
  | x :: r => uptoBulkEntry x + uptoBulkEntries r
def uptoBulkEntry {H : Type} : Lit × DataW H → Nat
  | (.string bytes, d) => bytes.length + uptoBulk d + 1
  | (_, d) => uptoBulk d + 1
 end
def uptoSmall : (H : Type) → List (DataW H) → Bool := fun _ ds => decide (uptoBulkAll ds ≤ 1048576)
def OpenSpec.upto (s : _root_.Go.ChangeSpec) : _root_.Go.OpenSpec := { _root_.Go.OpenSpec.ofChange s with cond := some uptoSmall }

/-- 'bikesharelaw18.EventChecks', WHERE WHAT IT READS IS OF BULK AT MOST 1048576: true; the input reads as it did. -/
def eventChecksUptoRow : OpenClaim := { program := "ytmhnkfcbbjbpfaa", sum := "d18c477b821a36452eb63af42c8e2908154f19e205986d10f9838e2e5ad041a0", func := "bikeshare/bikesharelaw18.EventChecks", spec := "eventChecks", unfollowed := true, recurses := true, apart := false, narrowed := true }
def EventChecksUptoSaid : Prop := eventChecksUptoRow.holds Try.pinned (OpenSpec.upto eventChecksSpec)

/-- 'bikesharelaw18.EventLess', WHERE WHAT IT READS IS OF BULK AT MOST 1048576: true; the input reads as it did. -/
def eventLessUptoRow : OpenClaim := { program := "ytmhnkfcbbjbpfaa", sum := "d18c477b821a36452eb63af42c8e2908154f19e205986d10f9838e2e5ad041a0", func := "bikeshare/bikesharelaw18.EventLess", spec := "eventLess", unfollowed := true, recurses := true, apart := false, narrowed := true }
def EventLessUptoSaid : Prop := eventLessUptoRow.holds Try.pinned (OpenSpec.upto eventLessSpec)

/-- 'bikesharelaw18.EventSets', WHERE WHAT IT READS IS OF BULK AT MOST 1048576: true; the input reads as it did. -/
def eventSetsUptoRow : OpenClaim := { program := "ytmhnkfcbbjbpfaa", sum := "d18c477b821a36452eb63af42c8e2908154f19e205986d10f9838e2e5ad041a0", func := "bikeshare/bikesharelaw18.EventSets", spec := "eventSets", unfollowed := true, recurses := true, apart := false, narrowed := true }
def EventSetsUptoSaid : Prop := eventSetsUptoRow.holds Try.pinned (OpenSpec.upto eventSetsSpec)

/-- 'bikesharelaw18.EventOrder', WHERE WHAT IT READS IS OF BULK AT MOST 1048576: true; the input reads as it did. -/
def eventOrderUptoRow : OpenClaim := { program := "ytmhnkfcbbjbpfaa", sum := "d18c477b821a36452eb63af42c8e2908154f19e205986d10f9838e2e5ad041a0", func := "bikeshare/bikesharelaw18.EventOrder", spec := "eventOrder", unfollowed := true, recurses := true, apart := false, narrowed := true }
def EventOrderUptoSaid : Prop := eventOrderUptoRow.holds Try.pinned (OpenSpec.upto eventOrderSpec)

/-- 'bikesharelaw18.EventLeast', WHERE WHAT IT READS IS OF BULK AT MOST 1048576: true; the input reads as it did. -/
def eventLeastUptoRow : OpenClaim := { program := "ytmhnkfcbbjbpfaa", sum := "d18c477b821a36452eb63af42c8e2908154f19e205986d10f9838e2e5ad041a0", func := "bikeshare/bikesharelaw18.EventLeast", spec := "eventLeast", unfollowed := true, recurses := true, apart := false, narrowed := true }
def EventLeastUptoSaid : Prop := eventLeastUptoRow.holds Try.pinned (OpenSpec.upto eventLeastSpec)

/-- 'bikesharelaw18.EventJoins', WHERE WHAT IT READS IS OF BULK AT MOST 1048576: true; the input reads as it did. -/
def eventJoinsUptoRow : OpenClaim := { program := "ytmhnkfcbbjbpfaa", sum := "d18c477b821a36452eb63af42c8e2908154f19e205986d10f9838e2e5ad041a0", func := "bikeshare/bikesharelaw18.EventJoins", spec := "eventJoins", unfollowed := true, recurses := true, apart := false, narrowed := true }
def EventJoinsUptoSaid : Prop := eventJoinsUptoRow.holds Try.pinned (OpenSpec.upto eventJoinsSpec)

/-- 'bikesharelaw18.EventCodes', WHERE WHAT IT READS IS OF BULK AT MOST 1048576: true; the input reads as it did. -/
def eventCodesUptoRow : OpenClaim := { program := "ytmhnkfcbbjbpfaa", sum := "d18c477b821a36452eb63af42c8e2908154f19e205986d10f9838e2e5ad041a0", func := "bikeshare/bikesharelaw18.EventCodes", spec := "eventCodes", unfollowed := true, recurses := true, apart := false, narrowed := true }
def EventCodesUptoSaid : Prop := eventCodesUptoRow.holds Try.pinned (OpenSpec.upto eventCodesSpec)

/-- 'bikesharelaw18.EventBack', WHERE WHAT IT READS IS OF BULK AT MOST 1048576: true; the input reads as it did. -/
def eventBackUptoRow : OpenClaim := { program := "ytmhnkfcbbjbpfaa", sum := "d18c477b821a36452eb63af42c8e2908154f19e205986d10f9838e2e5ad041a0", func := "bikeshare/bikesharelaw18.EventBack", spec := "eventBack", unfollowed := true, recurses := true, apart := false, narrowed := true }
def EventBackUptoSaid : Prop := eventBackUptoRow.holds Try.pinned (OpenSpec.upto eventBackSpec)

/-- 'bikesharelaw18.EventReports', WHERE WHAT IT READS IS OF BULK AT MOST 1048576: true; the input reads as it did. -/
def eventReportsUptoRow : OpenClaim := { program := "ytmhnkfcbbjbpfaa", sum := "d18c477b821a36452eb63af42c8e2908154f19e205986d10f9838e2e5ad041a0", func := "bikeshare/bikesharelaw18.EventReports", spec := "eventReports", unfollowed := true, recurses := true, apart := false, narrowed := true }
def EventReportsUptoSaid : Prop := eventReportsUptoRow.holds Try.pinned (OpenSpec.upto eventReportsSpec)

/-- 'bikesharelaw18.EventKnows', WHERE WHAT IT READS IS OF BULK AT MOST 1048576: true; the input reads as it did. -/
def eventKnowsUptoRow : OpenClaim := { program := "ytmhnkfcbbjbpfaa", sum := "d18c477b821a36452eb63af42c8e2908154f19e205986d10f9838e2e5ad041a0", func := "bikeshare/bikesharelaw18.EventKnows", spec := "eventKnows", unfollowed := true, recurses := true, apart := false, narrowed := true }
def EventKnowsUptoSaid : Prop := eventKnowsUptoRow.holds Try.pinned (OpenSpec.upto eventKnowsSpec)

end Rows
end Go.Proofs.Ytmhnkfcbbjbpfaa
