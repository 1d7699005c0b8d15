/-
  No cell of these rows narrows 'for every input' (looked for: loops, veiled, ifaces, maps, wideKeys, modest, calm, conditions, laid).
  DERIVED. THE GIVEN ROWS OF THIS SEAT. 7 by the template 'for every input the law returns true; each argument reads behind the call as it read before'; 0 by the template 'total and deterministic' (their statements: YtbgnmhphbjkfcaaTotals.lean).
  GIVEN WITH THE SEED: the statements are not yours to turn. If you find one false, say at which input.
  Laid BY PROGRAM, IN A SANDBOX (cutbox-rows.mjs): the forced cells as the released guide's own fill.sh prints them over the translation 01b2b7331125bb2f… (all of the seat's roots in one cut). By AI agents, Wed Nov 11 2026. No macro, syntax, notation, axiom, sorry.
-/
import Derived.Test.YtbgnmhphbjkfcaaChecked
import GoSem.Claim
import GoSem.ClaimJoined
import GoSem.ClaimMapViews
import Derived.JoinedTies
import Derived.KernelRfl
namespace Go.Proofs.Ytbgnmhphbjkfcaa
/- THE CELL 'sum', in the pinned program and in every row, IS THE sha256 OF THE DUMP (.gsa) THAT YtbgnmhphbjkfcaaProg.lean LOADS. Nothing in Lean hashes anything: it is a label: what it is worth is what the hold of that sum in a sandbox is worth. -/
noncomputable def Try.pinned : Pinned := { name := "ytbgnmhphbjkfcaa", sum := "01b2b7331125bb2fc23b590a18340cd3a422de222964f56f0c941caf4167c10e", checked := Try.checked }
namespace Rows
def none {H : Type} : Left H := { results := [], args := [] }

/-- 'bikesharelaw13.DriftElapsed': WHATEVER THE INPUT: true; the input reads as it did. -/
def driftElapsedSpec : ChangeSpec := { name := "driftElapsed", fn := fun _ => fun
  | [d1, d2] => { results := [.lit (.bool true)], args := [d1, d2] }
  | _ => none }
def driftElapsedRow : OpenClaim := { program := "ytbgnmhphbjkfcaa", sum := "01b2b7331125bb2fc23b590a18340cd3a422de222964f56f0c941caf4167c10e", func := "bikeshare/bikesharelaw13.DriftElapsed", spec := "driftElapsed", unfollowed := true, recurses := true, apart := false }
def DriftElapsedSaid : Prop := driftElapsedRow.holds Try.pinned (OpenSpec.ofChange driftElapsedSpec)

/-- ITS FALSE NEIGHBOUR: 'it returns false'. Refute it at one input. -/
def driftElapsedWrong : ChangeSpec := { name := "driftElapsed", fn := fun _ => fun
  | [d1, d2] => { results := [.lit (.bool false)], args := [d1, d2] }
  | _ => none }
def DriftElapsedWrongFalsely : Prop := driftElapsedRow.holds Try.pinned (OpenSpec.ofChange driftElapsedWrong)

/-- 'bikesharelaw13.DriftBounds': WHATEVER THE INPUT: true; the input reads as it did. -/
def driftBoundsSpec : ChangeSpec := { name := "driftBounds", fn := fun _ => fun
  | [d1, d2, d3] => { results := [.lit (.bool true)], args := [d1, d2, d3] }
  | _ => none }
def driftBoundsRow : OpenClaim := { program := "ytbgnmhphbjkfcaa", sum := "01b2b7331125bb2fc23b590a18340cd3a422de222964f56f0c941caf4167c10e", func := "bikeshare/bikesharelaw13.DriftBounds", spec := "driftBounds", unfollowed := true, recurses := true, apart := false }
def DriftBoundsSaid : Prop := driftBoundsRow.holds Try.pinned (OpenSpec.ofChange driftBoundsSpec)

/-- ITS FALSE NEIGHBOUR: 'it returns false'. Refute it at one input. -/
def driftBoundsWrong : ChangeSpec := { name := "driftBounds", fn := fun _ => fun
  | [d1, d2, d3] => { results := [.lit (.bool false)], args := [d1, d2, d3] }
  | _ => none }
def DriftBoundsWrongFalsely : Prop := driftBoundsRow.holds Try.pinned (OpenSpec.ofChange driftBoundsWrong)

/-- 'bikesharelaw13.DriftSound': WHATEVER THE INPUT: true; the input reads as it did. -/
def driftSoundSpec : ChangeSpec := { name := "driftSound", fn := fun _ => fun
  | [d1, d2, d3, d4] => { results := [.lit (.bool true)], args := [d1, d2, d3, d4] }
  | _ => none }
def driftSoundRow : OpenClaim := { program := "ytbgnmhphbjkfcaa", sum := "01b2b7331125bb2fc23b590a18340cd3a422de222964f56f0c941caf4167c10e", func := "bikeshare/bikesharelaw13.DriftSound", spec := "driftSound", unfollowed := true, recurses := true, apart := false }
def DriftSoundSaid : Prop := driftSoundRow.holds Try.pinned (OpenSpec.ofChange driftSoundSpec)

/-- ITS FALSE NEIGHBOUR: 'it returns false'. Refute it at one input. -/
def driftSoundWrong : ChangeSpec := { name := "driftSound", fn := fun _ => fun
  | [d1, d2, d3, d4] => { results := [.lit (.bool false)], args := [d1, d2, d3, d4] }
  | _ => none }
def DriftSoundWrongFalsely : Prop := driftSoundRow.holds Try.pinned (OpenSpec.ofChange driftSoundWrong)

/-- 'bikesharelaw13.DriftExact': WHATEVER THE INPUT: true; the input reads as it did. -/
def driftExactSpec : ChangeSpec := { name := "driftExact", fn := fun _ => fun
  | [d1, d2] => { results := [.lit (.bool true)], args := [d1, d2] }
  | _ => none }
def driftExactRow : OpenClaim := { program := "ytbgnmhphbjkfcaa", sum := "01b2b7331125bb2fc23b590a18340cd3a422de222964f56f0c941caf4167c10e", func := "bikeshare/bikesharelaw13.DriftExact", spec := "driftExact", unfollowed := true, recurses := true, apart := false }
def DriftExactSaid : Prop := driftExactRow.holds Try.pinned (OpenSpec.ofChange driftExactSpec)

/-- ITS FALSE NEIGHBOUR: 'it returns false'. Refute it at one input. -/
def driftExactWrong : ChangeSpec := { name := "driftExact", fn := fun _ => fun
  | [d1, d2] => { results := [.lit (.bool false)], args := [d1, d2] }
  | _ => none }
def DriftExactWrongFalsely : Prop := driftExactRow.holds Try.pinned (OpenSpec.ofChange driftExactWrong)

/-- 'bikesharelaw13.DriftNarrows': WHATEVER THE INPUT: true; the input reads as it did. -/
def driftNarrowsSpec : ChangeSpec := { name := "driftNarrows", fn := fun _ => fun
  | [d1, d2, d3, d4] => { results := [.lit (.bool true)], args := [d1, d2, d3, d4] }
  | _ => none }
def driftNarrowsRow : OpenClaim := { program := "ytbgnmhphbjkfcaa", sum := "01b2b7331125bb2fc23b590a18340cd3a422de222964f56f0c941caf4167c10e", func := "bikeshare/bikesharelaw13.DriftNarrows", spec := "driftNarrows", unfollowed := true, recurses := true, apart := false }
def DriftNarrowsSaid : Prop := driftNarrowsRow.holds Try.pinned (OpenSpec.ofChange driftNarrowsSpec)

/-- ITS FALSE NEIGHBOUR: 'it returns false'. Refute it at one input. -/
def driftNarrowsWrong : ChangeSpec := { name := "driftNarrows", fn := fun _ => fun
  | [d1, d2, d3, d4] => { results := [.lit (.bool false)], args := [d1, d2, d3, d4] }
  | _ => none }
def DriftNarrowsWrongFalsely : Prop := driftNarrowsRow.holds Try.pinned (OpenSpec.ofChange driftNarrowsWrong)

/-- 'bikesharelaw13.DriftShifts': WHATEVER THE INPUT: true; the input reads as it did. -/
def driftShiftsSpec : ChangeSpec := { name := "driftShifts", fn := fun _ => fun
  | [d1, d2, d3, d4] => { results := [.lit (.bool true)], args := [d1, d2, d3, d4] }
  | _ => none }
def driftShiftsRow : OpenClaim := { program := "ytbgnmhphbjkfcaa", sum := "01b2b7331125bb2fc23b590a18340cd3a422de222964f56f0c941caf4167c10e", func := "bikeshare/bikesharelaw13.DriftShifts", spec := "driftShifts", unfollowed := true, recurses := true, apart := false }
def DriftShiftsSaid : Prop := driftShiftsRow.holds Try.pinned (OpenSpec.ofChange driftShiftsSpec)

/-- ITS FALSE NEIGHBOUR: 'it returns false'. Refute it at one input. -/
def driftShiftsWrong : ChangeSpec := { name := "driftShifts", fn := fun _ => fun
  | [d1, d2, d3, d4] => { results := [.lit (.bool false)], args := [d1, d2, d3, d4] }
  | _ => none }
def DriftShiftsWrongFalsely : Prop := driftShiftsRow.holds Try.pinned (OpenSpec.ofChange driftShiftsWrong)

/-- 'bikesharelaw13.DriftEnds': WHATEVER THE INPUT: true; the input reads as it did. -/
def driftEndsSpec : ChangeSpec := { name := "driftEnds", fn := fun _ => fun
  | [d1, d2, d3] => { results := [.lit (.bool true)], args := [d1, d2, d3] }
  | _ => none }
def driftEndsRow : OpenClaim := { program := "ytbgnmhphbjkfcaa", sum := "01b2b7331125bb2fc23b590a18340cd3a422de222964f56f0c941caf4167c10e", func := "bikeshare/bikesharelaw13.DriftEnds", spec := "driftEnds", unfollowed := true, recurses := true, apart := false }
def DriftEndsSaid : Prop := driftEndsRow.holds Try.pinned (OpenSpec.ofChange driftEndsSpec)

/-- ITS FALSE NEIGHBOUR: 'it returns false'. Refute it at one input. -/
def driftEndsWrong : ChangeSpec := { name := "driftEnds", fn := fun _ => fun
  | [d1, d2, d3] => { results := [.lit (.bool false)], args := [d1, d2, d3] }
  | _ => none }
def DriftEndsWrongFalsely : Prop := driftEndsRow.holds Try.pinned (OpenSpec.ofChange driftEndsWrong)

/- THE SECOND FORM. 'bulk': how many values and letters a reading holds, each counted each time it is reached (what is shared counts as often as it is met; a slice's spare places count too). A statement '..UptoSaid' is the law's where the arguments, and the package variables that the reading takes, are together of bulk at most 1048576: NARROWER than '..Said'. Prove '..Said' where nothing that the law and all that it calls make is longer than what came in: it says more and counts as full. Else prove '..UptoSaid'. A law counts once. -/
mutual
def uptoBulk {H : Type} : DataW H → Nat
  | .lit (.string bytes) => bytes.length + 1
  | .lit _ => 1
  | .nil => 1
  | .ptr d => uptoBulk d + 1
  | .slice elems spare => uptoBulkAll elems + uptoBulkAll spare + 1
  | .agg parts => uptoBulkAll parts + 1
  | .iface _ d => uptoBulk d + 1
  | .map entries => uptoBulkEntries entries + 1
  | .held _ => 1
def uptoBulkAll {H : Type} : List (DataW H) → Nat
  | [] => 0
  | d :: r => uptoBulk d + uptoBulkAll r
def uptoBulkEntries {H : Type} : List (Lit × DataW H) → Nat
  | [] => 0
  | x :: r => uptoBulkEntry x + uptoBulkEntries r
def uptoBulkEntry {H : Type} : Lit × DataW H → Nat
  | (.string bytes, d) => bytes.length + uptoBulk d + 1
  | (_, d) => uptoBulk d + 1
 end
def uptoSmall : (H : Type) → List (DataW H) → Bool := fun _ ds => decide (uptoBulkAll ds ≤ 1048576)
def OpenSpec.upto (s : _root_.Go.ChangeSpec) : _root_.Go.OpenSpec := { _root_.Go.OpenSpec.ofChange s with cond := some uptoSmall }

/-- 'bikesharelaw13.DriftElapsed', WHERE WHAT IT READS IS OF BULK AT MOST 1048576: true; the input reads as it did. -/
def driftElapsedUptoRow : OpenClaim := { program := "ytbgnmhphbjkfcaa", sum := "01b2b7331125bb2fc23b590a18340cd3a422de222964f56f0c941caf4167c10e", func := "bikeshare/bikesharelaw13.DriftElapsed", spec := "driftElapsed", unfollowed := true, recurses := true, apart := false, narrowed := true }
def DriftElapsedUptoSaid : Prop := driftElapsedUptoRow.holds Try.pinned (OpenSpec.upto driftElapsedSpec)

/-- 'bikesharelaw13.DriftBounds', WHERE WHAT IT READS IS OF BULK AT MOST 1048576: true; the input reads as it did. -/
def driftBoundsUptoRow : OpenClaim := { program := "ytbgnmhphbjkfcaa", sum := "01b2b7331125bb2fc23b590a18340cd3a422de222964f56f0c941caf4167c10e", func := "bikeshare/bikesharelaw13.DriftBounds", spec := "driftBounds", unfollowed := true, recurses := true, apart := false, narrowed := true }
def DriftBoundsUptoSaid : Prop := driftBoundsUptoRow.holds Try.pinned (OpenSpec.upto driftBoundsSpec)

/-- 'bikesharelaw13.DriftSound', WHERE WHAT IT READS IS OF BULK AT MOST 1048576: true; the input reads as it did. -/
def driftSoundUptoRow : OpenClaim := { program := "ytbgnmhphbjkfcaa", sum := "01b2b7331125bb2fc23b590a18340cd3a422de222964f56f0c941caf4167c10e", func := "bikeshare/bikesharelaw13.DriftSound", spec := "driftSound", unfollowed := true, recurses := true, apart := false, narrowed := true }
def DriftSoundUptoSaid : Prop := driftSoundUptoRow.holds Try.pinned (OpenSpec.upto driftSoundSpec)

/-- 'bikesharelaw13.DriftExact', WHERE WHAT IT READS IS OF BULK AT MOST 1048576: true; the input reads as it did. -/
def driftExactUptoRow : OpenClaim := { program := "ytbgnmhphbjkfcaa", sum := "01b2b7331125bb2fc23b590a18340cd3a422de222964f56f0c941caf4167c10e", func := "bikeshare/bikesharelaw13.DriftExact", spec := "driftExact", unfollowed := true, recurses := true, apart := false, narrowed := true }
def DriftExactUptoSaid : Prop := driftExactUptoRow.holds Try.pinned (OpenSpec.upto driftExactSpec)

/-- 'bikesharelaw13.DriftNarrows', WHERE WHAT IT READS IS OF BULK AT MOST 1048576: true; the input reads as it did. -/
def driftNarrowsUptoRow : OpenClaim := { program := "ytbgnmhphbjkfcaa", sum := "01b2b7331125bb2fc23b590a18340cd3a422de222964f56f0c941caf4167c10e", func := "bikeshare/bikesharelaw13.DriftNarrows", spec := "driftNarrows", unfollowed := true, recurses := true, apart := false, narrowed := true }
def DriftNarrowsUptoSaid : Prop := driftNarrowsUptoRow.holds Try.pinned (OpenSpec.upto driftNarrowsSpec)

/-- 'bikesharelaw13.DriftShifts', WHERE WHAT IT READS IS OF BULK AT MOST 1048576: true; the input reads as it did. -/
def driftShiftsUptoRow : OpenClaim := { program := "ytbgnmhphbjkfcaa", sum := "01b2b7331125bb2fc23b590a18340cd3a422de222964f56f0c941caf4167c10e", func := "bikeshare/bikesharelaw13.DriftShifts", spec := "driftShifts", unfollowed := true, recurses := true, apart := false, narrowed := true }
def DriftShiftsUptoSaid : Prop := driftShiftsUptoRow.holds Try.pinned (OpenSpec.upto driftShiftsSpec)

/-- 'bikesharelaw13.DriftEnds', WHERE WHAT IT READS IS OF BULK AT MOST 1048576: true; the input reads as it did. -/
def driftEndsUptoRow : OpenClaim := { program := "ytbgnmhphbjkfcaa", sum := "01b2b7331125bb2fc23b590a18340cd3a422de222964f56f0c941caf4167c10e", func := "bikeshare/bikesharelaw13.DriftEnds", spec := "driftEnds", unfollowed := true, recurses := true, apart := false, narrowed := true }
def DriftEndsUptoSaid : Prop := driftEndsUptoRow.holds Try.pinned (OpenSpec.upto driftEndsSpec)

end Rows
end Go.Proofs.Ytbgnmhphbjkfcaa
