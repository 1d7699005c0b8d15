/-
  No cell of these rows narrows 'for every input' (looked for: loops, veiled, ifaces, maps, wideKeys, modest, calm, conditions, laid).
  DERIVED. THE GIVEN ROWS OF THIS SEAT. 6 by the template 'for every input the law returns true; each argument reads behind the call as it read before'; 0 by the template 'total and deterministic' (their statements: YtbmlnjdfnjjjhaaTotals.lean).
  GIVEN WITH THE SEED: the statements are not yours to turn. If you find one false, say at which input.
  Laid BY PROGRAM, IN A SANDBOX (cutbox-rows.mjs): the forced cells as the released guide's own fill.sh prints them over the translation e75d7db5f05d7991… (all of the seat's roots in one cut). By AI agents, Wed Nov 11 2026. No macro, syntax, notation, axiom, sorry.
-/
import Derived.Test.YtbmlnjdfnjjjhaaChecked
import GoSem.Claim
import GoSem.ClaimJoined
import GoSem.ClaimMapViews
import Derived.JoinedTies
import Derived.KernelRfl
namespace Go.Proofs.Ytbmlnjdfnjjjhaa
/- THE CELL 'sum', in the pinned program and in every row, IS THE sha256 OF THE DUMP (.gsa) THAT YtbmlnjdfnjjjhaaProg.lean LOADS. Nothing in Lean hashes anything: it is a label: what it is worth is what the hold of that sum in a sandbox is worth. -/
noncomputable def Try.pinned : Pinned := { name := "ytbmlnjdfnjjjhaa", sum := "e75d7db5f05d7991c0bb3a62ff066736c2c8fe0f5291ae0f63e3c09f67bbceaa", checked := Try.checked }
namespace Rows
def none {H : Type} : Left H := { results := [], args := [] }

/-- 'bikesharelaw08.RoadTimes': WHATEVER THE INPUT: true; the input reads as it did. -/
def roadTimesSpec : ChangeSpec := { name := "roadTimes", fn := fun _ => fun
  | [d1, d2] => { results := [.lit (.bool true)], args := [d1, d2] }
  | _ => none }
def roadTimesRow : OpenClaim := { program := "ytbmlnjdfnjjjhaa", sum := "e75d7db5f05d7991c0bb3a62ff066736c2c8fe0f5291ae0f63e3c09f67bbceaa", func := "bikeshare/bikesharelaw08.RoadTimes", spec := "roadTimes", unfollowed := true, recurses := true, apart := false }
def RoadTimesSaid : Prop := roadTimesRow.holds Try.pinned (OpenSpec.ofChange roadTimesSpec)

/-- ITS FALSE NEIGHBOUR: 'it returns false'. Refute it at one input. -/
def roadTimesWrong : ChangeSpec := { name := "roadTimes", fn := fun _ => fun
  | [d1, d2] => { results := [.lit (.bool false)], args := [d1, d2] }
  | _ => none }
def RoadTimesWrongFalsely : Prop := roadTimesRow.holds Try.pinned (OpenSpec.ofChange roadTimesWrong)

/-- 'bikesharelaw08.RoadTables': WHATEVER THE INPUT: true; the input reads as it did. -/
def roadTablesSpec : ChangeSpec := { name := "roadTables", fn := fun _ => fun
  | [d1, d2] => { results := [.lit (.bool true)], args := [d1, d2] }
  | _ => none }
def roadTablesRow : OpenClaim := { program := "ytbmlnjdfnjjjhaa", sum := "e75d7db5f05d7991c0bb3a62ff066736c2c8fe0f5291ae0f63e3c09f67bbceaa", func := "bikeshare/bikesharelaw08.RoadTables", spec := "roadTables", unfollowed := true, recurses := true, apart := false }
def RoadTablesSaid : Prop := roadTablesRow.holds Try.pinned (OpenSpec.ofChange roadTablesSpec)

/-- ITS FALSE NEIGHBOUR: 'it returns false'. Refute it at one input. -/
def roadTablesWrong : ChangeSpec := { name := "roadTables", fn := fun _ => fun
  | [d1, d2] => { results := [.lit (.bool false)], args := [d1, d2] }
  | _ => none }
def RoadTablesWrongFalsely : Prop := roadTablesRow.holds Try.pinned (OpenSpec.ofChange roadTablesWrong)

/-- 'bikesharelaw08.RoadWays': WHATEVER THE INPUT: true; the input reads as it did. -/
def roadWaysSpec : ChangeSpec := { name := "roadWays", fn := fun _ => fun
  | [d1, d2, d3] => { results := [.lit (.bool true)], args := [d1, d2, d3] }
  | _ => none }
def roadWaysRow : OpenClaim := { program := "ytbmlnjdfnjjjhaa", sum := "e75d7db5f05d7991c0bb3a62ff066736c2c8fe0f5291ae0f63e3c09f67bbceaa", func := "bikeshare/bikesharelaw08.RoadWays", spec := "roadWays", unfollowed := true, recurses := true, apart := false }
def RoadWaysSaid : Prop := roadWaysRow.holds Try.pinned (OpenSpec.ofChange roadWaysSpec)

/-- ITS FALSE NEIGHBOUR: 'it returns false'. Refute it at one input. -/
def roadWaysWrong : ChangeSpec := { name := "roadWays", fn := fun _ => fun
  | [d1, d2, d3] => { results := [.lit (.bool false)], args := [d1, d2, d3] }
  | _ => none }
def RoadWaysWrongFalsely : Prop := roadWaysRow.holds Try.pinned (OpenSpec.ofChange roadWaysWrong)

/-- 'bikesharelaw08.RoadFastest': WHATEVER THE INPUT: true; the input reads as it did. -/
def roadFastestSpec : ChangeSpec := { name := "roadFastest", fn := fun _ => fun
  | [d1, d2] => { results := [.lit (.bool true)], args := [d1, d2] }
  | _ => none }
def roadFastestRow : OpenClaim := { program := "ytbmlnjdfnjjjhaa", sum := "e75d7db5f05d7991c0bb3a62ff066736c2c8fe0f5291ae0f63e3c09f67bbceaa", func := "bikeshare/bikesharelaw08.RoadFastest", spec := "roadFastest", unfollowed := true, recurses := true, apart := false }
def RoadFastestSaid : Prop := roadFastestRow.holds Try.pinned (OpenSpec.ofChange roadFastestSpec)

/-- ITS FALSE NEIGHBOUR: 'it returns false'. Refute it at one input. -/
def roadFastestWrong : ChangeSpec := { name := "roadFastest", fn := fun _ => fun
  | [d1, d2] => { results := [.lit (.bool false)], args := [d1, d2] }
  | _ => none }
def RoadFastestWrongFalsely : Prop := roadFastestRow.holds Try.pinned (OpenSpec.ofChange roadFastestWrong)

/-- 'bikesharelaw08.RoadBest': WHATEVER THE INPUT: true; the input reads as it did. -/
def roadBestSpec : ChangeSpec := { name := "roadBest", fn := fun _ => fun
  | [d1, d2, d3] => { results := [.lit (.bool true)], args := [d1, d2, d3] }
  | _ => none }
def roadBestRow : OpenClaim := { program := "ytbmlnjdfnjjjhaa", sum := "e75d7db5f05d7991c0bb3a62ff066736c2c8fe0f5291ae0f63e3c09f67bbceaa", func := "bikeshare/bikesharelaw08.RoadBest", spec := "roadBest", unfollowed := true, recurses := true, apart := false }
def RoadBestSaid : Prop := roadBestRow.holds Try.pinned (OpenSpec.ofChange roadBestSpec)

/-- ITS FALSE NEIGHBOUR: 'it returns false'. Refute it at one input. -/
def roadBestWrong : ChangeSpec := { name := "roadBest", fn := fun _ => fun
  | [d1, d2, d3] => { results := [.lit (.bool false)], args := [d1, d2, d3] }
  | _ => none }
def RoadBestWrongFalsely : Prop := roadBestRow.holds Try.pinned (OpenSpec.ofChange roadBestWrong)

/-- 'bikesharelaw08.RoadMore': WHATEVER THE INPUT: true; the input reads as it did. -/
def roadMoreSpec : ChangeSpec := { name := "roadMore", fn := fun _ => fun
  | [d1, d2, d3] => { results := [.lit (.bool true)], args := [d1, d2, d3] }
  | _ => none }
def roadMoreRow : OpenClaim := { program := "ytbmlnjdfnjjjhaa", sum := "e75d7db5f05d7991c0bb3a62ff066736c2c8fe0f5291ae0f63e3c09f67bbceaa", func := "bikeshare/bikesharelaw08.RoadMore", spec := "roadMore", unfollowed := true, recurses := true, apart := false }
def RoadMoreSaid : Prop := roadMoreRow.holds Try.pinned (OpenSpec.ofChange roadMoreSpec)

/-- ITS FALSE NEIGHBOUR: 'it returns false'. Refute it at one input. -/
def roadMoreWrong : ChangeSpec := { name := "roadMore", fn := fun _ => fun
  | [d1, d2, d3] => { results := [.lit (.bool false)], args := [d1, d2, d3] }
  | _ => none }
def RoadMoreWrongFalsely : Prop := roadMoreRow.holds Try.pinned (OpenSpec.ofChange roadMoreWrong)

/- THE SECOND FORM. 'bulk': how many values and letters a reading holds, each counted each time it is reached (what is shared counts as often as it is met; a slice's spare places count too). A statement '..UptoSaid' is the law's where the arguments, and the package variables that the reading takes, are together of bulk at most 1048576: NARROWER than '..Said'. Prove '..Said' where nothing that the law and all that it calls make is longer than what came in: it says more and counts as full. Else prove '..UptoSaid'. A law counts once. -/
mutual
def uptoBulk {H : Type} : DataW H → Nat
  | .lit (.string bytes) => bytes.length + 1
  | .lit _ => 1
  | .nil => 1
  | .ptr d => uptoBulk d + 1
  | .slice elems spare => uptoBulkAll elems + uptoBulkAll spare + 1
  | .agg parts => uptoBulkAll parts + 1
  | .iface _ d => uptoBulk d + 1
  | .map entries => uptoBulkEntries entries + 1
  | .held _ => 1
def uptoBulkAll {H : Type} : List (DataW H) → Nat
  | [] => 0
  | d :: r => uptoBulk d + uptoBulkAll r
def uptoBulkEntries {H : Type} : List (Lit × DataW H) → Nat
  | [] => 0
  | x :: r => uptoBulkEntry x + uptoBulkEntries r
def uptoBulkEntry {H : Type} : Lit × DataW H → Nat
  | (.string bytes, d) => bytes.length + uptoBulk d + 1
  | (_, d) => uptoBulk d + 1
 end
def uptoSmall : (H : Type) → List (DataW H) → Bool := fun _ ds => decide (uptoBulkAll ds ≤ 1048576)
def OpenSpec.upto (s : _root_.Go.ChangeSpec) : _root_.Go.OpenSpec := { _root_.Go.OpenSpec.ofChange s with cond := some uptoSmall }

/-- 'bikesharelaw08.RoadTimes', WHERE WHAT IT READS IS OF BULK AT MOST 1048576: true; the input reads as it did. -/
def roadTimesUptoRow : OpenClaim := { program := "ytbmlnjdfnjjjhaa", sum := "e75d7db5f05d7991c0bb3a62ff066736c2c8fe0f5291ae0f63e3c09f67bbceaa", func := "bikeshare/bikesharelaw08.RoadTimes", spec := "roadTimes", unfollowed := true, recurses := true, apart := false, narrowed := true }
def RoadTimesUptoSaid : Prop := roadTimesUptoRow.holds Try.pinned (OpenSpec.upto roadTimesSpec)

/-- 'bikesharelaw08.RoadTables', WHERE WHAT IT READS IS OF BULK AT MOST 1048576: true; the input reads as it did. -/
def roadTablesUptoRow : OpenClaim := { program := "ytbmlnjdfnjjjhaa", sum := "e75d7db5f05d7991c0bb3a62ff066736c2c8fe0f5291ae0f63e3c09f67bbceaa", func := "bikeshare/bikesharelaw08.RoadTables", spec := "roadTables", unfollowed := true, recurses := true, apart := false, narrowed := true }
def RoadTablesUptoSaid : Prop := roadTablesUptoRow.holds Try.pinned (OpenSpec.upto roadTablesSpec)

/-- 'bikesharelaw08.RoadWays', WHERE WHAT IT READS IS OF BULK AT MOST 1048576: true; the input reads as it did. -/
def roadWaysUptoRow : OpenClaim := { program := "ytbmlnjdfnjjjhaa", sum := "e75d7db5f05d7991c0bb3a62ff066736c2c8fe0f5291ae0f63e3c09f67bbceaa", func := "bikeshare/bikesharelaw08.RoadWays", spec := "roadWays", unfollowed := true, recurses := true, apart := false, narrowed := true }
def RoadWaysUptoSaid : Prop := roadWaysUptoRow.holds Try.pinned (OpenSpec.upto roadWaysSpec)

/-- 'bikesharelaw08.RoadFastest', WHERE WHAT IT READS IS OF BULK AT MOST 1048576: true; the input reads as it did. -/
def roadFastestUptoRow : OpenClaim := { program := "ytbmlnjdfnjjjhaa", sum := "e75d7db5f05d7991c0bb3a62ff066736c2c8fe0f5291ae0f63e3c09f67bbceaa", func := "bikeshare/bikesharelaw08.RoadFastest", spec := "roadFastest", unfollowed := true, recurses := true, apart := false, narrowed := true }
def RoadFastestUptoSaid : Prop := roadFastestUptoRow.holds Try.pinned (OpenSpec.upto roadFastestSpec)

/-- 'bikesharelaw08.RoadBest', WHERE WHAT IT READS IS OF BULK AT MOST 1048576: true; the input reads as it did. -/
def roadBestUptoRow : OpenClaim := { program := "ytbmlnjdfnjjjhaa", sum := "e75d7db5f05d7991c0bb3a62ff066736c2c8fe0f5291ae0f63e3c09f67bbceaa", func := "bikeshare/bikesharelaw08.RoadBest", spec := "roadBest", unfollowed := true, recurses := true, apart := false, narrowed := true }
def RoadBestUptoSaid : Prop := roadBestUptoRow.holds Try.pinned (OpenSpec.upto roadBestSpec)

/-- 'bikesharelaw08.RoadMore', WHERE WHAT IT READS IS OF BULK AT MOST 1048576: true; the input reads as it did. -/
def roadMoreUptoRow : OpenClaim := { program := "ytbmlnjdfnjjjhaa", sum := "e75d7db5f05d7991c0bb3a62ff066736c2c8fe0f5291ae0f63e3c09f67bbceaa", func := "bikeshare/bikesharelaw08.RoadMore", spec := "roadMore", unfollowed := true, recurses := true, apart := false, narrowed := true }
def RoadMoreUptoSaid : Prop := roadMoreUptoRow.holds Try.pinned (OpenSpec.upto roadMoreSpec)

end Rows
end Go.Proofs.Ytbmlnjdfnjjjhaa
