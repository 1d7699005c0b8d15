/-
  No cell of these rows narrows 'for every input' (looked for: loops, veiled, ifaces, maps, wideKeys, modest, calm, conditions, laid).
  DERIVED. THE GIVEN ROWS OF THIS SEAT. 7 by the template 'for every input the law returns true; each argument reads behind the call as it read before'; 0 by the template 'total and deterministic' (their statements: YtlnfhlmgnppcbaaGreatTotals.lean).
  GIVEN WITH THE SEED: the statements are not yours to turn. If you find one false, say at which input.
  Laid BY PROGRAM, IN A SANDBOX (cutbox-rows.mjs): the forced cells as the released guide's own fill.sh prints them over the translation ff2cbe7f03e7a942… (all of the seat's roots in one cut). By AI agents, Wed Nov 11 2026. No macro, syntax, notation, axiom, sorry.
-/
import Derived.Test.YtlnfhlmgnppcbaaGreatChecked
import GoSem.Claim
import GoSem.ClaimJoined
import GoSem.ClaimMapViews
import Derived.JoinedTies
import Derived.KernelRfl
namespace Go.Proofs.YtlnfhlmgnppcbaaGreat
/- THE CELL 'sum', in the pinned program and in every row, IS THE sha256 OF THE DUMP (.gsa) THAT YtlnfhlmgnppcbaaGreatProg.lean LOADS. Nothing in Lean hashes anything: it is a label: what it is worth is what the hold of that sum in a sandbox is worth. -/
noncomputable def Tryz.pinned : Pinned := { name := "ytlnfhlmgnppcbaagreat", sum := "ff2cbe7f03e7a9424c26d65f8f36ee0f3ab857497c17908e04e23fdaaccec417", checked := Tryz.checked }
namespace Rows
def none {H : Type} : Left H := { results := [], args := [] }

/-- 'bikesharetop.TopTrucks': WHATEVER THE INPUT: true; the input reads as it did. -/
def topTrucksSpec : ChangeSpec := { name := "topTrucks", fn := fun _ => fun
  | [d1, d2, d3, d4] => { results := [.lit (.bool true)], args := [d1, d2, d3, d4] }
  | _ => none }
def topTrucksRow : OpenClaim := { program := "ytlnfhlmgnppcbaagreat", sum := "ff2cbe7f03e7a9424c26d65f8f36ee0f3ab857497c17908e04e23fdaaccec417", func := "bikeshare/bikesharetop.TopTrucks", spec := "topTrucks", unfollowed := true, recurses := true, apart := false }
def TopTrucksSaid : Prop := topTrucksRow.holds Tryz.pinned (OpenSpec.ofChange topTrucksSpec)

/-- ITS FALSE NEIGHBOUR: 'it returns false'. Refute it at one input. -/
def topTrucksWrong : ChangeSpec := { name := "topTrucks", fn := fun _ => fun
  | [d1, d2, d3, d4] => { results := [.lit (.bool false)], args := [d1, d2, d3, d4] }
  | _ => none }
def TopTrucksWrongFalsely : Prop := topTrucksRow.holds Tryz.pinned (OpenSpec.ofChange topTrucksWrong)

/-- 'bikesharelaw46.CrewRests': WHATEVER THE INPUT: true; the input reads as it did. -/
def crewRestsSpec : ChangeSpec := { name := "crewRests", fn := fun _ => fun
  | [d1, d2, d3, d4] => { results := [.lit (.bool true)], args := [d1, d2, d3, d4] }
  | _ => none }
def crewRestsRow : OpenClaim := { program := "ytlnfhlmgnppcbaagreat", sum := "ff2cbe7f03e7a9424c26d65f8f36ee0f3ab857497c17908e04e23fdaaccec417", func := "bikeshare/bikesharelaw46.CrewRests", spec := "crewRests", unfollowed := true, recurses := true, apart := false }
def CrewRestsSaid : Prop := crewRestsRow.holds Tryz.pinned (OpenSpec.ofChange crewRestsSpec)

/-- ITS FALSE NEIGHBOUR: 'it returns false'. Refute it at one input. -/
def crewRestsWrong : ChangeSpec := { name := "crewRests", fn := fun _ => fun
  | [d1, d2, d3, d4] => { results := [.lit (.bool false)], args := [d1, d2, d3, d4] }
  | _ => none }
def CrewRestsWrongFalsely : Prop := crewRestsRow.holds Tryz.pinned (OpenSpec.ofChange crewRestsWrong)

/-- 'bikesharelaw46.CrewKeeps': WHATEVER THE INPUT: true; the input reads as it did. -/
def crewKeepsSpec : ChangeSpec := { name := "crewKeeps", fn := fun _ => fun
  | [d1, d2, d3, d4] => { results := [.lit (.bool true)], args := [d1, d2, d3, d4] }
  | _ => none }
def crewKeepsRow : OpenClaim := { program := "ytlnfhlmgnppcbaagreat", sum := "ff2cbe7f03e7a9424c26d65f8f36ee0f3ab857497c17908e04e23fdaaccec417", func := "bikeshare/bikesharelaw46.CrewKeeps", spec := "crewKeeps", unfollowed := true, recurses := true, apart := false }
def CrewKeepsSaid : Prop := crewKeepsRow.holds Tryz.pinned (OpenSpec.ofChange crewKeepsSpec)

/-- ITS FALSE NEIGHBOUR: 'it returns false'. Refute it at one input. -/
def crewKeepsWrong : ChangeSpec := { name := "crewKeeps", fn := fun _ => fun
  | [d1, d2, d3, d4] => { results := [.lit (.bool false)], args := [d1, d2, d3, d4] }
  | _ => none }
def CrewKeepsWrongFalsely : Prop := crewKeepsRow.holds Tryz.pinned (OpenSpec.ofChange crewKeepsWrong)

/-- 'bikesharelaw46.CrewMoves': WHATEVER THE INPUT: true; the input reads as it did. -/
def crewMovesSpec : ChangeSpec := { name := "crewMoves", fn := fun _ => fun
  | [d1, d2, d3, d4] => { results := [.lit (.bool true)], args := [d1, d2, d3, d4] }
  | _ => none }
def crewMovesRow : OpenClaim := { program := "ytlnfhlmgnppcbaagreat", sum := "ff2cbe7f03e7a9424c26d65f8f36ee0f3ab857497c17908e04e23fdaaccec417", func := "bikeshare/bikesharelaw46.CrewMoves", spec := "crewMoves", unfollowed := true, recurses := true, apart := false }
def CrewMovesSaid : Prop := crewMovesRow.holds Tryz.pinned (OpenSpec.ofChange crewMovesSpec)

/-- ITS FALSE NEIGHBOUR: 'it returns false'. Refute it at one input. -/
def crewMovesWrong : ChangeSpec := { name := "crewMoves", fn := fun _ => fun
  | [d1, d2, d3, d4] => { results := [.lit (.bool false)], args := [d1, d2, d3, d4] }
  | _ => none }
def CrewMovesWrongFalsely : Prop := crewMovesRow.holds Tryz.pinned (OpenSpec.ofChange crewMovesWrong)

/-- 'bikesharelaw46.CrewDelays': WHATEVER THE INPUT: true; the input reads as it did. -/
def crewDelaysSpec : ChangeSpec := { name := "crewDelays", fn := fun _ => fun
  | [d1, d2, d3, d4] => { results := [.lit (.bool true)], args := [d1, d2, d3, d4] }
  | _ => none }
def crewDelaysRow : OpenClaim := { program := "ytlnfhlmgnppcbaagreat", sum := "ff2cbe7f03e7a9424c26d65f8f36ee0f3ab857497c17908e04e23fdaaccec417", func := "bikeshare/bikesharelaw46.CrewDelays", spec := "crewDelays", unfollowed := true, recurses := true, apart := false }
def CrewDelaysSaid : Prop := crewDelaysRow.holds Tryz.pinned (OpenSpec.ofChange crewDelaysSpec)

/-- ITS FALSE NEIGHBOUR: 'it returns false'. Refute it at one input. -/
def crewDelaysWrong : ChangeSpec := { name := "crewDelays", fn := fun _ => fun
  | [d1, d2, d3, d4] => { results := [.lit (.bool false)], args := [d1, d2, d3, d4] }
  | _ => none }
def CrewDelaysWrongFalsely : Prop := crewDelaysRow.holds Tryz.pinned (OpenSpec.ofChange crewDelaysWrong)

/-- 'bikesharelaw46.CrewCuts': WHATEVER THE INPUT: true; the input reads as it did. -/
def crewCutsSpec : ChangeSpec := { name := "crewCuts", fn := fun _ => fun
  | [d1, d2, d3, d4] => { results := [.lit (.bool true)], args := [d1, d2, d3, d4] }
  | _ => none }
def crewCutsRow : OpenClaim := { program := "ytlnfhlmgnppcbaagreat", sum := "ff2cbe7f03e7a9424c26d65f8f36ee0f3ab857497c17908e04e23fdaaccec417", func := "bikeshare/bikesharelaw46.CrewCuts", spec := "crewCuts", unfollowed := true, recurses := true, apart := false }
def CrewCutsSaid : Prop := crewCutsRow.holds Tryz.pinned (OpenSpec.ofChange crewCutsSpec)

/-- ITS FALSE NEIGHBOUR: 'it returns false'. Refute it at one input. -/
def crewCutsWrong : ChangeSpec := { name := "crewCuts", fn := fun _ => fun
  | [d1, d2, d3, d4] => { results := [.lit (.bool false)], args := [d1, d2, d3, d4] }
  | _ => none }
def CrewCutsWrongFalsely : Prop := crewCutsRow.holds Tryz.pinned (OpenSpec.ofChange crewCutsWrong)

/-- 'bikesharelaw46.CrewLoads': WHATEVER THE INPUT: true; the input reads as it did. -/
def crewLoadsSpec : ChangeSpec := { name := "crewLoads", fn := fun _ => fun
  | [d1, d2, d3, d4] => { results := [.lit (.bool true)], args := [d1, d2, d3, d4] }
  | _ => none }
def crewLoadsRow : OpenClaim := { program := "ytlnfhlmgnppcbaagreat", sum := "ff2cbe7f03e7a9424c26d65f8f36ee0f3ab857497c17908e04e23fdaaccec417", func := "bikeshare/bikesharelaw46.CrewLoads", spec := "crewLoads", unfollowed := true, recurses := true, apart := false }
def CrewLoadsSaid : Prop := crewLoadsRow.holds Tryz.pinned (OpenSpec.ofChange crewLoadsSpec)

/-- ITS FALSE NEIGHBOUR: 'it returns false'. Refute it at one input. -/
def crewLoadsWrong : ChangeSpec := { name := "crewLoads", fn := fun _ => fun
  | [d1, d2, d3, d4] => { results := [.lit (.bool false)], args := [d1, d2, d3, d4] }
  | _ => none }
def CrewLoadsWrongFalsely : Prop := crewLoadsRow.holds Tryz.pinned (OpenSpec.ofChange crewLoadsWrong)

/- THE SECOND FORM. 'bulk': how many values and letters a reading holds, each counted each time it is reached (what is shared counts as often as it is met; a slice's spare places count too). A statement '..UptoSaid' is the law's where the arguments, and the package variables that the reading takes, are together of bulk at most 1048576: NARROWER than '..Said'. Prove '..Said' where nothing that the law and all that it calls make is longer than what came in: it says more and counts as full. Else prove '..UptoSaid'. A law counts once. -/
mutual
def uptoBulk {H : Type} : DataW H → Nat
  | .lit (.string bytes) => bytes.length + 1
  | .lit _ => 1
  | .nil => 1
  | .ptr d => uptoBulk d + 1
  | .slice elems spare => uptoBulkAll elems + uptoBulkAll spare + 1
  | .agg parts => uptoBulkAll parts + 1
  | .iface _ d => uptoBulk d + 1
  | .map entries => uptoBulkEntries entries + 1
  | .held _ => 1
def uptoBulkAll {H : Type} : List (DataW H) → Nat
  | [] => 0
  | d :: r => uptoBulk d + uptoBulkAll r
def uptoBulkEntries {H : Type} : List (Lit × DataW H) → Nat
  | [] => 0
  | x :: r => uptoBulkEntry x + uptoBulkEntries r
def uptoBulkEntry {H : Type} : Lit × DataW H → Nat
  | (.string bytes, d) => bytes.length + uptoBulk d + 1
  | (_, d) => uptoBulk d + 1
 end
def uptoSmall : (H : Type) → List (DataW H) → Bool := fun _ ds => decide (uptoBulkAll ds ≤ 1048576)
def OpenSpec.upto (s : _root_.Go.ChangeSpec) : _root_.Go.OpenSpec := { _root_.Go.OpenSpec.ofChange s with cond := some uptoSmall }

/-- 'bikesharetop.TopTrucks', WHERE WHAT IT READS IS OF BULK AT MOST 1048576: true; the input reads as it did. -/
def topTrucksUptoRow : OpenClaim := { program := "ytlnfhlmgnppcbaagreat", sum := "ff2cbe7f03e7a9424c26d65f8f36ee0f3ab857497c17908e04e23fdaaccec417", func := "bikeshare/bikesharetop.TopTrucks", spec := "topTrucks", unfollowed := true, recurses := true, apart := false, narrowed := true }
def TopTrucksUptoSaid : Prop := topTrucksUptoRow.holds Tryz.pinned (OpenSpec.upto topTrucksSpec)

/-- 'bikesharelaw46.CrewRests', WHERE WHAT IT READS IS OF BULK AT MOST 1048576: true; the input reads as it did. -/
def crewRestsUptoRow : OpenClaim := { program := "ytlnfhlmgnppcbaagreat", sum := "ff2cbe7f03e7a9424c26d65f8f36ee0f3ab857497c17908e04e23fdaaccec417", func := "bikeshare/bikesharelaw46.CrewRests", spec := "crewRests", unfollowed := true, recurses := true, apart := false, narrowed := true }
def CrewRestsUptoSaid : Prop := crewRestsUptoRow.holds Tryz.pinned (OpenSpec.upto crewRestsSpec)

/-- 'bikesharelaw46.CrewKeeps', WHERE WHAT IT READS IS OF BULK AT MOST 1048576: true; the input reads as it did. -/
def crewKeepsUptoRow : OpenClaim := { program := "ytlnfhlmgnppcbaagreat", sum := "ff2cbe7f03e7a9424c26d65f8f36ee0f3ab857497c17908e04e23fdaaccec417", func := "bikeshare/bikesharelaw46.CrewKeeps", spec := "crewKeeps", unfollowed := true, recurses := true, apart := false, narrowed := true }
def CrewKeepsUptoSaid : Prop := crewKeepsUptoRow.holds Tryz.pinned (OpenSpec.upto crewKeepsSpec)

/-- 'bikesharelaw46.CrewMoves', WHERE WHAT IT READS IS OF BULK AT MOST 1048576: true; the input reads as it did. -/
def crewMovesUptoRow : OpenClaim := { program := "ytlnfhlmgnppcbaagreat", sum := "ff2cbe7f03e7a9424c26d65f8f36ee0f3ab857497c17908e04e23fdaaccec417", func := "bikeshare/bikesharelaw46.CrewMoves", spec := "crewMoves", unfollowed := true, recurses := true, apart := false, narrowed := true }
def CrewMovesUptoSaid : Prop := crewMovesUptoRow.holds Tryz.pinned (OpenSpec.upto crewMovesSpec)

/-- 'bikesharelaw46.CrewDelays', WHERE WHAT IT READS IS OF BULK AT MOST 1048576: true; the input reads as it did. -/
def crewDelaysUptoRow : OpenClaim := { program := "ytlnfhlmgnppcbaagreat", sum := "ff2cbe7f03e7a9424c26d65f8f36ee0f3ab857497c17908e04e23fdaaccec417", func := "bikeshare/bikesharelaw46.CrewDelays", spec := "crewDelays", unfollowed := true, recurses := true, apart := false, narrowed := true }
def CrewDelaysUptoSaid : Prop := crewDelaysUptoRow.holds Tryz.pinned (OpenSpec.upto crewDelaysSpec)

/-- 'bikesharelaw46.CrewCuts', WHERE WHAT IT READS IS OF BULK AT MOST 1048576: true; the input reads as it did. -/
def crewCutsUptoRow : OpenClaim := { program := "ytlnfhlmgnppcbaagreat", sum := "ff2cbe7f03e7a9424c26d65f8f36ee0f3ab857497c17908e04e23fdaaccec417", func := "bikeshare/bikesharelaw46.CrewCuts", spec := "crewCuts", unfollowed := true, recurses := true, apart := false, narrowed := true }
def CrewCutsUptoSaid : Prop := crewCutsUptoRow.holds Tryz.pinned (OpenSpec.upto crewCutsSpec)

/-- 'bikesharelaw46.CrewLoads', WHERE WHAT IT READS IS OF BULK AT MOST 1048576: true; the input reads as it did. -/
def crewLoadsUptoRow : OpenClaim := { program := "ytlnfhlmgnppcbaagreat", sum := "ff2cbe7f03e7a9424c26d65f8f36ee0f3ab857497c17908e04e23fdaaccec417", func := "bikeshare/bikesharelaw46.CrewLoads", spec := "crewLoads", unfollowed := true, recurses := true, apart := false, narrowed := true }
def CrewLoadsUptoSaid : Prop := crewLoadsUptoRow.holds Tryz.pinned (OpenSpec.upto crewLoadsSpec)

end Rows
end Go.Proofs.YtlnfhlmgnppcbaaGreat
