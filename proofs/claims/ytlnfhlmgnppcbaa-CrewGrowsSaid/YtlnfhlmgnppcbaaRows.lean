/-
  No cell of these rows narrows 'for every input' (looked for: loops, veiled, ifaces, maps, wideKeys, modest, calm, conditions, laid).
  DERIVED. THE GIVEN ROWS OF THIS SEAT. 9 by the template 'for every input the law returns true; each argument reads behind the call as it read before'; 0 by the template 'total and deterministic' (their statements: YtlnfhlmgnppcbaaTotals.lean).
  GIVEN WITH THE SEED: the statements are not yours to turn. If you find one false, say at which input.
  Laid BY PROGRAM, IN A SANDBOX (cutbox-rows.mjs): the forced cells as the released guide's own fill.sh prints them over the translation 1427809f4396c8da… (all of the seat's roots in one cut). By AI agents, Wed Nov 11 2026. No macro, syntax, notation, axiom, sorry.
-/
import Derived.Test.YtlnfhlmgnppcbaaChecked
import GoSem.Claim
import GoSem.ClaimJoined
import GoSem.ClaimMapViews
import Derived.JoinedTies
import Derived.KernelRfl
namespace Go.Proofs.Ytlnfhlmgnppcbaa
/- THE CELL 'sum', in the pinned program and in every row, IS THE sha256 OF THE DUMP (.gsa) THAT YtlnfhlmgnppcbaaProg.lean LOADS. Nothing in Lean hashes anything: it is a label: what it is worth is what the hold of that sum in a sandbox is worth. -/
noncomputable def Try.pinned : Pinned := { name := "ytlnfhlmgnppcbaa", sum := "1427809f4396c8dac95641bcad365bb3cdcd27c8390ed02327d9412345286d91", checked := Try.checked }
namespace Rows
def none {H : Type} : Left H := { results := [], args := [] }

/-- 'bikesharelaw59.JournalAppends': WHATEVER THE INPUT: true; the input reads as it did. -/
def journalAppendsSpec : ChangeSpec := { name := "journalAppends", fn := fun _ => fun
  | [d1, d2] => { results := [.lit (.bool true)], args := [d1, d2] }
  | _ => none }
def journalAppendsRow : OpenClaim := { program := "ytlnfhlmgnppcbaa", sum := "1427809f4396c8dac95641bcad365bb3cdcd27c8390ed02327d9412345286d91", func := "bikeshare/bikesharelaw59.JournalAppends", spec := "journalAppends", unfollowed := true, recurses := true, apart := false }
def JournalAppendsSaid : Prop := journalAppendsRow.holds Try.pinned (OpenSpec.ofChange journalAppendsSpec)

/-- ITS FALSE NEIGHBOUR: 'it returns false'. Refute it at one input. -/
def journalAppendsWrong : ChangeSpec := { name := "journalAppends", fn := fun _ => fun
  | [d1, d2] => { results := [.lit (.bool false)], args := [d1, d2] }
  | _ => none }
def JournalAppendsWrongFalsely : Prop := journalAppendsRow.holds Try.pinned (OpenSpec.ofChange journalAppendsWrong)

/-- 'bikesharelaw59.JournalWrites': WHATEVER THE INPUT: true; the input reads as it did. -/
def journalWritesSpec : ChangeSpec := { name := "journalWrites", fn := fun _ => fun
  | [d1, d2] => { results := [.lit (.bool true)], args := [d1, d2] }
  | _ => none }
def journalWritesRow : OpenClaim := { program := "ytlnfhlmgnppcbaa", sum := "1427809f4396c8dac95641bcad365bb3cdcd27c8390ed02327d9412345286d91", func := "bikeshare/bikesharelaw59.JournalWrites", spec := "journalWrites", unfollowed := true, recurses := true, apart := false }
def JournalWritesSaid : Prop := journalWritesRow.holds Try.pinned (OpenSpec.ofChange journalWritesSpec)

/-- ITS FALSE NEIGHBOUR: 'it returns false'. Refute it at one input. -/
def journalWritesWrong : ChangeSpec := { name := "journalWrites", fn := fun _ => fun
  | [d1, d2] => { results := [.lit (.bool false)], args := [d1, d2] }
  | _ => none }
def JournalWritesWrongFalsely : Prop := journalWritesRow.holds Try.pinned (OpenSpec.ofChange journalWritesWrong)

/-- 'bikesharelaw59.JournalReads': WHATEVER THE INPUT: true; the input reads as it did. -/
def journalReadsSpec : ChangeSpec := { name := "journalReads", fn := fun _ => fun
  | [d] => { results := [.lit (.bool true)], args := [d] }
  | _ => none }
def journalReadsRow : OpenClaim := { program := "ytlnfhlmgnppcbaa", sum := "1427809f4396c8dac95641bcad365bb3cdcd27c8390ed02327d9412345286d91", func := "bikeshare/bikesharelaw59.JournalReads", spec := "journalReads", unfollowed := true, recurses := true, apart := false }
def JournalReadsSaid : Prop := journalReadsRow.holds Try.pinned (OpenSpec.ofChange journalReadsSpec)

/-- ITS FALSE NEIGHBOUR: 'it returns false'. Refute it at one input. -/
def journalReadsWrong : ChangeSpec := { name := "journalReads", fn := fun _ => fun
  | [d] => { results := [.lit (.bool false)], args := [d] }
  | _ => none }
def JournalReadsWrongFalsely : Prop := journalReadsRow.holds Try.pinned (OpenSpec.ofChange journalReadsWrong)

/-- 'bikesharelaw59.JournalRecovers': WHATEVER THE INPUT: true; the input reads as it did. -/
def journalRecoversSpec : ChangeSpec := { name := "journalRecovers", fn := fun _ => fun
  | [d1, d2] => { results := [.lit (.bool true)], args := [d1, d2] }
  | _ => none }
def journalRecoversRow : OpenClaim := { program := "ytlnfhlmgnppcbaa", sum := "1427809f4396c8dac95641bcad365bb3cdcd27c8390ed02327d9412345286d91", func := "bikeshare/bikesharelaw59.JournalRecovers", spec := "journalRecovers", unfollowed := true, recurses := true, apart := false }
def JournalRecoversSaid : Prop := journalRecoversRow.holds Try.pinned (OpenSpec.ofChange journalRecoversSpec)

/-- ITS FALSE NEIGHBOUR: 'it returns false'. Refute it at one input. -/
def journalRecoversWrong : ChangeSpec := { name := "journalRecovers", fn := fun _ => fun
  | [d1, d2] => { results := [.lit (.bool false)], args := [d1, d2] }
  | _ => none }
def JournalRecoversWrongFalsely : Prop := journalRecoversRow.holds Try.pinned (OpenSpec.ofChange journalRecoversWrong)

/-- 'bikesharelaw59.JournalOne': WHATEVER THE INPUT: true; the input reads as it did. -/
def journalOneSpec : ChangeSpec := { name := "journalOne", fn := fun _ => fun
  | [d] => { results := [.lit (.bool true)], args := [d] }
  | _ => none }
def journalOneRow : OpenClaim := { program := "ytlnfhlmgnppcbaa", sum := "1427809f4396c8dac95641bcad365bb3cdcd27c8390ed02327d9412345286d91", func := "bikeshare/bikesharelaw59.JournalOne", spec := "journalOne", unfollowed := true, recurses := true, apart := false }
def JournalOneSaid : Prop := journalOneRow.holds Try.pinned (OpenSpec.ofChange journalOneSpec)

/-- ITS FALSE NEIGHBOUR: 'it returns false'. Refute it at one input. -/
def journalOneWrong : ChangeSpec := { name := "journalOne", fn := fun _ => fun
  | [d] => { results := [.lit (.bool false)], args := [d] }
  | _ => none }
def JournalOneWrongFalsely : Prop := journalOneRow.holds Try.pinned (OpenSpec.ofChange journalOneWrong)

/-- 'bikesharelaw59.JournalGoes': WHATEVER THE INPUT: true; the input reads as it did. -/
def journalGoesSpec : ChangeSpec := { name := "journalGoes", fn := fun _ => fun
  | [d1, d2] => { results := [.lit (.bool true)], args := [d1, d2] }
  | _ => none }
def journalGoesRow : OpenClaim := { program := "ytlnfhlmgnppcbaa", sum := "1427809f4396c8dac95641bcad365bb3cdcd27c8390ed02327d9412345286d91", func := "bikeshare/bikesharelaw59.JournalGoes", spec := "journalGoes", unfollowed := true, recurses := true, apart := false }
def JournalGoesSaid : Prop := journalGoesRow.holds Try.pinned (OpenSpec.ofChange journalGoesSpec)

/-- ITS FALSE NEIGHBOUR: 'it returns false'. Refute it at one input. -/
def journalGoesWrong : ChangeSpec := { name := "journalGoes", fn := fun _ => fun
  | [d1, d2] => { results := [.lit (.bool false)], args := [d1, d2] }
  | _ => none }
def JournalGoesWrongFalsely : Prop := journalGoesRow.holds Try.pinned (OpenSpec.ofChange journalGoesWrong)

/-- 'bikesharelaw59.JournalSpots': WHATEVER THE INPUT: true; the input reads as it did. -/
def journalSpotsSpec : ChangeSpec := { name := "journalSpots", fn := fun _ => fun
  | [d1, d2, d3] => { results := [.lit (.bool true)], args := [d1, d2, d3] }
  | _ => none }
def journalSpotsRow : OpenClaim := { program := "ytlnfhlmgnppcbaa", sum := "1427809f4396c8dac95641bcad365bb3cdcd27c8390ed02327d9412345286d91", func := "bikeshare/bikesharelaw59.JournalSpots", spec := "journalSpots", unfollowed := true, recurses := true, apart := false }
def JournalSpotsSaid : Prop := journalSpotsRow.holds Try.pinned (OpenSpec.ofChange journalSpotsSpec)

/-- ITS FALSE NEIGHBOUR: 'it returns false'. Refute it at one input. -/
def journalSpotsWrong : ChangeSpec := { name := "journalSpots", fn := fun _ => fun
  | [d1, d2, d3] => { results := [.lit (.bool false)], args := [d1, d2, d3] }
  | _ => none }
def JournalSpotsWrongFalsely : Prop := journalSpotsRow.holds Try.pinned (OpenSpec.ofChange journalSpotsWrong)

/-- 'bikesharelaw46.CrewCarries': WHATEVER THE INPUT: true; the input reads as it did. -/
def crewCarriesSpec : ChangeSpec := { name := "crewCarries", fn := fun _ => fun
  | [d1, d2] => { results := [.lit (.bool true)], args := [d1, d2] }
  | _ => none }
def crewCarriesRow : OpenClaim := { program := "ytlnfhlmgnppcbaa", sum := "1427809f4396c8dac95641bcad365bb3cdcd27c8390ed02327d9412345286d91", func := "bikeshare/bikesharelaw46.CrewCarries", spec := "crewCarries", unfollowed := true, recurses := true, apart := false }
def CrewCarriesSaid : Prop := crewCarriesRow.holds Try.pinned (OpenSpec.ofChange crewCarriesSpec)

/-- ITS FALSE NEIGHBOUR: 'it returns false'. Refute it at one input. -/
def crewCarriesWrong : ChangeSpec := { name := "crewCarries", fn := fun _ => fun
  | [d1, d2] => { results := [.lit (.bool false)], args := [d1, d2] }
  | _ => none }
def CrewCarriesWrongFalsely : Prop := crewCarriesRow.holds Try.pinned (OpenSpec.ofChange crewCarriesWrong)

/-- 'bikesharelaw46.CrewGrows': WHATEVER THE INPUT: true; the input reads as it did. -/
def crewGrowsSpec : ChangeSpec := { name := "crewGrows", fn := fun _ => fun
  | [d1, d2, d3, d4] => { results := [.lit (.bool true)], args := [d1, d2, d3, d4] }
  | _ => none }
def crewGrowsRow : OpenClaim := { program := "ytlnfhlmgnppcbaa", sum := "1427809f4396c8dac95641bcad365bb3cdcd27c8390ed02327d9412345286d91", func := "bikeshare/bikesharelaw46.CrewGrows", spec := "crewGrows", unfollowed := true, recurses := true, apart := false }
def CrewGrowsSaid : Prop := crewGrowsRow.holds Try.pinned (OpenSpec.ofChange crewGrowsSpec)

/-- ITS FALSE NEIGHBOUR: 'it returns false'. Refute it at one input. -/
def crewGrowsWrong : ChangeSpec := { name := "crewGrows", fn := fun _ => fun
  | [d1, d2, d3, d4] => { results := [.lit (.bool false)], args := [d1, d2, d3, d4] }
  | _ => none }
def CrewGrowsWrongFalsely : Prop := crewGrowsRow.holds Try.pinned (OpenSpec.ofChange crewGrowsWrong)

/- THE SECOND FORM. 'bulk': how many values and letters a reading holds, each counted each time it is reached (what is shared counts as often as it is met; a slice's spare places count too). A statement '..UptoSaid' is the law's where the arguments, and the package variables that the reading takes, are together of bulk at most 1048576: NARROWER than '..Said'. Prove '..Said' where nothing that the law and all that it calls make is longer than what came in: it says more and counts as full. Else prove '..UptoSaid'. A law counts once. -/
mutual
def uptoBulk {H : Type} : DataW H → Nat
  | .lit (.string bytes) => bytes.length + 1
  | .lit _ => 1
  | .nil => 1
  | .ptr d => uptoBulk d + 1
  | .slice elems spare => uptoBulkAll elems + uptoBulkAll spare + 1
  | .agg parts => uptoBulkAll parts + 1
  | .iface _ d => uptoBulk d + 1
  | .map entries => uptoBulkEntries entries + 1
  | .held _ => 1
def uptoBulkAll {H : Type} : List (DataW H) → Nat
  | [] => 0
  | d :: r => uptoBulk d + uptoBulkAll r
def uptoBulkEntries {H : Type} : List (Lit × DataW H) → Nat
  | [] => 0
  | x :: r => uptoBulkEntry x + uptoBulkEntries r
def uptoBulkEntry {H : Type} : Lit × DataW H → Nat
  | (.string bytes, d) => bytes.length + uptoBulk d + 1
  | (_, d) => uptoBulk d + 1
 end
def uptoSmall : (H : Type) → List (DataW H) → Bool := fun _ ds => decide (uptoBulkAll ds ≤ 1048576)
def OpenSpec.upto (s : _root_.Go.ChangeSpec) : _root_.Go.OpenSpec := { _root_.Go.OpenSpec.ofChange s with cond := some uptoSmall }

/-- 'bikesharelaw59.JournalAppends', WHERE WHAT IT READS IS OF BULK AT MOST 1048576: true; the input reads as it did. -/
def journalAppendsUptoRow : OpenClaim := { program := "ytlnfhlmgnppcbaa", sum := "1427809f4396c8dac95641bcad365bb3cdcd27c8390ed02327d9412345286d91", func := "bikeshare/bikesharelaw59.JournalAppends", spec := "journalAppends", unfollowed := true, recurses := true, apart := false, narrowed := true }
def JournalAppendsUptoSaid : Prop := journalAppendsUptoRow.holds Try.pinned (OpenSpec.upto journalAppendsSpec)

/-- 'bikesharelaw59.JournalWrites', WHERE WHAT IT READS IS OF BULK AT MOST 1048576: true; the input reads as it did. -/
def journalWritesUptoRow : OpenClaim := { program := "ytlnfhlmgnppcbaa", sum := "1427809f4396c8dac95641bcad365bb3cdcd27c8390ed02327d9412345286d91", func := "bikeshare/bikesharelaw59.JournalWrites", spec := "journalWrites", unfollowed := true, recurses := true, apart := false, narrowed := true }
def JournalWritesUptoSaid : Prop := journalWritesUptoRow.holds Try.pinned (OpenSpec.upto journalWritesSpec)

/-- 'bikesharelaw59.JournalReads', WHERE WHAT IT READS IS OF BULK AT MOST 1048576: true; the input reads as it did. -/
def journalReadsUptoRow : OpenClaim := { program := "ytlnfhlmgnppcbaa", sum := "1427809f4396c8dac95641bcad365bb3cdcd27c8390ed02327d9412345286d91", func := "bikeshare/bikesharelaw59.JournalReads", spec := "journalReads", unfollowed := true, recurses := true, apart := false, narrowed := true }
def JournalReadsUptoSaid : Prop := journalReadsUptoRow.holds Try.pinned (OpenSpec.upto journalReadsSpec)

/-- 'bikesharelaw59.JournalRecovers', WHERE WHAT IT READS IS OF BULK AT MOST 1048576: true; the input reads as it did. -/
def journalRecoversUptoRow : OpenClaim := { program := "ytlnfhlmgnppcbaa", sum := "1427809f4396c8dac95641bcad365bb3cdcd27c8390ed02327d9412345286d91", func := "bikeshare/bikesharelaw59.JournalRecovers", spec := "journalRecovers", unfollowed := true, recurses := true, apart := false, narrowed := true }
def JournalRecoversUptoSaid : Prop := journalRecoversUptoRow.holds Try.pinned (OpenSpec.upto journalRecoversSpec)

/-- 'bikesharelaw59.JournalOne', WHERE WHAT IT READS IS OF BULK AT MOST 1048576: true; the input reads as it did. -/
def journalOneUptoRow : OpenClaim := { program := "ytlnfhlmgnppcbaa", sum := "1427809f4396c8dac95641bcad365bb3cdcd27c8390ed02327d9412345286d91", func := "bikeshare/bikesharelaw59.JournalOne", spec := "journalOne", unfollowed := true, recurses := true, apart := false, narrowed := true }
def JournalOneUptoSaid : Prop := journalOneUptoRow.holds Try.pinned (OpenSpec.upto journalOneSpec)

/-- 'bikesharelaw59.JournalGoes', WHERE WHAT IT READS IS OF BULK AT MOST 1048576: true; the input reads as it did. -/
def journalGoesUptoRow : OpenClaim := { program := "ytlnfhlmgnppcbaa", sum := "1427809f4396c8dac95641bcad365bb3cdcd27c8390ed02327d9412345286d91", func := "bikeshare/bikesharelaw59.JournalGoes", spec := "journalGoes", unfollowed := true, recurses := true, apart := false, narrowed := true }
def JournalGoesUptoSaid : Prop := journalGoesUptoRow.holds Try.pinned (OpenSpec.upto journalGoesSpec)

/-- 'bikesharelaw59.JournalSpots', WHERE WHAT IT READS IS OF BULK AT MOST 1048576: true; the input reads as it did. -/
def journalSpotsUptoRow : OpenClaim := { program := "ytlnfhlmgnppcbaa", sum := "1427809f4396c8dac95641bcad365bb3cdcd27c8390ed02327d9412345286d91", func := "bikeshare/bikesharelaw59.JournalSpots", spec := "journalSpots", unfollowed := true, recurses := true, apart := false, narrowed := true }
def JournalSpotsUptoSaid : Prop := journalSpotsUptoRow.holds Try.pinned (OpenSpec.upto journalSpotsSpec)

/-- 'bikesharelaw46.CrewCarries', WHERE WHAT IT READS IS OF BULK AT MOST 1048576: true; the input reads as it did. -/
def crewCarriesUptoRow : OpenClaim := { program := "ytlnfhlmgnppcbaa", sum := "1427809f4396c8dac95641bcad365bb3cdcd27c8390ed02327d9412345286d91", func := "bikeshare/bikesharelaw46.CrewCarries", spec := "crewCarries", unfollowed := true, recurses := true, apart := false, narrowed := true }
def CrewCarriesUptoSaid : Prop := crewCarriesUptoRow.holds Try.pinned (OpenSpec.upto crewCarriesSpec)

/-- 'bikesharelaw46.CrewGrows', WHERE WHAT IT READS IS OF BULK AT MOST 1048576: true; the input reads as it did. -/
def crewGrowsUptoRow : OpenClaim := { program := "ytlnfhlmgnppcbaa", sum := "1427809f4396c8dac95641bcad365bb3cdcd27c8390ed02327d9412345286d91", func := "bikeshare/bikesharelaw46.CrewGrows", spec := "crewGrows", unfollowed := true, recurses := true, apart := false, narrowed := true }
def CrewGrowsUptoSaid : Prop := crewGrowsUptoRow.holds Try.pinned (OpenSpec.upto crewGrowsSpec)

end Rows
end Go.Proofs.Ytlnfhlmgnppcbaa
