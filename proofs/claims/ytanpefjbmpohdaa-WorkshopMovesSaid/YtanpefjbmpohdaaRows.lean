/-
  No cell of these rows narrows 'for every input' (looked for: loops, veiled, ifaces, maps, wideKeys, modest, calm, conditions, laid).
  DERIVED. THE GIVEN ROWS OF THIS SEAT. 6 by the template 'for every input the law returns true; each argument reads behind the call as it read before'; 0 by the template 'total and deterministic' (their statements: YtanpefjbmpohdaaTotals.lean).
  GIVEN WITH THE SEED: the statements are not yours to turn. If you find one false, say at which input.
  Laid BY PROGRAM, IN A SANDBOX (cutbox-rows.mjs): the forced cells as the released guide's own fill.sh prints them over the translation 59451193639e6046… (all of the seat's roots in one cut). By AI agents, Wed Nov 11 2026. No macro, syntax, notation, axiom, sorry.
-/
import Derived.Test.YtanpefjbmpohdaaChecked
import GoSem.Claim
import GoSem.ClaimJoined
import GoSem.ClaimMapViews
import Derived.JoinedTies
import Derived.KernelRfl
namespace Go.Proofs.Ytanpefjbmpohdaa
/- THE CELL 'sum', in the pinned program and in every row, IS THE sha256 OF THE DUMP (.gsa) THAT YtanpefjbmpohdaaProg.lean LOADS. Nothing in Lean hashes anything: it is a label: what it is worth is what the hold of that sum in a sandbox is worth. -/
noncomputable def Try.pinned : Pinned := { name := "ytanpefjbmpohdaa", sum := "59451193639e6046060f20067a0dcb8191369ce0a409086f699d1dcd8f37308f", checked := Try.checked }
namespace Rows
def none {H : Type} : Left H := { results := [], args := [] }

/-- 'bikesharelaw50.WorkshopPlans': WHATEVER THE INPUT: true; the input reads as it did. -/
def workshopPlansSpec : ChangeSpec := { name := "workshopPlans", fn := fun _ => fun
  | [d1, d2] => { results := [.lit (.bool true)], args := [d1, d2] }
  | _ => none }
def workshopPlansRow : OpenClaim := { program := "ytanpefjbmpohdaa", sum := "59451193639e6046060f20067a0dcb8191369ce0a409086f699d1dcd8f37308f", func := "bikeshare/bikesharelaw50.WorkshopPlans", spec := "workshopPlans", unfollowed := true, recurses := true, apart := false }
def WorkshopPlansSaid : Prop := workshopPlansRow.holds Try.pinned (OpenSpec.ofChange workshopPlansSpec)

/-- ITS FALSE NEIGHBOUR: 'it returns false'. Refute it at one input. -/
def workshopPlansWrong : ChangeSpec := { name := "workshopPlans", fn := fun _ => fun
  | [d1, d2] => { results := [.lit (.bool false)], args := [d1, d2] }
  | _ => none }
def WorkshopPlansWrongFalsely : Prop := workshopPlansRow.holds Try.pinned (OpenSpec.ofChange workshopPlansWrong)

/-- 'bikesharelaw50.WorkshopValids': WHATEVER THE INPUT: true; the input reads as it did. -/
def workshopValidsSpec : ChangeSpec := { name := "workshopValids", fn := fun _ => fun
  | [d1, d2, d3] => { results := [.lit (.bool true)], args := [d1, d2, d3] }
  | _ => none }
def workshopValidsRow : OpenClaim := { program := "ytanpefjbmpohdaa", sum := "59451193639e6046060f20067a0dcb8191369ce0a409086f699d1dcd8f37308f", func := "bikeshare/bikesharelaw50.WorkshopValids", spec := "workshopValids", unfollowed := true, recurses := true, apart := false }
def WorkshopValidsSaid : Prop := workshopValidsRow.holds Try.pinned (OpenSpec.ofChange workshopValidsSpec)

/-- ITS FALSE NEIGHBOUR: 'it returns false'. Refute it at one input. -/
def workshopValidsWrong : ChangeSpec := { name := "workshopValids", fn := fun _ => fun
  | [d1, d2, d3] => { results := [.lit (.bool false)], args := [d1, d2, d3] }
  | _ => none }
def WorkshopValidsWrongFalsely : Prop := workshopValidsRow.holds Try.pinned (OpenSpec.ofChange workshopValidsWrong)

/-- 'bikesharelaw50.WorkshopBounds': WHATEVER THE INPUT: true; the input reads as it did. -/
def workshopBoundsSpec : ChangeSpec := { name := "workshopBounds", fn := fun _ => fun
  | [d1, d2] => { results := [.lit (.bool true)], args := [d1, d2] }
  | _ => none }
def workshopBoundsRow : OpenClaim := { program := "ytanpefjbmpohdaa", sum := "59451193639e6046060f20067a0dcb8191369ce0a409086f699d1dcd8f37308f", func := "bikeshare/bikesharelaw50.WorkshopBounds", spec := "workshopBounds", unfollowed := true, recurses := true, apart := false }
def WorkshopBoundsSaid : Prop := workshopBoundsRow.holds Try.pinned (OpenSpec.ofChange workshopBoundsSpec)

/-- ITS FALSE NEIGHBOUR: 'it returns false'. Refute it at one input. -/
def workshopBoundsWrong : ChangeSpec := { name := "workshopBounds", fn := fun _ => fun
  | [d1, d2] => { results := [.lit (.bool false)], args := [d1, d2] }
  | _ => none }
def WorkshopBoundsWrongFalsely : Prop := workshopBoundsRow.holds Try.pinned (OpenSpec.ofChange workshopBoundsWrong)

/-- 'bikesharelaw50.WorkshopBound': WHATEVER THE INPUT: true; the input reads as it did. -/
def workshopBoundSpec : ChangeSpec := { name := "workshopBound", fn := fun _ => fun
  | [d1, d2, d3] => { results := [.lit (.bool true)], args := [d1, d2, d3] }
  | _ => none }
def workshopBoundRow : OpenClaim := { program := "ytanpefjbmpohdaa", sum := "59451193639e6046060f20067a0dcb8191369ce0a409086f699d1dcd8f37308f", func := "bikeshare/bikesharelaw50.WorkshopBound", spec := "workshopBound", unfollowed := true, recurses := true, apart := false }
def WorkshopBoundSaid : Prop := workshopBoundRow.holds Try.pinned (OpenSpec.ofChange workshopBoundSpec)

/-- ITS FALSE NEIGHBOUR: 'it returns false'. Refute it at one input. -/
def workshopBoundWrong : ChangeSpec := { name := "workshopBound", fn := fun _ => fun
  | [d1, d2, d3] => { results := [.lit (.bool false)], args := [d1, d2, d3] }
  | _ => none }
def WorkshopBoundWrongFalsely : Prop := workshopBoundRow.holds Try.pinned (OpenSpec.ofChange workshopBoundWrong)

/-- 'bikesharelaw50.WorkshopBusy': WHATEVER THE INPUT: true; the input reads as it did. -/
def workshopBusySpec : ChangeSpec := { name := "workshopBusy", fn := fun _ => fun
  | [d1, d2] => { results := [.lit (.bool true)], args := [d1, d2] }
  | _ => none }
def workshopBusyRow : OpenClaim := { program := "ytanpefjbmpohdaa", sum := "59451193639e6046060f20067a0dcb8191369ce0a409086f699d1dcd8f37308f", func := "bikeshare/bikesharelaw50.WorkshopBusy", spec := "workshopBusy", unfollowed := true, recurses := true, apart := false }
def WorkshopBusySaid : Prop := workshopBusyRow.holds Try.pinned (OpenSpec.ofChange workshopBusySpec)

/-- ITS FALSE NEIGHBOUR: 'it returns false'. Refute it at one input. -/
def workshopBusyWrong : ChangeSpec := { name := "workshopBusy", fn := fun _ => fun
  | [d1, d2] => { results := [.lit (.bool false)], args := [d1, d2] }
  | _ => none }
def WorkshopBusyWrongFalsely : Prop := workshopBusyRow.holds Try.pinned (OpenSpec.ofChange workshopBusyWrong)

/-- 'bikesharelaw50.WorkshopMoves': WHATEVER THE INPUT: true; the input reads as it did. -/
def workshopMovesSpec : ChangeSpec := { name := "workshopMoves", fn := fun _ => fun
  | [d1, d2, d3] => { results := [.lit (.bool true)], args := [d1, d2, d3] }
  | _ => none }
def workshopMovesRow : OpenClaim := { program := "ytanpefjbmpohdaa", sum := "59451193639e6046060f20067a0dcb8191369ce0a409086f699d1dcd8f37308f", func := "bikeshare/bikesharelaw50.WorkshopMoves", spec := "workshopMoves", unfollowed := true, recurses := true, apart := false }
def WorkshopMovesSaid : Prop := workshopMovesRow.holds Try.pinned (OpenSpec.ofChange workshopMovesSpec)

/-- ITS FALSE NEIGHBOUR: 'it returns false'. Refute it at one input. -/
def workshopMovesWrong : ChangeSpec := { name := "workshopMoves", fn := fun _ => fun
  | [d1, d2, d3] => { results := [.lit (.bool false)], args := [d1, d2, d3] }
  | _ => none }
def WorkshopMovesWrongFalsely : Prop := workshopMovesRow.holds Try.pinned (OpenSpec.ofChange workshopMovesWrong)

/- THE SECOND FORM. 'bulk': how many values and letters a reading holds, each counted each time it is reached (what is shared counts as often as it is met; a slice's spare places count too). A statement '..UptoSaid' is the law's where the arguments, and the package variables that the reading takes, are together of bulk at most 1048576: NARROWER than '..Said'. Prove '..Said' where nothing that the law and all that it calls make is longer than what came in: it says more and counts as full. Else prove '..UptoSaid'. A law counts once. -/
mutual
def uptoBulk {H : Type} : DataW H → Nat
  | .lit (.string bytes) => bytes.length + 1
  | .lit _ => 1
  | .nil => 1
  | .ptr d => uptoBulk d + 1
  | .slice elems spare => uptoBulkAll elems + uptoBulkAll spare + 1
  | .agg parts => uptoBulkAll parts + 1
  | .iface _ d => uptoBulk d + 1
  | .map entries => uptoBulkEntries entries + 1
  | .held _ => 1
def uptoBulkAll {H : Type} : List (DataW H) → Nat
  | [] => 0
  | d :: r => uptoBulk d + uptoBulkAll r
def uptoBulkEntries {H : Type} : List (Lit × DataW H) → Nat
  | [] => 0
  | x :: r => uptoBulkEntry x + uptoBulkEntries r
def uptoBulkEntry {H : Type} : Lit × DataW H → Nat
  | (.string bytes, d) => bytes.length + uptoBulk d + 1
  | (_, d) => uptoBulk d + 1
 end
def uptoSmall : (H : Type) → List (DataW H) → Bool := fun _ ds => decide (uptoBulkAll ds ≤ 1048576)
def OpenSpec.upto (s : _root_.Go.ChangeSpec) : _root_.Go.OpenSpec := { _root_.Go.OpenSpec.ofChange s with cond := some uptoSmall }

/-- 'bikesharelaw50.WorkshopPlans', WHERE WHAT IT READS IS OF BULK AT MOST 1048576: true; the input reads as it did. -/
def workshopPlansUptoRow : OpenClaim := { program := "ytanpefjbmpohdaa", sum := "59451193639e6046060f20067a0dcb8191369ce0a409086f699d1dcd8f37308f", func := "bikeshare/bikesharelaw50.WorkshopPlans", spec := "workshopPlans", unfollowed := true, recurses := true, apart := false, narrowed := true }
def WorkshopPlansUptoSaid : Prop := workshopPlansUptoRow.holds Try.pinned (OpenSpec.upto workshopPlansSpec)

/-- 'bikesharelaw50.WorkshopValids', WHERE WHAT IT READS IS OF BULK AT MOST 1048576: true; the input reads as it did. -/
def workshopValidsUptoRow : OpenClaim := { program := "ytanpefjbmpohdaa", sum := "59451193639e6046060f20067a0dcb8191369ce0a409086f699d1dcd8f37308f", func := "bikeshare/bikesharelaw50.WorkshopValids", spec := "workshopValids", unfollowed := true, recurses := true, apart := false, narrowed := true }
def WorkshopValidsUptoSaid : Prop := workshopValidsUptoRow.holds Try.pinned (OpenSpec.upto workshopValidsSpec)

/-- 'bikesharelaw50.WorkshopBounds', WHERE WHAT IT READS IS OF BULK AT MOST 1048576: true; the input reads as it did. -/
def workshopBoundsUptoRow : OpenClaim := { program := "ytanpefjbmpohdaa", sum := "59451193639e6046060f20067a0dcb8191369ce0a409086f699d1dcd8f37308f", func := "bikeshare/bikesharelaw50.WorkshopBounds", spec := "workshopBounds", unfollowed := true, recurses := true, apart := false, narrowed := true }
def WorkshopBoundsUptoSaid : Prop := workshopBoundsUptoRow.holds Try.pinned (OpenSpec.upto workshopBoundsSpec)

/-- 'bikesharelaw50.WorkshopBound', WHERE WHAT IT READS IS OF BULK AT MOST 1048576: true; the input reads as it did. -/
def workshopBoundUptoRow : OpenClaim := { program := "ytanpefjbmpohdaa", sum := "59451193639e6046060f20067a0dcb8191369ce0a409086f699d1dcd8f37308f", func := "bikeshare/bikesharelaw50.WorkshopBound", spec := "workshopBound", unfollowed := true, recurses := true, apart := false, narrowed := true }
def WorkshopBoundUptoSaid : Prop := workshopBoundUptoRow.holds Try.pinned (OpenSpec.upto workshopBoundSpec)

/-- 'bikesharelaw50.WorkshopBusy', WHERE WHAT IT READS IS OF BULK AT MOST 1048576: true; the input reads as it did. -/
def workshopBusyUptoRow : OpenClaim := { program := "ytanpefjbmpohdaa", sum := "59451193639e6046060f20067a0dcb8191369ce0a409086f699d1dcd8f37308f", func := "bikeshare/bikesharelaw50.WorkshopBusy", spec := "workshopBusy", unfollowed := true, recurses := true, apart := false, narrowed := true }
def WorkshopBusyUptoSaid : Prop := workshopBusyUptoRow.holds Try.pinned (OpenSpec.upto workshopBusySpec)

/-- 'bikesharelaw50.WorkshopMoves', WHERE WHAT IT READS IS OF BULK AT MOST 1048576: true; the input reads as it did. -/
def workshopMovesUptoRow : OpenClaim := { program := "ytanpefjbmpohdaa", sum := "59451193639e6046060f20067a0dcb8191369ce0a409086f699d1dcd8f37308f", func := "bikeshare/bikesharelaw50.WorkshopMoves", spec := "workshopMoves", unfollowed := true, recurses := true, apart := false, narrowed := true }
def WorkshopMovesUptoSaid : Prop := workshopMovesUptoRow.holds Try.pinned (OpenSpec.upto workshopMovesSpec)

end Rows
end Go.Proofs.Ytanpefjbmpohdaa
