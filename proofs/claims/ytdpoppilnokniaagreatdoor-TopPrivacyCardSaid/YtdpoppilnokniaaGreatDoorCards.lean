/-
  DERIVED. GIVEN WITH THE SEED: THE CARDS: each row of YtdpoppilnokniaaGreatDoorRows.lean that lists a variable, with what it lists TIED to the program's text (the seventh form; the later family's looks); each row that meets fmt, with fmt's text TOLD by the authors' own Lean function (tested against real Go, not proved from fmt's source: count such statements apart). THE CARD IS WHAT COUNTS. Prove the row's statement (the work); the ties are given (YtdpoppilnokniaaGreatDoorTie.lean); close each card by the builder's one call (the guide's Derived/Test/ToyasCard.lean, 'card_holds'). Laid BY PROGRAM, IN A SANDBOX (cutbox-door.mjs). By AI agents, Wed Nov 11 2026. No macro, syntax, notation, axiom, sorry.
-/
import Derived.Test.YtdpoppilnokniaaGreatDoorRows
import GoSem.ClaimSeven
namespace Go.Proofs.YtdpoppilnokniaaGreatDoor
namespace Rows

/-- THE TIED CARD OF 'bikesharetop.TopHidden'. -/
def topHiddenCard : Claim7 := { stood := { row := topHiddenRow, standIns := [], harness := (true, "c68fe3bd25fb60162701d044db8fea2212e99d826dbb8eabe44e5d170bfb38aa"), looks := false }, kinds := [], alts := [], laidByText := true, laidKinds := [.data], laidTests := true, laidLooks := .later }
def TopHiddenCardSaid : Prop := Claim7.holds Tryz.pinned (.plain (OpenSpec.ofChange topHiddenSpec)) topHiddenCard

/-- THE TIED CARD OF 'bikesharetop.TopPrivacy'. -/
def topPrivacyCard : Claim7 := { stood := { row := topPrivacyRow, standIns := [], harness := (true, "c68fe3bd25fb60162701d044db8fea2212e99d826dbb8eabe44e5d170bfb38aa"), looks := false }, kinds := [], alts := [], laidByText := true, laidKinds := [.data], laidTests := true, laidLooks := .later }
def TopPrivacyCardSaid : Prop := Claim7.holds Tryz.pinned (.plain (OpenSpec.ofChange topPrivacySpec)) topPrivacyCard

/-- THE SECOND FORM's CARD OF 'bikesharetop.TopHidden'. -/
def topHiddenUptoCard : Claim7 := { stood := { row := topHiddenUptoRow, standIns := [], harness := (true, "c68fe3bd25fb60162701d044db8fea2212e99d826dbb8eabe44e5d170bfb38aa"), looks := false }, kinds := [], alts := [], laidByText := true, laidKinds := [.data], laidTests := true, laidLooks := .later }
def TopHiddenUptoCardSaid : Prop := Claim7.holds Tryz.pinned (.plain (OpenSpec.upto topHiddenSpec)) topHiddenUptoCard

/-- THE SECOND FORM's CARD OF 'bikesharetop.TopPrivacy'. -/
def topPrivacyUptoCard : Claim7 := { stood := { row := topPrivacyUptoRow, standIns := [], harness := (true, "c68fe3bd25fb60162701d044db8fea2212e99d826dbb8eabe44e5d170bfb38aa"), looks := false }, kinds := [], alts := [], laidByText := true, laidKinds := [.data], laidTests := true, laidLooks := .later }
def TopPrivacyUptoCardSaid : Prop := Claim7.holds Tryz.pinned (.plain (OpenSpec.upto topPrivacySpec)) topPrivacyUptoCard
end Rows
end Go.Proofs.YtdpoppilnokniaaGreatDoor
