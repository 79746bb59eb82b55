/-
  DERIVED. GIVEN WITH THE SEED: THE CARDS: each row of YtifhjkbiiekamaaGreatDoorRows.lean that lists a variable, with what it lists TIED to the program's text (the seventh form; the later family's looks); each row that meets fmt, with fmt's text TOLD by the authors' own Lean function (tested against real Go, not proved from fmt's source: count such statements apart). THE CARD IS WHAT COUNTS. Prove the row's statement (the work); the ties are given (YtifhjkbiiekamaaGreatDoorTie.lean); close each card by the builder's one call (the guide's Derived/Test/ToyasCard.lean, 'card_holds'). Laid BY PROGRAM, IN A SANDBOX (cutbox-door.mjs). By AI agents, Wed Nov 11 2026. No macro, syntax, notation, axiom, sorry.
-/
import Derived.Test.YtifhjkbiiekamaaGreatDoorRows
import GoSem.ClaimSeven
namespace Go.Proofs.YtifhjkbiiekamaaGreatDoor
namespace Rows

/-- THE TIED CARD OF 'cinderlaw.VerifyMethods'. -/
def verifyMethodsCard : Claim7 := { stood := { row := verifyMethodsRow, standIns := [], harness := (true, "affe130d52dcfd4e82a5b6583a3036dedeecf1e8e63ee59a805c231bb144f054"), looks := true }, kinds := [], alts := [], laidByText := true, laidKinds := [.wider, .data, .data, .data, .data, .data], laidTests := true, laidLooks := .later }
def VerifyMethodsCardSaid : Prop := Claim7.holds Tryz.pinned (.plain (OpenSpec.ofChange verifyMethodsSpec)) verifyMethodsCard

/-- THE TIED CARD OF 'cinderlaw.VerifyAlls'. -/
def verifyAllsCard : Claim7 := { stood := { row := verifyAllsRow, standIns := [], harness := (true, "affe130d52dcfd4e82a5b6583a3036dedeecf1e8e63ee59a805c231bb144f054"), looks := true }, kinds := [], alts := [], laidByText := true, laidKinds := [.wider, .data, .data, .data, .data, .data], laidTests := true, laidLooks := .later }
def VerifyAllsCardSaid : Prop := Claim7.holds Tryz.pinned (.plain (OpenSpec.ofChange verifyAllsSpec)) verifyAllsCard

/-- THE TIED CARD OF 'cinderlaw.VerifyFits'. -/
def verifyFitsCard : Claim7 := { stood := { row := verifyFitsRow, standIns := [], harness := (true, "affe130d52dcfd4e82a5b6583a3036dedeecf1e8e63ee59a805c231bb144f054"), looks := true }, kinds := [], alts := [], laidByText := true, laidKinds := [.wider, .data, .data, .data, .data, .data], laidTests := true, laidLooks := .later }
def VerifyFitsCardSaid : Prop := Claim7.holds Tryz.pinned (.plain (OpenSpec.ofChange verifyFitsSpec)) verifyFitsCard

/-- THE SECOND FORM's CARD OF 'cinderlaw.VerifyMethods'. -/
def verifyMethodsUptoCard : Claim7 := { stood := { row := verifyMethodsUptoRow, standIns := [], harness := (true, "affe130d52dcfd4e82a5b6583a3036dedeecf1e8e63ee59a805c231bb144f054"), looks := true }, kinds := [], alts := [], laidByText := true, laidKinds := [.wider, .data, .data, .data, .data, .data], laidTests := true, laidLooks := .later }
def VerifyMethodsUptoCardSaid : Prop := Claim7.holds Tryz.pinned (.plain (OpenSpec.upto verifyMethodsSpec)) verifyMethodsUptoCard

/-- THE SECOND FORM's CARD OF 'cinderlaw.VerifyAlls'. -/
def verifyAllsUptoCard : Claim7 := { stood := { row := verifyAllsUptoRow, standIns := [], harness := (true, "affe130d52dcfd4e82a5b6583a3036dedeecf1e8e63ee59a805c231bb144f054"), looks := true }, kinds := [], alts := [], laidByText := true, laidKinds := [.wider, .data, .data, .data, .data, .data], laidTests := true, laidLooks := .later }
def VerifyAllsUptoCardSaid : Prop := Claim7.holds Tryz.pinned (.plain (OpenSpec.upto verifyAllsSpec)) verifyAllsUptoCard

/-- THE SECOND FORM's CARD OF 'cinderlaw.VerifyFits'. -/
def verifyFitsUptoCard : Claim7 := { stood := { row := verifyFitsUptoRow, standIns := [], harness := (true, "affe130d52dcfd4e82a5b6583a3036dedeecf1e8e63ee59a805c231bb144f054"), looks := true }, kinds := [], alts := [], laidByText := true, laidKinds := [.wider, .data, .data, .data, .data, .data], laidTests := true, laidLooks := .later }
def VerifyFitsUptoCardSaid : Prop := Claim7.holds Tryz.pinned (.plain (OpenSpec.upto verifyFitsSpec)) verifyFitsUptoCard
end Rows
end Go.Proofs.YtifhjkbiiekamaaGreatDoor
