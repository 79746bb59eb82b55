/-
  DERIVED. GIVEN WITH THE SEED: THE CARDS: each row of YtifhjkbiiekamaaDoorRows.lean that lists a variable, with what it lists TIED to the program's text (the seventh form; the later family's looks); each row that meets fmt, with fmt's text TOLD by the authors' own Lean function (tested against real Go, not proved from fmt's source: count such statements apart). THE CARD IS WHAT COUNTS. Prove the row's statement (the work); the ties are given (YtifhjkbiiekamaaDoorTie.lean); close each card by the builder's one call (the guide's Derived/Test/ToyasCard.lean, 'card_holds'). Laid BY PROGRAM, IN A SANDBOX (cutbox-door.mjs). By AI agents, Wed Nov 11 2026. No macro, syntax, notation, axiom, sorry.
-/
import Derived.Test.YtifhjkbiiekamaaDoorRows
import GoSem.ClaimSeven
namespace Go.Proofs.YtifhjkbiiekamaaDoor
namespace Rows

/-- THE TIED CARD OF 'cinderlaw.VerifyHolds'. -/
def verifyHoldsCard : Claim7 := { stood := { row := verifyHoldsRow, standIns := [], harness := (true, "ff314c3d0cd4d9dc98e92137b83f789ba32ccf7a5ec6ec8d65c5c59e3c50e364"), looks := true }, kinds := [], alts := [], laidByText := true, laidKinds := [.wider, .data, .data, .data, .data, .data], laidTests := true, laidLooks := .later }
def VerifyHoldsCardSaid : Prop := Claim7.holds Tryd.pinned (.plain (OpenSpec.ofChange verifyHoldsSpec)) verifyHoldsCard

/-- THE TIED CARD OF 'cinderlaw.VerifyLeast'. -/
def verifyLeastCard : Claim7 := { stood := { row := verifyLeastRow, standIns := [], harness := (true, "ff314c3d0cd4d9dc98e92137b83f789ba32ccf7a5ec6ec8d65c5c59e3c50e364"), looks := true }, kinds := [], alts := [], laidByText := true, laidKinds := [.wider, .data, .data, .data, .data, .data], laidTests := true, laidLooks := .later }
def VerifyLeastCardSaid : Prop := Claim7.holds Tryd.pinned (.plain (OpenSpec.ofChange verifyLeastSpec)) verifyLeastCard

/-- THE SECOND FORM's CARD OF 'cinderlaw.VerifyHolds'. -/
def verifyHoldsUptoCard : Claim7 := { stood := { row := verifyHoldsUptoRow, standIns := [], harness := (true, "ff314c3d0cd4d9dc98e92137b83f789ba32ccf7a5ec6ec8d65c5c59e3c50e364"), looks := true }, kinds := [], alts := [], laidByText := true, laidKinds := [.wider, .data, .data, .data, .data, .data], laidTests := true, laidLooks := .later }
def VerifyHoldsUptoCardSaid : Prop := Claim7.holds Tryd.pinned (.plain (OpenSpec.upto verifyHoldsSpec)) verifyHoldsUptoCard

/-- THE SECOND FORM's CARD OF 'cinderlaw.VerifyLeast'. -/
def verifyLeastUptoCard : Claim7 := { stood := { row := verifyLeastUptoRow, standIns := [], harness := (true, "ff314c3d0cd4d9dc98e92137b83f789ba32ccf7a5ec6ec8d65c5c59e3c50e364"), looks := true }, kinds := [], alts := [], laidByText := true, laidKinds := [.wider, .data, .data, .data, .data, .data], laidTests := true, laidLooks := .later }
def VerifyLeastUptoCardSaid : Prop := Claim7.holds Tryd.pinned (.plain (OpenSpec.upto verifyLeastSpec)) verifyLeastUptoCard
end Rows
end Go.Proofs.YtifhjkbiiekamaaDoor
