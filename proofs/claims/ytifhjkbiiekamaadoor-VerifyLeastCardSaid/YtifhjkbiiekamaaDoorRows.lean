/-
  NARROWER THAN 'FOR EVERY INPUT', by the rows' own cells (each row's printed sentence says how): VerifyHolds: laid · VerifyLeast: laid.
  DERIVED. THE GIVEN ROWS OF THIS SEAT. 2 by the template 'for every input the law returns true; each argument reads behind the call as it read before'; 0 by the template 'total and deterministic' (their statements: YtifhjkbiiekamaaDoorTotals.lean).
  GIVEN WITH THE SEED: the statements are not yours to turn. If you find one false, say at which input.
  Laid BY PROGRAM, IN A SANDBOX (cutbox-rows.mjs): the forced cells as the released guide's own fill.sh prints them over the translation 395df1aedc7912e8… (all of the seat's roots in one cut). By AI agents, Wed Nov 11 2026. No macro, syntax, notation, axiom, sorry.
-/
import Derived.Test.YtifhjkbiiekamaaDoorChecked
import GoSem.Claim
import GoSem.ClaimJoined
import GoSem.ClaimMapViews
import Derived.JoinedTies
import Derived.KernelRfl
namespace Go.Proofs.YtifhjkbiiekamaaDoor
/- THE CELL 'sum', in the pinned program and in every row, IS THE sha256 OF THE DUMP (.gsa) THAT YtifhjkbiiekamaaDoorProg.lean LOADS. Nothing in Lean hashes anything: it is a label: what it is worth is what the hold of that sum in a sandbox is worth. -/
noncomputable def Tryd.pinned : Pinned := { name := "ytifhjkbiiekamaadoor", sum := "395df1aedc7912e8735cf6373fa3d8731fab47294dcb85ead8908b47038b48d2", checked := Tryd.checked }
namespace Rows
def none {H : Type} : Left H := { results := [], args := [] }

/- WHAT THE LISTED PACKAGE-LEVEL VARIABLES READ AS WHEN THE CALL BEGINS. Each datum BY PROGRAM (the guide's laid-datum.mjs) off the statement by which the dump's own 'gosem.cut.vars' lays the variable. In a bare row this is a premise. The card (YtifhjkbiiekamaaDoorCards.lean) ties it to the program's text. -/
def laid_cinder_code_shapes {H : Type} : DataW H := .agg [.lit (.int .i64 0), .lit (.int .i64 1), .lit (.int .i64 0), .lit (.int .i64 3), .lit (.int .i64 3), .lit (.int .i64 0), .lit (.int .i64 0), .lit (.int .i64 0), .lit (.int .i64 0), .lit (.int .i64 0), .lit (.int .i64 0), .lit (.int .i64 0), .lit (.int .i64 0), .lit (.int .i64 2), .lit (.int .i64 2), .lit (.int .i64 2), .lit (.int .i64 2), .lit (.int .i64 2), .lit (.int .i64 3), .lit (.int .i64 4), .lit (.int .i64 4), .lit (.int .i64 0), .lit (.int .i64 3), .lit (.int .i64 0), .lit (.int .i64 0), .lit (.int .i64 0), .lit (.int .i64 4), .lit (.int .i64 0), .lit (.int .i64 0), .lit (.int .i64 3), .lit (.int .i64 3), .lit (.int .i64 0), .lit (.int .i64 0), .lit (.int .i64 0), .lit (.int .i64 4), .lit (.int .i64 0), .lit (.int .i64 0)]
def laid_cinder_verify_number {H : Type} : DataW H := .agg [.lit (.int .i64 1), .lit (.string [])]
def laid_cinder_verify_row {H : Type} : DataW H := .agg [.lit (.int .i64 2), .lit (.string [])]
def laid_cinder_verify_null {H : Type} : DataW H := .agg [.lit (.int .i64 5), .lit (.string [])]
def laid_cinder_verify_unknown {H : Type} : DataW H := .agg [.lit (.int .i64 6), .lit (.string [])]
def laid_cinder_verify_top {H : Type} : DataW H := .agg [.lit (.int .i64 3), .lit (.string [79, 98, 106, 101, 99, 116])]

/-- 'cinderlaw.VerifyHolds': WHATEVER THE INPUT: true; the input reads as it did. -/
def verifyHoldsSpec : ChangeSpec := { name := "verifyHolds", fn := fun _ => fun
  | [d1, d2, d3] => { results := [.lit (.bool true)], args := [d1, d2, d3] }
  | _ => none }
def verifyHoldsRow : OpenClaim := { program := "ytifhjkbiiekamaadoor", sum := "395df1aedc7912e8735cf6373fa3d8731fab47294dcb85ead8908b47038b48d2", func := "cinder/cinderlaw.VerifyHolds", spec := "verifyHolds", inPlace := ["slices.overlaps[cinder/api.Kind]"], unfollowed := true, recurses := true, named := ["cinder/verify.unknown", "cinder/code.shapes", "cinder/verify.top", "cinder/verify.null", "cinder/verify.number", "cinder/verify.row"], apart := false, laid := [("cinder/code.shapes", laid_cinder_code_shapes), ("cinder/verify.number", laid_cinder_verify_number), ("cinder/verify.row", laid_cinder_verify_row), ("cinder/verify.null", laid_cinder_verify_null), ("cinder/verify.unknown", laid_cinder_verify_unknown), ("cinder/verify.top", laid_cinder_verify_top)] }
def VerifyHoldsSaid : Prop := verifyHoldsRow.holds Tryd.pinned (OpenSpec.ofChange verifyHoldsSpec)

/-- ITS FALSE NEIGHBOUR: 'it returns false'. Refute it at one input. -/
def verifyHoldsWrong : ChangeSpec := { name := "verifyHolds", fn := fun _ => fun
  | [d1, d2, d3] => { results := [.lit (.bool false)], args := [d1, d2, d3] }
  | _ => none }
def VerifyHoldsWrongFalsely : Prop := verifyHoldsRow.holds Tryd.pinned (OpenSpec.ofChange verifyHoldsWrong)

/-- 'cinderlaw.VerifyLeast': WHATEVER THE INPUT: true; the input reads as it did. -/
def verifyLeastSpec : ChangeSpec := { name := "verifyLeast", fn := fun _ => fun
  | [d1, d2, d3, d4] => { results := [.lit (.bool true)], args := [d1, d2, d3, d4] }
  | _ => none }
def verifyLeastRow : OpenClaim := { program := "ytifhjkbiiekamaadoor", sum := "395df1aedc7912e8735cf6373fa3d8731fab47294dcb85ead8908b47038b48d2", func := "cinder/cinderlaw.VerifyLeast", spec := "verifyLeast", inPlace := ["slices.overlaps[cinder/api.Kind]"], unfollowed := true, recurses := true, named := ["cinder/verify.unknown", "cinder/code.shapes", "cinder/verify.top", "cinder/verify.null", "cinder/verify.number", "cinder/verify.row"], apart := false, laid := [("cinder/code.shapes", laid_cinder_code_shapes), ("cinder/verify.number", laid_cinder_verify_number), ("cinder/verify.row", laid_cinder_verify_row), ("cinder/verify.null", laid_cinder_verify_null), ("cinder/verify.unknown", laid_cinder_verify_unknown), ("cinder/verify.top", laid_cinder_verify_top)] }
def VerifyLeastSaid : Prop := verifyLeastRow.holds Tryd.pinned (OpenSpec.ofChange verifyLeastSpec)

/-- ITS FALSE NEIGHBOUR: 'it returns false'. Refute it at one input. -/
def verifyLeastWrong : ChangeSpec := { name := "verifyLeast", fn := fun _ => fun
  | [d1, d2, d3, d4] => { results := [.lit (.bool false)], args := [d1, d2, d3, d4] }
  | _ => none }
def VerifyLeastWrongFalsely : Prop := verifyLeastRow.holds Tryd.pinned (OpenSpec.ofChange verifyLeastWrong)

/- THE SECOND FORM. 'bulk': how many values and letters a reading holds, each counted each time it is reached (what is shared counts as often as it is met; a slice's spare places count too). A statement '..UptoSaid' is the law's where the arguments, and the package variables that the reading takes, are together of bulk at most 1048576: NARROWER than '..Said'. Prove '..Said' where nothing that the law and all that it calls make is longer than what came in: it says more and counts as full. Else prove '..UptoSaid'. A law counts once. -/
mutual
def uptoBulk {H : Type} : DataW H → Nat
  | .lit (.string bytes) => bytes.length + 1
  | .lit _ => 1
  | .nil => 1
  | .ptr d => uptoBulk d + 1
  | .slice elems spare => uptoBulkAll elems + uptoBulkAll spare + 1
  | .agg parts => uptoBulkAll parts + 1
  | .iface _ d => uptoBulk d + 1
  | .map entries => uptoBulkEntries entries + 1
  | .held _ => 1
def uptoBulkAll {H : Type} : List (DataW H) → Nat
  | [] => 0
  | d :: r => uptoBulk d + uptoBulkAll r
def uptoBulkEntries {H : Type} : List (Lit × DataW H) → Nat
  | [] => 0
  | x :: r => uptoBulkEntry x + uptoBulkEntries r
def uptoBulkEntry {H : Type} : Lit × DataW H → Nat
  | (.string bytes, d) => bytes.length + uptoBulk d + 1
  | (_, d) => uptoBulk d + 1
 end
def uptoSmall : (H : Type) → List (DataW H) → Bool := fun _ ds => decide (uptoBulkAll ds ≤ 1048576)
def OpenSpec.upto (s : _root_.Go.ChangeSpec) : _root_.Go.OpenSpec := { _root_.Go.OpenSpec.ofChange s with cond := some uptoSmall }

/-- 'cinderlaw.VerifyHolds', WHERE WHAT IT READS IS OF BULK AT MOST 1048576: true; the input reads as it did. -/
def verifyHoldsUptoRow : OpenClaim := { program := "ytifhjkbiiekamaadoor", sum := "395df1aedc7912e8735cf6373fa3d8731fab47294dcb85ead8908b47038b48d2", func := "cinder/cinderlaw.VerifyHolds", spec := "verifyHolds", inPlace := ["slices.overlaps[cinder/api.Kind]"], unfollowed := true, recurses := true, named := ["cinder/verify.unknown", "cinder/code.shapes", "cinder/verify.top", "cinder/verify.null", "cinder/verify.number", "cinder/verify.row"], apart := false, laid := [("cinder/code.shapes", laid_cinder_code_shapes), ("cinder/verify.number", laid_cinder_verify_number), ("cinder/verify.row", laid_cinder_verify_row), ("cinder/verify.null", laid_cinder_verify_null), ("cinder/verify.unknown", laid_cinder_verify_unknown), ("cinder/verify.top", laid_cinder_verify_top)], narrowed := true }
def VerifyHoldsUptoSaid : Prop := verifyHoldsUptoRow.holds Tryd.pinned (OpenSpec.upto verifyHoldsSpec)

/-- 'cinderlaw.VerifyLeast', WHERE WHAT IT READS IS OF BULK AT MOST 1048576: true; the input reads as it did. -/
def verifyLeastUptoRow : OpenClaim := { program := "ytifhjkbiiekamaadoor", sum := "395df1aedc7912e8735cf6373fa3d8731fab47294dcb85ead8908b47038b48d2", func := "cinder/cinderlaw.VerifyLeast", spec := "verifyLeast", inPlace := ["slices.overlaps[cinder/api.Kind]"], unfollowed := true, recurses := true, named := ["cinder/verify.unknown", "cinder/code.shapes", "cinder/verify.top", "cinder/verify.null", "cinder/verify.number", "cinder/verify.row"], apart := false, laid := [("cinder/code.shapes", laid_cinder_code_shapes), ("cinder/verify.number", laid_cinder_verify_number), ("cinder/verify.row", laid_cinder_verify_row), ("cinder/verify.null", laid_cinder_verify_null), ("cinder/verify.unknown", laid_cinder_verify_unknown), ("cinder/verify.top", laid_cinder_verify_top)], narrowed := true }
def VerifyLeastUptoSaid : Prop := verifyLeastUptoRow.holds Tryd.pinned (OpenSpec.upto verifyLeastSpec)

end Rows
end Go.Proofs.YtifhjkbiiekamaaDoor
