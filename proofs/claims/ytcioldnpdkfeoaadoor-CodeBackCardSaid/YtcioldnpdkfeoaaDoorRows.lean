/-
  NARROWER THAN 'FOR EVERY INPUT', by the rows' own cells (each row's printed sentence says how): CodeDecodes: laid · CodePlaces: laid · CodeEncodes: laid · CodeBack: laid.
  DERIVED. THE GIVEN ROWS OF THIS SEAT. 4 by the template 'for every input the law returns true; each argument reads behind the call as it read before'; 0 by the template 'total and deterministic' (their statements: YtcioldnpdkfeoaaDoorTotals.lean).
  GIVEN WITH THE SEED: the statements are not yours to turn. If you find one false, say at which input.
  Laid BY PROGRAM, IN A SANDBOX (cutbox-rows.mjs): the forced cells as the released guide's own fill.sh prints them over the translation b1a6e1fb405e3f46… (all of the seat's roots in one cut). By AI agents, Wed Nov 11 2026. No macro, syntax, notation, axiom, sorry.
-/
import Derived.Test.YtcioldnpdkfeoaaDoorChecked
import GoSem.Claim
import GoSem.ClaimJoined
import GoSem.ClaimMapViews
import Derived.JoinedTies
import Derived.KernelRfl
namespace Go.Proofs.YtcioldnpdkfeoaaDoor
/- THE CELL 'sum', in the pinned program and in every row, IS THE sha256 OF THE DUMP (.gsa) THAT YtcioldnpdkfeoaaDoorProg.lean LOADS. Nothing in Lean hashes anything: it is a label: what it is worth is what the hold of that sum in a sandbox is worth. -/
noncomputable def Tryd.pinned : Pinned := { name := "ytcioldnpdkfeoaadoor", sum := "b1a6e1fb405e3f467004d53896fabe7e9b03a10f6bc076932b25783eadc61388", checked := Tryd.checked }
namespace Rows
def none {H : Type} : Left H := { results := [], args := [] }

/- WHAT THE LISTED PACKAGE-LEVEL VARIABLES READ AS WHEN THE CALL BEGINS. Each datum BY PROGRAM (the guide's laid-datum.mjs) off the statement by which the dump's own 'gosem.cut.vars' lays the variable. In a bare row this is a premise. The card (YtcioldnpdkfeoaaDoorCards.lean) ties it to the program's text. -/
def laid_cinder_code_shapes {H : Type} : DataW H := .agg [.lit (.int .i64 0), .lit (.int .i64 1), .lit (.int .i64 0), .lit (.int .i64 3), .lit (.int .i64 3), .lit (.int .i64 0), .lit (.int .i64 0), .lit (.int .i64 0), .lit (.int .i64 0), .lit (.int .i64 0), .lit (.int .i64 0), .lit (.int .i64 0), .lit (.int .i64 0), .lit (.int .i64 2), .lit (.int .i64 2), .lit (.int .i64 2), .lit (.int .i64 2), .lit (.int .i64 2), .lit (.int .i64 3), .lit (.int .i64 4), .lit (.int .i64 4), .lit (.int .i64 0), .lit (.int .i64 3), .lit (.int .i64 0), .lit (.int .i64 0), .lit (.int .i64 0), .lit (.int .i64 4), .lit (.int .i64 0), .lit (.int .i64 0), .lit (.int .i64 3), .lit (.int .i64 3), .lit (.int .i64 0), .lit (.int .i64 0), .lit (.int .i64 0), .lit (.int .i64 4), .lit (.int .i64 0), .lit (.int .i64 0)]

/-- 'cinderlaw.CodeDecodes': WHATEVER THE INPUT: true; the input reads as it did. -/
def codeDecodesSpec : ChangeSpec := { name := "codeDecodes", fn := fun _ => fun
  | [d] => { results := [.lit (.bool true)], args := [d] }
  | _ => none }
def codeDecodesRow : OpenClaim := { program := "ytcioldnpdkfeoaadoor", sum := "b1a6e1fb405e3f467004d53896fabe7e9b03a10f6bc076932b25783eadc61388", func := "cinder/cinderlaw.CodeDecodes", spec := "codeDecodes", unfollowed := true, recurses := true, named := ["cinder/code.shapes"], apart := false, laid := [("cinder/code.shapes", laid_cinder_code_shapes)] }
def CodeDecodesSaid : Prop := codeDecodesRow.holds Tryd.pinned (OpenSpec.ofChange codeDecodesSpec)

/-- ITS FALSE NEIGHBOUR: 'it returns false'. Refute it at one input. -/
def codeDecodesWrong : ChangeSpec := { name := "codeDecodes", fn := fun _ => fun
  | [d] => { results := [.lit (.bool false)], args := [d] }
  | _ => none }
def CodeDecodesWrongFalsely : Prop := codeDecodesRow.holds Tryd.pinned (OpenSpec.ofChange codeDecodesWrong)

/-- 'cinderlaw.CodePlaces': WHATEVER THE INPUT: true; the input reads as it did. -/
def codePlacesSpec : ChangeSpec := { name := "codePlaces", fn := fun _ => fun
  | [d1, d2] => { results := [.lit (.bool true)], args := [d1, d2] }
  | _ => none }
def codePlacesRow : OpenClaim := { program := "ytcioldnpdkfeoaadoor", sum := "b1a6e1fb405e3f467004d53896fabe7e9b03a10f6bc076932b25783eadc61388", func := "cinder/cinderlaw.CodePlaces", spec := "codePlaces", unfollowed := true, recurses := true, named := ["cinder/code.shapes"], apart := false, laid := [("cinder/code.shapes", laid_cinder_code_shapes)] }
def CodePlacesSaid : Prop := codePlacesRow.holds Tryd.pinned (OpenSpec.ofChange codePlacesSpec)

/-- ITS FALSE NEIGHBOUR: 'it returns false'. Refute it at one input. -/
def codePlacesWrong : ChangeSpec := { name := "codePlaces", fn := fun _ => fun
  | [d1, d2] => { results := [.lit (.bool false)], args := [d1, d2] }
  | _ => none }
def CodePlacesWrongFalsely : Prop := codePlacesRow.holds Tryd.pinned (OpenSpec.ofChange codePlacesWrong)

/-- 'cinderlaw.CodeEncodes': WHATEVER THE INPUT: true; the input reads as it did. -/
def codeEncodesSpec : ChangeSpec := { name := "codeEncodes", fn := fun _ => fun
  | [d] => { results := [.lit (.bool true)], args := [d] }
  | _ => none }
def codeEncodesRow : OpenClaim := { program := "ytcioldnpdkfeoaadoor", sum := "b1a6e1fb405e3f467004d53896fabe7e9b03a10f6bc076932b25783eadc61388", func := "cinder/cinderlaw.CodeEncodes", spec := "codeEncodes", unfollowed := true, recurses := true, named := ["cinder/code.shapes"], apart := false, laid := [("cinder/code.shapes", laid_cinder_code_shapes)] }
def CodeEncodesSaid : Prop := codeEncodesRow.holds Tryd.pinned (OpenSpec.ofChange codeEncodesSpec)

/-- ITS FALSE NEIGHBOUR: 'it returns false'. Refute it at one input. -/
def codeEncodesWrong : ChangeSpec := { name := "codeEncodes", fn := fun _ => fun
  | [d] => { results := [.lit (.bool false)], args := [d] }
  | _ => none }
def CodeEncodesWrongFalsely : Prop := codeEncodesRow.holds Tryd.pinned (OpenSpec.ofChange codeEncodesWrong)

/-- 'cinderlaw.CodeBack': WHATEVER THE INPUT: true; the input reads as it did. -/
def codeBackSpec : ChangeSpec := { name := "codeBack", fn := fun _ => fun
  | [d] => { results := [.lit (.bool true)], args := [d] }
  | _ => none }
def codeBackRow : OpenClaim := { program := "ytcioldnpdkfeoaadoor", sum := "b1a6e1fb405e3f467004d53896fabe7e9b03a10f6bc076932b25783eadc61388", func := "cinder/cinderlaw.CodeBack", spec := "codeBack", unfollowed := true, recurses := true, named := ["cinder/code.shapes"], apart := false, laid := [("cinder/code.shapes", laid_cinder_code_shapes)] }
def CodeBackSaid : Prop := codeBackRow.holds Tryd.pinned (OpenSpec.ofChange codeBackSpec)

/-- ITS FALSE NEIGHBOUR: 'it returns false'. Refute it at one input. -/
def codeBackWrong : ChangeSpec := { name := "codeBack", fn := fun _ => fun
  | [d] => { results := [.lit (.bool false)], args := [d] }
  | _ => none }
def CodeBackWrongFalsely : Prop := codeBackRow.holds Tryd.pinned (OpenSpec.ofChange codeBackWrong)

/- THE SECOND FORM. 'bulk': how many values and letters a reading holds, each counted each time it is reached (what is shared counts as often as it is met; a slice's spare places count too). A statement '..UptoSaid' is the law's where the arguments, and the package variables that the reading takes, are together of bulk at most 1048576: NARROWER than '..Said'. Prove '..Said' where nothing that the law and all that it calls make is longer than what came in: it says more and counts as full. Else prove '..UptoSaid'. A law counts once. -/
mutual
def uptoBulk {H : Type} : DataW H → Nat
  | .lit (.string bytes) => bytes.length + 1
  | .lit _ => 1
  | .nil => 1
  | .ptr d => uptoBulk d + 1
  | .slice elems spare => uptoBulkAll elems + uptoBulkAll spare + 1
  | .agg parts => uptoBulkAll parts + 1
  | .iface _ d => uptoBulk d + 1
  | .map entries => uptoBulkEntries entries + 1
  | .held _ => 1
def uptoBulkAll {H : Type} : List (DataW H) → Nat
  | [] => 0
  | d :: r => uptoBulk d + uptoBulkAll r
def uptoBulkEntries {H : Type} : List (Lit × DataW H) → Nat
  | [] => 0
  | x :: r => uptoBulkEntry x + uptoBulkEntries r
def uptoBulkEntry {H : Type} : Lit × DataW H → Nat
  | (.string bytes, d) => bytes.length + uptoBulk d + 1
  | (_, d) => uptoBulk d + 1
 end
def uptoSmall : (H : Type) → List (DataW H) → Bool := fun _ ds => decide (uptoBulkAll ds ≤ 1048576)
def OpenSpec.upto (s : _root_.Go.ChangeSpec) : _root_.Go.OpenSpec := { _root_.Go.OpenSpec.ofChange s with cond := some uptoSmall }

/-- 'cinderlaw.CodeDecodes', WHERE WHAT IT READS IS OF BULK AT MOST 1048576: true; the input reads as it did. -/
def codeDecodesUptoRow : OpenClaim := { program := "ytcioldnpdkfeoaadoor", sum := "b1a6e1fb405e3f467004d53896fabe7e9b03a10f6bc076932b25783eadc61388", func := "cinder/cinderlaw.CodeDecodes", spec := "codeDecodes", unfollowed := true, recurses := true, named := ["cinder/code.shapes"], apart := false, laid := [("cinder/code.shapes", laid_cinder_code_shapes)], narrowed := true }
def CodeDecodesUptoSaid : Prop := codeDecodesUptoRow.holds Tryd.pinned (OpenSpec.upto codeDecodesSpec)

/-- 'cinderlaw.CodePlaces', WHERE WHAT IT READS IS OF BULK AT MOST 1048576: true; the input reads as it did. -/
def codePlacesUptoRow : OpenClaim := { program := "ytcioldnpdkfeoaadoor", sum := "b1a6e1fb405e3f467004d53896fabe7e9b03a10f6bc076932b25783eadc61388", func := "cinder/cinderlaw.CodePlaces", spec := "codePlaces", unfollowed := true, recurses := true, named := ["cinder/code.shapes"], apart := false, laid := [("cinder/code.shapes", laid_cinder_code_shapes)], narrowed := true }
def CodePlacesUptoSaid : Prop := codePlacesUptoRow.holds Tryd.pinned (OpenSpec.upto codePlacesSpec)

/-- 'cinderlaw.CodeEncodes', WHERE WHAT IT READS IS OF BULK AT MOST 1048576: true; the input reads as it did. -/
def codeEncodesUptoRow : OpenClaim := { program := "ytcioldnpdkfeoaadoor", sum := "b1a6e1fb405e3f467004d53896fabe7e9b03a10f6bc076932b25783eadc61388", func := "cinder/cinderlaw.CodeEncodes", spec := "codeEncodes", unfollowed := true, recurses := true, named := ["cinder/code.shapes"], apart := false, laid := [("cinder/code.shapes", laid_cinder_code_shapes)], narrowed := true }
def CodeEncodesUptoSaid : Prop := codeEncodesUptoRow.holds Tryd.pinned (OpenSpec.upto codeEncodesSpec)

/-- 'cinderlaw.CodeBack', WHERE WHAT IT READS IS OF BULK AT MOST 1048576: true; the input reads as it did. -/
def codeBackUptoRow : OpenClaim := { program := "ytcioldnpdkfeoaadoor", sum := "b1a6e1fb405e3f467004d53896fabe7e9b03a10f6bc076932b25783eadc61388", func := "cinder/cinderlaw.CodeBack", spec := "codeBack", unfollowed := true, recurses := true, named := ["cinder/code.shapes"], apart := false, laid := [("cinder/code.shapes", laid_cinder_code_shapes)], narrowed := true }
def CodeBackUptoSaid : Prop := codeBackUptoRow.holds Tryd.pinned (OpenSpec.upto codeBackSpec)

end Rows
end Go.Proofs.YtcioldnpdkfeoaaDoor
