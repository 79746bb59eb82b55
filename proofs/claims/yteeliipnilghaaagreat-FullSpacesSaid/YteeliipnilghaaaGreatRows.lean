/-
  No cell of these rows narrows 'for every input' (looked for: loops, veiled, ifaces, maps, wideKeys, modest, calm, conditions, laid).
  DERIVED. THE GIVEN ROWS OF THIS SEAT. 9 by the template 'for every input the law returns true; each argument reads behind the call as it read before'; 0 by the template 'total and deterministic' (their statements: YteeliipnilghaaaGreatTotals.lean).
  GIVEN WITH THE SEED: the statements are not yours to turn. If you find one false, say at which input.
  Laid BY PROGRAM, IN A SANDBOX (cutbox-rows.mjs): the forced cells as the released guide's own fill.sh prints them over the translation 36f62496f9419968… (all of the seat's roots in one cut). By AI agents, Wed Nov 11 2026. No macro, syntax, notation, axiom, sorry.
-/
import Derived.Test.YteeliipnilghaaaGreatChecked
import GoSem.Claim
import GoSem.ClaimJoined
import GoSem.ClaimMapViews
import Derived.JoinedTies
import Derived.KernelRfl
namespace Go.Proofs.YteeliipnilghaaaGreat
/- THE CELL 'sum', in the pinned program and in every row, IS THE sha256 OF THE DUMP (.gsa) THAT YteeliipnilghaaaGreatProg.lean LOADS. Nothing in Lean hashes anything: it is a label: what it is worth is what the hold of that sum in a sandbox is worth. -/
noncomputable def Tryz.pinned : Pinned := { name := "yteeliipnilghaaagreat", sum := "36f62496f9419968fe6ce52e67af89c58de25ee72f704d2774ab62cd9881e072", checked := Tryz.checked }
namespace Rows
def none {H : Type} : Left H := { results := [], args := [] }

/-- 'cinderlaw.YoungCollects': WHATEVER THE INPUT: true; the input reads as it did. -/
def youngCollectsSpec : ChangeSpec := { name := "youngCollects", fn := fun _ => fun
  | [d1, d2, d3] => { results := [.lit (.bool true)], args := [d1, d2, d3] }
  | _ => none }
def youngCollectsRow : OpenClaim := { program := "yteeliipnilghaaagreat", sum := "36f62496f9419968fe6ce52e67af89c58de25ee72f704d2774ab62cd9881e072", func := "cinder/cinderlaw.YoungCollects", spec := "youngCollects", unfollowed := true, recurses := true, apart := false }
def YoungCollectsSaid : Prop := youngCollectsRow.holds Tryz.pinned (OpenSpec.ofChange youngCollectsSpec)

/-- ITS FALSE NEIGHBOUR: 'it returns false'. Refute it at one input. -/
def youngCollectsWrong : ChangeSpec := { name := "youngCollects", fn := fun _ => fun
  | [d1, d2, d3] => { results := [.lit (.bool false)], args := [d1, d2, d3] }
  | _ => none }
def YoungCollectsWrongFalsely : Prop := youngCollectsRow.holds Tryz.pinned (OpenSpec.ofChange youngCollectsWrong)

/-- 'cinderlaw.YoungRooms': WHATEVER THE INPUT: true; the input reads as it did. -/
def youngRoomsSpec : ChangeSpec := { name := "youngRooms", fn := fun _ => fun
  | [d1, d2] => { results := [.lit (.bool true)], args := [d1, d2] }
  | _ => none }
def youngRoomsRow : OpenClaim := { program := "yteeliipnilghaaagreat", sum := "36f62496f9419968fe6ce52e67af89c58de25ee72f704d2774ab62cd9881e072", func := "cinder/cinderlaw.YoungRooms", spec := "youngRooms", unfollowed := true, recurses := true, apart := false }
def YoungRoomsSaid : Prop := youngRoomsRow.holds Tryz.pinned (OpenSpec.ofChange youngRoomsSpec)

/-- ITS FALSE NEIGHBOUR: 'it returns false'. Refute it at one input. -/
def youngRoomsWrong : ChangeSpec := { name := "youngRooms", fn := fun _ => fun
  | [d1, d2] => { results := [.lit (.bool false)], args := [d1, d2] }
  | _ => none }
def YoungRoomsWrongFalsely : Prop := youngRoomsRow.holds Tryz.pinned (OpenSpec.ofChange youngRoomsWrong)

/-- 'cinderlaw.YoungKeeps': WHATEVER THE INPUT: true; the input reads as it did. -/
def youngKeepsSpec : ChangeSpec := { name := "youngKeeps", fn := fun _ => fun
  | [d1, d2, d3] => { results := [.lit (.bool true)], args := [d1, d2, d3] }
  | _ => none }
def youngKeepsRow : OpenClaim := { program := "yteeliipnilghaaagreat", sum := "36f62496f9419968fe6ce52e67af89c58de25ee72f704d2774ab62cd9881e072", func := "cinder/cinderlaw.YoungKeeps", spec := "youngKeeps", unfollowed := true, recurses := true, apart := false }
def YoungKeepsSaid : Prop := youngKeepsRow.holds Tryz.pinned (OpenSpec.ofChange youngKeepsSpec)

/-- ITS FALSE NEIGHBOUR: 'it returns false'. Refute it at one input. -/
def youngKeepsWrong : ChangeSpec := { name := "youngKeeps", fn := fun _ => fun
  | [d1, d2, d3] => { results := [.lit (.bool false)], args := [d1, d2, d3] }
  | _ => none }
def YoungKeepsWrongFalsely : Prop := youngKeepsRow.holds Tryz.pinned (OpenSpec.ofChange youngKeepsWrong)

/-- 'cinderlaw.FullLives': WHATEVER THE INPUT: true; the input reads as it did. -/
def fullLivesSpec : ChangeSpec := { name := "fullLives", fn := fun _ => fun
  | [d1, d2, d3] => { results := [.lit (.bool true)], args := [d1, d2, d3] }
  | _ => none }
def fullLivesRow : OpenClaim := { program := "yteeliipnilghaaagreat", sum := "36f62496f9419968fe6ce52e67af89c58de25ee72f704d2774ab62cd9881e072", func := "cinder/cinderlaw.FullLives", spec := "fullLives", unfollowed := true, recurses := true, apart := false }
def FullLivesSaid : Prop := fullLivesRow.holds Tryz.pinned (OpenSpec.ofChange fullLivesSpec)

/-- ITS FALSE NEIGHBOUR: 'it returns false'. Refute it at one input. -/
def fullLivesWrong : ChangeSpec := { name := "fullLives", fn := fun _ => fun
  | [d1, d2, d3] => { results := [.lit (.bool false)], args := [d1, d2, d3] }
  | _ => none }
def FullLivesWrongFalsely : Prop := fullLivesRow.holds Tryz.pinned (OpenSpec.ofChange fullLivesWrong)

/-- 'cinderlaw.FullSpaces': WHATEVER THE INPUT: true; the input reads as it did. -/
def fullSpacesSpec : ChangeSpec := { name := "fullSpaces", fn := fun _ => fun
  | [d1, d2, d3, d4, d5] => { results := [.lit (.bool true)], args := [d1, d2, d3, d4, d5] }
  | _ => none }
def fullSpacesRow : OpenClaim := { program := "yteeliipnilghaaagreat", sum := "36f62496f9419968fe6ce52e67af89c58de25ee72f704d2774ab62cd9881e072", func := "cinder/cinderlaw.FullSpaces", spec := "fullSpaces", unfollowed := true, recurses := true, apart := false }
def FullSpacesSaid : Prop := fullSpacesRow.holds Tryz.pinned (OpenSpec.ofChange fullSpacesSpec)

/-- ITS FALSE NEIGHBOUR: 'it returns false'. Refute it at one input. -/
def fullSpacesWrong : ChangeSpec := { name := "fullSpaces", fn := fun _ => fun
  | [d1, d2, d3, d4, d5] => { results := [.lit (.bool false)], args := [d1, d2, d3, d4, d5] }
  | _ => none }
def FullSpacesWrongFalsely : Prop := fullSpacesRow.holds Tryz.pinned (OpenSpec.ofChange fullSpacesWrong)

/-- 'cinderlaw.FullEnough': WHATEVER THE INPUT: true; the input reads as it did. -/
def fullEnoughSpec : ChangeSpec := { name := "fullEnough", fn := fun _ => fun
  | [d1, d2, d3, d4, d5] => { results := [.lit (.bool true)], args := [d1, d2, d3, d4, d5] }
  | _ => none }
def fullEnoughRow : OpenClaim := { program := "yteeliipnilghaaagreat", sum := "36f62496f9419968fe6ce52e67af89c58de25ee72f704d2774ab62cd9881e072", func := "cinder/cinderlaw.FullEnough", spec := "fullEnough", unfollowed := true, recurses := true, apart := false }
def FullEnoughSaid : Prop := fullEnoughRow.holds Tryz.pinned (OpenSpec.ofChange fullEnoughSpec)

/-- ITS FALSE NEIGHBOUR: 'it returns false'. Refute it at one input. -/
def fullEnoughWrong : ChangeSpec := { name := "fullEnough", fn := fun _ => fun
  | [d1, d2, d3, d4, d5] => { results := [.lit (.bool false)], args := [d1, d2, d3, d4, d5] }
  | _ => none }
def FullEnoughWrongFalsely : Prop := fullEnoughRow.holds Tryz.pinned (OpenSpec.ofChange fullEnoughWrong)

/-- 'cinderlaw.FullCollects': WHATEVER THE INPUT: true; the input reads as it did. -/
def fullCollectsSpec : ChangeSpec := { name := "fullCollects", fn := fun _ => fun
  | [d1, d2, d3] => { results := [.lit (.bool true)], args := [d1, d2, d3] }
  | _ => none }
def fullCollectsRow : OpenClaim := { program := "yteeliipnilghaaagreat", sum := "36f62496f9419968fe6ce52e67af89c58de25ee72f704d2774ab62cd9881e072", func := "cinder/cinderlaw.FullCollects", spec := "fullCollects", unfollowed := true, recurses := true, apart := false }
def FullCollectsSaid : Prop := fullCollectsRow.holds Tryz.pinned (OpenSpec.ofChange fullCollectsSpec)

/-- ITS FALSE NEIGHBOUR: 'it returns false'. Refute it at one input. -/
def fullCollectsWrong : ChangeSpec := { name := "fullCollects", fn := fun _ => fun
  | [d1, d2, d3] => { results := [.lit (.bool false)], args := [d1, d2, d3] }
  | _ => none }
def FullCollectsWrongFalsely : Prop := fullCollectsRow.holds Tryz.pinned (OpenSpec.ofChange fullCollectsWrong)

/-- 'cinderlaw.FullKeeps': WHATEVER THE INPUT: true; the input reads as it did. -/
def fullKeepsSpec : ChangeSpec := { name := "fullKeeps", fn := fun _ => fun
  | [d1, d2, d3] => { results := [.lit (.bool true)], args := [d1, d2, d3] }
  | _ => none }
def fullKeepsRow : OpenClaim := { program := "yteeliipnilghaaagreat", sum := "36f62496f9419968fe6ce52e67af89c58de25ee72f704d2774ab62cd9881e072", func := "cinder/cinderlaw.FullKeeps", spec := "fullKeeps", unfollowed := true, recurses := true, apart := false }
def FullKeepsSaid : Prop := fullKeepsRow.holds Tryz.pinned (OpenSpec.ofChange fullKeepsSpec)

/-- ITS FALSE NEIGHBOUR: 'it returns false'. Refute it at one input. -/
def fullKeepsWrong : ChangeSpec := { name := "fullKeeps", fn := fun _ => fun
  | [d1, d2, d3] => { results := [.lit (.bool false)], args := [d1, d2, d3] }
  | _ => none }
def FullKeepsWrongFalsely : Prop := fullKeepsRow.holds Tryz.pinned (OpenSpec.ofChange fullKeepsWrong)

/-- 'cinderlaw.FullBoth': WHATEVER THE INPUT: true; the input reads as it did. -/
def fullBothSpec : ChangeSpec := { name := "fullBoth", fn := fun _ => fun
  | [d1, d2, d3] => { results := [.lit (.bool true)], args := [d1, d2, d3] }
  | _ => none }
def fullBothRow : OpenClaim := { program := "yteeliipnilghaaagreat", sum := "36f62496f9419968fe6ce52e67af89c58de25ee72f704d2774ab62cd9881e072", func := "cinder/cinderlaw.FullBoth", spec := "fullBoth", unfollowed := true, recurses := true, apart := false }
def FullBothSaid : Prop := fullBothRow.holds Tryz.pinned (OpenSpec.ofChange fullBothSpec)

/-- ITS FALSE NEIGHBOUR: 'it returns false'. Refute it at one input. -/
def fullBothWrong : ChangeSpec := { name := "fullBoth", fn := fun _ => fun
  | [d1, d2, d3] => { results := [.lit (.bool false)], args := [d1, d2, d3] }
  | _ => none }
def FullBothWrongFalsely : Prop := fullBothRow.holds Tryz.pinned (OpenSpec.ofChange fullBothWrong)

/- THE SECOND FORM. 'bulk': how many values and letters a reading holds, each counted each time it is reached (what is shared counts as often as it is met; a slice's spare places count too). A statement '..UptoSaid' is the law's where the arguments, and the package variables that the reading takes, are together of bulk at most 1048576: NARROWER than '..Said'. Prove '..Said' where nothing that the law and all that it calls make is longer than what came in: it says more and counts as full. Else prove '..UptoSaid'. A law counts once. -/
mutual
def uptoBulk {H : Type} : DataW H → Nat
  | .lit (.string bytes) => bytes.length + 1
  | .lit _ => 1
  | .nil => 1
  | .ptr d => uptoBulk d + 1
  | .slice elems spare => uptoBulkAll elems + uptoBulkAll spare + 1
  | .agg parts => uptoBulkAll parts + 1
  | .iface _ d => uptoBulk d + 1
  | .map entries => uptoBulkEntries entries + 1
  | .held _ => 1
def uptoBulkAll {H : Type} : List (DataW H) → Nat
  | [] => 0
  | d :: r => uptoBulk d + uptoBulkAll r
def uptoBulkEntries {H : Type} : List (Lit × DataW H) → Nat
  | [] => 0
  | x :: r => uptoBulkEntry x + uptoBulkEntries r
def uptoBulkEntry {H : Type} : Lit × DataW H → Nat
  | (.string bytes, d) => bytes.length + uptoBulk d + 1
  | (_, d) => uptoBulk d + 1
 end
def uptoSmall : (H : Type) → List (DataW H) → Bool := fun _ ds => decide (uptoBulkAll ds ≤ 1048576)
def OpenSpec.upto (s : _root_.Go.ChangeSpec) : _root_.Go.OpenSpec := { _root_.Go.OpenSpec.ofChange s with cond := some uptoSmall }

/-- 'cinderlaw.YoungCollects', WHERE WHAT IT READS IS OF BULK AT MOST 1048576: true; the input reads as it did. -/
def youngCollectsUptoRow : OpenClaim := { program := "yteeliipnilghaaagreat", sum := "36f62496f9419968fe6ce52e67af89c58de25ee72f704d2774ab62cd9881e072", func := "cinder/cinderlaw.YoungCollects", spec := "youngCollects", unfollowed := true, recurses := true, apart := false, narrowed := true }
def YoungCollectsUptoSaid : Prop := youngCollectsUptoRow.holds Tryz.pinned (OpenSpec.upto youngCollectsSpec)

/-- 'cinderlaw.YoungRooms', WHERE WHAT IT READS IS OF BULK AT MOST 1048576: true; the input reads as it did. -/
def youngRoomsUptoRow : OpenClaim := { program := "yteeliipnilghaaagreat", sum := "36f62496f9419968fe6ce52e67af89c58de25ee72f704d2774ab62cd9881e072", func := "cinder/cinderlaw.YoungRooms", spec := "youngRooms", unfollowed := true, recurses := true, apart := false, narrowed := true }
def YoungRoomsUptoSaid : Prop := youngRoomsUptoRow.holds Tryz.pinned (OpenSpec.upto youngRoomsSpec)

/-- 'cinderlaw.YoungKeeps', WHERE WHAT IT READS IS OF BULK AT MOST 1048576: true; the input reads as it did. -/
def youngKeepsUptoRow : OpenClaim := { program := "yteeliipnilghaaagreat", sum := "36f62496f9419968fe6ce52e67af89c58de25ee72f704d2774ab62cd9881e072", func := "cinder/cinderlaw.YoungKeeps", spec := "youngKeeps", unfollowed := true, recurses := true, apart := false, narrowed := true }
def YoungKeepsUptoSaid : Prop := youngKeepsUptoRow.holds Tryz.pinned (OpenSpec.upto youngKeepsSpec)

/-- 'cinderlaw.FullLives', WHERE WHAT IT READS IS OF BULK AT MOST 1048576: true; the input reads as it did. -/
def fullLivesUptoRow : OpenClaim := { program := "yteeliipnilghaaagreat", sum := "36f62496f9419968fe6ce52e67af89c58de25ee72f704d2774ab62cd9881e072", func := "cinder/cinderlaw.FullLives", spec := "fullLives", unfollowed := true, recurses := true, apart := false, narrowed := true }
def FullLivesUptoSaid : Prop := fullLivesUptoRow.holds Tryz.pinned (OpenSpec.upto fullLivesSpec)

/-- 'cinderlaw.FullSpaces', WHERE WHAT IT READS IS OF BULK AT MOST 1048576: true; the input reads as it did. -/
def fullSpacesUptoRow : OpenClaim := { program := "yteeliipnilghaaagreat", sum := "36f62496f9419968fe6ce52e67af89c58de25ee72f704d2774ab62cd9881e072", func := "cinder/cinderlaw.FullSpaces", spec := "fullSpaces", unfollowed := true, recurses := true, apart := false, narrowed := true }
def FullSpacesUptoSaid : Prop := fullSpacesUptoRow.holds Tryz.pinned (OpenSpec.upto fullSpacesSpec)

/-- 'cinderlaw.FullEnough', WHERE WHAT IT READS IS OF BULK AT MOST 1048576: true; the input reads as it did. -/
def fullEnoughUptoRow : OpenClaim := { program := "yteeliipnilghaaagreat", sum := "36f62496f9419968fe6ce52e67af89c58de25ee72f704d2774ab62cd9881e072", func := "cinder/cinderlaw.FullEnough", spec := "fullEnough", unfollowed := true, recurses := true, apart := false, narrowed := true }
def FullEnoughUptoSaid : Prop := fullEnoughUptoRow.holds Tryz.pinned (OpenSpec.upto fullEnoughSpec)

/-- 'cinderlaw.FullCollects', WHERE WHAT IT READS IS OF BULK AT MOST 1048576: true; the input reads as it did. -/
def fullCollectsUptoRow : OpenClaim := { program := "yteeliipnilghaaagreat", sum := "36f62496f9419968fe6ce52e67af89c58de25ee72f704d2774ab62cd9881e072", func := "cinder/cinderlaw.FullCollects", spec := "fullCollects", unfollowed := true, recurses := true, apart := false, narrowed := true }
def FullCollectsUptoSaid : Prop := fullCollectsUptoRow.holds Tryz.pinned (OpenSpec.upto fullCollectsSpec)

/-- 'cinderlaw.FullKeeps', WHERE WHAT IT READS IS OF BULK AT MOST 1048576: true; the input reads as it did. -/
def fullKeepsUptoRow : OpenClaim := { program := "yteeliipnilghaaagreat", sum := "36f62496f9419968fe6ce52e67af89c58de25ee72f704d2774ab62cd9881e072", func := "cinder/cinderlaw.FullKeeps", spec := "fullKeeps", unfollowed := true, recurses := true, apart := false, narrowed := true }
def FullKeepsUptoSaid : Prop := fullKeepsUptoRow.holds Tryz.pinned (OpenSpec.upto fullKeepsSpec)

/-- 'cinderlaw.FullBoth', WHERE WHAT IT READS IS OF BULK AT MOST 1048576: true; the input reads as it did. -/
def fullBothUptoRow : OpenClaim := { program := "yteeliipnilghaaagreat", sum := "36f62496f9419968fe6ce52e67af89c58de25ee72f704d2774ab62cd9881e072", func := "cinder/cinderlaw.FullBoth", spec := "fullBoth", unfollowed := true, recurses := true, apart := false, narrowed := true }
def FullBothUptoSaid : Prop := fullBothUptoRow.holds Tryz.pinned (OpenSpec.upto fullBothSpec)

end Rows
end Go.Proofs.YteeliipnilghaaaGreat
