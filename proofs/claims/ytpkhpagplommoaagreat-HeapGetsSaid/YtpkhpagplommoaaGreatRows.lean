/-
  No cell of these rows narrows 'for every input' (looked for: loops, veiled, ifaces, maps, wideKeys, modest, calm, conditions, laid).
  DERIVED. THE GIVEN ROWS OF THIS SEAT. 7 by the template 'for every input the law returns true; each argument reads behind the call as it read before'; 0 by the template 'total and deterministic' (their statements: YtpkhpagplommoaaGreatTotals.lean).
  GIVEN WITH THE SEED: the statements are not yours to turn. If you find one false, say at which input.
  Laid BY PROGRAM, IN A SANDBOX (cutbox-rows.mjs): the forced cells as the released guide's own fill.sh prints them over the translation 8d2553669e9a517b… (all of the seat's roots in one cut). By AI agents, Wed Nov 11 2026. No macro, syntax, notation, axiom, sorry.
-/
import Derived.Test.YtpkhpagplommoaaGreatChecked
import GoSem.Claim
import GoSem.ClaimJoined
import GoSem.ClaimMapViews
import Derived.JoinedTies
import Derived.KernelRfl
namespace Go.Proofs.YtpkhpagplommoaaGreat
/- THE CELL 'sum', in the pinned program and in every row, IS THE sha256 OF THE DUMP (.gsa) THAT YtpkhpagplommoaaGreatProg.lean LOADS. Nothing in Lean hashes anything: it is a label: what it is worth is what the hold of that sum in a sandbox is worth. -/
noncomputable def Tryz.pinned : Pinned := { name := "ytpkhpagplommoaagreat", sum := "8d2553669e9a517b6a2620a0360c63901796ac5ebf8a55912b9fa6c074e3c59c", checked := Tryz.checked }
namespace Rows
def none {H : Type} : Left H := { results := [], args := [] }

/-- 'cinderlaw.YoungCollects': WHATEVER THE INPUT: true; the input reads as it did. -/
def youngCollectsSpec : ChangeSpec := { name := "youngCollects", fn := fun _ => fun
  | [d1, d2, d3] => { results := [.lit (.bool true)], args := [d1, d2, d3] }
  | _ => none }
def youngCollectsRow : OpenClaim := { program := "ytpkhpagplommoaagreat", sum := "8d2553669e9a517b6a2620a0360c63901796ac5ebf8a55912b9fa6c074e3c59c", func := "cinder/cinderlaw.YoungCollects", spec := "youngCollects", unfollowed := true, recurses := true, apart := false }
def YoungCollectsSaid : Prop := youngCollectsRow.holds Tryz.pinned (OpenSpec.ofChange youngCollectsSpec)

/-- ITS FALSE NEIGHBOUR: 'it returns false'. Refute it at one input. -/
def youngCollectsWrong : ChangeSpec := { name := "youngCollects", fn := fun _ => fun
  | [d1, d2, d3] => { results := [.lit (.bool false)], args := [d1, d2, d3] }
  | _ => none }
def YoungCollectsWrongFalsely : Prop := youngCollectsRow.holds Tryz.pinned (OpenSpec.ofChange youngCollectsWrong)

/-- 'cinderlaw.YoungRooms': WHATEVER THE INPUT: true; the input reads as it did. -/
def youngRoomsSpec : ChangeSpec := { name := "youngRooms", fn := fun _ => fun
  | [d1, d2] => { results := [.lit (.bool true)], args := [d1, d2] }
  | _ => none }
def youngRoomsRow : OpenClaim := { program := "ytpkhpagplommoaagreat", sum := "8d2553669e9a517b6a2620a0360c63901796ac5ebf8a55912b9fa6c074e3c59c", func := "cinder/cinderlaw.YoungRooms", spec := "youngRooms", unfollowed := true, recurses := true, apart := false }
def YoungRoomsSaid : Prop := youngRoomsRow.holds Tryz.pinned (OpenSpec.ofChange youngRoomsSpec)

/-- ITS FALSE NEIGHBOUR: 'it returns false'. Refute it at one input. -/
def youngRoomsWrong : ChangeSpec := { name := "youngRooms", fn := fun _ => fun
  | [d1, d2] => { results := [.lit (.bool false)], args := [d1, d2] }
  | _ => none }
def YoungRoomsWrongFalsely : Prop := youngRoomsRow.holds Tryz.pinned (OpenSpec.ofChange youngRoomsWrong)

/-- 'cinderlaw.YoungKeeps': WHATEVER THE INPUT: true; the input reads as it did. -/
def youngKeepsSpec : ChangeSpec := { name := "youngKeeps", fn := fun _ => fun
  | [d1, d2, d3] => { results := [.lit (.bool true)], args := [d1, d2, d3] }
  | _ => none }
def youngKeepsRow : OpenClaim := { program := "ytpkhpagplommoaagreat", sum := "8d2553669e9a517b6a2620a0360c63901796ac5ebf8a55912b9fa6c074e3c59c", func := "cinder/cinderlaw.YoungKeeps", spec := "youngKeeps", unfollowed := true, recurses := true, apart := false }
def YoungKeepsSaid : Prop := youngKeepsRow.holds Tryz.pinned (OpenSpec.ofChange youngKeepsSpec)

/-- ITS FALSE NEIGHBOUR: 'it returns false'. Refute it at one input. -/
def youngKeepsWrong : ChangeSpec := { name := "youngKeeps", fn := fun _ => fun
  | [d1, d2, d3] => { results := [.lit (.bool false)], args := [d1, d2, d3] }
  | _ => none }
def YoungKeepsWrongFalsely : Prop := youngKeepsRow.holds Tryz.pinned (OpenSpec.ofChange youngKeepsWrong)

/-- 'cinderlaw.HeapMakes': WHATEVER THE INPUT: true; the input reads as it did. -/
def heapMakesSpec : ChangeSpec := { name := "heapMakes", fn := fun _ => fun
  | [d1, d2, d3, d4, d5] => { results := [.lit (.bool true)], args := [d1, d2, d3, d4, d5] }
  | _ => none }
def heapMakesRow : OpenClaim := { program := "ytpkhpagplommoaagreat", sum := "8d2553669e9a517b6a2620a0360c63901796ac5ebf8a55912b9fa6c074e3c59c", func := "cinder/cinderlaw.HeapMakes", spec := "heapMakes", inPlace := ["slices.overlaps[int]"], unfollowed := true, recurses := true, apart := false }
def HeapMakesSaid : Prop := heapMakesRow.holds Tryz.pinned (OpenSpec.ofChange heapMakesSpec)

/-- ITS FALSE NEIGHBOUR: 'it returns false'. Refute it at one input. -/
def heapMakesWrong : ChangeSpec := { name := "heapMakes", fn := fun _ => fun
  | [d1, d2, d3, d4, d5] => { results := [.lit (.bool false)], args := [d1, d2, d3, d4, d5] }
  | _ => none }
def HeapMakesWrongFalsely : Prop := heapMakesRow.holds Tryz.pinned (OpenSpec.ofChange heapMakesWrong)

/-- 'cinderlaw.HeapSets': WHATEVER THE INPUT: true; the input reads as it did. -/
def heapSetsSpec : ChangeSpec := { name := "heapSets", fn := fun _ => fun
  | [d1, d2, d3, d4, d5] => { results := [.lit (.bool true)], args := [d1, d2, d3, d4, d5] }
  | _ => none }
def heapSetsRow : OpenClaim := { program := "ytpkhpagplommoaagreat", sum := "8d2553669e9a517b6a2620a0360c63901796ac5ebf8a55912b9fa6c074e3c59c", func := "cinder/cinderlaw.HeapSets", spec := "heapSets", inPlace := ["slices.overlaps[int]"], unfollowed := true, recurses := true, apart := false }
def HeapSetsSaid : Prop := heapSetsRow.holds Tryz.pinned (OpenSpec.ofChange heapSetsSpec)

/-- ITS FALSE NEIGHBOUR: 'it returns false'. Refute it at one input. -/
def heapSetsWrong : ChangeSpec := { name := "heapSets", fn := fun _ => fun
  | [d1, d2, d3, d4, d5] => { results := [.lit (.bool false)], args := [d1, d2, d3, d4, d5] }
  | _ => none }
def HeapSetsWrongFalsely : Prop := heapSetsRow.holds Tryz.pinned (OpenSpec.ofChange heapSetsWrong)

/-- 'cinderlaw.HeapChecks': WHATEVER THE INPUT: true; the input reads as it did. -/
def heapChecksSpec : ChangeSpec := { name := "heapChecks", fn := fun _ => fun
  | [d1, d2] => { results := [.lit (.bool true)], args := [d1, d2] }
  | _ => none }
def heapChecksRow : OpenClaim := { program := "ytpkhpagplommoaagreat", sum := "8d2553669e9a517b6a2620a0360c63901796ac5ebf8a55912b9fa6c074e3c59c", func := "cinder/cinderlaw.HeapChecks", spec := "heapChecks", inPlace := ["slices.overlaps[int]"], unfollowed := true, recurses := true, apart := false }
def HeapChecksSaid : Prop := heapChecksRow.holds Tryz.pinned (OpenSpec.ofChange heapChecksSpec)

/-- ITS FALSE NEIGHBOUR: 'it returns false'. Refute it at one input. -/
def heapChecksWrong : ChangeSpec := { name := "heapChecks", fn := fun _ => fun
  | [d1, d2] => { results := [.lit (.bool false)], args := [d1, d2] }
  | _ => none }
def HeapChecksWrongFalsely : Prop := heapChecksRow.holds Tryz.pinned (OpenSpec.ofChange heapChecksWrong)

/-- 'cinderlaw.HeapGets': WHATEVER THE INPUT: true; the input reads as it did. -/
def heapGetsSpec : ChangeSpec := { name := "heapGets", fn := fun _ => fun
  | [d1, d2, d3, d4] => { results := [.lit (.bool true)], args := [d1, d2, d3, d4] }
  | _ => none }
def heapGetsRow : OpenClaim := { program := "ytpkhpagplommoaagreat", sum := "8d2553669e9a517b6a2620a0360c63901796ac5ebf8a55912b9fa6c074e3c59c", func := "cinder/cinderlaw.HeapGets", spec := "heapGets", inPlace := ["slices.overlaps[int]"], unfollowed := true, recurses := true, apart := false }
def HeapGetsSaid : Prop := heapGetsRow.holds Tryz.pinned (OpenSpec.ofChange heapGetsSpec)

/-- ITS FALSE NEIGHBOUR: 'it returns false'. Refute it at one input. -/
def heapGetsWrong : ChangeSpec := { name := "heapGets", fn := fun _ => fun
  | [d1, d2, d3, d4] => { results := [.lit (.bool false)], args := [d1, d2, d3, d4] }
  | _ => none }
def HeapGetsWrongFalsely : Prop := heapGetsRow.holds Tryz.pinned (OpenSpec.ofChange heapGetsWrong)

/- THE SECOND FORM. 'bulk': how many values and letters a reading holds, each counted each time it is reached (what is shared counts as often as it is met; a slice's spare places count too). A statement '..UptoSaid' is the law's where the arguments, and the package variables that the reading takes, are together of bulk at most 1048576: NARROWER than '..Said'. Prove '..Said' where nothing that the law and all that it calls make is longer than what came in: it says more and counts as full. Else prove '..UptoSaid'. A law counts once. -/
mutual
def uptoBulk {H : Type} : DataW H → Nat
  | .lit (.string bytes) => bytes.length + 1
  | .lit _ => 1
  | .nil => 1
  | .ptr d => uptoBulk d + 1
  | .slice elems spare => uptoBulkAll elems + uptoBulkAll spare + 1
  | .agg parts => uptoBulkAll parts + 1
  | .iface _ d => uptoBulk d + 1
  | .map entries => uptoBulkEntries entries + 1
  | .held _ => 1
def uptoBulkAll {H : Type} : List (DataW H) → Nat
  | [] => 0
  | d :: r => uptoBulk d + uptoBulkAll r
def uptoBulkEntries {H : Type} : List (Lit × DataW H) → Nat
  | [] => 0
  | x :: r => uptoBulkEntry x + uptoBulkEntries r
def uptoBulkEntry {H : Type} : Lit × DataW H → Nat
  | (.string bytes, d) => bytes.length + uptoBulk d + 1
  | (_, d) => uptoBulk d + 1
 end
def uptoSmall : (H : Type) → List (DataW H) → Bool := fun _ ds => decide (uptoBulkAll ds ≤ 1048576)
def OpenSpec.upto (s : _root_.Go.ChangeSpec) : _root_.Go.OpenSpec := { _root_.Go.OpenSpec.ofChange s with cond := some uptoSmall }

/-- 'cinderlaw.YoungCollects', WHERE WHAT IT READS IS OF BULK AT MOST 1048576: true; the input reads as it did. -/
def youngCollectsUptoRow : OpenClaim := { program := "ytpkhpagplommoaagreat", sum := "8d2553669e9a517b6a2620a0360c63901796ac5ebf8a55912b9fa6c074e3c59c", func := "cinder/cinderlaw.YoungCollects", spec := "youngCollects", unfollowed := true, recurses := true, apart := false, narrowed := true }
def YoungCollectsUptoSaid : Prop := youngCollectsUptoRow.holds Tryz.pinned (OpenSpec.upto youngCollectsSpec)

/-- 'cinderlaw.YoungRooms', WHERE WHAT IT READS IS OF BULK AT MOST 1048576: true; the input reads as it did. -/
def youngRoomsUptoRow : OpenClaim := { program := "ytpkhpagplommoaagreat", sum := "8d2553669e9a517b6a2620a0360c63901796ac5ebf8a55912b9fa6c074e3c59c", func := "cinder/cinderlaw.YoungRooms", spec := "youngRooms", unfollowed := true, recurses := true, apart := false, narrowed := true }
def YoungRoomsUptoSaid : Prop := youngRoomsUptoRow.holds Tryz.pinned (OpenSpec.upto youngRoomsSpec)

/-- 'cinderlaw.YoungKeeps', WHERE WHAT IT READS IS OF BULK AT MOST 1048576: true; the input reads as it did. -/
def youngKeepsUptoRow : OpenClaim := { program := "ytpkhpagplommoaagreat", sum := "8d2553669e9a517b6a2620a0360c63901796ac5ebf8a55912b9fa6c074e3c59c", func := "cinder/cinderlaw.YoungKeeps", spec := "youngKeeps", unfollowed := true, recurses := true, apart := false, narrowed := true }
def YoungKeepsUptoSaid : Prop := youngKeepsUptoRow.holds Tryz.pinned (OpenSpec.upto youngKeepsSpec)

/-- 'cinderlaw.HeapMakes', WHERE WHAT IT READS IS OF BULK AT MOST 1048576: true; the input reads as it did. -/
def heapMakesUptoRow : OpenClaim := { program := "ytpkhpagplommoaagreat", sum := "8d2553669e9a517b6a2620a0360c63901796ac5ebf8a55912b9fa6c074e3c59c", func := "cinder/cinderlaw.HeapMakes", spec := "heapMakes", inPlace := ["slices.overlaps[int]"], unfollowed := true, recurses := true, apart := false, narrowed := true }
def HeapMakesUptoSaid : Prop := heapMakesUptoRow.holds Tryz.pinned (OpenSpec.upto heapMakesSpec)

/-- 'cinderlaw.HeapSets', WHERE WHAT IT READS IS OF BULK AT MOST 1048576: true; the input reads as it did. -/
def heapSetsUptoRow : OpenClaim := { program := "ytpkhpagplommoaagreat", sum := "8d2553669e9a517b6a2620a0360c63901796ac5ebf8a55912b9fa6c074e3c59c", func := "cinder/cinderlaw.HeapSets", spec := "heapSets", inPlace := ["slices.overlaps[int]"], unfollowed := true, recurses := true, apart := false, narrowed := true }
def HeapSetsUptoSaid : Prop := heapSetsUptoRow.holds Tryz.pinned (OpenSpec.upto heapSetsSpec)

/-- 'cinderlaw.HeapChecks', WHERE WHAT IT READS IS OF BULK AT MOST 1048576: true; the input reads as it did. -/
def heapChecksUptoRow : OpenClaim := { program := "ytpkhpagplommoaagreat", sum := "8d2553669e9a517b6a2620a0360c63901796ac5ebf8a55912b9fa6c074e3c59c", func := "cinder/cinderlaw.HeapChecks", spec := "heapChecks", inPlace := ["slices.overlaps[int]"], unfollowed := true, recurses := true, apart := false, narrowed := true }
def HeapChecksUptoSaid : Prop := heapChecksUptoRow.holds Tryz.pinned (OpenSpec.upto heapChecksSpec)

/-- 'cinderlaw.HeapGets', WHERE WHAT IT READS IS OF BULK AT MOST 1048576: true; the input reads as it did. -/
def heapGetsUptoRow : OpenClaim := { program := "ytpkhpagplommoaagreat", sum := "8d2553669e9a517b6a2620a0360c63901796ac5ebf8a55912b9fa6c074e3c59c", func := "cinder/cinderlaw.HeapGets", spec := "heapGets", inPlace := ["slices.overlaps[int]"], unfollowed := true, recurses := true, apart := false, narrowed := true }
def HeapGetsUptoSaid : Prop := heapGetsUptoRow.holds Tryz.pinned (OpenSpec.upto heapGetsSpec)

end Rows
end Go.Proofs.YtpkhpagplommoaaGreat
