/-
  DERIVED. GIVEN WITH THE SEED: THE PROGRAM's TIES (one call each: nine closed facts by the kernel) AND EACH ROW's TIE, after the 31st guide's Derived/Test/Toyas{Tie, Card}.lean. No idea stands in it: it is a product of the set-up. Laid BY PROGRAM, IN A SANDBOX (cutbox-door.mjs). By AI agents, Wed Nov 11 2026. No macro, syntax, notation, axiom, sorry.
-/
import Derived.Test.YtifhjkbiiekamaaDoorRows
import Derived.LaidByTextLater
import Derived.SevenTiedAt
import Derived.LaidSub
import Derived.LaidOnce
namespace Go.Proofs.YtifhjkbiiekamaaDoor
open Go
set_option maxRecDepth 100000
theorem seatTie1 : Tryd.prog.laidByTextLater [("cinder/code.shapes", Rows.laid_cinder_code_shapes), ("cinder/verify.number", Rows.laid_cinder_verify_number), ("cinder/verify.row", Rows.laid_cinder_verify_row), ("cinder/verify.null", Rows.laid_cinder_verify_null), ("cinder/verify.unknown", Rows.laid_cinder_verify_unknown), ("cinder/verify.top", Rows.laid_cinder_verify_top)] [.wider, .data, .data, .data, .data, .data] true :=
  Program.laidByTextLater_by_one 39 8 38 (by kernel_rfl) (by kernel_rfl) (by kernel_rfl) (by kernel_rfl) (by kernel_rfl) (by kernel_rfl) (fun _ _ => by kernel_rfl)
theorem noOwnUnsafe : Tryd.pinned.checked.prog.headLifts.contains "ownunsafe" = false := by kernel_rfl
theorem tie : Tryd.prog.laidByTextLater [("cinder/code.shapes", Rows.laid_cinder_code_shapes), ("cinder/verify.number", Rows.laid_cinder_verify_number), ("cinder/verify.row", Rows.laid_cinder_verify_row), ("cinder/verify.null", Rows.laid_cinder_verify_null), ("cinder/verify.unknown", Rows.laid_cinder_verify_unknown), ("cinder/verify.top", Rows.laid_cinder_verify_top)] [.wider, .data, .data, .data, .data, .data] true :=
  Program.laidByTextLater.sub seatTie1 ["cinder/code.shapes", "cinder/verify.number", "cinder/verify.row", "cinder/verify.null", "cinder/verify.unknown", "cinder/verify.top"] (by kernel_rfl) (by kernel_rfl)
theorem verifyHolds_row_tie : Rows.verifyHoldsRow.laidByTextAt .later Tryd.pinned [.wider, .data, .data, .data, .data, .data] true :=
  OpenClaim.laidByTextAt_later rfl rfl tie noOwnUnsafe
theorem verifyLeast_row_tie : Rows.verifyLeastRow.laidByTextAt .later Tryd.pinned [.wider, .data, .data, .data, .data, .data] true :=
  OpenClaim.laidByTextAt_later rfl rfl tie noOwnUnsafe
theorem verifyHoldsUpto_row_tie : Rows.verifyHoldsUptoRow.laidByTextAt .later Tryd.pinned [.wider, .data, .data, .data, .data, .data] true :=
  OpenClaim.laidByTextAt_later rfl rfl tie noOwnUnsafe
theorem verifyLeastUpto_row_tie : Rows.verifyLeastUptoRow.laidByTextAt .later Tryd.pinned [.wider, .data, .data, .data, .data, .data] true :=
  OpenClaim.laidByTextAt_later rfl rfl tie noOwnUnsafe
end Go.Proofs.YtifhjkbiiekamaaDoor
