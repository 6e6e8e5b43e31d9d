/-
  DERIVED. GIVEN WITH THE SEED: THE PROGRAM's TIES (one call each: nine closed facts by the kernel) AND EACH ROW's TIE, after the 31st guide's Derived/Test/Toyas{Tie, Card}.lean. No idea stands in it: it is a product of the set-up. Laid BY PROGRAM, IN A SANDBOX (cutbox-door.mjs). By AI agents, Wed Nov 11 2026. No macro, syntax, notation, axiom, sorry.
-/
import Derived.Test.YtgmhpemjlbgfcaaGreatDoorRows
import Derived.LaidByTextLater
import Derived.SevenTiedAt
import Derived.LaidSub
import Derived.LaidOnce
namespace Go.Proofs.YtgmhpemjlbgfcaaGreatDoor
open Go
set_option maxRecDepth 100000
theorem seatTie1 : Tryz.prog.laidByTextLater [("math/bits.deBruijn32tab", Rows.laid_math_bits_deBruijn32tab), ("errors.errorType", Rows.laid_errors_errorType), ("placket/lex.signs", Rows.laid_placket_lex_signs), ("placket/pred.signs", Rows.laid_placket_pred_signs), ("placket/pred.names", Rows.laid_placket_pred_names)] [.data, .handle, .data, .data, .data] true :=
  Program.laidByTextLater_by_one 36 8 33 (by kernel_rfl) (by kernel_rfl) (by kernel_rfl) (by kernel_rfl) (by kernel_rfl) (by kernel_rfl) (fun _ _ => by kernel_rfl)
theorem noOwnUnsafe : Tryz.pinned.checked.prog.headLifts.contains "ownunsafe" = false := by kernel_rfl
theorem tie : Tryz.prog.laidByTextLater [("math/bits.deBruijn32tab", Rows.laid_math_bits_deBruijn32tab), ("errors.errorType", Rows.laid_errors_errorType), ("placket/lex.signs", Rows.laid_placket_lex_signs), ("placket/pred.signs", Rows.laid_placket_pred_signs), ("placket/pred.names", Rows.laid_placket_pred_names)] [.data, .handle, .data, .data, .data] true :=
  Program.laidByTextLater.sub seatTie1 ["math/bits.deBruijn32tab", "errors.errorType", "placket/lex.signs", "placket/pred.signs", "placket/pred.names"] (by kernel_rfl) (by kernel_rfl)
theorem predTruths_row_tie : Rows.predTruthsRow.laidByTextAt .later Tryz.pinned [.data, .handle, .data, .data, .data] true :=
  OpenClaim.laidByTextAt_later rfl rfl tie noOwnUnsafe
theorem predTurned_row_tie : Rows.predTurnedRow.laidByTextAt .later Tryz.pinned [.data, .handle, .data, .data, .data] true :=
  OpenClaim.laidByTextAt_later rfl rfl tie noOwnUnsafe
theorem predPaths_row_tie : Rows.predPathsRow.laidByTextAt .later Tryz.pinned [.data, .handle, .data, .data, .data] true :=
  OpenClaim.laidByTextAt_later rfl rfl tie noOwnUnsafe
theorem predChecks_row_tie : Rows.predChecksRow.laidByTextAt .later Tryz.pinned [.data, .handle, .data, .data, .data] true :=
  OpenClaim.laidByTextAt_later rfl rfl tie noOwnUnsafe
theorem predParses_row_tie : Rows.predParsesRow.laidByTextAt .later Tryz.pinned [.data, .handle, .data, .data, .data] true :=
  OpenClaim.laidByTextAt_later rfl rfl tie noOwnUnsafe
theorem predHolds_row_tie : Rows.predHoldsRow.laidByTextAt .later Tryz.pinned [.data, .handle, .data, .data, .data] true :=
  OpenClaim.laidByTextAt_later rfl rfl tie noOwnUnsafe
theorem predAgain_row_tie : Rows.predAgainRow.laidByTextAt .later Tryz.pinned [.data, .handle, .data, .data, .data] true :=
  OpenClaim.laidByTextAt_later rfl rfl tie noOwnUnsafe
theorem predTruthsUpto_row_tie : Rows.predTruthsUptoRow.laidByTextAt .later Tryz.pinned [.data, .handle, .data, .data, .data] true :=
  OpenClaim.laidByTextAt_later rfl rfl tie noOwnUnsafe
theorem predTurnedUpto_row_tie : Rows.predTurnedUptoRow.laidByTextAt .later Tryz.pinned [.data, .handle, .data, .data, .data] true :=
  OpenClaim.laidByTextAt_later rfl rfl tie noOwnUnsafe
theorem predPathsUpto_row_tie : Rows.predPathsUptoRow.laidByTextAt .later Tryz.pinned [.data, .handle, .data, .data, .data] true :=
  OpenClaim.laidByTextAt_later rfl rfl tie noOwnUnsafe
theorem predChecksUpto_row_tie : Rows.predChecksUptoRow.laidByTextAt .later Tryz.pinned [.data, .handle, .data, .data, .data] true :=
  OpenClaim.laidByTextAt_later rfl rfl tie noOwnUnsafe
theorem predParsesUpto_row_tie : Rows.predParsesUptoRow.laidByTextAt .later Tryz.pinned [.data, .handle, .data, .data, .data] true :=
  OpenClaim.laidByTextAt_later rfl rfl tie noOwnUnsafe
theorem predHoldsUpto_row_tie : Rows.predHoldsUptoRow.laidByTextAt .later Tryz.pinned [.data, .handle, .data, .data, .data] true :=
  OpenClaim.laidByTextAt_later rfl rfl tie noOwnUnsafe
theorem predAgainUpto_row_tie : Rows.predAgainUptoRow.laidByTextAt .later Tryz.pinned [.data, .handle, .data, .data, .data] true :=
  OpenClaim.laidByTextAt_later rfl rfl tie noOwnUnsafe
end Go.Proofs.YtgmhpemjlbgfcaaGreatDoor
