/-
  DERIVED. GIVEN WITH THE SEED: THE PROGRAM's TIES (one call each: nine closed facts by the kernel) AND EACH ROW's TIE, after the 31st guide's Derived/Test/Toyas{Tie, Card}.lean. No idea stands in it: it is a product of the set-up. Laid BY PROGRAM, IN A SANDBOX (cutbox-door.mjs). By AI agents, Wed Nov 11 2026. No macro, syntax, notation, axiom, sorry.
-/
import Derived.Test.YthhjefemijhamaaGreatDoorRows
import Derived.LaidByTextLater
import Derived.SevenTiedAt
import Derived.LaidSub
import Derived.LaidOnce
namespace Go.Proofs.YthhjefemijhamaaGreatDoor
open Go
set_option maxRecDepth 100000
theorem seatTie1 : Tryz.prog.laidByTextLater [("math/bits.deBruijn32tab", Rows.laid_math_bits_deBruijn32tab), ("errors.errorType", Rows.laid_errors_errorType), ("placket/lex.signs", Rows.laid_placket_lex_signs)] [.data, .handle, .data] true :=
  Program.laidByTextLater_by_one 26 8 33 (by kernel_rfl) (by kernel_rfl) (by kernel_rfl) (by kernel_rfl) (by kernel_rfl) (by kernel_rfl) (fun _ _ => by kernel_rfl)
theorem noOwnUnsafe : Tryz.pinned.checked.prog.headLifts.contains "ownunsafe" = false := by kernel_rfl
theorem tie : Tryz.prog.laidByTextLater [("math/bits.deBruijn32tab", Rows.laid_math_bits_deBruijn32tab), ("errors.errorType", Rows.laid_errors_errorType), ("placket/lex.signs", Rows.laid_placket_lex_signs)] [.data, .handle, .data] true :=
  Program.laidByTextLater.sub seatTie1 ["math/bits.deBruijn32tab", "errors.errorType", "placket/lex.signs"] (by kernel_rfl) (by kernel_rfl)
theorem codecEncodes_row_tie : Rows.codecEncodesRow.laidByTextAt .later Tryz.pinned [.data, .handle, .data] true :=
  OpenClaim.laidByTextAt_later rfl rfl tie noOwnUnsafe
theorem codecCanon_row_tie : Rows.codecCanonRow.laidByTextAt .later Tryz.pinned [.data, .handle, .data] true :=
  OpenClaim.laidByTextAt_later rfl rfl tie noOwnUnsafe
theorem codecDeep_row_tie : Rows.codecDeepRow.laidByTextAt .later Tryz.pinned [.data, .handle, .data] true :=
  OpenClaim.laidByTextAt_later rfl rfl tie noOwnUnsafe
theorem codecMany_row_tie : Rows.codecManyRow.laidByTextAt .later Tryz.pinned [.data, .handle, .data] true :=
  OpenClaim.laidByTextAt_later rfl rfl tie noOwnUnsafe
theorem codecOne_row_tie : Rows.codecOneRow.laidByTextAt .later Tryz.pinned [.data, .handle, .data] true :=
  OpenClaim.laidByTextAt_later rfl rfl tie noOwnUnsafe
theorem codecCut_row_tie : Rows.codecCutRow.laidByTextAt .later Tryz.pinned [.data, .handle, .data] true :=
  OpenClaim.laidByTextAt_later rfl rfl tie noOwnUnsafe
theorem codecParses_row_tie : Rows.codecParsesRow.laidByTextAt .later Tryz.pinned [.data, .handle, .data] true :=
  OpenClaim.laidByTextAt_later rfl rfl tie noOwnUnsafe
theorem codecTakes_row_tie : Rows.codecTakesRow.laidByTextAt .later Tryz.pinned [.data, .handle, .data] true :=
  OpenClaim.laidByTextAt_later rfl rfl tie noOwnUnsafe
theorem codecBack_row_tie : Rows.codecBackRow.laidByTextAt .later Tryz.pinned [.data, .handle, .data] true :=
  OpenClaim.laidByTextAt_later rfl rfl tie noOwnUnsafe
theorem codecBlanks_row_tie : Rows.codecBlanksRow.laidByTextAt .later Tryz.pinned [.data, .handle, .data] true :=
  OpenClaim.laidByTextAt_later rfl rfl tie noOwnUnsafe
theorem codecEncodesUpto_row_tie : Rows.codecEncodesUptoRow.laidByTextAt .later Tryz.pinned [.data, .handle, .data] true :=
  OpenClaim.laidByTextAt_later rfl rfl tie noOwnUnsafe
theorem codecCanonUpto_row_tie : Rows.codecCanonUptoRow.laidByTextAt .later Tryz.pinned [.data, .handle, .data] true :=
  OpenClaim.laidByTextAt_later rfl rfl tie noOwnUnsafe
theorem codecDeepUpto_row_tie : Rows.codecDeepUptoRow.laidByTextAt .later Tryz.pinned [.data, .handle, .data] true :=
  OpenClaim.laidByTextAt_later rfl rfl tie noOwnUnsafe
theorem codecManyUpto_row_tie : Rows.codecManyUptoRow.laidByTextAt .later Tryz.pinned [.data, .handle, .data] true :=
  OpenClaim.laidByTextAt_later rfl rfl tie noOwnUnsafe
theorem codecOneUpto_row_tie : Rows.codecOneUptoRow.laidByTextAt .later Tryz.pinned [.data, .handle, .data] true :=
  OpenClaim.laidByTextAt_later rfl rfl tie noOwnUnsafe
theorem codecCutUpto_row_tie : Rows.codecCutUptoRow.laidByTextAt .later Tryz.pinned [.data, .handle, .data] true :=
  OpenClaim.laidByTextAt_later rfl rfl tie noOwnUnsafe
theorem codecParsesUpto_row_tie : Rows.codecParsesUptoRow.laidByTextAt .later Tryz.pinned [.data, .handle, .data] true :=
  OpenClaim.laidByTextAt_later rfl rfl tie noOwnUnsafe
theorem codecTakesUpto_row_tie : Rows.codecTakesUptoRow.laidByTextAt .later Tryz.pinned [.data, .handle, .data] true :=
  OpenClaim.laidByTextAt_later rfl rfl tie noOwnUnsafe
theorem codecBackUpto_row_tie : Rows.codecBackUptoRow.laidByTextAt .later Tryz.pinned [.data, .handle, .data] true :=
  OpenClaim.laidByTextAt_later rfl rfl tie noOwnUnsafe
theorem codecBlanksUpto_row_tie : Rows.codecBlanksUptoRow.laidByTextAt .later Tryz.pinned [.data, .handle, .data] true :=
  OpenClaim.laidByTextAt_later rfl rfl tie noOwnUnsafe
end Go.Proofs.YthhjefemijhamaaGreatDoor
