/-
  DERIVED. GIVEN WITH THE SEED: THE PROGRAM's TIES (one call each: nine closed facts by the kernel) AND EACH ROW's TIE, after the 31st guide's Derived/Test/Toyas{Tie, Card}.lean. No idea stands in it: it is a product of the set-up. Laid BY PROGRAM, IN A SANDBOX (cutbox-door.mjs). By AI agents, Wed Nov 11 2026. No macro, syntax, notation, axiom, sorry.
-/
import Derived.Test.YtiignmjglihbnaaDoorRows
import Derived.LaidByTextLater
import Derived.SevenTiedAt
import Derived.LaidSub
import Derived.LaidOnce
namespace Go.Proofs.YtiignmjglihbnaaDoor
open Go
set_option maxRecDepth 100000
theorem seatTie1 : Tryd.prog.laidByTextLater [("errors.errorType", Rows.laid_errors_errorType), ("crucible/api.ErrArg", Rows.laid_crucible_api_ErrArg), ("crucible/api.ErrNil", Rows.laid_crucible_api_ErrNil), ("crucible/api.ErrInput", Rows.laid_crucible_api_ErrInput), ("crucible/api.ErrRep", Rows.laid_crucible_api_ErrRep), ("crucible/api.ErrLimit", Rows.laid_crucible_api_ErrLimit), ("crucible/api.ErrNone", Rows.laid_crucible_api_ErrNone), ("crucible/api.ErrBusy", Rows.laid_crucible_api_ErrBusy), ("crucible/api.ErrHandle", Rows.laid_crucible_api_ErrHandle), ("crucible/api.ErrKey", Rows.laid_crucible_api_ErrKey), ("crucible/api.ErrStopped", Rows.laid_crucible_api_ErrStopped), ("crucible/api.ErrScript", Rows.laid_crucible_api_ErrScript), ("crucible/escape.shorts", Rows.laid_crucible_escape_shorts)] [.handle, .sentinel, .sentinel, .sentinel, .sentinel, .sentinel, .sentinel, .sentinel, .sentinel, .sentinel, .sentinel, .sentinel, .widerDeep] true :=
  Program.laidByTextLater_by_one 238 8 17 (by kernel_rfl) (by kernel_rfl) (by kernel_rfl) (by kernel_rfl) (by kernel_rfl) (by kernel_rfl) (fun _ _ => by kernel_rfl)
theorem noOwnUnsafe : Tryd.pinned.checked.prog.headLifts.contains "ownunsafe" = false := by kernel_rfl
theorem tie : Tryd.prog.laidByTextLater [("crucible/escape.shorts", Rows.laid_crucible_escape_shorts)] [.widerDeep] true :=
  Program.laidByTextLater.sub seatTie1 ["crucible/escape.shorts"] (by kernel_rfl) (by kernel_rfl)
theorem escapeQuotes_row_tie : Rows.escapeQuotesRow.laidByTextAt .later Tryd.pinned [.widerDeep] true :=
  OpenClaim.laidByTextAt_later rfl rfl tie noOwnUnsafe
theorem tie2 : Tryd.prog.laidByTextLater [("errors.errorType", Rows.laid_errors_errorType), ("crucible/api.ErrArg", Rows.laid_crucible_api_ErrArg), ("crucible/api.ErrNil", Rows.laid_crucible_api_ErrNil), ("crucible/api.ErrInput", Rows.laid_crucible_api_ErrInput), ("crucible/api.ErrRep", Rows.laid_crucible_api_ErrRep), ("crucible/api.ErrLimit", Rows.laid_crucible_api_ErrLimit), ("crucible/api.ErrNone", Rows.laid_crucible_api_ErrNone), ("crucible/api.ErrBusy", Rows.laid_crucible_api_ErrBusy), ("crucible/api.ErrHandle", Rows.laid_crucible_api_ErrHandle), ("crucible/api.ErrKey", Rows.laid_crucible_api_ErrKey), ("crucible/api.ErrStopped", Rows.laid_crucible_api_ErrStopped), ("crucible/api.ErrScript", Rows.laid_crucible_api_ErrScript), ("crucible/escape.shorts", Rows.laid_crucible_escape_shorts)] [.handle, .sentinel, .sentinel, .sentinel, .sentinel, .sentinel, .sentinel, .sentinel, .sentinel, .sentinel, .sentinel, .sentinel, .widerDeep] true :=
  Program.laidByTextLater.sub seatTie1 ["errors.errorType", "crucible/api.ErrArg", "crucible/api.ErrNil", "crucible/api.ErrInput", "crucible/api.ErrRep", "crucible/api.ErrLimit", "crucible/api.ErrNone", "crucible/api.ErrBusy", "crucible/api.ErrHandle", "crucible/api.ErrKey", "crucible/api.ErrStopped", "crucible/api.ErrScript", "crucible/escape.shorts"] (by kernel_rfl) (by kernel_rfl)
theorem escapeScans_row_tie : Rows.escapeScansRow.laidByTextAt .later Tryd.pinned [.handle, .sentinel, .sentinel, .sentinel, .sentinel, .sentinel, .sentinel, .sentinel, .sentinel, .sentinel, .sentinel, .sentinel, .widerDeep] true :=
  OpenClaim.laidByTextAt_later rfl rfl tie2 noOwnUnsafe
theorem escapeUnquotes_row_tie : Rows.escapeUnquotesRow.laidByTextAt .later Tryd.pinned [.handle, .sentinel, .sentinel, .sentinel, .sentinel, .sentinel, .sentinel, .sentinel, .sentinel, .sentinel, .sentinel, .sentinel, .widerDeep] true :=
  OpenClaim.laidByTextAt_later rfl rfl tie2 noOwnUnsafe
theorem escapeBack_row_tie : Rows.escapeBackRow.laidByTextAt .later Tryd.pinned [.handle, .sentinel, .sentinel, .sentinel, .sentinel, .sentinel, .sentinel, .sentinel, .sentinel, .sentinel, .sentinel, .sentinel, .widerDeep] true :=
  OpenClaim.laidByTextAt_later rfl rfl tie2 noOwnUnsafe
theorem escapeForms_row_tie : Rows.escapeFormsRow.laidByTextAt .later Tryd.pinned [.handle, .sentinel, .sentinel, .sentinel, .sentinel, .sentinel, .sentinel, .sentinel, .sentinel, .sentinel, .sentinel, .sentinel, .widerDeep] true :=
  OpenClaim.laidByTextAt_later rfl rfl tie2 noOwnUnsafe
theorem escapeWithin_row_tie : Rows.escapeWithinRow.laidByTextAt .later Tryd.pinned [.handle, .sentinel, .sentinel, .sentinel, .sentinel, .sentinel, .sentinel, .sentinel, .sentinel, .sentinel, .sentinel, .sentinel, .widerDeep] true :=
  OpenClaim.laidByTextAt_later rfl rfl tie2 noOwnUnsafe
theorem escapePlaces_row_tie : Rows.escapePlacesRow.laidByTextAt .later Tryd.pinned [.handle, .sentinel, .sentinel, .sentinel, .sentinel, .sentinel, .sentinel, .sentinel, .sentinel, .sentinel, .sentinel, .sentinel, .widerDeep] true :=
  OpenClaim.laidByTextAt_later rfl rfl tie2 noOwnUnsafe
theorem escapeQuotesUpto_row_tie : Rows.escapeQuotesUptoRow.laidByTextAt .later Tryd.pinned [.widerDeep] true :=
  OpenClaim.laidByTextAt_later rfl rfl tie noOwnUnsafe
theorem escapeScansUpto_row_tie : Rows.escapeScansUptoRow.laidByTextAt .later Tryd.pinned [.handle, .sentinel, .sentinel, .sentinel, .sentinel, .sentinel, .sentinel, .sentinel, .sentinel, .sentinel, .sentinel, .sentinel, .widerDeep] true :=
  OpenClaim.laidByTextAt_later rfl rfl tie2 noOwnUnsafe
theorem escapeUnquotesUpto_row_tie : Rows.escapeUnquotesUptoRow.laidByTextAt .later Tryd.pinned [.handle, .sentinel, .sentinel, .sentinel, .sentinel, .sentinel, .sentinel, .sentinel, .sentinel, .sentinel, .sentinel, .sentinel, .widerDeep] true :=
  OpenClaim.laidByTextAt_later rfl rfl tie2 noOwnUnsafe
theorem escapeBackUpto_row_tie : Rows.escapeBackUptoRow.laidByTextAt .later Tryd.pinned [.handle, .sentinel, .sentinel, .sentinel, .sentinel, .sentinel, .sentinel, .sentinel, .sentinel, .sentinel, .sentinel, .sentinel, .widerDeep] true :=
  OpenClaim.laidByTextAt_later rfl rfl tie2 noOwnUnsafe
theorem escapeFormsUpto_row_tie : Rows.escapeFormsUptoRow.laidByTextAt .later Tryd.pinned [.handle, .sentinel, .sentinel, .sentinel, .sentinel, .sentinel, .sentinel, .sentinel, .sentinel, .sentinel, .sentinel, .sentinel, .widerDeep] true :=
  OpenClaim.laidByTextAt_later rfl rfl tie2 noOwnUnsafe
theorem escapeWithinUpto_row_tie : Rows.escapeWithinUptoRow.laidByTextAt .later Tryd.pinned [.handle, .sentinel, .sentinel, .sentinel, .sentinel, .sentinel, .sentinel, .sentinel, .sentinel, .sentinel, .sentinel, .sentinel, .widerDeep] true :=
  OpenClaim.laidByTextAt_later rfl rfl tie2 noOwnUnsafe
theorem escapePlacesUpto_row_tie : Rows.escapePlacesUptoRow.laidByTextAt .later Tryd.pinned [.handle, .sentinel, .sentinel, .sentinel, .sentinel, .sentinel, .sentinel, .sentinel, .sentinel, .sentinel, .sentinel, .sentinel, .widerDeep] true :=
  OpenClaim.laidByTextAt_later rfl rfl tie2 noOwnUnsafe
end Go.Proofs.YtiignmjglihbnaaDoor
