/-
  DERIVED. GIVEN WITH THE SEED: THE PROGRAM's TIES (one call each: nine closed facts by the kernel) AND EACH ROW's TIE, after the 31st guide's Derived/Test/Toyas{Tie, Card}.lean. No idea stands in it: it is a product of the set-up. Laid BY PROGRAM, IN A SANDBOX (cutbox-door.mjs). By AI agents, Wed Nov 11 2026. No macro, syntax, notation, axiom, sorry.
-/
import Derived.Test.YtjfeebbhkolmoaaDoorRows
import Derived.LaidByTextLater
import Derived.SevenTiedAt
import Derived.LaidSub
import Derived.LaidOnce
namespace Go.Proofs.YtjfeebbhkolmoaaDoor
open Go
set_option maxRecDepth 100000
theorem seatTie1 : Tryd.prog.laidByTextLater [("errors.errorType", Rows.laid_errors_errorType), ("crucible/api.ErrArg", Rows.laid_crucible_api_ErrArg), ("crucible/api.ErrNil", Rows.laid_crucible_api_ErrNil), ("crucible/api.ErrInput", Rows.laid_crucible_api_ErrInput), ("crucible/api.ErrRep", Rows.laid_crucible_api_ErrRep), ("crucible/api.ErrLimit", Rows.laid_crucible_api_ErrLimit), ("crucible/api.ErrNone", Rows.laid_crucible_api_ErrNone), ("crucible/api.ErrBusy", Rows.laid_crucible_api_ErrBusy), ("crucible/api.ErrHandle", Rows.laid_crucible_api_ErrHandle), ("crucible/api.ErrKey", Rows.laid_crucible_api_ErrKey), ("crucible/api.ErrStopped", Rows.laid_crucible_api_ErrStopped), ("crucible/api.ErrScript", Rows.laid_crucible_api_ErrScript), ("crucible/escape.shorts", Rows.laid_crucible_escape_shorts)] [.handle, .sentinel, .sentinel, .sentinel, .sentinel, .sentinel, .sentinel, .sentinel, .sentinel, .sentinel, .sentinel, .sentinel, .widerDeep] true :=
  Program.laidByTextLater_by_one 238 8 17 (by kernel_rfl) (by kernel_rfl) (by kernel_rfl) (by kernel_rfl) (by kernel_rfl) (by kernel_rfl) (fun _ _ => by kernel_rfl)
theorem noOwnUnsafe : Tryd.pinned.checked.prog.headLifts.contains "ownunsafe" = false := by kernel_rfl
theorem tie : Tryd.prog.laidByTextLater [("errors.errorType", Rows.laid_errors_errorType), ("crucible/api.ErrArg", Rows.laid_crucible_api_ErrArg), ("crucible/api.ErrNil", Rows.laid_crucible_api_ErrNil), ("crucible/api.ErrInput", Rows.laid_crucible_api_ErrInput), ("crucible/api.ErrRep", Rows.laid_crucible_api_ErrRep), ("crucible/api.ErrLimit", Rows.laid_crucible_api_ErrLimit), ("crucible/api.ErrNone", Rows.laid_crucible_api_ErrNone), ("crucible/api.ErrBusy", Rows.laid_crucible_api_ErrBusy), ("crucible/api.ErrHandle", Rows.laid_crucible_api_ErrHandle), ("crucible/api.ErrKey", Rows.laid_crucible_api_ErrKey), ("crucible/api.ErrStopped", Rows.laid_crucible_api_ErrStopped), ("crucible/api.ErrScript", Rows.laid_crucible_api_ErrScript)] [.handle, .sentinel, .sentinel, .sentinel, .sentinel, .sentinel, .sentinel, .sentinel, .sentinel, .sentinel, .sentinel, .sentinel] true :=
  Program.laidByTextLater.sub seatTie1 ["errors.errorType", "crucible/api.ErrArg", "crucible/api.ErrNil", "crucible/api.ErrInput", "crucible/api.ErrRep", "crucible/api.ErrLimit", "crucible/api.ErrNone", "crucible/api.ErrBusy", "crucible/api.ErrHandle", "crucible/api.ErrKey", "crucible/api.ErrStopped", "crucible/api.ErrScript"] (by kernel_rfl) (by kernel_rfl)
theorem jsonscanPlays_row_tie : Rows.jsonscanPlaysRow.laidByTextAt .later Tryd.pinned [.handle, .sentinel, .sentinel, .sentinel, .sentinel, .sentinel, .sentinel, .sentinel, .sentinel, .sentinel, .sentinel, .sentinel] true :=
  OpenClaim.laidByTextAt_later rfl rfl tie noOwnUnsafe
theorem jsonscanNone_row_tie : Rows.jsonscanNoneRow.laidByTextAt .later Tryd.pinned [.handle, .sentinel, .sentinel, .sentinel, .sentinel, .sentinel, .sentinel, .sentinel, .sentinel, .sentinel, .sentinel, .sentinel] true :=
  OpenClaim.laidByTextAt_later rfl rfl tie noOwnUnsafe
theorem jsonscanTells_row_tie : Rows.jsonscanTellsRow.laidByTextAt .later Tryd.pinned [.handle, .sentinel, .sentinel, .sentinel, .sentinel, .sentinel, .sentinel, .sentinel, .sentinel, .sentinel, .sentinel, .sentinel] true :=
  OpenClaim.laidByTextAt_later rfl rfl tie noOwnUnsafe
theorem jsonscanCuts_row_tie : Rows.jsonscanCutsRow.laidByTextAt .later Tryd.pinned [.handle, .sentinel, .sentinel, .sentinel, .sentinel, .sentinel, .sentinel, .sentinel, .sentinel, .sentinel, .sentinel, .sentinel] true :=
  OpenClaim.laidByTextAt_later rfl rfl tie noOwnUnsafe
theorem jsonscanGoes_row_tie : Rows.jsonscanGoesRow.laidByTextAt .later Tryd.pinned [.handle, .sentinel, .sentinel, .sentinel, .sentinel, .sentinel, .sentinel, .sentinel, .sentinel, .sentinel, .sentinel, .sentinel] true :=
  OpenClaim.laidByTextAt_later rfl rfl tie noOwnUnsafe
theorem jsonscanDeep_row_tie : Rows.jsonscanDeepRow.laidByTextAt .later Tryd.pinned [.handle, .sentinel, .sentinel, .sentinel, .sentinel, .sentinel, .sentinel, .sentinel, .sentinel, .sentinel, .sentinel, .sentinel] true :=
  OpenClaim.laidByTextAt_later rfl rfl tie noOwnUnsafe
theorem tie2 : Tryd.prog.laidByTextLater [("errors.errorType", Rows.laid_errors_errorType), ("crucible/api.ErrArg", Rows.laid_crucible_api_ErrArg), ("crucible/api.ErrNil", Rows.laid_crucible_api_ErrNil), ("crucible/api.ErrInput", Rows.laid_crucible_api_ErrInput), ("crucible/api.ErrRep", Rows.laid_crucible_api_ErrRep), ("crucible/api.ErrLimit", Rows.laid_crucible_api_ErrLimit), ("crucible/api.ErrNone", Rows.laid_crucible_api_ErrNone), ("crucible/api.ErrBusy", Rows.laid_crucible_api_ErrBusy), ("crucible/api.ErrHandle", Rows.laid_crucible_api_ErrHandle), ("crucible/api.ErrKey", Rows.laid_crucible_api_ErrKey), ("crucible/api.ErrStopped", Rows.laid_crucible_api_ErrStopped), ("crucible/api.ErrScript", Rows.laid_crucible_api_ErrScript), ("crucible/escape.shorts", Rows.laid_crucible_escape_shorts)] [.handle, .sentinel, .sentinel, .sentinel, .sentinel, .sentinel, .sentinel, .sentinel, .sentinel, .sentinel, .sentinel, .sentinel, .widerDeep] true :=
  Program.laidByTextLater.sub seatTie1 ["errors.errorType", "crucible/api.ErrArg", "crucible/api.ErrNil", "crucible/api.ErrInput", "crucible/api.ErrRep", "crucible/api.ErrLimit", "crucible/api.ErrNone", "crucible/api.ErrBusy", "crucible/api.ErrHandle", "crucible/api.ErrKey", "crucible/api.ErrStopped", "crucible/api.ErrScript", "crucible/escape.shorts"] (by kernel_rfl) (by kernel_rfl)
theorem jsonscanMakes_row_tie : Rows.jsonscanMakesRow.laidByTextAt .later Tryd.pinned [.handle, .sentinel, .sentinel, .sentinel, .sentinel, .sentinel, .sentinel, .sentinel, .sentinel, .sentinel, .sentinel, .sentinel, .widerDeep] true :=
  OpenClaim.laidByTextAt_later rfl rfl tie2 noOwnUnsafe
theorem jsonscanLiterals_row_tie : Rows.jsonscanLiteralsRow.laidByTextAt .later Tryd.pinned [.handle, .sentinel, .sentinel, .sentinel, .sentinel, .sentinel, .sentinel, .sentinel, .sentinel, .sentinel, .sentinel, .sentinel, .widerDeep] true :=
  OpenClaim.laidByTextAt_later rfl rfl tie2 noOwnUnsafe
theorem jsonscanPlaysUpto_row_tie : Rows.jsonscanPlaysUptoRow.laidByTextAt .later Tryd.pinned [.handle, .sentinel, .sentinel, .sentinel, .sentinel, .sentinel, .sentinel, .sentinel, .sentinel, .sentinel, .sentinel, .sentinel] true :=
  OpenClaim.laidByTextAt_later rfl rfl tie noOwnUnsafe
theorem jsonscanNoneUpto_row_tie : Rows.jsonscanNoneUptoRow.laidByTextAt .later Tryd.pinned [.handle, .sentinel, .sentinel, .sentinel, .sentinel, .sentinel, .sentinel, .sentinel, .sentinel, .sentinel, .sentinel, .sentinel] true :=
  OpenClaim.laidByTextAt_later rfl rfl tie noOwnUnsafe
theorem jsonscanTellsUpto_row_tie : Rows.jsonscanTellsUptoRow.laidByTextAt .later Tryd.pinned [.handle, .sentinel, .sentinel, .sentinel, .sentinel, .sentinel, .sentinel, .sentinel, .sentinel, .sentinel, .sentinel, .sentinel] true :=
  OpenClaim.laidByTextAt_later rfl rfl tie noOwnUnsafe
theorem jsonscanCutsUpto_row_tie : Rows.jsonscanCutsUptoRow.laidByTextAt .later Tryd.pinned [.handle, .sentinel, .sentinel, .sentinel, .sentinel, .sentinel, .sentinel, .sentinel, .sentinel, .sentinel, .sentinel, .sentinel] true :=
  OpenClaim.laidByTextAt_later rfl rfl tie noOwnUnsafe
theorem jsonscanGoesUpto_row_tie : Rows.jsonscanGoesUptoRow.laidByTextAt .later Tryd.pinned [.handle, .sentinel, .sentinel, .sentinel, .sentinel, .sentinel, .sentinel, .sentinel, .sentinel, .sentinel, .sentinel, .sentinel] true :=
  OpenClaim.laidByTextAt_later rfl rfl tie noOwnUnsafe
theorem jsonscanDeepUpto_row_tie : Rows.jsonscanDeepUptoRow.laidByTextAt .later Tryd.pinned [.handle, .sentinel, .sentinel, .sentinel, .sentinel, .sentinel, .sentinel, .sentinel, .sentinel, .sentinel, .sentinel, .sentinel] true :=
  OpenClaim.laidByTextAt_later rfl rfl tie noOwnUnsafe
theorem jsonscanMakesUpto_row_tie : Rows.jsonscanMakesUptoRow.laidByTextAt .later Tryd.pinned [.handle, .sentinel, .sentinel, .sentinel, .sentinel, .sentinel, .sentinel, .sentinel, .sentinel, .sentinel, .sentinel, .sentinel, .widerDeep] true :=
  OpenClaim.laidByTextAt_later rfl rfl tie2 noOwnUnsafe
theorem jsonscanLiteralsUpto_row_tie : Rows.jsonscanLiteralsUptoRow.laidByTextAt .later Tryd.pinned [.handle, .sentinel, .sentinel, .sentinel, .sentinel, .sentinel, .sentinel, .sentinel, .sentinel, .sentinel, .sentinel, .sentinel, .widerDeep] true :=
  OpenClaim.laidByTextAt_later rfl rfl tie2 noOwnUnsafe
end Go.Proofs.YtjfeebbhkolmoaaDoor
