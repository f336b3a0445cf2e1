/-
  DERIVED. GIVEN WITH THE SEED: THE PROGRAM's TIES (one call each: nine closed facts by the kernel) AND EACH ROW's TIE, after the 31st guide's Derived/Test/Toyas{Tie, Card}.lean. No idea stands in it: it is a product of the set-up. Laid BY PROGRAM, IN A SANDBOX (cutbox-door.mjs). By AI agents, Wed Nov 11 2026. No macro, syntax, notation, axiom, sorry.
-/
import Derived.Test.YthpplbigmolnjaaDoorRows
import Derived.LaidByTextLater
import Derived.SevenTiedAt
import Derived.LaidSub
import Derived.LaidOnce
namespace Go.Proofs.YthpplbigmolnjaaDoor
open Go
set_option maxRecDepth 100000
theorem seatTie1 : Tryd.prog.laidByTextLater [("math/bits.deBruijn32tab", Rows.laid_math_bits_deBruijn32tab), ("math/bits.deBruijn64tab", Rows.laid_math_bits_deBruijn64tab), ("internal/strconv.uint64pow10", Rows.laid_internal_strconv_uint64pow10), ("errors.errorType", Rows.laid_errors_errorType), ("towncrier/api.ErrShort", Rows.laid_towncrier_api_ErrShort), ("towncrier/api.ErrMalformed", Rows.laid_towncrier_api_ErrMalformed), ("towncrier/api.ErrProtocol", Rows.laid_towncrier_api_ErrProtocol), ("towncrier/api.ErrTooLarge", Rows.laid_towncrier_api_ErrTooLarge), ("towncrier/api.ErrQuota", Rows.laid_towncrier_api_ErrQuota), ("towncrier/api.ErrState", Rows.laid_towncrier_api_ErrState), ("towncrier/api.ErrArgument", Rows.laid_towncrier_api_ErrArgument)] [.data, .data, .data, .handle, .sentinel, .sentinel, .sentinel, .sentinel, .sentinel, .sentinel, .sentinel] true :=
  Program.laidByTextLater_by_one 164 8 65 (by kernel_rfl) (by kernel_rfl) (by kernel_rfl) (by kernel_rfl) (by kernel_rfl) (by kernel_rfl) (fun _ _ => by kernel_rfl)
theorem noOwnUnsafe : Tryd.pinned.checked.prog.headLifts.contains "ownunsafe" = false := by kernel_rfl
theorem tie : Tryd.prog.laidByTextLater [("errors.errorType", Rows.laid_errors_errorType), ("towncrier/api.ErrShort", Rows.laid_towncrier_api_ErrShort), ("towncrier/api.ErrMalformed", Rows.laid_towncrier_api_ErrMalformed), ("towncrier/api.ErrProtocol", Rows.laid_towncrier_api_ErrProtocol), ("towncrier/api.ErrTooLarge", Rows.laid_towncrier_api_ErrTooLarge), ("towncrier/api.ErrQuota", Rows.laid_towncrier_api_ErrQuota), ("towncrier/api.ErrState", Rows.laid_towncrier_api_ErrState), ("towncrier/api.ErrArgument", Rows.laid_towncrier_api_ErrArgument)] [.handle, .sentinel, .sentinel, .sentinel, .sentinel, .sentinel, .sentinel, .sentinel] true :=
  Program.laidByTextLater.sub seatTie1 ["errors.errorType", "towncrier/api.ErrShort", "towncrier/api.ErrMalformed", "towncrier/api.ErrProtocol", "towncrier/api.ErrTooLarge", "towncrier/api.ErrQuota", "towncrier/api.ErrState", "towncrier/api.ErrArgument"] (by kernel_rfl) (by kernel_rfl)
theorem faultDeeper_row_tie : Rows.faultDeeperRow.laidByTextAt .later Tryd.pinned [.handle, .sentinel, .sentinel, .sentinel, .sentinel, .sentinel, .sentinel, .sentinel] true :=
  OpenClaim.laidByTextAt_later rfl rfl tie noOwnUnsafe
theorem walScans_row_tie : Rows.walScansRow.laidByTextAt .later Tryd.pinned [.handle, .sentinel, .sentinel, .sentinel, .sentinel, .sentinel, .sentinel, .sentinel] true :=
  OpenClaim.laidByTextAt_later rfl rfl tie noOwnUnsafe
theorem walFinds_row_tie : Rows.walFindsRow.laidByTextAt .later Tryd.pinned [.handle, .sentinel, .sentinel, .sentinel, .sentinel, .sentinel, .sentinel, .sentinel] true :=
  OpenClaim.laidByTextAt_later rfl rfl tie noOwnUnsafe
theorem walCrash_row_tie : Rows.walCrashRow.laidByTextAt .later Tryd.pinned [.handle, .sentinel, .sentinel, .sentinel, .sentinel, .sentinel, .sentinel, .sentinel] true :=
  OpenClaim.laidByTextAt_later rfl rfl tie noOwnUnsafe
theorem tie2 : Tryd.prog.laidByTextLater [("math/bits.deBruijn32tab", Rows.laid_math_bits_deBruijn32tab), ("math/bits.deBruijn64tab", Rows.laid_math_bits_deBruijn64tab), ("internal/strconv.uint64pow10", Rows.laid_internal_strconv_uint64pow10), ("errors.errorType", Rows.laid_errors_errorType), ("towncrier/api.ErrShort", Rows.laid_towncrier_api_ErrShort), ("towncrier/api.ErrMalformed", Rows.laid_towncrier_api_ErrMalformed), ("towncrier/api.ErrProtocol", Rows.laid_towncrier_api_ErrProtocol), ("towncrier/api.ErrTooLarge", Rows.laid_towncrier_api_ErrTooLarge), ("towncrier/api.ErrQuota", Rows.laid_towncrier_api_ErrQuota), ("towncrier/api.ErrState", Rows.laid_towncrier_api_ErrState), ("towncrier/api.ErrArgument", Rows.laid_towncrier_api_ErrArgument)] [.data, .data, .data, .handle, .sentinel, .sentinel, .sentinel, .sentinel, .sentinel, .sentinel, .sentinel] true :=
  Program.laidByTextLater.sub seatTie1 ["math/bits.deBruijn32tab", "math/bits.deBruijn64tab", "internal/strconv.uint64pow10", "errors.errorType", "towncrier/api.ErrShort", "towncrier/api.ErrMalformed", "towncrier/api.ErrProtocol", "towncrier/api.ErrTooLarge", "towncrier/api.ErrQuota", "towncrier/api.ErrState", "towncrier/api.ErrArgument"] (by kernel_rfl) (by kernel_rfl)
theorem faultIs_row_tie : Rows.faultIsRow.laidByTextAt .later Tryd.pinned [.data, .data, .data, .handle, .sentinel, .sentinel, .sentinel, .sentinel, .sentinel, .sentinel, .sentinel] true :=
  OpenClaim.laidByTextAt_later rfl rfl tie2 noOwnUnsafe
theorem faultOthers_row_tie : Rows.faultOthersRow.laidByTextAt .later Tryd.pinned [.data, .data, .data, .handle, .sentinel, .sentinel, .sentinel, .sentinel, .sentinel, .sentinel, .sentinel] true :=
  OpenClaim.laidByTextAt_later rfl rfl tie2 noOwnUnsafe
theorem faultDeeperUpto_row_tie : Rows.faultDeeperUptoRow.laidByTextAt .later Tryd.pinned [.handle, .sentinel, .sentinel, .sentinel, .sentinel, .sentinel, .sentinel, .sentinel] true :=
  OpenClaim.laidByTextAt_later rfl rfl tie noOwnUnsafe
theorem walScansUpto_row_tie : Rows.walScansUptoRow.laidByTextAt .later Tryd.pinned [.handle, .sentinel, .sentinel, .sentinel, .sentinel, .sentinel, .sentinel, .sentinel] true :=
  OpenClaim.laidByTextAt_later rfl rfl tie noOwnUnsafe
theorem walFindsUpto_row_tie : Rows.walFindsUptoRow.laidByTextAt .later Tryd.pinned [.handle, .sentinel, .sentinel, .sentinel, .sentinel, .sentinel, .sentinel, .sentinel] true :=
  OpenClaim.laidByTextAt_later rfl rfl tie noOwnUnsafe
theorem walCrashUpto_row_tie : Rows.walCrashUptoRow.laidByTextAt .later Tryd.pinned [.handle, .sentinel, .sentinel, .sentinel, .sentinel, .sentinel, .sentinel, .sentinel] true :=
  OpenClaim.laidByTextAt_later rfl rfl tie noOwnUnsafe
theorem faultIsUpto_row_tie : Rows.faultIsUptoRow.laidByTextAt .later Tryd.pinned [.data, .data, .data, .handle, .sentinel, .sentinel, .sentinel, .sentinel, .sentinel, .sentinel, .sentinel] true :=
  OpenClaim.laidByTextAt_later rfl rfl tie2 noOwnUnsafe
theorem faultOthersUpto_row_tie : Rows.faultOthersUptoRow.laidByTextAt .later Tryd.pinned [.data, .data, .data, .handle, .sentinel, .sentinel, .sentinel, .sentinel, .sentinel, .sentinel, .sentinel] true :=
  OpenClaim.laidByTextAt_later rfl rfl tie2 noOwnUnsafe
end Go.Proofs.YthpplbigmolnjaaDoor
