/-
  DERIVED. GIVEN WITH THE SEED: THE PROGRAM's TIES (one call each: nine closed facts by the kernel) AND EACH ROW's TIE, after the 31st guide's Derived/Test/Toyas{Tie, Card}.lean. No idea stands in it: it is a product of the set-up. Laid BY PROGRAM, IN A SANDBOX (cutbox-door.mjs). By AI agents, Wed Nov 11 2026. No macro, syntax, notation, axiom, sorry.
-/
import Derived.Test.YtnlncfjibbdimaaDoorRows
import Derived.LaidByTextLater
import Derived.SevenTiedAt
import Derived.LaidSub
import Derived.LaidOnce
namespace Go.Proofs.YtnlncfjibbdimaaDoor
open Go
set_option maxRecDepth 100000
theorem seatTie1 : Tryd.prog.laidByTextLater [("bollard/api.ErrParams", Rows.laid_bollard_api_ErrParams), ("bollard/api.ErrNumber", Rows.laid_bollard_api_ErrNumber), ("bollard/api.ErrData", Rows.laid_bollard_api_ErrData), ("bollard/api.ErrLost", Rows.laid_bollard_api_ErrLost), ("bollard/api.ErrBytes", Rows.laid_bollard_api_ErrBytes), ("bollard/api.ErrDigest", Rows.laid_bollard_api_ErrDigest), ("bollard/api.ErrName", Rows.laid_bollard_api_ErrName), ("bollard/api.ErrGone", Rows.laid_bollard_api_ErrGone), ("bollard/api.ErrThere", Rows.laid_bollard_api_ErrThere), ("bollard/api.ErrFull", Rows.laid_bollard_api_ErrFull), ("bollard/api.ErrLarge", Rows.laid_bollard_api_ErrLarge), ("bollard/api.ErrBallot", Rows.laid_bollard_api_ErrBallot), ("bollard/api.ErrRequest", Rows.laid_bollard_api_ErrRequest), ("bollard/api.ErrUri", Rows.laid_bollard_api_ErrUri), ("bollard/api.ErrDenied", Rows.laid_bollard_api_ErrDenied), ("bollard/api.ErrSkew", Rows.laid_bollard_api_ErrSkew), ("bollard/api.ErrMethod", Rows.laid_bollard_api_ErrMethod), ("bollard/api.ErrState", Rows.laid_bollard_api_ErrState)] [.sentinel, .sentinel, .sentinel, .sentinel, .sentinel, .sentinel, .sentinel, .sentinel, .sentinel, .sentinel, .sentinel, .sentinel, .sentinel, .sentinel, .sentinel, .sentinel, .sentinel, .sentinel] true :=
  Program.laidByTextLater_by_one 351 8 2 (by kernel_rfl) (by kernel_rfl) (by kernel_rfl) (by kernel_rfl) (by kernel_rfl) (by kernel_rfl) (fun _ _ => by kernel_rfl)
theorem noOwnUnsafe : Tryd.pinned.checked.prog.headLifts.contains "ownunsafe" = false := by kernel_rfl
theorem tie : Tryd.prog.laidByTextLater [("bollard/api.ErrNumber", Rows.laid_bollard_api_ErrNumber), ("bollard/api.ErrBallot", Rows.laid_bollard_api_ErrBallot)] [.sentinel, .sentinel] true :=
  Program.laidByTextLater.sub seatTie1 ["bollard/api.ErrNumber", "bollard/api.ErrBallot"] (by kernel_rfl) (by kernel_rfl)
theorem ballotNumbers_row_tie : Rows.ballotNumbersRow.laidByTextAt .later Tryd.pinned [.sentinel, .sentinel] true :=
  OpenClaim.laidByTextAt_later rfl rfl tie noOwnUnsafe
theorem ballotAgrees_row_tie : Rows.ballotAgreesRow.laidByTextAt .later Tryd.pinned [.sentinel, .sentinel] true :=
  OpenClaim.laidByTextAt_later rfl rfl tie noOwnUnsafe
theorem tie2 : Tryd.prog.laidByTextLater [("bollard/api.ErrParams", Rows.laid_bollard_api_ErrParams), ("bollard/api.ErrNumber", Rows.laid_bollard_api_ErrNumber), ("bollard/api.ErrData", Rows.laid_bollard_api_ErrData), ("bollard/api.ErrLost", Rows.laid_bollard_api_ErrLost), ("bollard/api.ErrBytes", Rows.laid_bollard_api_ErrBytes), ("bollard/api.ErrDigest", Rows.laid_bollard_api_ErrDigest), ("bollard/api.ErrName", Rows.laid_bollard_api_ErrName), ("bollard/api.ErrGone", Rows.laid_bollard_api_ErrGone), ("bollard/api.ErrThere", Rows.laid_bollard_api_ErrThere), ("bollard/api.ErrFull", Rows.laid_bollard_api_ErrFull), ("bollard/api.ErrLarge", Rows.laid_bollard_api_ErrLarge), ("bollard/api.ErrBallot", Rows.laid_bollard_api_ErrBallot), ("bollard/api.ErrRequest", Rows.laid_bollard_api_ErrRequest), ("bollard/api.ErrUri", Rows.laid_bollard_api_ErrUri), ("bollard/api.ErrDenied", Rows.laid_bollard_api_ErrDenied), ("bollard/api.ErrSkew", Rows.laid_bollard_api_ErrSkew), ("bollard/api.ErrMethod", Rows.laid_bollard_api_ErrMethod), ("bollard/api.ErrState", Rows.laid_bollard_api_ErrState)] [.sentinel, .sentinel, .sentinel, .sentinel, .sentinel, .sentinel, .sentinel, .sentinel, .sentinel, .sentinel, .sentinel, .sentinel, .sentinel, .sentinel, .sentinel, .sentinel, .sentinel, .sentinel] true :=
  Program.laidByTextLater.sub seatTie1 ["bollard/api.ErrParams", "bollard/api.ErrNumber", "bollard/api.ErrData", "bollard/api.ErrLost", "bollard/api.ErrBytes", "bollard/api.ErrDigest", "bollard/api.ErrName", "bollard/api.ErrGone", "bollard/api.ErrThere", "bollard/api.ErrFull", "bollard/api.ErrLarge", "bollard/api.ErrBallot", "bollard/api.ErrRequest", "bollard/api.ErrUri", "bollard/api.ErrDenied", "bollard/api.ErrSkew", "bollard/api.ErrMethod", "bollard/api.ErrState"] (by kernel_rfl) (by kernel_rfl)
theorem ballotPlays_row_tie : Rows.ballotPlaysRow.laidByTextAt .later Tryd.pinned [.sentinel, .sentinel, .sentinel, .sentinel, .sentinel, .sentinel, .sentinel, .sentinel, .sentinel, .sentinel, .sentinel, .sentinel, .sentinel, .sentinel, .sentinel, .sentinel, .sentinel, .sentinel] true :=
  OpenClaim.laidByTextAt_later rfl rfl tie2 noOwnUnsafe
theorem roundPlays_row_tie : Rows.roundPlaysRow.laidByTextAt .later Tryd.pinned [.sentinel, .sentinel, .sentinel, .sentinel, .sentinel, .sentinel, .sentinel, .sentinel, .sentinel, .sentinel, .sentinel, .sentinel, .sentinel, .sentinel, .sentinel, .sentinel, .sentinel, .sentinel] true :=
  OpenClaim.laidByTextAt_later rfl rfl tie2 noOwnUnsafe
theorem commandLedgers_row_tie : Rows.commandLedgersRow.laidByTextAt .later Tryd.pinned [.sentinel, .sentinel, .sentinel, .sentinel, .sentinel, .sentinel, .sentinel, .sentinel, .sentinel, .sentinel, .sentinel, .sentinel, .sentinel, .sentinel, .sentinel, .sentinel, .sentinel, .sentinel] true :=
  OpenClaim.laidByTextAt_later rfl rfl tie2 noOwnUnsafe
theorem commandReads_row_tie : Rows.commandReadsRow.laidByTextAt .later Tryd.pinned [.sentinel, .sentinel, .sentinel, .sentinel, .sentinel, .sentinel, .sentinel, .sentinel, .sentinel, .sentinel, .sentinel, .sentinel, .sentinel, .sentinel, .sentinel, .sentinel, .sentinel, .sentinel] true :=
  OpenClaim.laidByTextAt_later rfl rfl tie2 noOwnUnsafe
theorem postGets_row_tie : Rows.postGetsRow.laidByTextAt .later Tryd.pinned [.sentinel, .sentinel, .sentinel, .sentinel, .sentinel, .sentinel, .sentinel, .sentinel, .sentinel, .sentinel, .sentinel, .sentinel, .sentinel, .sentinel, .sentinel, .sentinel, .sentinel, .sentinel] true :=
  OpenClaim.laidByTextAt_later rfl rfl tie2 noOwnUnsafe
theorem tie3 : Tryd.prog.laidByTextLater [("bollard/api.ErrNumber", Rows.laid_bollard_api_ErrNumber), ("bollard/api.ErrFull", Rows.laid_bollard_api_ErrFull), ("bollard/api.ErrBallot", Rows.laid_bollard_api_ErrBallot)] [.sentinel, .sentinel, .sentinel] true :=
  Program.laidByTextLater.sub seatTie1 ["bollard/api.ErrNumber", "bollard/api.ErrFull", "bollard/api.ErrBallot"] (by kernel_rfl) (by kernel_rfl)
theorem ballotRises_row_tie : Rows.ballotRisesRow.laidByTextAt .later Tryd.pinned [.sentinel, .sentinel, .sentinel] true :=
  OpenClaim.laidByTextAt_later rfl rfl tie3 noOwnUnsafe
theorem tie4 : Tryd.prog.laidByTextLater [("bollard/api.ErrNumber", Rows.laid_bollard_api_ErrNumber), ("bollard/api.ErrState", Rows.laid_bollard_api_ErrState)] [.sentinel, .sentinel] true :=
  Program.laidByTextLater.sub seatTie1 ["bollard/api.ErrNumber", "bollard/api.ErrState"] (by kernel_rfl) (by kernel_rfl)
theorem commandNames_row_tie : Rows.commandNamesRow.laidByTextAt .later Tryd.pinned [.sentinel, .sentinel] true :=
  OpenClaim.laidByTextAt_later rfl rfl tie4 noOwnUnsafe
theorem tie5 : Tryd.prog.laidByTextLater [("bollard/api.ErrNumber", Rows.laid_bollard_api_ErrNumber), ("bollard/api.ErrBytes", Rows.laid_bollard_api_ErrBytes), ("bollard/api.ErrState", Rows.laid_bollard_api_ErrState)] [.sentinel, .sentinel, .sentinel] true :=
  Program.laidByTextLater.sub seatTie1 ["bollard/api.ErrNumber", "bollard/api.ErrBytes", "bollard/api.ErrState"] (by kernel_rfl) (by kernel_rfl)
theorem commandForms_row_tie : Rows.commandFormsRow.laidByTextAt .later Tryd.pinned [.sentinel, .sentinel, .sentinel] true :=
  OpenClaim.laidByTextAt_later rfl rfl tie5 noOwnUnsafe
theorem commandGets_row_tie : Rows.commandGetsRow.laidByTextAt .later Tryd.pinned [.sentinel, .sentinel, .sentinel] true :=
  OpenClaim.laidByTextAt_later rfl rfl tie5 noOwnUnsafe
theorem tie6 : Tryd.prog.laidByTextLater [("bollard/api.ErrNumber", Rows.laid_bollard_api_ErrNumber), ("bollard/api.ErrGone", Rows.laid_bollard_api_ErrGone), ("bollard/api.ErrFull", Rows.laid_bollard_api_ErrFull), ("bollard/api.ErrBallot", Rows.laid_bollard_api_ErrBallot), ("bollard/api.ErrState", Rows.laid_bollard_api_ErrState)] [.sentinel, .sentinel, .sentinel, .sentinel, .sentinel] true :=
  Program.laidByTextLater.sub seatTie1 ["bollard/api.ErrNumber", "bollard/api.ErrGone", "bollard/api.ErrFull", "bollard/api.ErrBallot", "bollard/api.ErrState"] (by kernel_rfl) (by kernel_rfl)
theorem roundNewest_row_tie : Rows.roundNewestRow.laidByTextAt .later Tryd.pinned [.sentinel, .sentinel, .sentinel, .sentinel, .sentinel] true :=
  OpenClaim.laidByTextAt_later rfl rfl tie6 noOwnUnsafe
theorem roundHalves_row_tie : Rows.roundHalvesRow.laidByTextAt .later Tryd.pinned [.sentinel, .sentinel, .sentinel, .sentinel, .sentinel] true :=
  OpenClaim.laidByTextAt_later rfl rfl tie6 noOwnUnsafe
theorem roundReads_row_tie : Rows.roundReadsRow.laidByTextAt .later Tryd.pinned [.sentinel, .sentinel, .sentinel, .sentinel, .sentinel] true :=
  OpenClaim.laidByTextAt_later rfl rfl tie6 noOwnUnsafe
theorem roundAgrees_row_tie : Rows.roundAgreesRow.laidByTextAt .later Tryd.pinned [.sentinel, .sentinel, .sentinel, .sentinel, .sentinel] true :=
  OpenClaim.laidByTextAt_later rfl rfl tie6 noOwnUnsafe
theorem tie7 : Tryd.prog.laidByTextLater [("bollard/api.ErrNumber", Rows.laid_bollard_api_ErrNumber), ("bollard/api.ErrBytes", Rows.laid_bollard_api_ErrBytes), ("bollard/api.ErrDigest", Rows.laid_bollard_api_ErrDigest), ("bollard/api.ErrLarge", Rows.laid_bollard_api_ErrLarge), ("bollard/api.ErrState", Rows.laid_bollard_api_ErrState)] [.sentinel, .sentinel, .sentinel, .sentinel, .sentinel] true :=
  Program.laidByTextLater.sub seatTie1 ["bollard/api.ErrNumber", "bollard/api.ErrBytes", "bollard/api.ErrDigest", "bollard/api.ErrLarge", "bollard/api.ErrState"] (by kernel_rfl) (by kernel_rfl)
theorem commandLengths_row_tie : Rows.commandLengthsRow.laidByTextAt .later Tryd.pinned [.sentinel, .sentinel, .sentinel, .sentinel, .sentinel] true :=
  OpenClaim.laidByTextAt_later rfl rfl tie7 noOwnUnsafe
theorem postPuts_row_tie : Rows.postPutsRow.laidByTextAt .later Tryd.pinned [.sentinel, .sentinel, .sentinel, .sentinel, .sentinel] true :=
  OpenClaim.laidByTextAt_later rfl rfl tie7 noOwnUnsafe
theorem postSlips_row_tie : Rows.postSlipsRow.laidByTextAt .later Tryd.pinned [.sentinel, .sentinel, .sentinel, .sentinel, .sentinel] true :=
  OpenClaim.laidByTextAt_later rfl rfl tie7 noOwnUnsafe
theorem postUnlike_row_tie : Rows.postUnlikeRow.laidByTextAt .later Tryd.pinned [.sentinel, .sentinel, .sentinel, .sentinel, .sentinel] true :=
  OpenClaim.laidByTextAt_later rfl rfl tie7 noOwnUnsafe
theorem ballotNumbersUpto_row_tie : Rows.ballotNumbersUptoRow.laidByTextAt .later Tryd.pinned [.sentinel, .sentinel] true :=
  OpenClaim.laidByTextAt_later rfl rfl tie noOwnUnsafe
theorem ballotAgreesUpto_row_tie : Rows.ballotAgreesUptoRow.laidByTextAt .later Tryd.pinned [.sentinel, .sentinel] true :=
  OpenClaim.laidByTextAt_later rfl rfl tie noOwnUnsafe
theorem ballotPlaysUpto_row_tie : Rows.ballotPlaysUptoRow.laidByTextAt .later Tryd.pinned [.sentinel, .sentinel, .sentinel, .sentinel, .sentinel, .sentinel, .sentinel, .sentinel, .sentinel, .sentinel, .sentinel, .sentinel, .sentinel, .sentinel, .sentinel, .sentinel, .sentinel, .sentinel] true :=
  OpenClaim.laidByTextAt_later rfl rfl tie2 noOwnUnsafe
theorem ballotRisesUpto_row_tie : Rows.ballotRisesUptoRow.laidByTextAt .later Tryd.pinned [.sentinel, .sentinel, .sentinel] true :=
  OpenClaim.laidByTextAt_later rfl rfl tie3 noOwnUnsafe
theorem commandNamesUpto_row_tie : Rows.commandNamesUptoRow.laidByTextAt .later Tryd.pinned [.sentinel, .sentinel] true :=
  OpenClaim.laidByTextAt_later rfl rfl tie4 noOwnUnsafe
theorem commandFormsUpto_row_tie : Rows.commandFormsUptoRow.laidByTextAt .later Tryd.pinned [.sentinel, .sentinel, .sentinel] true :=
  OpenClaim.laidByTextAt_later rfl rfl tie5 noOwnUnsafe
theorem commandGetsUpto_row_tie : Rows.commandGetsUptoRow.laidByTextAt .later Tryd.pinned [.sentinel, .sentinel, .sentinel] true :=
  OpenClaim.laidByTextAt_later rfl rfl tie5 noOwnUnsafe
theorem roundNewestUpto_row_tie : Rows.roundNewestUptoRow.laidByTextAt .later Tryd.pinned [.sentinel, .sentinel, .sentinel, .sentinel, .sentinel] true :=
  OpenClaim.laidByTextAt_later rfl rfl tie6 noOwnUnsafe
theorem roundHalvesUpto_row_tie : Rows.roundHalvesUptoRow.laidByTextAt .later Tryd.pinned [.sentinel, .sentinel, .sentinel, .sentinel, .sentinel] true :=
  OpenClaim.laidByTextAt_later rfl rfl tie6 noOwnUnsafe
theorem roundReadsUpto_row_tie : Rows.roundReadsUptoRow.laidByTextAt .later Tryd.pinned [.sentinel, .sentinel, .sentinel, .sentinel, .sentinel] true :=
  OpenClaim.laidByTextAt_later rfl rfl tie6 noOwnUnsafe
theorem roundPlaysUpto_row_tie : Rows.roundPlaysUptoRow.laidByTextAt .later Tryd.pinned [.sentinel, .sentinel, .sentinel, .sentinel, .sentinel, .sentinel, .sentinel, .sentinel, .sentinel, .sentinel, .sentinel, .sentinel, .sentinel, .sentinel, .sentinel, .sentinel, .sentinel, .sentinel] true :=
  OpenClaim.laidByTextAt_later rfl rfl tie2 noOwnUnsafe
theorem roundAgreesUpto_row_tie : Rows.roundAgreesUptoRow.laidByTextAt .later Tryd.pinned [.sentinel, .sentinel, .sentinel, .sentinel, .sentinel] true :=
  OpenClaim.laidByTextAt_later rfl rfl tie6 noOwnUnsafe
theorem commandLedgersUpto_row_tie : Rows.commandLedgersUptoRow.laidByTextAt .later Tryd.pinned [.sentinel, .sentinel, .sentinel, .sentinel, .sentinel, .sentinel, .sentinel, .sentinel, .sentinel, .sentinel, .sentinel, .sentinel, .sentinel, .sentinel, .sentinel, .sentinel, .sentinel, .sentinel] true :=
  OpenClaim.laidByTextAt_later rfl rfl tie2 noOwnUnsafe
theorem commandReadsUpto_row_tie : Rows.commandReadsUptoRow.laidByTextAt .later Tryd.pinned [.sentinel, .sentinel, .sentinel, .sentinel, .sentinel, .sentinel, .sentinel, .sentinel, .sentinel, .sentinel, .sentinel, .sentinel, .sentinel, .sentinel, .sentinel, .sentinel, .sentinel, .sentinel] true :=
  OpenClaim.laidByTextAt_later rfl rfl tie2 noOwnUnsafe
theorem commandLengthsUpto_row_tie : Rows.commandLengthsUptoRow.laidByTextAt .later Tryd.pinned [.sentinel, .sentinel, .sentinel, .sentinel, .sentinel] true :=
  OpenClaim.laidByTextAt_later rfl rfl tie7 noOwnUnsafe
theorem postPutsUpto_row_tie : Rows.postPutsUptoRow.laidByTextAt .later Tryd.pinned [.sentinel, .sentinel, .sentinel, .sentinel, .sentinel] true :=
  OpenClaim.laidByTextAt_later rfl rfl tie7 noOwnUnsafe
theorem postGetsUpto_row_tie : Rows.postGetsUptoRow.laidByTextAt .later Tryd.pinned [.sentinel, .sentinel, .sentinel, .sentinel, .sentinel, .sentinel, .sentinel, .sentinel, .sentinel, .sentinel, .sentinel, .sentinel, .sentinel, .sentinel, .sentinel, .sentinel, .sentinel, .sentinel] true :=
  OpenClaim.laidByTextAt_later rfl rfl tie2 noOwnUnsafe
theorem postSlipsUpto_row_tie : Rows.postSlipsUptoRow.laidByTextAt .later Tryd.pinned [.sentinel, .sentinel, .sentinel, .sentinel, .sentinel] true :=
  OpenClaim.laidByTextAt_later rfl rfl tie7 noOwnUnsafe
theorem postUnlikeUpto_row_tie : Rows.postUnlikeUptoRow.laidByTextAt .later Tryd.pinned [.sentinel, .sentinel, .sentinel, .sentinel, .sentinel] true :=
  OpenClaim.laidByTextAt_later rfl rfl tie7 noOwnUnsafe
end Go.Proofs.YtnlncfjibbdimaaDoor
