/-
  DERIVED. GIVEN WITH THE SEED: THE PROGRAM's TIES (one call each: nine closed facts by the kernel) AND EACH ROW's TIE, after the 31st guide's Derived/Test/Toyas{Tie, Card}.lean. No idea stands in it: it is a product of the set-up. Laid BY PROGRAM, IN A SANDBOX (cutbox-door.mjs). By AI agents, Wed Nov 11 2026. No macro, syntax, notation, axiom, sorry.
-/
import Derived.Test.YtdhgpocbcccieaaGreatDoorRows
import Derived.LaidByTextLater
import Derived.SevenTiedAt
import Derived.LaidSub
import Derived.LaidOnce
namespace Go.Proofs.YtdhgpocbcccieaaGreatDoor
open Go
set_option maxRecDepth 100000
theorem seatTie1 : Tryz.prog.laidByTextLater [("syngraph/scalar.order", Rows.laid_syngraph_scalar_order), ("syngraph/sha.begin", Rows.laid_syngraph_sha_begin), ("syngraph/sha.key", Rows.laid_syngraph_sha_key), ("syngraph/wide.begin", Rows.laid_syngraph_wide_begin), ("syngraph/wide.key", Rows.laid_syngraph_wide_key), ("syngraph/msg.has", Rows.laid_syngraph_msg_has)] [.wider, .data, .data, .data, .data, .data] true :=
  Program.laidByTextLater_by_one 39 8 81 (by kernel_rfl) (by kernel_rfl) (by kernel_rfl) (by kernel_rfl) (by kernel_rfl) (by kernel_rfl) (fun _ _ => by kernel_rfl)
theorem noOwnUnsafe : Tryz.pinned.checked.prog.headLifts.contains "ownunsafe" = false := by kernel_rfl
theorem tie : Tryz.prog.laidByTextLater [("syngraph/scalar.order", Rows.laid_syngraph_scalar_order), ("syngraph/sha.begin", Rows.laid_syngraph_sha_begin), ("syngraph/sha.key", Rows.laid_syngraph_sha_key), ("syngraph/wide.begin", Rows.laid_syngraph_wide_begin), ("syngraph/wide.key", Rows.laid_syngraph_wide_key), ("syngraph/msg.has", Rows.laid_syngraph_msg_has)] [.wider, .data, .data, .data, .data, .data] true :=
  Program.laidByTextLater.sub seatTie1 ["syngraph/scalar.order", "syngraph/sha.begin", "syngraph/sha.key", "syngraph/wide.begin", "syngraph/wide.key", "syngraph/msg.has"] (by kernel_rfl) (by kernel_rfl)
theorem topTwins_row_tie : Rows.topTwinsRow.laidByTextAt .later Tryz.pinned [.wider, .data, .data, .data, .data, .data] true :=
  OpenClaim.laidByTextAt_later rfl rfl tie noOwnUnsafe
theorem topBytes_row_tie : Rows.topBytesRow.laidByTextAt .later Tryz.pinned [.wider, .data, .data, .data, .data, .data] true :=
  OpenClaim.laidByTextAt_later rfl rfl tie noOwnUnsafe
theorem topTwinsUpto_row_tie : Rows.topTwinsUptoRow.laidByTextAt .later Tryz.pinned [.wider, .data, .data, .data, .data, .data] true :=
  OpenClaim.laidByTextAt_later rfl rfl tie noOwnUnsafe
theorem topBytesUpto_row_tie : Rows.topBytesUptoRow.laidByTextAt .later Tryz.pinned [.wider, .data, .data, .data, .data, .data] true :=
  OpenClaim.laidByTextAt_later rfl rfl tie noOwnUnsafe
end Go.Proofs.YtdhgpocbcccieaaGreatDoor
