/-
  DERIVED. GIVEN WITH THE SEED: THE PROGRAM's TIES (one call each: nine closed facts by the kernel) AND EACH ROW's TIE, after the 31st guide's Derived/Test/Toyas{Tie, Card}.lean. No idea stands in it: it is a product of the set-up. Laid BY PROGRAM, IN A SANDBOX (cutbox-door.mjs). By AI agents, Wed Nov 11 2026. No macro, syntax, notation, axiom, sorry.
-/
import Derived.Test.YthjbmggpleliaaaGreatDoorRows
import Derived.LaidByTextLater
import Derived.SevenTiedAt
import Derived.LaidSub
import Derived.LaidOnce
namespace Go.Proofs.YthjbmggpleliaaaGreatDoor
open Go
set_option maxRecDepth 100000
theorem seatTie1 : Tryz.prog.laidByTextLater [("mantilla/sha.first", Rows.laid_mantilla_sha_first), ("mantilla/sha.rounds", Rows.laid_mantilla_sha_rounds), ("mantilla/letter.buckets", Rows.laid_mantilla_letter_buckets)] [.data, .data, .widerDeep] true :=
  Program.laidByTextLater_by_one 24 8 65 (by kernel_rfl) (by kernel_rfl) (by kernel_rfl) (by kernel_rfl) (by kernel_rfl) (by kernel_rfl) (fun _ _ => by kernel_rfl)
theorem noOwnUnsafe : Tryz.pinned.checked.prog.headLifts.contains "ownunsafe" = false := by kernel_rfl
theorem tie : Tryz.prog.laidByTextLater [("mantilla/sha.first", Rows.laid_mantilla_sha_first), ("mantilla/sha.rounds", Rows.laid_mantilla_sha_rounds), ("mantilla/letter.buckets", Rows.laid_mantilla_letter_buckets)] [.data, .data, .widerDeep] true :=
  Program.laidByTextLater.sub seatTie1 ["mantilla/sha.first", "mantilla/sha.rounds", "mantilla/letter.buckets"] (by kernel_rfl) (by kernel_rfl)
theorem hostSlots_row_tie : Rows.hostSlotsRow.laidByTextAt .later Tryz.pinned [.data, .data, .widerDeep] true :=
  OpenClaim.laidByTextAt_later rfl rfl tie noOwnUnsafe
theorem hostMay_row_tie : Rows.hostMayRow.laidByTextAt .later Tryz.pinned [.data, .data, .widerDeep] true :=
  OpenClaim.laidByTextAt_later rfl rfl tie noOwnUnsafe
theorem hostSlotsUpto_row_tie : Rows.hostSlotsUptoRow.laidByTextAt .later Tryz.pinned [.data, .data, .widerDeep] true :=
  OpenClaim.laidByTextAt_later rfl rfl tie noOwnUnsafe
theorem hostMayUpto_row_tie : Rows.hostMayUptoRow.laidByTextAt .later Tryz.pinned [.data, .data, .widerDeep] true :=
  OpenClaim.laidByTextAt_later rfl rfl tie noOwnUnsafe
end Go.Proofs.YthjbmggpleliaaaGreatDoor
