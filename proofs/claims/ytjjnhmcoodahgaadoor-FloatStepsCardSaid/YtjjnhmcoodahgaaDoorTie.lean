/-
  DERIVED. GIVEN WITH THE SEED: THE PROGRAM's TIES (one call each: nine closed facts by the kernel) AND EACH ROW's TIE, after the 31st guide's Derived/Test/Toyas{Tie, Card}.lean. No idea stands in it: it is a product of the set-up. Laid BY PROGRAM, IN A SANDBOX (cutbox-door.mjs). By AI agents, Wed Nov 11 2026. No macro, syntax, notation, axiom, sorry.
-/
import Derived.Test.YtjjnhmcoodahgaaDoorRows
import Derived.LaidByTextLater
import Derived.SevenTiedAt
import Derived.LaidSub
import Derived.LaidOnce
namespace Go.Proofs.YtjjnhmcoodahgaaDoor
open Go
set_option maxRecDepth 100000
theorem seatTie1 : Tryd.prog.laidByTextLater [("tontine/float.wide", Rows.laid_tontine_float_wide), ("tontine/float.small", Rows.laid_tontine_float_small)] [.wider, .wider] true :=
  Program.laidByTextLater_by_one 19 8 4 (by kernel_rfl) (by kernel_rfl) (by kernel_rfl) (by kernel_rfl) (by kernel_rfl) (by kernel_rfl) (fun _ _ => by kernel_rfl)
theorem noOwnUnsafe : Tryd.pinned.checked.prog.headLifts.contains "ownunsafe" = false := by kernel_rfl
theorem tie : Tryd.prog.laidByTextLater [("tontine/float.wide", Rows.laid_tontine_float_wide), ("tontine/float.small", Rows.laid_tontine_float_small)] [.wider, .wider] true :=
  Program.laidByTextLater.sub seatTie1 ["tontine/float.wide", "tontine/float.small"] (by kernel_rfl) (by kernel_rfl)
theorem floatSplits_row_tie : Rows.floatSplitsRow.laidByTextAt .later Tryd.pinned [.wider, .wider] true :=
  OpenClaim.laidByTextAt_later rfl rfl tie noOwnUnsafe
theorem tie2 : Tryd.prog.laidByTextLater [("tontine/float.wide", Rows.laid_tontine_float_wide)] [.wider] true :=
  Program.laidByTextLater.sub seatTie1 ["tontine/float.wide"] (by kernel_rfl) (by kernel_rfl)
theorem floatSteps_row_tie : Rows.floatStepsRow.laidByTextAt .later Tryd.pinned [.wider] true :=
  OpenClaim.laidByTextAt_later rfl rfl tie2 noOwnUnsafe
theorem tie3 : Tryd.prog.laidByTextLater [("tontine/float.small", Rows.laid_tontine_float_small)] [.wider] true :=
  Program.laidByTextLater.sub seatTie1 ["tontine/float.small"] (by kernel_rfl) (by kernel_rfl)
theorem floatNarrows_row_tie : Rows.floatNarrowsRow.laidByTextAt .later Tryd.pinned [.wider] true :=
  OpenClaim.laidByTextAt_later rfl rfl tie3 noOwnUnsafe
theorem floatSplitsUpto_row_tie : Rows.floatSplitsUptoRow.laidByTextAt .later Tryd.pinned [.wider, .wider] true :=
  OpenClaim.laidByTextAt_later rfl rfl tie noOwnUnsafe
theorem floatStepsUpto_row_tie : Rows.floatStepsUptoRow.laidByTextAt .later Tryd.pinned [.wider] true :=
  OpenClaim.laidByTextAt_later rfl rfl tie2 noOwnUnsafe
theorem floatNarrowsUpto_row_tie : Rows.floatNarrowsUptoRow.laidByTextAt .later Tryd.pinned [.wider] true :=
  OpenClaim.laidByTextAt_later rfl rfl tie3 noOwnUnsafe
end Go.Proofs.YtjjnhmcoodahgaaDoor
