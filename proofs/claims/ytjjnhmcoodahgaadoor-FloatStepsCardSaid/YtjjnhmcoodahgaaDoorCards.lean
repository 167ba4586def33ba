/-
  DERIVED. GIVEN WITH THE SEED: THE CARDS: each row of YtjjnhmcoodahgaaDoorRows.lean that lists a variable, with what it lists TIED to the program's text (the seventh form; the later family's looks); each row that meets fmt, with fmt's text TOLD by the authors' own Lean function (tested against real Go, not proved from fmt's source: count such statements apart). THE CARD IS WHAT COUNTS. Prove the row's statement (the work); the ties are given (YtjjnhmcoodahgaaDoorTie.lean); close each card by the builder's one call (the guide's Derived/Test/ToyasCard.lean, 'card_holds'). Laid BY PROGRAM, IN A SANDBOX (cutbox-door.mjs). By AI agents, Wed Nov 11 2026. No macro, syntax, notation, axiom, sorry.
-/
import Derived.Test.YtjjnhmcoodahgaaDoorRows
import GoSem.ClaimSeven
namespace Go.Proofs.YtjjnhmcoodahgaaDoor
namespace Rows

/-- THE TIED CARD OF 'tontinelaw02.FloatSplits'. -/
def floatSplitsCard : Claim7 := { stood := { row := floatSplitsRow, standIns := [], harness := (true, "59293cdd8721f63ada0d6b98a35048bc3efbc93795e2e252a81a6e8b78c206a2"), looks := false }, kinds := [], alts := [], laidByText := true, laidKinds := [.wider, .wider], laidTests := true, laidLooks := .later }
def FloatSplitsCardSaid : Prop := Claim7.holds Tryd.pinned (.plain (OpenSpec.ofChange floatSplitsSpec)) floatSplitsCard

/-- THE TIED CARD OF 'tontinelaw02.FloatSteps'. -/
def floatStepsCard : Claim7 := { stood := { row := floatStepsRow, standIns := [], harness := (true, "59293cdd8721f63ada0d6b98a35048bc3efbc93795e2e252a81a6e8b78c206a2"), looks := false }, kinds := [], alts := [], laidByText := true, laidKinds := [.wider], laidTests := true, laidLooks := .later }
def FloatStepsCardSaid : Prop := Claim7.holds Tryd.pinned (.plain (OpenSpec.ofChange floatStepsSpec)) floatStepsCard

/-- THE TIED CARD OF 'tontinelaw02.FloatNarrows'. -/
def floatNarrowsCard : Claim7 := { stood := { row := floatNarrowsRow, standIns := [], harness := (true, "59293cdd8721f63ada0d6b98a35048bc3efbc93795e2e252a81a6e8b78c206a2"), looks := false }, kinds := [], alts := [], laidByText := true, laidKinds := [.wider], laidTests := true, laidLooks := .later }
def FloatNarrowsCardSaid : Prop := Claim7.holds Tryd.pinned (.plain (OpenSpec.ofChange floatNarrowsSpec)) floatNarrowsCard

/-- THE SECOND FORM's CARD OF 'tontinelaw02.FloatSplits'. -/
def floatSplitsUptoCard : Claim7 := { stood := { row := floatSplitsUptoRow, standIns := [], harness := (true, "59293cdd8721f63ada0d6b98a35048bc3efbc93795e2e252a81a6e8b78c206a2"), looks := false }, kinds := [], alts := [], laidByText := true, laidKinds := [.wider, .wider], laidTests := true, laidLooks := .later }
def FloatSplitsUptoCardSaid : Prop := Claim7.holds Tryd.pinned (.plain (OpenSpec.upto floatSplitsSpec)) floatSplitsUptoCard

/-- THE SECOND FORM's CARD OF 'tontinelaw02.FloatSteps'. -/
def floatStepsUptoCard : Claim7 := { stood := { row := floatStepsUptoRow, standIns := [], harness := (true, "59293cdd8721f63ada0d6b98a35048bc3efbc93795e2e252a81a6e8b78c206a2"), looks := false }, kinds := [], alts := [], laidByText := true, laidKinds := [.wider], laidTests := true, laidLooks := .later }
def FloatStepsUptoCardSaid : Prop := Claim7.holds Tryd.pinned (.plain (OpenSpec.upto floatStepsSpec)) floatStepsUptoCard

/-- THE SECOND FORM's CARD OF 'tontinelaw02.FloatNarrows'. -/
def floatNarrowsUptoCard : Claim7 := { stood := { row := floatNarrowsUptoRow, standIns := [], harness := (true, "59293cdd8721f63ada0d6b98a35048bc3efbc93795e2e252a81a6e8b78c206a2"), looks := false }, kinds := [], alts := [], laidByText := true, laidKinds := [.wider], laidTests := true, laidLooks := .later }
def FloatNarrowsUptoCardSaid : Prop := Claim7.holds Tryd.pinned (.plain (OpenSpec.upto floatNarrowsSpec)) floatNarrowsUptoCard
end Rows
end Go.Proofs.YtjjnhmcoodahgaaDoor
