/-
  DERIVED. GIVEN WITH THE SEED: THE CARDS: each row of YtpcmhjbehdgdbaaGreatDoorRows.lean that lists a variable, with what it lists TIED to the program's text (the seventh form; the later family's looks); each row that meets fmt, with fmt's text TOLD by the authors' own Lean function (tested against real Go, not proved from fmt's source: count such statements apart). THE CARD IS WHAT COUNTS. Prove the row's statement (the work); the ties are given (YtpcmhjbehdgdbaaGreatDoorTie.lean); close each card by the builder's one call (the guide's Derived/Test/ToyasCard.lean, 'card_holds'). Laid BY PROGRAM, IN A SANDBOX (cutbox-door.mjs). By AI agents, Wed Nov 11 2026. No macro, syntax, notation, axiom, sorry.
-/
import Derived.Test.YtpcmhjbehdgdbaaGreatDoorRows
import GoSem.ClaimSeven
namespace Go.Proofs.YtpcmhjbehdgdbaaGreatDoor
namespace Rows

/-- THE TIED CARD OF 'reparteelaw20.IncludeFuel'. -/
def includeFuelCard : Claim7 := { stood := { row := includeFuelRow, standIns := [], harness := (true, "f58c361d77bfeeaf0d5071b75653185925d53fb8a52f1c0ec3365e1a0d05651d"), looks := true }, kinds := [], alts := [], laidByText := true, laidKinds := [.data, .data, .data], laidTests := true, laidLooks := .later }
def IncludeFuelCardSaid : Prop := Claim7.holds Tryz.pinned (.plain (OpenSpec.ofChange includeFuelSpec)) includeFuelCard

/-- THE TIED CARD OF 'reparteelaw20.IncludeWrong'. -/
def includeWrongCard : Claim7 := { stood := { row := includeWrongRow, standIns := [], harness := (true, "f58c361d77bfeeaf0d5071b75653185925d53fb8a52f1c0ec3365e1a0d05651d"), looks := true }, kinds := [], alts := [], laidByText := true, laidKinds := [.data, .data, .data], laidTests := true, laidLooks := .later }
def IncludeWrongCardSaid : Prop := Claim7.holds Tryz.pinned (.plain (OpenSpec.ofChange includeWrongSpec)) includeWrongCard

/-- THE SECOND FORM's CARD OF 'reparteelaw20.IncludeFuel'. -/
def includeFuelUptoCard : Claim7 := { stood := { row := includeFuelUptoRow, standIns := [], harness := (true, "f58c361d77bfeeaf0d5071b75653185925d53fb8a52f1c0ec3365e1a0d05651d"), looks := true }, kinds := [], alts := [], laidByText := true, laidKinds := [.data, .data, .data], laidTests := true, laidLooks := .later }
def IncludeFuelUptoCardSaid : Prop := Claim7.holds Tryz.pinned (.plain (OpenSpec.upto includeFuelSpec)) includeFuelUptoCard

/-- THE SECOND FORM's CARD OF 'reparteelaw20.IncludeWrong'. -/
def includeWrongUptoCard : Claim7 := { stood := { row := includeWrongUptoRow, standIns := [], harness := (true, "f58c361d77bfeeaf0d5071b75653185925d53fb8a52f1c0ec3365e1a0d05651d"), looks := true }, kinds := [], alts := [], laidByText := true, laidKinds := [.data, .data, .data], laidTests := true, laidLooks := .later }
def IncludeWrongUptoCardSaid : Prop := Claim7.holds Tryz.pinned (.plain (OpenSpec.upto includeWrongSpec)) includeWrongUptoCard
end Rows
end Go.Proofs.YtpcmhjbehdgdbaaGreatDoor
