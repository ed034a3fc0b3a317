/-
  DERIVED. GIVEN WITH THE SEED: THE CARDS: each row of YthdnlndpmmiboaaGreatDoorRows.lean that lists a variable, with what it lists TIED to the program's text (the seventh form; the later family's looks); each row that meets fmt, with fmt's text TOLD by the authors' own Lean function (tested against real Go, not proved from fmt's source: count such statements apart). THE CARD IS WHAT COUNTS. Prove the row's statement (the work); the ties are given (YthdnlndpmmiboaaGreatDoorTie.lean); close each card by the builder's one call (the guide's Derived/Test/ToyasCard.lean, 'card_holds'). Laid BY PROGRAM, IN A SANDBOX (cutbox-door.mjs). By AI agents, Wed Nov 11 2026. No macro, syntax, notation, axiom, sorry.
-/
import Derived.Test.YthdnlndpmmiboaaGreatDoorRows
import GoSem.ClaimSeven
namespace Go.Proofs.YthdnlndpmmiboaaGreatDoor
namespace Rows

/-- THE TIED CARD OF 'reparteelaw18.DfaMakes'. -/
def dfaMakesCard : Claim7 := { stood := { row := dfaMakesRow, standIns := [], harness := (true, "b28e4f8d883c145c171bde8214414df51497e45a3316553d508de37233aeffa7"), looks := true }, kinds := [], alts := [], laidByText := true, laidKinds := [.data, .data, .data], laidTests := true, laidLooks := .later }
def DfaMakesCardSaid : Prop := Claim7.holds Tryz.pinned (.plain (OpenSpec.ofChange dfaMakesSpec)) dfaMakesCard

/-- THE TIED CARD OF 'reparteelaw18.DfaRuns'. -/
def dfaRunsCard : Claim7 := { stood := { row := dfaRunsRow, standIns := [], harness := (true, "b28e4f8d883c145c171bde8214414df51497e45a3316553d508de37233aeffa7"), looks := true }, kinds := [], alts := [], laidByText := true, laidKinds := [.data, .data, .data], laidTests := true, laidLooks := .later }
def DfaRunsCardSaid : Prop := Claim7.holds Tryz.pinned (.plain (OpenSpec.ofChange dfaRunsSpec)) dfaRunsCard

/-- THE SECOND FORM's CARD OF 'reparteelaw18.DfaMakes'. -/
def dfaMakesUptoCard : Claim7 := { stood := { row := dfaMakesUptoRow, standIns := [], harness := (true, "b28e4f8d883c145c171bde8214414df51497e45a3316553d508de37233aeffa7"), looks := true }, kinds := [], alts := [], laidByText := true, laidKinds := [.data, .data, .data], laidTests := true, laidLooks := .later }
def DfaMakesUptoCardSaid : Prop := Claim7.holds Tryz.pinned (.plain (OpenSpec.upto dfaMakesSpec)) dfaMakesUptoCard

/-- THE SECOND FORM's CARD OF 'reparteelaw18.DfaRuns'. -/
def dfaRunsUptoCard : Claim7 := { stood := { row := dfaRunsUptoRow, standIns := [], harness := (true, "b28e4f8d883c145c171bde8214414df51497e45a3316553d508de37233aeffa7"), looks := true }, kinds := [], alts := [], laidByText := true, laidKinds := [.data, .data, .data], laidTests := true, laidLooks := .later }
def DfaRunsUptoCardSaid : Prop := Claim7.holds Tryz.pinned (.plain (OpenSpec.upto dfaRunsSpec)) dfaRunsUptoCard
end Rows
end Go.Proofs.YthdnlndpmmiboaaGreatDoor
