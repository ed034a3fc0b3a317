/-
  DERIVED. GIVEN WITH THE SEED: THE CARDS: each row of YtjgccapbphadjaaGreatDoorRows.lean that lists a variable, with what it lists TIED to the program's text (the seventh form; the later family's looks); each row that meets fmt, with fmt's text TOLD by the authors' own Lean function (tested against real Go, not proved from fmt's source: count such statements apart). THE CARD IS WHAT COUNTS. Prove the row's statement (the work); the ties are given (YtjgccapbphadjaaGreatDoorTie.lean); close each card by the builder's one call (the guide's Derived/Test/ToyasCard.lean, 'card_holds'). Laid BY PROGRAM, IN A SANDBOX (cutbox-door.mjs). By AI agents, Wed Nov 11 2026. No macro, syntax, notation, axiom, sorry.
-/
import Derived.Test.YtjgccapbphadjaaGreatDoorRows
import GoSem.ClaimSeven
namespace Go.Proofs.YtjgccapbphadjaaGreatDoor
namespace Rows

/-- THE TIED CARD OF 'reparteelaw22.MinimalLeast'. -/
def minimalLeastCard : Claim7 := { stood := { row := minimalLeastRow, standIns := [], harness := (true, "9c315177fe0534296f51f4ced46441a47bddd9d605a25ecbb3da6ec321f3dbd5"), looks := true }, kinds := [], alts := [], laidByText := true, laidKinds := [.data, .data, .data], laidTests := true, laidLooks := .later }
def MinimalLeastCardSaid : Prop := Claim7.holds Tryz.pinned (.plain (OpenSpec.ofChange minimalLeastSpec)) minimalLeastCard

/-- THE TIED CARD OF 'reparteelaw22.MinimalGrown'. -/
def minimalGrownCard : Claim7 := { stood := { row := minimalGrownRow, standIns := [], harness := (true, "9c315177fe0534296f51f4ced46441a47bddd9d605a25ecbb3da6ec321f3dbd5"), looks := true }, kinds := [], alts := [], laidByText := true, laidKinds := [.data, .data, .data], laidTests := true, laidLooks := .later }
def MinimalGrownCardSaid : Prop := Claim7.holds Tryz.pinned (.plain (OpenSpec.ofChange minimalGrownSpec)) minimalGrownCard

/-- THE TIED CARD OF 'reparteelaw22.MinimalSame'. -/
def minimalSameCard : Claim7 := { stood := { row := minimalSameRow, standIns := [], harness := (true, "9c315177fe0534296f51f4ced46441a47bddd9d605a25ecbb3da6ec321f3dbd5"), looks := true }, kinds := [], alts := [], laidByText := true, laidKinds := [.data, .data, .data], laidTests := true, laidLooks := .later }
def MinimalSameCardSaid : Prop := Claim7.holds Tryz.pinned (.plain (OpenSpec.ofChange minimalSameSpec)) minimalSameCard

/-- THE TIED CARD OF 'reparteelaw22.MinimalWrong'. -/
def minimalWrongCard : Claim7 := { stood := { row := minimalWrongRow, standIns := [], harness := (true, "9c315177fe0534296f51f4ced46441a47bddd9d605a25ecbb3da6ec321f3dbd5"), looks := true }, kinds := [], alts := [], laidByText := true, laidKinds := [.data, .data, .data], laidTests := true, laidLooks := .later }
def MinimalWrongCardSaid : Prop := Claim7.holds Tryz.pinned (.plain (OpenSpec.ofChange minimalWrongSpec)) minimalWrongCard

/-- THE TIED CARD OF 'reparteelaw22.MinimalBlocks'. -/
def minimalBlocksCard : Claim7 := { stood := { row := minimalBlocksRow, standIns := [], harness := (true, "9c315177fe0534296f51f4ced46441a47bddd9d605a25ecbb3da6ec321f3dbd5"), looks := true }, kinds := [], alts := [], laidByText := true, laidKinds := [.data, .data, .data], laidTests := true, laidLooks := .later }
def MinimalBlocksCardSaid : Prop := Claim7.holds Tryz.pinned (.plain (OpenSpec.ofChange minimalBlocksSpec)) minimalBlocksCard

/-- THE TIED CARD OF 'reparteelaw20.IncludeFuel'. -/
def includeFuelCard : Claim7 := { stood := { row := includeFuelRow, standIns := [], harness := (true, "9c315177fe0534296f51f4ced46441a47bddd9d605a25ecbb3da6ec321f3dbd5"), looks := true }, kinds := [], alts := [], laidByText := true, laidKinds := [.data, .data, .data], laidTests := true, laidLooks := .later }
def IncludeFuelCardSaid : Prop := Claim7.holds Tryz.pinned (.plain (OpenSpec.ofChange includeFuelSpec)) includeFuelCard

/-- THE TIED CARD OF 'reparteelaw20.IncludeWrong'. -/
def includeWrongCard : Claim7 := { stood := { row := includeWrongRow, standIns := [], harness := (true, "9c315177fe0534296f51f4ced46441a47bddd9d605a25ecbb3da6ec321f3dbd5"), looks := true }, kinds := [], alts := [], laidByText := true, laidKinds := [.data, .data, .data], laidTests := true, laidLooks := .later }
def IncludeWrongCardSaid : Prop := Claim7.holds Tryz.pinned (.plain (OpenSpec.ofChange includeWrongSpec)) includeWrongCard

/-- THE SECOND FORM's CARD OF 'reparteelaw22.MinimalLeast'. -/
def minimalLeastUptoCard : Claim7 := { stood := { row := minimalLeastUptoRow, standIns := [], harness := (true, "9c315177fe0534296f51f4ced46441a47bddd9d605a25ecbb3da6ec321f3dbd5"), looks := true }, kinds := [], alts := [], laidByText := true, laidKinds := [.data, .data, .data], laidTests := true, laidLooks := .later }
def MinimalLeastUptoCardSaid : Prop := Claim7.holds Tryz.pinned (.plain (OpenSpec.upto minimalLeastSpec)) minimalLeastUptoCard

/-- THE SECOND FORM's CARD OF 'reparteelaw22.MinimalGrown'. -/
def minimalGrownUptoCard : Claim7 := { stood := { row := minimalGrownUptoRow, standIns := [], harness := (true, "9c315177fe0534296f51f4ced46441a47bddd9d605a25ecbb3da6ec321f3dbd5"), looks := true }, kinds := [], alts := [], laidByText := true, laidKinds := [.data, .data, .data], laidTests := true, laidLooks := .later }
def MinimalGrownUptoCardSaid : Prop := Claim7.holds Tryz.pinned (.plain (OpenSpec.upto minimalGrownSpec)) minimalGrownUptoCard

/-- THE SECOND FORM's CARD OF 'reparteelaw22.MinimalSame'. -/
def minimalSameUptoCard : Claim7 := { stood := { row := minimalSameUptoRow, standIns := [], harness := (true, "9c315177fe0534296f51f4ced46441a47bddd9d605a25ecbb3da6ec321f3dbd5"), looks := true }, kinds := [], alts := [], laidByText := true, laidKinds := [.data, .data, .data], laidTests := true, laidLooks := .later }
def MinimalSameUptoCardSaid : Prop := Claim7.holds Tryz.pinned (.plain (OpenSpec.upto minimalSameSpec)) minimalSameUptoCard

/-- THE SECOND FORM's CARD OF 'reparteelaw22.MinimalWrong'. -/
def minimalWrongUptoCard : Claim7 := { stood := { row := minimalWrongUptoRow, standIns := [], harness := (true, "9c315177fe0534296f51f4ced46441a47bddd9d605a25ecbb3da6ec321f3dbd5"), looks := true }, kinds := [], alts := [], laidByText := true, laidKinds := [.data, .data, .data], laidTests := true, laidLooks := .later }
def MinimalWrongUptoCardSaid : Prop := Claim7.holds Tryz.pinned (.plain (OpenSpec.upto minimalWrongSpec)) minimalWrongUptoCard

/-- THE SECOND FORM's CARD OF 'reparteelaw22.MinimalBlocks'. -/
def minimalBlocksUptoCard : Claim7 := { stood := { row := minimalBlocksUptoRow, standIns := [], harness := (true, "9c315177fe0534296f51f4ced46441a47bddd9d605a25ecbb3da6ec321f3dbd5"), looks := true }, kinds := [], alts := [], laidByText := true, laidKinds := [.data, .data, .data], laidTests := true, laidLooks := .later }
def MinimalBlocksUptoCardSaid : Prop := Claim7.holds Tryz.pinned (.plain (OpenSpec.upto minimalBlocksSpec)) minimalBlocksUptoCard

/-- THE SECOND FORM's CARD OF 'reparteelaw20.IncludeFuel'. -/
def includeFuelUptoCard : Claim7 := { stood := { row := includeFuelUptoRow, standIns := [], harness := (true, "9c315177fe0534296f51f4ced46441a47bddd9d605a25ecbb3da6ec321f3dbd5"), looks := true }, kinds := [], alts := [], laidByText := true, laidKinds := [.data, .data, .data], laidTests := true, laidLooks := .later }
def IncludeFuelUptoCardSaid : Prop := Claim7.holds Tryz.pinned (.plain (OpenSpec.upto includeFuelSpec)) includeFuelUptoCard

/-- THE SECOND FORM's CARD OF 'reparteelaw20.IncludeWrong'. -/
def includeWrongUptoCard : Claim7 := { stood := { row := includeWrongUptoRow, standIns := [], harness := (true, "9c315177fe0534296f51f4ced46441a47bddd9d605a25ecbb3da6ec321f3dbd5"), looks := true }, kinds := [], alts := [], laidByText := true, laidKinds := [.data, .data, .data], laidTests := true, laidLooks := .later }
def IncludeWrongUptoCardSaid : Prop := Claim7.holds Tryz.pinned (.plain (OpenSpec.upto includeWrongSpec)) includeWrongUptoCard
end Rows
end Go.Proofs.YtjgccapbphadjaaGreatDoor
