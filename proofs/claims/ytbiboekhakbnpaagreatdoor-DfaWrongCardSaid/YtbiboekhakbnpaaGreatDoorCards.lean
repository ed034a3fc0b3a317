/-
  DERIVED. GIVEN WITH THE SEED: THE CARDS: each row of YtbiboekhakbnpaaGreatDoorRows.lean that lists a variable, with what it lists TIED to the program's text (the seventh form; the later family's looks); each row that meets fmt, with fmt's text TOLD by the authors' own Lean function (tested against real Go, not proved from fmt's source: count such statements apart). THE CARD IS WHAT COUNTS. Prove the row's statement (the work); the ties are given (YtbiboekhakbnpaaGreatDoorTie.lean); close each card by the builder's one call (the guide's Derived/Test/ToyasCard.lean, 'card_holds'). Laid BY PROGRAM, IN A SANDBOX (cutbox-door.mjs). By AI agents, Wed Nov 11 2026. No macro, syntax, notation, axiom, sorry.
-/
import Derived.Test.YtbiboekhakbnpaaGreatDoorRows
import GoSem.ClaimSeven
namespace Go.Proofs.YtbiboekhakbnpaaGreatDoor
namespace Rows

/-- THE TIED CARD OF 'reparteelaw18.DfaFirst'. -/
def dfaFirstCard : Claim7 := { stood := { row := dfaFirstRow, standIns := [], harness := (true, "5e55b10c3dfff2b28ae9edf15500889dfebabd5db6390788b29efe6822370a81"), looks := true }, kinds := [], alts := [], laidByText := true, laidKinds := [.data, .data, .data], laidTests := true, laidLooks := .later }
def DfaFirstCardSaid : Prop := Claim7.holds Tryz.pinned (.plain (OpenSpec.ofChange dfaFirstSpec)) dfaFirstCard

/-- THE TIED CARD OF 'reparteelaw18.DfaFuel'. -/
def dfaFuelCard : Claim7 := { stood := { row := dfaFuelRow, standIns := [], harness := (true, "5e55b10c3dfff2b28ae9edf15500889dfebabd5db6390788b29efe6822370a81"), looks := true }, kinds := [], alts := [], laidByText := true, laidKinds := [.data, .data, .data], laidTests := true, laidLooks := .later }
def DfaFuelCardSaid : Prop := Claim7.holds Tryz.pinned (.plain (OpenSpec.ofChange dfaFuelSpec)) dfaFuelCard

/-- THE TIED CARD OF 'reparteelaw18.DfaSplit'. -/
def dfaSplitCard : Claim7 := { stood := { row := dfaSplitRow, standIns := [], harness := (true, "5e55b10c3dfff2b28ae9edf15500889dfebabd5db6390788b29efe6822370a81"), looks := true }, kinds := [], alts := [], laidByText := true, laidKinds := [.data, .data, .data], laidTests := true, laidLooks := .later }
def DfaSplitCardSaid : Prop := Claim7.holds Tryz.pinned (.plain (OpenSpec.ofChange dfaSplitSpec)) dfaSplitCard

/-- THE TIED CARD OF 'reparteelaw18.DfaMarks'. -/
def dfaMarksCard : Claim7 := { stood := { row := dfaMarksRow, standIns := [], harness := (true, "5e55b10c3dfff2b28ae9edf15500889dfebabd5db6390788b29efe6822370a81"), looks := true }, kinds := [], alts := [], laidByText := true, laidKinds := [.data, .data, .data], laidTests := true, laidLooks := .later }
def DfaMarksCardSaid : Prop := Claim7.holds Tryz.pinned (.plain (OpenSpec.ofChange dfaMarksSpec)) dfaMarksCard

/-- THE TIED CARD OF 'reparteelaw18.DfaTrims'. -/
def dfaTrimsCard : Claim7 := { stood := { row := dfaTrimsRow, standIns := [], harness := (true, "5e55b10c3dfff2b28ae9edf15500889dfebabd5db6390788b29efe6822370a81"), looks := true }, kinds := [], alts := [], laidByText := true, laidKinds := [.data, .data, .data], laidTests := true, laidLooks := .later }
def DfaTrimsCardSaid : Prop := Claim7.holds Tryz.pinned (.plain (OpenSpec.ofChange dfaTrimsSpec)) dfaTrimsCard

/-- THE TIED CARD OF 'reparteelaw18.DfaWrong'. -/
def dfaWrongCard : Claim7 := { stood := { row := dfaWrongRow, standIns := [], harness := (true, "5e55b10c3dfff2b28ae9edf15500889dfebabd5db6390788b29efe6822370a81"), looks := true }, kinds := [], alts := [], laidByText := true, laidKinds := [.data, .data, .data], laidTests := true, laidLooks := .later }
def DfaWrongCardSaid : Prop := Claim7.holds Tryz.pinned (.plain (OpenSpec.ofChange dfaWrongSpec)) dfaWrongCard

/-- THE SECOND FORM's CARD OF 'reparteelaw18.DfaFirst'. -/
def dfaFirstUptoCard : Claim7 := { stood := { row := dfaFirstUptoRow, standIns := [], harness := (true, "5e55b10c3dfff2b28ae9edf15500889dfebabd5db6390788b29efe6822370a81"), looks := true }, kinds := [], alts := [], laidByText := true, laidKinds := [.data, .data, .data], laidTests := true, laidLooks := .later }
def DfaFirstUptoCardSaid : Prop := Claim7.holds Tryz.pinned (.plain (OpenSpec.upto dfaFirstSpec)) dfaFirstUptoCard

/-- THE SECOND FORM's CARD OF 'reparteelaw18.DfaFuel'. -/
def dfaFuelUptoCard : Claim7 := { stood := { row := dfaFuelUptoRow, standIns := [], harness := (true, "5e55b10c3dfff2b28ae9edf15500889dfebabd5db6390788b29efe6822370a81"), looks := true }, kinds := [], alts := [], laidByText := true, laidKinds := [.data, .data, .data], laidTests := true, laidLooks := .later }
def DfaFuelUptoCardSaid : Prop := Claim7.holds Tryz.pinned (.plain (OpenSpec.upto dfaFuelSpec)) dfaFuelUptoCard

/-- THE SECOND FORM's CARD OF 'reparteelaw18.DfaSplit'. -/
def dfaSplitUptoCard : Claim7 := { stood := { row := dfaSplitUptoRow, standIns := [], harness := (true, "5e55b10c3dfff2b28ae9edf15500889dfebabd5db6390788b29efe6822370a81"), looks := true }, kinds := [], alts := [], laidByText := true, laidKinds := [.data, .data, .data], laidTests := true, laidLooks := .later }
def DfaSplitUptoCardSaid : Prop := Claim7.holds Tryz.pinned (.plain (OpenSpec.upto dfaSplitSpec)) dfaSplitUptoCard

/-- THE SECOND FORM's CARD OF 'reparteelaw18.DfaMarks'. -/
def dfaMarksUptoCard : Claim7 := { stood := { row := dfaMarksUptoRow, standIns := [], harness := (true, "5e55b10c3dfff2b28ae9edf15500889dfebabd5db6390788b29efe6822370a81"), looks := true }, kinds := [], alts := [], laidByText := true, laidKinds := [.data, .data, .data], laidTests := true, laidLooks := .later }
def DfaMarksUptoCardSaid : Prop := Claim7.holds Tryz.pinned (.plain (OpenSpec.upto dfaMarksSpec)) dfaMarksUptoCard

/-- THE SECOND FORM's CARD OF 'reparteelaw18.DfaTrims'. -/
def dfaTrimsUptoCard : Claim7 := { stood := { row := dfaTrimsUptoRow, standIns := [], harness := (true, "5e55b10c3dfff2b28ae9edf15500889dfebabd5db6390788b29efe6822370a81"), looks := true }, kinds := [], alts := [], laidByText := true, laidKinds := [.data, .data, .data], laidTests := true, laidLooks := .later }
def DfaTrimsUptoCardSaid : Prop := Claim7.holds Tryz.pinned (.plain (OpenSpec.upto dfaTrimsSpec)) dfaTrimsUptoCard

/-- THE SECOND FORM's CARD OF 'reparteelaw18.DfaWrong'. -/
def dfaWrongUptoCard : Claim7 := { stood := { row := dfaWrongUptoRow, standIns := [], harness := (true, "5e55b10c3dfff2b28ae9edf15500889dfebabd5db6390788b29efe6822370a81"), looks := true }, kinds := [], alts := [], laidByText := true, laidKinds := [.data, .data, .data], laidTests := true, laidLooks := .later }
def DfaWrongUptoCardSaid : Prop := Claim7.holds Tryz.pinned (.plain (OpenSpec.upto dfaWrongSpec)) dfaWrongUptoCard
end Rows
end Go.Proofs.YtbiboekhakbnpaaGreatDoor
