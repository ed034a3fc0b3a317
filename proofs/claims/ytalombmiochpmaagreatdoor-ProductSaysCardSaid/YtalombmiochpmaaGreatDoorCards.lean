/-
  DERIVED. GIVEN WITH THE SEED: THE CARDS: each row of YtalombmiochpmaaGreatDoorRows.lean that lists a variable, with what it lists TIED to the program's text (the seventh form; the later family's looks); each row that meets fmt, with fmt's text TOLD by the authors' own Lean function (tested against real Go, not proved from fmt's source: count such statements apart). THE CARD IS WHAT COUNTS. Prove the row's statement (the work); the ties are given (YtalombmiochpmaaGreatDoorTie.lean); close each card by the builder's one call (the guide's Derived/Test/ToyasCard.lean, 'card_holds'). Laid BY PROGRAM, IN A SANDBOX (cutbox-door.mjs). By AI agents, Wed Nov 11 2026. No macro, syntax, notation, axiom, sorry.
-/
import Derived.Test.YtalombmiochpmaaGreatDoorRows
import GoSem.ClaimSeven
namespace Go.Proofs.YtalombmiochpmaaGreatDoor
namespace Rows

/-- THE TIED CARD OF 'reparteelaw19.ProductSays'. -/
def productSaysCard : Claim7 := { stood := { row := productSaysRow, standIns := [], harness := (true, "fa9c2b563c7b89705b38cb48291710d21940e711780045efc34ce5cf9f2ffd56"), looks := true }, kinds := [], alts := [], laidByText := true, laidKinds := [.data, .data, .data], laidTests := true, laidLooks := .later }
def ProductSaysCardSaid : Prop := Claim7.holds Tryz.pinned (.plain (OpenSpec.ofChange productSaysSpec)) productSaysCard

/-- THE TIED CARD OF 'reparteelaw19.ProductAlgebra'. -/
def productAlgebraCard : Claim7 := { stood := { row := productAlgebraRow, standIns := [], harness := (true, "fa9c2b563c7b89705b38cb48291710d21940e711780045efc34ce5cf9f2ffd56"), looks := true }, kinds := [], alts := [], laidByText := true, laidKinds := [.data, .data, .data], laidTests := true, laidLooks := .later }
def ProductAlgebraCardSaid : Prop := Claim7.holds Tryz.pinned (.plain (OpenSpec.ofChange productAlgebraSpec)) productAlgebraCard

/-- THE TIED CARD OF 'reparteelaw19.ProductCounts'. -/
def productCountsCard : Claim7 := { stood := { row := productCountsRow, standIns := [], harness := (true, "fa9c2b563c7b89705b38cb48291710d21940e711780045efc34ce5cf9f2ffd56"), looks := true }, kinds := [], alts := [], laidByText := true, laidKinds := [.data, .data, .data], laidTests := true, laidLooks := .later }
def ProductCountsCardSaid : Prop := Claim7.holds Tryz.pinned (.plain (OpenSpec.ofChange productCountsSpec)) productCountsCard

/-- THE TIED CARD OF 'reparteelaw19.ProductWrong'. -/
def productWrongCard : Claim7 := { stood := { row := productWrongRow, standIns := [], harness := (true, "fa9c2b563c7b89705b38cb48291710d21940e711780045efc34ce5cf9f2ffd56"), looks := true }, kinds := [], alts := [], laidByText := true, laidKinds := [.data, .data, .data], laidTests := true, laidLooks := .later }
def ProductWrongCardSaid : Prop := Claim7.holds Tryz.pinned (.plain (OpenSpec.ofChange productWrongSpec)) productWrongCard

/-- THE TIED CARD OF 'reparteelaw19.ProductFirst'. -/
def productFirstCard : Claim7 := { stood := { row := productFirstRow, standIns := [], harness := (true, "fa9c2b563c7b89705b38cb48291710d21940e711780045efc34ce5cf9f2ffd56"), looks := true }, kinds := [], alts := [], laidByText := true, laidKinds := [.data, .data, .data], laidTests := true, laidLooks := .later }
def ProductFirstCardSaid : Prop := Claim7.holds Tryz.pinned (.plain (OpenSpec.ofChange productFirstSpec)) productFirstCard

/-- THE TIED CARD OF 'reparteelaw19.ProductWithin'. -/
def productWithinCard : Claim7 := { stood := { row := productWithinRow, standIns := [], harness := (true, "fa9c2b563c7b89705b38cb48291710d21940e711780045efc34ce5cf9f2ffd56"), looks := true }, kinds := [], alts := [], laidByText := true, laidKinds := [.data, .data, .data], laidTests := true, laidLooks := .later }
def ProductWithinCardSaid : Prop := Claim7.holds Tryz.pinned (.plain (OpenSpec.ofChange productWithinSpec)) productWithinCard

/-- THE SECOND FORM's CARD OF 'reparteelaw19.ProductSays'. -/
def productSaysUptoCard : Claim7 := { stood := { row := productSaysUptoRow, standIns := [], harness := (true, "fa9c2b563c7b89705b38cb48291710d21940e711780045efc34ce5cf9f2ffd56"), looks := true }, kinds := [], alts := [], laidByText := true, laidKinds := [.data, .data, .data], laidTests := true, laidLooks := .later }
def ProductSaysUptoCardSaid : Prop := Claim7.holds Tryz.pinned (.plain (OpenSpec.upto productSaysSpec)) productSaysUptoCard

/-- THE SECOND FORM's CARD OF 'reparteelaw19.ProductAlgebra'. -/
def productAlgebraUptoCard : Claim7 := { stood := { row := productAlgebraUptoRow, standIns := [], harness := (true, "fa9c2b563c7b89705b38cb48291710d21940e711780045efc34ce5cf9f2ffd56"), looks := true }, kinds := [], alts := [], laidByText := true, laidKinds := [.data, .data, .data], laidTests := true, laidLooks := .later }
def ProductAlgebraUptoCardSaid : Prop := Claim7.holds Tryz.pinned (.plain (OpenSpec.upto productAlgebraSpec)) productAlgebraUptoCard

/-- THE SECOND FORM's CARD OF 'reparteelaw19.ProductCounts'. -/
def productCountsUptoCard : Claim7 := { stood := { row := productCountsUptoRow, standIns := [], harness := (true, "fa9c2b563c7b89705b38cb48291710d21940e711780045efc34ce5cf9f2ffd56"), looks := true }, kinds := [], alts := [], laidByText := true, laidKinds := [.data, .data, .data], laidTests := true, laidLooks := .later }
def ProductCountsUptoCardSaid : Prop := Claim7.holds Tryz.pinned (.plain (OpenSpec.upto productCountsSpec)) productCountsUptoCard

/-- THE SECOND FORM's CARD OF 'reparteelaw19.ProductWrong'. -/
def productWrongUptoCard : Claim7 := { stood := { row := productWrongUptoRow, standIns := [], harness := (true, "fa9c2b563c7b89705b38cb48291710d21940e711780045efc34ce5cf9f2ffd56"), looks := true }, kinds := [], alts := [], laidByText := true, laidKinds := [.data, .data, .data], laidTests := true, laidLooks := .later }
def ProductWrongUptoCardSaid : Prop := Claim7.holds Tryz.pinned (.plain (OpenSpec.upto productWrongSpec)) productWrongUptoCard

/-- THE SECOND FORM's CARD OF 'reparteelaw19.ProductFirst'. -/
def productFirstUptoCard : Claim7 := { stood := { row := productFirstUptoRow, standIns := [], harness := (true, "fa9c2b563c7b89705b38cb48291710d21940e711780045efc34ce5cf9f2ffd56"), looks := true }, kinds := [], alts := [], laidByText := true, laidKinds := [.data, .data, .data], laidTests := true, laidLooks := .later }
def ProductFirstUptoCardSaid : Prop := Claim7.holds Tryz.pinned (.plain (OpenSpec.upto productFirstSpec)) productFirstUptoCard

/-- THE SECOND FORM's CARD OF 'reparteelaw19.ProductWithin'. -/
def productWithinUptoCard : Claim7 := { stood := { row := productWithinUptoRow, standIns := [], harness := (true, "fa9c2b563c7b89705b38cb48291710d21940e711780045efc34ce5cf9f2ffd56"), looks := true }, kinds := [], alts := [], laidByText := true, laidKinds := [.data, .data, .data], laidTests := true, laidLooks := .later }
def ProductWithinUptoCardSaid : Prop := Claim7.holds Tryz.pinned (.plain (OpenSpec.upto productWithinSpec)) productWithinUptoCard
end Rows
end Go.Proofs.YtalombmiochpmaaGreatDoor
