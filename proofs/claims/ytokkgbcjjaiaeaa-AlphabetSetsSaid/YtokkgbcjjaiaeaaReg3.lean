/-
  Facts in the worlds of a region walked in any order.
-/
import Derived.Test.YtokkgbcjjaiaeaaBase
namespace Go.Proofs.Ytokkgbcjjaiaeaa
open Go Go.RowKit
theorem regCell {C : World → Prop} {d : Bool} {T : Nat → Prop} {w : World} (hC : ∀ W, C W ↔ Move d T w W) {p : Addr} {v : Option Value} (hs : p.block < w.heap.size) (ht : ¬ T p.block) (h : w.cell? p = v) : ∀ W : { W // C W }, W.1.cell? p = v := fun W =>
  (((hC W.1).1 W.2).keeps.cell ⟨hs, ht⟩).trans h
end Go.Proofs.Ytokkgbcjjaiaeaa
