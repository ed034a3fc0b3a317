/-
  Opening a set that comes by value.
-/
import Derived.Test.YtokkgbcjjaiaeaaOpen
import Derived.Laws.IdiomArrays
namespace Go.Proofs.Ytokkgbcjjaiaeaa
open Go Go.ChangeShapes Go.WideShapes Go.ChangeAt Go.RowKit
variable {H : Type} {enc : TypeId × Value → H} {W : World}
set_option maxRecDepth 100000 in
theorem open_setV {r : Reach} {v : Value} {d : DataW H} {p : List MemPlace} {b0 : Nat} (hok : Value.okWide Try.prog W r b0 25 v) (h : DataW.Trod enc Try.prog W 0 (fun _ => true) true 25 v d p) : ∃ s : BS, v = .agg (encS s) := by
  simp only [Value.okWide, Try.underlying25] at hok
  obtain ⟨cs, rfl, _, _⟩ := hok
  obtain ⟨fuel, hf⟩ := h
  obtain ⟨s, hs⟩ := trod_set hf
  refine ⟨s, ?_⟩
  have : cs.toList = (encS s).toList := hs
  rw [Array.toList_inj.1 this]
end Go.Proofs.Ytokkgbcjjaiaeaa
