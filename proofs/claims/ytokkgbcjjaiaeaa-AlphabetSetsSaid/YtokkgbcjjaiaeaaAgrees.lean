/-
  What it is for an alphabet of the program and one of the reference to agree.
-/
import Derived.Test.YtokkgbcjjaiaeaaRefB
namespace Go.Proofs.Ytokkgbcjjaiaeaa
open Go Go.RowKit Go.Shelf Go.Maps
/-- An alphabet and the reference's agree. -/
structure Agrees (p : List BS) (f : Nat → Int) : Prop where
  ne : p.isEmpty = false
  len : p.length = (leastsTo f 256).length
  byte : ∀ c, c < 256 → ∃ m : Nat, f c = m ∧ m ≤ c ∧ (leastsTo f 256)[cls p c]? = some m
  cls : ∀ n m : Nat, (leastsTo f 256)[n]? = some m → ∃ s, p[n]? = some s ∧ backS (refSetOf f m) = s ∧ leastOf p n = (m, true)
end Go.Proofs.Ytokkgbcjjaiaeaa
