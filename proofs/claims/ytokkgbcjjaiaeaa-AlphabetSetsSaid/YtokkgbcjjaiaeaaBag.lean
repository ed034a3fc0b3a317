/-
  What holds in a world and is kept as long as nothing that exists is written, many such facts in one bag.
-/
import Derived.Test.YtokkgbcjjaiaeaaLaw
namespace Go.Proofs.Ytokkgbcjjaiaeaa
open Go Go.RowKit Go.Shelf Go.Maps

structure Sp where
  H : World → Prop
  st : ∀ W W' : World, Below W.heap.size W W' → H W → H W'
def Bag (L : List Sp) (W : World) : Prop := ∀ x ∈ L, x.H W
theorem Bag.nil (W : World) : Bag [] W := fun _ h => by cases h
theorem Bag.step {L : List Sp} {W W' : World} (h : Bag L W) (hx : Below W.heap.size W W') : Bag L W' := fun x hm => x.st W W' hx (h x hm)
theorem Bag.cons {L : List Sp} {W : World} (h : Bag L W) {s : Sp} (hs : s.H W) : Bag (s :: L) W := fun x hm => by
  rcases List.mem_cons.1 hm with rfl | hm
  · exact hs
  · exact h x hm
theorem Bag.at {L : List Sp} {W : World} (h : Bag L W) (i : Nat) {s : Sp} (hi : L[i]? = some s) : s.H W := h s (List.mem_of_getElem? hi)

def Sp.sl {α : Type} (enc : α → Value) (v : Value) (l : List α) : Sp := ⟨fun W => IsSl enc W v l, fun _ _ hx h => h.below hx⟩
def Sp.al (base : Nat) (v : Value) (p : List BS) : Sp := ⟨fun W => IsAl W base v p, fun _ _ hx h => h.below hx⟩
def Sp.sets (v : Value) (l : List BS) : Sp := ⟨fun W => IsSets W v l, fun _ _ hx h => h.below hx⟩
def Sp.blk (b : Nat) (c : Array Value) (t : TypeId) : Sp := ⟨fun W => Blk W b c t, fun _ _ hx h => h.below hx h.lt⟩
def Sp.own (base : Nat) (e : TypeId) (size : Nat) (v : Value) (n : Nat) (xs : List Value) : Sp := ⟨fun W => W.ownsRow base e size v n xs, fun W _ hx h => ownsRow_keeps h (Keeps.of_below hx (R := (· < W.heap.size)) fun _ h => h) fun k e => (h.lt k e).2⟩
def Sp.since (w : World) : Sp := ⟨fun W => Below w.heap.size w W, fun _ _ hx h => h.trans (hx.mono h.size)⟩
section
variable {L : List Sp} {W : World}
theorem Bag.sl {α : Type} {enc : α → Value} {v : Value} {l : List α} (h : Bag L W) (i : Nat) (hi : L[i]? = some (Sp.sl enc v l)) : IsSl enc W v l := h.at i hi
theorem Bag.al {base : Nat} {v : Value} {p : List BS} (h : Bag L W) (i : Nat) (hi : L[i]? = some (Sp.al base v p)) : IsAl W base v p := h.at i hi
theorem Bag.sets {v : Value} {l : List BS} (h : Bag L W) (i : Nat) (hi : L[i]? = some (Sp.sets v l)) : IsSets W v l := h.at i hi
theorem Bag.blk {b : Nat} {c : Array Value} {t : TypeId} (h : Bag L W) (i : Nat) (hi : L[i]? = some (Sp.blk b c t)) : Blk W b c t := h.at i hi
theorem Bag.own {base : Nat} {e : TypeId} {size : Nat} {v : Value} {n : Nat} {xs : List Value} (h : Bag L W) (i : Nat) (hi : L[i]? = some (Sp.own base e size v n xs)) : W.ownsRow base e size v n xs := h.at i hi
theorem Bag.since {w : World} (h : Bag L W) (i : Nat) (hi : L[i]? = some (Sp.since w)) : Below w.heap.size w W := h.at i hi
end
end Go.Proofs.Ytokkgbcjjaiaeaa
