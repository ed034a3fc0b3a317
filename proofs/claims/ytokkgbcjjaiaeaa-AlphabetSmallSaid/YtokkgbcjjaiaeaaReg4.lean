/-
  Regions that mark a row of their own as a string's (a conversion of a constant's bytes): the relation that is kept: old blocks stay; of new ones the cells do.
-/
import Derived.Test.YtokkgbcjjaiaeaaLaw
import Derived.Test.YtokkgbcjjaiaeaaReg3
import Derived.Lib.SlBytesConst
namespace Go.Proofs.Ytokkgbcjjaiaeaa
open Go Go.RowKit Go.Shelf Go.Maps

structure MoveF (w0 W W' : World) : Prop where
  keeps : Keeps (· < w0.heap.size) W W'
  cells : ∀ k o, k < W.heap.size → W'.cell? ⟨k, o, none⟩ = W.cell? ⟨k, o, none⟩
  shapes : ∀ k, k < W.heap.size → W'.shape? k = W.shape? k
theorem MoveF.trans {w0 A B C : World} (h : MoveF w0 A B) (k : MoveF w0 B C) : MoveF w0 A C :=
  ⟨h.keeps.tr k.keeps, fun i o hi => (k.cells i o (Nat.lt_of_lt_of_le hi h.keeps.size)).trans (h.cells i o hi), fun i hi => (k.shapes i (Nat.lt_of_lt_of_le hi h.keeps.size)).trans (h.shapes i hi)⟩
theorem MoveF.drew (w : World) : MoveF w w w.drew := ⟨(Keeps.refl _ _).drew, fun _ _ _ => rfl, fun _ _ => rfl⟩
theorem MoveF.below {w0 W W' : World} (h : Below W.heap.size W W') (hs : w0.heap.size ≤ W.heap.size) : MoveF w0 W W' :=
  ⟨Keeps.of_below h fun _ hk => Nat.lt_of_lt_of_le hk hs, fun _ _ hk => h.cell hk, fun k hk => by unfold World.shape?; rw [h.block k hk]⟩
theorem MoveF.ext {w0 W W' : World} (h : Ext W W') (hs : w0.heap.size ≤ W.heap.size) : MoveF w0 W W' := .below h.below hs
theorem MoveF.size {w0 W W' : World} (h : MoveF w0 W W') : W.heap.size ≤ W'.heap.size := h.keeps.size
theorem MoveF.old {w0 W : World} (h : MoveF w0 w0 W) : Below w0.heap.size w0 W := h.keeps.below
theorem freeze_size (W : World) (a : Addr) (n : Nat) : (W.freeze a n).heap.size = W.heap.size := by
  unfold World.freeze; split <;> simp
theorem freeze_cell (W : World) (a : Addr) (n : Nat) (x : Addr) : (W.freeze a n).cell? x = W.cell? x := by
  unfold World.freeze
  split
  · rfl
  · simp only [World.cell?, Array.getElem?_modify]
    by_cases h : a.block = x.block
    · rw [if_pos h]
      cases hx : W.heap[x.block]? with
      | none => rfl
      | some o => cases o <;> rfl
    · rw [if_neg h]
theorem freeze_other (W : World) (a : Addr) (n : Nat) {k : Nat} (hk : k ≠ a.block) : (W.freeze a n).heap[k]? = W.heap[k]? := by
  unfold World.freeze
  split
  · rfl
  · simp only [Array.getElem?_modify]
    rw [if_neg (fun h => hk h.symm)]
theorem freeze_shape (W : World) (a : Addr) (n k : Nat) : (W.freeze a n).shape? k = W.shape? k := by
  unfold World.freeze
  split
  · rfl
  · simp only [World.shape?, Array.getElem?_modify]
    by_cases h : a.block = k
    · rw [if_pos h]
      cases hx : W.heap[k]? with
      | none => rfl
      | some o => cases o <;> rfl
    · rw [if_neg h]
theorem MoveF.freeze {w0 W : World} {a : Addr} (n : Nat) (ha : w0.heap.size ≤ a.block) : MoveF w0 W (W.freeze a n) := by
  refine ⟨⟨?_, ?_, ?_, by rw [freeze_size]; exact Nat.le_refl _, fun k hk => freeze_other W a n (by have : k < w0.heap.size := hk; omega)⟩, fun _ _ _ => freeze_cell _ _ _ _, fun _ _ => freeze_shape _ _ _ _⟩ <;> (unfold World.freeze; split <;> rfl)
theorem run_convert_bytes_any {P : Program} (W : World) (t e : TypeId) (b o n c m : Nat) (ht : P.underlying t = some (.slice e)) (he : P.underlying e = some (.int .u8)) (hs : W.shape? b = some (e, m)) :
    (convert t t (.slice (some ⟨b, o, none⟩) n c)).run P W = .ok (.slice (some ⟨b, o, none⟩) n c) (W.freeze ⟨b, m, none⟩ 1) := by
  simp [convert, run_underlying ht, run_underlying he, markStringish, hs]
theorem IsSl.moveF {α : Type} {enc : α → Value} {w0 W W' : World} {v : Value} {l : List α} (h : IsSl enc W v l) (hm : MoveF w0 W W') : IsSl enc W' v l := by
  rcases h with h | ⟨b, off, cap, hv, hb, hc, h⟩
  · exact .inl h
  · exact .inr ⟨b, off, cap, hv, Nat.lt_of_lt_of_le hb hm.size, hc, fun i x hi => (hm.cells _ _ hb).trans (h i x hi)⟩
theorem IsSets.moveF {w0 W W' : World} {v : Value} {l : List BS} (h : IsSets W v l) (hm : MoveF w0 W W') : IsSets W' v l := by
  rcases h with h | ⟨b, off, cap, hv, hb, h⟩
  · exact .inl h
  · exact .inr ⟨b, off, cap, hv, Nat.lt_of_lt_of_le hb hm.size, fun i s hi j hj => (hm.cells _ _ hb).trans (h i s hi j hj)⟩
theorem regCellF {C : World → Prop} {w : World} (hC : ∀ W, C W ↔ MoveF w w W) {p : Addr} {v : Option Value} (hs : p.block < w.heap.size) (h : w.cell? p = v) : ∀ W : { W // C W }, W.1.cell? p = v := fun W =>
  (((hC W.1).1 W.2).keeps.cell hs).trans h
theorem regSetF {C : World → Prop} {w : World} (hC : ∀ W, C W ↔ MoveF w w W) {b : Nat} {s : BS} {t : TypeId} (h : Blk w b (encS s) t) :
    (∀ W : { W // C W }, W.1.cell? ⟨b, 0, none⟩ = some (.int .u64 (wd s 0).toNat)) ∧ (∀ W : { W // C W }, W.1.cell? ⟨b, 1, none⟩ = some (.int .u64 (wd s 1).toNat)) ∧
    (∀ W : { W // C W }, W.1.cell? ⟨b, 2, none⟩ = some (.int .u64 (wd s 2).toNat)) ∧ (∀ W : { W // C W }, W.1.cell? ⟨b, 3, none⟩ = some (.int .u64 (wd s 3).toNat)) := by
  have k := fun (W : { W // C W }) => (h.below ((hC W.1).1 W.2).old h.lt).set4
  exact ⟨fun W => (k W).1, fun W => (k W).2.1, fun W => (k W).2.2.1, fun W => (k W).2.2.2⟩
/-- Sets in a box of their own. -/
def Eff.setsF (w0 : World) (n : Nat) (L : List BS) : Eff (MoveF w0) where
  P := fun v => ∃ b, v = .slice (some ⟨b, 0, none⟩) n n
  H := fun v W => IsSets W v L
  wit := .slice (some ⟨0, 0, none⟩) n n
  pw := ⟨0, rfl⟩
  st := fun _ _ _ hm _ h => h.moveF hm
def Eff.slF {α : Type} (w0 : World) (enc : α → Value) (t : TypeId) (n : Nat) (l : List α) : Eff (MoveF w0) where
  P := fun v => ∃ b, w0.heap.size ≤ b ∧ v = .slice (some ⟨b, 0, none⟩) n n
  H := fun v W => IsSl enc W v l ∧ ∀ b, v = .slice (some ⟨b, 0, none⟩) n n → b < W.heap.size ∧ W.shape? b = some (t, n)
  wit := .slice (some ⟨w0.heap.size, 0, none⟩) n n
  pw := ⟨_, Nat.le_refl _, rfl⟩
  st := fun _ _ _ hm _ h => ⟨h.1.moveF hm, fun b e => ⟨Nat.lt_of_lt_of_le (h.2 b e).1 hm.size, (hm.shapes b (h.2 b e).1).trans (h.2 b e).2⟩⟩
end Go.Proofs.Ytokkgbcjjaiaeaa
