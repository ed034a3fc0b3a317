/-
  Walks for the laws on alphabets: bytes.Equal.
-/
import Derived.Test.YtokkgbcjjaiaeaaLaw0
import Derived.Test.YtokkgbcjjaiaeaaBytesEq
namespace Go.Proofs.Ytokkgbcjjaiaeaa
open Go Go.RowKit Go.Shelf Go.Maps

theorem bytesIn_sl {w : World} {a : Option Addr} {n cap : Nat} {l : List Nat} (h : IsSl encB w (.slice a n cap) l) (hn : n = l.length) : Lib.BytesIn w a n (l.map Int.ofNat) := by
  intro h0
  obtain ⟨x, hx⟩ : ∃ x, l[0]? = some x := ⟨_, List.getElem?_eq_getElem (by omega)⟩
  obtain ⟨b, off, rfl, _, _⟩ := h.elem hx
  refine ⟨b, off, rfl, fun i hi => ?_⟩
  obtain ⟨y, hy⟩ : ∃ y, l[i]? = some y := ⟨_, List.getElem?_eq_getElem (by omega)⟩
  obtain ⟨b', off', h1, _, h2⟩ := h.elem hy
  cases h1
  rw [h2]
  simp [encB, hy]
theorem bytesOf_nat (l : List Nat) : Lib.bytesOf (l.map Int.ofNat) = l.map fun n => UInt8.ofNat n := by
  unfold Lib.bytesOf; rw [List.map_map]; rfl
theorem bytesOf_beq (l1 l2 : List Nat) (h1 : ∀ c ∈ l1, c < 256) (h2 : ∀ c ∈ l2, c < 256) : (Lib.bytesOf (l1.map Int.ofNat) == Lib.bytesOf (l2.map Int.ofNat)) = (l1 == l2) := by
  rw [bytesOf_nat, bytesOf_nat, Bool.eq_iff_iff, beq_iff_eq, beq_iff_eq]
  refine ⟨fun h => ?_, fun h => by rw [h]⟩
  have back : ∀ l : List Nat, (∀ c ∈ l, c < 256) → (l.map fun n => UInt8.ofNat n).map UInt8.toNat = l := fun l hl => by
    rw [List.map_map]
    conv => rhs; rw [← List.map_id l]
    refine List.map_congr_left fun c hc => ?_
    have := hl c hc
    simp [UInt8.toNat_ofNat']
    omega
  rw [← back l1 h1, ← back l2 h2, h]
theorem bytesEq_any (v1 v2 : Value) (l1 l2 : List Nat) (w : World) (h1 : IsSl encB w v1 l1) (h2 : IsSl encB w v2 l2) (hb1 : ∀ c ∈ l1, c < 256) (hb2 : ∀ c ∈ l2, c < 256) :
    Calls Try.prog 47 #[v1, v2] w fun e w' => e = .returned (.bool (l1 == l2)) ∧ w' = w := by
  obtain ⟨a1, c1, rfl⟩ := h1.form
  obtain ⟨a2, c2, rfl⟩ := h2.form
  rw [← bytesOf_beq l1 l2 hb1 hb2]
  exact Any.bytes_Equal_all Try.bytesEq a1 a2 l1.length c1 l2.length c2 _ _ w (by simp) (by simp) (bytesIn_sl h1 rfl) (bytesIn_sl h2 rfl)
end Go.Proofs.Ytokkgbcjjaiaeaa
