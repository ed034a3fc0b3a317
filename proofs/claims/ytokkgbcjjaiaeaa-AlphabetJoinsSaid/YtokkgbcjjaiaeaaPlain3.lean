/-
  Plain law: what AlphabetWords asks of words and least bytes.
-/
import Derived.Test.YtokkgbcjjaiaeaaPlain2
namespace Go.Proofs.Ytokkgbcjjaiaeaa
open Go Go.RowKit Go.Shelf Go.Maps

theorem cls_class (l : List BS) {c : Nat} (hc : c < 256) : ∃ q : BS, (partsOf l)[cls (partsOf l) c]? = some q ∧ q.getLsbD c = true := (cls_iff l hc).1 rfl
/-- The least byte of a byte's class. -/
def leastB (p : List BS) (c : Nat) : Nat := (firstOf (p[cls p c]?.getD 0)).1
theorem leastB_spec (l : List BS) {c : Nat} (hc : c < 256) : leastB (partsOf l) c < 256 ∧ leastB (partsOf l) c ≤ c ∧ cls (partsOf l) (leastB (partsOf l) c) = cls (partsOf l) c ∧ leastOf (partsOf l) (cls (partsOf l) c) = (leastB (partsOf l) c, true) := by
  obtain ⟨q, h1, h2⟩ := cls_class l hc
  obtain ⟨f1, f2, f3, f4⟩ := first_of_ne (partsOf_ne l (List.mem_of_getElem? h1))
  have e : leastB (partsOf l) c = (firstOf q).1 := by unfold leastB; rw [h1]; rfl
  rw [e]
  refine ⟨f2, ?_, (cls_iff l f2).2 ⟨q, h1, f3⟩, ?_⟩
  · by_cases h : (firstOf q).1 ≤ c
    · exact h
    · rw [f4 c (by omega)] at h2; cases h2
  · unfold leastOf
    rw [setOf_nat, h1]
    exact Prod.ext rfl f1
theorem wordOf_parts (l : List BS) (b : List Nat) : wordOf (partsOf l) b = b.map (cls (partsOf l)) := by unfold wordOf; rw [partsOf_isEmpty]; rfl
theorem bytesOf_word (l : List BS) (b : List Nat) (hb : ∀ c ∈ b, c < 256) : bytesOfL (partsOf l) ((b.map (cls (partsOf l))).map Int.ofNat) = (b.map (leastB (partsOf l)), 0) := by
  have h1 : ∀ c ∈ b, leastOf (partsOf l) (Int.ofNat (cls (partsOf l) c)) = (leastB (partsOf l) c, true) := fun c hc => (leastB_spec l (hb c hc)).2.2.2
  unfold bytesOfL
  rw [partsOf_isEmpty]
  have hall : (((b.map (cls (partsOf l))).map Int.ofNat).all fun k => (leastOf (partsOf l) k).2) = true := by
    rw [List.all_eq_true]
    intro k hk
    simp only [List.map_map, List.mem_map, Function.comp] at hk
    obtain ⟨c, hc, rfl⟩ := hk
    rw [h1 c hc]
  rw [hall]
  simp only [Bool.false_eq_true, if_false, if_true, Prod.mk.injEq, and_true, List.map_map]
  exact List.map_congr_left fun c hc => by show (leastOf (partsOf l) (Int.ofNat (cls (partsOf l) c))).1 = _; rw [h1 c hc]
theorem word_least (l : List BS) (b : List Nat) (hb : ∀ c ∈ b, c < 256) : wordOf (partsOf l) (b.map (leastB (partsOf l))) = b.map (cls (partsOf l)) := by
  rw [wordOf_parts, List.map_map]
  exact List.map_congr_left fun c hc => (leastB_spec l (hb c hc)).2.2.1
theorem least_lt (l : List BS) (b : List Nat) (hb : ∀ c ∈ b, c < 256) : ∀ c ∈ b.map (leastB (partsOf l)), c < 256 := by
  intro c hc
  obtain ⟨d, hd, rfl⟩ := List.mem_map.1 hc
  exact (leastB_spec l (hb d hd)).1
/-- Bytes that no set tells apart have one class. -/
theorem alike_cls (l : List BS) {x y : Nat} (hx : x < 256) (hy : y < 256) : (l.any fun s => s.getLsbD x != s.getLsbD y) = !decide (cls (partsOf l) x = cls (partsOf l) y) := by
  obtain ⟨q, h1, h2⟩ := cls_class l hx
  have h3 := partsOf_alike l (List.mem_of_getElem? h1) hx hy h2
  have h4 : cls (partsOf l) x = cls (partsOf l) y ↔ Alike l x y := by
    rw [← h3]
    constructor
    · intro e
      obtain ⟨q', h5, h6⟩ := cls_class l hy
      rw [← e, h1] at h5
      cases h5; exact h6
    · intro h; exact ((cls_iff l hy).2 ⟨q, h1, h⟩).symm
  by_cases ha : Alike l x y
  · rw [decide_eq_true (h4.2 ha)]
    rw [List.any_eq_false.2]
    · rfl
    · intro s hs; rw [ha s hs]; simp
  · rw [decide_eq_false (fun e => ha (h4.1 e))]
    unfold Alike at ha
    simp only [Classical.not_forall] at ha
    obtain ⟨s, hs, hne⟩ := ha
    rw [List.any_eq_true.2]
    · rfl
    · exact ⟨s, hs, by simpa using hne⟩
end Go.Proofs.Ytokkgbcjjaiaeaa
