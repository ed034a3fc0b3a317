/-
  Plain law: what the classes of sets are.
-/
import Derived.Test.YtokkgbcjjaiaeaaAwake0
namespace Go.Proofs.Ytokkgbcjjaiaeaa
open Go Go.RowKit Go.Shelf Go.Maps

/-- Two bytes that no set tells apart. -/
def Alike (l : List BS) (c d : Nat) : Prop := ∀ s ∈ l, s.getLsbD c = s.getLsbD d
theorem mem_cut {s p x : BS} : x ∈ cut s p ↔ (x = p &&& s ∨ x = p &&& ~~~s) ∧ x ≠ 0 := by
  unfold cut
  simp only [List.mem_filter, List.mem_cons, List.not_mem_nil, or_false, Bool.not_eq_true', beq_eq_false_iff_ne]
theorem mem_partsStep {s x : BS} {l : List BS} : x ∈ partsStep s l ↔ ∃ p ∈ l, (x = p &&& s ∨ x = p &&& ~~~s) ∧ x ≠ 0 := by
  unfold partsStep
  simp only [List.mem_flatMap, mem_cut]
theorem bs_zero_bit (c : Nat) : (0 : BS).getLsbD c = false := BitVec.getLsbD_zero
theorem not_bit (s : BS) {c : Nat} (hc : c < 256) : (~~~s).getLsbD c = !s.getLsbD c := by
  rw [BitVec.getLsbD_not]; simp [hc]
theorem all_bit {c : Nat} (hc : c < 256) : (~~~(0 : BS)).getLsbD c = true := by rw [not_bit _ hc, bs_zero_bit]; rfl
/-- Every byte is in a class. -/
theorem partsRaw_cover (l : List BS) (c : Nat) (hc : c < 256) : ∃ q ∈ partsRaw l, q.getLsbD c = true := by
  suffices ∀ r : List BS, ∃ q ∈ partsRaw r.reverse, q.getLsbD c = true by have := this l.reverse; rwa [List.reverse_reverse] at this
  intro r
  induction r with
  | nil => exact ⟨~~~0, by simp [partsRaw], all_bit hc⟩
  | cons s r ih =>
    obtain ⟨q, hq, hqc⟩ := ih
    rw [List.reverse_cons, partsRaw_snoc]
    cases hs : s.getLsbD c with
    | true =>
      have h : (q &&& s).getLsbD c = true := by rw [BitVec.getLsbD_and, hqc, hs]; rfl
      exact ⟨q &&& s, mem_partsStep.2 ⟨q, hq, .inl rfl, fun e => by rw [e, bs_zero_bit] at h; cases h⟩, h⟩
    | false =>
      have h : (q &&& ~~~s).getLsbD c = true := by rw [BitVec.getLsbD_and, hqc, not_bit _ hc, hs]; rfl
      exact ⟨q &&& ~~~s, mem_partsStep.2 ⟨q, hq, .inr rfl, fun e => by rw [e, bs_zero_bit] at h; cases h⟩, h⟩
/-- A class has the bytes that are like one of its own. -/
theorem partsRaw_alike (l : List BS) {q : BS} (hq : q ∈ partsRaw l) {c d : Nat} (hc : c < 256) (hd : d < 256) (h : q.getLsbD c = true) : q.getLsbD d = true ↔ Alike l c d := by
  suffices ∀ (r : List BS) (q : BS), q ∈ partsRaw r.reverse → q.getLsbD c = true → (q.getLsbD d = true ↔ Alike r.reverse c d) by
    have := this l.reverse q (by rwa [List.reverse_reverse]) h; rwa [List.reverse_reverse] at this
  intro r
  induction r with
  | nil =>
    intro q hq _
    have : q = ~~~0 := by simpa [partsRaw] using hq
    rw [this, all_bit hd]
    simp [Alike]
  | cons s r ih =>
    intro q hq hqc
    rw [List.reverse_cons, partsRaw_snoc] at hq
    obtain ⟨p, hp, hpq, _⟩ := mem_partsStep.1 hq
    have hal : Alike (r.reverse ++ [s]) c d ↔ Alike r.reverse c d ∧ s.getLsbD c = s.getLsbD d := by
      unfold Alike
      constructor
      · intro h; exact ⟨fun x hx => h x (by simp only [List.mem_append]; exact .inl hx), h s (by simp)⟩
      · intro ⟨h1, h2⟩ x hx
        simp only [List.mem_append, List.mem_singleton] at hx
        rcases hx with hx | rfl
        · exact h1 x hx
        · exact h2
    rw [List.reverse_cons, hal]
    rcases hpq with rfl | rfl
    · rw [BitVec.getLsbD_and, Bool.and_eq_true] at hqc ⊢
      rw [ih p hp hqc.1, hqc.2]
      exact and_congr_right fun _ => eq_comm
    · rw [BitVec.getLsbD_and, Bool.and_eq_true] at hqc ⊢
      have h2 := hqc.2
      rw [not_bit _ hc] at h2
      rw [ih p hp hqc.1, not_bit _ hd]
      have h3 : s.getLsbD c = false := by simpa using h2
      rw [h3]
      refine and_congr_right fun _ => ?_
      cases s.getLsbD d <;> simp

/-- No byte is in both. -/
def Apart (p q : BS) : Prop := ∀ c, ¬ (p.getLsbD c = true ∧ q.getLsbD c = true)
theorem Apart.symm {p q : BS} (h : Apart p q) : Apart q p := fun c ⟨h1, h2⟩ => h c ⟨h2, h1⟩
theorem bit_and (p q : BS) (c : Nat) : (p &&& q).getLsbD c = true ↔ p.getLsbD c = true ∧ q.getLsbD c = true := by rw [BitVec.getLsbD_and, Bool.and_eq_true]
theorem not_bit_and (s : BS) (c : Nat) (h : (~~~s).getLsbD c = true) : s.getLsbD c = false := by
  rw [BitVec.getLsbD_not] at h; simp at h; exact h.2
theorem partsRaw_apart (l : List BS) : (partsRaw l).Pairwise Apart := by
  suffices ∀ r : List BS, (partsRaw r.reverse).Pairwise Apart by have := this l.reverse; rwa [List.reverse_reverse] at this
  intro r
  induction r with
  | nil => simp [partsRaw]
  | cons s r ih =>
    rw [List.reverse_cons, partsRaw_snoc]
    unfold partsStep
    rw [List.pairwise_flatMap]
    refine ⟨fun p _ => ?_, ih.imp fun {p q} h x hx y hy c ⟨h1, h2⟩ => ?_⟩
    · unfold cut
      refine List.Pairwise.filter _ ?_
      refine List.pairwise_cons.2 ⟨fun y hy c ⟨h1, h2⟩ => ?_, List.pairwise_singleton _ _⟩
      rw [List.mem_singleton.1 hy, bit_and] at h2
      rw [bit_and] at h1
      rw [not_bit_and s c h2.2] at h1
      exact Bool.noConfusion h1.2
    · have sub : ∀ {p x : BS}, x ∈ cut s p → x.getLsbD c = true → p.getLsbD c = true := fun {p x} hx h => by
        rcases (mem_cut.1 hx).1 with rfl | rfl
        · exact ((bit_and _ _ _).1 h).1
        · exact ((bit_and _ _ _).1 h).1
      exact h c ⟨sub hx h1, sub hy h2⟩

theorem partsOf_mem {l : List BS} {q : BS} : q ∈ partsOf l ↔ q ∈ partsRaw l := (partsOf_perm l).mem_iff
theorem partsOf_apart (l : List BS) : (partsOf l).Pairwise Apart := ((partsOf_perm l).pairwise_iff (fun h => Apart.symm h)).2 (partsRaw_apart l)
theorem partsOf_cover (l : List BS) (c : Nat) (hc : c < 256) : ∃ (k : Nat) (q : BS), (partsOf l)[k]? = some q ∧ q.getLsbD c = true := by
  obtain ⟨q, h1, h2⟩ := partsRaw_cover l c hc
  obtain ⟨k, hk⟩ := List.getElem?_of_mem (partsOf_mem.2 h1)
  exact ⟨k, q, hk, h2⟩
theorem partsOf_alike (l : List BS) {q : BS} (hq : q ∈ partsOf l) {c d : Nat} (hc : c < 256) (hd : d < 256) (h : q.getLsbD c = true) : q.getLsbD d = true ↔ Alike l c d := partsRaw_alike l (partsOf_mem.1 hq) hc hd h
theorem apart_index {p : List BS} (h : p.Pairwise Apart) {i j : Nat} {x y : BS} (hi : p[i]? = some x) (hj : p[j]? = some y) {c : Nat} (hx : x.getLsbD c = true) (hy : y.getLsbD c = true) : i = j := by
  have key : ∀ {i j : Nat} {x y : BS}, p[i]? = some x → p[j]? = some y → x.getLsbD c = true → y.getLsbD c = true → ¬ i < j := fun {i j x y} hi hj hx hy hlt => by
    obtain ⟨h1, rfl⟩ := List.getElem?_eq_some_iff.1 hi
    obtain ⟨h2, rfl⟩ := List.getElem?_eq_some_iff.1 hj
    exact (List.pairwise_iff_getElem.1 h i j h1 h2 hlt) c ⟨hx, hy⟩
  have h1 := key hi hj hx hy
  have h2 := key hj hi hy hx
  omega
/-- The class of a byte. -/
theorem cls_iff (l : List BS) {c k : Nat} (hc : c < 256) : cls (partsOf l) c = k ↔ ∃ q : BS, (partsOf l)[k]? = some q ∧ q.getLsbD c = true := by
  have h1 : ∃ q, (partsOf l)[cls (partsOf l) c]? = some q ∧ q.getLsbD c = true := by
    rcases tabOf_get (partsOf l) c hc with ⟨k, s, h1, h2, h3⟩ | ⟨h1, _⟩
    · rw [cls_get _ hc] at h3; cases h3; exact ⟨s, h1, h2⟩
    · obtain ⟨k, q, h2, h3⟩ := partsOf_cover l c hc
      rw [h1 q (List.mem_of_getElem? h2)] at h3; cases h3
  constructor
  · rintro rfl; exact h1
  · rintro ⟨q, h2, h3⟩
    obtain ⟨q', h4, h5⟩ := h1
    exact apart_index (partsOf_apart l) h4 h2 h5 h3

theorem partsOf_ne (l : List BS) {q : BS} (h : q ∈ partsOf l) : q ≠ 0 := partsRaw_ne l q (partsOf_mem.1 h)
/-- The least byte of a class. -/
theorem first_of_ne {s : BS} (h : s ≠ 0) : (firstOf s).2 = true ∧ (firstOf s).1 < 256 ∧ s.getLsbD (firstOf s).1 = true ∧ ∀ d, d < (firstOf s).1 → s.getLsbD d = false := by
  rcases firstOf_spec s with ⟨_, h1⟩ | h1
  · exact absurd h1 h
  · exact h1
theorem partsOf_first (l : List BS) {i j : Nat} {x y : BS} (hi : (partsOf l)[i]? = some x) (hj : (partsOf l)[j]? = some y) (hij : i < j) : (firstOf x).1 < (firstOf y).1 := by
  obtain ⟨h1, h2⟩ := List.getElem?_eq_some_iff.1 hi
  obtain ⟨h3, h4⟩ := List.getElem?_eq_some_iff.1 hj
  have hs := List.pairwise_iff_getElem.1 (partsOf_sorted l) i j h1 h3 hij
  have ha := List.pairwise_iff_getElem.1 (partsOf_apart l) i j h1 h3 hij
  rw [h2, h4] at hs ha
  obtain ⟨_, x1, x2, x3⟩ := first_of_ne (partsOf_ne l (List.mem_of_getElem? hi))
  obtain ⟨_, y1, y2, y3⟩ := first_of_ne (partsOf_ne l (List.mem_of_getElem? hj))
  have hne : (firstOf x).1 ≠ (firstOf y).1 := fun e => ha _ ⟨x2, by rw [e]; exact y2⟩
  by_cases hlt : (firstOf x).1 < (firstOf y).1
  · exact hlt
  · exfalso
    have hyx : ltS y x := ⟨(firstOf y).1, y1, fun d hd => by rw [y3 d hd, x3 d (by omega)], y2, x3 _ (by omega)⟩
    rw [← ltOf_iff] at hyx
    rw [hyx] at hs
    exact Bool.noConfusion hs
theorem partsOf_pos (l : List BS) : 0 < (partsOf l).length := by
  obtain ⟨k, q, h, _⟩ := partsOf_cover l 0 (by decide)
  have := (List.getElem?_eq_some_iff.1 h).1; omega
/-- A set that the alphabet is made of has each class whole, or none of it. -/
theorem fit_whole (l : List BS) {s q : BS} (hs : s ∈ l) (hq : q ∈ partsOf l) : q &&& ~~~s = 0 ∨ q &&& s = 0 := by
  obtain ⟨_, h1, h2, _⟩ := first_of_ne (partsOf_ne l hq)
  cases hb : s.getLsbD (firstOf q).1 with
  | true =>
    left
    refine BS.ext fun c hc => ?_
    rw [bs_zero_bit, BitVec.getLsbD_and]
    cases hqc : q.getLsbD c with
    | false => rfl
    | true =>
      have := (partsOf_alike l hq h1 hc h2).1 hqc s hs
      rw [not_bit _ hc, ← this, hb]; rfl
  | false =>
    right
    refine BS.ext fun c hc => ?_
    rw [bs_zero_bit, BitVec.getLsbD_and]
    cases hqc : q.getLsbD c with
    | false => rfl
    | true =>
      have := (partsOf_alike l hq h1 hc h2).1 hqc s hs
      rw [← this, hb]; rfl
theorem fits_of (l : List BS) {s : BS} (hs : s ∈ l) : (classesOf (partsOf l) s).2 = 0 := by
  have hp : (partsOf l).isEmpty = false := by
    have := partsOf_pos l
    cases h : partsOf l with
    | nil => rw [h] at this; simp at this
    | cons => rfl
  have hb : (partsOf l).any (badTo s) = false := by
    rw [List.any_eq_false]
    intro q hq
    unfold badTo
    rcases fit_whole l hs hq with h | h <;> rw [h] <;> simp
  unfold classesOf
  rw [hp, hb]; rfl
end Go.Proofs.Ytokkgbcjjaiaeaa
