/-
  Plain law: what the classes of sets are.
  Plain law: what AlphabetClasses asks of the classes.
  Plain law: what AlphabetWords asks of words and least bytes.
  Plain law: alphabets as relations of bytes: finer, same, join.
-/
import Derived.Test.YtokkgbcjjaiaeaaAwake
import Derived.Test.YtokkgbcjjaiaeaaAlph
namespace Go.Proofs.Ytokkgbcjjaiaeaa
open Go Go.RowKit Go.Shelf Go.Maps

/-- Two bytes that no set tells apart. -/
def Alike (l : List BS) (c d : Nat) : Prop := ∀ s ∈ l, s.getLsbD c = s.getLsbD d
theorem mem_cut {s p x : BS} : x ∈ cut s p ↔ (x = p &&& s ∨ x = p &&& ~~~s) ∧ x ≠ 0 := by
  unfold cut
  simp only [List.mem_filter, List.mem_cons, List.not_mem_nil, or_false, Bool.not_eq_true', beq_eq_false_iff_ne]
theorem mem_partsStep {s x : BS} {l : List BS} : x ∈ partsStep s l ↔ ∃ p ∈ l, (x = p &&& s ∨ x = p &&& ~~~s) ∧ x ≠ 0 := by
  unfold partsStep
  simp only [List.mem_flatMap, mem_cut]
theorem bs_zero_bit (c : Nat) : (0 : BS).getLsbD c = false := BitVec.getLsbD_zero
theorem not_bit (s : BS) {c : Nat} (hc : c < 256) : (~~~s).getLsbD c = !s.getLsbD c := by
  rw [BitVec.getLsbD_not]; simp [hc]
theorem all_bit {c : Nat} (hc : c < 256) : (~~~(0 : BS)).getLsbD c = true := by rw [not_bit _ hc, bs_zero_bit]; rfl
/-- Every byte is in a class. -/
theorem partsRaw_cover (l : List BS) (c : Nat) (hc : c < 256) : ∃ q ∈ partsRaw l, q.getLsbD c = true := by
  suffices ∀ r : List BS, ∃ q ∈ partsRaw r.reverse, q.getLsbD c = true by have := this l.reverse; rwa [List.reverse_reverse] at this
  intro r
  induction r with
  | nil => exact ⟨~~~0, by simp [partsRaw], all_bit hc⟩
  | cons s r ih =>
    obtain ⟨q, hq, hqc⟩ := ih
    rw [List.reverse_cons, partsRaw_snoc]
    cases hs : s.getLsbD c with
    | true =>
      have h : (q &&& s).getLsbD c = true := by rw [BitVec.getLsbD_and, hqc, hs]; rfl
      exact ⟨q &&& s, mem_partsStep.2 ⟨q, hq, .inl rfl, fun e => by rw [e, bs_zero_bit] at h; cases h⟩, h⟩
    | false =>
      have h : (q &&& ~~~s).getLsbD c = true := by rw [BitVec.getLsbD_and, hqc, not_bit _ hc, hs]; rfl
      exact ⟨q &&& ~~~s, mem_partsStep.2 ⟨q, hq, .inr rfl, fun e => by rw [e, bs_zero_bit] at h; cases h⟩, h⟩
/-- A class has the bytes that are like one of its own. -/
theorem partsRaw_alike (l : List BS) {q : BS} (hq : q ∈ partsRaw l) {c d : Nat} (hc : c < 256) (hd : d < 256) (h : q.getLsbD c = true) : q.getLsbD d = true ↔ Alike l c d := by
  suffices ∀ (r : List BS) (q : BS), q ∈ partsRaw r.reverse → q.getLsbD c = true → (q.getLsbD d = true ↔ Alike r.reverse c d) by
    have := this l.reverse q (by rwa [List.reverse_reverse]) h; rwa [List.reverse_reverse] at this
  intro r
  induction r with
  | nil =>
    intro q hq _
    have : q = ~~~0 := by simpa [partsRaw] using hq
    rw [this, all_bit hd]
    simp [Alike]
  | cons s r ih =>
    intro q hq hqc
    rw [List.reverse_cons, partsRaw_snoc] at hq
    obtain ⟨p, hp, hpq, _⟩ := mem_partsStep.1 hq
    have hal : Alike (r.reverse ++ [s]) c d ↔ Alike r.reverse c d ∧ s.getLsbD c = s.getLsbD d := by
      unfold Alike
      constructor
      · intro h; exact ⟨fun x hx => h x (by simp only [List.mem_append]; exact .inl hx), h s (by simp)⟩
      · intro ⟨h1, h2⟩ x hx
        simp only [List.mem_append, List.mem_singleton] at hx
        rcases hx with hx | rfl
        · exact h1 x hx
        · exact h2
    rw [List.reverse_cons, hal]
    rcases hpq with rfl | rfl
    · rw [BitVec.getLsbD_and, Bool.and_eq_true] at hqc ⊢
      rw [ih p hp hqc.1, hqc.2]
      exact and_congr_right fun _ => eq_comm
    · rw [BitVec.getLsbD_and, Bool.and_eq_true] at hqc ⊢
      have h2 := hqc.2
      rw [not_bit _ hc] at h2
      rw [ih p hp hqc.1, not_bit _ hd]
      have h3 : s.getLsbD c = false := by simpa using h2
      rw [h3]
      refine and_congr_right fun _ => ?_
      cases s.getLsbD d <;> simp

/-- No byte is in both. -/
def Apart (p q : BS) : Prop := ∀ c, ¬ (p.getLsbD c = true ∧ q.getLsbD c = true)
theorem Apart.symm {p q : BS} (h : Apart p q) : Apart q p := fun c ⟨h1, h2⟩ => h c ⟨h2, h1⟩
theorem bit_and (p q : BS) (c : Nat) : (p &&& q).getLsbD c = true ↔ p.getLsbD c = true ∧ q.getLsbD c = true := by rw [BitVec.getLsbD_and, Bool.and_eq_true]
theorem not_bit_and (s : BS) (c : Nat) (h : (~~~s).getLsbD c = true) : s.getLsbD c = false := by
  rw [BitVec.getLsbD_not] at h; simp at h; exact h.2
theorem partsRaw_apart (l : List BS) : (partsRaw l).Pairwise Apart := by
  suffices ∀ r : List BS, (partsRaw r.reverse).Pairwise Apart by have := this l.reverse; rwa [List.reverse_reverse] at this
  intro r
  induction r with
  | nil => simp [partsRaw]
  | cons s r ih =>
    rw [List.reverse_cons, partsRaw_snoc]
    unfold partsStep
    rw [List.pairwise_flatMap]
    refine ⟨fun p _ => ?_, ih.imp fun {p q} h x hx y hy c ⟨h1, h2⟩ => ?_⟩
    · unfold cut
      refine List.Pairwise.filter _ ?_
      refine List.pairwise_cons.2 ⟨fun y hy c ⟨h1, h2⟩ => ?_, List.pairwise_singleton _ _⟩
      rw [List.mem_singleton.1 hy, bit_and] at h2
      rw [bit_and] at h1
      rw [not_bit_and s c h2.2] at h1
      exact Bool.noConfusion h1.2
    · have sub : ∀ {p x : BS}, x ∈ cut s p → x.getLsbD c = true → p.getLsbD c = true := fun {p x} hx h => by
        rcases (mem_cut.1 hx).1 with rfl | rfl
        · exact ((bit_and _ _ _).1 h).1
        · exact ((bit_and _ _ _).1 h).1
      exact h c ⟨sub hx h1, sub hy h2⟩

theorem partsOf_mem {l : List BS} {q : BS} : q ∈ partsOf l ↔ q ∈ partsRaw l := (partsOf_perm l).mem_iff
theorem partsOf_apart (l : List BS) : (partsOf l).Pairwise Apart := ((partsOf_perm l).pairwise_iff (fun h => Apart.symm h)).2 (partsRaw_apart l)
theorem partsOf_cover (l : List BS) (c : Nat) (hc : c < 256) : ∃ (k : Nat) (q : BS), (partsOf l)[k]? = some q ∧ q.getLsbD c = true := by
  obtain ⟨q, h1, h2⟩ := partsRaw_cover l c hc
  obtain ⟨k, hk⟩ := List.getElem?_of_mem (partsOf_mem.2 h1)
  exact ⟨k, q, hk, h2⟩
theorem partsOf_alike (l : List BS) {q : BS} (hq : q ∈ partsOf l) {c d : Nat} (hc : c < 256) (hd : d < 256) (h : q.getLsbD c = true) : q.getLsbD d = true ↔ Alike l c d := partsRaw_alike l (partsOf_mem.1 hq) hc hd h
theorem apart_index {p : List BS} (h : p.Pairwise Apart) {i j : Nat} {x y : BS} (hi : p[i]? = some x) (hj : p[j]? = some y) {c : Nat} (hx : x.getLsbD c = true) (hy : y.getLsbD c = true) : i = j := by
  have key : ∀ {i j : Nat} {x y : BS}, p[i]? = some x → p[j]? = some y → x.getLsbD c = true → y.getLsbD c = true → ¬ i < j := fun {i j x y} hi hj hx hy hlt => by
    obtain ⟨h1, rfl⟩ := List.getElem?_eq_some_iff.1 hi
    obtain ⟨h2, rfl⟩ := List.getElem?_eq_some_iff.1 hj
    exact (List.pairwise_iff_getElem.1 h i j h1 h2 hlt) c ⟨hx, hy⟩
  have h1 := key hi hj hx hy
  have h2 := key hj hi hy hx
  omega
/-- The class of a byte. -/
theorem cls_iff (l : List BS) {c k : Nat} (hc : c < 256) : cls (partsOf l) c = k ↔ ∃ q : BS, (partsOf l)[k]? = some q ∧ q.getLsbD c = true := by
  have h1 : ∃ q, (partsOf l)[cls (partsOf l) c]? = some q ∧ q.getLsbD c = true := by
    rcases tabOf_get (partsOf l) c hc with ⟨k, s, h1, h2, h3⟩ | ⟨h1, _⟩
    · rw [cls_get _ hc] at h3; cases h3; exact ⟨s, h1, h2⟩
    · obtain ⟨k, q, h2, h3⟩ := partsOf_cover l c hc
      rw [h1 q (List.mem_of_getElem? h2)] at h3; cases h3
  constructor
  · rintro rfl; exact h1
  · rintro ⟨q, h2, h3⟩
    obtain ⟨q', h4, h5⟩ := h1
    exact apart_index (partsOf_apart l) h4 h2 h5 h3

theorem partsOf_ne (l : List BS) {q : BS} (h : q ∈ partsOf l) : q ≠ 0 := partsRaw_ne l q (partsOf_mem.1 h)
/-- The least byte of a class. -/
theorem first_of_ne {s : BS} (h : s ≠ 0) : (firstOf s).2 = true ∧ (firstOf s).1 < 256 ∧ s.getLsbD (firstOf s).1 = true ∧ ∀ d, d < (firstOf s).1 → s.getLsbD d = false := by
  rcases firstOf_spec s with ⟨_, h1⟩ | h1
  · exact absurd h1 h
  · exact h1
theorem partsOf_first (l : List BS) {i j : Nat} {x y : BS} (hi : (partsOf l)[i]? = some x) (hj : (partsOf l)[j]? = some y) (hij : i < j) : (firstOf x).1 < (firstOf y).1 := by
  obtain ⟨h1, h2⟩ := List.getElem?_eq_some_iff.1 hi
  obtain ⟨h3, h4⟩ := List.getElem?_eq_some_iff.1 hj
  have hs := List.pairwise_iff_getElem.1 (partsOf_sorted l) i j h1 h3 hij
  have ha := List.pairwise_iff_getElem.1 (partsOf_apart l) i j h1 h3 hij
  rw [h2, h4] at hs ha
  obtain ⟨_, x1, x2, x3⟩ := first_of_ne (partsOf_ne l (List.mem_of_getElem? hi))
  obtain ⟨_, y1, y2, y3⟩ := first_of_ne (partsOf_ne l (List.mem_of_getElem? hj))
  have hne : (firstOf x).1 ≠ (firstOf y).1 := fun e => ha _ ⟨x2, by rw [e]; exact y2⟩
  by_cases hlt : (firstOf x).1 < (firstOf y).1
  · exact hlt
  · exfalso
    have hyx : ltS y x := ⟨(firstOf y).1, y1, fun d hd => by rw [y3 d hd, x3 d (by omega)], y2, x3 _ (by omega)⟩
    rw [← ltOf_iff] at hyx
    rw [hyx] at hs
    exact Bool.noConfusion hs
theorem partsOf_pos (l : List BS) : 0 < (partsOf l).length := by
  obtain ⟨k, q, h, _⟩ := partsOf_cover l 0 (by decide)
  have := (List.getElem?_eq_some_iff.1 h).1; omega
/-- A set that the alphabet is made of has each class whole, or none of it. -/
theorem fit_whole (l : List BS) {s q : BS} (hs : s ∈ l) (hq : q ∈ partsOf l) : q &&& ~~~s = 0 ∨ q &&& s = 0 := by
  obtain ⟨_, h1, h2, _⟩ := first_of_ne (partsOf_ne l hq)
  cases hb : s.getLsbD (firstOf q).1 with
  | true =>
    left
    refine BS.ext fun c hc => ?_
    rw [bs_zero_bit, BitVec.getLsbD_and]
    cases hqc : q.getLsbD c with
    | false => rfl
    | true =>
      have := (partsOf_alike l hq h1 hc h2).1 hqc s hs
      rw [not_bit _ hc, ← this, hb]; rfl
  | false =>
    right
    refine BS.ext fun c hc => ?_
    rw [bs_zero_bit, BitVec.getLsbD_and]
    cases hqc : q.getLsbD c with
    | false => rfl
    | true =>
      have := (partsOf_alike l hq h1 hc h2).1 hqc s hs
      rw [← this, hb]; rfl
theorem fits_of (l : List BS) {s : BS} (hs : s ∈ l) : (classesOf (partsOf l) s).2 = 0 := by
  have hp : (partsOf l).isEmpty = false := by
    have := partsOf_pos l
    cases h : partsOf l with
    | nil => rw [h] at this; simp at this
    | cons => rfl
  have hb : (partsOf l).any (badTo s) = false := by
    rw [List.any_eq_false]
    intro q hq
    unfold badTo
    rcases fit_whole l hs hq with h | h <;> rw [h] <;> simp
  unfold classesOf
  rw [hp, hb]; rfl
end Go.Proofs.Ytokkgbcjjaiaeaa

namespace Go.Proofs.Ytokkgbcjjaiaeaa
open Go Go.RowKit Go.Shelf Go.Maps

theorem partsStep_le (s : BS) (p : List BS) : (partsStep s p).length ≤ 2 * p.length := by
  unfold partsStep
  induction p with
  | nil => simp
  | cons q p ih =>
    rw [List.flatMap_cons, List.length_append, List.length_cons]
    have : (cut s q).length ≤ 2 := by unfold cut; exact Nat.le_trans (List.length_filter_le _ _) (by simp)
    omega
theorem partsRaw_le (l : List BS) : (partsRaw l).length ≤ 2 ^ l.length := by
  suffices ∀ r : List BS, (partsRaw r.reverse).length ≤ 2 ^ r.reverse.length by have := this l.reverse; rwa [List.reverse_reverse] at this
  intro r
  induction r with
  | nil => simp [partsRaw]
  | cons s r ih =>
    rw [List.reverse_cons, partsRaw_snoc, List.length_append, List.length_singleton, Nat.pow_succ]
    have := partsStep_le s (partsRaw r.reverse)
    omega
theorem partsOf_len_le (l : List BS) : (partsOf l).length ≤ 2 ^ l.length := by rw [(partsOf_perm l).length_eq]; exact partsRaw_le l
theorem partsOf_len64 (l : List BS) (h : l.length ≤ 6) : (partsOf l).length ≤ 64 :=
  Nat.le_trans (partsOf_len_le l) (Nat.le_trans (Nat.pow_le_pow_right (by decide) h) (by decide))

/-- All of some sets. -/
def orL (p : List BS) : BS := p.foldl (· ||| ·) 0
theorem orL_nil : orL [] = 0 := rfl
theorem orL_snoc (p : List BS) (s : BS) : orL (p ++ [s]) = orL p ||| s := by unfold orL; rw [List.foldl_append]; rfl
theorem orL_bit (p : List BS) (c : Nat) : (orL p).getLsbD c = true ↔ ∃ q ∈ p, q.getLsbD c = true := by
  suffices ∀ r : List BS, (orL r.reverse).getLsbD c = true ↔ ∃ q ∈ r.reverse, q.getLsbD c = true by have := this p.reverse; rwa [List.reverse_reverse] at this
  intro r
  induction r with
  | nil =>
    rw [List.reverse_nil, orL_nil, bs_zero_bit]
    constructor
    · intro h; cases h
    · rintro ⟨q, hq, _⟩; simp at hq
  | cons s r ih =>
    rw [List.reverse_cons, orL_snoc, BitVec.getLsbD_or, Bool.or_eq_true, ih]
    simp only [List.mem_append, List.mem_singleton]
    constructor
    · rintro (⟨q, hq, h⟩ | h)
      · exact ⟨q, .inl hq, h⟩
      · exact ⟨s, .inr rfl, h⟩
    · rintro ⟨q, hq | rfl, h⟩
      · exact .inl ⟨q, hq, h⟩
      · exact .inr h
theorem take_snoc {α : Type} {p : List α} {k : Nat} {s : α} (h : p[k]? = some s) : p.take (k + 1) = p.take k ++ [s] := by rw [List.take_add_one, h]; rfl
theorem orL_all (l : List BS) : orL (partsOf l) = ~~~0 := by
  refine BS.ext fun c hc => ?_
  rw [all_bit hc, orL_bit]
  obtain ⟨k, q, h1, h2⟩ := partsOf_cover l c hc
  exact ⟨q, List.mem_of_getElem? h1, h2⟩
theorem bs_eq_zero {s : BS} (h : ∀ c, c < 256 → s.getLsbD c = true → False) : s = 0 := by
  refine BS.ext fun c hc => ?_
  rw [bs_zero_bit]
  cases hb : s.getLsbD c with
  | false => rfl
  | true => exact (h c hc hb).elim
theorem orL_apart (l : List BS) {k : Nat} {s : BS} (h : (partsOf l)[k]? = some s) : (orL ((partsOf l).take k) &&& s == 0) = true := by
  rw [beq_iff_eq]
  refine bs_eq_zero fun c hc hb => ?_
  rw [bit_and, orL_bit] at hb
  obtain ⟨⟨q, hq, h1⟩, h2⟩ := hb
  obtain ⟨i, hi, rfl⟩ := List.mem_take_iff_getElem.1 hq
  have hi' : i < (partsOf l).length := by omega
  have := apart_index (partsOf_apart l) (List.getElem?_eq_getElem hi') h h1 h2
  omega

/-- The least byte of the class ahead of number k; -1 ahead of all. -/
def lastOf (p : List BS) (k : Nat) : Int := if k = 0 then -1 else ((firstOf (p[k - 1]?.getD 0)).1 : Int)
theorem lastOf_zero (p : List BS) : lastOf p 0 = -1 := rfl
theorem lastOf_succ {p : List BS} {k : Nat} {s : BS} (h : p[k]? = some s) : lastOf p (k + 1) = ((firstOf s).1 : Int) := by
  unfold lastOf; rw [if_neg (by omega), Nat.add_sub_cancel, h]; rfl
theorem lastOf_lt (l : List BS) {k : Nat} {s : BS} (h : (partsOf l)[k]? = some s) : lastOf (partsOf l) k < ((firstOf s).1 : Int) := by
  unfold lastOf
  split
  · omega
  · rename_i h0
    have hk := (List.getElem?_eq_some_iff.1 h).1
    have h1 : (partsOf l)[k - 1]? = some (partsOf l)[k - 1] := List.getElem?_eq_getElem (by omega)
    rw [h1]
    have := partsOf_first l h1 h (by omega)
    show ((firstOf _).1 : Int) < _
    simp only [Option.getD_some]
    omega
theorem lastOf_lo (p : List BS) (k : Nat) : -1 ≤ lastOf p k := by unfold lastOf; split <;> omega
theorem lastOf_hi (l : List BS) (k : Nat) (hk : k ≤ (partsOf l).length) : lastOf (partsOf l) k ≤ 255 := by
  unfold lastOf
  split
  · omega
  · have h1 : (partsOf l)[k - 1]? = some (partsOf l)[k - 1] := List.getElem?_eq_getElem (by omega)
    rw [h1]
    have := (first_of_ne (partsOf_ne l (List.mem_of_getElem? h1))).2.1
    simp only [Option.getD_some]
    omega

/-- Of any two classes one of the sets has one, and not the other. -/
theorem parted (l : List BS) {i j : Nat} {s t : BS} (hi : (partsOf l)[i]? = some s) (hj : (partsOf l)[j]? = some t) (hij : i ≠ j) : (l.any fun x => ((s &&& ~~~x == 0) != (t &&& ~~~x == 0))) = true := by
  rw [List.any_eq_true]
  obtain ⟨_, a1, a2, _⟩ := first_of_ne (partsOf_ne l (List.mem_of_getElem? hi))
  obtain ⟨_, b1, b2, _⟩ := first_of_ne (partsOf_ne l (List.mem_of_getElem? hj))
  have hno : ¬ Alike l (firstOf s).1 (firstOf t).1 := fun hal => by
    have := (partsOf_alike l (List.mem_of_getElem? hi) a1 b1 a2).2 hal
    exact hij (apart_index (partsOf_apart l) hi hj this b2)
  unfold Alike at hno
  simp only [Classical.not_forall] at hno
  obtain ⟨x, hx, hne⟩ := hno
  refine ⟨x, hx, ?_⟩
  have key : ∀ {q : BS}, q ∈ partsOf l → q.getLsbD (firstOf q).1 = true → (firstOf q).1 < 256 → (q &&& ~~~x == 0) = x.getLsbD (firstOf q).1 := fun {q} hq h1 h3 => by
    rcases fit_whole l hx hq with h | h
    · rw [h]
      have : x.getLsbD (firstOf q).1 = true := by
        cases hb : x.getLsbD (firstOf q).1 with
        | true => rfl
        | false =>
          have h2 : (q &&& ~~~x).getLsbD (firstOf q).1 = true := by rw [BitVec.getLsbD_and, h1, not_bit _ h3, hb]; rfl
          rw [h, bs_zero_bit] at h2; cases h2
      rw [this]; simp
    · have h4 : x.getLsbD (firstOf q).1 = false := by
        cases hb : x.getLsbD (firstOf q).1 with
        | false => rfl
        | true =>
          have h2 : (q &&& x).getLsbD (firstOf q).1 = true := by rw [BitVec.getLsbD_and, h1, hb]; rfl
          rw [h, bs_zero_bit] at h2; cases h2
      rw [h4, beq_eq_false_iff_ne]
      intro h5
      have h2 : (q &&& ~~~x).getLsbD (firstOf q).1 = true := by rw [BitVec.getLsbD_and, h1, not_bit _ h3, h4]; rfl
      rw [h5, bs_zero_bit] at h2; cases h2
  rw [key (List.mem_of_getElem? hi) a2 a1, key (List.mem_of_getElem? hj) b2 b1]
  cases h1 : x.getLsbD (firstOf s).1 <;> cases h2 : x.getLsbD (firstOf t).1 <;> simp_all

theorem partsOf_isEmpty (l : List BS) : (partsOf l).isEmpty = false := by
  have := partsOf_pos l
  cases h : partsOf l with
  | nil => rw [h] at this; simp at this
  | cons => rfl
theorem classesOf_fits (l : List BS) {s : BS} (hs : s ∈ l) : classesOf (partsOf l) s = (indsOf s (partsOf l), 0) := by
  have h := fits_of l hs
  unfold classesOf at h ⊢
  rw [partsOf_isEmpty] at h ⊢
  simp only [Bool.false_eq_true, if_false] at h ⊢
  split
  · rename_i hb; rw [if_pos hb] at h; cases h
  · rfl
theorem mem_indsOf {s : BS} {p : List BS} {k : Nat} : k ∈ indsOf s p ↔ ∃ q, p[k]? = some q ∧ q &&& ~~~s = 0 := by
  unfold indsOf
  simp only [List.mem_map, List.mem_filter, Prod.exists, List.mem_zipIdx_iff_getElem?, beq_iff_eq]
  constructor
  · rintro ⟨q, k', ⟨h1, h2⟩, rfl⟩; exact ⟨q, h1, h2⟩
  · rintro ⟨q, h1, h2⟩; exact ⟨q, k, ⟨h1, h2⟩, rfl⟩
theorem indsOf_sorted (s : BS) (p : List BS) : (indsOf s p).Pairwise (· < ·) := by
  unfold indsOf
  rw [List.pairwise_map]
  refine List.Pairwise.filter _ ?_
  rw [List.pairwise_iff_getElem]
  intro i j hi hj hij
  simp only [List.getElem_zipIdx]
  omega
theorem indsOf_sortedZ (s : BS) (p : List BS) : ((indsOf s p).map Int.ofNat).Pairwise (· < ·) := by
  rw [List.pairwise_map]
  exact (indsOf_sorted s p).imp fun h => by simpa using h
theorem orOf_bit (p : List BS) (l : List Int) (c : Nat) : (orOf p l).getLsbD c = true ↔ ∃ k ∈ l, ((setOf p k).getD 0).getLsbD c = true := by
  suffices ∀ r : List Int, (orOf p r.reverse).getLsbD c = true ↔ ∃ k ∈ r.reverse, ((setOf p k).getD 0).getLsbD c = true by have := this l.reverse; rwa [List.reverse_reverse] at this
  intro r
  induction r with
  | nil =>
    unfold orOf
    rw [List.reverse_nil, List.foldl_nil, bs_zero_bit]
    constructor
    · intro h; cases h
    · rintro ⟨q, hq, _⟩; simp at hq
  | cons s r ih =>
    have e : orOf p (r.reverse ++ [s]) = orOf p r.reverse ||| (setOf p s).getD 0 := by unfold orOf; rw [List.foldl_append]; rfl
    rw [List.reverse_cons, e, BitVec.getLsbD_or, Bool.or_eq_true, ih]
    simp only [List.mem_append, List.mem_singleton]
    constructor
    · rintro (⟨q, hq, h⟩ | h)
      · exact ⟨q, .inl hq, h⟩
      · exact ⟨s, .inr rfl, h⟩
    · rintro ⟨q, hq | rfl, h⟩
      · exact .inl ⟨q, hq, h⟩
      · exact .inr h
/-- A set that fits is put together out of its classes. -/
theorem together_back (l : List BS) {s : BS} (hfit : ∀ q ∈ partsOf l, q &&& ~~~s = 0 ∨ q &&& s = 0) : togetherOf (partsOf l) ((indsOf s (partsOf l)).map Int.ofNat) = (s, 0) := by
  have hall : (((indsOf s (partsOf l)).map Int.ofNat).all fun k => (setOf (partsOf l) k).isSome) = true := by
    rw [List.all_eq_true]
    intro k hk
    obtain ⟨n, hn, rfl⟩ := List.mem_map.1 hk
    obtain ⟨q, h1, _⟩ := mem_indsOf.1 hn
    show (setOf _ ((n : Nat) : Int)).isSome = true
    rw [setOf_nat, h1]; rfl
  unfold togetherOf
  rw [partsOf_isEmpty, hall]
  simp only [Bool.false_eq_true, if_false, if_true, Prod.mk.injEq, and_true]
  refine BS.ext fun c hc => ?_
  rw [Bool.eq_iff_iff, orOf_bit]
  constructor
  · rintro ⟨k, hk, hb⟩
    obtain ⟨n, hn, rfl⟩ := List.mem_map.1 hk
    obtain ⟨q, h1, h2⟩ := mem_indsOf.1 hn
    have hb' : q.getLsbD c = true := by
      have : setOf (partsOf l) (Int.ofNat n) = some q := (setOf_nat _ n).trans h1
      rw [this] at hb; exact hb
    cases hs : s.getLsbD c with
    | true => rfl
    | false =>
      have : (q &&& ~~~s).getLsbD c = true := by rw [BitVec.getLsbD_and, hb', not_bit _ hc, hs]; rfl
      rw [h2, bs_zero_bit] at this; cases this
  · intro hs
    obtain ⟨k, q, h1, h2⟩ := partsOf_cover l c hc
    have hw : q &&& ~~~s = 0 := by
      rcases hfit q (List.mem_of_getElem? h1) with h | h
      · exact h
      · have : (q &&& s).getLsbD c = true := by rw [BitVec.getLsbD_and, h2, hs]; rfl
        rw [h, bs_zero_bit] at this; cases this
    refine ⟨Int.ofNat k, List.mem_map.2 ⟨k, mem_indsOf.2 ⟨q, h1, hw⟩, rfl⟩, ?_⟩
    have : setOf (partsOf l) (Int.ofNat k) = some q := (setOf_nat _ k).trans h1
    rw [this]; exact h2
theorem together_set (l : List BS) {s : BS} (hs : s ∈ l) : togetherOf (partsOf l) ((indsOf s (partsOf l)).map Int.ofNat) = (s, 0) := together_back l fun _ hq => fit_whole l hs hq
end Go.Proofs.Ytokkgbcjjaiaeaa

namespace Go.Proofs.Ytokkgbcjjaiaeaa
open Go Go.RowKit Go.Shelf Go.Maps

theorem cls_class (l : List BS) {c : Nat} (hc : c < 256) : ∃ q : BS, (partsOf l)[cls (partsOf l) c]? = some q ∧ q.getLsbD c = true := (cls_iff l hc).1 rfl
/-- The least byte of a byte's class. -/
def leastB (p : List BS) (c : Nat) : Nat := (firstOf (p[cls p c]?.getD 0)).1
theorem leastB_spec (l : List BS) {c : Nat} (hc : c < 256) : leastB (partsOf l) c < 256 ∧ leastB (partsOf l) c ≤ c ∧ cls (partsOf l) (leastB (partsOf l) c) = cls (partsOf l) c ∧ leastOf (partsOf l) (cls (partsOf l) c) = (leastB (partsOf l) c, true) := by
  obtain ⟨q, h1, h2⟩ := cls_class l hc
  obtain ⟨f1, f2, f3, f4⟩ := first_of_ne (partsOf_ne l (List.mem_of_getElem? h1))
  have e : leastB (partsOf l) c = (firstOf q).1 := by unfold leastB; rw [h1]; rfl
  rw [e]
  refine ⟨f2, ?_, (cls_iff l f2).2 ⟨q, h1, f3⟩, ?_⟩
  · by_cases h : (firstOf q).1 ≤ c
    · exact h
    · rw [f4 c (by omega)] at h2; cases h2
  · unfold leastOf
    rw [setOf_nat, h1]
    exact Prod.ext rfl f1
theorem wordOf_parts (l : List BS) (b : List Nat) : wordOf (partsOf l) b = b.map (cls (partsOf l)) := by unfold wordOf; rw [partsOf_isEmpty]; rfl
theorem bytesOf_word (l : List BS) (b : List Nat) (hb : ∀ c ∈ b, c < 256) : bytesOfL (partsOf l) ((b.map (cls (partsOf l))).map Int.ofNat) = (b.map (leastB (partsOf l)), 0) := by
  have h1 : ∀ c ∈ b, leastOf (partsOf l) (Int.ofNat (cls (partsOf l) c)) = (leastB (partsOf l) c, true) := fun c hc => (leastB_spec l (hb c hc)).2.2.2
  unfold bytesOfL
  rw [partsOf_isEmpty]
  have hall : (((b.map (cls (partsOf l))).map Int.ofNat).all fun k => (leastOf (partsOf l) k).2) = true := by
    rw [List.all_eq_true]
    intro k hk
    simp only [List.map_map, List.mem_map, Function.comp] at hk
    obtain ⟨c, hc, rfl⟩ := hk
    rw [h1 c hc]
  rw [hall]
  simp only [Bool.false_eq_true, if_false, if_true, Prod.mk.injEq, and_true, List.map_map]
  exact List.map_congr_left fun c hc => by show (leastOf (partsOf l) (Int.ofNat (cls (partsOf l) c))).1 = _; rw [h1 c hc]
theorem word_least (l : List BS) (b : List Nat) (hb : ∀ c ∈ b, c < 256) : wordOf (partsOf l) (b.map (leastB (partsOf l))) = b.map (cls (partsOf l)) := by
  rw [wordOf_parts, List.map_map]
  exact List.map_congr_left fun c hc => (leastB_spec l (hb c hc)).2.2.1
theorem least_lt (l : List BS) (b : List Nat) (hb : ∀ c ∈ b, c < 256) : ∀ c ∈ b.map (leastB (partsOf l)), c < 256 := by
  intro c hc
  obtain ⟨d, hd, rfl⟩ := List.mem_map.1 hc
  exact (leastB_spec l (hb d hd)).1
/-- Bytes that no set tells apart have one class. -/
theorem alike_cls (l : List BS) {x y : Nat} (hx : x < 256) (hy : y < 256) : (l.any fun s => s.getLsbD x != s.getLsbD y) = !decide (cls (partsOf l) x = cls (partsOf l) y) := by
  obtain ⟨q, h1, h2⟩ := cls_class l hx
  have h3 := partsOf_alike l (List.mem_of_getElem? h1) hx hy h2
  have h4 : cls (partsOf l) x = cls (partsOf l) y ↔ Alike l x y := by
    rw [← h3]
    constructor
    · intro e
      obtain ⟨q', h5, h6⟩ := cls_class l hy
      rw [← e, h1] at h5
      cases h5; exact h6
    · intro h; exact ((cls_iff l hy).2 ⟨q, h1, h⟩).symm
  by_cases ha : Alike l x y
  · rw [decide_eq_true (h4.2 ha)]
    rw [List.any_eq_false.2]
    · rfl
    · intro s hs; rw [ha s hs]; simp
  · rw [decide_eq_false (fun e => ha (h4.1 e))]
    unfold Alike at ha
    simp only [Classical.not_forall] at ha
    obtain ⟨s, hs, hne⟩ := ha
    rw [List.any_eq_true.2]
    · rfl
    · exact ⟨s, hs, by simpa using hne⟩
end Go.Proofs.Ytokkgbcjjaiaeaa

namespace Go.Proofs.Ytokkgbcjjaiaeaa
open Go Go.RowKit Go.Shelf Go.Maps

/-- p are the classes of R, in the order of their least bytes. -/
structure IsPart (p : List BS) (R : Nat → Nat → Prop) : Prop where
  some : p.isEmpty = false
  apart : p.Pairwise Apart
  ne : ∀ q ∈ p, q ≠ 0
  cover : ∀ c, c < 256 → ∃ (k : Nat) (q : BS), p[k]? = Option.some q ∧ q.getLsbD c = true
  alike : ∀ q ∈ p, ∀ c d, c < 256 → d < 256 → q.getLsbD c = true → (q.getLsbD d = true ↔ R c d)
  first : ∀ (i j : Nat) (x y : BS), p[i]? = Option.some x → p[j]? = Option.some y → i < j → (firstOf x).1 < (firstOf y).1

theorem IsPart.of_parts (l : List BS) : IsPart (partsOf l) (Alike l) :=
  ⟨partsOf_isEmpty l, partsOf_apart l, fun _ h => partsOf_ne l h, partsOf_cover l, fun _ hq _ _ hc hd h => partsOf_alike l hq hc hd h, fun _ _ _ _ h1 h2 h3 => partsOf_first l h1 h2 h3⟩
theorem IsPart.congr {p : List BS} {R S : Nat → Nat → Prop} (h : IsPart p R) (hrs : ∀ c d, c < 256 → d < 256 → (R c d ↔ S c d)) : IsPart p S :=
  ⟨h.some, h.apart, h.ne, h.cover, fun q hq c d hc hd hb => (h.alike q hq c d hc hd hb).trans (hrs c d hc hd), h.first⟩
theorem IsPart.cls_iff {p : List BS} {R : Nat → Nat → Prop} (h : IsPart p R) {c k : Nat} (hc : c < 256) : cls p c = k ↔ ∃ q : BS, p[k]? = Option.some q ∧ q.getLsbD c = true := by
  have h1 : ∃ q, p[cls p c]? = Option.some q ∧ q.getLsbD c = true := by
    rcases tabOf_get p c hc with ⟨k, s, h1, h2, h3⟩ | ⟨h1, _⟩
    · rw [cls_get _ hc] at h3; cases h3; exact ⟨s, h1, h2⟩
    · obtain ⟨k, q, h2, h3⟩ := h.cover c hc
      rw [h1 q (List.mem_of_getElem? h2)] at h3; cases h3
  constructor
  · rintro rfl; exact h1
  · rintro ⟨q, h2, h3⟩
    obtain ⟨q', h4, h5⟩ := h1
    exact apart_index h.apart h4 h2 h5 h3
theorem IsPart.same_cls {p : List BS} {R : Nat → Nat → Prop} (h : IsPart p R) {c d : Nat} (hc : c < 256) (hd : d < 256) : cls p c = cls p d ↔ R c d := by
  obtain ⟨q, h1, h2⟩ := (h.cls_iff hc).1 rfl
  rw [← h.alike q (List.mem_of_getElem? h1) c d hc hd h2]
  constructor
  · intro e
    obtain ⟨q', h3, h4⟩ := (h.cls_iff hd).1 rfl
    rw [← e, h1] at h3; cases h3; exact h4
  · intro h3; exact ((h.cls_iff hd).2 ⟨q, h1, h3⟩).symm
theorem IsPart.symm {p : List BS} {R : Nat → Nat → Prop} (h : IsPart p R) {c d : Nat} (hc : c < 256) (hd : d < 256) (hr : R c d) : R d c := (h.same_cls hd hc).1 ((h.same_cls hc hd).2 hr).symm

theorem not_zero_bit {s : BS} (h : s ≠ 0) : ∃ c, c < 256 ∧ s.getLsbD c = true := by
  obtain ⟨_, h1, h2, _⟩ := first_of_ne h
  exact ⟨_, h1, h2⟩
theorem IsPart.finer {p q : List BS} {R S : Nat → Nat → Prop} (hp : IsPart p R) (hq : IsPart q S) : finerOf p q = true ↔ ∀ c d, c < 256 → d < 256 → R c d → S c d := by
  unfold finerOf
  rw [hp.some, hq.some]
  simp only [Bool.not_false, Bool.true_and, List.all_eq_true, beq_iff_eq]
  have hcl : ∀ s : BS, (classesOf p s).2 = 0 ↔ ∀ x ∈ p, badTo s x = false := fun s => by
    unfold classesOf
    rw [hp.some]
    simp only [Bool.false_eq_true, if_false]
    cases hb : p.any (badTo s) with
    | true =>
      rw [if_pos rfl]
      obtain ⟨x, hx, hbx⟩ := List.any_eq_true.1 hb
      constructor
      · intro h; cases h
      · intro h; rw [h x hx] at hbx; cases hbx
    | false =>
      rw [if_neg (by decide)]
      constructor
      · intro _ x hx
        cases hbx : badTo s x with
        | false => rfl
        | true => rw [List.any_eq_true.2 ⟨x, hx, hbx⟩] at hb; cases hb
      · intro _; rfl
  simp only [hcl]
  constructor
  · intro h c d hc hd hr
    obtain ⟨k, x, hx, hxc⟩ := hp.cover c hc
    obtain ⟨j, s, hs, hsc⟩ := hq.cover c hc
    have hxm := List.mem_of_getElem? hx
    have hxd := (hp.alike x hxm c d hc hd hxc).2 hr
    refine (hq.alike s (List.mem_of_getElem? hs) c d hc hd hsc).1 ?_
    have hb := h s (List.mem_of_getElem? hs) x hxm
    unfold badTo at hb
    have h2 : (x &&& s == 0) = false := by
      rw [beq_eq_false_iff_ne]; intro e
      have : (x &&& s).getLsbD c = true := by rw [bit_and]; exact ⟨hxc, hsc⟩
      rw [e, bs_zero_bit] at this; cases this
    rw [h2] at hb
    have h3 : x &&& ~~~s = 0 := by simpa using hb
    cases hsd : s.getLsbD d with
    | true => rfl
    | false =>
      have : (x &&& ~~~s).getLsbD d = true := by rw [bit_and]; exact ⟨hxd, by rw [not_bit _ hd, hsd]; rfl⟩
      rw [h3, bs_zero_bit] at this; cases this
  · intro h s hs x hx
    cases hb : badTo s x with
    | false => rfl
    | true =>
      exfalso
      unfold badTo at hb
      rw [Bool.and_eq_true, Bool.not_eq_true', Bool.not_eq_true', beq_eq_false_iff_ne, beq_eq_false_iff_ne] at hb
      obtain ⟨d, hd, hxd⟩ := not_zero_bit hb.1
      obtain ⟨c, hc, hxc⟩ := not_zero_bit hb.2
      rw [bit_and] at hxd hxc
      have hr := (hp.alike x hx c d hc hd hxc.1).1 hxd.1
      have h2 := (hq.alike s hs c d hc hd hxc.2).2 (h c d hc hd hr)
      have h3 := hxd.2
      rw [not_bit _ hd, h2] at h3; cases h3

theorem IsPart.mem_of {p q : List BS} {R S : Nat → Nat → Prop} (hp : IsPart p R) (hq : IsPart q S) (h : ∀ c d, c < 256 → d < 256 → (R c d ↔ S c d)) {x : BS} (hx : x ∈ p) : x ∈ q := by
  obtain ⟨c, hc, hxc⟩ := not_zero_bit (hp.ne x hx)
  obtain ⟨k, s, hs, hsc⟩ := hq.cover c hc
  have : x = s := BS.ext fun d hd => by
    rw [Bool.eq_iff_iff, hp.alike x hx c d hc hd hxc, hq.alike s (List.mem_of_getElem? hs) c d hc hd hsc, h c d hc hd]
  rw [this]; exact List.mem_of_getElem? hs
theorem IsPart.sorted {p : List BS} {R : Nat → Nat → Prop} (hp : IsPart p R) : p.Pairwise fun x y => (firstOf x).1 < (firstOf y).1 := by
  rw [List.pairwise_iff_getElem]
  intro i j hi hj hij
  exact hp.first i j _ _ (List.getElem?_eq_getElem hi) (List.getElem?_eq_getElem hj) hij
/-- Two lists in strict order with the same elements are one. -/
theorem strict_eq {f : BS → Nat} : ∀ (p q : List BS), p.Pairwise (fun x y => f x < f y) → q.Pairwise (fun x y => f x < f y) → (∀ x, x ∈ p ↔ x ∈ q) → p = q
  | [], q, _, _, h => by
    cases q with
    | nil => rfl
    | cons y q => have := (h y).2 (by simp); simp at this
  | x :: p, q, hp, hq, h => by
    cases q with
    | nil => have := (h x).1 (by simp); simp at this
    | cons y q =>
      rw [List.pairwise_cons] at hp hq
      have hxy : x = y := by
        have h1 := (h x).1 (by simp)
        have h2 := (h y).2 (by simp)
        rcases List.mem_cons.1 h1 with e | h1
        · exact e
        · rcases List.mem_cons.1 h2 with e | h2
          · exact e.symm
          · have a := hq.1 x h1; have b := hp.1 y h2; omega
      subst hxy
      congr 1
      refine strict_eq p q hp.2 hq.2 fun z => ?_
      have hz := h z
      simp only [List.mem_cons] at hz
      constructor
      · intro hzp
        rcases hz.1 (.inr hzp) with e | h1
        · subst e; have := hp.1 z hzp; omega
        · exact h1
      · intro hzq
        rcases hz.2 (.inr hzq) with e | h1
        · subst e; have := hq.1 z hzq; omega
        · exact h1
theorem IsPart.uniq {p q : List BS} {R S : Nat → Nat → Prop} (hp : IsPart p R) (hq : IsPart q S) (h : ∀ c d, c < 256 → d < 256 → (R c d ↔ S c d)) : p = q :=
  strict_eq p q hp.sorted hq.sorted fun _ => ⟨fun hx => hp.mem_of hq h hx, fun hx => hq.mem_of hp (fun c d hc hd => (h c d hc hd).symm) hx⟩
theorem IsPart.same {p q : List BS} {R S : Nat → Nat → Prop} (hp : IsPart p R) (hq : IsPart q S) : sameOf p q = true ↔ ∀ c d, c < 256 → d < 256 → (R c d ↔ S c d) := by
  constructor
  · intro h c d hc hd
    unfold sameOf tabEq at h
    rw [hp.some, hq.some] at h
    simp only [Bool.not_false, Bool.true_and, List.all_eq_true, List.mem_range, beq_iff_eq] at h
    rw [← hp.same_cls hc hd, ← hq.same_cls hc hd]
    have h1 := h c hc
    have h2 := h d hd
    omega
  · intro h
    rw [hp.uniq hq h]
    unfold sameOf tabEq
    rw [hq.some]
    simp
theorem IsPart.alike_iff {p : List BS} {R : Nat → Nat → Prop} (hp : IsPart p R) {c d : Nat} (hc : c < 256) (hd : d < 256) : Alike p c d ↔ R c d := by
  constructor
  · intro h
    obtain ⟨k, s, hs, hsc⟩ := hp.cover c hc
    have := h s (List.mem_of_getElem? hs)
    exact (hp.alike s (List.mem_of_getElem? hs) c d hc hd hsc).1 (by rw [← this]; exact hsc)
  · intro hr s hs
    rw [Bool.eq_iff_iff]
    exact ⟨fun h => (hp.alike s hs c d hc hd h).2 hr, fun h => (hp.alike s hs d c hd hc h).2 (hp.symm hc hd hr)⟩
theorem alike_append {l m : List BS} {c d : Nat} : Alike (l ++ m) c d ↔ Alike l c d ∧ Alike m c d := by
  unfold Alike
  constructor
  · intro h; exact ⟨fun s hs => h s (List.mem_append.2 (.inl hs)), fun s hs => h s (List.mem_append.2 (.inr hs))⟩
  · rintro ⟨h1, h2⟩ s hs
    rcases List.mem_append.1 hs with h | h
    · exact h1 s h
    · exact h2 s h
theorem IsPart.join {p q : List BS} {R S : Nat → Nat → Prop} (hp : IsPart p R) (hq : IsPart q S) : IsPart (partsOf (p ++ q)) (fun c d => R c d ∧ S c d) :=
  (IsPart.of_parts _).congr fun c d hc hd => by rw [alike_append, hp.alike_iff hc hd, hq.alike_iff hc hd]

theorem oneB_bit {c d : Nat} (hd : d < 256) : (oneB c).getLsbD d = true ↔ d = c := by
  unfold oneB
  rw [bsOf_bit _ hd]
  simp
theorem allTo_get {k : Nat} (hk : k < 256) : (allTo 256)[k]? = some (oneB k) := by
  unfold allTo
  rw [List.getElem?_map, List.getElem?_range hk]; rfl
theorem oneB_ne {k : Nat} (hk : k < 256) : oneB k ≠ 0 := fun e => by
  have := (oneB_bit (c := k) hk).2 rfl
  rw [e, bs_zero_bit] at this; cases this
theorem oneB_first {k : Nat} (hk : k < 256) : (firstOf (oneB k)).1 = k := by
  obtain ⟨_, h1, h2, _⟩ := first_of_ne (oneB_ne hk)
  exact (oneB_bit h1).1 h2
theorem allTo_part : IsPart (allTo 256) (fun c d => c = d) where
  some := by
    have := allTo_len 256
    cases h : allTo 256 with
    | nil => rw [h] at this; simp at this
    | cons => rfl
  apart := by
    rw [List.pairwise_iff_getElem]
    intro i j hi hj hij c ⟨h1, h2⟩
    have hi' : i < 256 := by have := allTo_len 256; omega
    have hj' : j < 256 := by have := allTo_len 256; omega
    have e1 := (List.getElem_eq_iff hi).2 (allTo_get hi')
    have e2 := (List.getElem_eq_iff hj).2 (allTo_get hj')
    have hc : c < 256 := BitVec.lt_of_getLsbD h1
    rw [e1] at h1
    rw [e2] at h2
    have a := (oneB_bit hc).1 h1
    have b := (oneB_bit hc).1 h2
    omega
  ne := fun q hq => by
    obtain ⟨k, hk⟩ := List.getElem?_of_mem hq
    have hlt : k < 256 := by have := (List.getElem?_eq_some_iff.1 hk).1; rwa [allTo_len] at this
    rw [allTo_get hlt] at hk; cases hk
    exact oneB_ne hlt
  cover := fun c hc => ⟨c, oneB c, allTo_get hc, (oneB_bit hc).2 rfl⟩
  alike := fun q hq c d hc hd h => by
    obtain ⟨k, hk⟩ := List.getElem?_of_mem hq
    have hlt : k < 256 := by have := (List.getElem?_eq_some_iff.1 hk).1; rwa [allTo_len] at this
    rw [allTo_get hlt] at hk; cases hk
    rw [oneB_bit hc] at h
    rw [oneB_bit hd]
    omega
  first := fun i j x y hi hj hij => by
    have hi' : i < 256 := by have := (List.getElem?_eq_some_iff.1 hi).1; rwa [allTo_len] at this
    have hj' : j < 256 := by have := (List.getElem?_eq_some_iff.1 hj).1; rwa [allTo_len] at this
    rw [allTo_get hi'] at hi; rw [allTo_get hj'] at hj
    cases hi; cases hj
    rw [oneB_first hi', oneB_first hj']; exact hij
theorem parts_nil_len : (partsOf []).length = 1 := by
  rw [(partsOf_perm []).length_eq]; rfl
end Go.Proofs.Ytokkgbcjjaiaeaa
