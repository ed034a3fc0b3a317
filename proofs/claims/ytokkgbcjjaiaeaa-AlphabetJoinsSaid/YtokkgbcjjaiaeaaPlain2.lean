/-
  Plain law: what AlphabetClasses asks of the classes.
-/
import Derived.Test.YtokkgbcjjaiaeaaPlain1
namespace Go.Proofs.Ytokkgbcjjaiaeaa
open Go Go.RowKit Go.Shelf Go.Maps

theorem partsStep_le (s : BS) (p : List BS) : (partsStep s p).length ≤ 2 * p.length := by
  unfold partsStep
  induction p with
  | nil => simp
  | cons q p ih =>
    rw [List.flatMap_cons, List.length_append, List.length_cons]
    have : (cut s q).length ≤ 2 := by unfold cut; exact Nat.le_trans (List.length_filter_le _ _) (by simp)
    omega
theorem partsRaw_le (l : List BS) : (partsRaw l).length ≤ 2 ^ l.length := by
  suffices ∀ r : List BS, (partsRaw r.reverse).length ≤ 2 ^ r.reverse.length by have := this l.reverse; rwa [List.reverse_reverse] at this
  intro r
  induction r with
  | nil => simp [partsRaw]
  | cons s r ih =>
    rw [List.reverse_cons, partsRaw_snoc, List.length_append, List.length_singleton, Nat.pow_succ]
    have := partsStep_le s (partsRaw r.reverse)
    omega
theorem partsOf_len_le (l : List BS) : (partsOf l).length ≤ 2 ^ l.length := by rw [(partsOf_perm l).length_eq]; exact partsRaw_le l
theorem partsOf_len64 (l : List BS) (h : l.length ≤ 6) : (partsOf l).length ≤ 64 :=
  Nat.le_trans (partsOf_len_le l) (Nat.le_trans (Nat.pow_le_pow_right (by decide) h) (by decide))

/-- All of some sets. -/
def orL (p : List BS) : BS := p.foldl (· ||| ·) 0
theorem orL_nil : orL [] = 0 := rfl
theorem orL_snoc (p : List BS) (s : BS) : orL (p ++ [s]) = orL p ||| s := by unfold orL; rw [List.foldl_append]; rfl
theorem orL_bit (p : List BS) (c : Nat) : (orL p).getLsbD c = true ↔ ∃ q ∈ p, q.getLsbD c = true := by
  suffices ∀ r : List BS, (orL r.reverse).getLsbD c = true ↔ ∃ q ∈ r.reverse, q.getLsbD c = true by have := this p.reverse; rwa [List.reverse_reverse] at this
  intro r
  induction r with
  | nil =>
    rw [List.reverse_nil, orL_nil, bs_zero_bit]
    constructor
    · intro h; cases h
    · rintro ⟨q, hq, _⟩; simp at hq
  | cons s r ih =>
    rw [List.reverse_cons, orL_snoc, BitVec.getLsbD_or, Bool.or_eq_true, ih]
    simp only [List.mem_append, List.mem_singleton]
    constructor
    · rintro (⟨q, hq, h⟩ | h)
      · exact ⟨q, .inl hq, h⟩
      · exact ⟨s, .inr rfl, h⟩
    · rintro ⟨q, hq | rfl, h⟩
      · exact .inl ⟨q, hq, h⟩
      · exact .inr h
theorem take_snoc {α : Type} {p : List α} {k : Nat} {s : α} (h : p[k]? = some s) : p.take (k + 1) = p.take k ++ [s] := by rw [List.take_add_one, h]; rfl
theorem orL_all (l : List BS) : orL (partsOf l) = ~~~0 := by
  refine BS.ext fun c hc => ?_
  rw [all_bit hc, orL_bit]
  obtain ⟨k, q, h1, h2⟩ := partsOf_cover l c hc
  exact ⟨q, List.mem_of_getElem? h1, h2⟩
theorem bs_eq_zero {s : BS} (h : ∀ c, c < 256 → s.getLsbD c = true → False) : s = 0 := by
  refine BS.ext fun c hc => ?_
  rw [bs_zero_bit]
  cases hb : s.getLsbD c with
  | false => rfl
  | true => exact (h c hc hb).elim
theorem orL_apart (l : List BS) {k : Nat} {s : BS} (h : (partsOf l)[k]? = some s) : (orL ((partsOf l).take k) &&& s == 0) = true := by
  rw [beq_iff_eq]
  refine bs_eq_zero fun c hc hb => ?_
  rw [bit_and, orL_bit] at hb
  obtain ⟨⟨q, hq, h1⟩, h2⟩ := hb
  obtain ⟨i, hi, rfl⟩ := List.mem_take_iff_getElem.1 hq
  have hi' : i < (partsOf l).length := by omega
  have := apart_index (partsOf_apart l) (List.getElem?_eq_getElem hi') h h1 h2
  omega

/-- The least byte of the class ahead of number k; -1 ahead of all. -/
def lastOf (p : List BS) (k : Nat) : Int := if k = 0 then -1 else ((firstOf (p[k - 1]?.getD 0)).1 : Int)
theorem lastOf_zero (p : List BS) : lastOf p 0 = -1 := rfl
theorem lastOf_succ {p : List BS} {k : Nat} {s : BS} (h : p[k]? = some s) : lastOf p (k + 1) = ((firstOf s).1 : Int) := by
  unfold lastOf; rw [if_neg (by omega), Nat.add_sub_cancel, h]; rfl
theorem lastOf_lt (l : List BS) {k : Nat} {s : BS} (h : (partsOf l)[k]? = some s) : lastOf (partsOf l) k < ((firstOf s).1 : Int) := by
  unfold lastOf
  split
  · omega
  · rename_i h0
    have hk := (List.getElem?_eq_some_iff.1 h).1
    have h1 : (partsOf l)[k - 1]? = some (partsOf l)[k - 1] := List.getElem?_eq_getElem (by omega)
    rw [h1]
    have := partsOf_first l h1 h (by omega)
    show ((firstOf _).1 : Int) < _
    simp only [Option.getD_some]
    omega
theorem lastOf_lo (p : List BS) (k : Nat) : -1 ≤ lastOf p k := by unfold lastOf; split <;> omega
theorem lastOf_hi (l : List BS) (k : Nat) (hk : k ≤ (partsOf l).length) : lastOf (partsOf l) k ≤ 255 := by
  unfold lastOf
  split
  · omega
  · have h1 : (partsOf l)[k - 1]? = some (partsOf l)[k - 1] := List.getElem?_eq_getElem (by omega)
    rw [h1]
    have := (first_of_ne (partsOf_ne l (List.mem_of_getElem? h1))).2.1
    simp only [Option.getD_some]
    omega

/-- Of any two classes one of the sets has one, and not the other. -/
theorem parted (l : List BS) {i j : Nat} {s t : BS} (hi : (partsOf l)[i]? = some s) (hj : (partsOf l)[j]? = some t) (hij : i ≠ j) : (l.any fun x => ((s &&& ~~~x == 0) != (t &&& ~~~x == 0))) = true := by
  rw [List.any_eq_true]
  obtain ⟨_, a1, a2, _⟩ := first_of_ne (partsOf_ne l (List.mem_of_getElem? hi))
  obtain ⟨_, b1, b2, _⟩ := first_of_ne (partsOf_ne l (List.mem_of_getElem? hj))
  have hno : ¬ Alike l (firstOf s).1 (firstOf t).1 := fun hal => by
    have := (partsOf_alike l (List.mem_of_getElem? hi) a1 b1 a2).2 hal
    exact hij (apart_index (partsOf_apart l) hi hj this b2)
  unfold Alike at hno
  simp only [Classical.not_forall] at hno
  obtain ⟨x, hx, hne⟩ := hno
  refine ⟨x, hx, ?_⟩
  have key : ∀ {q : BS}, q ∈ partsOf l → q.getLsbD (firstOf q).1 = true → (firstOf q).1 < 256 → (q &&& ~~~x == 0) = x.getLsbD (firstOf q).1 := fun {q} hq h1 h3 => by
    rcases fit_whole l hx hq with h | h
    · rw [h]
      have : x.getLsbD (firstOf q).1 = true := by
        cases hb : x.getLsbD (firstOf q).1 with
        | true => rfl
        | false =>
          have h2 : (q &&& ~~~x).getLsbD (firstOf q).1 = true := by rw [BitVec.getLsbD_and, h1, not_bit _ h3, hb]; rfl
          rw [h, bs_zero_bit] at h2; cases h2
      rw [this]; simp
    · have h4 : x.getLsbD (firstOf q).1 = false := by
        cases hb : x.getLsbD (firstOf q).1 with
        | false => rfl
        | true =>
          have h2 : (q &&& x).getLsbD (firstOf q).1 = true := by rw [BitVec.getLsbD_and, h1, hb]; rfl
          rw [h, bs_zero_bit] at h2; cases h2
      rw [h4, beq_eq_false_iff_ne]
      intro h5
      have h2 : (q &&& ~~~x).getLsbD (firstOf q).1 = true := by rw [BitVec.getLsbD_and, h1, not_bit _ h3, h4]; rfl
      rw [h5, bs_zero_bit] at h2; cases h2
  rw [key (List.mem_of_getElem? hi) a2 a1, key (List.mem_of_getElem? hj) b2 b1]
  cases h1 : x.getLsbD (firstOf s).1 <;> cases h2 : x.getLsbD (firstOf t).1 <;> simp_all

theorem partsOf_isEmpty (l : List BS) : (partsOf l).isEmpty = false := by
  have := partsOf_pos l
  cases h : partsOf l with
  | nil => rw [h] at this; simp at this
  | cons => rfl
theorem classesOf_fits (l : List BS) {s : BS} (hs : s ∈ l) : classesOf (partsOf l) s = (indsOf s (partsOf l), 0) := by
  have h := fits_of l hs
  unfold classesOf at h ⊢
  rw [partsOf_isEmpty] at h ⊢
  simp only [Bool.false_eq_true, if_false] at h ⊢
  split
  · rename_i hb; rw [if_pos hb] at h; cases h
  · rfl
theorem mem_indsOf {s : BS} {p : List BS} {k : Nat} : k ∈ indsOf s p ↔ ∃ q, p[k]? = some q ∧ q &&& ~~~s = 0 := by
  unfold indsOf
  simp only [List.mem_map, List.mem_filter, Prod.exists, List.mem_zipIdx_iff_getElem?, beq_iff_eq]
  constructor
  · rintro ⟨q, k', ⟨h1, h2⟩, rfl⟩; exact ⟨q, h1, h2⟩
  · rintro ⟨q, h1, h2⟩; exact ⟨q, k, ⟨h1, h2⟩, rfl⟩
theorem indsOf_sorted (s : BS) (p : List BS) : (indsOf s p).Pairwise (· < ·) := by
  unfold indsOf
  rw [List.pairwise_map]
  refine List.Pairwise.filter _ ?_
  rw [List.pairwise_iff_getElem]
  intro i j hi hj hij
  simp only [List.getElem_zipIdx]
  omega
theorem indsOf_sortedZ (s : BS) (p : List BS) : ((indsOf s p).map Int.ofNat).Pairwise (· < ·) := by
  rw [List.pairwise_map]
  exact (indsOf_sorted s p).imp fun h => by simpa using h
theorem orOf_bit (p : List BS) (l : List Int) (c : Nat) : (orOf p l).getLsbD c = true ↔ ∃ k ∈ l, ((setOf p k).getD 0).getLsbD c = true := by
  suffices ∀ r : List Int, (orOf p r.reverse).getLsbD c = true ↔ ∃ k ∈ r.reverse, ((setOf p k).getD 0).getLsbD c = true by have := this l.reverse; rwa [List.reverse_reverse] at this
  intro r
  induction r with
  | nil =>
    unfold orOf
    rw [List.reverse_nil, List.foldl_nil, bs_zero_bit]
    constructor
    · intro h; cases h
    · rintro ⟨q, hq, _⟩; simp at hq
  | cons s r ih =>
    have e : orOf p (r.reverse ++ [s]) = orOf p r.reverse ||| (setOf p s).getD 0 := by unfold orOf; rw [List.foldl_append]; rfl
    rw [List.reverse_cons, e, BitVec.getLsbD_or, Bool.or_eq_true, ih]
    simp only [List.mem_append, List.mem_singleton]
    constructor
    · rintro (⟨q, hq, h⟩ | h)
      · exact ⟨q, .inl hq, h⟩
      · exact ⟨s, .inr rfl, h⟩
    · rintro ⟨q, hq | rfl, h⟩
      · exact .inl ⟨q, hq, h⟩
      · exact .inr h
/-- A set that fits is put together out of its classes. -/
theorem together_back (l : List BS) {s : BS} (hfit : ∀ q ∈ partsOf l, q &&& ~~~s = 0 ∨ q &&& s = 0) : togetherOf (partsOf l) ((indsOf s (partsOf l)).map Int.ofNat) = (s, 0) := by
  have hall : (((indsOf s (partsOf l)).map Int.ofNat).all fun k => (setOf (partsOf l) k).isSome) = true := by
    rw [List.all_eq_true]
    intro k hk
    obtain ⟨n, hn, rfl⟩ := List.mem_map.1 hk
    obtain ⟨q, h1, _⟩ := mem_indsOf.1 hn
    show (setOf _ ((n : Nat) : Int)).isSome = true
    rw [setOf_nat, h1]; rfl
  unfold togetherOf
  rw [partsOf_isEmpty, hall]
  simp only [Bool.false_eq_true, if_false, if_true, Prod.mk.injEq, and_true]
  refine BS.ext fun c hc => ?_
  rw [Bool.eq_iff_iff, orOf_bit]
  constructor
  · rintro ⟨k, hk, hb⟩
    obtain ⟨n, hn, rfl⟩ := List.mem_map.1 hk
    obtain ⟨q, h1, h2⟩ := mem_indsOf.1 hn
    have hb' : q.getLsbD c = true := by
      have : setOf (partsOf l) (Int.ofNat n) = some q := (setOf_nat _ n).trans h1
      rw [this] at hb; exact hb
    cases hs : s.getLsbD c with
    | true => rfl
    | false =>
      have : (q &&& ~~~s).getLsbD c = true := by rw [BitVec.getLsbD_and, hb', not_bit _ hc, hs]; rfl
      rw [h2, bs_zero_bit] at this; cases this
  · intro hs
    obtain ⟨k, q, h1, h2⟩ := partsOf_cover l c hc
    have hw : q &&& ~~~s = 0 := by
      rcases hfit q (List.mem_of_getElem? h1) with h | h
      · exact h
      · have : (q &&& s).getLsbD c = true := by rw [BitVec.getLsbD_and, h2, hs]; rfl
        rw [h, bs_zero_bit] at this; cases this
    refine ⟨Int.ofNat k, List.mem_map.2 ⟨k, mem_indsOf.2 ⟨q, h1, hw⟩, rfl⟩, ?_⟩
    have : setOf (partsOf l) (Int.ofNat k) = some q := (setOf_nat _ k).trans h1
    rw [this]; exact h2
theorem together_set (l : List BS) {s : BS} (hs : s ∈ l) : togetherOf (partsOf l) ((indsOf s (partsOf l)).map Int.ofNat) = (s, 0) := together_back l fun _ hq => fit_whole l hs hq
end Go.Proofs.Ytokkgbcjjaiaeaa
