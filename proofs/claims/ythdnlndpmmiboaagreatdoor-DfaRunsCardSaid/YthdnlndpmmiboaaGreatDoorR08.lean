/-
  Plain law: what the classes of sets are.
    Plain law: what AlphabetClasses asks of the classes.
    Plain law: what AlphabetWords asks of words and least bytes.
    Plain law: alphabets as relations of bytes: finer, same, join.
  The walk of AlphabetClasses.
  The walk of AlphabetWords.
  slices.Clone at sets, at ints, at bytes; append of a slice to an owned one, where the slice may be empty.
  Walks for the laws on alphabets: the reference's Finer; slices.Equal at sets; theirs.
    Walks for the laws on alphabets: theirs.
    Walks of the reference of layer 16: Classes.
  Facts in the worlds of a region walked in any order.
  Walks of the reference of layer 16: Together.
-/
import Derived.Test.YthdnlndpmmiboaaGreatDoorR06
import Derived.Test.YthdnlndpmmiboaaGreatDoorR05
import Derived.Lib.SliceRun
import Derived.Test.YthdnlndpmmiboaaGreatDoorR07
import Derived.Test.YthdnlndpmmiboaaGreatDoorR01
import Derived.Test.YthdnlndpmmiboaaGreatDoorR02
import Derived.Great.BuildSlice
namespace Go.Proofs.YthdnlndpmmiboaaGreatDoor
open Go Go.RowKit Go.Shelf Go.Maps

/-- Two bytes that no set tells apart. -/
def Alike (l : List BS) (c d : Nat) : Prop := ∀ s ∈ l, s.getLsbD c = s.getLsbD d
theorem mem_cut {s p x : BS} : x ∈ cut s p ↔ (x = p &&& s ∨ x = p &&& ~~~s) ∧ x ≠ 0 := by
  unfold cut
  simp only [List.mem_filter, List.mem_cons, List.not_mem_nil, or_false, Bool.not_eq_true', beq_eq_false_iff_ne]
theorem mem_partsStep {s x : BS} {l : List BS} : x ∈ partsStep s l ↔ ∃ p ∈ l, (x = p &&& s ∨ x = p &&& ~~~s) ∧ x ≠ 0 := by
  unfold partsStep
  simp only [List.mem_flatMap, mem_cut]
theorem bs_zero_bit (c : Nat) : (0 : BS).getLsbD c = false := BitVec.getLsbD_zero
theorem not_bit (s : BS) {c : Nat} (hc : c < 256) : (~~~s).getLsbD c = !s.getLsbD c := by
  rw [BitVec.getLsbD_not]; simp [hc]
theorem all_bit {c : Nat} (hc : c < 256) : (~~~(0 : BS)).getLsbD c = true := by rw [not_bit _ hc, bs_zero_bit]; rfl
/-- Every byte is in a class. -/
theorem partsRaw_cover (l : List BS) (c : Nat) (hc : c < 256) : ∃ q ∈ partsRaw l, q.getLsbD c = true := by
  suffices ∀ r : List BS, ∃ q ∈ partsRaw r.reverse, q.getLsbD c = true by have := this l.reverse; rwa [List.reverse_reverse] at this
  intro r
  induction r with
  | nil => exact ⟨~~~0, by simp [partsRaw], all_bit hc⟩
  | cons s r ih =>
    obtain ⟨q, hq, hqc⟩ := ih
    rw [List.reverse_cons, partsRaw_snoc]
    cases hs : s.getLsbD c with
    | true =>
      have h : (q &&& s).getLsbD c = true := by rw [BitVec.getLsbD_and, hqc, hs]; rfl
      exact ⟨q &&& s, mem_partsStep.2 ⟨q, hq, .inl rfl, fun e => by rw [e, bs_zero_bit] at h; cases h⟩, h⟩
    | false =>
      have h : (q &&& ~~~s).getLsbD c = true := by rw [BitVec.getLsbD_and, hqc, not_bit _ hc, hs]; rfl
      exact ⟨q &&& ~~~s, mem_partsStep.2 ⟨q, hq, .inr rfl, fun e => by rw [e, bs_zero_bit] at h; cases h⟩, h⟩
/-- A class has the bytes that are like one of its own. -/
theorem partsRaw_alike (l : List BS) {q : BS} (hq : q ∈ partsRaw l) {c d : Nat} (hc : c < 256) (hd : d < 256) (h : q.getLsbD c = true) : q.getLsbD d = true ↔ Alike l c d := by
  suffices ∀ (r : List BS) (q : BS), q ∈ partsRaw r.reverse → q.getLsbD c = true → (q.getLsbD d = true ↔ Alike r.reverse c d) by
    have := this l.reverse q (by rwa [List.reverse_reverse]) h; rwa [List.reverse_reverse] at this
  intro r
  induction r with
  | nil =>
    intro q hq _
    have : q = ~~~0 := by simpa [partsRaw] using hq
    rw [this, all_bit hd]
    simp [Alike]
  | cons s r ih =>
    intro q hq hqc
    rw [List.reverse_cons, partsRaw_snoc] at hq
    obtain ⟨p, hp, hpq, _⟩ := mem_partsStep.1 hq
    have hal : Alike (r.reverse ++ [s]) c d ↔ Alike r.reverse c d ∧ s.getLsbD c = s.getLsbD d := by
      unfold Alike
      constructor
      · intro h; exact ⟨fun x hx => h x (by simp only [List.mem_append]; exact .inl hx), h s (by simp)⟩
      · intro ⟨h1, h2⟩ x hx
        simp only [List.mem_append, List.mem_singleton] at hx
        rcases hx with hx | rfl
        · exact h1 x hx
        · exact h2
    rw [List.reverse_cons, hal]
    rcases hpq with rfl | rfl
    · rw [BitVec.getLsbD_and, Bool.and_eq_true] at hqc ⊢
      rw [ih p hp hqc.1, hqc.2]
      exact and_congr_right fun _ => eq_comm
    · rw [BitVec.getLsbD_and, Bool.and_eq_true] at hqc ⊢
      have h2 := hqc.2
      rw [not_bit _ hc] at h2
      rw [ih p hp hqc.1, not_bit _ hd]
      have h3 : s.getLsbD c = false := by simpa using h2
      rw [h3]
      refine and_congr_right fun _ => ?_
      cases s.getLsbD d <;> simp

/-- No byte is in both. -/
def Apart (p q : BS) : Prop := ∀ c, ¬ (p.getLsbD c = true ∧ q.getLsbD c = true)
theorem Apart.symm {p q : BS} (h : Apart p q) : Apart q p := fun c ⟨h1, h2⟩ => h c ⟨h2, h1⟩
theorem bit_and (p q : BS) (c : Nat) : (p &&& q).getLsbD c = true ↔ p.getLsbD c = true ∧ q.getLsbD c = true := by rw [BitVec.getLsbD_and, Bool.and_eq_true]
theorem not_bit_and (s : BS) (c : Nat) (h : (~~~s).getLsbD c = true) : s.getLsbD c = false := by
  rw [BitVec.getLsbD_not] at h; simp at h; exact h.2
theorem partsRaw_apart (l : List BS) : (partsRaw l).Pairwise Apart := by
  suffices ∀ r : List BS, (partsRaw r.reverse).Pairwise Apart by have := this l.reverse; rwa [List.reverse_reverse] at this
  intro r
  induction r with
  | nil => simp [partsRaw]
  | cons s r ih =>
    rw [List.reverse_cons, partsRaw_snoc]
    unfold partsStep
    rw [List.pairwise_flatMap]
    refine ⟨fun p _ => ?_, ih.imp fun {p q} h x hx y hy c ⟨h1, h2⟩ => ?_⟩
    · unfold cut
      refine List.Pairwise.filter _ ?_
      refine List.pairwise_cons.2 ⟨fun y hy c ⟨h1, h2⟩ => ?_, List.pairwise_singleton _ _⟩
      rw [List.mem_singleton.1 hy, bit_and] at h2
      rw [bit_and] at h1
      rw [not_bit_and s c h2.2] at h1
      exact Bool.noConfusion h1.2
    · have sub : ∀ {p x : BS}, x ∈ cut s p → x.getLsbD c = true → p.getLsbD c = true := fun {p x} hx h => by
        rcases (mem_cut.1 hx).1 with rfl | rfl
        · exact ((bit_and _ _ _).1 h).1
        · exact ((bit_and _ _ _).1 h).1
      exact h c ⟨sub hx h1, sub hy h2⟩

theorem partsOf_mem {l : List BS} {q : BS} : q ∈ partsOf l ↔ q ∈ partsRaw l := (partsOf_perm l).mem_iff
theorem partsOf_apart (l : List BS) : (partsOf l).Pairwise Apart := ((partsOf_perm l).pairwise_iff (fun h => Apart.symm h)).2 (partsRaw_apart l)
theorem partsOf_cover (l : List BS) (c : Nat) (hc : c < 256) : ∃ (k : Nat) (q : BS), (partsOf l)[k]? = some q ∧ q.getLsbD c = true := by
  obtain ⟨q, h1, h2⟩ := partsRaw_cover l c hc
  obtain ⟨k, hk⟩ := List.getElem?_of_mem (partsOf_mem.2 h1)
  exact ⟨k, q, hk, h2⟩
theorem partsOf_alike (l : List BS) {q : BS} (hq : q ∈ partsOf l) {c d : Nat} (hc : c < 256) (hd : d < 256) (h : q.getLsbD c = true) : q.getLsbD d = true ↔ Alike l c d := partsRaw_alike l (partsOf_mem.1 hq) hc hd h
theorem apart_index {p : List BS} (h : p.Pairwise Apart) {i j : Nat} {x y : BS} (hi : p[i]? = some x) (hj : p[j]? = some y) {c : Nat} (hx : x.getLsbD c = true) (hy : y.getLsbD c = true) : i = j := by
  have key : ∀ {i j : Nat} {x y : BS}, p[i]? = some x → p[j]? = some y → x.getLsbD c = true → y.getLsbD c = true → ¬ i < j := fun {i j x y} hi hj hx hy hlt => by
    obtain ⟨h1, rfl⟩ := List.getElem?_eq_some_iff.1 hi
    obtain ⟨h2, rfl⟩ := List.getElem?_eq_some_iff.1 hj
    exact (List.pairwise_iff_getElem.1 h i j h1 h2 hlt) c ⟨hx, hy⟩
  have h1 := key hi hj hx hy
  have h2 := key hj hi hy hx
  omega
/-- The class of a byte. -/
theorem cls_iff (l : List BS) {c k : Nat} (hc : c < 256) : cls (partsOf l) c = k ↔ ∃ q : BS, (partsOf l)[k]? = some q ∧ q.getLsbD c = true := by
  have h1 : ∃ q, (partsOf l)[cls (partsOf l) c]? = some q ∧ q.getLsbD c = true := by
    rcases tabOf_get (partsOf l) c hc with ⟨k, s, h1, h2, h3⟩ | ⟨h1, _⟩
    · rw [cls_get _ hc] at h3; cases h3; exact ⟨s, h1, h2⟩
    · obtain ⟨k, q, h2, h3⟩ := partsOf_cover l c hc
      rw [h1 q (List.mem_of_getElem? h2)] at h3; cases h3
  constructor
  · rintro rfl; exact h1
  · rintro ⟨q, h2, h3⟩
    obtain ⟨q', h4, h5⟩ := h1
    exact apart_index (partsOf_apart l) h4 h2 h5 h3

theorem partsOf_ne (l : List BS) {q : BS} (h : q ∈ partsOf l) : q ≠ 0 := partsRaw_ne l q (partsOf_mem.1 h)
/-- The least byte of a class. -/
theorem first_of_ne {s : BS} (h : s ≠ 0) : (firstOf s).2 = true ∧ (firstOf s).1 < 256 ∧ s.getLsbD (firstOf s).1 = true ∧ ∀ d, d < (firstOf s).1 → s.getLsbD d = false := by
  rcases firstOf_spec s with ⟨_, h1⟩ | h1
  · exact absurd h1 h
  · exact h1
theorem partsOf_first (l : List BS) {i j : Nat} {x y : BS} (hi : (partsOf l)[i]? = some x) (hj : (partsOf l)[j]? = some y) (hij : i < j) : (firstOf x).1 < (firstOf y).1 := by
  obtain ⟨h1, h2⟩ := List.getElem?_eq_some_iff.1 hi
  obtain ⟨h3, h4⟩ := List.getElem?_eq_some_iff.1 hj
  have hs := List.pairwise_iff_getElem.1 (partsOf_sorted l) i j h1 h3 hij
  have ha := List.pairwise_iff_getElem.1 (partsOf_apart l) i j h1 h3 hij
  rw [h2, h4] at hs ha
  obtain ⟨_, x1, x2, x3⟩ := first_of_ne (partsOf_ne l (List.mem_of_getElem? hi))
  obtain ⟨_, y1, y2, y3⟩ := first_of_ne (partsOf_ne l (List.mem_of_getElem? hj))
  have hne : (firstOf x).1 ≠ (firstOf y).1 := fun e => ha _ ⟨x2, by rw [e]; exact y2⟩
  by_cases hlt : (firstOf x).1 < (firstOf y).1
  · exact hlt
  · exfalso
    have hyx : ltS y x := ⟨(firstOf y).1, y1, fun d hd => by rw [y3 d hd, x3 d (by omega)], y2, x3 _ (by omega)⟩
    rw [← ltOf_iff] at hyx
    rw [hyx] at hs
    exact Bool.noConfusion hs
theorem partsOf_pos (l : List BS) : 0 < (partsOf l).length := by
  obtain ⟨k, q, h, _⟩ := partsOf_cover l 0 (by decide)
  have := (List.getElem?_eq_some_iff.1 h).1; omega
end Go.Proofs.YthdnlndpmmiboaaGreatDoor

namespace Go.Proofs.YthdnlndpmmiboaaGreatDoor
open Go Go.RowKit Go.Shelf Go.Maps

theorem bs_eq_zero {s : BS} (h : ∀ c, c < 256 → s.getLsbD c = true → False) : s = 0 := by
  refine BS.ext fun c hc => ?_
  rw [bs_zero_bit]
  cases hb : s.getLsbD c with
  | false => rfl
  | true => exact (h c hc hb).elim
theorem partsOf_isEmpty (l : List BS) : (partsOf l).isEmpty = false := by
  have := partsOf_pos l
  cases h : partsOf l with
  | nil => rw [h] at this; simp at this
  | cons => rfl
end Go.Proofs.YthdnlndpmmiboaaGreatDoor

namespace Go.Proofs.YthdnlndpmmiboaaGreatDoor
open Go Go.RowKit Go.Shelf Go.Maps

end Go.Proofs.YthdnlndpmmiboaaGreatDoor

namespace Go.Proofs.YthdnlndpmmiboaaGreatDoor
open Go Go.RowKit Go.Shelf Go.Maps

/-- p are the classes of R, in the order of their least bytes. -/
structure IsPart (p : List BS) (R : Nat → Nat → Prop) : Prop where
  some : p.isEmpty = false
  apart : p.Pairwise Apart
  ne : ∀ q ∈ p, q ≠ 0
  cover : ∀ c, c < 256 → ∃ (k : Nat) (q : BS), p[k]? = Option.some q ∧ q.getLsbD c = true
  alike : ∀ q ∈ p, ∀ c d, c < 256 → d < 256 → q.getLsbD c = true → (q.getLsbD d = true ↔ R c d)
  first : ∀ (i j : Nat) (x y : BS), p[i]? = Option.some x → p[j]? = Option.some y → i < j → (firstOf x).1 < (firstOf y).1

theorem IsPart.of_parts (l : List BS) : IsPart (partsOf l) (Alike l) :=
  ⟨partsOf_isEmpty l, partsOf_apart l, fun _ h => partsOf_ne l h, partsOf_cover l, fun _ hq _ _ hc hd h => partsOf_alike l hq hc hd h, fun _ _ _ _ h1 h2 h3 => partsOf_first l h1 h2 h3⟩
theorem IsPart.congr {p : List BS} {R S : Nat → Nat → Prop} (h : IsPart p R) (hrs : ∀ c d, c < 256 → d < 256 → (R c d ↔ S c d)) : IsPart p S :=
  ⟨h.some, h.apart, h.ne, h.cover, fun q hq c d hc hd hb => (h.alike q hq c d hc hd hb).trans (hrs c d hc hd), h.first⟩
theorem IsPart.cls_iff {p : List BS} {R : Nat → Nat → Prop} (h : IsPart p R) {c k : Nat} (hc : c < 256) : cls p c = k ↔ ∃ q : BS, p[k]? = Option.some q ∧ q.getLsbD c = true := by
  have h1 : ∃ q, p[cls p c]? = Option.some q ∧ q.getLsbD c = true := by
    rcases tabOf_get p c hc with ⟨k, s, h1, h2, h3⟩ | ⟨h1, _⟩
    · rw [cls_get _ hc] at h3; cases h3; exact ⟨s, h1, h2⟩
    · obtain ⟨k, q, h2, h3⟩ := h.cover c hc
      rw [h1 q (List.mem_of_getElem? h2)] at h3; cases h3
  constructor
  · rintro rfl; exact h1
  · rintro ⟨q, h2, h3⟩
    obtain ⟨q', h4, h5⟩ := h1
    exact apart_index h.apart h4 h2 h5 h3
theorem IsPart.same_cls {p : List BS} {R : Nat → Nat → Prop} (h : IsPart p R) {c d : Nat} (hc : c < 256) (hd : d < 256) : cls p c = cls p d ↔ R c d := by
  obtain ⟨q, h1, h2⟩ := (h.cls_iff hc).1 rfl
  rw [← h.alike q (List.mem_of_getElem? h1) c d hc hd h2]
  constructor
  · intro e
    obtain ⟨q', h3, h4⟩ := (h.cls_iff hd).1 rfl
    rw [← e, h1] at h3; cases h3; exact h4
  · intro h3; exact ((h.cls_iff hd).2 ⟨q, h1, h3⟩).symm
theorem IsPart.symm {p : List BS} {R : Nat → Nat → Prop} (h : IsPart p R) {c d : Nat} (hc : c < 256) (hd : d < 256) (hr : R c d) : R d c := (h.same_cls hd hc).1 ((h.same_cls hc hd).2 hr).symm

theorem not_zero_bit {s : BS} (h : s ≠ 0) : ∃ c, c < 256 ∧ s.getLsbD c = true := by
  obtain ⟨_, h1, h2, _⟩ := first_of_ne h
  exact ⟨_, h1, h2⟩
theorem IsPart.mem_of {p q : List BS} {R S : Nat → Nat → Prop} (hp : IsPart p R) (hq : IsPart q S) (h : ∀ c d, c < 256 → d < 256 → (R c d ↔ S c d)) {x : BS} (hx : x ∈ p) : x ∈ q := by
  obtain ⟨c, hc, hxc⟩ := not_zero_bit (hp.ne x hx)
  obtain ⟨k, s, hs, hsc⟩ := hq.cover c hc
  have : x = s := BS.ext fun d hd => by
    rw [Bool.eq_iff_iff, hp.alike x hx c d hc hd hxc, hq.alike s (List.mem_of_getElem? hs) c d hc hd hsc, h c d hc hd]
  rw [this]; exact List.mem_of_getElem? hs
theorem IsPart.sorted {p : List BS} {R : Nat → Nat → Prop} (hp : IsPart p R) : p.Pairwise fun x y => (firstOf x).1 < (firstOf y).1 := by
  rw [List.pairwise_iff_getElem]
  intro i j hi hj hij
  exact hp.first i j _ _ (List.getElem?_eq_getElem hi) (List.getElem?_eq_getElem hj) hij
/-- Two lists in strict order with the same elements are one. -/
theorem strict_eq {f : BS → Nat} : ∀ (p q : List BS), p.Pairwise (fun x y => f x < f y) → q.Pairwise (fun x y => f x < f y) → (∀ x, x ∈ p ↔ x ∈ q) → p = q
  | [], q, _, _, h => by
    cases q with
    | nil => rfl
    | cons y q => have := (h y).2 (by simp); simp at this
  | x :: p, q, hp, hq, h => by
    cases q with
    | nil => have := (h x).1 (by simp); simp at this
    | cons y q =>
      rw [List.pairwise_cons] at hp hq
      have hxy : x = y := by
        have h1 := (h x).1 (by simp)
        have h2 := (h y).2 (by simp)
        rcases List.mem_cons.1 h1 with e | h1
        · exact e
        · rcases List.mem_cons.1 h2 with e | h2
          · exact e.symm
          · have a := hq.1 x h1; have b := hp.1 y h2; omega
      subst hxy
      congr 1
      refine strict_eq p q hp.2 hq.2 fun z => ?_
      have hz := h z
      simp only [List.mem_cons] at hz
      constructor
      · intro hzp
        rcases hz.1 (.inr hzp) with e | h1
        · subst e; have := hp.1 z hzp; omega
        · exact h1
      · intro hzq
        rcases hz.2 (.inr hzq) with e | h1
        · subst e; have := hq.1 z hzq; omega
        · exact h1
theorem IsPart.uniq {p q : List BS} {R S : Nat → Nat → Prop} (hp : IsPart p R) (hq : IsPart q S) (h : ∀ c d, c < 256 → d < 256 → (R c d ↔ S c d)) : p = q :=
  strict_eq p q hp.sorted hq.sorted fun _ => ⟨fun hx => hp.mem_of hq h hx, fun hx => hq.mem_of hp (fun c d hc hd => (h c d hc hd).symm) hx⟩
theorem IsPart.same {p q : List BS} {R S : Nat → Nat → Prop} (hp : IsPart p R) (hq : IsPart q S) : sameOf p q = true ↔ ∀ c d, c < 256 → d < 256 → (R c d ↔ S c d) := by
  constructor
  · intro h c d hc hd
    unfold sameOf tabEq at h
    rw [hp.some, hq.some] at h
    simp only [Bool.not_false, Bool.true_and, List.all_eq_true, List.mem_range, beq_iff_eq] at h
    rw [← hp.same_cls hc hd, ← hq.same_cls hc hd]
    have h1 := h c hc
    have h2 := h d hd
    omega
  · intro h
    rw [hp.uniq hq h]
    unfold sameOf tabEq
    rw [hq.some]
    simp
theorem IsPart.alike_iff {p : List BS} {R : Nat → Nat → Prop} (hp : IsPart p R) {c d : Nat} (hc : c < 256) (hd : d < 256) : Alike p c d ↔ R c d := by
  constructor
  · intro h
    obtain ⟨k, s, hs, hsc⟩ := hp.cover c hc
    have := h s (List.mem_of_getElem? hs)
    exact (hp.alike s (List.mem_of_getElem? hs) c d hc hd hsc).1 (by rw [← this]; exact hsc)
  · intro hr s hs
    rw [Bool.eq_iff_iff]
    exact ⟨fun h => (hp.alike s hs c d hc hd h).2 hr, fun h => (hp.alike s hs d c hd hc h).2 (hp.symm hc hd hr)⟩
end Go.Proofs.YthdnlndpmmiboaaGreatDoor
namespace Go.Proofs.YthdnlndpmmiboaaGreatDoor
open Go Go.RowKit Go.Shelf Go.Maps
attribute [local go_sem] encS

theorem IsSetsC.below {w w' : World} {v : Value} {l : List BS} (h : IsSetsC w v l) (hk : Below w.heap.size w w') : IsSetsC w' v l := ⟨h.1.below hk, h.2⟩
end Go.Proofs.YthdnlndpmmiboaaGreatDoor
namespace Go.Proofs.YthdnlndpmmiboaaGreatDoor
open Go Go.RowKit Go.Shelf Go.Maps
attribute [local go_sem] encS

/-- The first elements of a slice. -/
theorem IsSl.take {α : Type} {enc : α → Value} {w : World} {a : Option Addr} {n cap : Nat} {l : List α} (h : IsSl enc w (.slice a n cap) l) (k : Nat) (hk : k ≤ n) : IsSl enc w (.slice a k cap) (l.take k) := by
  rcases h with ⟨h, rfl⟩ | ⟨b, off, cap', hv, hb, hc, h⟩
  · cases h
    obtain rfl : k = 0 := by omega
    exact .inl ⟨rfl, rfl⟩
  · cases hv
    have hl : (l.take k).length = k := by rw [List.length_take]; omega
    refine .inr ⟨b, off, cap, by rw [hl], hb, by omega, fun i x hi => h i x ?_⟩
    rw [List.getElem?_take] at hi
    split at hi
    · exact hi
    · cases hi
theorem IsSl.cap {α : Type} {enc : α → Value} {w : World} {a : Option Addr} {n cap : Nat} {l : List α} (h : IsSl enc w (.slice a n cap) l) : n ≤ cap := by
  rcases h with ⟨h, rfl⟩ | ⟨b, off, cap', hv, hb, hc, h⟩
  · cases h; exact Nat.le_refl _
  · cases hv; omega

end Go.Proofs.YthdnlndpmmiboaaGreatDoor
namespace Go.Proofs.YthdnlndpmmiboaaGreatDoor
open Go Go.RowKit Go.Shelf Go.Maps

set_option maxRecDepth 100000 in
set_option maxHeartbeats 1000000 in
theorem cloneSets_any (v : Value) (l : List BS) (w : World) (h : IsSetsC w v l) (hn : l.length ≤ 1000000) :
    Calls Tryz.prog 45 #[v] w fun e w' => ∃ u, e = .returned u ∧ w'.ownsRow w.heap.size 65 4 u l.length (flatS l) ∧ Below w.heap.size w w' := by
  obtain ⟨i0, hi, hz0, hz1, hz2⟩ := info_parts Tryz.infoS
  rcases h.1 with ⟨rfl, rfl⟩ | ⟨b, off, cap, rfl, hb, hc⟩
  · have he := fun W => Lib.run_eql_slice_nil (P := Tryz.prog) W 26 65 none 0 0 0 0 Tryz.underlying26
    clear h
    go_enter Tryz.func45, Tryz.ntmps45
    go_wp2
    go_ret
    exact ⟨_, rfl, World.ownsRow_nil _ _ _ _, Below.refl _ _⟩
  · have hnews : ∀ j u, (flatS l)[j]? = some u → w.cell? ((⟨b, off, none⟩ : Addr).add j) = some u := fun j u hj => by
      have hj4 : j < l.length * 4 := by have := (List.getElem?_eq_some_iff.1 hj).1; rwa [flatS_length] at this
      have hs : l[j / 4]? = some (l[j / 4]'(by omega)) := List.getElem?_eq_getElem (by omega)
      have h1 := flatS_get l hs (Nat.mod_lt j (by decide : 0 < 4))
      rw [show j / 4 * 4 + j % 4 = j by omega, hj] at h1
      rw [Addr.add_mid, show off + j = off + j / 4 * 4 + j % 4 by omega, hc _ _ hs _ (Nat.mod_lt j (by decide))]
      exact h1.symm
    obtain ⟨n, hnn⟩ : ∃ n, n = l.length := ⟨_, rfl⟩
    rw [← hnn] at hn ⊢
    have HN := Lib.hid hnn
    have HNw := Lib.hid hnews
    have he := fun W => Lib.run_eql_slice_nil (P := Tryz.prog) W 26 65 (some ⟨b, off, none⟩) n cap 0 0 Tryz.underlying26
    clear h hc hnews hnn
    go_enter Tryz.func45, Tryz.ntmps45
    have o1 : (w.alloc (.cells #[] 65 (0, 0))).ownsRow w.heap.size 65 4 (.slice (some ⟨w.heap.size, 0, none⟩) 0 0) 0 [] := ⟨rfl, .inr ⟨w.heap.size, 0, #[], rfl, Nat.le_refl _, World.alloc_heap_new _ _, Nat.le_refl _, by simp, rfl, rfl⟩⟩
    have HO1 := Lib.hid o1
    clear o1
    go_wp2_with (at_builtin; (refine wpList_append_own_at _ rfl (.tmp 5) (.tmp 6) 26 rfl w.heap.size 65 i0 (.agg #[.int .u64 0, .int .u64 0, .int .u64 0, .int .u64 0]) 4 32 Tryz.underlying26 hi hz0 hz1 hz2 rfl (by decide) _ 0 [] rfl HO1.out ⟨b, off, none⟩ n cap (flatS l) rfl (by rw [flatS_length, HN.out]) (fun j u hj => (((Ext.refl w).alloc _).cell (p := (⟨b, off, none⟩ : Addr).add j) (by rw [Addr.add_mid]; exact hb)).trans (HNw.out j u hj)) (flatS_one_cell l) (by unfold maxLen; omega) (by omega) (by simp) ?_; intro v' w2 ho hg _ _; have HO2 := Lib.hid ho; have HG := Lib.hid hg; obtain ⟨a2, c2, rfl⟩ := ownsRow_form ho; clear ho hg))
    go_ret
    refine ⟨_, rfl, ?_, ?_⟩
    · have := HO2.out
      rwa [Nat.zero_add, List.nil_append] at this
    · exact ((Below.refl _ _).alloc (Nat.le_refl _) _).grown HG.out (by simp) (fun c e => (HO1.out.lt c e).1)
end Go.Proofs.YthdnlndpmmiboaaGreatDoor
namespace Go.Proofs.YthdnlndpmmiboaaGreatDoor
open Go Go.RowKit Go.Shelf Go.Maps

/-- Whether two arrays are alike. -/
def eqA (f g : Nat → Int) : Bool := (List.range 256).all fun c => f c == g c
end Go.Proofs.YthdnlndpmmiboaaGreatDoor

namespace Go.Proofs.YthdnlndpmmiboaaGreatDoor
open Go Go.RowKit Go.Shelf Go.Maps

/-- The cells of a slice of arrays. -/
def flatA (fs : List (Nat → Int)) : List Value := fs.flatMap fun f => (aI f).toList
theorem flatA_length (fs : List (Nat → Int)) : (flatA fs).length = fs.length * 256 := by
  unfold flatA
  induction fs with
  | nil => rfl
  | cons f fs ih => rw [List.flatMap_cons, List.length_append, ih, Array.length_toList, aI_size, List.length_cons]; omega
theorem flatA_append (l m : List (Nat → Int)) : flatA (l ++ m) = flatA l ++ flatA m := by simp [flatA]
theorem flatA_one (f : Nat → Int) : flatA [f] = (aI f).toList := by simp [flatA]
theorem flatA_get : ∀ (l : List (Nat → Int)) {i : Nat} {f : Nat → Int}, l[i]? = some f → ∀ {j : Nat}, j < 256 → (flatA l)[i * 256 + j]? = some (.int .i64 (f j)) := by
  intro l
  induction l with
  | nil => intro i f h; simp at h
  | cons g l ih =>
    intro i f h j hj
    have e : flatA (g :: l) = (aI g).toList ++ flatA l := by unfold flatA; rw [List.flatMap_cons]
    cases i with
    | zero =>
      cases h
      rw [e, List.getElem?_append_left (by rw [Array.length_toList, aI_size]; omega), Array.getElem?_toList, Nat.zero_mul, Nat.zero_add, aI_get _ hj]
    | succ i =>
      rw [e, List.getElem?_append_right (by rw [Array.length_toList, aI_size]; omega), Array.length_toList, aI_size, show (i + 1) * 256 + j - 256 = i * 256 + j by omega]
      exact ih (by simpa using h) hj
theorem ownsRow_arrs {w : World} {base : Nat} {v : Value} {l : List (Nat → Int)} (h : w.ownsRow base 91 256 v l.length (flatA l)) : IsArrs w v l := by
  rcases h.2 with ⟨h1, h2⟩ | ⟨g, cap, cur, hv, _, hg, hn, _, hs, ht⟩
  · exact .inl ⟨h1, List.eq_nil_of_length_eq_zero h2⟩
  · refine .inr ⟨g, 0, cap, hv, (Array.getElem?_eq_some_iff.1 hg).1, fun i s hi j hj => ?_⟩
    have hc : w.cell? ⟨g, 0 + i * 256 + j, none⟩ = cur[0 + i * 256 + j]? := by simp [World.cell?, hg]
    rw [hc, Nat.zero_add, ← flatA_get l hi hj, ← ht]
    have hlt : i < l.length := (List.getElem?_eq_some_iff.1 hi).1
    rw [List.getElem?_take, if_pos (by omega)]
    simp
theorem Tryz.infoA : (Tryz.prog.info? 91).map (fun i => (i.zero, i.size, i.bytes)) = some (some (.agg (aI fun _ => 0)), 256, 2048) := by kernel_rfl

end Go.Proofs.YthdnlndpmmiboaaGreatDoor

namespace Go.Proofs.YthdnlndpmmiboaaGreatDoor
open Go Go.RowKit Go.Shelf Go.Maps

end Go.Proofs.YthdnlndpmmiboaaGreatDoor
namespace Go.Proofs.YthdnlndpmmiboaaGreatDoor
open Go Go.RowKit
theorem regCell {C : World → Prop} {d : Bool} {T : Nat → Prop} {w : World} (hC : ∀ W, C W ↔ Move d T w W) {p : Addr} {v : Option Value} (hs : p.block < w.heap.size) (ht : ¬ T p.block) (h : w.cell? p = v) : ∀ W : { W // C W }, W.1.cell? p = v := fun W =>
  (((hC W.1).1 W.2).keeps.cell ⟨hs, ht⟩).trans h
theorem regSet {C : World → Prop} {w : World} (hC : ∀ W, C W ↔ Move false (fun _ => False) w W) {b : Nat} {s : BS} {t : TypeId} (h : Blk w b (encS s) t) :
    (∀ W : { W // C W }, W.1.cell? ⟨b, 0, none⟩ = some (.int .u64 (wd s 0).toNat)) ∧ (∀ W : { W // C W }, W.1.cell? ⟨b, 1, none⟩ = some (.int .u64 (wd s 1).toNat)) ∧
    (∀ W : { W // C W }, W.1.cell? ⟨b, 2, none⟩ = some (.int .u64 (wd s 2).toNat)) ∧ (∀ W : { W // C W }, W.1.cell? ⟨b, 3, none⟩ = some (.int .u64 (wd s 3).toNat)) := by
  have k := fun (W : { W // C W }) => (h.below ((hC W.1).1 W.2).below h.lt).set4
  exact ⟨fun W => (k W).1, fun W => (k W).2.1, fun W => (k W).2.2.1, fun W => (k W).2.2.2⟩
theorem calls_named {P : Program} {f : FuncId} {args : Array Value} {w : World} {R : Ending → World → Prop} (h : ∀ W, W = w → Calls P f args W R) : Calls P f args w R := h w rfl

end Go.Proofs.YthdnlndpmmiboaaGreatDoor
namespace Go.Proofs.YthdnlndpmmiboaaGreatDoor
open Go Go.RowKit Go.Shelf Go.Maps

theorem Keeps.setRow {R : Nat → Prop} {A B : World} (h : Keeps R A B) {g : Nat} (hp : ¬ R g) (c : Array Value) : Keeps R A (B.setRow g c) :=
  ⟨h.os, h.tape, h.output, Nat.le_trans h.size (by simp), fun k hk => (setRow_other B g k c (fun e => hp (e ▸ hk))).trans (h.keep k hk)⟩
def inR (f : Nat → Int) (x : Int) : Bool := decide (0 ≤ x) && decide (x < ((leastsTo f 256).length : Int))
theorem inR_some {f : Nat → Int} {x : Int} (h : inR f x = true) : ∃ n m : Nat, x = n ∧ (leastsTo f 256)[n]? = some m := by
  unfold inR at h
  simp only [Bool.and_eq_true, decide_eq_true_eq] at h
  obtain ⟨n, rfl⟩ := Int.eq_ofNat_of_zero_le h.1
  exact ⟨n, _, rfl, List.getElem?_eq_getElem (by have := h.2; omega)⟩
end Go.Proofs.YthdnlndpmmiboaaGreatDoor
