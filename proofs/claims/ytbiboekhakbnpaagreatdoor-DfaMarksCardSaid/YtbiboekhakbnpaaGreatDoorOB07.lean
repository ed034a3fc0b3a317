/-
  Plain law: what the classes of sets are.
    Plain law: what AlphabetClasses asks of the classes.
    Plain law: what AlphabetWords asks of words and least bytes.
    Plain law: alphabets as relations of bytes: finer, same, join.
-/
import Derived.Test.YtbiboekhakbnpaaGreatDoorOB06
import Derived.Test.YtbiboekhakbnpaaGreatDoorOB05
set_option maxRecDepth 100000
set_option maxHeartbeats 16000000
open Go.Lib (hid)
namespace Go.Proofs.YtbiboekhakbnpaaGreatDoor
open Go Go.RowKit Go.Shelf Go.Maps

def Alike (l : List BS) (c d : Nat) : Prop := ∀ s ∈ l, s.getLsbD c = s.getLsbD d
theorem mem_cut {s p x : BS} : x ∈ cut s p ↔ (x = p &&& s \/ x = p &&& ~~~s) /\ x ≠ 0 := by
 unfold cut
 simp only [List.mem_filter, List.mem_cons, List.not_mem_nil, or_false, Bool.not_eq_true', beq_eq_false_iff_ne]
theorem mem_partsStep {s x : BS} {l : List BS} : x ∈ partsStep s l ↔ ∃ p ∈ l, (x = p &&& s \/ x = p &&& ~~~s) /\ x ≠ 0 := by
 unfold partsStep
 simp only [List.mem_flatMap, mem_cut]
theorem bs_zero_bit (c : Nat) : (0 : BS).getLsbD c = false := BitVec.getLsbD_zero
theorem not_bit (s : BS) {c : Nat} (hc : c < 256) : (~~~s).getLsbD c = !s.getLsbD c := by
 rw [BitVec.getLsbD_not]; simp [hc]
theorem all_bit {c : Nat} (hc : c < 256) : (~~~(0 : BS)).getLsbD c = true := by rw [not_bit _ hc, bs_zero_bit]; rfl
theorem partsRaw_cover (l : List BS) (c : Nat) (hc : c < 256) : ∃ q ∈ partsRaw l, q.getLsbD c = true := by
 suffices ∀ r : List BS, ∃ q ∈ partsRaw r.reverse, q.getLsbD c = true by have := this l.reverse; rwa [List.reverse_reverse] at this
 intro r
 induction r with
 | nil => exact ⟨~~~0, by simp [partsRaw], all_bit hc⟩
 | cons s r ih =>
  obtain ⟨q, hq, hqc⟩ := ih
  rw [List.reverse_cons, partsRaw_snoc]
  cases hs : s.getLsbD c with
  | true =>
   have h : (q &&& s).getLsbD c = true := by rw [BitVec.getLsbD_and, hqc, hs]; rfl
   exact ⟨q &&& s, mem_partsStep.2 ⟨q, hq, .inl rfl, fun e => by rw [e, bs_zero_bit] at h; cases h⟩, h⟩
  | false =>
   have h : (q &&& ~~~s).getLsbD c = true := by rw [BitVec.getLsbD_and, hqc, not_bit _ hc, hs]; rfl
   exact ⟨q &&& ~~~s, mem_partsStep.2 ⟨q, hq, .inr rfl, fun e => by rw [e, bs_zero_bit] at h; cases h⟩, h⟩
theorem partsRaw_alike (l : List BS) {q : BS} (hq : q ∈ partsRaw l) {c d : Nat} (hc : c < 256) (hd : d < 256) (h : q.getLsbD c = true) : q.getLsbD d = true ↔ Alike l c d := by
 suffices ∀ (r : List BS) (q : BS), q ∈ partsRaw r.reverse -> q.getLsbD c = true -> (q.getLsbD d = true ↔ Alike r.reverse c d) by
  have := this l.reverse q (by rwa [List.reverse_reverse]) h; rwa [List.reverse_reverse] at this
 intro r
 induction r with
 | nil =>
  intro q hq _
  have : q = ~~~0 := by simpa [partsRaw] using hq
  rw [this, all_bit hd]
  simp [Alike]
 | cons s r ih =>
  intro q hq hqc
  rw [List.reverse_cons, partsRaw_snoc] at hq
  obtain ⟨p, hp, hpq, _⟩ := mem_partsStep.1 hq
  have hal : Alike (r.reverse ++ [s]) c d ↔ Alike r.reverse c d /\ s.getLsbD c = s.getLsbD d := by
   unfold Alike
   constructor
   ·intro h; exact ⟨fun x hx => h x (by simp only [List.mem_append]; exact .inl hx), h s (by simp)⟩
   ·intro ⟨h1, h2⟩ x hx
    simp only [List.mem_append, List.mem_singleton] at hx
    rcases hx with hx | rfl
    ·exact h1 x hx
    ·exact h2
  rw [List.reverse_cons, hal]
  rcases hpq with rfl | rfl
  ·rw [BitVec.getLsbD_and, Bool.and_eq_true] at hqc ⊢
   rw [ih p hp hqc.1, hqc.2]
   exact and_congr_right fun _ => eq_comm
  ·rw [BitVec.getLsbD_and, Bool.and_eq_true] at hqc ⊢
   have h2 := hqc.2
   rw [not_bit _ hc] at h2
   rw [ih p hp hqc.1, not_bit _ hd]
   have h3 : s.getLsbD c = false := by simpa using h2
   rw [h3]
   refine and_congr_right fun _ => ?_
   cases s.getLsbD d <;> simp

def Apart (p q : BS) : Prop := ∀ c, ¬ (p.getLsbD c = true /\ q.getLsbD c = true)
theorem Apart.symm {p q : BS} (h : Apart p q) : Apart q p := fun c ⟨h1, h2⟩ => h c ⟨h2, h1⟩
theorem bit_and (p q : BS) (c : Nat) : (p &&& q).getLsbD c = true ↔ p.getLsbD c = true /\ q.getLsbD c = true := by rw [BitVec.getLsbD_and, Bool.and_eq_true]
theorem not_bit_and (s : BS) (c : Nat) (h : (~~~s).getLsbD c = true) : s.getLsbD c = false := by
 rw [BitVec.getLsbD_not] at h; simp at h; exact h.2
theorem partsRaw_apart (l : List BS) : (partsRaw l).Pairwise Apart := by
 suffices ∀ r : List BS, (partsRaw r.reverse).Pairwise Apart by have := this l.reverse; rwa [List.reverse_reverse] at this
 intro r
 induction r with
 | nil => simp [partsRaw]
 | cons s r ih =>
  rw [List.reverse_cons, partsRaw_snoc]
  unfold partsStep
  rw [List.pairwise_flatMap]
  refine ⟨fun p _ => ?_, ih.imp fun {p q} h x hx y hy c ⟨h1, h2⟩ => ?_⟩
  ·unfold cut
   refine List.Pairwise.filter _ ?_
   refine List.pairwise_cons.2 ⟨fun y hy c ⟨h1, h2⟩ => ?_, List.pairwise_singleton _ _⟩
   rw [List.mem_singleton.1 hy, bit_and] at h2
   rw [bit_and] at h1
   rw [not_bit_and s c h2.2] at h1
   exact Bool.noConfusion h1.2
  ·have sub : ∀ {p x : BS}, x ∈ cut s p -> x.getLsbD c = true -> p.getLsbD c = true := fun {p x} hx h => by
    rcases (mem_cut.1 hx).1 with rfl | rfl
    ·exact ((bit_and _ _ _).1 h).1
    ·exact ((bit_and _ _ _).1 h).1
   exact h c ⟨sub hx h1, sub hy h2⟩

theorem partsOf_mem {l : List BS} {q : BS} : q ∈ partsOf l ↔ q ∈ partsRaw l := (partsOf_perm l).mem_iff
theorem partsOf_apart (l : List BS) : (partsOf l).Pairwise Apart := ((partsOf_perm l).pairwise_iff (fun h => Apart.symm h)).2 (partsRaw_apart l)
theorem partsOf_cover (l : List BS) (c : Nat) (hc : c < 256) : ∃ (k : Nat) (q : BS), (partsOf l)[k]? = some q /\ q.getLsbD c = true := by
 obtain ⟨q, h1, h2⟩ := partsRaw_cover l c hc
 obtain ⟨k, hk⟩ := List.getElem?_of_mem (partsOf_mem.2 h1)
 exact ⟨k, q, hk, h2⟩
theorem partsOf_alike (l : List BS) {q : BS} (hq : q ∈ partsOf l) {c d : Nat} (hc : c < 256) (hd : d < 256) (h : q.getLsbD c = true) : q.getLsbD d = true ↔ Alike l c d := partsRaw_alike l (partsOf_mem.1 hq) hc hd h
theorem apart_index {p : List BS} (h : p.Pairwise Apart) {i j : Nat} {x y : BS} (hi : p[i]? = some x) (hj : p[j]? = some y) {c : Nat} (hx : x.getLsbD c = true) (hy : y.getLsbD c = true) : i = j := by
 have key : ∀ {i j : Nat} {x y : BS}, p[i]? = some x -> p[j]? = some y -> x.getLsbD c = true -> y.getLsbD c = true -> ¬ i < j := fun {i j x y} hi hj hx hy hlt => by
  obtain ⟨h1, rfl⟩ := List.getElem?_eq_some_iff.1 hi
  obtain ⟨h2, rfl⟩ := List.getElem?_eq_some_iff.1 hj
  exact (List.pairwise_iff_getElem.1 h i j h1 h2 hlt) c ⟨hx, hy⟩
 have h1 := key hi hj hx hy
 have h2 := key hj hi hy hx
 omega
theorem cls_iff (l : List BS) {c k : Nat} (hc : c < 256) : cls (partsOf l) c = k ↔ ∃ q : BS, (partsOf l)[k]? = some q /\ q.getLsbD c = true := by
 have h1 : ∃ q, (partsOf l)[cls (partsOf l) c]? = some q /\ q.getLsbD c = true := by
  rcases tabOf_get (partsOf l) c hc with ⟨k, s, h1, h2, h3⟩ | ⟨h1, _⟩
  ·rw [cls_get _ hc] at h3; cases h3; exact ⟨s, h1, h2⟩
  ·obtain ⟨k, q, h2, h3⟩ := partsOf_cover l c hc
   rw [h1 q (List.mem_of_getElem? h2)] at h3; cases h3
 constructor
 ·rintro rfl; exact h1
 ·rintro ⟨q, h2, h3⟩
  obtain ⟨q', h4, h5⟩ := h1
  exact apart_index (partsOf_apart l) h4 h2 h5 h3

theorem partsOf_ne (l : List BS) {q : BS} (h : q ∈ partsOf l) : q ≠ 0 := partsRaw_ne l q (partsOf_mem.1 h)
theorem first_of_ne {s : BS} (h : s ≠ 0) : (firstOf s).2 = true /\ (firstOf s).1 < 256 /\ s.getLsbD (firstOf s).1 = true /\ ∀ d, d < (firstOf s).1 -> s.getLsbD d = false := by
 rcases firstOf_spec s with ⟨_, h1⟩ | h1
 ·exact absurd h1 h
 ·exact h1
theorem partsOf_first (l : List BS) {i j : Nat} {x y : BS} (hi : (partsOf l)[i]? = some x) (hj : (partsOf l)[j]? = some y) (hij : i < j) : (firstOf x).1 < (firstOf y).1 := by
 obtain ⟨h1, h2⟩ := List.getElem?_eq_some_iff.1 hi
 obtain ⟨h3, h4⟩ := List.getElem?_eq_some_iff.1 hj
 have hs := List.pairwise_iff_getElem.1 (partsOf_sorted l) i j h1 h3 hij
 have ha := List.pairwise_iff_getElem.1 (partsOf_apart l) i j h1 h3 hij
 rw [h2, h4] at hs ha
 obtain ⟨_, x1, x2, x3⟩ := first_of_ne (partsOf_ne l (List.mem_of_getElem? hi))
 obtain ⟨_, y1, y2, y3⟩ := first_of_ne (partsOf_ne l (List.mem_of_getElem? hj))
 have hne : (firstOf x).1 ≠ (firstOf y).1 := fun e => ha _ ⟨x2, by rw [e]; exact y2⟩
 by_cases hlt : (firstOf x).1 < (firstOf y).1
 ·exact hlt
 ·exfalso
  have hyx : ltS y x := ⟨(firstOf y).1, y1, fun d hd => by rw [y3 d hd, x3 d (by omega)], y2, x3 _ (by omega)⟩
  rw [<- ltOf_iff] at hyx
  rw [hyx] at hs
  exact Bool.noConfusion hs
theorem partsOf_pos (l : List BS) : 0 < (partsOf l).length := by
 obtain ⟨k, q, h, _⟩ := partsOf_cover l 0 (by decide)
 have := (List.getElem?_eq_some_iff.1 h).1; omega
theorem fit_whole (l : List BS) {s q : BS} (hs : s ∈ l) (hq : q ∈ partsOf l) : q &&& ~~~s = 0 \/ q &&& s = 0 := by
 obtain ⟨_, h1, h2, _⟩ := first_of_ne (partsOf_ne l hq)
 cases hb : s.getLsbD (firstOf q).1 with
 | true =>
  left
  refine BS.ext fun c hc => ?_
  rw [bs_zero_bit, BitVec.getLsbD_and]
  cases hqc : q.getLsbD c with
  | false => rfl
  | true =>
   have := (partsOf_alike l hq h1 hc h2).1 hqc s hs
   rw [not_bit _ hc, <- this, hb]; rfl
 | false =>
  right
  refine BS.ext fun c hc => ?_
  rw [bs_zero_bit, BitVec.getLsbD_and]
  cases hqc : q.getLsbD c with
  | false => rfl
  | true =>
   have := (partsOf_alike l hq h1 hc h2).1 hqc s hs
   rw [<- this, hb]; rfl
end Go.Proofs.YtbiboekhakbnpaaGreatDoor

namespace Go.Proofs.YtbiboekhakbnpaaGreatDoor
open Go Go.RowKit Go.Shelf Go.Maps

theorem parted (l : List BS) {i j : Nat} {s t : BS} (hi : (partsOf l)[i]? = some s) (hj : (partsOf l)[j]? = some t) (hij : i ≠ j) : (l.any fun x => ((s &&& ~~~x == 0) != (t &&& ~~~x == 0))) = true := by
 rw [List.any_eq_true]
 obtain ⟨_, a1, a2, _⟩ := first_of_ne (partsOf_ne l (List.mem_of_getElem? hi))
 obtain ⟨_, b1, b2, _⟩ := first_of_ne (partsOf_ne l (List.mem_of_getElem? hj))
 have hno : ¬ Alike l (firstOf s).1 (firstOf t).1 := fun hal => by
  have := (partsOf_alike l (List.mem_of_getElem? hi) a1 b1 a2).2 hal
  exact hij (apart_index (partsOf_apart l) hi hj this b2)
 unfold Alike at hno
 simp only [Classical.not_forall] at hno
 obtain ⟨x, hx, hne⟩ := hno
 refine ⟨x, hx, ?_⟩
 have key : ∀ {q : BS}, q ∈ partsOf l -> q.getLsbD (firstOf q).1 = true -> (firstOf q).1 < 256 -> (q &&& ~~~x == 0) = x.getLsbD (firstOf q).1 := fun {q} hq h1 h3 => by
  rcases fit_whole l hx hq with h | h
  ·rw [h]
   have : x.getLsbD (firstOf q).1 = true := by
    cases hb : x.getLsbD (firstOf q).1 with
    | true => rfl
    | false =>
     have h2 : (q &&& ~~~x).getLsbD (firstOf q).1 = true := by rw [BitVec.getLsbD_and, h1, not_bit _ h3, hb]; rfl
     rw [h, bs_zero_bit] at h2; cases h2
   rw [this]; simp
  ·have h4 : x.getLsbD (firstOf q).1 = false := by
    cases hb : x.getLsbD (firstOf q).1 with
    | false => rfl
    | true =>
     have h2 : (q &&& x).getLsbD (firstOf q).1 = true := by rw [BitVec.getLsbD_and, h1, hb]; rfl
     rw [h, bs_zero_bit] at h2; cases h2
   rw [h4, beq_eq_false_iff_ne]
   intro h5
   have h2 : (q &&& ~~~x).getLsbD (firstOf q).1 = true := by rw [BitVec.getLsbD_and, h1, not_bit _ h3, h4]; rfl
   rw [h5, bs_zero_bit] at h2; cases h2
 rw [key (List.mem_of_getElem? hi) a2 a1, key (List.mem_of_getElem? hj) b2 b1]
 cases h1 : x.getLsbD (firstOf s).1 <;> cases h2 : x.getLsbD (firstOf t).1 <;> simp_all

theorem partsOf_isEmpty (l : List BS) : (partsOf l).isEmpty = false := by
 have := partsOf_pos l
 cases h : partsOf l with
 | nil => rw [h] at this; simp at this
 | cons => rfl
end Go.Proofs.YtbiboekhakbnpaaGreatDoor

namespace Go.Proofs.YtbiboekhakbnpaaGreatDoor
open Go Go.RowKit Go.Shelf Go.Maps

theorem cls_class (l : List BS) {c : Nat} (hc : c < 256) : ∃ q : BS, (partsOf l)[cls (partsOf l) c]? = some q /\ q.getLsbD c = true := (cls_iff l hc).1 rfl
theorem alike_cls (l : List BS) {x y : Nat} (hx : x < 256) (hy : y < 256) : (l.any fun s => s.getLsbD x != s.getLsbD y) = !decide (cls (partsOf l) x = cls (partsOf l) y) := by
 obtain ⟨q, h1, h2⟩ := cls_class l hx
 have h3 := partsOf_alike l (List.mem_of_getElem? h1) hx hy h2
 have h4 : cls (partsOf l) x = cls (partsOf l) y ↔ Alike l x y := by
  rw [<- h3]
  constructor
  ·intro e
   obtain ⟨q', h5, h6⟩ := cls_class l hy
   rw [<- e, h1] at h5
   cases h5; exact h6
  ·intro h; exact ((cls_iff l hy).2 ⟨q, h1, h⟩).symm
 by_cases ha : Alike l x y
 ·rw [decide_eq_true (h4.2 ha)]
  rw [List.any_eq_false.2]
  ·rfl
  ·intro s hs; rw [ha s hs]; simp
 ·rw [decide_eq_false (fun e => ha (h4.1 e))]
  unfold Alike at ha
  simp only [Classical.not_forall] at ha
  obtain ⟨s, hs, hne⟩ := ha
  rw [List.any_eq_true.2]
  ·rfl
  ·exact ⟨s, hs, by simpa using hne⟩
end Go.Proofs.YtbiboekhakbnpaaGreatDoor

namespace Go.Proofs.YtbiboekhakbnpaaGreatDoor
open Go Go.RowKit Go.Shelf Go.Maps

structure IsPart (p : List BS) (R : Nat -> Nat -> Prop) : Prop where
 some : p.isEmpty = false
 apart : p.Pairwise Apart
 ne : ∀ q ∈ p, q ≠ 0
 cover : ∀ c, c < 256 -> ∃ (k : Nat) (q : BS), p[k]? = Option.some q /\ q.getLsbD c = true
 alike : ∀ q ∈ p, ∀ c d, c < 256 -> d < 256 -> q.getLsbD c = true -> (q.getLsbD d = true ↔ R c d)
 first : ∀ (i j : Nat) (x y : BS), p[i]? = Option.some x -> p[j]? = Option.some y -> i < j -> (firstOf x).1 < (firstOf y).1

theorem IsPart.of_parts (l : List BS) : IsPart (partsOf l) (Alike l) :=
 ⟨partsOf_isEmpty l, partsOf_apart l, fun _ h => partsOf_ne l h, partsOf_cover l, fun _ hq _ _ hc hd h => partsOf_alike l hq hc hd h, fun _ _ _ _ h1 h2 h3 => partsOf_first l h1 h2 h3⟩
theorem IsPart.cls_iff {p : List BS} {R : Nat -> Nat -> Prop} (h : IsPart p R) {c k : Nat} (hc : c < 256) : cls p c = k ↔ ∃ q : BS, p[k]? = Option.some q /\ q.getLsbD c = true := by
 have h1 : ∃ q, p[cls p c]? = Option.some q /\ q.getLsbD c = true := by
  rcases tabOf_get p c hc with ⟨k, s, h1, h2, h3⟩ | ⟨h1, _⟩
  ·rw [cls_get _ hc] at h3; cases h3; exact ⟨s, h1, h2⟩
  ·obtain ⟨k, q, h2, h3⟩ := h.cover c hc
   rw [h1 q (List.mem_of_getElem? h2)] at h3; cases h3
 constructor
 ·rintro rfl; exact h1
 ·rintro ⟨q, h2, h3⟩
  obtain ⟨q', h4, h5⟩ := h1
  exact apart_index h.apart h4 h2 h5 h3
theorem IsPart.same_cls {p : List BS} {R : Nat -> Nat -> Prop} (h : IsPart p R) {c d : Nat} (hc : c < 256) (hd : d < 256) : cls p c = cls p d ↔ R c d := by
 obtain ⟨q, h1, h2⟩ := (h.cls_iff hc).1 rfl
 rw [<- h.alike q (List.mem_of_getElem? h1) c d hc hd h2]
 constructor
 ·intro e
  obtain ⟨q', h3, h4⟩ := (h.cls_iff hd).1 rfl
  rw [<- e, h1] at h3; cases h3; exact h4
 ·intro h3; exact ((h.cls_iff hd).2 ⟨q, h1, h3⟩).symm
theorem IsPart.symm {p : List BS} {R : Nat -> Nat -> Prop} (h : IsPart p R) {c d : Nat} (hc : c < 256) (hd : d < 256) (hr : R c d) : R d c := (h.same_cls hd hc).1 ((h.same_cls hc hd).2 hr).symm

theorem not_zero_bit {s : BS} (h : s ≠ 0) : ∃ c, c < 256 /\ s.getLsbD c = true := by
 obtain ⟨_, h1, h2, _⟩ := first_of_ne h
 exact ⟨_, h1, h2⟩
theorem IsPart.mem_of {p q : List BS} {R S : Nat -> Nat -> Prop} (hp : IsPart p R) (hq : IsPart q S) (h : ∀ c d, c < 256 -> d < 256 -> (R c d ↔ S c d)) {x : BS} (hx : x ∈ p) : x ∈ q := by
 obtain ⟨c, hc, hxc⟩ := not_zero_bit (hp.ne x hx)
 obtain ⟨k, s, hs, hsc⟩ := hq.cover c hc
 have : x = s := BS.ext fun d hd => by
  rw [Bool.eq_iff_iff, hp.alike x hx c d hc hd hxc, hq.alike s (List.mem_of_getElem? hs) c d hc hd hsc, h c d hc hd]
 rw [this]; exact List.mem_of_getElem? hs
theorem IsPart.sorted {p : List BS} {R : Nat -> Nat -> Prop} (hp : IsPart p R) : p.Pairwise fun x y => (firstOf x).1 < (firstOf y).1 := by
 rw [List.pairwise_iff_getElem]
 intro i j hi hj hij
 exact hp.first i j _ _ (List.getElem?_eq_getElem hi) (List.getElem?_eq_getElem hj) hij
theorem strict_eq {f : BS -> Nat} : ∀ (p q : List BS), p.Pairwise (fun x y => f x < f y) -> q.Pairwise (fun x y => f x < f y) -> (∀ x, x ∈ p ↔ x ∈ q) -> p = q
 | [], q, _, _, h => by
  cases q with
  | nil => rfl
  | cons y q => have := (h y).2 (by simp); simp at this
 | x :: p, q, hp, hq, h => by
  cases q with
  | nil => have := (h x).1 (by simp); simp at this
  | cons y q =>
   rw [List.pairwise_cons] at hp hq
   have hxy : x = y := by
    have h1 := (h x).1 (by simp)
    have h2 := (h y).2 (by simp)
    rcases List.mem_cons.1 h1 with e | h1
    ·exact e
    ·rcases List.mem_cons.1 h2 with e | h2
     ·exact e.symm
     ·have a := hq.1 x h1; have b := hp.1 y h2; omega
   subst hxy
   congr 1
   refine strict_eq p q hp.2 hq.2 fun z => ?_
   have hz := h z
   simp only [List.mem_cons] at hz
   constructor
   ·intro hzp
    rcases hz.1 (.inr hzp) with e | h1
    ·subst e; have := hp.1 z hzp; omega
    ·exact h1
   ·intro hzq
    rcases hz.2 (.inr hzq) with e | h1
    ·subst e; have := hq.1 z hzq; omega
    ·exact h1
theorem IsPart.uniq {p q : List BS} {R S : Nat -> Nat -> Prop} (hp : IsPart p R) (hq : IsPart q S) (h : ∀ c d, c < 256 -> d < 256 -> (R c d ↔ S c d)) : p = q :=
 strict_eq p q hp.sorted hq.sorted fun _ => ⟨fun hx => hp.mem_of hq h hx, fun hx => hq.mem_of hp (fun c d hc hd => (h c d hc hd).symm) hx⟩
theorem IsPart.alike_iff {p : List BS} {R : Nat -> Nat -> Prop} (hp : IsPart p R) {c d : Nat} (hc : c < 256) (hd : d < 256) : Alike p c d ↔ R c d := by
 constructor
 ·intro h
  obtain ⟨k, s, hs, hsc⟩ := hp.cover c hc
  have := h s (List.mem_of_getElem? hs)
  exact (hp.alike s (List.mem_of_getElem? hs) c d hc hd hsc).1 (by rw [<- this]; exact hsc)
 ·intro hr s hs
  rw [Bool.eq_iff_iff]
  exact ⟨fun h => (hp.alike s hs c d hc hd h).2 hr, fun h => (hp.alike s hs d c hd hc h).2 (hp.symm hc hd hr)⟩
end Go.Proofs.YtbiboekhakbnpaaGreatDoor
