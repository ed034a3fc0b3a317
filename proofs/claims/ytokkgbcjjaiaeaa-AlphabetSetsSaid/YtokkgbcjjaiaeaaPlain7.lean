/-
  Plain law: unions of classes; a sorted list without its repetitions.
-/
import Derived.Test.YtokkgbcjjaiaeaaPlain5
import Derived.Test.YtokkgbcjjaiaeaaSorted
import Derived.Test.YtokkgbcjjaiaeaaSize
namespace Go.Proofs.Ytokkgbcjjaiaeaa
open Go Go.RowKit Go.Shelf Go.Maps

/-! A list, sorted and compacted. -/
theorem sortZ_sorted (l : List Int) : (sortZ l).Pairwise (· ≤ ·) := by
  have := List.pairwise_mergeSort (le := fun x y : Int => decide (x ≤ y)) (fun a b c h1 h2 => by simp at *; omega) (fun a b => by simp; omega) l
  exact this.imp fun h => by simpa using h
theorem sortZ_mem {l : List Int} {x : Int} : x ∈ sortZ l ↔ x ∈ l := (List.mergeSort_perm _ _).mem_iff
theorem get_bang (l : List Int) {i : Nat} (hi : i < l.length) : l.toArray[i]! = l[i] := by simp [hi]
theorem compact_mem {l : List Int} {x : Int} : x ∈ Lib.compact l ↔ x ∈ l := by
  unfold Lib.compact Lib.compactUpTo
  simp only [List.mem_map, List.mem_filter, List.mem_range]
  constructor
  · rintro ⟨i, ⟨hi, _⟩, rfl⟩
    rw [get_bang l hi]; exact List.getElem_mem _
  · intro hx
    obtain ⟨i, hi, rfl⟩ := List.getElem_of_mem hx
    suffices ∀ i, (hi : i < l.length) → ∃ j, (j < l.length ∧ Lib.keeps l.toArray j = true) ∧ l.toArray[j]! = l[i] from this i hi
    intro i
    induction i with
    | zero => intro hi; exact ⟨0, ⟨hi, by simp [Lib.keeps]⟩, get_bang l hi⟩
    | succ i ih =>
      intro hi
      by_cases h : l.toArray[i + 1]! = l.toArray[i]!
      · obtain ⟨j, h1, h2⟩ := ih (by omega)
        refine ⟨j, h1, ?_⟩
        rw [get_bang l hi, get_bang l (by omega)] at h
        rw [h2, h]
      · exact ⟨i + 1, ⟨hi, by simp only [Lib.keeps, decide_eq_true_eq]; exact .inr (by simpa using h)⟩, get_bang l hi⟩
theorem compact_sorted {l : List Int} (h : l.Pairwise (· ≤ ·)) : (Lib.compact l).Pairwise (· < ·) := by
  unfold Lib.compact Lib.compactUpTo
  rw [List.pairwise_map]
  have hr : ((List.range l.length).filter (Lib.keeps l.toArray)).Pairwise (· < ·) := List.pairwise_lt_range.filter _
  refine List.Pairwise.imp_of_mem (fun {i j} hi hj hij => ?_) hr
  rw [List.mem_filter, List.mem_range] at hi hj
  have hk := hj.2
  simp only [Lib.keeps, decide_eq_true_eq] at hk
  rcases hk with hk | hk
  · omega
  · have h1 := List.pairwise_iff_getElem.1 h
    rw [get_bang l hj.1, get_bang l (by omega)] at hk
    rw [get_bang l hi.1, get_bang l hj.1]
    have h2 := h1 (j - 1) j (by omega) hj.1 (by omega)
    by_cases e : i = j - 1
    · subst e; omega
    · have h3 := h1 i (j - 1) hi.1 (by omega) (by omega)
      omega
theorem compact_sort {gn : List Nat} {n : Nat} (h : ∀ k ∈ gn, k < n) : Lib.compact (sortZ (gn.map Int.ofNat)) = ((List.range n).filter fun k => gn.contains k).map Int.ofNat := by
  obtain ⟨C, hC⟩ : ∃ C, C = Lib.compact (sortZ (gn.map Int.ofNat)) := ⟨_, rfl⟩
  have hs : C.Pairwise (· < ·) := by rw [hC]; exact compact_sorted (sortZ_sorted _)
  have hm : ∀ x, x ∈ C ↔ ∃ k ∈ gn, (k : Int) = x := fun x => by
    rw [hC, compact_mem, sortZ_mem, List.mem_map]; rfl
  rw [← hC]
  have hp : ∀ x ∈ C, 0 ≤ x := fun x hx => by obtain ⟨k, _, rfl⟩ := (hm x).1 hx; omega
  have e1 : (C.map Int.toNat).map Int.ofNat = C := by
    rw [List.map_map]
    exact (List.map_congr_left fun x hx => Int.toNat_of_nonneg (hp x hx)).trans (List.map_id _)
  rw [← e1]
  congr 1
  refine sortedN_eq _ _ ?_ (List.pairwise_lt_range.filter _) fun k => ?_
  · rw [List.pairwise_map]
    exact List.Pairwise.imp_of_mem (fun {a b} ha hb hab => by have := hp a ha; have := hp b hb; omega) hs
  · rw [List.mem_filter, List.mem_range, List.contains_iff_mem, List.mem_map]
    constructor
    · rintro ⟨x, hx, rfl⟩
      obtain ⟨k, hk, rfl⟩ := (hm x).1 hx
      exact ⟨h k hk, hk⟩
    · rintro ⟨_, hk⟩
      exact ⟨k, (hm _).2 ⟨k, hk, rfl⟩, Int.toNat_natCast k⟩

/-! Unions of classes. -/
def Uni (p : List BS) (S : Nat → Bool) (s : BS) : Prop := ∀ c, c < 256 → s.getLsbD c = S (cls p c)
theorem Uni.or {p : List BS} {S T : Nat → Bool} {s t : BS} (h : Uni p S s) (k : Uni p T t) : Uni p (fun i => S i || T i) (s ||| t) := fun c hc => by rw [BitVec.getLsbD_or, h c hc, k c hc]
theorem Uni.and {p : List BS} {S T : Nat → Bool} {s t : BS} (h : Uni p S s) (k : Uni p T t) : Uni p (fun i => S i && T i) (s &&& t) := fun c hc => by rw [BitVec.getLsbD_and, h c hc, k c hc]
theorem Uni.not {p : List BS} {S : Nat → Bool} {s : BS} (h : Uni p S s) : Uni p (fun i => !S i) (~~~s) := fun c hc => by rw [not_bit _ hc, h c hc]

section
variable {p : List BS} {R : Nat → Nat → Prop} (hp : IsPart p R)
include hp
theorem IsPart.cls_bit {k c : Nat} {q : BS} (hk : p[k]? = Option.some q) (hc : c < 256) : q.getLsbD c = true ↔ cls p c = k := by
  rw [hp.cls_iff hc]
  exact ⟨fun h => ⟨q, hk, h⟩, fun ⟨q', h1, h2⟩ => by rw [hk] at h1; cases h1; exact h2⟩
theorem IsPart.cls_at {c : Nat} (hc : c < 256) : ∃ q, p[cls p c]? = Option.some q ∧ q.getLsbD c = true := (hp.cls_iff hc).1 rfl
theorem IsPart.uni_class {k : Nat} {q : BS} (hk : p[k]? = Option.some q) : Uni p (fun i => i == k) q := fun c hc => by
  rw [Bool.eq_iff_iff, hp.cls_bit hk hc, beq_iff_eq]
theorem IsPart.uni_classes {S : Nat → Bool} {s : BS} (h : Uni p S s) : classesOf p s = ((List.range p.length).filter S, 0) := by
  have key : ∀ (k : Nat) (q : BS), p[k]? = Option.some q → (q &&& ~~~s = 0 ↔ S k = true) ∧ badTo s q = false := fun k q hk => by
    obtain ⟨_, a1, a2, _⟩ := first_of_ne (hp.ne q (List.mem_of_getElem? hk))
    have hb : ∀ c, c < 256 → q.getLsbD c = true → s.getLsbD c = S k := fun c hc hq => by rw [h c hc, (hp.cls_bit hk hc).1 hq]
    cases hs : S k with
    | true =>
      have hw : q &&& ~~~s = 0 := bs_eq_zero fun c hc hb' => by
        rw [bit_and] at hb'
        have h2 := hb'.2
        rw [not_bit _ hc, hb c hc hb'.1, hs] at h2; cases h2
      exact ⟨⟨fun _ => rfl, fun _ => hw⟩, by unfold badTo; rw [hw]; rfl⟩
    | false =>
      have hm : q &&& s = 0 := bs_eq_zero fun c hc hb' => by
        rw [bit_and] at hb'
        rw [hb c hc hb'.1, hs] at hb'; cases hb'.2
      refine ⟨⟨fun hw => ?_, fun h => by cases h⟩, by unfold badTo; rw [hm]; simp⟩
      have : (q &&& ~~~s).getLsbD (firstOf q).1 = true := by rw [bit_and]; exact ⟨a2, by rw [not_bit _ a1, hb _ a1 a2, hs]; rfl⟩
      rw [hw, bs_zero_bit] at this; cases this
  have hnb : p.any (badTo s) = false := by
    rw [List.any_eq_false]
    intro q hq
    obtain ⟨k, hk⟩ := List.getElem?_of_mem hq
    rw [(key k q hk).2]; decide
  unfold classesOf
  rw [hp.some, if_neg (by decide), hnb, if_neg (by decide)]
  congr 1
  refine sortedN_eq _ _ (indsOf_sorted s p) (List.pairwise_lt_range.filter _) fun k => ?_
  rw [mem_indsOf, List.mem_filter, List.mem_range]
  constructor
  · rintro ⟨q, h1, h2⟩
    exact ⟨(List.getElem?_eq_some_iff.1 h1).1, (key k q h1).1.1 h2⟩
  · rintro ⟨h1, h2⟩
    exact ⟨_, List.getElem?_eq_getElem h1, (key k _ (List.getElem?_eq_getElem h1)).1.2 h2⟩
theorem IsPart.uni_or {gn : List Nat} (h : ∀ k ∈ gn, k < p.length) : Uni p (fun k => gn.contains k) (orOf p (gn.map Int.ofNat)) := fun c hc => by
  rw [Bool.eq_iff_iff, orOf_bit, List.contains_iff_mem]
  constructor
  · rintro ⟨k, hk, hb⟩
    obtain ⟨m, hm, rfl⟩ := List.mem_map.1 hk
    have hq : p[m]? = Option.some (p[m]'(h m hm)) := List.getElem?_eq_getElem _
    rw [show setOf p (Int.ofNat m) = _ from (setOf_nat p m).trans hq] at hb
    rw [(hp.cls_bit hq hc).1 hb]; exact hm
  · intro hm
    obtain ⟨q, h1, h2⟩ := hp.cls_at hc
    refine ⟨Int.ofNat (cls p c), List.mem_map.2 ⟨_, hm, rfl⟩, ?_⟩
    rw [show setOf p (Int.ofNat (cls p c)) = _ from (setOf_nat p _).trans h1]
    exact h2
theorem IsPart.together {gn : List Nat} (h : ∀ k ∈ gn, k < p.length) : togetherOf p (gn.map Int.ofNat) = (orOf p (gn.map Int.ofNat), 0) := by
  unfold togetherOf
  rw [hp.some, if_neg (by decide), if_pos]
  rw [List.all_eq_true]
  intro x hx
  obtain ⟨m, hm, rfl⟩ := List.mem_map.1 hx
  rw [show setOf p (Int.ofNat m) = _ from (setOf_nat p m).trans (List.getElem?_eq_getElem (h m hm))]; rfl
/-- A union of classes, of which one has lost a byte. -/
theorem IsPart.less {S : Nat → Bool} {s q : BS} {c : Nat} (h : Uni p S s) (hc : c < 256) (hq : p[cls p c]? = Option.some q) :
    ((bytesTo q 256).length = 1 → (classesOf p ((s ||| q) &&& ~~~oneB c)).2 = 0) ∧ ((bytesTo q 256).length ≠ 1 → classesOf p ((s ||| q) &&& ~~~oneB c) = ([], 160)) := by
  have hcq := (hp.cls_bit hq hc).2 rfl
  have hbit : ∀ d, d < 256 → ((s ||| q) &&& ~~~oneB c).getLsbD d = ((S (cls p d) || cls p d == cls p c) && !(d == c)) := fun d hd => by
    rw [BitVec.getLsbD_and, BitVec.getLsbD_or, not_bit _ hd, h d hd, hp.uni_class hq d hd]
    congr 2
    rw [Bool.eq_iff_iff, oneB_bit hd, beq_iff_eq]
  have hmem : ∀ d, d ∈ bytesTo q 256 ↔ d < 256 ∧ q.getLsbD d = true := fun d => by unfold bytesTo; rw [List.mem_filter, List.mem_range]
  constructor
  · intro h1
    obtain ⟨x, hx⟩ := List.length_eq_one_iff.1 h1
    have hxc : x = c := by
      have := (hmem c).2 ⟨hc, hcq⟩
      rw [hx] at this
      exact (List.mem_singleton.1 this).symm
    have hu : Uni p (fun i => S i && !(i == cls p c)) ((s ||| q) &&& ~~~oneB c) := fun d hd => by
      rw [hbit d hd]
      by_cases e : cls p d = cls p c
      · have : d ∈ bytesTo q 256 := (hmem d).2 ⟨hd, (hp.cls_bit hq hd).2 e⟩
        rw [hx, hxc] at this
        rw [List.mem_singleton.1 this]; simp
      · have hdc : d ≠ c := fun h => e (by rw [h])
        rw [beq_eq_false_iff_ne.2 e, beq_eq_false_iff_ne.2 hdc, Bool.or_false]
        show _ = (S (cls p d) && !(cls p d == cls p c))
        rw [beq_eq_false_iff_ne.2 e]
    rw [hp.uni_classes hu]
  · intro h1
    obtain ⟨d, hd, hdq, hdc⟩ : ∃ d, d < 256 ∧ q.getLsbD d = true ∧ d ≠ c := by
      by_cases hex : ∃ d, d ∈ bytesTo q 256 ∧ d ≠ c
      · obtain ⟨d, h2, h3⟩ := hex
        exact ⟨d, ((hmem d).1 h2).1, ((hmem d).1 h2).2, h3⟩
      · exfalso
        have hall : ∀ d ∈ bytesTo q 256, d = c := fun d hd => Classical.byContradiction fun h => hex ⟨d, hd, h⟩
        have hs : (bytesTo q 256).Pairwise (· < ·) := by unfold bytesTo; exact List.pairwise_lt_range.filter _
        have hone : bytesTo q 256 = [c] := sortedN_eq _ _ hs (by simp) fun d => ⟨fun h => by rw [hall d h]; simp, fun h => by rw [List.mem_singleton.1 h]; exact (hmem c).2 ⟨hc, hcq⟩⟩
        rw [hone] at h1; exact h1 rfl
    have hbad : badTo ((s ||| q) &&& ~~~oneB c) q = true := by
      unfold badTo
      rw [Bool.and_eq_true, Bool.not_eq_true', Bool.not_eq_true', beq_eq_false_iff_ne, beq_eq_false_iff_ne]
      constructor
      · intro e
        have : (q &&& ~~~((s ||| q) &&& ~~~oneB c)).getLsbD c = true := by
          rw [bit_and]; exact ⟨hcq, by rw [not_bit _ hc, hbit c hc]; simp⟩
        rw [e, bs_zero_bit] at this; cases this
      · intro e
        have : (q &&& ((s ||| q) &&& ~~~oneB c)).getLsbD d = true := by
          rw [bit_and]; exact ⟨hdq, by rw [hbit d hd, (hp.cls_bit hq hd).1 hdq]; simp [hdc]⟩
        rw [e, bs_zero_bit] at this; cases this
    unfold classesOf
    rw [hp.some, if_neg (by decide), if_pos (List.any_eq_true.2 ⟨q, List.mem_of_getElem? hq, hbad⟩)]
end
end Go.Proofs.Ytokkgbcjjaiaeaa
