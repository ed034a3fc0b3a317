/-
  Plain law: alphabets as relations of bytes: finer, same, join.
-/
import Derived.Test.YtokkgbcjjaiaeaaPlain3
import Derived.Test.YtokkgbcjjaiaeaaAlph9
namespace Go.Proofs.Ytokkgbcjjaiaeaa
open Go Go.RowKit Go.Shelf Go.Maps

/-- p are the classes of R, in the order of their least bytes. -/
structure IsPart (p : List BS) (R : Nat → Nat → Prop) : Prop where
  some : p.isEmpty = false
  apart : p.Pairwise Apart
  ne : ∀ q ∈ p, q ≠ 0
  cover : ∀ c, c < 256 → ∃ (k : Nat) (q : BS), p[k]? = Option.some q ∧ q.getLsbD c = true
  alike : ∀ q ∈ p, ∀ c d, c < 256 → d < 256 → q.getLsbD c = true → (q.getLsbD d = true ↔ R c d)
  first : ∀ (i j : Nat) (x y : BS), p[i]? = Option.some x → p[j]? = Option.some y → i < j → (firstOf x).1 < (firstOf y).1

theorem IsPart.of_parts (l : List BS) : IsPart (partsOf l) (Alike l) :=
  ⟨partsOf_isEmpty l, partsOf_apart l, fun _ h => partsOf_ne l h, partsOf_cover l, fun _ hq _ _ hc hd h => partsOf_alike l hq hc hd h, fun _ _ _ _ h1 h2 h3 => partsOf_first l h1 h2 h3⟩
theorem IsPart.congr {p : List BS} {R S : Nat → Nat → Prop} (h : IsPart p R) (hrs : ∀ c d, c < 256 → d < 256 → (R c d ↔ S c d)) : IsPart p S :=
  ⟨h.some, h.apart, h.ne, h.cover, fun q hq c d hc hd hb => (h.alike q hq c d hc hd hb).trans (hrs c d hc hd), h.first⟩
theorem IsPart.cls_iff {p : List BS} {R : Nat → Nat → Prop} (h : IsPart p R) {c k : Nat} (hc : c < 256) : cls p c = k ↔ ∃ q : BS, p[k]? = Option.some q ∧ q.getLsbD c = true := by
  have h1 : ∃ q, p[cls p c]? = Option.some q ∧ q.getLsbD c = true := by
    rcases tabOf_get p c hc with ⟨k, s, h1, h2, h3⟩ | ⟨h1, _⟩
    · rw [cls_get _ hc] at h3; cases h3; exact ⟨s, h1, h2⟩
    · obtain ⟨k, q, h2, h3⟩ := h.cover c hc
      rw [h1 q (List.mem_of_getElem? h2)] at h3; cases h3
  constructor
  · rintro rfl; exact h1
  · rintro ⟨q, h2, h3⟩
    obtain ⟨q', h4, h5⟩ := h1
    exact apart_index h.apart h4 h2 h5 h3
theorem IsPart.same_cls {p : List BS} {R : Nat → Nat → Prop} (h : IsPart p R) {c d : Nat} (hc : c < 256) (hd : d < 256) : cls p c = cls p d ↔ R c d := by
  obtain ⟨q, h1, h2⟩ := (h.cls_iff hc).1 rfl
  rw [← h.alike q (List.mem_of_getElem? h1) c d hc hd h2]
  constructor
  · intro e
    obtain ⟨q', h3, h4⟩ := (h.cls_iff hd).1 rfl
    rw [← e, h1] at h3; cases h3; exact h4
  · intro h3; exact ((h.cls_iff hd).2 ⟨q, h1, h3⟩).symm
theorem IsPart.symm {p : List BS} {R : Nat → Nat → Prop} (h : IsPart p R) {c d : Nat} (hc : c < 256) (hd : d < 256) (hr : R c d) : R d c := (h.same_cls hd hc).1 ((h.same_cls hc hd).2 hr).symm

theorem not_zero_bit {s : BS} (h : s ≠ 0) : ∃ c, c < 256 ∧ s.getLsbD c = true := by
  obtain ⟨_, h1, h2, _⟩ := first_of_ne h
  exact ⟨_, h1, h2⟩
theorem IsPart.finer {p q : List BS} {R S : Nat → Nat → Prop} (hp : IsPart p R) (hq : IsPart q S) : finerOf p q = true ↔ ∀ c d, c < 256 → d < 256 → R c d → S c d := by
  unfold finerOf
  rw [hp.some, hq.some]
  simp only [Bool.not_false, Bool.true_and, List.all_eq_true, beq_iff_eq]
  have hcl : ∀ s : BS, (classesOf p s).2 = 0 ↔ ∀ x ∈ p, badTo s x = false := fun s => by
    unfold classesOf
    rw [hp.some]
    simp only [Bool.false_eq_true, if_false]
    cases hb : p.any (badTo s) with
    | true =>
      rw [if_pos rfl]
      obtain ⟨x, hx, hbx⟩ := List.any_eq_true.1 hb
      constructor
      · intro h; cases h
      · intro h; rw [h x hx] at hbx; cases hbx
    | false =>
      rw [if_neg (by decide)]
      constructor
      · intro _ x hx
        cases hbx : badTo s x with
        | false => rfl
        | true => rw [List.any_eq_true.2 ⟨x, hx, hbx⟩] at hb; cases hb
      · intro _; rfl
  simp only [hcl]
  constructor
  · intro h c d hc hd hr
    obtain ⟨k, x, hx, hxc⟩ := hp.cover c hc
    obtain ⟨j, s, hs, hsc⟩ := hq.cover c hc
    have hxm := List.mem_of_getElem? hx
    have hxd := (hp.alike x hxm c d hc hd hxc).2 hr
    refine (hq.alike s (List.mem_of_getElem? hs) c d hc hd hsc).1 ?_
    have hb := h s (List.mem_of_getElem? hs) x hxm
    unfold badTo at hb
    have h2 : (x &&& s == 0) = false := by
      rw [beq_eq_false_iff_ne]; intro e
      have : (x &&& s).getLsbD c = true := by rw [bit_and]; exact ⟨hxc, hsc⟩
      rw [e, bs_zero_bit] at this; cases this
    rw [h2] at hb
    have h3 : x &&& ~~~s = 0 := by simpa using hb
    cases hsd : s.getLsbD d with
    | true => rfl
    | false =>
      have : (x &&& ~~~s).getLsbD d = true := by rw [bit_and]; exact ⟨hxd, by rw [not_bit _ hd, hsd]; rfl⟩
      rw [h3, bs_zero_bit] at this; cases this
  · intro h s hs x hx
    cases hb : badTo s x with
    | false => rfl
    | true =>
      exfalso
      unfold badTo at hb
      rw [Bool.and_eq_true, Bool.not_eq_true', Bool.not_eq_true', beq_eq_false_iff_ne, beq_eq_false_iff_ne] at hb
      obtain ⟨d, hd, hxd⟩ := not_zero_bit hb.1
      obtain ⟨c, hc, hxc⟩ := not_zero_bit hb.2
      rw [bit_and] at hxd hxc
      have hr := (hp.alike x hx c d hc hd hxc.1).1 hxd.1
      have h2 := (hq.alike s hs c d hc hd hxc.2).2 (h c d hc hd hr)
      have h3 := hxd.2
      rw [not_bit _ hd, h2] at h3; cases h3

theorem IsPart.mem_of {p q : List BS} {R S : Nat → Nat → Prop} (hp : IsPart p R) (hq : IsPart q S) (h : ∀ c d, c < 256 → d < 256 → (R c d ↔ S c d)) {x : BS} (hx : x ∈ p) : x ∈ q := by
  obtain ⟨c, hc, hxc⟩ := not_zero_bit (hp.ne x hx)
  obtain ⟨k, s, hs, hsc⟩ := hq.cover c hc
  have : x = s := BS.ext fun d hd => by
    rw [Bool.eq_iff_iff, hp.alike x hx c d hc hd hxc, hq.alike s (List.mem_of_getElem? hs) c d hc hd hsc, h c d hc hd]
  rw [this]; exact List.mem_of_getElem? hs
theorem IsPart.sorted {p : List BS} {R : Nat → Nat → Prop} (hp : IsPart p R) : p.Pairwise fun x y => (firstOf x).1 < (firstOf y).1 := by
  rw [List.pairwise_iff_getElem]
  intro i j hi hj hij
  exact hp.first i j _ _ (List.getElem?_eq_getElem hi) (List.getElem?_eq_getElem hj) hij
/-- Two lists in strict order with the same elements are one. -/
theorem strict_eq {f : BS → Nat} : ∀ (p q : List BS), p.Pairwise (fun x y => f x < f y) → q.Pairwise (fun x y => f x < f y) → (∀ x, x ∈ p ↔ x ∈ q) → p = q
  | [], q, _, _, h => by
    cases q with
    | nil => rfl
    | cons y q => have := (h y).2 (by simp); simp at this
  | x :: p, q, hp, hq, h => by
    cases q with
    | nil => have := (h x).1 (by simp); simp at this
    | cons y q =>
      rw [List.pairwise_cons] at hp hq
      have hxy : x = y := by
        have h1 := (h x).1 (by simp)
        have h2 := (h y).2 (by simp)
        rcases List.mem_cons.1 h1 with e | h1
        · exact e
        · rcases List.mem_cons.1 h2 with e | h2
          · exact e.symm
          · have a := hq.1 x h1; have b := hp.1 y h2; omega
      subst hxy
      congr 1
      refine strict_eq p q hp.2 hq.2 fun z => ?_
      have hz := h z
      simp only [List.mem_cons] at hz
      constructor
      · intro hzp
        rcases hz.1 (.inr hzp) with e | h1
        · subst e; have := hp.1 z hzp; omega
        · exact h1
      · intro hzq
        rcases hz.2 (.inr hzq) with e | h1
        · subst e; have := hq.1 z hzq; omega
        · exact h1
theorem IsPart.uniq {p q : List BS} {R S : Nat → Nat → Prop} (hp : IsPart p R) (hq : IsPart q S) (h : ∀ c d, c < 256 → d < 256 → (R c d ↔ S c d)) : p = q :=
  strict_eq p q hp.sorted hq.sorted fun _ => ⟨fun hx => hp.mem_of hq h hx, fun hx => hq.mem_of hp (fun c d hc hd => (h c d hc hd).symm) hx⟩
theorem IsPart.same {p q : List BS} {R S : Nat → Nat → Prop} (hp : IsPart p R) (hq : IsPart q S) : sameOf p q = true ↔ ∀ c d, c < 256 → d < 256 → (R c d ↔ S c d) := by
  constructor
  · intro h c d hc hd
    unfold sameOf tabEq at h
    rw [hp.some, hq.some] at h
    simp only [Bool.not_false, Bool.true_and, List.all_eq_true, List.mem_range, beq_iff_eq] at h
    rw [← hp.same_cls hc hd, ← hq.same_cls hc hd]
    have h1 := h c hc
    have h2 := h d hd
    omega
  · intro h
    rw [hp.uniq hq h]
    unfold sameOf tabEq
    rw [hq.some]
    simp
theorem IsPart.alike_iff {p : List BS} {R : Nat → Nat → Prop} (hp : IsPart p R) {c d : Nat} (hc : c < 256) (hd : d < 256) : Alike p c d ↔ R c d := by
  constructor
  · intro h
    obtain ⟨k, s, hs, hsc⟩ := hp.cover c hc
    have := h s (List.mem_of_getElem? hs)
    exact (hp.alike s (List.mem_of_getElem? hs) c d hc hd hsc).1 (by rw [← this]; exact hsc)
  · intro hr s hs
    rw [Bool.eq_iff_iff]
    exact ⟨fun h => (hp.alike s hs c d hc hd h).2 hr, fun h => (hp.alike s hs d c hd hc h).2 (hp.symm hc hd hr)⟩
theorem alike_append {l m : List BS} {c d : Nat} : Alike (l ++ m) c d ↔ Alike l c d ∧ Alike m c d := by
  unfold Alike
  constructor
  · intro h; exact ⟨fun s hs => h s (List.mem_append.2 (.inl hs)), fun s hs => h s (List.mem_append.2 (.inr hs))⟩
  · rintro ⟨h1, h2⟩ s hs
    rcases List.mem_append.1 hs with h | h
    · exact h1 s h
    · exact h2 s h
theorem IsPart.join {p q : List BS} {R S : Nat → Nat → Prop} (hp : IsPart p R) (hq : IsPart q S) : IsPart (partsOf (p ++ q)) (fun c d => R c d ∧ S c d) :=
  (IsPart.of_parts _).congr fun c d hc hd => by rw [alike_append, hp.alike_iff hc hd, hq.alike_iff hc hd]

theorem oneB_bit {c d : Nat} (hd : d < 256) : (oneB c).getLsbD d = true ↔ d = c := by
  unfold oneB
  rw [bsOf_bit _ hd]
  simp
theorem allTo_get {k : Nat} (hk : k < 256) : (allTo 256)[k]? = some (oneB k) := by
  unfold allTo
  rw [List.getElem?_map, List.getElem?_range hk]; rfl
theorem oneB_ne {k : Nat} (hk : k < 256) : oneB k ≠ 0 := fun e => by
  have := (oneB_bit (c := k) hk).2 rfl
  rw [e, bs_zero_bit] at this; cases this
theorem oneB_first {k : Nat} (hk : k < 256) : (firstOf (oneB k)).1 = k := by
  obtain ⟨_, h1, h2, _⟩ := first_of_ne (oneB_ne hk)
  exact (oneB_bit h1).1 h2
theorem allTo_part : IsPart (allTo 256) (fun c d => c = d) where
  some := by
    have := allTo_len 256
    cases h : allTo 256 with
    | nil => rw [h] at this; simp at this
    | cons => rfl
  apart := by
    rw [List.pairwise_iff_getElem]
    intro i j hi hj hij c ⟨h1, h2⟩
    have hi' : i < 256 := by have := allTo_len 256; omega
    have hj' : j < 256 := by have := allTo_len 256; omega
    have e1 := (List.getElem_eq_iff hi).2 (allTo_get hi')
    have e2 := (List.getElem_eq_iff hj).2 (allTo_get hj')
    have hc : c < 256 := BitVec.lt_of_getLsbD h1
    rw [e1] at h1
    rw [e2] at h2
    have a := (oneB_bit hc).1 h1
    have b := (oneB_bit hc).1 h2
    omega
  ne := fun q hq => by
    obtain ⟨k, hk⟩ := List.getElem?_of_mem hq
    have hlt : k < 256 := by have := (List.getElem?_eq_some_iff.1 hk).1; rwa [allTo_len] at this
    rw [allTo_get hlt] at hk; cases hk
    exact oneB_ne hlt
  cover := fun c hc => ⟨c, oneB c, allTo_get hc, (oneB_bit hc).2 rfl⟩
  alike := fun q hq c d hc hd h => by
    obtain ⟨k, hk⟩ := List.getElem?_of_mem hq
    have hlt : k < 256 := by have := (List.getElem?_eq_some_iff.1 hk).1; rwa [allTo_len] at this
    rw [allTo_get hlt] at hk; cases hk
    rw [oneB_bit hc] at h
    rw [oneB_bit hd]
    omega
  first := fun i j x y hi hj hij => by
    have hi' : i < 256 := by have := (List.getElem?_eq_some_iff.1 hi).1; rwa [allTo_len] at this
    have hj' : j < 256 := by have := (List.getElem?_eq_some_iff.1 hj).1; rwa [allTo_len] at this
    rw [allTo_get hi'] at hi; rw [allTo_get hj'] at hj
    cases hi; cases hj
    rw [oneB_first hi', oneB_first hj']; exact hij
theorem parts_nil_len : (partsOf []).length = 1 := by
  rw [(partsOf_perm []).length_eq]; rfl
end Go.Proofs.Ytokkgbcjjaiaeaa
