/-
  Plain law: what the program's alphabet tells, and what the reference's does.
-/
import Derived.Test.YtokkgbcjjaiaeaaPlain5
import Derived.Test.YtokkgbcjjaiaeaaRefC
namespace Go.Proofs.Ytokkgbcjjaiaeaa
open Go Go.RowKit Go.Shelf Go.Maps

theorem refS_one (s : BS) (c : Nat) : refS s c = 1 ↔ s.getLsbD c = true := by
  unfold refS; cases s.getLsbD c <;> simp
theorem refS_eq (s : BS) (c d : Nat) : refS s c = refS s d ↔ s.getLsbD c = s.getLsbD d := by
  unfold refS; cases s.getLsbD c <;> cases s.getLsbD d <;> simp
/-- A class has a set whole, where the set has its least byte and no byte of the class is told apart from it. -/
theorem IsPart.whole {p : List BS} {R : Nat → Nat → Prop} (hp : IsPart p R) {f : Nat → Int} (hf : IsRef f R) {s q : BS} {k : Nat} (hk : p[k]? = Option.some q) (h : ∀ c, c < 256 → refS s c = refS s (f c).toNat) :
    (q &&& ~~~s = 0 ↔ s.getLsbD (firstOf q).1 = true) ∧ badTo s q = false := by
  obtain ⟨_, a1, a2, a3⟩ := first_of_ne (hp.ne q (List.mem_of_getElem? hk))
  have hb : ∀ c, c < 256 → q.getLsbD c = true → s.getLsbD c = s.getLsbD (firstOf q).1 := fun c hc hq => by
    have h1 := h c hc
    rw [hp.least hf hc hk hq, Int.toNat_natCast, refS_eq] at h1
    exact h1
  cases hs : s.getLsbD (firstOf q).1 with
  | true =>
    have hw : q &&& ~~~s = 0 := bs_eq_zero fun c hc hb' => by
      rw [bit_and] at hb'
      have h1 := hb c hc hb'.1
      have h2 := hb'.2
      rw [not_bit _ hc, h1, hs] at h2; cases h2
    exact ⟨⟨fun _ => rfl, fun _ => hw⟩, by unfold badTo; rw [hw]; rfl⟩
  | false =>
    have hm : q &&& s = 0 := bs_eq_zero fun c hc hb' => by
      rw [bit_and] at hb'
      have h1 := hb c hc hb'.1
      rw [h1, hs] at hb'; cases hb'.2
    refine ⟨⟨fun hw => ?_, fun h => by cases h⟩, by unfold badTo; rw [hm]; simp⟩
    have : (q &&& ~~~s).getLsbD (firstOf q).1 = true := by rw [bit_and]; exact ⟨a2, by rw [not_bit _ a1, hs]; rfl⟩
    rw [hw, bs_zero_bit] at this; cases this
theorem classes_link {p : List BS} {R : Nat → Nat → Prop} (hp : IsPart p R) {f : Nat → Int} (hf : IsRef f R) (s : BS) :
    ((∃ c, c < 256 ∧ refS s c ≠ refS s (f c).toNat) → classesOf p s = ([], 160)) ∧
    ((∀ c, c < 256 → refS s c = refS s (f c).toNat) → classesOf p s = (pickTo f (refS s) (leastsTo f 256).length, 0)) := by
  constructor
  · rintro ⟨c, hc, hne⟩
    obtain ⟨k, q, hk, hq⟩ := hp.cover c hc
    have hm := List.mem_of_getElem? hk
    obtain ⟨_, a1, a2, a3⟩ := first_of_ne (hp.ne q hm)
    rw [hp.least hf hc hk hq, Int.toNat_natCast] at hne
    have hne' : s.getLsbD c ≠ s.getLsbD (firstOf q).1 := fun e => hne ((refS_eq _ _ _).2 e)
    have hbad : badTo s q = true := by
      unfold badTo
      rw [Bool.and_eq_true, Bool.not_eq_true', Bool.not_eq_true', beq_eq_false_iff_ne, beq_eq_false_iff_ne]
      constructor
      · intro e
        have hz : ∀ d, d < 256 → q.getLsbD d = true → s.getLsbD d = true := fun d hd hqd => by
          cases hs : s.getLsbD d with
          | true => rfl
          | false =>
            have : (q &&& ~~~s).getLsbD d = true := by rw [bit_and]; exact ⟨hqd, by rw [not_bit _ hd, hs]; rfl⟩
            rw [e, bs_zero_bit] at this; cases this
        exact hne' ((hz c hc hq).trans (hz _ a1 a2).symm)
      · intro e
        have hz : ∀ d, q.getLsbD d = true → s.getLsbD d = false := fun d hqd => by
          cases hs : s.getLsbD d with
          | false => rfl
          | true =>
            have : (q &&& s).getLsbD d = true := by rw [bit_and]; exact ⟨hqd, hs⟩
            rw [e, bs_zero_bit] at this; cases this
        exact hne' ((hz c hq).trans (hz _ a2).symm)
    unfold classesOf
    rw [hp.some, if_neg (by decide), if_pos (List.any_eq_true.2 ⟨q, hm, hbad⟩)]
  · intro h
    have hnb : p.any (badTo s) = false := by
      rw [List.any_eq_false]
      intro q hq
      obtain ⟨k, hk⟩ := List.getElem?_of_mem hq
      rw [(hp.whole hf hk h).2]; decide
    unfold classesOf
    rw [hp.some, if_neg (by decide), hnb, if_neg (by decide)]
    congr 1
    refine sortedN_eq _ _ (indsOf_sorted s p) ?_ fun k => ?_
    · unfold pickTo; exact List.pairwise_lt_range.filter _
    · rw [mem_indsOf]
      unfold pickTo
      rw [List.mem_filter, List.mem_range, beq_iff_eq, refS_one, hp.leasts hf, List.length_map, List.getElem?_map]
      constructor
      · rintro ⟨q, h1, h2⟩
        refine ⟨(List.getElem?_eq_some_iff.1 h1).1, ?_⟩
        rw [h1]
        exact ((hp.whole hf h1 h).1).1 h2
      · rintro ⟨h1, h2⟩
        obtain ⟨q, hq⟩ : ∃ q, p[k]? = Option.some q := ⟨_, List.getElem?_eq_getElem h1⟩
        rw [hq] at h2
        exact ⟨q, hq, ((hp.whole hf hq h).1).2 h2⟩

theorem Agrees.inR_iff {p : List BS} {f : Nat → Int} (h : Agrees p f) (x : Int) : inR f x = (setOf p x).isSome := by
  unfold inR
  rw [← h.len]
  rcases setOf_ex p x with ⟨h1, h2⟩ | ⟨n, s, rfl, h1, h2, h3⟩
  · rw [h1]
    rcases h2 with h2 | h2
    · rw [decide_eq_false (by omega)]; rfl
    · rw [decide_eq_false (show ¬ x < (p.length : Int) by omega), Bool.and_false]; rfl
  · rw [h3, decide_eq_true (by omega), decide_eq_true (by omega)]; rfl
theorem Agrees.at {p : List BS} {f : Nat → Int} (h : Agrees p f) {x : Int} (hx : inR f x = true) : ∃ (n m : Nat) (s : BS), x = n ∧ (leastsTo f 256)[n]? = some m ∧ setOf p x = some s ∧ backS (refSetOf f m) = s ∧ leastOf p x = (m, true) := by
  obtain ⟨n, m, rfl, hm⟩ := inR_some hx
  obtain ⟨s, h1, h2, h3⟩ := h.cls n m hm
  exact ⟨n, m, s, rfl, hm, (setOf_nat p n).trans h1, h2, h3⟩
theorem backS_bit (f : Nat → Int) {c : Nat} (hc : c < 256) : (backS f).getLsbD c = (f c == 1) := by unfold backS; exact bsOf_bit _ hc
theorem backS_orR {f g : Nat → Int} (hf : ∀ c, 0 ≤ f c ∧ f c ≤ 1) (hg : ∀ c, 0 ≤ g c ∧ g c ≤ 1) : backS (orR f g) = backS f ||| backS g := by
  refine BS.ext fun c hc => ?_
  rw [BitVec.getLsbD_or, backS_bit _ hc, backS_bit _ hc, backS_bit _ hc, Bool.eq_iff_iff]
  unfold orR
  have h1 := hf c
  have h2 := hg c
  rw [Bool.or_eq_true, beq_iff_eq, beq_iff_eq, beq_iff_eq]
  split <;> omega
theorem backS_zero : backS (fun _ => 0) = 0 := by
  refine BS.ext fun c hc => ?_
  rw [backS_bit _ hc, bs_zero_bit]; rfl
theorem agrees_orAll {p : List BS} {f : Nat → Int} (h : Agrees p f) (l : List Int) (hl : ∀ x ∈ l, inR f x = true) : backS (orAll f l) = orOf p l := by
  suffices ∀ r : List Int, (∀ x ∈ r, inR f x = true) → backS (orAll f r.reverse) = orOf p r.reverse by
    have := this l.reverse (fun x hx => hl x (List.mem_reverse.1 hx)); rwa [List.reverse_reverse] at this
  intro r
  induction r with
  | nil => intro _; exact backS_zero
  | cons x r ih =>
    intro hr
    rw [List.reverse_cons, orAll_snoc, orOf_snoc, backS_orR (f := orAll f r.reverse) (g := setR f x) (fun c => orAll_01 f _ c) (fun c => by unfold setR; exact refSetOf_01 f _ c), ih fun y hy => hr y (List.mem_cons_of_mem _ hy)]
    obtain ⟨n, m, s, rfl, h1, h2, h3, _⟩ := h.at (hr x (by simp))
    have : setR f (n : Int) = refSetOf f m := by unfold setR; rw [Int.toNat_natCast, h1]; rfl
    rw [this, h3, h2]; rfl
theorem Agrees.together {p : List BS} {f : Nat → Int} (h : Agrees p f) (l : List Int) : togetherOf p l = (backS (togR f l).1, (togR f l).2.toNat) ∧ 0 ≤ (togR f l).2 := by
  have he : l.all (fun k => (setOf p k).isSome) = l.all (inR f) := by
    congr 1; funext x; exact (h.inR_iff x).symm
  unfold togetherOf togR
  rw [h.ne, if_neg (by decide), he]
  cases hb : l.all (inR f) with
  | true =>
    rw [if_pos rfl, if_pos rfl]
    exact ⟨by rw [agrees_orAll h l fun x hx => List.all_eq_true.1 hb x hx]; rfl, Int.le_refl _⟩
  | false =>
    rw [if_neg (by decide), if_neg (by decide)]
    exact ⟨by rw [backS_zero]; rfl, by decide⟩
theorem Agrees.bytes {p : List BS} {f : Nat → Int} (h : Agrees p f) (l : List Int) : bytesOfL p l = ((bytR f l).1, (bytR f l).2.toNat) ∧ 0 ≤ (bytR f l).2 := by
  have hk : ∀ x, (leastOf p x).2 = inR f x := fun x => by
    cases hb : inR f x with
    | true =>
      obtain ⟨n, m, s, rfl, h1, h2, h3, h4⟩ := h.at hb
      rw [h4]
    | false =>
      have := h.inR_iff x
      rw [hb] at this
      unfold leastOf
      cases hs : setOf p x with
      | none => rfl
      | some s => rw [hs] at this; cases this
  have he : l.all (fun k => (leastOf p k).2) = l.all (inR f) := by
    congr 1; funext x; exact hk x
  unfold bytesOfL bytR
  rw [h.ne, if_neg (by decide), he]
  cases hb : l.all (inR f) with
  | true =>
    rw [if_pos rfl, if_pos rfl]
    refine ⟨?_, Int.le_refl _⟩
    congr 1
    refine List.map_congr_left fun x hx => ?_
    obtain ⟨n, m, s, rfl, h1, h2, h3, h4⟩ := h.at (List.all_eq_true.1 hb x hx)
    rw [h4]
    unfold leastAt
    rw [Int.toNat_natCast, h1]; rfl
  | false =>
    rw [if_neg (by decide), if_neg (by decide)]
    exact ⟨rfl, by decide⟩
theorem agrees_word {p : List BS} {f : Nat → Int} (h : Agrees p f) (b : List Nat) : wordOf p b = b.map (cls p) := by
  unfold wordOf; rw [h.ne]; rfl
end Go.Proofs.Ytokkgbcjjaiaeaa
