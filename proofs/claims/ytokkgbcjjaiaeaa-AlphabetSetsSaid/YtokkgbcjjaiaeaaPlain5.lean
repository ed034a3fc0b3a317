/-
  Plain law: an alphabet of the program and that of the reference, which is for each byte the least one of its class.
-/
import Derived.Test.YtokkgbcjjaiaeaaPlain
import Derived.Test.YtokkgbcjjaiaeaaAgrees
namespace Go.Proofs.Ytokkgbcjjaiaeaa
open Go Go.RowKit Go.Shelf Go.Maps

theorem sortedN_eq : ∀ (p q : List Nat), p.Pairwise (· < ·) → q.Pairwise (· < ·) → (∀ x, x ∈ p ↔ x ∈ q) → p = q
  | [], q, _, _, h => by
    cases q with
    | nil => rfl
    | cons y q => have := (h y).2 (by simp); simp at this
  | x :: p, q, hp, hq, h => by
    cases q with
    | nil => have := (h x).1 (by simp); simp at this
    | cons y q =>
      rw [List.pairwise_cons] at hp hq
      have hxy : x = y := by
        have h1 := (h x).1 (by simp)
        have h2 := (h y).2 (by simp)
        rcases List.mem_cons.1 h1 with e | h1
        · exact e
        · rcases List.mem_cons.1 h2 with e | h2
          · exact e.symm
          · have a := hq.1 x h1; have b := hp.1 y h2; omega
      subst hxy
      congr 1
      refine sortedN_eq p q hp.2 hq.2 fun z => ?_
      have hz := h z
      simp only [List.mem_cons] at hz
      constructor
      · intro hzp
        rcases hz.1 (.inr hzp) with e | h1
        · subst e; have := hp.1 z hzp; omega
        · exact h1
      · intro hzq
        rcases hz.2 (.inr hzq) with e | h1
        · subst e; have := hq.1 z hzq; omega
        · exact h1

/-- f is for each byte the least one of its class. -/
structure IsRef (f : Nat → Int) (R : Nat → Nat → Prop) : Prop where
  val : ∀ c, c < 256 → ∃ m : Nat, f c = m ∧ m ≤ c ∧ R c m ∧ ∀ e, e < m → ¬ R c e

theorem IsPart.least {p : List BS} {R : Nat → Nat → Prop} (hp : IsPart p R) {f : Nat → Int} (hf : IsRef f R) {c k : Nat} {q : BS} (hc : c < 256) (hk : p[k]? = Option.some q) (hq : q.getLsbD c = true) : f c = ((firstOf q).1 : Int) := by
  obtain ⟨m, h1, h2, h3, h4⟩ := hf.val c hc
  have hm := List.mem_of_getElem? hk
  obtain ⟨_, a1, a2, a3⟩ := first_of_ne (hp.ne q hm)
  have hqm := (hp.alike q hm c m hc (by omega) hq).2 h3
  have hle : (firstOf q).1 ≤ m := by
    rcases Nat.lt_or_ge m (firstOf q).1 with h | h
    · rw [a3 m h] at hqm; cases hqm
    · exact h
  have hge : m ≤ (firstOf q).1 := by
    rcases Nat.lt_or_ge (firstOf q).1 m with h | h
    · exact absurd ((hp.alike q hm c _ hc a1 hq).1 a2) (h4 _ h)
    · exact h
  rw [h1, show m = (firstOf q).1 by omega]

theorem IsPart.leasts {p : List BS} {R : Nat → Nat → Prop} (hp : IsPart p R) {f : Nat → Int} (hf : IsRef f R) : leastsTo f 256 = p.map fun q => (firstOf q).1 := by
  refine sortedN_eq _ _ (List.pairwise_lt_range.filter _) ?_ fun c => ?_
  · rw [List.pairwise_map]; exact hp.sorted
  · unfold leastsTo
    rw [List.mem_filter, List.mem_range, List.mem_map, beq_iff_eq]
    constructor
    · rintro ⟨hc, h⟩
      obtain ⟨k, q, hk, hq⟩ := hp.cover c hc
      refine ⟨q, List.mem_of_getElem? hk, ?_⟩
      have := hp.least hf hc hk hq
      omega
    · rintro ⟨q, hm, rfl⟩
      obtain ⟨_, a1, a2, a3⟩ := first_of_ne (hp.ne q hm)
      obtain ⟨k, hk⟩ := List.getElem?_of_mem hm
      exact ⟨a1, hp.least hf a1 hk a2⟩

theorem IsPart.agrees {p : List BS} {R : Nat → Nat → Prop} (hp : IsPart p R) {f : Nat → Int} (hf : IsRef f R) : Agrees p f where
  ne := hp.some
  len := by rw [hp.leasts hf, List.length_map]
  byte := fun c hc => by
    obtain ⟨q, h1, h2⟩ := (hp.cls_iff hc).1 rfl
    obtain ⟨m, h3, h4, _⟩ := hf.val c hc
    refine ⟨m, h3, h4, ?_⟩
    rw [hp.leasts hf, List.getElem?_map, h1]
    have := hp.least hf hc h1 h2
    rw [h3] at this
    have hm : m = (firstOf q).1 := by omega
    rw [hm]; rfl
  cls := fun n m hn => by
    rw [hp.leasts hf, List.getElem?_map] at hn
    cases hs : p[n]? with
    | none => rw [hs] at hn; cases hn
    | some s =>
      rw [hs] at hn
      have hm : (firstOf s).1 = m := by simpa using hn
      have hmem := List.mem_of_getElem? hs
      obtain ⟨a0, a1, a2, a3⟩ := first_of_ne (hp.ne s hmem)
      refine ⟨s, rfl, ?_, ?_⟩
      · unfold backS
        refine (BS.eq_bsOf fun c hc => ?_).symm
        unfold refSetOf
        obtain ⟨k, q, hk, hq⟩ := hp.cover c hc
        have hfc := hp.least hf hc hk hq
        rw [Bool.eq_iff_iff]
        constructor
        · intro h
          rw [hp.least hf hc hs h, hm]; simp
        · intro h
          have he : f c = (m : Int) := by
            by_cases h' : f c = (m : Int)
            · exact h'
            · rw [if_neg h'] at h; cases h
          have hqk : (firstOf q).1 = (firstOf s).1 := by omega
          obtain ⟨_, b1, b2, b3⟩ := first_of_ne (hp.ne q (List.mem_of_getElem? hk))
          have := apart_index hp.apart hk hs (c := (firstOf s).1) (by rw [← hqk]; exact b2) a2
          subst this
          rw [hk] at hs; cases hs; exact hq
      · unfold leastOf
        rw [setOf_nat, hs]
        show firstOf s = _
        rw [← hm, ← a0]

theorem IsRef.of_least {R : Nat → Nat → Prop} (hrefl : ∀ c, R c c) {r : Nat → Nat → Bool} (hr : ∀ c d, c < 256 → d < 256 → (r c d = true ↔ R c d)) : IsRef (fun c => (leastR r c : Int)) R where
  val := fun c hc => by
    refine ⟨leastR r c, rfl, ?_⟩
    unfold leastR
    cases h : (List.range c).find? (r c) with
    | none =>
      refine ⟨Nat.le_refl _, hrefl c, fun e he hre => ?_⟩
      have := List.find?_eq_none.1 h e (List.mem_range.2 he)
      exact this ((hr c e hc (by have : e < c := he; omega)).2 hre)
    | some d =>
      obtain ⟨h1, i, hi, h2, h3⟩ := List.find?_eq_some_iff_getElem.1 h
      have hd : d < c := List.mem_range.1 (List.mem_of_find?_eq_some h)
      simp only [List.getElem_range] at h2 h3
      subst h2
      refine ⟨Nat.le_of_lt hd, (hr c i hc (by omega)).1 h1, fun e he hre => ?_⟩
      have := h3 e he
      rw [(hr c e hc (by have : e < i := he; omega)).2 hre] at this; cases this
theorem partP_refS (l : List BS) (c d : Nat) : partP (l.map refS) c d = true ↔ Alike l c d := by
  unfold partP Alike
  simp only [List.all_map, List.all_eq_true, Function.comp, decide_eq_true_eq]
  refine forall_congr' fun s => forall_congr' fun _ => ?_
  unfold refS
  cases s.getLsbD c <;> cases s.getLsbD d <;> simp
/-- The reference's alphabet of sets. -/
def refA (l : List BS) : Nat → Int := fun c => (leastR (partP (l.map refS)) c : Int)
theorem isRef_refA (l : List BS) : IsRef (refA l) (Alike l) := IsRef.of_least (fun _ _ _ => rfl) fun c d _ _ => partP_refS l c d
theorem agrees_of (l : List BS) : Agrees (partsOf l) (refA l) := (IsPart.of_parts l).agrees (isRef_refA l)
/-- Bytes of one class have one least byte. -/
theorem IsPart.same_ref {p : List BS} {R : Nat → Nat → Prop} (hp : IsPart p R) {f : Nat → Int} (hf : IsRef f R) {c d : Nat} (hc : c < 256) (hd : d < 256) : f c = f d ↔ R c d := by
  obtain ⟨k, q, hk, hq⟩ := hp.cover c hc
  obtain ⟨j, s, hj, hs⟩ := hp.cover d hd
  rw [hp.least hf hc hk hq, hp.least hf hd hj hs, ← hp.alike q (List.mem_of_getElem? hk) c d hc hd hq]
  constructor
  · intro h
    have hqk : (firstOf q).1 = (firstOf s).1 := by omega
    obtain ⟨_, b1, b2, b3⟩ := first_of_ne (hp.ne q (List.mem_of_getElem? hk))
    obtain ⟨_, a1, a2, a3⟩ := first_of_ne (hp.ne s (List.mem_of_getElem? hj))
    have := apart_index hp.apart hk hj (c := (firstOf s).1) (by rw [← hqk]; exact b2) a2
    subst this
    rw [hk] at hj; cases hj; exact hs
  · intro h
    have := apart_index hp.apart hk hj h hs
    subst this
    rw [hk] at hj; cases hj; rfl
theorem isRef_join {p q : List BS} {R S : Nat → Nat → Prop} (hp : IsPart p R) (hq : IsPart q S) {f g : Nat → Int} (hf : IsRef f R) (hg : IsRef g S) : IsRef (fun c => (leastR (joinP f g) c : Int)) (fun c d => (c < 256 → d < 256 → R c d ∧ S c d) ∧ (256 ≤ c ∨ 256 ≤ d → c = d)) :=
  IsRef.of_least (fun c => ⟨fun hc _ => ⟨(hp.same_ref hf hc hc).1 rfl, (hq.same_ref hg hc hc).1 rfl⟩, fun _ => rfl⟩) fun c d hc hd => by
    unfold joinP
    rw [Bool.and_eq_true, decide_eq_true_eq, decide_eq_true_eq, hp.same_ref hf hc hd, hq.same_ref hg hc hd]
    constructor
    · intro h; exact ⟨fun _ _ => h, fun h' => by omega⟩
    · intro h; exact h.1 hc hd
theorem agrees_join {p q : List BS} {R S : Nat → Nat → Prop} (hp : IsPart p R) (hq : IsPart q S) {f g : Nat → Int} (hf : IsRef f R) (hg : IsRef g S) : Agrees (partsOf (p ++ q)) (fun c => (leastR (joinP f g) c : Int)) :=
  ((hp.join hq).congr fun c d hc hd => ⟨fun h => ⟨fun _ _ => h, fun h' => by omega⟩, fun h => h.1 hc hd⟩).agrees (isRef_join hp hq hf hg)
theorem isRef_all : IsRef (fun c => (c : Int)) (fun c d => c = d) where
  val := fun c _ => ⟨c, rfl, Nat.le_refl _, rfl, fun e he => by omega⟩
theorem agrees_all : Agrees (allTo 256) (fun c => (c : Int)) := allTo_part.agrees isRef_all
theorem eqA_iff {f g : Nat → Int} : eqA f g = true ↔ ∀ c, c < 256 → f c = g c := by
  unfold eqA
  simp only [List.all_eq_true, List.mem_range, beq_iff_eq]
theorem IsRef.ext {f g : Nat → Int} {R S : Nat → Nat → Prop} (hf : IsRef f R) (hg : IsRef g S) (h : ∀ c d, c < 256 → d < 256 → (R c d ↔ S c d)) : ∀ c, c < 256 → f c = g c := fun c hc => by
  obtain ⟨m, h1, h2, h3, h4⟩ := hf.val c hc
  obtain ⟨k, a1, a2, a3, a4⟩ := hg.val c hc
  have : m = k := by
    rcases Nat.lt_trichotomy m k with hlt | he | hlt
    · exact absurd ((h c m hc (by omega)).1 h3) (a4 m hlt)
    · exact he
    · exact absurd ((h c k hc (by omega)).2 a3) (h4 k hlt)
  rw [h1, a1, this]
theorem finer_ref {p q : List BS} {R S : Nat → Nat → Prop} (hp : IsPart p R) (hq : IsPart q S) {f g : Nat → Int} (hf : IsRef f R) (hg : IsRef g S) : finerOf p q = eqA (fun c => (leastR (joinP f g) c : Int)) f := by
  have hj := isRef_join hp hq hf hg
  have hjp := (hp.join hq).congr fun c d hc hd => (⟨fun h => ⟨fun _ _ => h, fun h' => by omega⟩, fun h => h.1 hc hd⟩ : (R c d ∧ S c d) ↔ ((c < 256 → d < 256 → R c d ∧ S c d) ∧ (256 ≤ c ∨ 256 ≤ d → c = d)))
  rw [Bool.eq_iff_iff, hp.finer hq, eqA_iff]
  constructor
  · intro h
    refine hj.ext hf fun c d hc hd => ?_
    exact ⟨fun h' => (h'.1 hc hd).1, fun h' => ⟨fun _ _ => ⟨h', h c d hc hd h'⟩, fun h'' => by omega⟩⟩
  · intro h c d hc hd hr
    have h1 := h c hc
    have h2 := h d hd
    have h3 : f c = f d := (hp.same_ref hf hc hd).2 hr
    exact ((hjp.same_ref hj hc hd).1 (by rw [h1, h2, h3])).1 hc hd |>.2
theorem same_ref {p q : List BS} {R S : Nat → Nat → Prop} (hp : IsPart p R) (hq : IsPart q S) {f g : Nat → Int} (hf : IsRef f R) (hg : IsRef g S) : sameOf p q = eqA f g := by
  rw [Bool.eq_iff_iff, hp.same hq, eqA_iff]
  constructor
  · intro h; exact hf.ext hg h
  · intro h c d hc hd
    rw [← hp.same_ref hf hc hd, ← hq.same_ref hg hc hd, h c hc, h d hd]
end Go.Proofs.Ytokkgbcjjaiaeaa
