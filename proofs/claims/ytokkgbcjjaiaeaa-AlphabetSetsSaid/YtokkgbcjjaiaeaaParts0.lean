/-
  Plain facts on the classes into which sets part all bytes: how many there are, their order. No program.
-/
import Derived.Test.YtokkgbcjjaiaeaaSets
import Derived.Shelf.SlSortCmp.NoneTotal
namespace Go.Proofs.Ytokkgbcjjaiaeaa
open Go Go.RowKit Go.Shelf

/-- How many bytes a set has. -/
def sizeOfB (s : BS) : Nat := (List.range 256).countP fun c => s.getLsbD c
theorem countP_split (p q : Nat → Bool) (l : List Nat) : l.countP p = l.countP (fun c => p c && q c) + l.countP (fun c => p c && !q c) := by
  induction l with
  | nil => rfl
  | cons a l ih =>
    simp only [List.countP_cons, ih]
    cases p a <;> cases q a <;> simp <;> omega
theorem sizeOfB_split (p s : BS) : sizeOfB p = sizeOfB (p &&& s) + sizeOfB (p &&& ~~~s) := by
  unfold sizeOfB
  rw [countP_split _ (fun c => s.getLsbD c)]
  congr 1
  · apply List.countP_congr; intro c _; simp [BitVec.getLsbD_and]
  · apply List.countP_congr; intro c hc
    have : c < 256 := by simpa using hc
    simp [this]
theorem sizeOfB_zero : sizeOfB 0#256 = 0 := by
  unfold sizeOfB
  rw [List.countP_eq_zero]
  intro c _; simp
theorem sizeOfB_pos {s : BS} (h : s ≠ 0) : 1 ≤ sizeOfB s := by
  rcases Nat.eq_zero_or_pos (sizeOfB s) with h0 | h0
  · exfalso
    apply h
    apply BitVec.eq_of_getLsbD_eq
    intro c hc
    unfold sizeOfB at h0
    rw [List.countP_eq_zero] at h0
    have := h0 c (by simpa using hc)
    simpa using this
  · exact h0

/-- What becomes of one class by one set. -/
def cut (s p : BS) : List BS := [p &&& s, p &&& ~~~s].filter fun x => !(x == 0)
/-- What becomes of all classes by one set. -/
def partsStep (s : BS) (parts : List BS) : List BS := parts.flatMap (cut s)
/-- The classes of the first sets, as the loop makes them. -/
def partsRaw (l : List BS) : List BS := l.foldl (fun p s => partsStep s p) [~~~0]

theorem sum_cut (s p : BS) : ((cut s p).map sizeOfB).sum = sizeOfB p := by
  unfold cut
  rw [sizeOfB_split p s]
  generalize p &&& s = a
  generalize p &&& ~~~s = b
  by_cases h1 : a = 0#256 <;> by_cases h2 : b = 0#256 <;> simp [h1, h2, sizeOfB_zero]
theorem sum_partsStep (s : BS) (l : List BS) : ((partsStep s l).map sizeOfB).sum = (l.map sizeOfB).sum := by
  induction l with
  | nil => rfl
  | cons p l ih =>
    unfold partsStep at *
    rw [List.flatMap_cons, List.map_append, List.sum_append, ih, sum_cut]
    rfl
theorem cut_len (s p : BS) : (cut s p).length ≤ 2 := by unfold cut; exact List.length_filter_le _ _
theorem partsStep_len (s : BS) (l : List BS) : (partsStep s l).length ≤ 2 * l.length := by
  induction l with
  | nil => exact Nat.le_refl _
  | cons p l ih =>
    have := cut_len s p
    unfold partsStep at *
    rw [List.flatMap_cons, List.length_append, List.length_cons]
    omega
theorem cut_ne (s p : BS) : ∀ x ∈ cut s p, x ≠ 0 := by
  intro x hx
  unfold cut at hx
  simp only [List.mem_filter, Bool.not_eq_true', beq_eq_false_iff_ne] at hx
  exact hx.2
theorem sizeOfB_all : sizeOfB (~~~0) = 256 := by
  unfold sizeOfB
  have : (List.range 256).countP (fun c => (~~~(0 : BS)).getLsbD c) = (List.range 256).length := by
    rw [List.countP_eq_length]
    intro c hc
    have : c < 256 := by simpa using hc
    rw [BitVec.getLsbD_not]
    have h0 : BitVec.getLsbD (0 : BS) c = false := BitVec.getLsbD_zero
    simp only [this, h0, decide_true, Bool.not_false, Bool.true_and]
  rw [this, List.length_range]
/-- At most 256 classes. -/
theorem length_of_sum (l : List BS) (h0 : ∀ x ∈ l, x ≠ 0) : l.length ≤ (l.map sizeOfB).sum := by
  induction l with
  | nil => simp
  | cons p l ih =>
    have h1 := sizeOfB_pos (h0 p (by simp))
    have h2 := ih (fun x hx => h0 x (by simp [hx]))
    simp only [List.length_cons, List.map_cons, List.sum_cons]
    omega
theorem foldl_parts (l : List BS) (p : List BS) (hp : ∀ x ∈ p, x ≠ 0) : (∀ x ∈ l.foldl (fun p s => partsStep s p) p, x ≠ 0) ∧ ((l.foldl (fun p s => partsStep s p) p).map sizeOfB).sum = (p.map sizeOfB).sum := by
  induction l generalizing p with
  | nil => exact ⟨hp, rfl⟩
  | cons s l ih =>
    have h := ih (partsStep s p) (by
      intro x hx
      unfold partsStep at hx
      rw [List.mem_flatMap] at hx
      obtain ⟨q, _, hq⟩ := hx
      exact cut_ne s q x hq)
    rw [List.foldl_cons]
    exact ⟨h.1, h.2.trans (sum_partsStep s p)⟩
theorem partsRaw_ne (l : List BS) : ∀ x ∈ partsRaw l, x ≠ 0 := (foldl_parts l _ (by simp)).1
theorem partsRaw_sum (l : List BS) : ((partsRaw l).map sizeOfB).sum = 256 := by
  unfold partsRaw
  rw [(foldl_parts l _ (by simp)).2]
  simp only [List.map_cons, List.map_nil, List.sum_cons, List.sum_nil, sizeOfB_all, Nat.add_zero]
theorem partsRaw_len (l : List BS) : (partsRaw l).length ≤ 256 := by
  have := length_of_sum _ (partsRaw_ne l)
  rwa [partsRaw_sum] at this
theorem partsRaw_snoc (l : List BS) (s : BS) : partsRaw (l ++ [s]) = partsStep s (partsRaw l) := by
  unfold partsRaw
  rw [List.foldl_append]; rfl

/-! The order of sets. -/
theorem firstOf_spec (s : BS) : ((firstOf s).2 = false ∧ s = 0) ∨ ((firstOf s).2 = true ∧ (firstOf s).1 < 256 ∧ s.getLsbD (firstOf s).1 = true ∧ ∀ d, d < (firstOf s).1 → s.getLsbD d = false) := by
  have key : ∀ n, n ≤ 256 → (bytesTo s n = [] ∧ ∀ d, d < n → s.getLsbD d = false) ∨ (∃ c r, bytesTo s n = c :: r ∧ c < n ∧ s.getLsbD c = true ∧ ∀ d, d < c → s.getLsbD d = false) := by
    intro n
    induction n with
    | zero => intro _; exact .inl ⟨rfl, fun d hd => by omega⟩
    | succ n ih =>
      intro hn
      rcases ih (by omega) with ⟨h1, h2⟩ | ⟨c, r, h1, h2, h3, h4⟩
      · by_cases hb : s.getLsbD n = true
        · refine .inr ⟨n, [], ?_, by omega, hb, h2⟩
          rw [bytesTo_succ, h1, if_pos hb]; rfl
        · refine .inl ⟨?_, fun d hd => ?_⟩
          · rw [bytesTo_succ, h1, if_neg hb]; rfl
          · by_cases hdn : d = n
            · subst hdn; simpa using hb
            · exact h2 d (by omega)
      · exact .inr ⟨c, r ++ (if s.getLsbD n then [n] else []), by rw [bytesTo_succ, h1]; rfl, by omega, h3, h4⟩
  unfold firstOf
  rcases key 256 (Nat.le_refl _) with ⟨h1, h2⟩ | ⟨c, r, h1, h2, h3, h4⟩
  · left
    rw [h1]
    exact ⟨rfl, BS.ext fun d hd => by rw [h2 d hd]; simp⟩
  · right
    rw [h1]
    exact ⟨rfl, h2, h3, h4⟩

/-- s comes ahead of t: at the least byte where they part, s has it. -/
def ltS (s t : BS) : Prop := ∃ c, c < 256 ∧ (∀ d, d < c → s.getLsbD d = t.getLsbD d) ∧ s.getLsbD c = true ∧ t.getLsbD c = false
theorem diff_bit (s t : BS) {c : Nat} (hc : c < 256) : ((s &&& ~~~t) ||| (t &&& ~~~s)).getLsbD c = (s.getLsbD c != t.getLsbD c) := by
  simp only [BitVec.getLsbD_or, BitVec.getLsbD_and, BitVec.getLsbD_not, hc, decide_true, Bool.true_and]
  cases s.getLsbD c <;> cases t.getLsbD c <;> rfl
theorem compareOf_spec (s t : BS) : (compareOf s t = 0 ∧ s = t) ∨ (compareOf s t = -1 ∧ ltS s t) ∨ (compareOf s t = 1 ∧ ltS t s) := by
  unfold compareOf
  rcases firstOf_spec ((s &&& ~~~t) ||| (t &&& ~~~s)) with ⟨h1, h2⟩ | ⟨h1, h2, h3, h4⟩
  · left
    rw [h1]
    refine ⟨rfl, BS.ext fun c hc => ?_⟩
    have := diff_bit s t hc
    rw [h2] at this
    simp at this
    exact this
  · right
    rw [h1]
    generalize (firstOf ((s &&& ~~~t) ||| (t &&& ~~~s))).1 = c at *
    rw [diff_bit s t h2] at h3
    have h5 : ∀ d, d < c → s.getLsbD d = t.getLsbD d := fun d hd => by
      have := h4 d hd
      rw [diff_bit s t (by omega)] at this
      simpa using this
    cases hs : s.getLsbD c with
    | true =>
      have ht : t.getLsbD c = false := by rw [hs] at h3; simpa using h3
      exact .inl ⟨by simp, c, h2, h5, hs, ht⟩
    | false =>
      have ht : t.getLsbD c = true := by rw [hs] at h3; simpa using h3
      exact .inr ⟨by simp, c, h2, fun d hd => (h5 d hd).symm, ht, hs⟩
theorem ltS_irrefl (s : BS) : ¬ ltS s s := by
  rintro ⟨c, _, _, h1, h2⟩
  rw [h1] at h2; cases h2
theorem ltS_trans {s t u : BS} (h : ltS s t) (k : ltS t u) : ltS s u := by
  obtain ⟨c, hc, h1, h2, h3⟩ := h
  obtain ⟨d, hd, k1, k2, k3⟩ := k
  rcases Nat.lt_trichotomy c d with hcd | hcd | hcd
  · exact ⟨c, hc, fun e he => (h1 e he).trans (k1 e (by omega)), h2, by rw [← k1 c hcd]; exact h3⟩
  · subst hcd; rw [h3] at k2; cases k2
  · exact ⟨d, hd, fun e he => (h1 e (by omega)).trans (k1 e he), by rw [h1 d hcd]; exact k2, k3⟩
theorem ltOf_iff (s t : BS) : ltOf compareOf s t = true ↔ ltS s t := by
  unfold ltOf
  rcases compareOf_spec s t with ⟨h1, h2⟩ | ⟨h1, h2⟩ | ⟨h1, h2⟩
  · rw [h1]; subst h2; simp [ltS_irrefl]
  · rw [h1]; simp [h2]
  · rw [h1]; simp; exact fun k => ltS_irrefl _ (ltS_trans h2 k)
theorem ltS_total (s t : BS) : s = t ∨ ltS s t ∨ ltS t s := by
  rcases compareOf_spec s t with ⟨_, h2⟩ | ⟨_, h2⟩ | ⟨_, h2⟩
  · exact .inl h2
  · exact .inr (.inl h2)
  · exact .inr (.inr h2)
theorem swoS : Sort.SWO (ltOf compareOf) where
  irrefl x := by
    rw [← Bool.not_eq_true, ltOf_iff]; exact ltS_irrefl x
  trans x y z h k := by rw [ltOf_iff] at *; exact ltS_trans h k
  ntrans x y z h k := by
    rw [← Bool.not_eq_true, ltOf_iff] at *
    intro hz
    rcases ltS_total x y with e | e | e
    · subst e; exact k hz
    · exact h e
    · exact k (ltS_trans e hz)
theorem totS (x y : BS) (h : ltOf compareOf x y = false) (k : ltOf compareOf y x = false) : x = y := by
  rw [← Bool.not_eq_true, ltOf_iff] at *
  rcases ltS_total x y with e | e | e
  · exact e
  · exact absurd e h
  · exact absurd e k

/-- THE CLASSES into which sets part all bytes, in order. -/
def partsOf (l : List BS) : List BS := (partsRaw l).mergeSort fun x y => !ltOf compareOf y x
end Go.Proofs.Ytokkgbcjjaiaeaa
