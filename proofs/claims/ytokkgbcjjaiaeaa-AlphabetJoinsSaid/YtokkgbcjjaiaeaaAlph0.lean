/-
  Alphabets: what an alphabet is in memory; plain facts on its table.
-/
import Derived.Test.YtokkgbcjjaiaeaaParts1
namespace Go.Proofs.Ytokkgbcjjaiaeaa
open Go Go.RowKit Go.Shelf Go.Maps

/-- The bytes of all classes, with their numbers. -/
def pairsOf (p : List BS) : List (Nat × Nat) := p.zipIdx.flatMap fun x => (bytesTo x.1 256).map fun c => (x.2, c)
theorem pairsOf_nil : pairsOf [] = [] := rfl
theorem pairsOf_snoc (p : List BS) (s : BS) : pairsOf (p ++ [s]) = pairsOf p ++ (bytesTo s 256).map fun c => (p.length, c) := by
  unfold pairsOf
  rw [List.zipIdx_append]
  simp
theorem pairsOf_take {p : List BS} {k : Nat} {s : BS} (h : p[k]? = some s) : pairsOf (p.take (k + 1)) = pairsOf (p.take k) ++ (bytesTo s 256).map fun c => (k, c) := by
  have hk : k < p.length := (List.getElem?_eq_some_iff.1 h).1
  rw [List.take_add_one, h]
  show pairsOf (p.take k ++ [s]) = _
  rw [pairsOf_snoc, List.length_take, Nat.min_eq_left (by omega)]
theorem pairsOf_prefix {p : List BS} {k : Nat} {s : BS} (h : p[k]? = some s) (j : Nat) : pairsOf (p.take k) ++ ((bytesTo s 256).take j).map (fun c => (k, c)) <+: pairsOf p := by
  have h1 : pairsOf (p.take (k + 1)) <+: pairsOf p := by
    have : p = p.take (k + 1) ++ p.drop (k + 1) := (List.take_append_drop _ _).symm
    have h2 : ∀ (a b : List BS), pairsOf a <+: pairsOf (a ++ b) := by
      intro a b
      unfold pairsOf
      rw [List.zipIdx_append, List.flatMap_append]
      exact List.prefix_append _ _
    conv => rhs; rw [this]
    exact h2 _ _
  refine List.IsPrefix.trans ?_ h1
  rw [pairsOf_take h]
  exact (List.prefix_append_right_inj _).2 (List.IsPrefix.map _ (List.take_prefix _ _))
theorem bytesTo_lt {s : BS} {n c : Nat} (h : c ∈ bytesTo s n) : c < n := by
  unfold bytesTo at h; simp at h; exact h.1
theorem mem_pairsOf {p : List BS} {x : Nat × Nat} : x ∈ pairsOf p ↔ ∃ s, p[x.1]? = some s ∧ x.2 < 256 ∧ s.getLsbD x.2 = true := by
  unfold pairsOf
  simp only [List.mem_flatMap, List.mem_map, Prod.exists, List.mem_zipIdx_iff_getElem?, bytesTo]
  constructor
  · rintro ⟨s, k, h1, c, h2, rfl⟩
    simp at h2
    exact ⟨s, h1, h2⟩
  · rintro ⟨s, h1, h2, h3⟩
    exact ⟨s, x.1, h1, x.2, by simp [h2, h3], rfl⟩

/-- The table, once these pairs have been put. -/
def tabFold (l : List (Nat × Nat)) : List Nat := l.foldl (fun t x => t.set x.2 x.1) (List.replicate 256 0)
theorem foldl_set_length (l : List (Nat × Nat)) : ∀ (t : List Nat), (l.foldl (fun t x => t.set x.2 x.1) t).length = t.length := by
  induction l with
  | nil => intro t; rfl
  | cons x l ih => intro t; simp [ih]
theorem tabFold_length (l : List (Nat × Nat)) : (tabFold l).length = 256 := by
  unfold tabFold
  rw [foldl_set_length, List.length_replicate]
theorem tabFold_nil : tabFold [] = List.replicate 256 0 := rfl
theorem tabFold_snoc (l : List (Nat × Nat)) (x : Nat × Nat) : tabFold (l ++ [x]) = (tabFold l).set x.2 x.1 := by
  unfold tabFold; rw [List.foldl_append]; rfl
/-- The table of classes. -/
def tabOf (p : List BS) : List Nat := tabFold (pairsOf p)
theorem tabOf_length (p : List BS) : (tabOf p).length = 256 := tabFold_length _
/-- What the table tells of a byte, the last class with it, if any has. -/
theorem tabFold_get (l : List (Nat × Nat)) (c : Nat) (hc : c < 256) : (∃ x ∈ l, x.2 = c ∧ (tabFold l)[c]? = some x.1) ∨ ((∀ x ∈ l, x.2 ≠ c) ∧ (tabFold l)[c]? = some 0) := by
  suffices ∀ r : List (Nat × Nat), (∃ x ∈ r.reverse, x.2 = c ∧ (tabFold r.reverse)[c]? = some x.1) ∨ ((∀ x ∈ r.reverse, x.2 ≠ c) ∧ (tabFold r.reverse)[c]? = some 0) by
    have := this l.reverse; rwa [List.reverse_reverse] at this
  intro r
  induction r with
  | nil => right; rw [List.reverse_nil, tabFold_nil, List.getElem?_replicate, if_pos hc]; exact ⟨fun x hx => absurd hx (List.not_mem_nil), rfl⟩
  | cons x r ih =>
    rw [List.reverse_cons, tabFold_snoc]
    by_cases hx : x.2 = c
    · left
      refine ⟨x, by simp, hx, ?_⟩
      rw [List.getElem?_set, if_pos hx, if_pos (by rw [tabFold_length, hx]; exact hc)]
    · rw [List.getElem?_set, if_neg hx]
      rcases ih with ⟨y, h1, h2, h3⟩ | ⟨h1, h2⟩
      · exact .inl ⟨y, by simp only [List.mem_append]; exact .inl h1, h2, h3⟩
      · refine .inr ⟨fun y hy => ?_, h2⟩
        simp only [List.mem_append, List.mem_singleton] at hy
        rcases hy with hy | rfl
        · exact h1 y hy
        · exact hx
theorem tabOf_get (p : List BS) (c : Nat) (hc : c < 256) : (∃ k s, p[k]? = some s ∧ s.getLsbD c = true ∧ (tabOf p)[c]? = some k) ∨ ((∀ s ∈ p, s.getLsbD c = false) ∧ (tabOf p)[c]? = some 0) := by
  rcases tabFold_get (pairsOf p) c hc with ⟨x, h1, h2, h3⟩ | ⟨h1, h2⟩
  · obtain ⟨s, h4, h5, h6⟩ := mem_pairsOf.1 h1
    exact .inl ⟨x.1, s, h4, by rw [← h2]; exact h6, h3⟩
  · refine .inr ⟨fun s hs => ?_, h2⟩
    obtain ⟨k, hk⟩ := List.getElem?_of_mem hs
    cases hb : s.getLsbD c with
    | false => rfl
    | true => exact absurd rfl (h1 (k, c) (mem_pairsOf.2 ⟨s, hk, hc, hb⟩))
theorem tabOf_lt (p : List BS) (c : Nat) (hc : c < 256) (hp : p.length ≤ 256) : ∃ k, (tabOf p)[c]? = some k ∧ k < 256 ∧ (k < p.length ∨ k = 0) := by
  rcases tabOf_get p c hc with ⟨k, s, h1, _, h3⟩ | ⟨_, h2⟩
  · have := (List.getElem?_eq_some_iff.1 h1).1
    exact ⟨k, h3, by omega, .inl this⟩
  · exact ⟨0, h2, by omega, .inr rfl⟩

/-- The cells of an alphabet. -/
def alCells (t : List Nat) (v : Value) : Array Value := ((t.map fun (n : Nat) => Value.int .u8 n) ++ [v]).toArray
theorem alCells_tab {t : List Nat} {v : Value} {c k : Nat} (h : t[c]? = some k) : (alCells t v)[c]? = some (.int .u8 k) := by
  have hc := (List.getElem?_eq_some_iff.1 h).1
  unfold alCells
  simp only [List.getElem?_toArray]
  rw [List.getElem?_append_left (by simpa using hc), List.getElem?_map, h]; rfl
theorem alCells_list {t : List Nat} {v : Value} (h : t.length = 256) : (alCells t v)[256]? = some v := by
  unfold alCells
  simp only [List.getElem?_toArray]
  rw [List.getElem?_append_right (by simp [h])]; simp [h]
theorem alCells_set {t : List Nat} {v : Value} {c k : Nat} (h : c < t.length) : (alCells t v).setIfInBounds c (.int .u8 k) = alCells (t.set c k) v := by
  unfold alCells
  simp [h, List.map_set]
theorem alCells_size {t : List Nat} {v : Value} (h : t.length = 256) : (alCells t v).size = 257 := by simp [alCells, h]

/-- An alphabet with these classes (or none); what it is lies from 'base' on. -/
def IsAl (w : World) (base : Nat) (v : Value) (p : List BS) : Prop :=
  (v = .pointer none ∧ p = []) ∨ ∃ b sl, v = .pointer (some ⟨b, 0, none⟩) ∧ base ≤ b ∧ Blk w b (alCells (tabOf p) sl) 60 ∧ w.ownsRow base 25 4 sl p.length (flatS p) ∧ p.length ≤ 256

theorem IsAl.keeps {w w' : World} {base : Nat} {v : Value} {p : List BS} (h : IsAl w base v p) {R : Nat → Prop} (hk : Keeps R w w') (hr : ∀ k, base ≤ k → k < w.heap.size → R k) : IsAl w' base v p := by
  rcases h with h | ⟨b, sl, h1, h2, h3, h4, h5⟩
  · exact .inl h
  · exact .inr ⟨b, sl, h1, h2, h3.keeps hk (hr b h2 h3.lt), ownsRow_keeps h4 hk fun k e => hr k (h4.lt k e).1 (h4.lt k e).2, h5⟩
theorem IsAl.below {w w' : World} {base : Nat} {v : Value} {p : List BS} (h : IsAl w base v p) (hk : Below w.heap.size w w') : IsAl w' base v p := h.keeps (Keeps.of_below hk fun _ h => h) (fun _ _ h => h)
theorem IsAl.base {w : World} {base base' : Nat} {v : Value} {p : List BS} (h : IsAl w base v p) (hb : base' ≤ base) : IsAl w base' v p := by
  rcases h with h | ⟨b, sl, h1, h2, h3, h4, h5⟩
  · exact .inl h
  · exact .inr ⟨b, sl, h1, Nat.le_trans hb h2, h3, ownsRow_base h4 hb, h5⟩
theorem IsAl.le {w : World} {base : Nat} {v : Value} {p : List BS} (h : IsAl w base v p) : p.length ≤ 256 := by
  rcases h with ⟨_, rfl⟩ | ⟨b, sl, h1, h2, h3, h4, h5⟩
  · simp
  · exact h5
end Go.Proofs.Ytokkgbcjjaiaeaa
