/-
  Alphabets: what an alphabet is in memory; plain facts on its table.
  Walks of package alphabet: what reads an alphabet (none, Len, Class, is, Set, Least, Table).
  Walks of package alphabet: the iterator 'members'; made, Of.
  Walks of package alphabet: Of, Word, Bytes, Together, Classes, Fits.
  Walks of package alphabet: Together.
  Walks of package alphabet: Classes, Fits.
  Walks of package alphabet: All, Finer; the law's 'few'.
  Walks of package alphabet: Table, Same.
  Walks of package alphabet: Same, Join.
  Walks of package alphabet: Join.
-/
import Derived.Test.YtokkgbcjjaiaeaaParts1
import Derived.Laws.Rows
import Derived.Deep.MidRow
import Derived.Deep.WholeRow
import Derived.Test.YtokkgbcjjaiaeaaBase
namespace Go.Proofs.Ytokkgbcjjaiaeaa
open Go Go.RowKit Go.Shelf Go.Maps

/-- The bytes of all classes, with their numbers. -/
def pairsOf (p : List BS) : List (Nat × Nat) := p.zipIdx.flatMap fun x => (bytesTo x.1 256).map fun c => (x.2, c)
theorem pairsOf_nil : pairsOf [] = [] := rfl
theorem pairsOf_snoc (p : List BS) (s : BS) : pairsOf (p ++ [s]) = pairsOf p ++ (bytesTo s 256).map fun c => (p.length, c) := by
  unfold pairsOf
  rw [List.zipIdx_append]
  simp
theorem pairsOf_take {p : List BS} {k : Nat} {s : BS} (h : p[k]? = some s) : pairsOf (p.take (k + 1)) = pairsOf (p.take k) ++ (bytesTo s 256).map fun c => (k, c) := by
  have hk : k < p.length := (List.getElem?_eq_some_iff.1 h).1
  rw [List.take_add_one, h]
  show pairsOf (p.take k ++ [s]) = _
  rw [pairsOf_snoc, List.length_take, Nat.min_eq_left (by omega)]
theorem pairsOf_prefix {p : List BS} {k : Nat} {s : BS} (h : p[k]? = some s) (j : Nat) : pairsOf (p.take k) ++ ((bytesTo s 256).take j).map (fun c => (k, c)) <+: pairsOf p := by
  have h1 : pairsOf (p.take (k + 1)) <+: pairsOf p := by
    have : p = p.take (k + 1) ++ p.drop (k + 1) := (List.take_append_drop _ _).symm
    have h2 : ∀ (a b : List BS), pairsOf a <+: pairsOf (a ++ b) := by
      intro a b
      unfold pairsOf
      rw [List.zipIdx_append, List.flatMap_append]
      exact List.prefix_append _ _
    conv => rhs; rw [this]
    exact h2 _ _
  refine List.IsPrefix.trans ?_ h1
  rw [pairsOf_take h]
  exact (List.prefix_append_right_inj _).2 (List.IsPrefix.map _ (List.take_prefix _ _))
theorem bytesTo_lt {s : BS} {n c : Nat} (h : c ∈ bytesTo s n) : c < n := by
  unfold bytesTo at h; simp at h; exact h.1
theorem mem_pairsOf {p : List BS} {x : Nat × Nat} : x ∈ pairsOf p ↔ ∃ s, p[x.1]? = some s ∧ x.2 < 256 ∧ s.getLsbD x.2 = true := by
  unfold pairsOf
  simp only [List.mem_flatMap, List.mem_map, Prod.exists, List.mem_zipIdx_iff_getElem?, bytesTo]
  constructor
  · rintro ⟨s, k, h1, c, h2, rfl⟩
    simp at h2
    exact ⟨s, h1, h2⟩
  · rintro ⟨s, h1, h2, h3⟩
    exact ⟨s, x.1, h1, x.2, by simp [h2, h3], rfl⟩

/-- The table, once these pairs have been put. -/
def tabFold (l : List (Nat × Nat)) : List Nat := l.foldl (fun t x => t.set x.2 x.1) (List.replicate 256 0)
theorem foldl_set_length (l : List (Nat × Nat)) : ∀ (t : List Nat), (l.foldl (fun t x => t.set x.2 x.1) t).length = t.length := by
  induction l with
  | nil => intro t; rfl
  | cons x l ih => intro t; simp [ih]
theorem tabFold_length (l : List (Nat × Nat)) : (tabFold l).length = 256 := by
  unfold tabFold
  rw [foldl_set_length, List.length_replicate]
theorem tabFold_nil : tabFold [] = List.replicate 256 0 := rfl
theorem tabFold_snoc (l : List (Nat × Nat)) (x : Nat × Nat) : tabFold (l ++ [x]) = (tabFold l).set x.2 x.1 := by
  unfold tabFold; rw [List.foldl_append]; rfl
/-- The table of classes. -/
def tabOf (p : List BS) : List Nat := tabFold (pairsOf p)
theorem tabOf_length (p : List BS) : (tabOf p).length = 256 := tabFold_length _
/-- What the table tells of a byte, the last class with it, if any has. -/
theorem tabFold_get (l : List (Nat × Nat)) (c : Nat) (hc : c < 256) : (∃ x ∈ l, x.2 = c ∧ (tabFold l)[c]? = some x.1) ∨ ((∀ x ∈ l, x.2 ≠ c) ∧ (tabFold l)[c]? = some 0) := by
  suffices ∀ r : List (Nat × Nat), (∃ x ∈ r.reverse, x.2 = c ∧ (tabFold r.reverse)[c]? = some x.1) ∨ ((∀ x ∈ r.reverse, x.2 ≠ c) ∧ (tabFold r.reverse)[c]? = some 0) by
    have := this l.reverse; rwa [List.reverse_reverse] at this
  intro r
  induction r with
  | nil => right; rw [List.reverse_nil, tabFold_nil, List.getElem?_replicate, if_pos hc]; exact ⟨fun x hx => absurd hx (List.not_mem_nil), rfl⟩
  | cons x r ih =>
    rw [List.reverse_cons, tabFold_snoc]
    by_cases hx : x.2 = c
    · left
      refine ⟨x, by simp, hx, ?_⟩
      rw [List.getElem?_set, if_pos hx, if_pos (by rw [tabFold_length, hx]; exact hc)]
    · rw [List.getElem?_set, if_neg hx]
      rcases ih with ⟨y, h1, h2, h3⟩ | ⟨h1, h2⟩
      · exact .inl ⟨y, by simp only [List.mem_append]; exact .inl h1, h2, h3⟩
      · refine .inr ⟨fun y hy => ?_, h2⟩
        simp only [List.mem_append, List.mem_singleton] at hy
        rcases hy with hy | rfl
        · exact h1 y hy
        · exact hx
theorem tabOf_get (p : List BS) (c : Nat) (hc : c < 256) : (∃ k s, p[k]? = some s ∧ s.getLsbD c = true ∧ (tabOf p)[c]? = some k) ∨ ((∀ s ∈ p, s.getLsbD c = false) ∧ (tabOf p)[c]? = some 0) := by
  rcases tabFold_get (pairsOf p) c hc with ⟨x, h1, h2, h3⟩ | ⟨h1, h2⟩
  · obtain ⟨s, h4, h5, h6⟩ := mem_pairsOf.1 h1
    exact .inl ⟨x.1, s, h4, by rw [← h2]; exact h6, h3⟩
  · refine .inr ⟨fun s hs => ?_, h2⟩
    obtain ⟨k, hk⟩ := List.getElem?_of_mem hs
    cases hb : s.getLsbD c with
    | false => rfl
    | true => exact absurd rfl (h1 (k, c) (mem_pairsOf.2 ⟨s, hk, hc, hb⟩))
theorem tabOf_lt (p : List BS) (c : Nat) (hc : c < 256) (hp : p.length ≤ 256) : ∃ k, (tabOf p)[c]? = some k ∧ k < 256 ∧ (k < p.length ∨ k = 0) := by
  rcases tabOf_get p c hc with ⟨k, s, h1, _, h3⟩ | ⟨_, h2⟩
  · have := (List.getElem?_eq_some_iff.1 h1).1
    exact ⟨k, h3, by omega, .inl this⟩
  · exact ⟨0, h2, by omega, .inr rfl⟩

/-- The cells of an alphabet. -/
def alCells (t : List Nat) (v : Value) : Array Value := ((t.map fun (n : Nat) => Value.int .u8 n) ++ [v]).toArray
theorem alCells_tab {t : List Nat} {v : Value} {c k : Nat} (h : t[c]? = some k) : (alCells t v)[c]? = some (.int .u8 k) := by
  have hc := (List.getElem?_eq_some_iff.1 h).1
  unfold alCells
  simp only [List.getElem?_toArray]
  rw [List.getElem?_append_left (by simpa using hc), List.getElem?_map, h]; rfl
theorem alCells_list {t : List Nat} {v : Value} (h : t.length = 256) : (alCells t v)[256]? = some v := by
  unfold alCells
  simp only [List.getElem?_toArray]
  rw [List.getElem?_append_right (by simp [h])]; simp [h]
theorem alCells_set {t : List Nat} {v : Value} {c k : Nat} (h : c < t.length) : (alCells t v).setIfInBounds c (.int .u8 k) = alCells (t.set c k) v := by
  unfold alCells
  simp [h, List.map_set]
theorem alCells_size {t : List Nat} {v : Value} (h : t.length = 256) : (alCells t v).size = 257 := by simp [alCells, h]

/-- An alphabet with these classes (or none); what it is lies from 'base' on. -/
def IsAl (w : World) (base : Nat) (v : Value) (p : List BS) : Prop :=
  (v = .pointer none ∧ p = []) ∨ ∃ b sl, v = .pointer (some ⟨b, 0, none⟩) ∧ base ≤ b ∧ Blk w b (alCells (tabOf p) sl) 60 ∧ w.ownsRow base 25 4 sl p.length (flatS p) ∧ p.length ≤ 256

theorem IsAl.keeps {w w' : World} {base : Nat} {v : Value} {p : List BS} (h : IsAl w base v p) {R : Nat → Prop} (hk : Keeps R w w') (hr : ∀ k, base ≤ k → k < w.heap.size → R k) : IsAl w' base v p := by
  rcases h with h | ⟨b, sl, h1, h2, h3, h4, h5⟩
  · exact .inl h
  · exact .inr ⟨b, sl, h1, h2, h3.keeps hk (hr b h2 h3.lt), ownsRow_keeps h4 hk fun k e => hr k (h4.lt k e).1 (h4.lt k e).2, h5⟩
theorem IsAl.below {w w' : World} {base : Nat} {v : Value} {p : List BS} (h : IsAl w base v p) (hk : Below w.heap.size w w') : IsAl w' base v p := h.keeps (Keeps.of_below hk fun _ h => h) (fun _ _ h => h)
theorem IsAl.base {w : World} {base base' : Nat} {v : Value} {p : List BS} (h : IsAl w base v p) (hb : base' ≤ base) : IsAl w base' v p := by
  rcases h with h | ⟨b, sl, h1, h2, h3, h4, h5⟩
  · exact .inl h
  · exact .inr ⟨b, sl, h1, Nat.le_trans hb h2, h3, ownsRow_base h4 hb, h5⟩
theorem IsAl.le {w : World} {base : Nat} {v : Value} {p : List BS} (h : IsAl w base v p) : p.length ≤ 256 := by
  rcases h with ⟨_, rfl⟩ | ⟨b, sl, h1, h2, h3, h4, h5⟩
  · simp
  · exact h5
end Go.Proofs.Ytokkgbcjjaiaeaa

namespace Go.Proofs.Ytokkgbcjjaiaeaa
open Go Go.RowKit Go.Shelf Go.Maps
attribute [local go_sem] encS

theorem IsAl.form {w : World} {base : Nat} {v : Value} {p : List BS} (h : IsAl w base v p) : (v = .pointer none ∧ p = []) ∨ ∃ b sa cap, v = .pointer (some ⟨b, 0, none⟩) ∧ w.cell? ⟨b, 256, none⟩ = some (.slice sa p.length cap) ∧
    (∀ c k : Nat, (tabOf p)[c]? = some k → w.cell? ⟨b, c, none⟩ = some (.int .u8 k)) ∧ base ≤ b ∧ b < w.heap.size ∧
    ∀ i s, p[i]? = some s → ∃ g, sa = some ⟨g, 0, none⟩ ∧ base ≤ g ∧ g < w.heap.size ∧ ∀ j, j < 4 → w.cell? ⟨g, i * 4 + j, none⟩ = (encS s)[j]? := by
  rcases h with h | ⟨b, sl, h1, h2, h3, h4, h5⟩
  · exact .inl h
  · obtain ⟨sa, cap, rfl⟩ := ownsRow_form h4
    refine .inr ⟨b, sa, cap, h1, ?_, fun c k hk => ?_, h2, h3.lt, fun i s hi => ?_⟩
    · have hn : (Value.slice sa p.length cap) = .slice sa p.length cap := rfl
      have := h3.cell 256
      rw [alCells_list (tabOf_length p)] at this
      exact this
    · rw [h3.cell c, alCells_tab hk]
    · obtain ⟨g, cap', h6, h7, h8, h9⟩ := ownsRow_elem h4 rfl hi
      cases h6
      exact ⟨g, rfl, h7, h8, h9⟩

set_option maxRecDepth 100000 in
theorem none_any (v : Value) (base : Nat) (p : List BS) (w : World) (h : IsAl w base v p) :
    Calls Try.prog 68 #[v] w fun e w' => e = .returned (.bool p.isEmpty) ∧ w' = w := by
  rcases h.form with ⟨rfl, rfl⟩ | ⟨b, sa, cap, rfl, c0, _⟩
  · clear h
    go_enter Try.func68, Try.ntmps68
    go_wp2
    go_ret
    exact ⟨rfl, rfl⟩
  · clear h
    cases p with
    | nil =>
      go_enter Try.func68, Try.ntmps68
      go_wp2
      go_ret
      exact ⟨rfl, rfl⟩
    | cons s p =>
      go_enter Try.func68, Try.ntmps68
      go_wp2
      go_ret
      exact ⟨rfl, rfl⟩

theorem none_nil (w : World) : Calls Try.prog 68 #[.pointer none] w fun e w' => e = .returned (.bool true) ∧ w' = w := none_any _ 0 [] w (.inl ⟨rfl, rfl⟩)

set_option maxRecDepth 100000 in
theorem len_any (v : Value) (base : Nat) (p : List BS) (w : World) (h : IsAl w base v p) :
    Calls Try.prog 28 #[v] w fun e w' => e = .returned (.int .i64 p.length) ∧ w' = w := by
  have hn := none_any v base p w h
  rcases h.form with ⟨rfl, rfl⟩ | ⟨b, sa, cap, rfl, c0, _⟩
  · have HN := Lib.hid hn
    clear h hn
    go_enter Try.func28, Try.ntmps28
    go_wp2_with (go_at_call 68; refine HN.out.mono ?_; rintro e w1 ⟨rfl, rfl⟩)
    go_ret
    exact ⟨rfl, rfl⟩
  · cases p with
    | nil =>
      have HN := Lib.hid hn
      clear h hn
      go_enter Try.func28, Try.ntmps28
      go_wp2_with (go_at_call 68; refine HN.out.mono ?_; rintro e w1 ⟨rfl, rfl⟩)
      go_ret
      exact ⟨rfl, rfl⟩
    | cons s p =>
      have HN := Lib.hid hn
      clear h hn
      go_enter Try.func28, Try.ntmps28
      go_wp2_with (go_at_call 68; refine HN.out.mono ?_; rintro e w1 ⟨rfl, rfl⟩)
      go_ret
      exact ⟨rfl, rfl⟩

/-- The class that the table tells of a byte. -/
def cls (p : List BS) (c : Nat) : Nat := (tabOf p)[c]?.getD 0
theorem cls_get (p : List BS) {c : Nat} (hc : c < 256) : (tabOf p)[c]? = some (cls p c) := by
  unfold cls
  rw [List.getElem?_eq_getElem (by rw [tabOf_length]; exact hc)]; rfl
theorem cls_nil (c : Nat) : cls [] c = 0 := by
  unfold cls tabOf
  rw [pairsOf_nil, tabFold_nil, List.getElem?_replicate]; split <;> rfl
theorem cls_lt (p : List BS) (c : Nat) (hp : p.length ≤ 256) : cls p c < 256 := by
  by_cases hc : c < 256
  · obtain ⟨k, h1, h2, _⟩ := tabOf_lt p c hc hp
    unfold cls; rw [h1]; exact h2
  · unfold cls; rw [List.getElem?_eq_none (by rw [tabOf_length]; omega)]; decide

set_option maxRecDepth 100000 in
theorem class_any (v : Value) (base : Nat) (p : List BS) (c : Nat) (hc : c < 256) (w : World) (h : IsAl w base v p) :
    Calls Try.prog 21 #[v, .int .u8 c] w fun e w' => e = .returned (.int .i64 (cls p c)) ∧ w' = w := by
  have hn := none_any v base p w h
  have hlt := cls_lt p c h.le
  rcases h.form with ⟨rfl, rfl⟩ | ⟨b, sa, cap, rfl, c0, ht, _⟩
  · have HN := Lib.hid hn
    clear h hn hlt
    go_enter Try.func21, Try.ntmps21
    go_wp2_with (go_at_call 68; refine HN.out.mono ?_; rintro e w1 ⟨rfl, rfl⟩)
    go_ret
    exact ⟨by rw [cls_nil]; rfl, rfl⟩
  · have c1 := ht c _ (cls_get p hc)
    cases p with
    | nil =>
      have HN := Lib.hid hn
      clear h hn ht
      go_enter Try.func21, Try.ntmps21
      go_wp2_with (go_at_call 68; refine HN.out.mono ?_; rintro e w1 ⟨rfl, rfl⟩)
      go_ret
      exact ⟨by rw [cls_nil]; rfl, rfl⟩
    | cons s p =>
      have HN := Lib.hid hn
      clear h hn ht
      generalize cls (s :: p) c = z at c1 hlt ⊢
      go_enter Try.func21, Try.ntmps21
      go_wp2_with (go_at_call 68; refine HN.out.mono ?_; rintro e w1 ⟨rfl, rfl⟩)
      go_ret
      exact ⟨rfl, rfl⟩

theorem IsAl.some {w : World} {base : Nat} {v : Value} {s : BS} {p : List BS} (h : IsAl w base v (s :: p)) : ∃ b sa cap, v = .pointer (some ⟨b, 0, none⟩) ∧ w.cell? ⟨b, 256, none⟩ = some (.slice sa (s :: p).length cap) ∧
    (∀ c k : Nat, (tabOf (s :: p))[c]? = some k → w.cell? ⟨b, c, none⟩ = some (.int .u8 k)) ∧ base ≤ b ∧ b < w.heap.size ∧
    ∀ i s', (s :: p)[i]? = some s' → ∃ g, sa = some ⟨g, 0, none⟩ ∧ base ≤ g ∧ g < w.heap.size ∧ ∀ j, j < 4 → w.cell? ⟨g, i * 4 + j, none⟩ = (encS s')[j]? := by
  rcases h.form with ⟨_, h⟩ | h
  · cases h
  · exact h

/-- The class with a number. -/
def setOf (p : List BS) (k : Int) : Option BS := if 0 ≤ k then p[k.toNat]? else none
theorem setOf_nil (k : Int) : setOf [] k = none := by unfold setOf; split <;> simp
theorem setOf_neg (p : List BS) {k : Int} (h : k < 0) : setOf p k = none := by unfold setOf; rw [if_neg (by omega)]
theorem setOf_over (p : List BS) {k : Int} (h : (p.length : Int) ≤ k) : setOf p k = none := by unfold setOf; rw [if_pos (by omega), List.getElem?_eq_none (by omega)]
theorem setOf_nat (p : List BS) (k : Nat) : setOf p k = p[k]? := by unfold setOf; rw [if_pos (by omega), Int.toNat_natCast]
theorem setOf_ex (p : List BS) (k : Int) : (setOf p k = none ∧ (k < 0 ∨ (p.length : Int) ≤ k)) ∨ ∃ (n : Nat) (s : BS), k = n ∧ n < p.length ∧ p[n]? = some s ∧ setOf p k = some s := by
  by_cases h1 : k < 0
  · exact .inl ⟨setOf_neg p h1, .inl h1⟩
  · by_cases h2 : (p.length : Int) ≤ k
    · exact .inl ⟨setOf_over p h2, .inr h2⟩
    · obtain ⟨n, rfl⟩ : ∃ n : Nat, k = n := ⟨k.toNat, by omega⟩
      have h3 : n < p.length := by omega
      exact .inr ⟨n, p[n], rfl, h3, List.getElem?_eq_getElem h3, by rw [setOf_nat]; exact List.getElem?_eq_getElem h3⟩

set_option maxRecDepth 100000 in
theorem is_any (v : Value) (base : Nat) (p : List BS) (k : Int) (w : World) (h : IsAl w base v p) :
    Calls Try.prog 69 #[v, .int .i64 k] w fun e w' => e = .returned (.bool (setOf p k).isSome) ∧ w' = w := by
  have hn := none_any v base p w h
  cases p with
  | nil =>
    have HN := Lib.hid hn
    clear h hn
    go_enter Try.func69, Try.ntmps69
    go_wp2_with (go_at_call 68; refine HN.out.mono ?_; rintro e w1 ⟨rfl, rfl⟩)
    go_ret
    exact ⟨by rw [setOf_nil]; rfl, rfl⟩
  | cons s p =>
    obtain ⟨b, sa, cap, rfl, c0, _⟩ := h.some
    have hp := setOf_ex (s :: p) k
    have hle := h.le
    generalize (s :: p).length = m at c0 hp hle
    generalize setOf (s :: p) k = r at hp ⊢
    have HN := Lib.hid hn
    clear h hn
    rcases hp with ⟨rfl, h1 | h1⟩ | ⟨n, t, rfl, h1, _, rfl⟩
    · go_enter Try.func69, Try.ntmps69
      go_wp2_with (go_at_call 68; refine HN.out.mono ?_; rintro e w1 ⟨rfl, rfl⟩)
      go_ret
      exact ⟨rfl, rfl⟩
    · go_enter Try.func69, Try.ntmps69
      go_wp2_with (go_at_call 68; refine HN.out.mono ?_; rintro e w1 ⟨rfl, rfl⟩)
      go_ret
      exact ⟨by rw [show (decide (k < (m : Int))) = false from decide_eq_false (by omega)]; rfl, rfl⟩
    · go_enter Try.func69, Try.ntmps69
      go_wp2_with (go_at_call 68; refine HN.out.mono ?_; rintro e w1 ⟨rfl, rfl⟩)
      go_ret
      exact ⟨rfl, rfl⟩

set_option maxRecDepth 100000 in
theorem set_any (v : Value) (base : Nat) (p : List BS) (k : Int) (w : World) (h : IsAl w base v p) :
    Calls Try.prog 19 #[v, .int .i64 k] w fun e w' => e = .returned (.tuple #[.agg (encS ((setOf p k).getD 0)), .bool (setOf p k).isSome]) ∧ Ext w w' := by
  have hn := is_any v base p k w h
  have hz := encS_zero
  rcases setOf_ex p k with ⟨h1, _⟩ | ⟨n, t, rfl, h1, h2, h3⟩
  · rw [h1] at hn ⊢
    have HI := Lib.hid (fun o => (show Calls Try.prog 69 #[v, .int .i64 k] (w.alloc o) _ from is_any v base p k (w.alloc o) (h.below ((Ext.refl w).alloc o).below)))
    rw [h1] at HI
    clear h hn h1
    go_enter Try.func19, Try.ntmps19
    go_wp2_with (go_at_call 69; refine (HI.out _).mono ?_; rintro e w1 ⟨rfl, rfl⟩)
    refine bodyPost_ret (v := .tuple #[.agg (encS 0), .bool false]) ?_ rfl ⟨rfl, (Ext.refl w).alloc _⟩
    rw [hz]
    simp [results, Try.results19, go_sem]
  · cases p with
    | nil => simp at h1
    | cons s p =>
    obtain ⟨b, sa, cap, rfl, c0, _, _, hb, hr⟩ := h.some
    obtain ⟨g, rfl, _, hg, hc⟩ := hr n t h2
    have hle := h.le
    have d0 : w.cell? ⟨g, n * 4, none⟩ = some (.int .u64 (wd t 0).toNat) := hc 0 (by decide)
    have d1 : w.cell? ⟨g, n * 4 + 1, none⟩ = some (.int .u64 (wd t 1).toNat) := hc 1 (by decide)
    have d2 : w.cell? ⟨g, n * 4 + 2, none⟩ = some (.int .u64 (wd t 2).toNat) := hc 2 (by decide)
    have d3 : w.cell? ⟨g, n * 4 + 3, none⟩ = some (.int .u64 (wd t 3).toNat) := hc 3 (by decide)
    have HI := Lib.hid (fun o => (show Calls Try.prog 69 #[_, .int .i64 n] (w.alloc o) _ from is_any _ base _ n (w.alloc o) (h.below ((Ext.refl w).alloc o).below)))
    rw [h3] at HI ⊢
    generalize (s :: p).length = m at c0 hle h1
    clear h hn hc hr h2 h3
    go_enter Try.func19, Try.ntmps19
    go_wp2_with (go_at_call 69; refine (HI.out _).mono ?_; rintro e w1 ⟨rfl, rfl⟩)
    refine bodyPost_ret (v := .tuple #[.agg (encS t), .bool true]) ?_ rfl ⟨rfl, (Ext.refl w).alloc _⟩
    simp [results, Try.results19, go_sem]

/-- The least byte of the class with a number. -/
def leastOf (p : List BS) (k : Int) : Nat × Bool := match setOf p k with | none => (0, false) | some s => firstOf s

set_option maxRecDepth 100000 in
theorem least_any (v : Value) (base : Nat) (p : List BS) (k : Int) (w : World) (h : IsAl w base v p) :
    Calls Try.prog 36 #[v, .int .i64 k] w fun e w' => e = .returned (.tuple #[.int .u8 (leastOf p k).1, .bool (leastOf p k).2]) ∧ Ext w w' := by
  have HS := Lib.hid (set_any v base p k w h)
  clear h
  unfold leastOf
  generalize setOf p k = r at HS ⊢
  cases r with
  | none =>
    go_enter Try.func36, Try.ntmps36
    go_wp2_with (go_at_call 19; refine HS.out.mono ?_; rintro e w1 ⟨rfl, hx⟩; have HX := Lib.hid hx; clear hx)
    refine bodyPost_ret (v := .tuple #[.int .u8 (0 : Nat), .bool false]) ?_ rfl ⟨rfl, HX.out.alloc _⟩
    simp [results, Try.results36, go_sem]
  | some s =>
    have HF := Lib.hid (first_any s)
    dsimp only at HS ⊢
    generalize firstOf s = z at HF ⊢
    have hs : (some s).getD 0 = s := rfl
    go_enter Try.func36, Try.ntmps36
    go_wp2_with (first | (go_at_call 19; refine HS.out.mono ?_; rintro e w1 ⟨rfl, hx⟩; have HX := Lib.hid hx; clear hx) | (go_at_call 38; refine (HF.out _).mono ?_; rintro e w2 ⟨rfl, hx⟩; have HX2 := Lib.hid hx; clear hx))
    refine bodyPost_ret (v := .tuple #[.int .u8 z.1, .bool z.2]) ?_ rfl ⟨rfl, (HX.out.alloc _).trans HX2.out⟩
    simp [results, Try.results36, go_sem]
end Go.Proofs.Ytokkgbcjjaiaeaa

namespace Go.Proofs.Ytokkgbcjjaiaeaa
open Go Go.RowKit Go.Shelf Go.Maps
attribute [local go_sem] encS Oper.semAt_some wide_fn wide_depth

theorem members_call (ad : Option Addr) (w : World) : Calls Try.prog 94 #[.pointer ad] w fun e w' => e = .returned (.func (.func 110) #[] #[.pointer (some ⟨w.heap.size, 0, none⟩)]) ∧ w' = w.alloc (.cells #[.pointer ad] 31 (0, 0)) := by
  go_enter Try.func94, Try.ntmps94
  go_wp2
  go_ret
  exact ⟨rfl, rfl⟩

/-- Where a slice of sets lies, its row at block g. -/
def RowAt (w : World) (g : Nat) (sa : Option Addr) (p : List BS) : Prop := g < w.heap.size ∧ ∀ i s, p[i]? = some s → sa = some ⟨g, 0, none⟩ ∧ ∀ j, j < 4 → w.cell? ⟨g, i * 4 + j, none⟩ = (encS s)[j]?
theorem RowAt.keeps {w w' : World} {g : Nat} {sa : Option Addr} {p : List BS} (h : RowAt w g sa p) {R : Nat → Prop} (hk : Keeps R w w') (hr : R g) : RowAt w' g sa p :=
  ⟨Nat.lt_of_lt_of_le h.1 hk.size, fun i s hi => ⟨(h.2 i s hi).1, fun j hj => (hk.cell (p := ⟨g, i * 4 + j, none⟩) hr).trans ((h.2 i s hi).2 j hj)⟩⟩

theorem ownsRow_bytes {w : World} {base n : Nat} {v : Value} {l : List Nat} (h : w.ownsRow base 5 1 v n (l.map encB)) (hn : n = l.length) : ∃ g a cap, v = .slice a n cap ∧ (n = 0 ∨ a = some ⟨g, 0, none⟩ ∧ base ≤ g ∧ g < w.heap.size ∧ ∀ i c : Nat, l[i]? = some c → w.cell? ⟨g, i, none⟩ = some (.int .u8 c)) := by
  rcases h.2 with ⟨h1, h2⟩ | ⟨g, cap, cur, hv, hb, hg, _, _, hs, ht⟩
  · exact ⟨0, none, 0, by rw [h1, h2], .inl h2⟩
  · refine ⟨g, _, cap, hv, .inr ⟨rfl, hb, (Array.getElem?_eq_some_iff.1 hg).1, fun i c hi => ?_⟩⟩
    have hlt : i < l.length := (List.getElem?_eq_some_iff.1 hi).1
    have hc : w.cell? ⟨g, i, none⟩ = cur[i]? := by simp [World.cell?, hg]
    have h3 : cur[i]? = (l.map encB)[i]? := by
      rw [← ht, List.getElem?_take, if_pos (by omega)]; simp
    rw [hc, h3, List.getElem?_map, hi]; rfl

set_option maxRecDepth 100000 in
set_option maxHeartbeats 2000000 in
/-- THE ITERATOR: the bytes of all classes, with their numbers. -/
theorem members_seq (p : List BS) (bx ab g n cap : Nat) (sa : Option Addr) (w : World) (hp : n = p.length) (hn : p.length ≤ 256) (hbx : w.cell? ⟨bx, 0, none⟩ = some (.pointer (some ⟨ab, 0, none⟩))) (hbs : bx < w.heap.size)
    (hab : w.cell? ⟨ab, 256, none⟩ = some (.slice sa n cap)) (has : ab < w.heap.size) (hr : RowAt w g sa p) :
    Seq false Try.prog 110 #[.pointer (some ⟨bx, 0, none⟩)] (fun x : Nat × Nat => #[.int .i64 x.1, .int .u8 x.2]) (· = g) (pairsOf p) w := by
  intro l J Jx W hK hJ hJx hY h0
  have c0 : W.cell? ⟨bx, 0, none⟩ = _ := (hK.cell (p := ⟨bx, 0, none⟩) hbs).trans hbx
  have c1 : W.cell? ⟨ab, 256, none⟩ = _ := (hK.cell (p := ⟨ab, 256, none⟩) has).trans hab
  have hr1 : RowAt W g sa p := hr.keeps hK hr.1
  have HY := Lib.hid hY
  have HB := Lib.hid fun s W => bytes_any s W
  have HR1 := Lib.hid hr1
  have HJ := Lib.hid hJ
  have HP := Lib.hid hp
  have hn' : n ≤ 256 := by omega
  clear hY hbx hab hbs has hr hr1 hJx hK hJ hp hn
  refine callsIn_wide (n := 0).1 ?_
  refine callsIn_of_wp Try.func110 rfl trivial ?_ rfl
  simp only [Try.ntmps110, List.size_toArray, List.length_cons, List.length_nil, Nat.reduceAdd, Nat.reduceSub, Array.replicate_succ, Array.replicate_zero, List.push_toArray, List.append_toArray, List.nil_append, List.cons_append]
  gi_wp2
  gi_loopw [12] (fun i wr => ∃ (k : Nat) (T : Nat → Prop), k ≤ n ∧ i = .int .i64 k ∧ J (pairsOf (p.take k)) T wr ∧ (∀ k, T k → W.heap.size ≤ k ∧ k < wr.heap.size) ∧ Keeps (· = g) W wr)
    (fun i _ => n - (intOf i).toNat)
  case atStart =>
    exact ⟨0, fun _ => False, by omega, rfl, h0, fun _ h => h.elim, Keeps.refl _ _⟩
  case round =>
    clear c0 c1 h0
    obtain ⟨wo, rfl⟩ : ∃ wo : World, wo = wr := ⟨_, rfl⟩
    obtain ⟨k, T, hk, rfl, hj, hT, hR⟩ := hrel
    have HJo := Lib.hid hj
    have HT := Lib.hid hT
    have HR := Lib.hid hR
    clear hj hT hR
    by_cases hlt : k < n
    · obtain ⟨s, hs⟩ : ∃ s, p[k]? = some s := ⟨_, List.getElem?_eq_getElem (by have := HP.out; omega)⟩
      obtain ⟨hsa, hcs⟩ := (HR1.out.keeps HR.out rfl).2 k s hs
      subst hsa
      have d0 : wo.cell? ⟨g, k * 4, none⟩ = some (.int .u64 (wd s 0).toNat) := hcs 0 (by decide)
      have d1 : wo.cell? ⟨g, k * 4 + 1, none⟩ = some (.int .u64 (wd s 1).toNat) := hcs 1 (by decide)
      have d2 : wo.cell? ⟨g, k * 4 + 2, none⟩ = some (.int .u64 (wd s 2).toNat) := hcs 2 (by decide)
      have d3 : wo.cell? ⟨g, k * 4 + 3, none⟩ = some (.int .u64 (wd s 3).toNat) := hcs 3 (by decide)
      have HPT := Lib.hid (pairsOf_take hs)
      have HPX := Lib.hid (pairsOf_prefix hs)
      have HBL : Hid (∀ c ∈ bytesTo s 256, c < 256) := fun c h => bytesTo_lt h
      have HBs := Lib.hid (HB.out s)
      have hlen : (bytesTo s 256).length ≤ 256 := by unfold bytesTo; exact Nat.le_trans (List.length_filter_le _ _) (by simp)
      clear hcs hs
      generalize bytesTo s 256 = bs at HPT HPX HBL HBs hlen
      obtain ⟨m, hm⟩ : ∃ m, m = bs.length := ⟨_, rfl⟩
      rw [← hm] at HBs hlen
      have HM := Lib.hid hm
      clear hm
      gi_wp2_with (gi_at_call 111; refine (callsIn_wide.2 (HBs.out _)).mono ?_; rintro e w1 ⟨v, rfl, h1, h2⟩; obtain ⟨gb, ba, bcap, rfl, h3⟩ := ownsRow_bytes h1 HM.out; have H2 := Lib.hid h2; have H3 := Lib.hid h3; clear h1 h2 h3)
      obtain ⟨T', hT'⟩ : ∃ T' : Nat → Prop, T' = fun x => T x ∨ (0 < m ∧ x = gb) := ⟨_, rfl⟩
      have hx1 : Below wo.heap.size wo w1 := ((Ext.refl wo).alloc _).below.trans (H2.out.mono (by simp))
      have hsz : wo.heap.size ≤ w1.heap.size := hx1.size
      have hTb : ∀ x, T' x → W.heap.size ≤ x ∧ x < w1.heap.size := fun x hx => by
        rw [hT'] at hx
        rcases hx with hx | ⟨h0, rfl⟩
        · have := HT.out x hx; omega
        · rcases H3.out with h | ⟨_, h1, h2, _⟩
          · omega
          · have := HR.out.size; simp at h1; omega
      have hj1 : J (pairsOf (p.take k)) T' w1 := HJ.out _ T T' wo w1 HJo.out HT.out hTb (fun x hx => by rw [hT']; exact .inl hx) (fun x hx => by
        rw [hT'] at hx
        rcases hx with hx | ⟨h0, rfl⟩
        · exact .inl hx
        · rcases H3.out with h | ⟨_, h1, h2, _⟩
          · omega
          · simp at h1; exact .inr (by omega)) ⟨Keeps.of_below hx1 fun _ h => h.1, fun h => (by cases h)⟩
      have hk1 : Keeps (· = g) W w1 := HR.out.tr (Keeps.of_below hx1 fun x h => by have h1 := (HR1.out.keeps HR.out rfl).1; rw [show x = g from h]; exact h1)
      have H3' : Hid (m = 0 ∨ ba = some ⟨gb, 0, none⟩ ∧ T' gb ∧ ∀ i c : Nat, bs[i]? = some c → w1.cell? ⟨gb, i, none⟩ = some (.int .u8 c)) := by
        by_cases hm0 : m = 0
        · exact .inl hm0
        · rcases H3.out with h | ⟨h1, _, _, h4⟩
          · exact absurd h hm0
          · exact .inr ⟨h1, by rw [hT']; exact .inr ⟨by omega, rfl⟩, h4⟩
      have HJ1 := Lib.hid hj1
      have HK1 := Lib.hid hk1
      have HTb := Lib.hid hTb
      clear hT' hx1 hsz hTb hj1 hk1 H3 H2 HJo HT HR d0 d1 d2 d3 HBs
      gi_loopw [20] (fun i w2 => ∃ j : Nat, j ≤ m ∧ i = .int .i64 j ∧ J (pairsOf (p.take k) ++ (bs.take j).map fun c => (k, c)) T' w2 ∧ Keeps (fun x => x = g ∨ T' x) w1 w2) (fun i _ => m - (intOf i).toNat)
      case atStart =>
        refine ⟨0, by omega, rfl, ?_, Keeps.refl _ _⟩
        rw [List.take_zero, List.map_nil, List.append_nil]; exact HJ1.out
      case round =>
        obtain ⟨w2, rfl⟩ : ∃ w2 : World, w2 = wr := ⟨_, rfl⟩
        obtain ⟨j, hj, rfl, hjj, hkk⟩ := hrel
        have HJJ := Lib.hid hjj
        have HKK := Lib.hid hkk
        clear hjj hkk HJ1
        by_cases hjm : j < m
        · obtain ⟨hba, hg, hcb⟩ := H3'.out.resolve_left (by omega)
          subst hba
          obtain ⟨c, hc⟩ : ∃ c, bs[j]? = some c := ⟨_, List.getElem?_eq_getElem (by have := HM.out; omega)⟩
          have hc256 : c < 256 := HBL.out c (List.mem_of_getElem? hc)
          have e0 : w2.cell? ⟨gb, j, none⟩ = some (.int .u8 c) := (HKK.out.cell (p := ⟨gb, j, none⟩) (.inr hg)).trans (hcb j c hc)
          have htk : (bs.take (j + 1)).map (fun c => (k, c)) = (bs.take j).map (fun c => (k, c)) ++ [(k, c)] := by rw [List.take_add_one, hc]; simp
          have hpx : (pairsOf (p.take k) ++ (bs.take j).map fun c => (k, c)) ++ [(k, c)] <+: pairsOf p := by
            have := HPX.out (j + 1)
            rw [htk, ← List.append_assoc] at this; exact this
          obtain ⟨fn, tm, asg, bd, hy, hRd⟩ := HY.out _ (k, c) T' w2 hpx (fun x hx => ⟨(HTb.out x hx).1, Nat.lt_of_lt_of_le (HTb.out x hx).2 HKK.out.size⟩) (HK1.out.tr (HKK.out.mono fun x hx => .inl hx)) HJJ.out
          have HRd := Lib.hid hRd
          have HTK := Lib.hid htk
          have HPJ := Lib.hid hpx
          clear hRd hg hcb hc htk hpx
          dsimp only at hy
          gi_wp2
          refine HRd.out.mono ?_
          rintro e W2 (⟨rfl, hj2, hk2⟩ | ⟨rfl, hj2, hk2⟩)
          · have HJ2 := Lib.hid hj2
            have HK2 := Lib.hid hk2
            clear hj2 hk2 hy
            gi_wp2
            go_roundw
            case rel =>
              refine ⟨j + 1, by omega, by go_num, ?_, HKK.out.tr (HK2.out)⟩
              rw [HTK.out, ← List.append_assoc]; exact HJ2.out
            case measure => simp [intOf]; omega
          · have HJ2 := Lib.hid hj2
            have HK2 := Lib.hid hk2
            clear hj2 hk2 hy
            gi_wp2
            refine bodyPost_ret (results_none rfl _ _ _) rfl ?_
            exact ⟨⟨_, rfl⟩, T', fun x hx => ⟨(HTb.out x hx).1, Nat.lt_of_lt_of_le (HTb.out x hx).2 (Nat.le_trans HKK.out.size HK2.out.size)⟩, .inr ⟨_, HPJ.out, HJ2.out⟩⟩
        · obtain rfl : j = m := by omega
          gi_wp2
          go_roundw
          case rel =>
            refine ⟨k + 1, T', by omega, by go_num, ?_, fun x hx => ⟨(HTb.out x hx).1, Nat.lt_of_lt_of_le (HTb.out x hx).2 HKK.out.size⟩, HK1.out.tr (HKK.out.mono fun x hx => .inl hx)⟩
            rw [HPT.out]
            have := HJJ.out
            rwa [HM.out, List.take_length] at this
          case measure => simp [intOf]; omega
    · obtain rfl : k = n := by omega
      gi_wp2
      refine bodyPost_end (results_none rfl _ _ _) rfl ?_
      refine ⟨⟨_, rfl⟩, T, HT.out, .inl ?_⟩
      have := HJo.out
      rwa [HP.out, List.take_length] at this

theorem ownsRow_rowAt {w : World} {base n : Nat} {v : Value} {p : List BS} (h : w.ownsRow base 25 4 v n (flatS p)) (hn : n = p.length) : ∃ sa cap, v = .slice sa n cap ∧ ((p = [] ∧ n = 0) ∨ ∃ g, RowAt w g sa p) := by
  rcases h.2 with ⟨h1, h2⟩ | ⟨g, cap, cur, hv, hb, hg, _⟩
  · exact ⟨none, 0, by rw [h1, h2], .inl ⟨List.eq_nil_of_length_eq_zero (by omega), h2⟩⟩
  · refine ⟨_, cap, hv, .inr ⟨g, (Array.getElem?_eq_some_iff.1 hg).1, fun i s hi => ?_⟩⟩
    obtain ⟨g', cap', h6, h7, h8, h9⟩ := ownsRow_elem h hn hi
    rw [hv] at h6; cases h6
    exact ⟨rfl, h9⟩

theorem zeroCells_al (v : Value) : Try.zeroCells60.setIfInBounds 256 v = alCells (tabFold []) v := by kernel_rfl

set_option maxRecDepth 100000 in
set_option maxHeartbeats 2000000 in
theorem made_any (p : List BS) (v : Value) (base : Nat) (w : World) (h : w.ownsRow base 25 4 v p.length (flatS p)) (hb : base ≤ w.heap.size) (hp : p.length ≤ 256) :
    Calls Try.prog 66 #[v] w fun e w' => ∃ b, e = .returned (.pointer (some ⟨b, 0, none⟩)) ∧ IsAl w' base (.pointer (some ⟨b, 0, none⟩)) p ∧ Below w.heap.size w w' := by
  have eg : ∀ args w, (callFunc 110 args).run Try.prog w = .ok (.enter 110 args) w := enters_of Try.func110 (by kernel_rfl) rfl
  obtain ⟨n, hn⟩ : ∃ n, n = p.length := ⟨_, rfl⟩
  rw [← hn] at h
  obtain ⟨sa, cap, rfl, hrow⟩ := ownsRow_rowAt h hn
  have H := Lib.hid h
  have HR := Lib.hid hrow
  have HN := Lib.hid hn
  have HP := Lib.hid hp
  have HB := Lib.hid hb
  clear h hrow hn hp hb
  refine calls_of_wp_marks Try.func66 rfl ?_
  simp only [Try.ntmps66, List.size_toArray, List.length_cons, List.length_nil, Nat.reduceAdd, Nat.reduceSub, Array.replicate_succ, Array.replicate_zero, List.push_toArray, List.append_toArray, List.nil_append, List.cons_append]
  go_wp2_with (go_at_call 94; refine (members_call _ _).mono ?_; rintro e w1 ⟨rfl, rfl⟩)
  rw [zeroCells_al]
  refine wp_named ?_
  intro W0 hW0
  have hab : Blk W0 w.heap.size (alCells (tabFold []) (.slice sa n cap)) 60 := by rw [hW0]; exact ((Blk.new _ _ _).alloc _).alloc _
  have hbx : Blk W0 (w.heap.size + 1) #[.pointer (some ⟨w.heap.size, 0, none⟩)] 31 := by rw [hW0]; exact ((Blk.new _ _ _).at (by simp)).alloc _
  have hcl : Blk W0 (w.heap.size + 1 + 1) #[.pointer (some ⟨w.heap.size, 0, none⟩)] 31 := by rw [hW0]; exact (Blk.new _ _ _).at (by simp)
  have hx0 : Ext w W0 := by rw [hW0]; exact (((Ext.refl w).alloc _).alloc _).alloc _
  have hsz : W0.heap.size = w.heap.size + 1 + 1 + 1 := by rw [hW0]; simp
  clear hW0
  obtain ⟨g, hg, hr⟩ : ∃ g, (g ≠ w.heap.size ∧ g ≠ w.heap.size + 1 ∧ g < W0.heap.size) ∧ RowAt W0 g sa p := by
    rcases HR.out with ⟨h1, _⟩ | ⟨g, h1⟩
    · exact ⟨w.heap.size + 1 + 1, ⟨by omega, by omega, by omega⟩, by omega, fun i s hi => by rw [h1] at hi; simp at hi⟩
    · exact ⟨g, ⟨by have := h1.1; omega, by have := h1.1; omega, by have := h1.1; omega⟩, h1.keeps hx0.keeps h1.1⟩
  have hseq := members_seq p (w.heap.size + 1 + 1) w.heap.size g n cap sa W0 HN.out HP.out (hcl.cell 0) hcl.lt (by rw [hab.cell 256, alCells_list (tabFold_length _)]) hab.lt hr
  clear hr hcl
  refine wp_range1 hseq (by rfl) eg (by intro _; rfl) (by intro k hk; rw [show k = g from hk]; exact hg.2.2)
    (fun xs _ W => Blk W w.heap.size (alCells (tabFold xs) (.slice sa n cap)) 60 ∧ Blk W (w.heap.size + 1) #[.pointer (some ⟨w.heap.size, 0, none⟩)] 31 ∧ Below w.heap.size w W)
    (fun _ _ _ _ => False)
    (fun xs T T' W W' ⟨h1, h2, h3⟩ hT _ _ _ hk => ⟨h1.stab hT hk (by omega), h2.stab hT hk (by omega), belowStab h3 hT hk (Nat.le_refl _) (by omega)⟩)
    (fun c xs T T' W W' h => h.elim)
    ⟨hab, hbx, hx0.below⟩
    (fun x => ⟨#[.slice sa n cap, undef, .pointer none, .pointer (some ⟨w.heap.size + 1, 0, none⟩), .int .i64 x.1, .int .u8 x.2, .slice sa n cap, .agg (alCells (tabFold []) (.slice sa n cap)), .pointer (some ⟨w.heap.size, 0, none⟩), .pointer (some ⟨w.heap.size, 0, none⟩),
      .func (.func 110) #[] #[.pointer (some ⟨w.heap.size + 1 + 1, 0, none⟩)], .int .i64 x.1, .int .u8 x.2, undef, undef, undef, undef, undef, undef, undef, undef], []⟩) ?assign ?body ?done ?stop
  case assign =>
    intro l x W K hK
    gi_wp2
    exact hK
  case body =>
    rintro l pre ⟨k, c⟩ T W hpre hT _ hTl hl ⟨g1, g2, g3⟩
    have hmem : (k, c) ∈ pairsOf p := hpre.subset (by simp)
    obtain ⟨s, h1, hc256, _⟩ := mem_pairsOf.1 hmem
    have hk256 : k < 256 := by have := (List.getElem?_eq_some_iff.1 h1).1; have := HP.out; dsimp only at *; omega
    dsimp only at hc256
    obtain ⟨y, hy⟩ : ∃ y, (tabFold pre)[c]? = some y := ⟨_, List.getElem?_eq_getElem (by rw [tabFold_length]; exact hc256)⟩
    have c0 : W.cell? ⟨w.heap.size + 1, 0, none⟩ = some (.pointer (some ⟨w.heap.size, 0, none⟩)) := g2.cell 0
    have c1 : W.cell? ⟨w.heap.size, c, none⟩ = some (.int .u8 y) := (g1.cell c).trans (alCells_tab hy)
    have f1 := g1.frozen c
    have hset := g1.set c (.int .u8 k)
    rw [alCells_set (by rw [tabFold_length]; exact hc256)] at hset
    have hts := tabFold_snoc pre (k, c)
    rw [← hts] at hset
    have HSET := Lib.hid hset
    have HG2 := Lib.hid (g2.other (p := ⟨w.heap.size, c, none⟩) (by simp) (.int .u8 k))
    have HG3 := Lib.hid (g3.setCell (p := ⟨w.heap.size, c, none⟩) (Nat.le_refl _) (.int .u8 k))
    have HT := Lib.hid hT
    have HG := Lib.hid hg
    have HSZ := Lib.hid hsz
    clear hset hts g1 g2 g3 hT hy h1 hmem hTl hl hg hsz hab hbx hx0 hpre hseq
    gi_wp2
    refine ⟨(Keeps.refl _ _).setCell (fun h => ?_) _, HSET.out, HG2.out, HG3.out⟩
    have hgg := HG.out
    have hss := HSZ.out
    rcases h with h | h
    · exact hgg.1 h.symm
    · have := (HT.out _ h).1; dsimp only at this; omega
  case done =>
    rintro D T W hD hTD hT ⟨g1, g2, g3⟩ hDD
    have c0 : W.cell? ⟨w.heap.size + 1, 0, none⟩ = some (.pointer (some ⟨w.heap.size, 0, none⟩)) := g2.cell 0
    have G1 := Lib.hid g1
    have G3 := Lib.hid g3
    have HD := Lib.hid hD
    have HSZ := Lib.hid hsz
    have HDD := Lib.hid hDD
    clear g1 g2 g3 hsz hT hTD hDD hD hg hab hbx hx0 hseq
    dsimp only
    go_wp2
    refine markPost_ret rfl HDD.out (results_tmp rfl _ _ _) ⟨_, rfl, .inr ⟨_, _, rfl, HB.out, G1.out.put (by have := HD.out; have := HSZ.out; omega) _, ?_, HP.out⟩, ((Keeps.of_below G3.out (fun _ h => h)).putObj (by have := HD.out; have := HSZ.out; omega) _).below⟩
    have h1 := ownsRow_keeps H.out (Keeps.of_below G3.out fun _ h => h) (fun k e => (H.out.lt k e).2)
    rw [HN.out] at h1
    rw [← HN.out, HN.out]
    exact ownsRow_putObj h1 _ HDD.out rfl
  case stop => rintro D c pre T W _ _ _ _ h _; exact h.elim
end Go.Proofs.Ytokkgbcjjaiaeaa

namespace Go.Proofs.Ytokkgbcjjaiaeaa
open Go Go.RowKit Go.Shelf Go.Maps
attribute [local go_sem] encS

theorem IsSl.keeps {α : Type} {enc : α → Value} {w w' : World} {v : Value} {l : List α} (h : IsSl enc w v l) {R : Nat → Prop} (hk : Keeps R w w') (hr : ∀ b off n cap, v = .slice (some ⟨b, off, none⟩) n cap → R b) : IsSl enc w' v l := by
  rcases h with h | ⟨b, off, cap, hv, hb, hc, h⟩
  · exact .inl h
  · exact .inr ⟨b, off, cap, hv, Nat.lt_of_lt_of_le hb hk.size, hc, fun i x hi => (hk.cell (p := ⟨b, off + i, none⟩) (hr _ _ _ _ hv)).trans (h i x hi)⟩
theorem IsSl.below {α : Type} {enc : α → Value} {w w' : World} {v : Value} {l : List α} (h : IsSl enc w v l) (hk : Below w.heap.size w w') : IsSl enc w' v l := by
  rcases h with h | ⟨b, off, cap, hv, hb, hc, h⟩
  · exact .inl h
  · exact .inr ⟨b, off, cap, hv, Nat.lt_of_lt_of_le hb hk.size, hc, fun i x hi => (hk.cell (p := ⟨b, off + i, none⟩) hb).trans (h i x hi)⟩
theorem IsSl.form {α : Type} {enc : α → Value} {w : World} {v : Value} {l : List α} (h : IsSl enc w v l) : ∃ a cap, v = .slice a l.length cap := by
  rcases h with ⟨h, rfl⟩ | ⟨b, off, cap, hv, _⟩
  · exact ⟨_, _, h⟩
  · exact ⟨_, _, hv⟩
theorem IsSl.elem {α : Type} {enc : α → Value} {w : World} {a : Option Addr} {n cap : Nat} {l : List α} (h : IsSl enc w (.slice a n cap) l) {i : Nat} {x : α} (hi : l[i]? = some x) : ∃ b off, a = some ⟨b, off, none⟩ ∧ b < w.heap.size ∧ w.cell? ⟨b, off + i, none⟩ = some (enc x) := by
  rcases h with ⟨_, rfl⟩ | ⟨b, off, cap, hv, hb, hc, h⟩
  · simp at hi
  · cases hv; exact ⟨b, off, rfl, hb, h i x hi⟩
theorem ownsRow_sl {α : Type} {enc : α → Value} {w : World} {base n : Nat} {v : Value} {e : TypeId} {l : List α} (h : w.ownsRow base e 1 v n (l.map enc)) (hn : n = l.length) : IsSl enc w v l := by
  rcases h.2 with ⟨h1, h2⟩ | ⟨g, cap, cur, hv, hb, hg, hc, _, hs, ht⟩
  · exact .inl ⟨h1, List.eq_nil_of_length_eq_zero (by omega)⟩
  · refine .inr ⟨g, 0, cap, by rw [hv, hn], (Array.getElem?_eq_some_iff.1 hg).1, by omega, fun i x hi => ?_⟩
    have hlt : i < l.length := (List.getElem?_eq_some_iff.1 hi).1
    have hc : w.cell? ⟨g, 0 + i, none⟩ = cur[i]? := by simp [World.cell?, hg]
    have h3 : cur[i]? = (l.map enc)[i]? := by
      rw [← ht, List.getElem?_take, if_pos (by omega)]; simp
    rw [hc, h3, List.getElem?_map, hi]; rfl

theorem Try.infoI : (Try.prog.info? 3).map (fun i => (i.zero, i.size, i.bytes)) = some (some (.int .i64 0), 1, 8) := by kernel_rfl
def encN (n : Nat) : Value := .int .i64 n
def encZ (k : Int) : Value := .int .i64 k

theorem partsOf_len (l : List BS) : (partsOf l).length ≤ 256 := by
  unfold partsOf; rw [List.length_mergeSort]; exact partsRaw_len l

theorem alphOf_any (l : List BS) (v0 : Value) (w : World) (hl : IsSets w v0 l) (hlen : l.length ≤ 9223372036854775807) :
    Calls Try.prog 14 #[v0] w fun e w' => ∃ b, e = .returned (.pointer (some ⟨b, 0, none⟩)) ∧ IsAl w' w.heap.size (.pointer (some ⟨b, 0, none⟩)) (partsOf l) ∧ Below w.heap.size w w' := by
  have HP := Lib.hid (parts_any l v0 w hl hlen)
  have HL := Lib.hid (partsOf_len l)
  clear hl
  generalize partsOf l = p at HP HL ⊢
  go_enter Try.func14, Try.ntmps14
  go_wp2_with (first | (go_at_call 67; refine HP.out.mono ?_; rintro e w1 ⟨v1, rfl, h1, h2⟩; have H1 := Lib.hid h1; have H2 := Lib.hid h2; clear h1 h2) | (go_at_call 66; refine (made_any p _ w.heap.size _ H1.out H2.out.size HL.out).mono ?_; rintro e w2 ⟨b, rfl, h1, h2⟩; have H3 := Lib.hid h1; have H4 := Lib.hid h2; clear h1 h2))
  go_ret
  exact ⟨b, rfl, H3.out, H2.out.trans (H4.out.mono H2.out.size)⟩

/-- The classes of bytes. -/
def wordOf (p : List BS) (b : List Nat) : List Nat := if p.isEmpty then [] else b.map (cls p)

set_option maxRecDepth 100000 in
set_option maxHeartbeats 1000000 in
theorem word_any (v : Value) (base : Nat) (p : List BS) (bv : Value) (b : List Nat) (w : World) (h : IsAl w base v p) (hb : IsSl encB w bv b) (hc : ∀ c ∈ b, c < 256) (hn : b.length ≤ 1000000) :
    Calls Try.prog 15 #[v, bv] w fun e w' => ∃ u, e = .returned u ∧ w'.ownsRow w.heap.size 3 1 u (wordOf p b).length ((wordOf p b).map encN) ∧ Below w.heap.size w w' := by
  obtain ⟨i0, hi, hz0, hz1, hz2⟩ := info_parts Try.infoI
  obtain ⟨sa, cap, rfl⟩ := hb.form
  have HN := Lib.hid (none_any v base p w h)
  have H := Lib.hid h
  have HB := Lib.hid hb
  have HC := Lib.hid hc
  obtain ⟨n, hnn⟩ : ∃ n, n = b.length := ⟨_, rfl⟩
  rw [← hnn] at hn HB ⊢
  have HNN := Lib.hid hnn
  clear h hb hc hnn
  unfold wordOf
  by_cases hp : p.isEmpty = true
  · rw [hp] at HN
    rw [if_pos hp]
    clear hp
    go_enter Try.func15, Try.ntmps15
    go_wp2_with (go_at_call 68; refine HN.out.mono ?_; rintro e w1 ⟨rfl, hw⟩; replace hw := hw.symm; subst hw)
    go_ret
    exact ⟨_, rfl, World.ownsRow_nil _ _ _ _, Below.refl _ _⟩
  · rw [if_neg hp]
    rw [show p.isEmpty = false from by simpa using hp] at HN
    clear hp
    go_enter Try.func15, Try.ntmps15
    go_wp2_with (go_at_call 68; refine HN.out.mono ?_; rintro e w1 ⟨rfl, hw⟩; replace hw := hw.symm; subst hw)
    go_loopw [12, 5] (fun i u wr => ∃ k : Nat, k ≤ n ∧ i = .int .i64 k ∧ wr.ownsRow w.heap.size 3 1 u ((b.take k).map (cls p)).length (((b.take k).map (cls p)).map encN) ∧ Below w.heap.size w wr) (fun i _ _ => n - (intOf i).toNat)
    case atStart => exact ⟨0, by omega, rfl, World.ownsRow_nil _ _ _ _, Below.refl _ _⟩
    case round =>
      obtain ⟨k, hk, rfl, ho, hbl⟩ := hrel
      by_cases hlt : k < n
      · obtain ⟨c, hcl⟩ : ∃ c, b[k]? = some c := ⟨_, List.getElem?_eq_getElem (by have := HNN.out; omega)⟩
        have hc256 : c < 256 := HC.out c (List.mem_of_getElem? hcl)
        obtain ⟨g, off, rfl, hg, hcell⟩ := HB.out.elem hcl
        have c0 : wr.cell? ⟨g, off + k, none⟩ = some (.int .u8 c) := (hbl.cell (p := ⟨g, off + k, none⟩) hg).trans hcell
        have HCl := Lib.hid (class_any v base p c hc256 wr (H.out.below hbl))
        have htk : (b.take (k + 1)).map (cls p) = (b.take k).map (cls p) ++ [cls p c] := by rw [List.take_add_one, hcl]; simp
        have hlen : ((b.take k).map (cls p)).length ≤ 1000000 := by rw [List.length_map, List.length_take]; omega
        have HT := Lib.hid htk
        obtain ⟨a5, c5, rfl⟩ := ownsRow_form ho
        have HO := Lib.hid ho
        have HBL := Lib.hid hbl
        clear hcell hcl htk ho hbl
        generalize (b.take k).map (cls p) = xs at HO hlen HT
        generalize cls p c = z at HCl HT
        go_wp2_with (first | (go_at_call 21; refine HCl.out.mono ?_; rintro e w1 ⟨rfl, hw⟩; replace hw := hw.symm; subst hw) | (at_builtin; refine wpList_append_own_at _ rfl _ _ 26 rfl w.heap.size 3 i0 (.int .i64 0) 1 8 Try.underlying26 hi hz0 hz1 hz2 rfl (by decide) _ _ _ rfl (HO.out.alloc _) ⟨_, 0, none⟩ 1 1 [encN z] rfl rfl (cell_one_new _ _ _) (by simp [Value.oneCell', encN]) (by unfold maxLen; omega) (by omega) (by have := HBL.out.size; simp; omega) ?_; intro v' w2 hown' hgrow hh hat; have HO2 := Lib.hid hown'; have HG := Lib.hid hgrow; clear hown' hgrow hh hat))
        go_roundw
        case rel =>
          refine ⟨k + 1, by omega, by go_num, ?_, ?_⟩
          · rw [HT.out, List.length_append, List.map_append]; exact HO2.out
          · exact (HBL.out.alloc HBL.out.size _).grown HG.out (by have := HBL.out.size; simp; omega) (fun c e => (HO.out.lt c e).1)
        case measure => simp [intOf]; omega
      · obtain rfl : k = n := by omega
        have htk : b.take k = b := by rw [HNN.out]; exact List.take_length
        rw [htk] at ho
        have HO := Lib.hid ho
        have HBL := Lib.hid hbl
        clear ho hbl htk
        go_wp2
        go_ret
        exact ⟨_, rfl, HO.out, HBL.out⟩

/-- The least bytes of classes, and the error's number. -/
def bytesOfL (p : List BS) (l : List Int) : List Nat × Nat := if p.isEmpty then ([], 1) else if l.all (fun k => (leastOf p k).2) then (l.map (fun k => (leastOf p k).1), 0) else ([], 2)

set_option maxRecDepth 100000 in
set_option maxHeartbeats 1000000 in
theorem alphBytes_any (v : Value) (base : Nat) (p : List BS) (lv : Value) (l : List Int) (w : World) (h : IsAl w base v p) (hl : IsSl encZ w lv l) (hn : l.length ≤ 1000000) :
    Calls Try.prog 16 #[v, lv] w fun e w' => ∃ u, e = .returned (.tuple #[u, .int .i64 (bytesOfL p l).2]) ∧ w'.ownsRow w.heap.size 5 1 u (bytesOfL p l).1.length ((bytesOfL p l).1.map encB) ∧ Below w.heap.size w w' := by
  obtain ⟨i0, hi, hz0, hz1, hz2⟩ := info_parts Try.infoU8
  obtain ⟨sa, cap, rfl⟩ := hl.form
  have HN := Lib.hid (none_any v base p w h)
  have H := Lib.hid h
  have HB := Lib.hid hl
  obtain ⟨n, hnn⟩ : ∃ n, n = l.length := ⟨_, rfl⟩
  rw [← hnn] at hn HB ⊢
  have HNN := Lib.hid hnn
  clear h hl hnn
  obtain ⟨r, hr⟩ : ∃ r, r = bytesOfL p l := ⟨_, rfl⟩
  rw [← hr]
  unfold bytesOfL at hr
  by_cases hp : p.isEmpty = true
  · rw [hp] at HN
    rw [if_pos hp] at hr
    subst hr
    clear hp
    go_enter Try.func16, Try.ntmps16
    go_wp2_with (go_at_call 68; refine HN.out.mono ?_; rintro e w1 ⟨rfl, hw⟩; replace hw := hw.symm; subst hw)
    refine bodyPost_ret (v := .tuple #[.slice none 0 0, .int .i64 (1 : Nat)]) ?_ rfl ⟨_, rfl, World.ownsRow_nil _ _ _ _, Below.refl _ _⟩
    simp [results, Try.results16, go_sem]
  · rw [if_neg hp] at hr
    rw [show p.isEmpty = false from by simpa using hp] at HN
    clear hp
    have HL := Lib.hid fun k W h => least_any v base p k W h
    obtain ⟨f, hf⟩ : ∃ f, f = leastOf p := ⟨_, rfl⟩
    rw [← hf] at HL hr
    have HR := Lib.hid hr
    clear hf hr
    go_enter Try.func16, Try.ntmps16
    go_wp2_with (go_at_call 68; refine HN.out.mono ?_; rintro e w1 ⟨rfl, hw⟩; replace hw := hw.symm; subst hw)
    go_loopw [15, 6] (fun i u wr => ∃ k : Nat, k ≤ n ∧ i = .int .i64 k ∧ (l.take k).all (fun k => (f k).2) = true ∧ wr.ownsRow w.heap.size 5 1 u ((l.take k).map fun k => (f k).1).length (((l.take k).map fun k => (f k).1).map encB) ∧ Below w.heap.size w wr) (fun i _ _ => n - (intOf i).toNat)
    case atStart => exact ⟨0, by omega, rfl, rfl, World.ownsRow_nil _ _ _ _, Below.refl _ _⟩
    case round =>
      obtain ⟨k, hk, rfl, ha, ho, hbl⟩ := hrel
      by_cases hlt : k < n
      · obtain ⟨z, hzl⟩ : ∃ z, l[k]? = some z := ⟨_, List.getElem?_eq_getElem (by have := HNN.out; omega)⟩
        obtain ⟨g, off, rfl, hg, hcell⟩ := HB.out.elem hzl
        have c0 : wr.cell? ⟨g, off + k, none⟩ = some (.int .i64 z) := (hbl.cell (p := ⟨g, off + k, none⟩) hg).trans hcell
        have HLl := Lib.hid (HL.out z wr (H.out.below hbl))
        have htk : (l.take (k + 1)).map (fun k => (f k).1) = (l.take k).map (fun k => (f k).1) ++ [(f z).1] := by rw [List.take_add_one, hzl]; simp
        have hta : (l.take (k + 1)).all (fun k => (f k).2) = ((l.take k).all (fun k => (f k).2) && (f z).2) := by rw [List.take_add_one, hzl]; simp
        have hlen : ((l.take k).map fun k => (f k).1).length ≤ 1000000 := by rw [List.length_map, List.length_take]; omega
        have HZL := Lib.hid hzl
        have HT := Lib.hid htk
        have HTA := Lib.hid hta
        have HA := Lib.hid ha
        obtain ⟨a5, c5, rfl⟩ := ownsRow_form ho
        have HO := Lib.hid ho
        have HBL := Lib.hid hbl
        clear hcell hzl htk hta ha ho hbl HL
        generalize ((l.take k).map fun k => (f k).1) = xs at HO hlen HT
        obtain ⟨x, ok, hx⟩ : ∃ x ok, f z = (x, ok) := ⟨_, _, rfl⟩
        rw [hx] at HLl HT HTA
        have HX := Lib.hid hx
        clear hx
        cases ok with
        | false =>
          go_wp2_with (go_at_call 36; refine HLl.out.mono ?_; rintro e w1 ⟨rfl, hx⟩; have HX1 := Lib.hid hx; clear hx)
          have hall : l.all (fun k => (f k).2) = false := by
            rw [List.all_eq_false]
            exact ⟨z, List.mem_of_getElem? HZL.out, by rw [HX.out]; simp⟩
          have hr := HR.out
          rw [hall] at hr
          subst hr
          refine bodyPost_ret (v := .tuple #[.slice none 0 0, .int .i64 (2 : Nat)]) ?_ rfl ⟨_, rfl, World.ownsRow_nil _ _ _ _, HBL.out.trans (HX1.out.below.mono HBL.out.size)⟩
          simp [results, Try.results16, go_sem]
        | true =>
          go_wp2_with (first | (go_at_call 36; refine HLl.out.mono ?_; rintro e w1 ⟨rfl, hx⟩; have HX1 := Lib.hid hx; clear hx) | (at_builtin; have ho1 := (ownsRow_keeps HO.out HX1.out.keeps (fun k e => (HO.out.lt k e).2)).alloc (.cells #[.int .u8 x] 5 (0, 0)); have HO1 := Lib.hid ho1; clear ho1; refine wpList_append_own_at _ rfl _ _ 27 rfl w.heap.size 5 i0 (.int .u8 0) 1 1 Try.underlying27 hi hz0 hz1 hz2 rfl (by decide) _ _ _ rfl HO1.out ⟨_, 0, none⟩ 1 1 [encB x] rfl rfl (cell_one_new _ _ _) (by simp [Value.oneCell', encB]) (by unfold maxLen; omega) (by omega) (by have := HBL.out.size; have := HX1.out.size; simp; omega) ?_; intro v' w2 hown' hgrow hh hat; have HO2 := Lib.hid hown'; have HG := Lib.hid hgrow; clear hown' hgrow hh hat))
          go_roundw
          case rel =>
            refine ⟨k + 1, by omega, by go_num, ?_, ?_, ?_⟩
            · rw [HTA.out, HA.out]; rfl
            · rw [HT.out, List.length_append, List.map_append]; exact HO2.out
            · have h1 := HBL.out.trans (HX1.out.below.mono HBL.out.size)
              exact (h1.alloc h1.size _).grown HG.out (by have := h1.size; simp; omega) (fun c e => (HO.out.lt c e).1)
          case measure => simp [intOf]; omega
      · obtain rfl : k = n := by omega
        have htk : l.take k = l := by rw [HNN.out]; exact List.take_length
        rw [htk] at ho ha
        have HO := Lib.hid ho
        have HA := Lib.hid ha
        have HBL := Lib.hid hbl
        clear ho hbl htk ha
        obtain ⟨a5, c5, rfl⟩ := ownsRow_form HO.out
        go_wp2
        have hr := HR.out
        rw [HA.out] at hr
        subst hr
        refine bodyPost_ret (v := .tuple #[.slice a5 _ c5, .int .i64 (0 : Nat)]) ?_ rfl ⟨_, rfl, HO.out, HBL.out⟩
        simp [results, Try.results16, go_sem]
end Go.Proofs.Ytokkgbcjjaiaeaa

namespace Go.Proofs.Ytokkgbcjjaiaeaa
open Go Go.RowKit Go.Shelf Go.Maps
attribute [local go_sem] encS

/-- The union of classes. -/
def orOf (p : List BS) (l : List Int) : BS := l.foldl (fun s k => s ||| (setOf p k).getD 0) 0
theorem orOf_nil (p : List BS) : orOf p [] = 0 := rfl
theorem orOf_snoc (p : List BS) (l : List Int) (k : Int) : orOf p (l ++ [k]) = orOf p l ||| (setOf p k).getD 0 := by unfold orOf; rw [List.foldl_append]; rfl
def togetherOf (p : List BS) (l : List Int) : BS × Nat := if p.isEmpty then (0, 1) else if l.all (fun k => (setOf p k).isSome) then (orOf p l, 0) else (0, 2)

set_option maxRecDepth 100000 in
set_option maxHeartbeats 1000000 in
theorem together_any (v : Value) (base : Nat) (p : List BS) (lv : Value) (l : List Int) (w : World) (h : IsAl w base v p) (hl : IsSl encZ w lv l) (hn : l.length ≤ 1000000) :
    Calls Try.prog 35 #[v, lv] w fun e w' => e = .returned (.tuple #[.agg (encS (togetherOf p l).1), .int .i64 (togetherOf p l).2]) ∧ Ext w w' := by
  obtain ⟨sa, cap, rfl⟩ := hl.form
  have hz := encS_zero
  have HN := Lib.hid fun o => none_any v base p (w.alloc o) (h.below ((Ext.refl w).alloc o).below)
  have H := Lib.hid h
  have HB := Lib.hid hl
  obtain ⟨n, hnn⟩ : ∃ n, n = l.length := ⟨_, rfl⟩
  rw [← hnn] at hn HB ⊢
  have HNN := Lib.hid hnn
  obtain ⟨r, hr⟩ : ∃ r, r = togetherOf p l := ⟨_, rfl⟩
  rw [← hr]
  unfold togetherOf at hr
  cases p with
  | nil =>
    rw [if_pos (show ([] : List BS).isEmpty = true from rfl)] at hr
    subst hr
    rw [show ([] : List BS).isEmpty = true from rfl] at HN
    clear h hl hnn
    go_enter Try.func35, Try.ntmps35
    go_wp2_with (go_at_call 68; refine (HN.out _).mono ?_; rintro e w1 ⟨rfl, hw⟩; replace hw := hw.symm; subst hw)
    refine bodyPost_ret (v := .tuple #[.agg (encS 0), .int .i64 (1 : Nat)]) ?_ rfl ⟨rfl, (Ext.refl w).alloc _⟩
    rw [hz]
    simp [results, Try.results35, go_sem]
  | cons s p =>
    rw [if_neg (show ¬ (s :: p).isEmpty = true from by simp)] at hr
    have HR := Lib.hid hr
    rw [show (s :: p).isEmpty = false from rfl] at HN
    obtain ⟨ab, sl, ca, rfl, h1, _, _, h2, h3⟩ := h.some
    have hle := h.le
    have HQ := Lib.hid h3
    have hab : ab < w.heap.size := h2
    generalize s :: p = q at *
    obtain ⟨m, hm⟩ : ∃ m, m = q.length := ⟨_, rfl⟩
    rw [← hm] at h1 hle
    have HM := Lib.hid hm
    clear h hl hnn hr h2 h3 hm
    go_enter Try.func35, Try.ntmps35
    go_wp2_with (go_at_call 68; refine (HN.out _).mono ?_; rintro e w1 ⟨rfl, hw⟩; replace hw := hw.symm; subst hw)
    go_loopw [14] (fun i wr => ∃ k : Nat, k ≤ n ∧ i = .int .i64 k ∧ (l.take k).all (fun k => (setOf q k).isSome) = true ∧ Blk wr (w.heap.size + 1) (encS (orOf q (l.take k))) 25 ∧ Blk wr w.heap.size (encS 0) 25 ∧ Ext w wr) (fun i _ => n - (intOf i).toNat)
    case atStart => exact ⟨0, by omega, rfl, rfl, by rw [List.take_zero, orOf_nil, hz]; exact (Blk.new _ _ _).at (by simp), by rw [hz]; exact (Blk.new _ _ _).alloc _, ((Ext.refl w).alloc _).alloc _⟩
    case round =>
      obtain ⟨k, hk, rfl, ha, hb, hc, hx⟩ := hrel
      by_cases hlt : k < n
      · obtain ⟨z, hzl⟩ : ∃ z, l[k]? = some z := ⟨_, List.getElem?_eq_getElem (by have := HNN.out; omega)⟩
        obtain ⟨g, off, rfl, hg, hcell⟩ := HB.out.elem hzl
        have c0 : wr.cell? ⟨g, off + k, none⟩ = some (.int .i64 z) := (hx.cell (p := ⟨g, off + k, none⟩) hg).trans hcell
        have HI := Lib.hid (is_any _ base q z wr (H.out.below hx.below))
        have hto : orOf q (l.take (k + 1)) = orOf q (l.take k) ||| (setOf q z).getD 0 := by rw [List.take_add_one, hzl]; exact orOf_snoc _ _ _
        have hta : (l.take (k + 1)).all (fun k => (setOf q k).isSome) = ((l.take k).all (fun k => (setOf q k).isSome) && (setOf q z).isSome) := by rw [List.take_add_one, hzl]; simp
        have HZL := Lib.hid hzl
        have HT := Lib.hid hto
        have HTA := Lib.hid hta
        have HA := Lib.hid ha
        clear hcell hzl hto hta ha
        generalize orOf q (l.take k) = acc at hb HT
        rcases setOf_ex q z with ⟨hs, _⟩ | ⟨zn, t, rfl, hzm, hqz, hs⟩
        · rw [hs] at HI
          have d0 : wr.cell? ⟨w.heap.size, 0, none⟩ = some (.int .u64 (wd (0 : BS) 0).toNat) := hc.cell 0
          have d1 : wr.cell? ⟨w.heap.size, 1, none⟩ = some (.int .u64 (wd (0 : BS) 1).toNat) := hc.cell 1
          have d2 : wr.cell? ⟨w.heap.size, 2, none⟩ = some (.int .u64 (wd (0 : BS) 2).toNat) := hc.cell 2
          have d3 : wr.cell? ⟨w.heap.size, 3, none⟩ = some (.int .u64 (wd (0 : BS) 3).toNat) := hc.cell 3
          have hcf := hc.frozen
          have hall : l.all (fun k => (setOf q k).isSome) = false := by
            rw [List.all_eq_false]
            exact ⟨z, List.mem_of_getElem? HZL.out, by rw [hs]; simp⟩
          have hr := HR.out
          rw [hall, if_neg (by decide)] at hr
          have HRR := Lib.hid hr
          have HX := Lib.hid hx
          clear hb hx hs hall hr HR
          go_wp2_with (go_at_call 69; refine HI.out.mono ?_; rintro e w1 ⟨rfl, hw⟩; replace hw := hw.symm; subst hw)
          refine bodyPost_ret (v := .tuple #[.agg (encS r.1), .int .i64 r.2]) ?_ rfl ⟨rfl, (((HX.out.setCell (Nat.le_refl _) _).setCell (Nat.le_refl _) _).setCell (Nat.le_refl _) _).setCell (Nat.le_refl _) _⟩
          rw [HRR.out, hz]
          simp [results, Try.results35, go_sem, d0, d1, d2, d3]
        · rw [hs] at HI HT HTA
          obtain ⟨gq, rfl, _, hgq, hcq⟩ := HQ.out zn t hqz
          have hzm' : zn < m := by rw [HM.out]; exact hzm
          have c1 : wr.cell? ⟨ab, 256, none⟩ = some (.slice (some ⟨gq, 0, none⟩) m ca) := (hx.cell (p := ⟨ab, 256, none⟩) hab).trans h1
          have e0 : wr.cell? ⟨gq, zn * 4, none⟩ = some (.int .u64 (wd t 0).toNat) := (hx.cell (p := ⟨gq, zn * 4, none⟩) hgq).trans (hcq 0 (by decide))
          have e1 : wr.cell? ⟨gq, zn * 4 + 1, none⟩ = some (.int .u64 (wd t 1).toNat) := (hx.cell (p := ⟨gq, zn * 4 + 1, none⟩) hgq).trans (hcq 1 (by decide))
          have e2 : wr.cell? ⟨gq, zn * 4 + 2, none⟩ = some (.int .u64 (wd t 2).toNat) := (hx.cell (p := ⟨gq, zn * 4 + 2, none⟩) hgq).trans (hcq 2 (by decide))
          have e3 : wr.cell? ⟨gq, zn * 4 + 3, none⟩ = some (.int .u64 (wd t 3).toNat) := (hx.cell (p := ⟨gq, zn * 4 + 3, none⟩) hgq).trans (hcq 3 (by decide))
          have HOr := Lib.hid fun W => or_any acc t W
          have HTT : Hid (acc ||| t = acc ||| (some t).getD 0) := rfl
          generalize acc ||| t = u at HOr HTT
          have HBc := Lib.hid hc
          have HBb := Lib.hid hb
          have HX := Lib.hid hx
          have HG : Hid (ab < w.heap.size ∧ gq < w.heap.size) := ⟨hab, hgq⟩
          clear hcq hb hc hx hs hqz hzm hgq
          go_wp2_with (go_at_call 69; refine HI.out.mono ?_; rintro e w1 ⟨rfl, hw⟩; replace hw := hw.symm; subst hw)
          refine wp_region_lexK (fun b => b = ab ∨ b = gq) (by kernel_rfl) (fun i => i == 0 || i == 8 || i == 9) (by kernel_rfl) ?_
          intro C hC hne W0 hK0 hblk hsz hx0
          have fa := lexCell hC (.inl rfl) c1
          have q0 := lexCell hC (.inr rfl) e0
          have q1 := lexCell hC (.inr rfl) e1
          have q2 := lexCell hC (.inr rfl) e2
          have q3 := lexCell hC (.inr rfl) e3
          have HB0 := Lib.hid (HBb.out.same (hblk _))
          obtain ⟨a0, a1, a2, a3⟩ := HB0.out.set4
          have HS : Hid (∀ b, (b = ab ∨ b = gq) → b < wr.heap.size) := fun b hb => by have h1 := HG.out; have h2 := HX.out.size; omega
          have HC := Lib.hid hC
          have HK0 := Lib.hid hK0
          have HX0 := Lib.hid hx0
          clear hC hK0 hblk hsz hx0 c1 e0 e1 e2 e3 c0
          refine wpLex_step (fun K hK => ?_)
          refine lexOp_eff rfl ?_
          go_simp
          refine ⟨(HC.out _).2 HK0.out, hK _ _ ?_⟩
          clear hK K
          repeat (refine wpLex_step (fun K hK => ?_); refine lexOp_float rfl ?_; unfold floatAt; go_simp; refine hK _ _ ?_; clear hK K)
          refine wpLex_step (fun K hK => ?_)
          refine lexOp_eff rfl ?_
          go_simp
          refine effAt_call ((HOr.out _).mono ?_)
          rintro e w3 ⟨rfl, hx⟩
          have hk3 := Keeps.step HK0.out HS hx
          refine ⟨_, rfl, (HC.out _).2 hk3, hK _ _ ?_⟩
          have HK3 := Lib.hid hk3
          have HX3 := Lib.hid hx
          have HB3 := Lib.hid (HB0.out.ext hx)
          obtain ⟨b0, b1, b2, b3⟩ := HB3.out.set4
          have hbf := HB3.out.frozen
          clear hK K hk3 hx a0 a1 a2 a3
          refine wpLex_step (fun K hK => ?_)
          refine lexOp_eff rfl ?_
          go_simp
          refine ⟨(HC.out _).2 ((((HK3.out.setCell ?_ _).setCell ?_ _).setCell ?_ _).setCell ?_ _), hK _ _ ?_⟩
          iterate 4 (· have h1 := HG.out; simp; omega)
          clear hK K
          refine wpLex_nil ?_
          go_wp2
          go_roundw
          case rel =>
            refine ⟨k + 1, by omega, by go_num, ?_, ?_, ?_, ?_⟩
            · rw [HTA.out, HA.out]; rfl
            · rw [HT.out, ← HTT.out]
              exact (((HB3.out.set 0 _).set 1 _).set 2 _).set 3 _
            · exact ((((HBc.out.ext (HX0.out.trans HX3.out)).other (by simp) _).other (by simp) _).other (by simp) _).other (by simp) _
            · exact ((((HX.out.trans (HX0.out.trans HX3.out)).setCell (by simp) _).setCell (by simp) _).setCell (by simp) _).setCell (by simp) _
          case measure => simp [intOf]; omega
      · obtain rfl : k = n := by omega
        have htk : l.take k = l := by rw [HNN.out]; exact List.take_length
        rw [htk] at ha hb
        have hr := HR.out
        rw [ha, if_pos rfl] at hr
        have HRR := Lib.hid hr
        clear ha hr HR htk
        obtain ⟨b0, b1, b2, b3⟩ := hb.set4
        obtain ⟨d0, d1, d2, d3⟩ := hc.set4
        have hcf := hc.frozen
        have HX := Lib.hid hx
        clear hb hc hx
        generalize orOf q l = acc at *
        go_wp2
        refine bodyPost_ret (v := .tuple #[.agg (encS r.1), .int .i64 r.2]) ?_ rfl ⟨rfl, (((HX.out.setCell (Nat.le_refl _) _).setCell (Nat.le_refl _) _).setCell (Nat.le_refl _) _).setCell (Nat.le_refl _) _⟩
        rw [HRR.out]
        simp [results, Try.results35, go_sem, d0, d1, d2, d3]
end Go.Proofs.Ytokkgbcjjaiaeaa

namespace Go.Proofs.Ytokkgbcjjaiaeaa
open Go Go.RowKit Go.Shelf Go.Maps
attribute [local go_sem] encS

/-- A class that a set has in part. -/
def badTo (s q : BS) : Bool := !(q &&& ~~~s == 0) && !(q &&& s == 0)
/-- The numbers of the classes that a set has. -/
def indsOf (s : BS) (p : List BS) : List Nat := (p.zipIdx.filter fun x => x.1 &&& ~~~s == 0).map (·.2)
theorem indsOf_take (s : BS) {p : List BS} {k : Nat} {q : BS} (h : p[k]? = some q) : indsOf s (p.take (k + 1)) = indsOf s (p.take k) ++ if q &&& ~~~s == 0 then [k] else [] := by
  have hk : k < p.length := (List.getElem?_eq_some_iff.1 h).1
  rw [List.take_add_one, h]
  unfold indsOf
  rw [List.zipIdx_append, List.filter_append, List.map_append]
  congr 1
  rw [List.length_take, Nat.min_eq_left (by omega)]
  show List.map _ (List.filter _ [(q, 0 + k)]) = _
  rw [List.filter_cons]
  by_cases hq : (q &&& ~~~s == 0) = true
  · simp only [if_pos hq, List.filter_nil, List.map_cons, List.map_nil, Nat.zero_add]
  · simp only [if_neg hq, List.filter_nil, List.map_nil]
theorem indsOf_len (s : BS) (p : List BS) : (indsOf s p).length ≤ p.length := by
  unfold indsOf
  rw [List.length_map]
  exact Nat.le_trans (List.length_filter_le _ _) (by simp)
def classesOf (p : List BS) (s : BS) : List Nat × Nat := if p.isEmpty then ([], 1) else if p.any (badTo s) then ([], 160) else (indsOf s p, 0)

set_option maxRecDepth 100000 in
set_option maxHeartbeats 1000000 in
theorem classes_any (v : Value) (base : Nat) (p : List BS) (s : BS) (w : World) (h : IsAl w base v p) :
    Calls Try.prog 34 #[v, .agg (encS s)] w fun e w' => ∃ u, e = .returned (.tuple #[u, .int .i64 (classesOf p s).2]) ∧ w'.ownsRow w.heap.size 3 1 u (classesOf p s).1.length ((classesOf p s).1.map encN) ∧ Below w.heap.size w w' := by
  obtain ⟨i0, hi, hz0, hz1, hz2⟩ := info_parts Try.infoI
  have HN := Lib.hid fun o => none_any v base p (w.alloc o) (h.below ((Ext.refl w).alloc o).below)
  have H := Lib.hid h
  obtain ⟨r, hr⟩ : ∃ r, r = classesOf p s := ⟨_, rfl⟩
  rw [← hr]
  unfold classesOf at hr
  cases p with
  | nil =>
    rw [if_pos (show ([] : List BS).isEmpty = true from rfl)] at hr
    have HR := Lib.hid hr
    rw [show ([] : List BS).isEmpty = true from rfl] at HN
    clear h hr
    go_enter Try.func34, Try.ntmps34
    go_wp2_with (go_at_call 68; refine (HN.out _).mono ?_; rintro e w1 ⟨rfl, hw⟩; replace hw := hw.symm; subst hw)
    refine bodyPost_ret (v := .tuple #[.slice none 0 0, .int .i64 r.2]) ?_ rfl ⟨_, rfl, ?_, ((Ext.refl w).alloc _).below⟩
    · rw [HR.out]; simp [results, Try.results34, go_sem]
    · rw [HR.out]; exact World.ownsRow_nil _ _ _ _
  | cons q p =>
    rw [if_neg (show ¬ (q :: p).isEmpty = true from by simp)] at hr
    have HR := Lib.hid hr
    rw [show (q :: p).isEmpty = false from rfl] at HN
    obtain ⟨ab, sl, ca, rfl, h1, _, _, h2, h3⟩ := h.some
    have hle := h.le
    have HQ := Lib.hid h3
    have hab : ab < w.heap.size := h2
    generalize q :: p = l at *
    obtain ⟨n, hn⟩ : ∃ n, n = l.length := ⟨_, rfl⟩
    rw [← hn] at h1 hle
    have HNN := Lib.hid hn
    have hbx : Blk (w.alloc (.cells (encS s) 25 (0, 0))) w.heap.size (encS s) 25 := Blk.new _ _ _
    have HBX := Lib.hid hbx
    clear h hr h2 h3 hn hbx
    go_enter Try.func34, Try.ntmps34
    go_wp2_with (go_at_call 68; refine (HN.out _).mono ?_; rintro e w1 ⟨rfl, hw⟩; replace hw := hw.symm; subst hw)
    go_loopw [16, 6] (fun i u wr => ∃ k : Nat, k ≤ n ∧ i = .int .i64 k ∧ (l.take k).any (badTo s) = false ∧ wr.ownsRow (w.heap.size + 1) 3 1 u (indsOf s (l.take k)).length ((indsOf s (l.take k)).map encN) ∧ Blk wr w.heap.size (encS s) 25 ∧ Below w.heap.size w wr) (fun i _ _ => n - (intOf i).toNat)
    case atStart => exact ⟨0, by omega, rfl, rfl, World.ownsRow_nil _ _ _ _, HBX.out, ((Ext.refl w).alloc _).below⟩
    case round =>
      obtain ⟨k, hk, rfl, ha, ho, hsb, hx⟩ := hrel
      obtain ⟨wo, rfl⟩ : ∃ wo : World, wo = wr := ⟨_, rfl⟩
      obtain ⟨a5, c5, rfl⟩ := ownsRow_form ho
      by_cases hlt : k < n
      · obtain ⟨q, hq⟩ : ∃ q, l[k]? = some q := ⟨_, List.getElem?_eq_getElem (by have := HNN.out; omega)⟩
        obtain ⟨g, rfl, _, hg, hc⟩ := HQ.out k q hq
        have e0 : wo.cell? ⟨g, k * 4, none⟩ = some (.int .u64 (wd q 0).toNat) := (hx.cell (p := ⟨g, k * 4, none⟩) hg).trans (hc 0 (by decide))
        have e1 : wo.cell? ⟨g, k * 4 + 1, none⟩ = some (.int .u64 (wd q 1).toNat) := (hx.cell (p := ⟨g, k * 4 + 1, none⟩) hg).trans (hc 1 (by decide))
        have e2 : wo.cell? ⟨g, k * 4 + 2, none⟩ = some (.int .u64 (wd q 2).toNat) := (hx.cell (p := ⟨g, k * 4 + 2, none⟩) hg).trans (hc 2 (by decide))
        have e3 : wo.cell? ⟨g, k * 4 + 3, none⟩ = some (.int .u64 (wd q 3).toNat) := (hx.cell (p := ⟨g, k * 4 + 3, none⟩) hg).trans (hc 3 (by decide))
        obtain ⟨s0, s1, s2, s3⟩ := hsb.set4
        have hti := indsOf_take s hq
        have hta : (l.take (k + 1)).any (badTo s) = ((l.take k).any (badTo s) || (!(q &&& ~~~s == 0) && !(q &&& s == 0))) := by rw [List.take_add_one, hq]; simp [badTo]
        have hlen : (indsOf s (l.take k)).length ≤ 256 := Nat.le_trans (indsOf_len _ _) (by rw [List.length_take]; omega)
        have HQL := Lib.hid hq
        have HT := Lib.hid hti
        have HTA := Lib.hid hta
        have HA := Lib.hid ha
        have HO := Lib.hid ho
        have HSB := Lib.hid hsb
        have HX := Lib.hid hx
        have HW := Lib.hid fun W => within_any q s W
        have HME := Lib.hid fun W => meets_any q s W
        have HBAD : Hid (badTo s q = (!(q &&& ~~~s == 0) && !(q &&& s == 0))) := rfl
        have hslt : w.heap.size < wo.heap.size := hsb.lt
        clear hc hq hti hta ha ho hsb hx hg
        generalize indsOf s (l.take k) = xs at HO hlen HT
        generalize (q &&& ~~~s == 0) = b1 at HT HTA HW HBAD
        generalize (q &&& s == 0) = b2 at HT HTA HME HBAD
        cases b1 with
        | true =>
          go_wp2_with (first | (go_at_call 42; refine (HW.out _).mono ?_; rintro e w2 ⟨rfl, hx2⟩; have HX2 := Lib.hid hx2; obtain ⟨hc2, hf2⟩ := hx2.cells; clear hx2) | (at_builtin; have ho1 := ((ownsRow_keeps (HO.out.alloc (.cells (encS q) 25 (0, 0))) HX2.out.keeps (fun k e => by have := (HO.out.lt k e).2; simp; omega))).alloc (.cells #[.int .i64 k] 3 (0, 0)); have HO1 := Lib.hid ho1; clear ho1; refine wpList_append_own_at _ rfl _ _ 26 rfl (w.heap.size + 1) 3 i0 (.int .i64 0) 1 8 Try.underlying26 hi hz0 hz1 hz2 rfl (by decide) _ _ _ rfl HO1.out ⟨_, 0, none⟩ 1 1 [encN k] rfl rfl (cell_one_new _ _ _) (by simp [Value.oneCell', encN]) (by unfold maxLen; omega) (by omega) (by have := HX2.out.size; simp at this; simp; omega) ?_; intro v' w4 hown' hgrow hh hat; have HO2 := Lib.hid hown'; have HG := Lib.hid hgrow; clear hown' hgrow hh hat))
          go_roundw
          case rel =>
            have h1 : Below w.heap.size w w2 := (HX.out.alloc HX.out.size _).trans (HX2.out.below.mono (by have := HX.out.size; simp; omega))
            refine ⟨k + 1, by omega, by go_num, ?_, ?_, ?_, ?_⟩
            · rw [HTA.out, HA.out]; rfl
            · rw [HT.out, if_pos trivial, List.length_append, List.map_append]; exact HO2.out
            · exact (((HSB.out.alloc _).ext HX2.out).alloc _).grown HG.out (fun e => by have := (HO.out.lt _ e.symm).1; omega)
            · exact (h1.alloc h1.size _).grown HG.out (by have := h1.size; simp; omega) (fun c e => by have := (HO.out.lt c e).1; omega)
          case measure => simp [intOf]; omega
        | false =>
          cases b2 with
          | true =>
            go_wp2_with (first | (go_at_call 42; refine (HW.out _).mono ?_; rintro e w2 ⟨rfl, hx2⟩; have HX2 := Lib.hid hx2; obtain ⟨hc2, hf2⟩ := hx2.cells; clear hx2) | (go_at_call 39; refine (HME.out _).mono ?_; rintro e w3 ⟨rfl, hx3⟩; have HX3 := Lib.hid hx3; clear hx3))
            go_roundw
            case rel =>
              have h1 : Below w.heap.size w w2 := (HX.out.alloc HX.out.size _).trans (HX2.out.below.mono (by have := HX.out.size; simp; omega))
              refine ⟨k + 1, by omega, by go_num, ?_, ?_, ?_, ?_⟩
              · rw [HTA.out, HA.out]; rfl
              · rw [HT.out, if_neg (by decide), List.append_nil]
                exact ownsRow_keeps (ownsRow_keeps (HO.out.alloc _) HX2.out.keeps (fun k e => by have := (HO.out.lt k e).2; simp; omega)) HX3.out.keeps (fun k e => by have := (HO.out.lt k e).2; have := HX2.out.size; simp at this; omega)
              · exact ((HSB.out.alloc _).ext HX2.out).ext HX3.out
              · exact h1.trans (HX3.out.below.mono h1.size)
            case measure => simp [intOf]; omega
          | false =>
            have hany : l.any (badTo s) = true := by
              rw [List.any_eq_true]
              exact ⟨q, List.mem_of_getElem? HQL.out, HBAD.out⟩
            have hr := HR.out
            rw [hany, if_pos rfl] at hr
            have HRR := Lib.hid hr
            clear hany hr HR
            go_wp2_with (first | (go_at_call 42; refine (HW.out _).mono ?_; rintro e w2 ⟨rfl, hx2⟩; have HX2 := Lib.hid hx2; obtain ⟨hc2, hf2⟩ := hx2.cells; clear hx2) | (go_at_call 39; refine (HME.out _).mono ?_; rintro e w3 ⟨rfl, hx3⟩; have HX3 := Lib.hid hx3; clear hx3))
            have h1 : Below w.heap.size w w2 := (HX.out.alloc HX.out.size _).trans (HX2.out.below.mono (by have := HX.out.size; simp; omega))
            refine bodyPost_ret (v := .tuple #[.slice none 0 0, .int .i64 r.2]) ?_ rfl ⟨_, rfl, ?_, h1.trans (HX3.out.below.mono h1.size)⟩
            · rw [HRR.out]; simp [results, Try.results34, go_sem]
            · rw [HRR.out]; exact World.ownsRow_nil _ _ _ _
      · obtain rfl : k = n := by omega
        have htk : l.take k = l := by rw [HNN.out]; exact List.take_length
        rw [htk] at ha ho ⊢
        have hr := HR.out
        rw [ha, if_neg (by decide)] at hr
        have HRR := Lib.hid hr
        have HO := Lib.hid ho
        have HX := Lib.hid hx
        clear ha hr HR htk ho hx hsb
        go_wp2
        refine bodyPost_ret (v := .tuple #[.slice a5 (indsOf s l).length c5, .int .i64 r.2]) ?_ rfl ⟨_, rfl, ?_, HX.out⟩
        · rw [HRR.out]; simp [results, Try.results34, go_sem]
        · rw [HRR.out]; exact ownsRow_base HO.out (by omega)

theorem fits_any (v : Value) (base : Nat) (p : List BS) (s : BS) (w : World) (h : IsAl w base v p) :
    Calls Try.prog 37 #[v, .agg (encS s)] w fun e w' => e = .returned (.bool ((classesOf p s).2 == 0)) ∧ Below w.heap.size w w' := by
  have HC := Lib.hid fun o => classes_any v base p s (w.alloc o) (h.below ((Ext.refl w).alloc o).below)
  clear h
  generalize classesOf p s = r at HC ⊢
  obtain ⟨rl, rn⟩ := r
  go_enter Try.func37, Try.ntmps37
  go_wp2_with (go_at_call 34; refine (HC.out _).mono ?_; rintro e w2 ⟨u, rfl, _, hx⟩; have HX := Lib.hid hx; clear hx)
  refine bodyPost_ret (results_tmp rfl _ _ _) rfl ⟨?_, ((Ext.refl w).alloc _).below.trans (HX.out.mono (by simp))⟩
  show Ending.returned (.bool ((rn : Int) == 0)) = _
  rw [show ((rn : Int) == 0) = (rn == 0) from by rw [Bool.eq_iff_iff]; simp]
end Go.Proofs.Ytokkgbcjjaiaeaa

namespace Go.Proofs.Ytokkgbcjjaiaeaa
open Go Go.RowKit Go.Shelf Go.Maps
attribute [local go_sem] encS

/-- The set of one byte; the first of them. -/
def oneB (c : Nat) : BS := bsOf fun d => [c].contains d
def allTo (k : Nat) : List BS := (List.range k).map oneB
theorem allTo_succ (k : Nat) : allTo (k + 1) = allTo k ++ [oneB k] := by unfold allTo; rw [List.range_succ, List.map_append]; rfl
theorem allTo_len (k : Nat) : (allTo k).length = k := by simp [allTo]

set_option maxRecDepth 100000 in
set_option maxHeartbeats 1000000 in
theorem alphAll_any (w : World) : Calls Try.prog 25 #[] w fun e w' => ∃ b, e = .returned (.pointer (some ⟨b, 0, none⟩)) ∧ IsAl w' w.heap.size (.pointer (some ⟨b, 0, none⟩)) (allTo 256) ∧ Below w.heap.size w w' := by
  obtain ⟨i0, hi, hz0, hz1, hz2⟩ := info_parts Try.infoS
  go_enter Try.func25, Try.ntmps25
  go_wp2
  go_loopw [3, 1] (fun i u wr => ∃ k : Nat, k ≤ 256 ∧ i = .int .i64 k ∧ wr.ownsRow w.heap.size 25 4 u (allTo k).length (flatS (allTo k)) ∧ Below w.heap.size w wr) (fun i _ _ => 256 - (intOf i).toNat)
  case atStart => exact ⟨0, by omega, rfl, World.ownsRow_nil _ _ _ _, Below.refl _ _⟩
  case round =>
    obtain ⟨k, hk, rfl, ho, hx⟩ := hrel
    obtain ⟨wo, rfl⟩ : ∃ wo : World, wo = wr := ⟨_, rfl⟩
    obtain ⟨a5, c5, rfl⟩ := ownsRow_form ho
    have hlen : (allTo k).length ≤ 256 := by rw [allTo_len]; exact hk
    have HX := Lib.hid hx
    have HO := Lib.hid ho
    have HE := Lib.hid (allTo_len k)
    clear hx ho
    by_cases hlt : k < 256
    · have HOf : Hid (∀ W B, B < W.heap.size → W.cell? ⟨B, 0, none⟩ = some (.int .u8 k) → Calls Try.prog 56 #[.slice (some ⟨B, 0, none⟩) 1 1] W fun e w' => e = .returned (.agg (encS (oneB k))) ∧ Ext W w') :=
        fun W B h1 h2 => of_any [k] (by simpa using hlt) B 0 1 W (by simp) h1 (fun i x hi => by
          cases i with
          | zero => cases hi; exact h2
          | succ i => simp at hi)
      have HT := Lib.hid (allTo_succ k)
      generalize oneB k = z at HOf HT
      generalize allTo k = xs at HO hlen HT
      go_wp2_with (first | (go_at_call 56; refine (HOf.out _ _ (by simp) (by simp)).mono ?_; rintro e w2 ⟨rfl, hx2⟩; have HX2 := Lib.hid hx2; clear hx2) | (at_builtin; have ho1 := ((ownsRow_keeps (HO.out.alloc (.cells #[.int .u8 k] 5 (0, 0))) HX2.out.keeps (fun k e => by have := (HO.out.lt k e).2; simp; omega))).alloc (.cells (encS z) 25 (0, 0)); have HO1 := Lib.hid ho1; clear ho1; refine wpList_append_own_at _ rfl _ _ 22 rfl w.heap.size 25 i0 (.agg #[.int .u64 0, .int .u64 0, .int .u64 0, .int .u64 0]) 4 32 Try.underlying22 hi hz0 hz1 hz2 rfl (by decide) _ _ _ rfl HO1.out ⟨w2.heap.size, 0, none⟩ 1 1 (encS z).toList rfl rfl (news_blk (Blk.new _ (encS z) 25)) (by intro u hu; simp [encS] at hu; rcases hu with rfl | rfl | rfl | rfl <;> rfl) (by unfold maxLen; omega) (by omega) (by have := HX.out.size; have := HX2.out.size; simp at this; simp; omega) ?_; intro v' w4 hown' hgrow hh hat; have HO2 := Lib.hid hown'; have HG := Lib.hid hgrow; clear hown' hgrow hh hat))
      go_roundw
      case rel =>
        have h1 : Below w.heap.size w w2 := (HX.out.alloc HX.out.size _).trans (HX2.out.below.mono (by have := HX.out.size; simp; omega))
        refine ⟨k + 1, by omega, by go_num, ?_, ?_⟩
        · rw [HT.out, List.length_append, flatS_append, flatS_one]; exact HO2.out
        · exact (h1.alloc h1.size _).grown HG.out (by have := h1.size; simp; omega) (fun c e => (HO.out.lt c e).1)
      case measure => simp [intOf]; omega
    · obtain rfl : k = 256 := by omega
      have HM := Lib.hid (made_any (allTo 256) _ w.heap.size wo HO.out HX.out.size (by rw [allTo_len]; exact Nat.le_refl _))
      rw [HE.out] at HM ⊢
      go_wp2_with (go_at_call 66; refine HM.out.mono ?_; rintro e w2 ⟨b, rfl, h1, h2⟩; have H3 := Lib.hid h1; have H4 := Lib.hid h2; clear h1 h2)
      go_ret
      exact ⟨b, rfl, H3.out, HX.out.trans (H4.out.mono HX.out.size)⟩

/-- Whether each of these classes is some of those. -/
def finerOf (p q : List BS) : Bool := !p.isEmpty && !q.isEmpty && q.all fun s => (classesOf p s).2 == 0

set_option maxRecDepth 100000 in
set_option maxHeartbeats 1000000 in
theorem finer_any (v v2 : Value) (base base2 : Nat) (p q : List BS) (w : World) (h : IsAl w base v p) (h2 : IsAl w base2 v2 q) :
    Calls Try.prog 26 #[v, v2] w fun e w' => e = .returned (.bool (finerOf p q)) ∧ Below w.heap.size w w' := by
  have HN := Lib.hid (none_any v base p w h)
  have HN2 := Lib.hid (none_any v2 base2 q w h2)
  obtain ⟨r, hr⟩ : ∃ r, r = finerOf p q := ⟨_, rfl⟩
  rw [← hr]
  unfold finerOf at hr
  by_cases hp : p.isEmpty = true
  · rw [hp] at HN hr
    have hr' : r = false := hr
    clear hr hp h h2
    go_enter Try.func26, Try.ntmps26
    go_wp2_with (go_at_call 68; refine HN.out.mono ?_; rintro e w1 ⟨rfl, hw⟩; replace hw := hw.symm; subst hw)
    go_ret
    exact ⟨by rw [hr']; rfl, Below.refl _ _⟩
  · have hp' : p.isEmpty = false := by simpa using hp
    rw [hp'] at HN hr
    have HF := Lib.hid fun s W (hx : Below w.heap.size w W) => fits_any v base p s W (h.below hx)
    obtain ⟨f, hf⟩ : ∃ f : BS → Bool, f = fun s => (classesOf p s).2 == 0 := ⟨_, rfl⟩
    have hfs : ∀ s, ((classesOf p s).2 == 0) = f s := fun s => by rw [hf]
    simp only [hfs] at HF
    rw [← hf] at hr
    obtain ⟨ab0, ad0, rfl⟩ : ∃ ab, ∃ _ : True, v = .pointer ab := by
      rcases h with ⟨h, _⟩ | ⟨b, sl, h, _⟩
      · exact ⟨_, trivial, h⟩
      · exact ⟨_, trivial, h⟩
    clear hf hfs h hp hp'
    cases q with
    | nil =>
      have hr' : r = false := hr
      rw [show ([] : List BS).isEmpty = true from rfl] at HN2
      clear hr h2
      go_enter Try.func26, Try.ntmps26
      go_wp2_with (go_at_call 68; first | (with_reducible refine HN.out.mono ?_; rintro e w1 ⟨rfl, hw⟩; replace hw := hw.symm; subst hw) | (with_reducible refine HN2.out.mono ?_; rintro e w1 ⟨rfl, hw⟩; replace hw := hw.symm; subst hw))
      go_ret
      exact ⟨by rw [hr']; rfl, Below.refl _ _⟩
    | cons s q =>
      have hr' : r = (s :: q).all f := hr
      rw [show (s :: q).isEmpty = false from rfl] at HN2
      obtain ⟨ab, sl, ca, rfl, h1, _, _, h3, h4⟩ := h2.some
      have hle := h2.le
      have HQ := Lib.hid h4
      have hab : ab < w.heap.size := h3
      generalize s :: q = l at *
      obtain ⟨n, hn⟩ : ∃ n, n = l.length := ⟨_, rfl⟩
      rw [← hn] at h1 hle
      have HNN := Lib.hid hn
      have HR := Lib.hid hr'
      clear h2 hr hr' h3 h4 hn
      go_enter Try.func26, Try.ntmps26
      go_wp2_with (go_at_call 68; first | (with_reducible refine HN.out.mono ?_; rintro e w1 ⟨rfl, hw⟩; replace hw := hw.symm; subst hw) | (with_reducible refine HN2.out.mono ?_; rintro e w1 ⟨rfl, hw⟩; replace hw := hw.symm; subst hw))
      go_loopw [18] (fun i wr => ∃ k : Nat, k ≤ n ∧ i = .int .i64 k ∧ (l.take k).all f = true ∧ Below w.heap.size w wr) (fun i _ => n - (intOf i).toNat)
      case atStart => exact ⟨0, by omega, rfl, rfl, Below.refl _ _⟩
      case round =>
        obtain ⟨k, hk, rfl, ha, hx⟩ := hrel
        obtain ⟨wo, rfl⟩ : ∃ wo : World, wo = wr := ⟨_, rfl⟩
        by_cases hlt : k < n
        · obtain ⟨q, hq⟩ : ∃ q, l[k]? = some q := ⟨_, List.getElem?_eq_getElem (by have := HNN.out; omega)⟩
          obtain ⟨g, rfl, _, hg, hc⟩ := HQ.out k q hq
          have e0 : wo.cell? ⟨g, k * 4, none⟩ = some (.int .u64 (wd q 0).toNat) := (hx.cell (p := ⟨g, k * 4, none⟩) hg).trans (hc 0 (by decide))
          have e1 : wo.cell? ⟨g, k * 4 + 1, none⟩ = some (.int .u64 (wd q 1).toNat) := (hx.cell (p := ⟨g, k * 4 + 1, none⟩) hg).trans (hc 1 (by decide))
          have e2 : wo.cell? ⟨g, k * 4 + 2, none⟩ = some (.int .u64 (wd q 2).toNat) := (hx.cell (p := ⟨g, k * 4 + 2, none⟩) hg).trans (hc 2 (by decide))
          have e3 : wo.cell? ⟨g, k * 4 + 3, none⟩ = some (.int .u64 (wd q 3).toNat) := (hx.cell (p := ⟨g, k * 4 + 3, none⟩) hg).trans (hc 3 (by decide))
          have hta : (l.take (k + 1)).all f = ((l.take k).all f && f q) := by rw [List.take_add_one, hq]; simp
          have HQL := Lib.hid hq
          have HTA := Lib.hid hta
          have HA := Lib.hid ha
          have HX := Lib.hid hx
          have HFq := Lib.hid (HF.out q (wo.alloc (.cells (encS q) 25 (0, 0))) (hx.alloc hx.size _))
          clear hc hq hta ha hx hg
          obtain ⟨b1, hb1⟩ : ∃ b1, b1 = f q := ⟨_, rfl⟩
          rw [← hb1] at HFq HTA
          have HB1 := Lib.hid hb1
          clear hb1
          cases b1 with
          | true =>
            go_wp2_with (go_at_call 37; refine HFq.out.mono ?_; rintro e w2 ⟨rfl, hx2⟩; have HX2 := Lib.hid hx2; clear hx2)
            go_roundw
            case rel =>
              refine ⟨k + 1, by omega, by go_num, ?_, (HX.out.alloc HX.out.size _).trans (HX2.out.mono (by have := HX.out.size; simp; omega))⟩
              rw [HTA.out, HA.out]; rfl
            case measure => simp [intOf]; omega
          | false =>
            have hr : r = false := by
              rw [HR.out, List.all_eq_false]
              exact ⟨q, List.mem_of_getElem? HQL.out, by rw [← HB1.out]; decide⟩
            have HRR := Lib.hid hr
            clear hr
            go_wp2_with (go_at_call 37; refine HFq.out.mono ?_; rintro e w2 ⟨rfl, hx2⟩; have HX2 := Lib.hid hx2; clear hx2)
            go_ret
            exact ⟨by rw [HRR.out]; rfl, (HX.out.alloc HX.out.size _).trans (HX2.out.mono (by have := HX.out.size; simp; omega))⟩
        · obtain rfl : k = n := by omega
          have htk : l.take k = l := by rw [HNN.out]; exact List.take_length
          rw [htk] at ha
          have hr := HR.out
          rw [ha] at hr
          have HRR := Lib.hid hr
          have HX := Lib.hid hx
          clear ha hr htk hx
          go_wp2
          go_ret
          exact ⟨by rw [HRR.out]; rfl, HX.out⟩
end Go.Proofs.Ytokkgbcjjaiaeaa

namespace Go.Proofs.Ytokkgbcjjaiaeaa
open Go Go.RowKit Go.Shelf Go.Maps

/-- The table as an array of the model's. -/
def tabArr (p : List BS) : Array Value := ((tabOf p).map fun (n : Nat) => Value.int .u8 n).toArray
theorem tabArr_size (p : List BS) : (tabArr p).size = 256 := by unfold tabArr; simp [tabOf_length]
theorem tabArr_get (p : List BS) {c : Nat} (hc : c < 256) : (tabArr p)[c]? = some (.int .u8 (cls p c)) := by
  unfold tabArr
  rw [List.getElem?_toArray, List.getElem?_map, cls_get p hc]; rfl
theorem tabArr_nil : Try.zeroCells38 = tabArr [] := by kernel_rfl
theorem size_tab : (Try.prog.info? 38).map (·.size) = some 256 := by kernel_rfl

theorem tabArr_one (p : List BS) : (tabArr p).all (·.oneCell') = true := by
  unfold tabArr
  simp [Value.oneCell']

theorem loadFrom_range {P : Program} {w : World} {b o n : Nat} {cs : Array Value} (hc : w.rangeAt b o cs.toList) (hn : cs.size = n) : (loadCellsFrom ⟨b, o, none⟩ 0 n #[]).run P w = .ok cs w := by
  have := run_loadCells_list (P := P) w ⟨b, o, none⟩ cs.toList (fun j v hv => by rw [Addr.add_mid]; exact hc j v hv)
  rw [Array.length_toList, hn] at this
  simpa [loadCells] using this

set_option maxRecDepth 100000 in
theorem table_any (v : Value) (base : Nat) (p : List BS) (w : World) (h : IsAl w base v p) :
    Calls Try.prog 18 #[v] w fun e w' => e = .returned (.agg (tabArr p)) ∧ Ext w w' := by
  have hsz := size_tab
  cases p with
  | nil =>
    have HN := Lib.hid fun W h => none_any v base [] W h
    have H := Lib.hid h
    have hz := tabArr_nil
    have hst := run_storeCells_new (P := Try.prog) w 38 (tabArr []) (tabArr []) (by rw [tabArr_size]; exact hsz) rfl (tabArr_one _)
    have hs0 := tabArr_size []
    clear h hsz
    go_enter Try.func18, Try.ntmps18
    go_wp2_with fail
    refine (HN.out _ (H.out.below ((Ext.refl _).alloc _).below)).mono ?_
    rintro e w' ⟨rfl, hw⟩
    replace hw := hw.symm
    subst hw
    go_wp2
    refine bodyPost_ret (results_cell_row rfl _ _ w.heap.size 38 (tabArr []) (0, 0) _ rfl (World.alloc_heap_new _ _) Try.underlying38 rfl (by rw [tabArr_size]; exact size_tab)) rfl ⟨rfl, (Ext.refl _).alloc _⟩
  | cons s p =>
    obtain ⟨b, sa, cap, rfl, _, ht, _, hb, _⟩ := h.some
    have hr : w.rangeAt b 0 (tabArr (s :: p)).toList := fun j u hj => by
      have hj256 : j < 256 := by have := (List.getElem?_eq_some_iff.1 hj).1; simpa [tabArr_size] using this
      rw [Array.getElem?_toList, tabArr_get _ hj256] at hj
      cases hj
      rw [Nat.zero_add]
      exact ht j _ (cls_get _ hj256)
    have HR : Hid (∀ c : Array Value, (w.alloc (.cells c 38)).rangeAt b 0 (tabArr (s :: p)).toList) := fun c j u hj => (((Ext.refl w).alloc _).cell (p := ⟨b, 0 + j, none⟩) hb).trans (hr j u hj)
    have HN := Lib.hid fun W (h : IsAl W base (.pointer (some ⟨b, 0, none⟩)) (s :: p)) => none_any _ base (s :: p) W h
    have H := Lib.hid h
    have hz := tabArr_nil
    have hst := run_storeCells_new (P := Try.prog) w 38 (tabArr []) (tabArr (s :: p)) (by rw [tabArr_size]; exact hsz) (by rw [tabArr_size, tabArr_size]) (tabArr_one _)
    clear h hsz ht hr
    generalize hq : s :: p = q at *
    have HQ := Lib.hid (show q.isEmpty = false by rw [← hq]; rfl)
    clear hq
    have hs0 := tabArr_size q
    go_enter Try.func18, Try.ntmps18
    go_wp2_with fail
    refine (HN.out _ (H.out.below ((Ext.refl _).alloc _).below)).mono ?_
    rintro e w' ⟨rfl, hw⟩
    replace hw := hw.symm
    subst hw
    rw [HQ.out]
    go_wp2_with (refine wpList_load_mid rfl 38 (.tmp 8) rfl b 0 rfl (tabArr q).toList _ (HR.out _) Try.underlying38 rfl (by rw [Array.length_toList, tabArr_size]; exact size_tab) ?_)
    refine bodyPost_ret (results_cell_row rfl _ _ w.heap.size 38 (tabArr q) (0, 0) _ rfl (World.alloc_heap_new _ _) Try.underlying38 rfl (by rw [tabArr_size]; exact size_tab)) rfl ⟨rfl, (Ext.refl _).alloc _⟩
end Go.Proofs.Ytokkgbcjjaiaeaa

namespace Go.Proofs.Ytokkgbcjjaiaeaa
open Go Go.RowKit Go.Shelf Go.Maps

/-- Whether two tables are alike. -/
def tabEq (p q : List BS) : Bool := (List.range 256).all fun i => ((cls p i : Nat) : Int) == ((cls q i : Nat) : Int)
def sameOf (p q : List BS) : Bool := !p.isEmpty && !q.isEmpty && tabEq p q
theorem tab_equal (p q : List BS) (w : World) : (Op.equalIn 10000 38 (.agg (tabArr p)) (.agg (tabArr q))).run Try.prog w = .ok (tabEq p q) w :=
  run_equalIn_array w 9998 _ _ _ _ Try.underlying38 Try.underlying5 Try.isAgg5 Try.sizeOf5 (fun _ hi => tabArr_get p hi) (fun _ hi => tabArr_get q hi)

theorem IsAl.range {w : World} {base : Nat} {v : Value} {s : BS} {p : List BS} (h : IsAl w base v (s :: p)) :
    ∃ b, v = .pointer (Option.some ⟨b, 0, none⟩) ∧ b < w.heap.size ∧ w.rangeAt b 0 (tabArr (s :: p)).toList := by
  obtain ⟨b, sa, cap, rfl, _, ht, _, hb, _⟩ := h.some
  refine ⟨b, rfl, hb, fun j u hj => ?_⟩
  have hj256 : j < 256 := by have := (List.getElem?_eq_some_iff.1 hj).1; simpa [tabArr_size] using this
  rw [Array.getElem?_toList, tabArr_get _ hj256] at hj
  cases hj
  rw [Nat.zero_add]
  exact ht j _ (cls_get _ hj256)
set_option maxRecDepth 100000 in
set_option maxHeartbeats 1000000 in
theorem same_any (v v2 : Value) (base base2 : Nat) (p q : List BS) (w : World) (h : IsAl w base v p) (h2 : IsAl w base2 v2 q) :
    Calls Try.prog 27 #[v, v2] w fun e w' => e = .returned (.bool (sameOf p q)) ∧ Ext w w' := by
  have HN1 := Lib.hid fun W (hx : Ext w W) => none_any v base p W (h.below hx.below)
  have HN2 := Lib.hid fun W (hx : Ext w W) => none_any v2 base2 q W (h2.below hx.below)
  cases p with
  | nil =>
    rw [show sameOf [] q = false from rfl]
    rw [show ([] : List BS).isEmpty = true from rfl] at HN1
    clear h h2
    go_enter Try.func27, Try.ntmps27
    go_wp2
    refine wp_region_lexK (fun _ => False) (by kernel_rfl) (fun i => i == 1 || i == 3 || i == 5) (by kernel_rfl) ?_
    intro C hC hne W0 hK0 hblk hsz hx0
    have HC := Lib.hid hC
    have HK0 := Lib.hid hK0
    have HX0 := Lib.hid hx0
    refine Later.out ?_
    clear hC hK0 hblk hsz hx0
    repeat (refine laterStep (fun K hK => ?_); first | (refine lexN rfl ?_; try go_simp; refine hK _ _ ?_; clear hK K) | (refine lexF rfl rfl ?_; unfold floatAt; go_simp; refine hK _ _ ?_; clear hK K))
    refine laterStep (fun K hK => ?_)
    refine lexE rfl rfl ?_
    go_simp
    refine effAt_call ((HN1.out _ HX0.out).mono ?_)
    rintro e w1 ⟨rfl, hw⟩
    replace hw := hw.symm
    subst hw
    have hk1 := HK0.out
    refine ⟨_, rfl, (HC.out _).2 hk1, hK _ _ ?_⟩
    have HK1 := Lib.hid hk1
    clear hK K hk1
    repeat (refine laterStep (fun K hK => ?_); first | (refine lexN rfl ?_; try go_simp; refine hK _ _ ?_; clear hK K) | (refine lexF rfl rfl ?_; unfold floatAt; go_simp; refine hK _ _ ?_; clear hK K) | (refine lexE rfl rfl ?_; go_simp; refine ⟨(HC.out _).2 HK1.out, hK _ _ ?_⟩; clear hK K))
    refine laterNil ?_
    go_wp2
    go_ret
    exact ⟨rfl, HX0.out⟩
  | cons s p =>
    rw [show (s :: p).isEmpty = false from rfl] at HN1
    cases q with
    | nil =>
      rw [show sameOf (s :: p) [] = false from rfl]
      rw [show ([] : List BS).isEmpty = true from rfl] at HN2
      clear h h2
      go_enter Try.func27, Try.ntmps27
      go_wp2
      refine wp_region_lexK (fun _ => False) (by kernel_rfl) (fun i => i == 1 || i == 3 || i == 5) (by kernel_rfl) ?_
      intro C hC hne W0 hK0 hblk hsz hx0
      have HC := Lib.hid hC
      have HK0 := Lib.hid hK0
      have HX0 := Lib.hid hx0
      refine Later.out ?_
      clear hC hK0 hblk hsz hx0
      repeat (refine laterStep (fun K hK => ?_); first | (refine lexN rfl ?_; try go_simp; refine hK _ _ ?_; clear hK K) | (refine lexF rfl rfl ?_; unfold floatAt; go_simp; refine hK _ _ ?_; clear hK K))
      refine laterStep (fun K hK => ?_)
      refine lexE rfl rfl ?_
      go_simp
      refine effAt_call ((HN1.out _ HX0.out).mono ?_)
      rintro e w1 ⟨rfl, hw⟩
      replace hw := hw.symm
      subst hw
      have hk1 := HK0.out
      refine ⟨_, rfl, (HC.out _).2 hk1, hK _ _ ?_⟩
      have HK1 := Lib.hid hk1
      clear hK K hk1
      repeat (refine laterStep (fun K hK => ?_); first | (refine lexN rfl ?_; try go_simp; refine hK _ _ ?_; clear hK K) | (refine lexF rfl rfl ?_; unfold floatAt; go_simp; refine hK _ _ ?_; clear hK K) | (refine lexE rfl rfl ?_; go_simp; refine ⟨(HC.out _).2 HK1.out, hK _ _ ?_⟩; clear hK K))
      refine laterStep (fun K hK => ?_)
      refine lexE rfl rfl ?_
      go_simp
      refine effAt_call ((HN2.out _ HX0.out).mono ?_)
      rintro e w1 ⟨rfl, hw⟩
      replace hw := hw.symm
      subst hw
      have hk2 := HK1.out
      refine ⟨_, rfl, (HC.out _).2 hk2, hK _ _ ?_⟩
      have HK2 := Lib.hid hk2
      clear hK K hk2
      repeat (refine laterStep (fun K hK => ?_); first | (refine lexN rfl ?_; try go_simp; refine hK _ _ ?_; clear hK K) | (refine lexF rfl rfl ?_; unfold floatAt; go_simp; refine hK _ _ ?_; clear hK K) | (refine lexE rfl rfl ?_; go_simp; refine ⟨(HC.out _).2 HK1.out, hK _ _ ?_⟩; clear hK K))
      refine laterNil ?_
      go_wp2
      go_ret
      exact ⟨rfl, HX0.out⟩
    | cons t q =>
      rw [show sameOf (s :: p) (t :: q) = tabEq (s :: p) (t :: q) from rfl]
      rw [show (t :: q).isEmpty = false from rfl] at HN2
      obtain ⟨b, rfl, hb, hr⟩ := h.range
      obtain ⟨b2, rfl, hb2, hr2⟩ := h2.range
      have he := fun W => tab_equal (s :: p) (t :: q) W
      generalize s :: p = p at *
      generalize t :: q = q at *
      have HR := Lib.hid hr
      have HR2 := Lib.hid hr2
      clear h h2 hr hr2
      go_enter Try.func27, Try.ntmps27
      go_wp2
      refine wp_region_lexK (fun x => x = b ∨ x = b2) (by kernel_rfl) (fun i => i == 1 || i == 3 || i == 5) (by kernel_rfl) ?_
      intro C hC hne W0 hK0 hblk hsz hx0
      have HC := Lib.hid hC
      have HK0 := Lib.hid hK0
      have HX0 := Lib.hid hx0
      refine Later.out ?_
      clear hC hK0 hblk hsz hx0
      repeat (refine laterStep (fun K hK => ?_); first | (refine lexN rfl ?_; try go_simp; refine hK _ _ ?_; clear hK K) | (refine lexF rfl rfl ?_; unfold floatAt; go_simp; refine hK _ _ ?_; clear hK K))
      refine laterStep (fun K hK => ?_)
      refine lexE rfl rfl ?_
      go_simp
      refine effAt_call ((HN1.out _ HX0.out).mono ?_)
      rintro e w1 ⟨rfl, hw⟩
      replace hw := hw.symm
      subst hw
      have hk1 := HK0.out
      refine ⟨_, rfl, (HC.out _).2 hk1, hK _ _ ?_⟩
      have HK1 := Lib.hid hk1
      clear hK K hk1
      repeat (refine laterStep (fun K hK => ?_); first | (refine lexN rfl ?_; try go_simp; refine hK _ _ ?_; clear hK K) | (refine lexF rfl rfl ?_; unfold floatAt; go_simp; refine hK _ _ ?_; clear hK K) | (refine lexE rfl rfl ?_; go_simp; refine ⟨(HC.out _).2 HK1.out, hK _ _ ?_⟩; clear hK K))
      refine laterStep (fun K hK => ?_)
      refine lexE rfl rfl ?_
      go_simp
      refine effAt_call ((HN2.out _ HX0.out).mono ?_)
      rintro e w1 ⟨rfl, hw⟩
      replace hw := hw.symm
      subst hw
      have hk2 := HK1.out
      refine ⟨_, rfl, (HC.out _).2 hk2, hK _ _ ?_⟩
      have HK2 := Lib.hid hk2
      clear hK K hk2
      iterate 6 (refine laterStep (fun K hK => ?_); first | (refine lexF rfl rfl ?_; unfold floatAt; go_simp; refine hK _ _ ?_; clear hK K) | (refine lexE rfl rfl ?_; go_simp; refine ⟨(HC.out _).2 HK1.out, hK _ _ ?_⟩; clear hK K))
      refine laterStep (fun K hK => ?_)
      refine lexF rfl rfl ⟨.agg (tabArr p), fun W => floatAt_load 38 (.tmp 16) rfl b 0 rfl (tabArr p) _ (rangeAt_keeps HR.out ((HC.out _).1 W.2) (.inl rfl)) Try.underlying38 rfl (by rw [tabArr_size]; exact size_tab), ?_⟩
      go_simp
      refine hK _ _ ?_
      clear hK K
      iterate 3 (refine laterStep (fun K hK => ?_); refine lexF rfl rfl ?_; unfold floatAt; go_simp; refine hK _ _ ?_; clear hK K)
      refine laterStep (fun K hK => ?_)
      refine lexF rfl rfl ⟨.agg (tabArr q), fun W => floatAt_load 38 (.tmp 20) rfl b2 0 rfl (tabArr q) _ (rangeAt_keeps HR2.out ((HC.out _).1 W.2) (.inr rfl)) Try.underlying38 rfl (by rw [tabArr_size]; exact size_tab), ?_⟩
      go_simp
      refine hK _ _ ?_
      clear hK K
      repeat (refine laterStep (fun K hK => ?_); first | (refine lexN rfl ?_; try go_simp; refine hK _ _ ?_; clear hK K) | (refine lexF rfl rfl ?_; unfold floatAt; go_simp; refine hK _ _ ?_; clear hK K))
      refine laterNil ?_
      go_wp2
      go_ret
      exact ⟨rfl, HX0.out⟩
end Go.Proofs.Ytokkgbcjjaiaeaa

namespace Go.Proofs.Ytokkgbcjjaiaeaa
open Go Go.RowKit Go.Shelf Go.Maps

theorem flatS_one_cell (l : List BS) : ∀ u ∈ flatS l, u.oneCell' = true := by
  intro u hu
  unfold flatS at hu
  obtain ⟨s, _, hs⟩ := List.mem_flatMap.1 hu
  simp [encS] at hs
  rcases hs with rfl | rfl | rfl | rfl <;> rfl
theorem IsAl.row {w : World} {base : Nat} {v : Value} {s : BS} {p : List BS} (h : IsAl w base v (s :: p)) :
    ∃ b g cap, v = .pointer (Option.some ⟨b, 0, none⟩) ∧ b < w.heap.size ∧ g < w.heap.size ∧ w.cell? ⟨b, 256, none⟩ = Option.some (.slice (Option.some ⟨g, 0, none⟩) (s :: p).length cap) ∧
      ∀ j u, (flatS (s :: p))[j]? = Option.some u → w.cell? ((⟨g, 0, none⟩ : Addr).add j) = Option.some u := by
  rcases h with ⟨_, h⟩ | ⟨b, sl, h1, h2, h3, h4, h5⟩
  · cases h
  · obtain ⟨g, cap, e, _, hg, _⟩ := ownsRow_elem (i := 0) (s := s) h4 rfl rfl
    subst e
    refine ⟨b, g, cap, h1, h3.lt, hg, ?_, h4.cells rfl⟩
    have := h3.cell 256
    rw [alCells_list (tabOf_length _)] at this
    exact this

/-- What Join returns. -/
def JoinTo (p q : List BS) (w : World) (e : Ending) (w' : World) : Prop :=
  if p.isEmpty || q.isEmpty then e = .returned (.pointer none) ∧ Below w.heap.size w w' else ∃ b, e = .returned (.pointer (some ⟨b, 0, none⟩)) ∧ IsAl w' w.heap.size (.pointer (some ⟨b, 0, none⟩)) (partsOf (p ++ q)) ∧ Below w.heap.size w w'

set_option maxRecDepth 100000 in
set_option maxHeartbeats 1000000 in
theorem join_any (v v2 : Value) (base base2 : Nat) (p q : List BS) (w : World) (h : IsAl w base v p) (h2 : IsAl w base2 v2 q) :
    Calls Try.prog 24 #[v, v2] w (JoinTo p q w) := by
  have HN1 := Lib.hid (none_any v base p w h)
  have HN2 := Lib.hid (none_any v2 base2 q w h2)
  cases p with
  | nil =>
    rw [show ([] : List BS).isEmpty = true from rfl] at HN1
    clear h h2
    go_enter Try.func24, Try.ntmps24
    go_wp2_with fail
    refine (HN1.out).mono ?_
    rintro e w' ⟨rfl, hw⟩
    replace hw := hw.symm
    subst hw
    go_wp2
    go_ret
    exact ⟨rfl, Below.refl _ _⟩
  | cons s p =>
    rw [show (s :: p).isEmpty = false from rfl] at HN1
    cases q with
    | nil =>
      rw [show ([] : List BS).isEmpty = true from rfl] at HN2
      clear h h2
      go_enter Try.func24, Try.ntmps24
      go_wp2_with fail
      refine (HN1.out).mono ?_
      rintro e w' ⟨rfl, hw⟩
      replace hw := hw.symm
      subst hw
      go_wp2_with fail
      refine (HN2.out).mono ?_
      rintro e w' ⟨rfl, hw⟩
      replace hw := hw.symm
      subst hw
      go_wp2
      go_ret
      exact ⟨rfl, Below.refl _ _⟩
    | cons t q =>
      rw [show (t :: q).isEmpty = false from rfl] at HN2
      have hj : ∀ e w', (∃ b, e = .returned (.pointer (some ⟨b, 0, none⟩)) ∧ IsAl w' w.heap.size (.pointer (some ⟨b, 0, none⟩)) (partsOf ((s :: p) ++ (t :: q))) ∧ Below w.heap.size w w') → JoinTo (s :: p) (t :: q) w e w' := fun e w' h => h
      obtain ⟨i0, hi, hz0, hz1, hz2⟩ := info_parts Try.infoS
      obtain ⟨b, g, cap, rfl, hb, hg, hc, hr⟩ := h.row
      obtain ⟨b2, g2, cap2, rfl, hb2, hg2, hc2, hr2⟩ := h2.row
      have hle := h.le
      have hle2 := h2.le
      generalize JoinTo (s :: p) (t :: q) w = J at *
      generalize s :: p = p at *
      generalize t :: q = q at *
      obtain ⟨n, hn⟩ : ∃ n, n = p.length := ⟨_, rfl⟩
      obtain ⟨m, hm⟩ : ∃ m, m = q.length := ⟨_, rfl⟩
      rw [← hn] at hc hle
      rw [← hm] at hc2 hle2
      have HNn := Lib.hid hn
      have HMm := Lib.hid hm
      have HR := Lib.hid hr
      have HR2 := Lib.hid hr2
      have HJ := Lib.hid hj
      clear h h2 hr hr2 hn hm hj
      go_enter Try.func24, Try.ntmps24
      go_wp2_with fail
      refine (HN1.out).mono ?_
      rintro e w' ⟨rfl, hw⟩
      replace hw := hw.symm
      subst hw
      go_wp2_with fail
      refine (HN2.out).mono ?_
      rintro e w' ⟨rfl, hw⟩
      replace hw := hw.symm
      subst hw
      go_wp2
      refine wp_region_lexK (fun x => x < w.heap.size) (by kernel_rfl) (fun i => i == 0 || i == 5 || i == 10 || i == 11) (by kernel_rfl) ?_
      intro C hC hne W0 hK0 hblk hsz hx0
      have HC := Lib.hid hC
      have HK0 := Lib.hid hK0
      have HX0 := Lib.hid hx0
      refine Later.out ?_
      have f1 := lexCell hC (p := ⟨b, 256, none⟩) hb hc
      have f2 := lexCell hC (p := ⟨b2, 256, none⟩) hb2 hc2
      have HSz := Lib.hid hsz
      clear hC hK0 hblk hsz hx0 hc hc2
      refine laterStep (fun K hK => ?_)
      refine lexE rfl rfl ?_
      go_simp
      have k1 := HK0.out.alloc (fun x hx => Nat.lt_of_lt_of_le hx HK0.out.size) (.cells #[] 25 (0, 0))
      refine ⟨(HC.out _).2 k1, hK _ _ ?_⟩
      clear hK K
      have HK1 := Lib.hid k1
      clear k1
      have o1 : (W0.alloc (.cells #[] 25 (0, 0))).ownsRow W0.heap.size 25 4 (.slice (some ⟨W0.heap.size, 0, none⟩) 0 0) 0 [] := ⟨rfl, .inr ⟨W0.heap.size, 0, #[], rfl, Nat.le_refl _, World.alloc_heap_new _ _, Nat.le_refl _, by simp, rfl, rfl⟩⟩
      have HO1 := Lib.hid o1
      clear o1
      repeat (refine laterStep (fun K hK => ?_); first | (refine lexN rfl ?_; try go_simp; refine hK _ _ ?_; clear hK K) | (refine lexF rfl rfl ?_; unfold floatAt; go_simp; refine hK _ _ ?_; clear hK K))
      refine laterStep (fun K hK => ?_)
      refine lexE rfl rfl (effAt_append (.tmp 11) (.tmp 15) 22 rfl (W0.heap.size) 25 i0 (.agg #[.int .u64 0, .int .u64 0, .int .u64 0, .int .u64 0]) 4 32 Try.underlying22 hi hz0 hz1 hz2 rfl (by decide) _ (0) _ rfl (HO1.out) (⟨g, 0, none⟩) (n) (cap) (flatS p) rfl (by rw [flatS_length, HNn.out]) (fun j u hj => (HK1.out.cell (p := (⟨g, 0, none⟩ : Addr).add j) (by rw [Addr.add_mid]; exact hg)).trans (HR.out j u hj)) (flatS_one_cell p) (by unfold maxLen; omega) (by omega) (by simp) ?_)
      intro v2 w2 ho hgr hat
      obtain ⟨a2, c2, rfl⟩ := ownsRow_form ho
      go_simp
      have k2 : Keeps (fun x => x < w.heap.size) w w2 := HK1.out.tr (Keeps.of_grown hgr (fun x hx => ⟨Nat.lt_of_lt_of_le hx HK1.out.size, fun e => by have := HO1.out.lt x e.symm; have := HK0.out.size; omega⟩))
      refine ⟨(HC.out _).2 k2, hK _ _ ?_⟩
      rw [Nat.zero_add, List.nil_append] at ho
      have HO2 := Lib.hid ho
      have HK2 := Lib.hid k2
      have S2 := Lib.hid (Nat.le_trans (Nat.le_trans (Nat.le_refl _) (by simp : W0.heap.size ≤ (W0.alloc (.cells #[] 25 (0, 0))).heap.size)) hgr.size)
      clear hK K ho k2 hgr hat
      repeat (refine laterStep (fun K hK => ?_); first | (refine lexN rfl ?_; try go_simp; refine hK _ _ ?_; clear hK K) | (refine lexF rfl rfl ?_; unfold floatAt; go_simp; refine hK _ _ ?_; clear hK K))
      refine laterStep (fun K hK => ?_)
      refine lexE rfl rfl (effAt_append (.tmp 16) (.tmp 20) 22 rfl (W0.heap.size) 25 i0 (.agg #[.int .u64 0, .int .u64 0, .int .u64 0, .int .u64 0]) 4 32 Try.underlying22 hi hz0 hz1 hz2 rfl (by decide) _ (n) _ rfl (HO2.out) (⟨g2, 0, none⟩) (m) (cap2) (flatS q) rfl (by rw [flatS_length, HMm.out]) (fun j u hj => (HK2.out.cell (p := (⟨g2, 0, none⟩ : Addr).add j) (by rw [Addr.add_mid]; exact hg2)).trans (HR2.out j u hj)) (flatS_one_cell q) (by unfold maxLen; omega) (by omega) (S2.out) ?_)
      intro v3 w3 ho hgr hat
      obtain ⟨a3, c3, rfl⟩ := ownsRow_form ho
      go_simp
      have k3 : Keeps (fun x => x < w.heap.size) w w3 := HK2.out.tr (Keeps.of_grown hgr (fun x hx => ⟨Nat.lt_of_lt_of_le hx HK2.out.size, fun e => by have := HO2.out.lt x e.symm; have := HK0.out.size; omega⟩))
      refine ⟨(HC.out _).2 k3, hK _ _ ?_⟩
      have o3 : w3.ownsRow W0.heap.size 25 4 (.slice a3 (n + m) c3) (p ++ q).length (flatS (p ++ q)) := by
        rw [List.length_append, ← HNn.out, ← HMm.out, flatS_append]; exact ho
      have HI3 := Lib.hid (ownsRow_sets o3)
      have HK3 := Lib.hid k3
      clear hK K ho k3 hgr hat o3
      have HS := Lib.hid (fun x (hx : x < w.heap.size) => hx)
      refine laterStep (fun K hK => ?_)
      refine lexE rfl rfl ?_
      go_simp
      refine effAt_call ((alphOf_any (p ++ q) _ _ HI3.out (by rw [List.length_append, ← HNn.out, ← HMm.out]; omega)).mono ?_)
      rintro e w4 ⟨bo, rfl, h1, hx⟩
      have hk4 := Keeps.stepB HK3.out HS.out hx
      refine ⟨_, rfl, (HC.out _).2 hk4, hK _ _ ?_⟩
      have HK4 := Lib.hid hk4
      clear hK K hk4
      repeat (refine laterStep (fun K hK => ?_); first | (refine lexN rfl ?_; try go_simp; refine hK _ _ ?_; clear hK K) | (refine lexF rfl rfl ?_; unfold floatAt; go_simp; refine hK _ _ ?_; clear hK K))
      refine laterNil ?_
      go_wp2
      exact HJ.out _ _ ⟨bo, rfl, h1.base HK3.out.size, HK4.out.below⟩
end Go.Proofs.Ytokkgbcjjaiaeaa
