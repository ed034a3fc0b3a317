/-
  A row of sets that the call owns, sorted by the library. Plain facts on worlds; no program.
-/
import Derived.Test.YtokkgbcjjaiaeaaParts0
import Derived.Shelf.SlSortCmp.NoneTotal
namespace Go.Proofs.Ytokkgbcjjaiaeaa
open Go Go.RowKit Go.Shelf Go.Sort

/-- The cells of a row of sets. -/
def flatS (l : List BS) : List Value := l.flatMap fun s => (encS s).toList
theorem flatS_length (l : List BS) : (flatS l).length = l.length * 4 := by
  induction l with
  | nil => rfl
  | cons s l ih => simp only [flatS, List.flatMap_cons, List.length_append] at *; rw [ih]; simp [encS_size]; omega
theorem flatS_append (l m : List BS) : flatS (l ++ m) = flatS l ++ flatS m := by simp [flatS]
theorem flatS_one (s : BS) : flatS [s] = (encS s).toList := by simp [flatS]
theorem flatS_get (l : List BS) {i : Nat} {s : BS} (h : l[i]? = some s) {j : Nat} (hj : j < 4) : (flatS l)[i * 4 + j]? = (encS s)[j]? := by
  induction l generalizing i with
  | nil => simp at h
  | cons t l ih =>
    have hs : (encS t).toList.length = 4 := rfl
    simp only [flatS, List.flatMap_cons]
    cases i with
    | zero =>
      simp at h; subst h
      rw [Nat.zero_mul, Nat.zero_add, List.getElem?_append_left (by omega)]; simp
    | succ i =>
      rw [List.getElem?_append_right (by omega), hs, show (i + 1) * 4 + j - 4 = i * 4 + j by omega]
      exact ih (by simpa using h)

def encL (s : BS) : List Value := (encS s).toList
theorem flatK_eq (l : List BS) : flatK encL 4 l.toArray = (flatS l).toArray := by
  apply Array.ext_getElem?
  intro t
  by_cases ht : t < l.length * 4
  · have hi : t / 4 < l.length := by omega
    have h1 := flatS_get l (List.getElem?_eq_getElem hi) (show t % 4 < 4 by omega)
    rw [show t / 4 * 4 + t % 4 = t by omega] at h1
    have h2 : (flatK encL 4 l.toArray)[t]? = some ((encL (l[t / 4]))[t % 4]!) := by
      unfold flatK
      simp [ht, hi]
    rw [h2, List.getElem?_toArray, h1]
    have h3 : t % 4 < (encL (l[t / 4])).length := by simp [encL, encS_size]; omega
    rw [getElem!_pos (encL (l[t / 4])) (t % 4) h3]
    simp [encL]
  · rw [Array.getElem?_eq_none (by simp; omega), List.getElem?_toArray, List.getElem?_eq_none (by rw [flatS_length]; omega)]

theorem heap_sortK {w : World} {g q : Nat} {os : Array Obj} {cur : Array Value} {e : TypeId} {fr : Nat × Nat} (l : List BS) (hb : w.heap[g]? = some (.cells cur e fr)) :
    (sortWorldK encL 4 w g 0 q l.toArray os).heap[g]? = some (.cells (putCells id 0 (flatS l).toArray cur) e fr) := by
  have hg : g < w.heap.size := (Array.getElem?_eq_some_iff.1 hb).1
  unfold sortWorldK
  rw [heap_grow_old _ _ (by simpa [putRowK, putRow, mapBlock, Sort.ahead] using hg)]
  simp [putRowK, putRow, mapBlock, Sort.ahead, Array.getElem?_modify, hb, onCells, flatK_eq]
theorem grownBy_sortK {w : World} {g q : Nat} {os : Array Obj} (d : Array BS) : w.grownBy (sortWorldK encL 4 w g 0 q d os) (some g) := by
  unfold sortWorldK
  refine ⟨rfl, rfl, rfl, by simp [putRowK, putRow, mapBlock, Sort.ahead], fun k hk hne => ?_⟩
  rw [heap_grow_old _ _ (by simpa [putRowK, putRow, mapBlock, Sort.ahead] using hk)]
  have : g ≠ k := fun e => hne (by rw [e])
  simp [putRowK, putRow, mapBlock, Sort.ahead, Array.getElem?_modify, this]
theorem take_putS (cur : Array Value) (ts : List Value) (h : ts.length ≤ cur.size) : (putCells id 0 ts.toArray cur).toList.take ts.length = ts := by
  apply List.ext_getElem?
  intro j
  by_cases hj : j < ts.length
  · rw [List.getElem?_take_of_lt hj, Array.getElem?_toList]
    simp [putCells, hj, show j < cur.size by omega]
  · rw [List.getElem?_take_eq_none (by omega), List.getElem?_eq_none (by omega)]

/-- BEHIND THE SORT the same slice owns the sorted list. -/
theorem ownsRow_sortK {w : World} {base g cap n q : Nat} {e : TypeId} {os : Array Obj} {cur : Array Value} {ts : List BS} (hl : ts.length = n) (hbase : base ≤ g) (hb : w.heap[g]? = some (.cells cur e (0, 0)))
    (h1 : n ≤ cap) (h2 : cap ≤ maxLen) (h3 : cur.size = cap * 4) :
    (sortWorldK encL 4 w g 0 q ts.toArray os).ownsRow base e 4 (.slice (some ⟨g, 0, none⟩) n cap) n (flatS ts) :=
  ⟨by rw [flatS_length, hl], .inr ⟨g, cap, _, rfl, hbase, heap_sortK _ hb, h1, h2, by simp [putCells, h3], by
    rw [← hl, ← flatS_length]; exact take_putS cur (flatS ts) (by rw [flatS_length, hl, h3]; exact Nat.mul_le_mul_right 4 h1)⟩⟩
/-- .. ahead of it the row lies as the library asks. -/
theorem holdsK_row {w : World} {g : Nat} {e : TypeId} {cur : Array Value} {ts : List BS} (hb : w.heap[g]? = some (.cells cur e (0, 0))) (ht : cur.toList.take (ts.length * 4) = flatS ts) : HoldsK encL 4 w g 0 ts.toArray := by
  unfold HoldsK
  rw [flatK_eq]
  intro j hj
  have hj' : j < (flatS ts).length := by simpa using hj
  refine ⟨?_, by simp [World.frozen?, hb]⟩
  have hc : w.cell? ⟨g, 0 + j, none⟩ = cur[j]? := by simp [World.cell?, hb]
  rw [hc]
  have h1 : (flatS ts)[j]? = cur[j]? := by rw [← ht, List.getElem?_take, if_pos (by rw [← flatS_length]; exact hj')]; simp
  rw [← h1, List.getElem?_eq_getElem hj', getElem!_pos (flatS ts).toArray j (by simpa using hj')]
  simp
end Go.Proofs.Ytokkgbcjjaiaeaa
