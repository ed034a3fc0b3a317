/-
  slices.Sort, Compact and Contains at ints, of a row of the call's own.
-/
import Derived.Test.YtokkgbcjjaiaeaaClone2
import Derived.Test.YtokkgbcjjaiaeaaInsert
import Derived.Test.YtokkgbcjjaiaeaaMakes
import Derived.Test.YtokkgbcjjaiaeaaSortI
namespace Go.Proofs.Ytokkgbcjjaiaeaa
open Go Go.RowKit Go.Shelf Go.Maps

theorem keeps_grow (R : Nat → Prop) (w : World) (os : Array Obj) (hR : ∀ k, R k → k < w.heap.size) : Keeps R w (Sort.grow w os) where
  os := rfl
  tape := rfl
  output := rfl
  size := by unfold Sort.grow; simp
  keep := fun k hk => by unfold Sort.grow; exact Array.getElem?_append_left (hR k hk)

/-- The row's first cells, written anew. -/
theorem ownsRow_wrote {base g n cap : Nat} {xs ys : List Value} {w : World} (h : w.ownsRow base 3 1 (.slice (some ⟨g, 0, none⟩) n cap) n xs) (hy : ys.length = n) :
    (w.setCells g 0 ys).ownsRow base 3 1 (.slice (some ⟨g, 0, none⟩) n cap) n ys ∧ Keeps (· ≠ g) w (w.setCells g 0 ys) := by
  obtain ⟨zs, h1, h2⟩ := ownsRow_setCells 0 ys 0 w xs (Nat.le_refl _) h
  have hl : zs.length = n := by have := h1.1; omega
  have hx : xs.length = n := by have := h.1; omega
  have : zs = ys := by
    apply List.ext_getElem?
    intro j
    by_cases hj : j < n
    · have e1 := h1.cellAt j (by omega)
      have e2 := set_in (b := g) (o := 0) (j := j) (vs := ys) (w := w) (fun k hk => by
        rw [h.cellAt _ (by omega), List.getElem?_eq_getElem (by omega)]; rfl) (by omega)
      rw [Nat.zero_add] at e2
      exact e1.symm.trans e2
    · rw [List.getElem?_eq_none (by omega), List.getElem?_eq_none (by omega)]
  rw [this] at h1
  exact ⟨h1, h2⟩
theorem ownsRow_cut {base g n cap m : Nat} {xs : List Value} {w : World} (h : w.ownsRow base 3 1 (.slice (some ⟨g, 0, none⟩) n cap) n xs) (hm : m ≤ n) :
    w.ownsRow base 3 1 (.slice (some ⟨g, 0, none⟩) m cap) m (xs.take m) := by
  have hl := h.1
  refine ⟨by rw [List.length_take]; omega, ?_⟩
  rcases h.2 with ⟨hv, _⟩ | ⟨g', cap', cur, hv, h1, h2, h3, h4, h5, h6⟩
  · cases hv
  · cases hv
    exact .inr ⟨g, cap, cur, rfl, h1, h2, by omega, h4, h5, by rw [← h6, List.take_take]; congr 1; omega⟩

/-- A sorted list. -/
def sortZ (l : List Int) : List Int := l.mergeSort fun x y => decide (x ≤ y)
theorem sortZ_len (l : List Int) : (sortZ l).length = l.length := by unfold sortZ; exact List.length_mergeSort _

theorem own_holds {base g n cap : Nat} {l : List Int} {w : World} (h : w.ownsRow base 3 1 (.slice (some ⟨g, 0, none⟩) n cap) n (l.map encZ)) : Sort.Holds (Value.int .i64) w g 0 l.toArray := by
  intro j hj
  have hl : l.length = n := by have := h.1; simpa using this
  have hj' : j < l.length := by simpa using hj
  refine ⟨?_, h.frozenAt _⟩
  rw [Nat.zero_add, h.cellAt j (by omega), List.getElem?_map, List.getElem?_eq_getElem hj', Array.getElem!_eq_getD]
  simp [encZ, hj']

theorem sortI_any (base : Nat) (v : Value) (n : Nat) (l : List Int) (w : World) (ho : w.ownsRow base 3 1 v n (l.map encZ)) (hn : n ≤ 1000000) :
    Calls Try.prog 50 #[v] w fun e w' => e = .returned (.tuple #[]) ∧ w'.ownsRow base 3 1 v n ((sortZ l).map encZ) ∧ Keeps (fun x => x < w.heap.size ∧ v.ownBlock ≠ some x) w w' := by
  have hl : l.length = n := by have := ho.1; simpa using this
  rcases ho.2 with ⟨rfl, rfl⟩ | ⟨g, cap, cur, rfl, hbg, hg, _⟩
  · have hl0 : l = [] := List.eq_nil_of_length_eq_zero hl
    subst hl0
    exact (Any.slices_Sort_int_none Try.sortI none 0 w).mono fun e w' ⟨he, hw⟩ => ⟨he, by rw [hw, show sortZ [] = [] from List.eq_nil_of_length_eq_zero (sortZ_len _)]; exact ho, by rw [hw]; exact Keeps.refl _ _⟩
  · have hH := own_holds ho
    have hblk : Blk w g cur 3 := hg
    have := Any.slices_Sort_int Try.sortI g 0 cap l w hH hblk.lt (by omega)
    rw [hl] at this
    refine this.mono fun e w' ⟨he, q, os, hw⟩ => ⟨he, ?_⟩
    have e1 := Lib.putRow_eq_setCells (Value.int .i64) w g 0 l.toArray (sortZ l) q hH (by rw [sortZ_len]; simp)
    have hw' : w' = Sort.grow ((w.drewN q).setCells g 0 ((sortZ l).map (Value.int .i64))) os := by rw [hw, ← e1]; rfl
    have hd : (w.drewN q).ownsRow base 3 1 (.slice (some ⟨g, 0, none⟩) n cap) n (l.map encZ) := ho
    obtain ⟨a1, a2⟩ := ownsRow_wrote hd (ys := (sortZ l).map encZ) (by rw [List.length_map, sortZ_len]; exact hl)
    have hd2 : Keeps (· ≠ g) w (w.drewN q) := ⟨rfl, rfl, rfl, Nat.le_refl _, fun _ _ => rfl⟩
    have hk := hd2.tr a2
    rw [hw']
    have hgk : ∀ R : Nat → Prop, (∀ k, R k → k < ((w.drewN q).setCells g 0 ((sortZ l).map (Value.int .i64))).heap.size) → Keeps R ((w.drewN q).setCells g 0 ((sortZ l).map (Value.int .i64))) (Sort.grow ((w.drewN q).setCells g 0 ((sortZ l).map (Value.int .i64))) os) := fun R hR => keeps_grow R _ os hR
    refine ⟨ownsRow_keeps a1 (hgk (· < _) fun _ h => h) (fun k e => (a1.lt k e).2), ?_⟩
    exact (hk.mono fun x hx e => hx.2 (by rw [e]; rfl)).tr (hgk _ fun x hx => Nat.lt_of_lt_of_le hx.1 hk.size)

theorem compactI_any (base : Nat) (v : Value) (n : Nat) (l : List Int) (w : World) (ho : w.ownsRow base 3 1 v n (l.map encZ)) (hn : n ≤ 1000000) :
    Calls Try.prog 51 #[v] w fun e w' => ∃ u, e = .returned u ∧ w'.ownsRow base 3 1 u (Lib.compact l).length ((Lib.compact l).map encZ) ∧ Keeps (fun x => x < w.heap.size ∧ v.ownBlock ≠ some x) w w' := by
  have hl : l.length = n := by have := ho.1; simpa using this
  rcases ho.2 with ⟨rfl, rfl⟩ | ⟨g, cap, cur, rfl, hbg, hg, hnc, hcm, _⟩
  · have hl0 : l = [] := List.eq_nil_of_length_eq_zero hl
    subst hl0
    exact (Any.slices_Compact_int_empty Try.compactI none 0 w).mono fun e w' ⟨he, hw⟩ => ⟨_, he, by rw [hw]; exact ho, by rw [hw]; exact Keeps.refl _ _⟩
  · have hc : ∀ j, j < l.length → w.cell? ⟨g, 0 + j, none⟩ = some (.int .i64 (l.getD j 0)) := fun j hj => by
      rw [Nat.zero_add, ho.cellAt j (by omega), List.getElem?_map, List.getElem?_eq_getElem hj]
      simp [encZ, hj]
    have := Any.slices_Compact_int_cells Try.compactI g 0 n cap l w (by omega) (by omega) hnc hc (fun j _ => ho.frozenAt _)
    rw [List.take_of_length_le (by omega)] at this
    refine this.mono fun e w' ⟨he, q, hw⟩ => ⟨_, he, ?_⟩
    have hle := Lib.compact_length_le l
    have hd : (w.drewN q).ownsRow base 3 1 (.slice (some ⟨g, 0, none⟩) n cap) n (l.map encZ) := ho
    obtain ⟨a1, a2⟩ := ownsRow_wrote hd (ys := (Lib.compact l ++ List.replicate (n - (Lib.compact l).length) 0).map (Value.int .i64)) (by rw [List.length_map, List.length_append, List.length_replicate]; omega)
    have hd2 : Keeps (· ≠ g) w (w.drewN q) := ⟨rfl, rfl, rfl, Nat.le_refl _, fun _ _ => rfl⟩
    rw [hw]
    refine ⟨?_, (hd2.tr a2).mono fun x hx e => hx.2 (by rw [e]; rfl)⟩
    have := ownsRow_cut a1 (m := (Lib.compact l).length) (by omega)
    have e : List.take (Lib.compact l).length ((Lib.compact l ++ List.replicate (n - (Lib.compact l).length) 0).map (Value.int .i64)) = (Lib.compact l).map encZ := by
      rw [List.map_append, List.take_left' (by rw [List.length_map])]; rfl
    rw [e] at this
    exact this

theorem containsI_any (v : Value) (l : List Int) (x : Int) (w : World) (hl : IsSl encZ w v l) (hn : l.length ≤ 1000000) :
    Calls Try.prog 54 #[v, .int .i64 x] w fun e w' => e = .returned (.bool (l.contains x)) ∧ w' = w := by
  obtain ⟨a, c, rfl⟩ := hl.form
  cases hle : l with
  | nil => exact (Any.slices_Contains_int_empty Try.containsI a c x w).mono fun e w' ⟨he, hw⟩ => ⟨by rw [he]; rfl, hw⟩
  | cons y r =>
    rw [← hle]
    obtain ⟨g, off, rfl, _, _⟩ := hl.elem (i := 0) (x := y) (by rw [hle]; rfl)
    have := Any.slices_Contains_int Try.containsI g off l.length c l x w (Nat.le_refl _) (by omega) (fun j hj => by
      obtain ⟨g', off', e, _, h2⟩ := hl.elem (i := j) (x := l[j]) (List.getElem?_eq_getElem hj)
      cases e
      rw [h2]; simp [encZ, hj])
    rw [List.take_of_length_le (Nat.le_refl _)] at this
    exact this
end Go.Proofs.Ytokkgbcjjaiaeaa
