/-
  slices.Insert at ints, of one number into a row of the call's own.
-/
import Derived.Test.YtokkgbcjjaiaeaaClone2
import Derived.Test.YtokkgbcjjaiaeaaInsertL
import Derived.Laws.IdiomCopy
namespace Go.Proofs.Ytokkgbcjjaiaeaa
open Go Go.RowKit Go.Shelf Go.Maps

theorem keeps_setCells (b : Nat) : ∀ (vs : List Value) (o : Nat) (w : World), Keeps (· ≠ b) w (w.setCells b o vs)
  | [], _, _ => Keeps.refl _ _
  | v :: r, o, w => ((Keeps.refl (· ≠ b) w).setCell (p := ⟨b, o, none⟩) (fun h => h rfl) v).tr (keeps_setCells b r (o + 1) _)
theorem insert_get (l : List Int) (z : Int) (i j : Nat) (hi : i ≤ l.length) : (l.take i ++ z :: l.drop i)[j]? = if j < i then l[j]? else if j = i then some z else l[j - 1]? := by
  have hlen : (l.take i).length = i := by rw [List.length_take]; omega
  by_cases h1 : j < i
  · rw [if_pos h1, List.getElem?_append_left (by omega), List.getElem?_take, if_pos h1]
  · rw [if_neg h1, List.getElem?_append_right (by omega), hlen]
    by_cases h2 : j = i
    · rw [if_pos h2, h2, Nat.sub_self]; rfl
    · rw [if_neg h2]
      obtain ⟨d, rfl⟩ : ∃ d, j = i + (d + 1) := ⟨j - i - 1, by omega⟩
      rw [show i + (d + 1) - i = d + 1 by omega, List.getElem?_cons_succ, List.getElem?_drop, show i + (d + 1) - 1 = i + d by omega]
theorem insert_len (l : List Int) (z : Int) (i : Nat) (hi : i ≤ l.length) : (l.take i ++ z :: l.drop i).length = l.length + 1 := by
  rw [List.length_append, List.length_take, List.length_cons, List.length_drop]; omega
theorem set_in {b o j : Nat} {vs : List Value} {w : World} (h : ∀ k, k < vs.length → (w.cell? ⟨b, o + k, none⟩).isSome = true) (hj : j < vs.length) : (w.setCells b o vs).cell? ⟨b, o + j, none⟩ = vs[j]? := by
  rw [World.cell?_setCells_in b vs o w h j hj, List.getElem?_eq_getElem hj]
theorem set_out {b o j : Nat} {vs : List Value} {w : World} (hj : j < o ∨ o + vs.length ≤ j) : (w.setCells b o vs).cell? ⟨b, j, none⟩ = w.cell? ⟨b, j, none⟩ :=
  World.cell?_setCells_out b vs o w ⟨b, j, none⟩ (fun _ _ => hj)

section
variable {g i n : Nat} {l : List Int} {z : Int} {w0 : World}
theorem ins_drop (hl : l.length = n) : (List.drop i (l.map encZ)).length = n - i := by rw [List.length_drop, List.length_map, hl]
/-- What lies in the row behind the two copies, in either order. -/
theorem ins_shift (hl : l.length = n) (hi : i ≤ n) (h0 : ∀ k, k < n + 1 → (w0.cell? ⟨g, k, none⟩).isSome = true) (h1 : ∀ j, j < i → w0.cell? ⟨g, j, none⟩ = (l.map encZ)[j]?) :
    ∀ j x, (l.take i ++ z :: l.drop i)[j]? = some x → ((w0.setCells g (i + 1) (List.drop i (l.map encZ))).setCells g i [encZ z]).cell? ⟨g, j, none⟩ = some (encZ x) := fun j x hj => by
  have hdl := ins_drop (i := i) hl
  have hjn : j < n + 1 := by have := (List.getElem?_eq_some_iff.1 hj).1; rw [insert_len _ _ _ (by omega), hl] at this; exact this
  rw [insert_get _ _ _ _ (by omega)] at hj
  by_cases a1 : j < i
  · rw [if_pos a1] at hj
    rw [set_out (.inl a1), set_out (.inl (by omega)), h1 j a1, List.getElem?_map, hj]; rfl
  · rw [if_neg a1] at hj
    by_cases a2 : j = i
    · rw [if_pos a2] at hj
      cases hj
      have h2 : ((w0.setCells g (i + 1) (List.drop i (l.map encZ))).cell? ⟨g, i + 0, none⟩).isSome = true := by
        rw [set_out (.inl (by omega))]; exact h0 _ (by omega)
      have := set_in (b := g) (o := i) (j := 0) (vs := [encZ z]) (w := w0.setCells g (i + 1) (List.drop i (l.map encZ))) (fun k hk => by
        obtain rfl : k = 0 := by simpa using hk
        exact h2) (by simp)
      rw [a2]; exact this
    · rw [if_neg a2] at hj
      rw [set_out (.inr (by simp only [List.length_singleton]; omega))]
      obtain ⟨d, rfl⟩ : ∃ d, j = i + 1 + d := ⟨j - (i + 1), by omega⟩
      have := set_in (b := g) (o := i + 1) (j := d) (vs := List.drop i (l.map encZ)) (w := w0) (fun m hm => h0 (i + 1 + m) (by rw [hdl] at hm; omega)) (by rw [hdl]; omega)
      rw [this, List.getElem?_drop, List.getElem?_map, show i + d = i + 1 + d - 1 by omega, hj]; rfl
theorem ins_grow (hl : l.length = n) (hi : i ≤ n) (h0 : ∀ k, k < n + 1 → (w0.cell? ⟨g, k, none⟩).isSome = true) (h1 : ∀ j, j < i → w0.cell? ⟨g, j, none⟩ = (l.map encZ)[j]?) :
    ∀ j x, (l.take i ++ z :: l.drop i)[j]? = some x → ((w0.setCells g i [encZ z]).drew.setCells g (i + 1) (List.drop i (l.map encZ))).cell? ⟨g, j, none⟩ = some (encZ x) := fun j x hj => by
  have hdl := ins_drop (i := i) hl
  have hjn : j < n + 1 := by have := (List.getElem?_eq_some_iff.1 hj).1; rw [insert_len _ _ _ (by omega), hl] at this; exact this
  rw [insert_get _ _ _ _ (by omega)] at hj
  have hd : ∀ p, (w0.setCells g i [encZ z]).drew.cell? p = (w0.setCells g i [encZ z]).cell? p := fun _ => rfl
  by_cases a1 : j < i
  · rw [if_pos a1] at hj
    rw [set_out (.inl (by omega)), hd, set_out (.inl a1), h1 j a1, List.getElem?_map, hj]; rfl
  · rw [if_neg a1] at hj
    by_cases a2 : j = i
    · rw [if_pos a2] at hj
      cases hj
      rw [set_out (.inl (by omega)), hd, a2]
      exact set_in (b := g) (o := i) (j := 0) (vs := [encZ z]) (w := w0) (fun k hk => by
        obtain rfl : k = 0 := by simpa using hk
        exact h0 _ (by omega)) (by simp)
    · rw [if_neg a2] at hj
      obtain ⟨d, rfl⟩ : ∃ d, j = i + 1 + d := ⟨j - (i + 1), by omega⟩
      have := set_in (b := g) (o := i + 1) (j := d) (vs := List.drop i (l.map encZ)) (w := (w0.setCells g i [encZ z]).drew) (fun m hm => by
        rw [hd, set_out (.inr (by simp only [List.length_singleton]; omega))]
        exact h0 (i + 1 + m) (by rw [hdl] at hm; omega)) (by rw [hdl]; omega)
      rw [this, List.getElem?_drop, List.getElem?_map, show i + d = i + 1 + d - 1 by omega, hj]; rfl
end

set_option maxRecDepth 100000 in
theorem insert_any (base : Nat) (a : Option Addr) (n c i : Nat) (l : List Int) (z : Int) (vb : Nat) (w : World) (ho : w.ownsRow base 3 1 (.slice a n c) n (l.map encZ)) (hb : Blk w vb #[encZ z] 3) (hz : ∀ x ∈ l, x ≠ z) (hi : i ≤ n) (hn : n ≤ 1000) :
    Calls Try.prog 45 #[.slice a n c, .int .i64 i, .slice (some ⟨vb, 0, none⟩) 1 1] w fun e w' => ∃ u, e = .returned u ∧ IsSl encZ w' u (l.take i ++ z :: l.drop i) ∧ Keeps (fun x => x < w.heap.size ∧ (Value.slice a n c).ownBlock ≠ some x) w w' := by
  have hl : l.length = n := by have := ho.1; simpa using this
  have hvs : ∀ j v, ([encZ z] : List Value)[j]? = some v → w.cell? ⟨vb, 0 + j, none⟩ = some v := fun j v hj => by
    rw [Nat.zero_add, hb.cell]; simpa using hj
  have h1v : ∀ v ∈ ([encZ z] : List Value), v.oneCell' = true := fun v hv => by rw [List.mem_singleton.1 hv]; rfl
  have h1c : ∀ v ∈ l.map encZ, v.oneCell' = true := fun v hv => by obtain ⟨x, _, rfl⟩ := List.mem_map.1 hv; rfl
  have hcl : (l.map encZ).length = n := by rw [List.length_map]; exact hl
  rcases ho.2 with ⟨hv, hn0⟩ | ⟨g, cap, cur, hv, hbg, hg, hnc, hcm, hcs, ht⟩
  · cases hv
    have hl0 : l = [] := List.eq_nil_of_length_eq_zero hl
    subst hl0
    obtain rfl : i = 0 := by omega
    refine (Any2.slices_Insert_int_end_grow Try.insertI none 0 0 vb 0 1 1 [] [encZ z] w (by decide) (Nat.le_refl _) (by decide) (by decide) rfl rfl (fun _ => rfl) (fun a h => by cases h) hvs h1v).mono fun e w' ⟨he, hw⟩ => ⟨_, he, ?_, ?_⟩
    · refine .inr ⟨w.heap.size, 0, _, rfl, by rw [hw]; simp, ?_, fun j x hj => ?_⟩
      · exact grownCap_ge _ _ _ _
      · have hj0 : j = 0 := by
          rcases Nat.eq_zero_or_pos j with h | h
          · exact h
          · rw [List.getElem?_eq_none (by simp; omega)] at hj; cases hj
        subst hj0
        have hx : z = x := by simpa using hj
        rw [hw]
        have hB := (Blk.new w.drew (([] ++ [encZ z] : List Value).toArray ++ Builtin.zeroCells (Value.int .i64 0).cells (grownCap w (0 + 1) 0 (Try.insertI_ren.t 3) - (0 + 1))) (Try.insertI_ren.t 3)).cell 0
        refine Eq.trans hB ?_
        rw [hx, Array.getElem?_append_left (by simp)]; rfl
    · rw [hw]
      exact ((Keeps.refl _ _).drew).alloc (fun k hk => hk.1) _
  · cases hv
    have hcell : ∀ j, j < n → w.cell? ⟨g, j, none⟩ = (l.map encZ)[j]? := fun j hj => ho.cellAt j (by omega)
    have hcs' : ∀ j v, (l.map encZ)[j]? = some v → w.cell? ⟨g, 0 + j, none⟩ = some v := fun j v hj => by
      have := (List.getElem?_eq_some_iff.1 hj).1
      rw [Nat.zero_add, hcell j (by omega)]; exact hj
    have hblk : Blk w g cur 3 := hg
    have hsome : ∀ j, j < c → (w.cell? ⟨g, j, none⟩).isSome = true := fun j hj => by
      rw [hblk.cell, Array.getElem?_eq_getElem (by omega)]; rfl
    have hne : i < n → vb ≠ g := fun hin h => by
      have h1 := hcell 0 (by omega)
      rw [← h, hb.cell, List.getElem?_map, List.getElem?_eq_getElem (by omega)] at h1
      have h2 : z = l[0]'(by omega) := by simpa [encZ] using h1
      exact hz _ (List.getElem_mem (by omega)) h2.symm
    have hK : ∀ w', Keeps (· ≠ g) w w' → Keeps (fun x => x < w.heap.size ∧ (Value.slice (some ⟨g, 0, none⟩) n c).ownBlock ≠ some x) w w' := fun w' h => h.mono fun x hx e => hx.2 (by rw [e]; rfl)
    by_cases hin : i < n
    · by_cases hroom : n + 1 ≤ c
      · refine (Any2.slices_Insert_int_shift Try.insertI g 0 n c i vb 0 1 1 (l.map encZ) [encZ z] w hin (by decide) hroom (by unfold maxLen at hcm; omega) (hne hin) hcl rfl hcs' (fun j hj => by rw [Nat.zero_add]; exact hsome j (by omega)) (fun j _ => hblk.frozen _) hvs h1c h1v 3 3 1 cur.size
            (by unfold World.shape?; rw [show w.heap[vb]? = _ from hb]; rfl) (by unfold World.shape?; rw [hg]) (by omega) (hb.frozen _) (hb.frozen _)).mono fun e w' ⟨he, hw⟩ => ⟨_, he, ?_, ?_⟩
        · have hk : Keeps (· ≠ g) w w' := by rw [hw]; exact ((Keeps.refl _ _).drew.tr (keeps_setCells g _ _ _)).tr (keeps_setCells g _ _ _)
          refine .inr ⟨g, 0, c, by rw [insert_len _ _ _ (by omega), hl], Nat.lt_of_lt_of_le hblk.lt hk.size, by rw [insert_len _ _ _ (by omega), hl]; exact hroom, fun j x hj => ?_⟩
          have := ins_shift (g := g) (z := z) (w0 := w.drew) hl hi (fun k hk => hsome k (by omega)) (fun j hj => hcell j (by omega)) j x hj
          rw [hw, Nat.zero_add, Nat.zero_add, Nat.zero_add]; exact this
        · refine hK _ ?_
          rw [hw]; exact ((Keeps.refl _ _).drew.tr (keeps_setCells g _ _ _)).tr (keeps_setCells g _ _ _)
      · refine (Any2.slices_Insert_int_grow Try.insertI g 0 n c i vb 0 1 1 (l.map encZ) [encZ z] w hin (by decide) hnc (by omega) (by omega) hcl rfl hcs' hvs h1c h1v).mono fun e w' ⟨he, hw⟩ => ⟨_, he, ?_, ?_⟩
        · obtain ⟨A, hA⟩ : ∃ A : Array Value, A = (List.take i (l.map encZ)).toArray ++ Builtin.zeroCells (Value.int .i64 0).cells (n + 1 - i) ++ Builtin.zeroCells (Value.int .i64 0).cells (grownCap w (n + 1) c (Try.insertI_ren.t 3) - (n + 1)) := ⟨_, rfl⟩
          rw [← hA] at hw
          have hsz : n + 1 ≤ A.size := by
            rw [hA]; simp [Builtin.zeroCells, Value.cells, hl]; omega
          have hA1 : ∀ j, j < i → A[j]? = (l.map encZ)[j]? := fun j hj => by
            have hlt : (List.take i (l.map encZ)).length = i := by rw [List.length_take, hcl]; omega
            rw [hA, Array.append_assoc, Array.getElem?_append_left (by simp [hl]; omega), List.getElem?_toArray, List.getElem?_take, if_pos hj]
          have hB := Blk.new w A (Try.insertI_ren.t 3)
          refine .inr ⟨w.heap.size, 0, _, by rw [insert_len _ _ _ (by omega), hl], ?_, ?_, fun j x hj => ?_⟩
          · rw [hw]
            refine Nat.lt_of_lt_of_le ?_ (keeps_setCells _ _ _ _).size
            refine Nat.lt_of_lt_of_le ?_ (keeps_setCells w.heap.size [encZ z] i (w.alloc (.cells A (Try.insertI_ren.t 3))).drew).size
            show w.heap.size < (w.alloc (.cells A (Try.insertI_ren.t 3))).heap.size
            simp
          · rw [insert_len _ _ _ (by omega), hl]; exact grownCap_ge _ _ _ _
          · have := ins_grow (g := w.heap.size) (z := z) (w0 := (w.alloc (.cells A (Try.insertI_ren.t 3))).drew) hl hi (fun k hk => by
              show ((w.alloc _).cell? _).isSome = true
              rw [hB.cell, Array.getElem?_eq_getElem (by omega)]; rfl) (fun j hj => by
              show (w.alloc _).cell? _ = _
              rw [hB.cell]; exact hA1 j hj) j x hj
            rw [hw, Nat.zero_add]; exact this
        · have k1 : ∀ o, Keeps (fun x => x < w.heap.size ∧ (Value.slice (some ⟨g, 0, none⟩) n c).ownBlock ≠ some x) w (w.alloc o) := fun o => (Keeps.refl _ _).alloc (fun k hk => hk.1) o
          have k2 : ∀ vs o w1, Keeps (fun x => x < w.heap.size ∧ (Value.slice (some ⟨g, 0, none⟩) n c).ownBlock ≠ some x) w w1 → Keeps (fun x => x < w.heap.size ∧ (Value.slice (some ⟨g, 0, none⟩) n c).ownBlock ≠ some x) w (w1.drew.setCells w.heap.size o vs) := fun vs o w1 h =>
            h.drew.tr ((keeps_setCells w.heap.size vs o w1.drew).mono fun k hk => by have := hk.1; omega)
          rw [hw]
          exact k2 _ _ _ (k2 _ _ _ (k1 _))
    · obtain rfl : i = n := by omega
      have htd : l.take i ++ z :: l.drop i = l ++ [z] := by rw [List.take_of_length_le (by omega), List.drop_of_length_le (by omega)]
      by_cases hroom : i + 1 ≤ c
      · refine (Any2.slices_Insert_int_end_room Try.insertI g 0 i c vb 0 1 1 [encZ z] w (by decide) hroom (by unfold maxLen at hcm; omega) rfl (fun j hj => by rw [Nat.zero_add]; exact hsome _ (by omega)) (fun j _ => hblk.frozen _) hvs h1v).mono fun e w' ⟨he, hw⟩ => ⟨_, he, ?_, hK _ (by rw [hw]; exact keeps_setCells g _ _ _)⟩
        refine .inr ⟨g, 0, c, by rw [insert_len _ _ _ (by omega), hl], by rw [hw]; exact Nat.lt_of_lt_of_le hblk.lt (keeps_setCells g _ _ _).size, by rw [insert_len _ _ _ (by omega), hl]; exact hroom, fun j x hj => ?_⟩
        have := ins_shift (g := g) (z := z) (w0 := w) hl hi (fun k hk => hsome k (by omega)) (fun j hj => hcell j hj) j x hj
        have hd0 : List.drop i (l.map encZ) = [] := List.drop_of_length_le (by omega)
        rw [hd0] at this
        rw [hw, Nat.zero_add, Nat.zero_add]; exact this
      · refine (Any2.slices_Insert_int_end_grow Try.insertI (some ⟨g, 0, none⟩) i c vb 0 1 1 (l.map encZ) [encZ z] w (by decide) hnc (by omega) (by omega) hcl rfl (fun h => by cases h) (fun a h j v hj => by cases h; rw [Addr.add_mid]; exact hcs' j v hj) hvs h1v).mono fun e w' ⟨he, hw⟩ => ⟨_, he, ?_, by rw [hw]; exact (Keeps.refl _ _).drew.alloc (fun k hk => hk.1) _⟩
        rw [htd]
        refine .inr ⟨w.heap.size, 0, _, by rw [List.length_append, hl]; rfl, by rw [hw]; simp, by rw [List.length_append, hl]; exact grownCap_ge _ _ _ _, fun j x hj => ?_⟩
        rw [hw, Nat.zero_add]
        have hB := (Blk.new w.drew ((l.map encZ ++ [encZ z]).toArray ++ Builtin.zeroCells (Value.int .i64 0).cells (grownCap w (i + 1) c (Try.insertI_ren.t 3) - (i + 1))) (Try.insertI_ren.t 3)).cell j
        refine Eq.trans hB ?_
        have hjl : j < (l ++ [z]).length := (List.getElem?_eq_some_iff.1 hj).1
        rw [Array.getElem?_append_left (by simpa using hjl), List.getElem?_toArray, show l.map encZ ++ [encZ z] = (l ++ [z]).map encZ by simp, List.getElem?_map, hj]; rfl
end Go.Proofs.Ytokkgbcjjaiaeaa
