/-
  product.First.
  The number of a set's bytes.
  Lists of numbers that are filled one by one.
  The reference's product: all classes behind each other, as one drawn region leaves them.
  Rows of numbers that are kept while others grow.
  The law's theirs once more: what it makes is its own. And what an automaton's own blocks are not.
-/
import Derived.Test.YthdnlndpmmiboaaGreatDoorM16
import Derived.WalkMore
import Derived.Test.YthdnlndpmmiboaaGreatDoorM02
import Derived.Test.YthdnlndpmmiboaaGreatDoorM10
import Derived.Test.YthdnlndpmmiboaaGreatDoorM14
namespace Go.Proofs.YthdnlndpmmiboaaGreatDoor
open Go Go.RowKit Go.Shelf Go.Maps
attribute [local go_sem] encS

theorem made_ints (n : Nat) : (madeCells (Value.int .i64 0).cells (n * 1)).toList = (List.replicate n (0 : Int)).map encZ := by
  apply List.ext_getElem?
  intro k
  simp only [madeCells, Value.cells, Nat.mul_one, Array.toList_map, Array.toList_range, List.map_replicate, List.getElem?_map, List.getElem?_replicate]
  by_cases h : k < n
  · rw [List.getElem?_range h, if_pos h]; simp [encZ, Nat.mod_one]
  · rw [List.getElem?_eq_none (by simpa using h), if_neg h]; rfl
end Go.Proofs.YthdnlndpmmiboaaGreatDoor
namespace Go.Proofs.YthdnlndpmmiboaaGreatDoor
open Go Go.RowKit Go.Shelf Go.Maps
attribute [local go_sem] encS Oper.semAt_some wide_fn wide_depth

theorem bytesTo_len (s : BS) : ∀ n, (bytesTo s n).length ≤ n
  | 0 => by simp [bytesTo]
  | n + 1 => by
    rw [bytesTo_succ, List.length_append]
    have := bytesTo_len s n
    split <;> simp <;> omega

end Go.Proofs.YthdnlndpmmiboaaGreatDoor
namespace Go.Proofs.YthdnlndpmmiboaaGreatDoor
open Go Go.RowKit Go.Shelf Go.Maps
attribute [local go_sem] encS

/-- A list whose first k numbers are told by f, and the others are 0. -/
def UpTo (f : Nat → Int) (k n : Nat) (l : List Int) : Prop := l.length = n ∧ ∀ j, j < n → l.getD j 0 = if j < k then f j else 0
theorem UpTo.zero (f : Nat → Int) (n : Nat) : UpTo f 0 n (List.replicate n 0) := ⟨List.length_replicate, fun j _ => by rw [getD_rep, if_neg (by omega)]⟩
theorem UpTo.set {f : Nat → Int} {k n : Nat} {l : List Int} (h : UpTo f k n l) (hk : k < n) : UpTo f (k + 1) n (l.set k (f k)) := ⟨by rw [List.length_set, h.1], fun j hj => by
  rw [getD_set l k j (f k) (by rw [h.1]; exact hk)]
  by_cases e : j = k
  · rw [if_pos e, e, if_pos (by omega)]
  · rw [if_neg e, h.2 j hj]
    by_cases e2 : j < k
    · rw [if_pos e2, if_pos (by omega)]
    · rw [if_neg e2, if_neg (by omega)]⟩
theorem intCell {w : World} {base g n cap : Nat} {l : List Int} (h : w.ownsRow base 3 1 (.slice (some ⟨g, 0, none⟩) n cap) n (l.map encZ)) {i : Nat} (hi : i < n) : w.cell? ⟨g, i, none⟩ = some (.int .i64 (l.getD i 0)) ∧ w.frozen? ⟨g, i, none⟩ = false := by
  have hl : l.length = n := by simpa using h.1
  obtain ⟨g', u, e, _, _, hu, c, f⟩ := rowCell h hi
  cases e
  rw [List.getElem?_map, some_getD 0 (by omega)] at hu
  cases hu
  exact ⟨c, f⟩
theorem wpList_named {P : Program} {l : List Oper} {ops : Array Oper} {Q : Exit → Act → World → Prop} {a : Act} {w : World} (h : ∀ W, W = w → wpList P ops Q l a W) : wpList P ops Q l a w := h w rfl
end Go.Proofs.YthdnlndpmmiboaaGreatDoor
namespace Go.Proofs.YthdnlndpmmiboaaGreatDoor
open Go Go.RowKit Go.Shelf Go.Maps
attribute [local go_sem] encS

theorem IsArrs.news {w : World} {b off n cap : Nat} {fs : List (Nat → Int)} (h : IsArrs w (.slice (some ⟨b, off, none⟩) n cap) fs) : ∀ j u, (flatA fs)[j]? = some u → w.cell? ((⟨b, off, none⟩ : Addr).add j) = some u := fun j u hj => by
  have hlt := (List.getElem?_eq_some_iff.1 hj).1
  rw [flatA_length] at hlt
  have hi : j / 256 < fs.length := by omega
  obtain ⟨f, hf⟩ : ∃ f, fs[j / 256]? = some f := ⟨_, List.getElem?_eq_getElem hi⟩
  obtain ⟨b', o', e, _, hc⟩ := h.elem hf
  cases e
  have h1 := flatA_get fs hf (j := j % 256) (Nat.mod_lt _ (by omega))
  rw [show j / 256 * 256 + j % 256 = j by omega, hj] at h1
  cases h1
  have h2 := hc (j % 256) (Nat.mod_lt _ (by omega))
  rw [show off + j / 256 * 256 + j % 256 = off + j by omega] at h2
  rw [Addr.add_mid]
  exact h2
theorem flatA_one1 (fs : List (Nat → Int)) : ∀ u ∈ flatA fs, u.oneCell' = true := fun u hu => by
  unfold flatA at hu
  obtain ⟨f, _, h⟩ := List.mem_flatMap.1 hu
  exact Array.all_eq_true_iff_forall_mem.1 (aI_one f) u (by simpa using h)
theorem idxOf_before {α : Type} [DecidableEq α] {q : α} : ∀ {l : List α} {t : Nat} {z : α}, t < l.idxOf q → l[t]? = some z → z ≠ q
  | [], t, z, h, _ => by simp at h
  | x :: l, 0, z, h, hz => by
    simp at hz
    subst hz
    intro e
    subst e
    rw [List.idxOf_cons_self] at h
    omega
  | x :: l, t + 1, z, h, hz => by
    by_cases e : x = q
    · subst e
      rw [List.idxOf_cons_self] at h
      omega
    · rw [List.idxOf_cons, Bool.cond_eq_ite, if_neg (by simpa using e)] at h
      exact idxOf_before (l := l) (t := t) (by omega) (by simpa using hz)
theorem idxOf_at {α : Type} [DecidableEq α] {q : α} {l : List α} (h : l.idxOf q < l.length) : l[l.idxOf q]? = some q := by rw [List.getElem?_eq_getElem h, List.getElem_idxOf]
def plcOf {α : Type} [DecidableEq α] (q : α) (l : List α) : Nat := l.idxOf q
theorem plcOf_before {α : Type} [DecidableEq α] {q : α} {l : List α} {t : Nat} {z : α} (h : t < plcOf q l) (hz : l[t]? = some z) : z ≠ q := idxOf_before h hz
theorem plcOf_at {α : Type} [DecidableEq α] {q : α} {l : List α} (h : plcOf q l < l.length) : l[plcOf q l]? = some q := idxOf_at h
theorem plcOf_mem {α : Type} [DecidableEq α] {q : α} {l : List α} (h : q ∈ l) : plcOf q l < l.length := List.idxOf_lt_length_of_mem h
theorem addQ_ix {α : Type} [DecidableEq α] {fuel : Nat} {st : List α × List Nat} {q : α} (hq : q ∈ st.1) : addQ fuel st q = some (st.1, st.2 ++ [plcOf q st.1]) := addQ_old hq
end Go.Proofs.YthdnlndpmmiboaaGreatDoor
namespace Go.Proofs.YthdnlndpmmiboaaGreatDoor
open Go Go.RowKit Go.Shelf Go.Maps

theorem Far.step {u v v' : Value} {N : Nat} (h : Far u v) (ho : v'.ownBlock = v.ownBlock ∨ ∀ x, v'.ownBlock = some x → N ≤ x) (hu : ∀ b, u.ownBlock = some b → b < N) : Far u v' := by
  rcases h with h | h
  · exact .inl h
  · by_cases e : u.ownBlock = none
    · exact .inl e
    · right
      intro e2
      rcases ho with h2 | h2
      · exact h (by rw [e2, h2])
      · cases hb : u.ownBlock with
        | none => exact e hb
        | some b => have h3 := hu b hb; have h4 := h2 b (by rw [← e2, hb]); omega
/-- All rows of a list lie in a world. -/
def RowsIn (W : World) (base : Nat) (us : List Value) (ll : List (List Int)) : Prop := ∀ (i : Nat) (u : Value) (l : List Int), us[i]? = some u → ll[i]? = some l → W.ownsRow base 3 1 u l.length (l.map encZ)
theorem RowsIn.nil (W : World) (base : Nat) : RowsIn W base [] [] := fun i u l h => by simp at h
theorem RowsIn.snoc {W : World} {base n : Nat} {us : List Value} {ll : List (List Int)} {u : Value} {l : List Int} (h : RowsIn W base us ll) (h1 : us.length = n) (h2 : ll.length = n) (hn : W.ownsRow base 3 1 u l.length (l.map encZ)) : RowsIn W base (us ++ [u]) (ll ++ [l]) := fun i x y hx hy => by
  by_cases hi : i < n
  · rw [List.getElem?_append_left (by omega)] at hx hy
    exact h i x y hx hy
  · have hil := (List.getElem?_eq_some_iff.1 hx).1
    simp at hil
    obtain rfl : i = n := by omega
    rw [List.getElem?_append_right (by omega), h1, Nat.sub_self] at hx
    rw [List.getElem?_append_right (by omega), h2, Nat.sub_self] at hy
    cases hx
    cases hy
    exact hn
theorem RowsIn.keeps {W W' : World} {base : Nat} {us : List Value} {ll : List (List Int)} (h : RowsIn W base us ll) {R : Nat → Prop} (hk : Keeps R W W') (hr : ∀ u x, u ∈ us → u.ownBlock = some x → x < W.heap.size → R x) : RowsIn W' base us ll := fun i u l hu hl =>
  ownsRow_keeps (h i u l hu hl) hk fun x hx => hr u x (List.mem_of_getElem? hu) hx ((h i u l hu hl).lt x hx).2
theorem RowsIn.kept {W W' : World} {base b2 m : Nat} {us : List Value} {ll : List (List Int)} {tv : Value} {xs : List Value} (h : RowsIn W base us ll) (ht : W.ownsRow b2 33 1 tv m xs) (hg : W.grownBy W' tv.ownBlock) : RowsIn W' base us ll := fun i u l hu hl =>
  (h i u l hu hl).kept hg (ownBlock_ne (by decide) (h i u l hu hl) ht)
theorem RowsIn.alloc {W : World} {base : Nat} {us : List Value} {ll : List (List Int)} (h : RowsIn W base us ll) (o : Obj) : RowsIn (W.alloc o) base us ll := fun i u l hu hl => (h i u l hu hl).alloc o
theorem RowsIn.lt {W : World} {base n : Nat} {us : List Value} {ll : List (List Int)} (h : RowsIn W base us ll) (h1 : us.length = n) (h2 : ll.length = n) {u : Value} (hu : u ∈ us) : ∀ b, u.ownBlock = some b → base ≤ b ∧ b < W.heap.size := fun b e => by
  obtain ⟨i, hi⟩ := List.getElem?_of_mem hu
  have hil := (List.getElem?_eq_some_iff.1 hi).1
  exact (h i u _ hi (List.getElem?_eq_getElem (by omega))).lt b e
theorem RowsIn.ll {W : World} {base n : Nat} {us : List Value} {ll : List (List Int)} {v : Value} (h : RowsIn W base us ll) (h1 : us.length = n) (h2 : ll.length = n) (ho : W.ownsRow base 33 1 v n us) : OwnLL base W v ll := ⟨us, by omega, by rw [h1]; exact ho, h⟩
theorem row_other {W W' : World} {o : Obj} {b2 m2 s2 : Nat} {tv : Value} {ys : List Value} (ht : W.ownsRow b2 33 s2 tv m2 ys) (hg : (W.alloc o).grownBy W' tv.ownBlock) {e : TypeId} {bs sz m : Nat} {u : Value} {xs : List Value} (h : W.ownsRow bs e sz u m xs) (he : e ≠ 33) : W'.ownsRow bs e sz u m xs :=
  (h.alloc o).kept hg (ownBlock_ne he (h.alloc o) (ht.alloc o))
theorem RowsIn.other {W W' : World} {o : Obj} {base b2 m : Nat} {us : List Value} {ll : List (List Int)} {tv : Value} {xs : List Value} (h : RowsIn W base us ll) (ht : W.ownsRow b2 33 1 tv m xs) (hg : (W.alloc o).grownBy W' tv.ownBlock) : RowsIn W' base us ll := fun i u l hu hl => row_other ht hg (h i u l hu hl) (by decide)
theorem RowsIn.below {W W' : World} {base : Nat} {us : List Value} {ll : List (List Int)} (h : RowsIn W base us ll) (hk : Below W.heap.size W W') : RowsIn W' base us ll := fun i u l hu hl => ownsRow_below (h i u l hu hl) hk
theorem Far.new {W : World} {base n size : Nat} {e : TypeId} {v : Value} {xs : List Value} (h : W.ownsRow base e size v n xs) (k c : Nat) : Far (.slice (some ⟨W.heap.size, 0, none⟩) k c) v := .inr fun he => by
  have h1 : v.ownBlock = some W.heap.size := he.symm
  have := (h.lt _ h1).2
  omega
end Go.Proofs.YthdnlndpmmiboaaGreatDoor
namespace Go.Proofs.YthdnlndpmmiboaaGreatDoor
open Go Go.RowKit Go.Shelf Go.Maps

/-- The reference's automaton, in memory of its own. -/
def OwnRf (base : Nat) (w : World) (v : Value) (d : DF) : Prop := ∃ v0 v1 v2, v = .agg #[v0, v1, v2] ∧ w.ownsRow base 91 256 v0 (d.cl.map refS).length (flatA (d.cl.map refS)) ∧ OwnLL base w v1 d.nx ∧ OwnLL base w v2 d.mr
theorem OwnRf.rf {base : Nat} {w : World} {v : Value} {d : DF} (h : OwnRf base w v d) : IsRf w v d := by
  obtain ⟨v0, v1, v2, e, h0, h1, h2⟩ := h
  exact ⟨v0, v1, v2, e, ownsRow_arrs h0, h1.ll, h2.ll⟩
theorem OwnRf.below {base : Nat} {w w' : World} {v : Value} {d : DF} (h : OwnRf base w v d) (hk : Below w.heap.size w w') : OwnRf base w' v d := by
  obtain ⟨v0, v1, v2, e, h0, h1, h2⟩ := h
  exact ⟨v0, v1, v2, e, ownsRow_below h0 hk, h1.below hk, h2.below hk⟩
theorem OwnRf.base {base base' : Nat} {w : World} {v : Value} {d : DF} (h : OwnRf base w v d) (hb : base' ≤ base) : OwnRf base' w v d := by
  obtain ⟨v0, v1, v2, e, h0, h1, h2⟩ := h
  exact ⟨v0, v1, v2, e, ownsRow_base h0 hb, h1.base hb, h2.base hb⟩
theorem OwnRf.keeps {base : Nat} {w w' : World} {v : Value} {d : DF} (h : OwnRf base w v d) {R : Nat → Prop} (hk : Keeps R w w') (hr : ∀ k, base ≤ k → k < w.heap.size → R k) : OwnRf base w' v d := by
  obtain ⟨v0, v1, v2, e, h0, h1, h2⟩ := h
  exact ⟨v0, v1, v2, e, ownsRow_keepsB h0 hk hr, h1.keeps hk hr, h2.keeps hk hr⟩
theorem OwnRf.form {base : Nat} {w : World} {v : Value} {d : DF} (h : OwnRf base w v d) : ∃ a0 c0 a1 c1 a2 c2, v = .agg #[.slice a0 d.cl.length c0, .slice a1 d.nx.length c1, .slice a2 d.mr.length c2] := by
  obtain ⟨v0, v1, v2, rfl, h0, h1, h2⟩ := h
  rw [List.length_map] at h0
  obtain ⟨a0, c0, rfl⟩ := ownsRow_form h0
  obtain ⟨a1, c1, rfl⟩ := h1.form
  obtain ⟨a2, c2, rfl⟩ := h2.form
  exact ⟨_, _, _, _, _, _, rfl⟩
theorem OwnDf.form {base : Nat} {w : World} {v : Value} {d : DF} (h : OwnDf base w v d) : ∃ a0 c0 a1 c1 a2 c2, v = .agg #[.slice a0 d.cl.length c0, .slice a1 d.nx.length c1, .slice a2 d.mr.length c2] := by
  obtain ⟨v0, v1, v2, rfl, h0, h1, h2⟩ := h
  obtain ⟨a0, c0, rfl⟩ := ownsRow_form h0
  obtain ⟨a1, c1, rfl⟩ := h1.form
  obtain ⟨a2, c2, rfl⟩ := h2.form
  exact ⟨_, _, _, _, _, _, rfl⟩
/-- A row's block is no block of another type. -/
theorem row_ne {w : World} {b base size n : Nat} {c : Array Value} {t e : TypeId} {v : Value} {xs : List Value} (h : Blk w b c t) (ho : w.ownsRow base e size v n xs) (hne : t ≠ e) : ∀ x, v.ownBlock = some x → x ≠ b := fun x hx e2 => by
  subst e2
  rcases ho.2 with ⟨h1, _⟩ | ⟨g', c', cur, h1, _, h3, _⟩
  · rw [h1] at hx; cases hx
  · subst h1
    have hg : g' = x := by simpa [Value.ownBlock] using hx
    subst hg
    have h4 : w.heap[g']? = some (.cells c t (0, 0)) := h
    rw [h3] at h4
    injection h4 with h4
    injection h4 with _ h5 _
    exact hne h5.symm
theorem row_past {w w' : World} {b base size n : Nat} {c : Array Value} {t e : TypeId} {v : Value} {xs : List Value} (h : Blk w b c t) (ho : w.ownsRow base e size v n xs) (hne : t ≠ e) (hk : Keeps (· ≠ b) w w') : w'.ownsRow base e size v n xs := ownsRow_keeps ho hk fun x hx => row_ne h ho hne x hx
theorem OwnLL.past {w w' : World} {b base : Nat} {c : Array Value} {t : TypeId} {v : Value} {ll : List (List Int)} (h : Blk w b c t) (ho : OwnLL base w v ll) (h1 : t ≠ 33) (h2 : t ≠ 3) (hk : Keeps (· ≠ b) w w') : OwnLL base w' v ll := by
  obtain ⟨us, e, o1, o2⟩ := ho
  exact ⟨us, e, row_past h o1 h1 hk, fun i u l hu hl => row_past h (o2 i u l hu hl) h2 hk⟩
theorem OwnDf.past {w w' : World} {b base : Nat} {c : Array Value} {t : TypeId} {v : Value} {d : DF} (h : Blk w b c t) (ho : OwnDf base w v d) (h0 : t ≠ 65) (h1 : t ≠ 33) (h2 : t ≠ 3) (hk : Keeps (· ≠ b) w w') : OwnDf base w' v d := by
  obtain ⟨v0, v1, v2, e, o0, o1, o2⟩ := ho
  exact ⟨v0, v1, v2, e, row_past h o0 h0 hk, o1.past h h1 h2 hk, o2.past h h1 h2 hk⟩
theorem OwnRf.past {w w' : World} {b base : Nat} {c : Array Value} {t : TypeId} {v : Value} {d : DF} (h : Blk w b c t) (ho : OwnRf base w v d) (h0 : t ≠ 91) (h1 : t ≠ 33) (h2 : t ≠ 3) (hk : Keeps (· ≠ b) w w') : OwnRf base w' v d := by
  obtain ⟨v0, v1, v2, e, o0, o1, o2⟩ := ho
  exact ⟨v0, v1, v2, e, row_past h o0 h0 hk, o1.past h h1 h2 hk, o2.past h h1 h2 hk⟩
theorem blk_ne {w : World} {b b2 : Nat} {c c2 : Array Value} {t t2 : TypeId} (h : Blk w b c t) (h2 : Blk w b2 c2 t2) (hne : t ≠ t2) : b ≠ b2 := fun e => by
  subst e
  have h3 : w.heap[b]? = some (.cells c t (0, 0)) := h
  have h4 : w.heap[b]? = some (.cells c2 t2 (0, 0)) := h2
  rw [h3] at h4
  injection h4 with h4
  injection h4 with _ h5 _
  exact hne h5

end Go.Proofs.YthdnlndpmmiboaaGreatDoor
