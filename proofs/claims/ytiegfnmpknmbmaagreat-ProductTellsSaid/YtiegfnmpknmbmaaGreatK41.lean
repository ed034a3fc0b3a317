/-
  The reference's product: all classes behind each other, as one drawn region leaves them.
  Rows of numbers that are kept while others grow.
-/
import Derived.Test.YtiegfnmpknmbmaaGreatK12
import Derived.Test.YtiegfnmpknmbmaaGreatK40
import Derived.Test.YtiegfnmpknmbmaaGreatK22
import Derived.Test.YtiegfnmpknmbmaaGreatK24
namespace Go.Proofs.YtiegfnmpknmbmaaGreat
open Go Go.RowKit Go.Shelf Go.Maps
attribute [local go_sem] encS

theorem IsArrs.news {w : World} {b off n cap : Nat} {fs : List (Nat → Int)} (h : IsArrs w (.slice (some ⟨b, off, none⟩) n cap) fs) : ∀ j u, (flatA fs)[j]? = some u → w.cell? ((⟨b, off, none⟩ : Addr).add j) = some u := fun j u hj => by
  have hlt := (List.getElem?_eq_some_iff.1 hj).1
  rw [flatA_length] at hlt
  have hi : j / 256 < fs.length := by omega
  obtain ⟨f, hf⟩ : ∃ f, fs[j / 256]? = some f := ⟨_, List.getElem?_eq_getElem hi⟩
  obtain ⟨b', o', e, _, hc⟩ := h.elem hf
  cases e
  have h1 := flatA_get fs hf (j := j % 256) (Nat.mod_lt _ (by omega))
  rw [show j / 256 * 256 + j % 256 = j by omega, hj] at h1
  cases h1
  have h2 := hc (j % 256) (Nat.mod_lt _ (by omega))
  rw [show off + j / 256 * 256 + j % 256 = off + j by omega] at h2
  rw [Addr.add_mid]
  exact h2
theorem flatA_one1 (fs : List (Nat → Int)) : ∀ u ∈ flatA fs, u.oneCell' = true := fun u hu => by
  unfold flatA at hu
  obtain ⟨f, _, h⟩ := List.mem_flatMap.1 hu
  exact Array.all_eq_true_iff_forall_mem.1 (aI_one f) u (by simpa using h)
/-- What the region leaves: the empty list, the first list, both, and the box. -/
def ofPhi (n0 Ka Kb : Nat) (L1 L2 : List Value) : Nat → Value → World → Prop
  | 0, v, W => ∃ b, v = .slice (some ⟨b, 0, none⟩) 0 0 ∧ W.ownsRow n0 75 256 v 0 []
  | 1, v, W => W.ownsRow n0 75 256 v Ka L1
  | 2, v, W => W.ownsRow n0 75 256 v (Ka + Kb) (L1 ++ L2)
  | 3, v, W => ∃ b, v = .pointer (some ⟨b, 0, none⟩) ∧ n0 ≤ b ∧ Blk W b (aI fun _ => 0) 81
  | _, _, _ => True
theorem ofPhi_st (n0 Ka Kb : Nat) (L1 L2 : List Value) : ∀ i v A B, Below A.heap.size A B → ofPhi n0 Ka Kb L1 L2 i v A → ofPhi n0 Ka Kb L1 L2 i v B
  | 0, _, _, _, hb, ⟨b, e, h⟩ => ⟨b, e, ownsRow_below h hb⟩
  | 1, _, _, _, hb, h => ownsRow_below (show World.ownsRow _ _ _ _ _ _ _ from h) hb
  | 2, _, _, _, hb, h => ownsRow_below (show World.ownsRow _ _ _ _ _ _ _ from h) hb
  | 3, _, _, _, hb, ⟨b, e, h1, h2⟩ => ⟨b, e, h1, h2.below hb h2.lt⟩
  | _ + 4, _, _, _, _, _ => trivial
theorem blk_own {w : World} {b g : Nat} {c : Array Value} {t e : TypeId} (h : Blk w b c t) (hne : t ≠ e) {base size n cap : Nat} {xs : List Value} (ho : w.ownsRow base e size (.slice (some ⟨g, 0, none⟩) n cap) n xs) : b ≠ g := fun e2 => by
  subst e2
  rcases ho.2 with ⟨h1, _⟩ | ⟨g', c', cur, h1, _, h3, _⟩
  · cases h1
  · cases h1
    have h4 : w.heap[b]? = some (.cells c t (0, 0)) := h
    rw [h3] at h4
    injection h4 with h4
    injection h4 with _ h5 _
    exact hne h5.symm
/-- An append in place keeps them all. -/
theorem ofPhi_place {n0 Ka Kb g cap : Nat} {L1 L2 : List Value} {W W' : World} (hb : 0 < Kb) (ho : W.ownsRow n0 75 256 (.slice (some ⟨g, 0, none⟩) Ka cap) Ka L1) (ho' : W'.ownsRow n0 75 256 (.slice (some ⟨g, 0, none⟩) (Ka + Kb) cap) (Ka + Kb) (L1 ++ L2))
    (hc : Ka + Kb ≤ cap) (hg : W.grownBy W' (some g)) : ∀ i v, ofPhi n0 Ka Kb L1 L2 i v W → ofPhi n0 Ka Kb L1 L2 i v W'
  | 0, v, ⟨b, e, h⟩ => by
    refine ⟨b, e, h.kept hg (.inr fun e2 => ?_)⟩
    obtain ⟨c, h1, h2, _⟩ := ownsRow_same (by decide) h ho e2 rfl
    rw [e] at h1
    cases h1
    cases h2
    omega
  | 1, v, h => by
    have h : W.ownsRow n0 75 256 v Ka L1 := h
    show W'.ownsRow n0 75 256 v Ka L1
    by_cases e2 : v.ownBlock = some g
    · obtain ⟨c, h1, h2, _⟩ := ownsRow_same (by decide) h ho e2 rfl
      cases h2
      subst h1
      exact ownsRow_prefix h.1 ho'
    · exact h.kept hg (.inr e2)
  | 2, v, h => by
    have h : W.ownsRow n0 75 256 v (Ka + Kb) (L1 ++ L2) := h
    show W'.ownsRow n0 75 256 v (Ka + Kb) (L1 ++ L2)
    by_cases e2 : v.ownBlock = some g
    · obtain ⟨c, h1, h2, _⟩ := ownsRow_same (by decide) h ho e2 rfl
      cases h2
      subst h1
      exact ho'
    · exact h.kept hg (.inr e2)
  | 3, v, ⟨b, e, h1, h2⟩ => ⟨b, e, h1, h2.grown hg fun e3 => by cases e3; exact blk_own h2 (by decide) ho rfl⟩
  | _ + 4, _, _ => trivial
theorem idxOf_before {α : Type} [DecidableEq α] {q : α} : ∀ {l : List α} {t : Nat} {z : α}, t < l.idxOf q → l[t]? = some z → z ≠ q
  | [], t, z, h, _ => by simp at h
  | x :: l, 0, z, h, hz => by
    simp at hz
    subst hz
    intro e
    subst e
    rw [List.idxOf_cons_self] at h
    omega
  | x :: l, t + 1, z, h, hz => by
    by_cases e : x = q
    · subst e
      rw [List.idxOf_cons_self] at h
      omega
    · rw [List.idxOf_cons, Bool.cond_eq_ite, if_neg (by simpa using e)] at h
      exact idxOf_before (l := l) (t := t) (by omega) (by simpa using hz)
theorem idxOf_at {α : Type} [DecidableEq α] {q : α} {l : List α} (h : l.idxOf q < l.length) : l[l.idxOf q]? = some q := by rw [List.getElem?_eq_getElem h, List.getElem_idxOf]
def plcOf {α : Type} [DecidableEq α] (q : α) (l : List α) : Nat := l.idxOf q
theorem plcOf_le {α : Type} [DecidableEq α] (q : α) (l : List α) : plcOf q l ≤ l.length := List.idxOf_le_length
theorem plcOf_before {α : Type} [DecidableEq α] {q : α} {l : List α} {t : Nat} {z : α} (h : t < plcOf q l) (hz : l[t]? = some z) : z ≠ q := idxOf_before h hz
theorem plcOf_at {α : Type} [DecidableEq α] {q : α} {l : List α} (h : plcOf q l < l.length) : l[plcOf q l]? = some q := idxOf_at h
theorem plcOf_mem {α : Type} [DecidableEq α] {q : α} {l : List α} (h : q ∈ l) : plcOf q l < l.length := List.idxOf_lt_length_of_mem h
theorem addQ_ix {α : Type} [DecidableEq α] {fuel : Nat} {st : List α × List Nat} {q : α} (hq : q ∈ st.1) : addQ fuel st q = some (st.1, st.2 ++ [plcOf q st.1]) := addQ_old hq
end Go.Proofs.YtiegfnmpknmbmaaGreat
namespace Go.Proofs.YtiegfnmpknmbmaaGreat
open Go Go.RowKit Go.Shelf Go.Maps

theorem Far.ne' {u v : Value} {x : Nat} (h : Far u v) (hx : u.ownBlock = some x) : v.ownBlock ≠ some x := fun e => by
  rcases h with h | h
  · rw [h] at hx; cases hx
  · exact h (hx.trans e.symm)
theorem Far.step {u v v' : Value} {N : Nat} (h : Far u v) (ho : v'.ownBlock = v.ownBlock ∨ ∀ x, v'.ownBlock = some x → N ≤ x) (hu : ∀ b, u.ownBlock = some b → b < N) : Far u v' := by
  rcases h with h | h
  · exact .inl h
  · by_cases e : u.ownBlock = none
    · exact .inl e
    · right
      intro e2
      rcases ho with h2 | h2
      · exact h (by rw [e2, h2])
      · cases hb : u.ownBlock with
        | none => exact e hb
        | some b => have h3 := hu b hb; have h4 := h2 b (by rw [← e2, hb]); omega
/-- All rows of a list lie in a world. -/
def RowsIn (W : World) (base : Nat) (us : List Value) (ll : List (List Int)) : Prop := ∀ (i : Nat) (u : Value) (l : List Int), us[i]? = some u → ll[i]? = some l → W.ownsRow base 3 1 u l.length (l.map encZ)
theorem RowsIn.nil (W : World) (base : Nat) : RowsIn W base [] [] := fun i u l h => by simp at h
theorem RowsIn.snoc {W : World} {base n : Nat} {us : List Value} {ll : List (List Int)} {u : Value} {l : List Int} (h : RowsIn W base us ll) (h1 : us.length = n) (h2 : ll.length = n) (hn : W.ownsRow base 3 1 u l.length (l.map encZ)) : RowsIn W base (us ++ [u]) (ll ++ [l]) := fun i x y hx hy => by
  by_cases hi : i < n
  · rw [List.getElem?_append_left (by omega)] at hx hy
    exact h i x y hx hy
  · have hil := (List.getElem?_eq_some_iff.1 hx).1
    simp at hil
    obtain rfl : i = n := by omega
    rw [List.getElem?_append_right (by omega), h1, Nat.sub_self] at hx
    rw [List.getElem?_append_right (by omega), h2, Nat.sub_self] at hy
    cases hx
    cases hy
    exact hn
theorem RowsIn.keeps {W W' : World} {base : Nat} {us : List Value} {ll : List (List Int)} (h : RowsIn W base us ll) {R : Nat → Prop} (hk : Keeps R W W') (hr : ∀ u x, u ∈ us → u.ownBlock = some x → x < W.heap.size → R x) : RowsIn W' base us ll := fun i u l hu hl =>
  ownsRow_keeps (h i u l hu hl) hk fun x hx => hr u x (List.mem_of_getElem? hu) hx ((h i u l hu hl).lt x hx).2
theorem RowsIn.kept {W W' : World} {base b2 m : Nat} {us : List Value} {ll : List (List Int)} {tv : Value} {xs : List Value} (h : RowsIn W base us ll) (ht : W.ownsRow b2 36 1 tv m xs) (hg : W.grownBy W' tv.ownBlock) : RowsIn W' base us ll := fun i u l hu hl =>
  (h i u l hu hl).kept hg (ownBlock_ne (by decide) (h i u l hu hl) ht)
theorem RowsIn.alloc {W : World} {base : Nat} {us : List Value} {ll : List (List Int)} (h : RowsIn W base us ll) (o : Obj) : RowsIn (W.alloc o) base us ll := fun i u l hu hl => (h i u l hu hl).alloc o
theorem RowsIn.lt {W : World} {base n : Nat} {us : List Value} {ll : List (List Int)} (h : RowsIn W base us ll) (h1 : us.length = n) (h2 : ll.length = n) {u : Value} (hu : u ∈ us) : ∀ b, u.ownBlock = some b → base ≤ b ∧ b < W.heap.size := fun b e => by
  obtain ⟨i, hi⟩ := List.getElem?_of_mem hu
  have hil := (List.getElem?_eq_some_iff.1 hi).1
  exact (h i u _ hi (List.getElem?_eq_getElem (by omega))).lt b e
theorem RowsIn.ll {W : World} {base n : Nat} {us : List Value} {ll : List (List Int)} {v : Value} (h : RowsIn W base us ll) (h1 : us.length = n) (h2 : ll.length = n) (ho : W.ownsRow base 36 1 v n us) : OwnLL base W v ll := ⟨us, by omega, by rw [h1]; exact ho, h⟩
theorem row_other {W W' : World} {o : Obj} {b2 m2 s2 : Nat} {tv : Value} {ys : List Value} (ht : W.ownsRow b2 36 s2 tv m2 ys) (hg : (W.alloc o).grownBy W' tv.ownBlock) {e : TypeId} {bs sz m : Nat} {u : Value} {xs : List Value} (h : W.ownsRow bs e sz u m xs) (he : e ≠ 36) : W'.ownsRow bs e sz u m xs :=
  (h.alloc o).kept hg (ownBlock_ne he (h.alloc o) (ht.alloc o))
theorem RowsIn.other {W W' : World} {o : Obj} {base b2 m : Nat} {us : List Value} {ll : List (List Int)} {tv : Value} {xs : List Value} (h : RowsIn W base us ll) (ht : W.ownsRow b2 36 1 tv m xs) (hg : (W.alloc o).grownBy W' tv.ownBlock) : RowsIn W' base us ll := fun i u l hu hl => row_other ht hg (h i u l hu hl) (by decide)
theorem RowsIn.keepsB {W W' : World} {base : Nat} {us : List Value} {ll : List (List Int)} (h : RowsIn W base us ll) {R : Nat → Prop} (hk : Keeps R W W') (hr : ∀ k, base ≤ k → k < W.heap.size → R k) : RowsIn W' base us ll := fun i u l hu hl => ownsRow_keepsB (h i u l hu hl) hk hr
theorem RowsIn.below {W W' : World} {base : Nat} {us : List Value} {ll : List (List Int)} (h : RowsIn W base us ll) (hk : Below W.heap.size W W') : RowsIn W' base us ll := fun i u l hu hl => ownsRow_below (h i u l hu hl) hk
theorem Far.new {W : World} {base n size : Nat} {e : TypeId} {v : Value} {xs : List Value} (h : W.ownsRow base e size v n xs) (k c : Nat) : Far (.slice (some ⟨W.heap.size, 0, none⟩) k c) v := .inr fun he => by
  have h1 : v.ownBlock = some W.heap.size := he.symm
  have := (h.lt _ h1).2
  omega
end Go.Proofs.YtiegfnmpknmbmaaGreat
