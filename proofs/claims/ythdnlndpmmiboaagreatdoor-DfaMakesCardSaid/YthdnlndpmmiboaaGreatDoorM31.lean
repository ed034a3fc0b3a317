/-
  Rows of parts in memory: the law's own ones, those of the reference, and those that a law is given.
  Opening parts that come by value, by the form's own reach.
-/
import Derived.Test.YthdnlndpmmiboaaGreatDoorM22
import Derived.Test.YthdnlndpmmiboaaGreatDoorM27
import Derived.Test.YthdnlndpmmiboaaGreatDoorM30
import Derived.Test.YthdnlndpmmiboaaGreatDoorM16
namespace Go.Proofs.YthdnlndpmmiboaaGreatDoor
open Go Go.RowKit Go.Shelf Go.Maps

/-- The seven cells of a part. -/
def PtIs (Q : World → Value → NF → Prop) (w : World) (x : PT) (f : Nat → Option Value) : Prop :=
  ∃ v0 v1 v2 v3, Q w (.agg #[v0, v1, v2, v3, .bool x.nf.emp]) x.nf ∧ f 0 = some v0 ∧ f 1 = some v1 ∧ f 2 = some v2 ∧ f 3 = some v3 ∧ f 4 = some (.bool x.nf.emp) ∧ f 5 = some (.bool x.beg) ∧ f 6 = some (.int .i64 x.mark)
theorem PtIs.mono {Q R : World → Value → NF → Prop} {w w' : World} {x : PT} {f g : Nat → Option Value} (h : PtIs Q w x f) (hq : ∀ v, Q w v x.nf → R w' v x.nf) (hf : ∀ j, j < 7 → ∀ u, f j = some u → g j = some u) : PtIs R w' x g := by
  obtain ⟨v0, v1, v2, v3, h0, h1, h2, h3, h4, h5, h6, h7⟩ := h
  exact ⟨v0, v1, v2, v3, hq _ h0, hf 0 (by decide) _ h1, hf 1 (by decide) _ h2, hf 2 (by decide) _ h3, hf 3 (by decide) _ h4, hf 4 (by decide) _ h5, hf 5 (by decide) _ h6, hf 6 (by decide) _ h7⟩
/-- Parts whose empty rows may lie anywhere. -/
def IsPtse (w : World) (v : Value) (ps : List PT) : Prop := (ps = [] ∧ ∃ a, v = .slice a 0 0) ∨ ∃ b off cap, v = .slice (some ⟨b, off, none⟩) ps.length cap ∧ b < w.heap.size ∧ ∀ (i : Nat) (x : PT), ps[i]? = some x → PtIs IsNfe w x fun j => w.cell? ⟨b, off + i * 7 + j, none⟩
theorem IsPtse.below {w w' : World} {v : Value} {ps : List PT} (h : IsPtse w v ps) (hk : Below w.heap.size w w') : IsPtse w' v ps := by
  rcases h with h | ⟨b, off, cap, hv, hb, h⟩
  · exact .inl h
  · have hc : ∀ j, w'.cell? ⟨b, j, none⟩ = w.cell? ⟨b, j, none⟩ := fun j => (Keeps.of_below hk fun _ h => h : Keeps (· < w.heap.size) w w').cell (p := ⟨b, j, none⟩) hb
    exact .inr ⟨b, off, cap, hv, Nat.lt_of_lt_of_le hb hk.size, fun i x hx => (h i x hx).mono (fun v hv => hv.below hk) fun j _ u hu => (hc _).trans hu⟩
theorem IsPtse.form {w : World} {v : Value} {ps : List PT} (h : IsPtse w v ps) : ∃ a cap, v = .slice a ps.length cap := by
  rcases h with ⟨rfl, a, rfl⟩ | ⟨b, off, cap, rfl, _⟩
  · exact ⟨_, _, rfl⟩
  · exact ⟨_, _, rfl⟩
theorem IsPtse.elem {w : World} {a : Option Addr} {n cap : Nat} {ps : List PT} (h : IsPtse w (.slice a n cap) ps) {i : Nat} {x : PT} (hi : ps[i]? = some x) :
    ∃ b off, a = some ⟨b, off, none⟩ ∧ b < w.heap.size ∧ PtIs IsNfe w x fun j => w.cell? ⟨b, off + i * 7 + j, none⟩ := by
  rcases h with ⟨rfl, _⟩ | ⟨b, off, c, hv, hb, h⟩
  · simp at hi
  · cases hv
    exact ⟨b, off, rfl, hb, h i x hi⟩
theorem IsNf.e {w : World} {v : Value} {a : NF} (h : IsNf w v a) : IsNfe w v a := by
  obtain ⟨v0, v1, v2, v3, e, h0, h1, h2, h3⟩ := h
  exact ⟨v0, v1, v2, v3, e, .inl h0, .inl h1.e, .inl h2, .inl h3⟩
theorem IsNfe.form4 {w : World} {v0 v1 v2 v3 e : Value} {a : NF} (h : IsNfe w (.agg #[v0, v1, v2, v3, e]) a) : ∃ a0 c0 a1 c1 a2 c2 a3 c3, v0 = .slice a0 a.sets.length c0 ∧ v1 = .slice a1 a.fol.length c1 ∧ v2 = .slice a2 a.fst.length c2 ∧ v3 = .slice a3 a.lst.length c3 := by
  obtain ⟨u0, u1, u2, u3, e, h0, h1, h2, h3⟩ := h
  obtain ⟨a0, c0, rfl⟩ := h0.form
  obtain ⟨a1, c1, rfl⟩ := h1.form
  obtain ⟨a2, c2, rfl⟩ := h2.form
  obtain ⟨a3, c3, rfl⟩ := h3.form
  cases e
  exact ⟨_, _, _, _, _, _, _, _, rfl, rfl, rfl, rfl⟩
/-- A row's cells, read. -/
theorem row_cells {w : World} {base size n : Nat} {v : Value} {e : TypeId} {xs : List Value} (h : w.ownsRow base e size v n xs) (hn : 0 < n) : ∃ g cap, v = .slice (some ⟨g, 0, none⟩) n cap ∧ g < w.heap.size ∧ ∀ j u, xs[j]? = some u → w.cell? ⟨g, j, none⟩ = some u := by
  rcases h.2 with ⟨_, h2⟩ | ⟨g, cap, cur, hv, _, hg, hc, _, hs, ht⟩
  · omega
  · refine ⟨g, cap, hv, (Array.getElem?_eq_some_iff.1 hg).1, fun j u hu => ?_⟩
    have hc : w.cell? ⟨g, j, none⟩ = cur[j]? := by simp [World.cell?, hg]
    rw [hc]
    rw [← ht, List.getElem?_take] at hu
    split at hu
    · simpa using hu
    · cases hu
theorem ownsRow_pts {w : World} {base : Nat} {v : Value} {ps : List PT} {e : TypeId} {cs : List Value} (h : w.ownsRow base e 7 v ps.length cs) (hp : ∀ (i : Nat) (x : PT), ps[i]? = some x → PtIs IsNf w x fun j => cs[i * 7 + j]?) : IsPts w v ps := by
  rcases Nat.eq_zero_or_pos ps.length with h0 | h0
  · rcases h.2 with ⟨h1, _⟩ | ⟨g, cap, cur, hv, _, hg, hc, _, hs, ht⟩
    · exact .inl ⟨h1, List.eq_nil_of_length_eq_zero h0⟩
    · exact .inr ⟨g, 0, cap, hv, (Array.getElem?_eq_some_iff.1 hg).1, fun i x hx => by
        have := (List.getElem?_eq_some_iff.1 hx).1; omega⟩
  · obtain ⟨g, cap, hv, hb, hc⟩ := row_cells h h0
    refine .inr ⟨g, 0, cap, hv, hb, fun i x hx => ?_⟩
    obtain ⟨v0, v1, v2, v3, h0, h1, h2, h3, h4, h5, h6, h7⟩ := hp i x hx
    simp only [Nat.zero_add]
    exact ⟨v0, v1, v2, v3, h0, hc _ _ h1, hc _ _ h2, hc _ _ h3, hc _ _ h4, hc _ _ h5, hc _ _ h6, hc _ _ h7⟩
theorem ownsRow_rps {w : World} {base : Nat} {v : Value} {ps : List PT} {e : TypeId} {cs : List Value} (h : w.ownsRow base e 7 v ps.length cs) (hp : ∀ (i : Nat) (x : PT), ps[i]? = some x → PtIs IsRn w x fun j => cs[i * 7 + j]?) : IsRps w v ps := by
  rcases Nat.eq_zero_or_pos ps.length with h0 | h0
  · rcases h.2 with ⟨h1, _⟩ | ⟨g, cap, cur, hv, _, hg, hc, _, hs, ht⟩
    · exact .inl ⟨h1, List.eq_nil_of_length_eq_zero h0⟩
    · exact .inr ⟨g, 0, cap, hv, (Array.getElem?_eq_some_iff.1 hg).1, fun i x hx => by
        have := (List.getElem?_eq_some_iff.1 hx).1; omega⟩
  · obtain ⟨g, cap, hv, hb, hc⟩ := row_cells h h0
    refine .inr ⟨g, 0, cap, hv, hb, fun i x hx => ?_⟩
    obtain ⟨v0, v1, v2, v3, h0, h1, h2, h3, h4, h5, h6, h7⟩ := hp i x hx
    simp only [Nat.zero_add]
    exact ⟨v0, v1, v2, v3, h0, hc _ _ h1, hc _ _ h2, hc _ _ h3, hc _ _ h4, hc _ _ h5, hc _ _ h6, hc _ _ h7⟩
theorem OwnNf.below {base : Nat} {w w' : World} {v : Value} {a : NF} (h : OwnNf base w v a) (hk : Below w.heap.size w w') : OwnNf base w' v a := by
  obtain ⟨v0, v1, v2, v3, e, h0, h1, h2, h3⟩ := h
  exact ⟨v0, v1, v2, v3, e, ownsRow_below h0 hk, h1.below hk, ownsRow_below h2 hk, ownsRow_below h3 hk⟩
theorem OwnNf.base {base base' : Nat} {w : World} {v : Value} {a : NF} (h : OwnNf base w v a) (hb : base' ≤ base) : OwnNf base' w v a := by
  obtain ⟨v0, v1, v2, v3, e, h0, h1, h2, h3⟩ := h
  exact ⟨v0, v1, v2, v3, e, ownsRow_base h0 hb, h1.base hb, ownsRow_base h2 hb, ownsRow_base h3 hb⟩
theorem OwnRn.below {base : Nat} {w w' : World} {v : Value} {a : NF} (h : OwnRn base w v a) (hk : Below w.heap.size w w') : OwnRn base w' v a := by
  obtain ⟨v0, v1, v2, v3, e, h0, h1, h2, h3⟩ := h
  exact ⟨v0, v1, v2, v3, e, ownsRow_below h0 hk, h1.below hk, ownsRow_below h2 hk, ownsRow_below h3 hk⟩
theorem OwnRn.base {base base' : Nat} {w : World} {v : Value} {a : NF} (h : OwnRn base w v a) (hb : base' ≤ base) : OwnRn base' w v a := by
  obtain ⟨v0, v1, v2, v3, e, h0, h1, h2, h3⟩ := h
  exact ⟨v0, v1, v2, v3, e, ownsRow_base h0 hb, h1.base hb, ownsRow_base h2 hb, ownsRow_base h3 hb⟩
/-- Rows of other types stay where one row is written or grows. -/
theorem row_far {w w' : World} {b1 b2 s1 s2 n1 n2 : Nat} {e1 e2 : TypeId} {v1 v2 : Value} {x1 x2 : List Value} (he : e1 ≠ e2) (h1 : w.ownsRow b1 e1 s1 v1 n1 x1) (h2 : w.ownsRow b2 e2 s2 v2 n2 x2) (hk : Keeps (fun x => x < w.heap.size ∧ v2.ownBlock ≠ some x) w w') : w'.ownsRow b1 e1 s1 v1 n1 x1 :=
  ownsRow_keeps h1 hk fun x hx => ⟨(h1.lt x hx).2, fun e => by
    rcases ownBlock_ne he h1 h2 with h5 | h5
    · rw [h5] at hx; cases hx
    · exact h5 (hx.trans e.symm)⟩
theorem OwnLL.far {w w' : World} {b1 b2 s2 n2 : Nat} {e2 : TypeId} {v1 v2 : Value} {x2 : List Value} {ll : List (List Int)} (h1 : OwnLL b1 w v1 ll) (h2 : w.ownsRow b2 e2 s2 v2 n2 x2) (ha : 33 ≠ e2) (hb : 3 ≠ e2) (hk : Keeps (fun x => x < w.heap.size ∧ v2.ownBlock ≠ some x) w w') : OwnLL b1 w' v1 ll := by
  obtain ⟨us, e, o1, o2⟩ := h1
  exact ⟨us, e, row_far ha o1 h2 hk, fun i u l hu hl => row_far hb (o2 i u l hu hl) h2 hk⟩
theorem OwnNf.far {w w' : World} {b1 b2 s2 n2 : Nat} {e2 : TypeId} {v1 v2 : Value} {x2 : List Value} {a : NF} (h1 : OwnNf b1 w v1 a) (h2 : w.ownsRow b2 e2 s2 v2 n2 x2) (h0 : 65 ≠ e2) (ha : 33 ≠ e2) (hb : 3 ≠ e2) (hk : Keeps (fun x => x < w.heap.size ∧ v2.ownBlock ≠ some x) w w') : OwnNf b1 w' v1 a := by
  obtain ⟨v0, v1, v2, v3, e, o0, o1, o2, o3⟩ := h1
  exact ⟨v0, v1, v2, v3, e, row_far h0 o0 h2 hk, o1.far h2 ha hb hk, row_far hb o2 h2 hk, row_far hb o3 h2 hk⟩
theorem OwnRn.far {w w' : World} {b1 b2 s2 n2 : Nat} {e2 : TypeId} {v1 v2 : Value} {x2 : List Value} {a : NF} (h1 : OwnRn b1 w v1 a) (h2 : w.ownsRow b2 e2 s2 v2 n2 x2) (h0 : 91 ≠ e2) (ha : 33 ≠ e2) (hb : 3 ≠ e2) (hk : Keeps (fun x => x < w.heap.size ∧ v2.ownBlock ≠ some x) w w') : OwnRn b1 w' v1 a := by
  obtain ⟨v0, v1, v2, v3, e, o0, o1, o2, o3⟩ := h1
  exact ⟨v0, v1, v2, v3, e, row_far h0 o0 h2 hk, o1.far h2 ha hb hk, row_far hb o2 h2 hk, row_far hb o3 h2 hk⟩
theorem Tryz.infoP : (Tryz.prog.info? 37).map (fun i => (i.zero, i.size, i.bytes)) = some (some (.agg #[.slice none 0 0, .slice none 0 0, .slice none 0 0, .slice none 0 0, .bool false, .bool false, .int .i64 0]), 7, 120) := by kernel_rfl
theorem Tryz.infoRP : (Tryz.prog.info? 45).map (fun i => (i.zero, i.size, i.bytes)) = some (some (.agg #[.slice none 0 0, .slice none 0 0, .slice none 0 0, .slice none 0 0, .bool false, .bool false, .int .i64 0]), 7, 120) := by kernel_rfl
/-- No list is longer than the reach allows. -/
structure BigN (a : NF) : Prop where
  sets : a.sets.length ≤ 17592186044416
  fol : a.fol.length ≤ 17592186044416
  fst : a.fst.length ≤ 17592186044416
  lst : a.lst.length ≤ 17592186044416
  row : ∀ l ∈ a.fol, l.length ≤ 17592186044416
end Go.Proofs.YthdnlndpmmiboaaGreatDoor
namespace Go.Proofs.YthdnlndpmmiboaaGreatDoor
open Go Go.ChangeShapes Go.WideShapes Go.ChangeAt Go.RowKit Go.Deep
section
variable {H : Type} {enc : TypeId × Value → H} {W : World}

theorem lt_of_cell {b j : Nat} {u : Value} (h : W.cell? ⟨b, j, none⟩ = some u) : b < W.heap.size := by
  unfold World.cell? at h
  cases hh : W.heap[b]? with
  | none => rw [hh] at h; cases h
  | some o => exact (Array.getElem?_eq_some_iff.1 hh).1
theorem add_none (b o i : Nat) : (⟨b, o, none⟩ : Addr).add i = ⟨b, o + i, none⟩ := by
  unfold Addr.add
  split
  · rename_i h; subst h; rfl
  · rfl
set_option maxRecDepth 100000 in
theorem inner_sets {fuel : Nat} {v : Value} {y : DataW H × List MemPlace} (h : DataW.trod enc Tryz.prog W 0 (fun _ => true) true fuel 26 [v] = some y) (hz : ∀ m ∈ y.1.weights Tryz.prog 26, m ≤ reachBytes) :
    ∃ l : List BS, IsSetsE W v l ∧ l.length ≤ 17592186044416 := by
  have hb32 : 8 ≤ Tryz.prog.bytesOf 65 := by
    have : Tryz.prog.bytesOf 65 = 32 := by kernel_rfl
    omega
  have h0 := h
  rcases open_slice Tryz.underlying26 h with ⟨hcs, _⟩ | ⟨a, len, cap, m, n, D, Pl, hcs, _, hl, hm, hmm, _, hi⟩
  · obtain rfl : v = .slice none 0 0 := by simpa using hcs
    exact ⟨[], .inl ⟨.inl ⟨rfl, rfl⟩, fun a n cap e => by cases e; exact Nat.le_refl _⟩, by simp⟩
  · obtain rfl : v = .slice (some a) len cap := by simpa using hcs
    have hbd := slice_sized Tryz.underlying26 hb32 h0 hz
    have hc : Tryz.prog.cellsOf 65 = 4 := by kernel_rfl
    rw [hc] at hi
    rw [if_pos rfl] at hmm
    rcases Nat.eq_zero_or_pos cap with h1 | h1
    · obtain rfl : len = 0 := by omega
      subst h1
      exact ⟨[], .inr ⟨rfl, a, rfl⟩, by simp⟩
    · obtain ⟨b, off, spot⟩ := a
      have hc0 : ∃ u, W.cell? ((⟨b, off, spot⟩ : Addr).add (0 * 4)) = some u := by
        obtain ⟨cs', h2, h3⟩ := hi 0 (by omega)
        obtain ⟨s, rfl⟩ := trod_set h3
        obtain ⟨_, _, hat⟩ := World.cells?_some h2
        have := hat 0 (by decide)
        rw [show (encS s).toList[0]? = some (.int .u64 (wd s 0).toNat) from rfl] at this
        exact ⟨_, by simpa [Addr.add] using this⟩
      obtain ⟨u, hu⟩ := hc0
      have hspot : spot = none := by simpa [Addr.add] using World.cell?_spot hu
      subst hspot
      rw [add_none] at hu
      have hb := lt_of_cell hu
      obtain ⟨S, hS⟩ := choose_lt (α := BS) (p := fun i s => ∀ j, j < 4 → W.cell? ⟨b, off + i * 4 + j, none⟩ = (encS s)[j]?) (n := len) (fun i hil => by
        obtain ⟨cs', h2, h3⟩ := hi i (by omega)
        obtain ⟨s, rfl⟩ := trod_set h3
        obtain ⟨_, _, hat⟩ := World.cells?_some h2
        refine ⟨s, fun j hj => ?_⟩
        have := hat j (by simpa using hj)
        rw [add_none, add_none] at this
        rw [this, Array.getElem?_toList])
      refine ⟨(List.range len).map S, .inl ⟨.inr ⟨b, off, cap, ?_, hb, fun i s his j hj => ?_⟩, fun a n cap' e => by cases e; exact hl⟩, by simpa using hbd⟩
      · simp
      · simp only [List.getElem?_map, Option.map_eq_some_iff, List.getElem?_eq_some_iff] at his
        obtain ⟨k, ⟨hk, rfl⟩, rfl⟩ := his
        simp at hk ⊢
        exact hS i hk j hj
set_option maxRecDepth 100000 in
theorem inner_intsS {fuel : Nat} {v : Value} {y : DataW H × List MemPlace} (h : DataW.trod enc Tryz.prog W 0 (fun _ => true) true fuel 33 [v] = some y) (hz : ∀ m ∈ y.1.weights Tryz.prog 33, m ≤ reachBytes) : ∃ l : List Int, IsSlE encZ W v l ∧ l.length ≤ 17592186044416 := by
  have hb8 : 8 ≤ Tryz.prog.bytesOf 3 := by
    have : Tryz.prog.bytesOf 3 = 8 := by kernel_rfl
    omega
  obtain ⟨l, h3, _⟩ := inner_ints h
  refine ⟨l, h3, ?_⟩
  obtain ⟨a2, c2, e2⟩ := h3.form
  rw [e2] at h
  exact slice_sized Tryz.underlying33 hb8 h hz
set_option maxRecDepth 100000 in
theorem inner_ll {fuel : Nat} {v : Value} {y : DataW H × List MemPlace} (h : DataW.trod enc Tryz.prog W 0 (fun _ => true) true fuel 27 [v] = some y) (hz : ∀ m ∈ y.1.weights Tryz.prog 27, m ≤ reachBytes) :
    ∃ ll, IsLLE W v ll ∧ ll.length ≤ 17592186044416 ∧ ∀ l ∈ ll, l.length ≤ 17592186044416 := by
  have hb24 : 8 ≤ Tryz.prog.bytesOf 33 := by
    have : Tryz.prog.bytesOf 33 = 24 := by kernel_rfl
    omega
  have h0 := h
  rcases open_slice1 Tryz.underlying27 (by kernel_rfl) h with ⟨hcs, _⟩ | ⟨a, len, cap, m, k, V, D, Pl, hcs, _, hl, hm, hmm, rfl, hi⟩
  · obtain rfl : v = .slice none 0 0 := by simpa using hcs
    exact ⟨[], .inl ⟨[], rfl, .inl ⟨rfl, rfl⟩, by simp⟩, by simp, by simp⟩
  · obtain rfl : v = .slice (some a) len cap := by simpa using hcs
    have hbd := slice_sized Tryz.underlying27 hb24 h0 hz
    rw [if_pos rfl] at hmm
    rcases Nat.eq_zero_or_pos cap with h1 | h1
    · obtain rfl : len = 0 := by omega
      subst h1
      exact ⟨[], .inr ⟨rfl, a, rfl⟩, by simp, by simp⟩
    · obtain ⟨b, off, spot⟩ := a
      have hu := (hi 0 (by omega)).1
      have hspot : spot = none := by simpa [Addr.add] using World.cell?_spot hu
      subst hspot
      rw [add_none] at hu
      have hb := lt_of_cell hu
      have hD : ∀ i, i < len → ∀ w ∈ (D i).weights Tryz.prog 33, w ≤ reachBytes := fun i hil w hw => by
        refine hz w ?_
        simp only [DataW.weights, Tryz.underlying27, List.mem_cons, List.mem_append]
        exact .inr (.inl (weightsAll_in (List.mem_map.2 ⟨i, List.mem_range.2 hil, rfl⟩) w hw))
      obtain ⟨L, hL⟩ := choose_lt (α := List Int) (p := fun i l => IsSlE encZ W (V i) l ∧ l.length ≤ 17592186044416) (n := len) (fun i hil => inner_intsS (hi i (by omega)).2 (hD i hil))
      refine ⟨(List.range len).map L, .inl ⟨(List.range len).map V, by simp, .inr ⟨b, off, cap, by simp, hb, by simpa using hl, fun i y hy => ?_⟩, fun i u l hu hl' => ?_⟩, by simpa using hbd, fun l hl' => ?_⟩
      · simp only [List.getElem?_map, Option.map_eq_some_iff, List.getElem?_eq_some_iff] at hy
        obtain ⟨j, ⟨hj, rfl⟩, rfl⟩ := hy
        simp at hj ⊢
        have := (hi i (by omega)).1
        rwa [add_none] at this
      · simp only [List.getElem?_map, Option.map_eq_some_iff, List.getElem?_eq_some_iff] at hu hl'
        obtain ⟨j, ⟨hj, rfl⟩, rfl⟩ := hu
        obtain ⟨j', ⟨hj', rfl⟩, rfl⟩ := hl'
        simp at hj ⊢
        exact (hL i hj).1
      · obtain ⟨i, hi2, rfl⟩ := List.mem_map.1 hl'
        exact (hL i (List.mem_range.1 hi2)).2
set_option maxRecDepth 100000 in
theorem inner_nfa {fuel : Nat} {c0 c1 c2 c3 c4 : Value} {y : DataW H × List MemPlace} (h : DataW.trod enc Tryz.prog W 0 (fun _ => true) true fuel 35 [c0, c1, c2, c3, c4] = some y) (hz : ∀ m ∈ y.1.weights Tryz.prog 35, m ≤ reachBytes) :
    ∃ a : NF, IsNfe W (.agg #[c0, c1, c2, c3, .bool a.emp]) a ∧ c4 = .bool a.emp ∧ BigN a := by
  obtain ⟨xs, n, _, rfl, _, hlen, hf⟩ := DataW.trod_struct Tryz.underlying35 h
  match xs, hlen with
  | [y0, y1, y2, y3, y4], _ =>
  have t0 : DataW.trod enc Tryz.prog W 0 (fun _ => true) true n 26 [c0] = some y0 := hf 0 _ rfl
  have t1 : DataW.trod enc Tryz.prog W 0 (fun _ => true) true n 27 [c1] = some y1 := hf 1 _ rfl
  have t2 : DataW.trod enc Tryz.prog W 0 (fun _ => true) true n 33 [c2] = some y2 := hf 2 _ rfl
  have t3 : DataW.trod enc Tryz.prog W 0 (fun _ => true) true n 33 [c3] = some y3 := hf 3 _ rfl
  have t4 : DataW.trod enc Tryz.prog W 0 (fun _ => true) true n 4 [c4] = some y4 := hf 4 _ rfl
  have hz0 : ∀ m ∈ y0.1.weights Tryz.prog 26, m ≤ reachBytes := fun m hm => hz m (by
    simp only [DataW.weights, Tryz.underlying35]
    exact DataW.weights_mem_each (j := 0) (ds := [y0.1, y1.1, y2.1, y3.1, y4.1]) rfl rfl m hm)
  have hz1 : ∀ m ∈ y1.1.weights Tryz.prog 27, m ≤ reachBytes := fun m hm => hz m (by
    simp only [DataW.weights, Tryz.underlying35]
    exact DataW.weights_mem_each (j := 1) (ds := [y0.1, y1.1, y2.1, y3.1, y4.1]) rfl rfl m hm)
  have hz2 : ∀ m ∈ y2.1.weights Tryz.prog 33, m ≤ reachBytes := fun m hm => hz m (by
    simp only [DataW.weights, Tryz.underlying35]
    exact DataW.weights_mem_each (j := 2) (ds := [y0.1, y1.1, y2.1, y3.1, y4.1]) rfl rfl m hm)
  have hz3 : ∀ m ∈ y3.1.weights Tryz.prog 33, m ≤ reachBytes := fun m hm => hz m (by
    simp only [DataW.weights, Tryz.underlying35]
    exact DataW.weights_mem_each (j := 3) (ds := [y0.1, y1.1, y2.1, y3.1, y4.1]) rfl rfl m hm)
  obtain ⟨l0, s0, b0⟩ := inner_sets t0 hz0
  obtain ⟨l1, s1, b1, m1⟩ := inner_ll t1 hz1
  obtain ⟨l2, s2, b2⟩ := inner_intsS t2 hz2
  obtain ⟨l3, s3, b3⟩ := inner_intsS t3 hz3
  obtain ⟨e, he, _⟩ := DataW.trod_bool Tryz.underlying4 t4
  obtain rfl : c4 = .bool e := by simpa using he
  exact ⟨⟨l0, l1, l2, l3, e⟩, ⟨_, _, _, _, rfl, s0, s1, s2, s3⟩, rfl, b0, b1, b2, b3, m1⟩
set_option maxRecDepth 100000 in
theorem inner_part {fuel : Nat} {c0 c1 c2 c3 c4 c5 c6 : Value} {y : DataW H × List MemPlace} (h : DataW.trod enc Tryz.prog W 0 (fun _ => true) true fuel 37 [c0, c1, c2, c3, c4, c5, c6] = some y) (hz : ∀ m ∈ y.1.weights Tryz.prog 37, m ≤ reachBytes) :
    ∃ x : PT, PtIs IsNfe W x (fun j => [c0, c1, c2, c3, c4, c5, c6][j]?) ∧ BigN x.nf := by
  obtain ⟨y0, y1, y2, n, rfl, _, t0, t1, t2⟩ := trod_struct3 Tryz.underlying37 h
  replace t0 : DataW.trod enc Tryz.prog W 0 (fun _ => true) true n 35 [c0, c1, c2, c3, c4] = some y0 := t0
  replace t1 : DataW.trod enc Tryz.prog W 0 (fun _ => true) true n 4 [c5] = some y1 := t1
  replace t2 : DataW.trod enc Tryz.prog W 0 (fun _ => true) true n 3 [c6] = some y2 := t2
  have hz0 : ∀ m ∈ y0.1.weights Tryz.prog 35, m ≤ reachBytes := fun m hm => hz m (by
    simp only [DataW.weights, Tryz.underlying37]
    exact DataW.weights_mem_each (j := 0) (ds := [y0.1, y1.1, y2.1]) rfl rfl m hm)
  obtain ⟨a, s0, e4, b0⟩ := inner_nfa t0 hz0
  obtain ⟨e, he, _⟩ := DataW.trod_bool Tryz.underlying4 t1
  obtain rfl : c5 = .bool e := by simpa using he
  obtain ⟨z, hz', _⟩ := DataW.trod_int Tryz.underlying3 t2
  obtain rfl : c6 = .int .i64 z := by simpa using hz'
  exact ⟨⟨a, e, z⟩, ⟨c0, c1, c2, c3, s0, rfl, rfl, rfl, rfl, by rw [e4]; rfl, rfl, rfl⟩, b0⟩
set_option maxRecDepth 100000 in
theorem open_ptsS {r : Go.Reach} {v : Value} {d : DataW H} {p : List MemPlace} {b0 : Nat} (hok : Value.okWide Tryz.prog W r b0 22 v) (h : DataW.Trod enc Tryz.prog W 0 (fun _ => true) true 22 v d p) (hz : ∀ m ∈ d.weights Tryz.prog 22, m ≤ reachBytes) :
    ∃ ps : List PT, IsPtse W v ps ∧ ps.length ≤ 17592186044416 ∧ ∀ x ∈ ps, BigN x.nf := by
  have hb8 : 8 ≤ Tryz.prog.bytesOf 37 := by
    have : Tryz.prog.bytesOf 37 = 120 := by kernel_rfl
    omega
  obtain ⟨a, len, cap, rfl⟩ := okWide_slice Tryz.underlying22 hok
  obtain ⟨fuel, hf⟩ := h
  have hf0 : DataW.trod enc Tryz.prog W 0 (fun _ => true) true fuel 22 [.slice a len cap] = some (d, p) := hf
  have hbd := slice_sized Tryz.underlying22 hb8 hf0 hz
  rcases open_slice Tryz.underlying22 hf0 with ⟨hcs, _⟩ | ⟨a', len', cap', m, n, D, Pl, hcs, _, hl, hm, hmm, hd, hi⟩
  · have : Value.slice a len cap = .slice none 0 0 := by simpa using hcs
    cases this
    exact ⟨[], .inl ⟨rfl, none, rfl⟩, by simp, by simp⟩
  · have : Value.slice a len cap = .slice (some a') len' cap' := by simpa using hcs
    cases this
    obtain ⟨hs, hb⟩ := okWide_row Tryz.underlying22 hok
    obtain ⟨b, off, spot⟩ := a'
    have hs' : spot = none := hs
    subst hs'
    have hc : Tryz.prog.cellsOf 37 = 7 := by kernel_rfl
    rw [hc] at hi
    rw [if_pos rfl] at hmm
    have hd1 : d = .slice ((List.range len).map D) ((List.range (m - len)).map fun j => D (len + j)) := congrArg Prod.fst hd
    have hD : ∀ i, i < len → ∀ w ∈ (D i).weights Tryz.prog 37, w ≤ reachBytes := fun i hil w hw => by
      refine hz w ?_
      rw [hd1]
      simp only [DataW.weights, Tryz.underlying22, List.mem_cons, List.mem_append]
      exact .inr (.inl (weightsAll_in (List.mem_map.2 ⟨i, List.mem_range.2 hil, rfl⟩) w hw))
    have : Inhabited PT := ⟨⟨⟨[], [], [], [], false⟩, false, 0⟩⟩
    obtain ⟨L, hL⟩ := choose_lt (α := PT) (p := fun i x => PtIs IsNfe W x (fun j => W.cell? ⟨b, off + i * 7 + j, none⟩) ∧ BigN x.nf) (n := len) (fun i hil => by
      obtain ⟨cs', h1, h2⟩ := hi i (by omega)
      obtain ⟨_, hl7, hat⟩ := World.cells?_some h1
      match cs', hl7 with
      | [c0, c1, c2, c3, c4, c5, c6], _ =>
      obtain ⟨x, h3, h4⟩ := inner_part h2 (hD i hil)
      refine ⟨x, h3.mono (fun v hv => hv) fun j hj u hu => ?_, h4⟩
      have := hat j hj
      rw [add_none, add_none] at this
      rw [this]; exact hu)
    refine ⟨(List.range len).map L, .inr ⟨b, off, cap, by simp, hb, fun i x hx => ?_⟩, by simpa using hbd, fun x hx => ?_⟩
    · simp only [List.getElem?_map, Option.map_eq_some_iff, List.getElem?_eq_some_iff] at hx
      obtain ⟨k, ⟨hk, rfl⟩, rfl⟩ := hx
      simp at hk ⊢
      exact (hL i hk).1
    · obtain ⟨i, hi2, rfl⟩ := List.mem_map.1 hx
      exact (hL i (List.mem_range.1 hi2)).2
end
end Go.Proofs.YthdnlndpmmiboaaGreatDoor
