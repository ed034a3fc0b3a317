/-
  The reference's parts in memory; what a step leads to. Printed by wip/gen/rpts.py.
  Rows of parts in memory: the law's own ones, those of the reference, and those that a law is given.
  The law's small. Printed by wip/gen/lsm18.py.
-/
import Derived.Test.YthdnlndpmmiboaaGreatDoorR29
import Derived.Test.YthdnlndpmmiboaaGreatDoorR23
import Derived.Test.YthdnlndpmmiboaaGreatDoorR11
import Derived.Test.YthdnlndpmmiboaaGreatDoorR15
import Derived.Test.YthdnlndpmmiboaaGreatDoorR19
namespace Go.Proofs.YthdnlndpmmiboaaGreatDoor
open Go Go.RowKit Go.Shelf Go.Maps

theorem IsRn.form4 {w : World} {v0 v1 v2 v3 e : Value} {a : NF} (h : IsRn w (.agg #[v0, v1, v2, v3, e]) a) : ∃ a0 n0 c0 a1 n1 c1 a2 n2 c2 a3 n3 c3, v0 = .slice a0 n0 c0 ∧ v1 = .slice a1 n1 c1 ∧ v2 = .slice a2 n2 c2 ∧ v3 = .slice a3 n3 c3 := by
  obtain ⟨u0, u1, u2, u3, e, h0, h1, h2, h3⟩ := h
  obtain ⟨a0, c0, rfl⟩ := h0.form
  obtain ⟨a1, c1, rfl⟩ := h1.form
  obtain ⟨a2, c2, rfl⟩ := h2.form
  obtain ⟨a3, c3, rfl⟩ := h3.form
  cases e
  exact ⟨_, _, _, _, _, _, _, _, _, _, _, _, rfl, rfl, rfl, rfl⟩
/-- A slice of parts, to be read. -/
def IsRps (w : World) (v : Value) (ps : List PT) : Prop := (v = .slice none 0 0 ∧ ps = []) ∨ ∃ b off cap, v = .slice (some ⟨b, off, none⟩) ps.length cap ∧ b < w.heap.size ∧ ∀ (i : Nat) (x : PT), ps[i]? = some x →
  ∃ v0 v1 v2 v3, IsRn w (.agg #[v0, v1, v2, v3, .bool x.nf.emp]) x.nf ∧ w.cell? ⟨b, off + i * 7, none⟩ = some v0 ∧ w.cell? ⟨b, off + i * 7 + 1, none⟩ = some v1 ∧ w.cell? ⟨b, off + i * 7 + 2, none⟩ = some v2 ∧ w.cell? ⟨b, off + i * 7 + 3, none⟩ = some v3 ∧
    w.cell? ⟨b, off + i * 7 + 4, none⟩ = some (.bool x.nf.emp) ∧ w.cell? ⟨b, off + i * 7 + 5, none⟩ = some (.bool x.beg) ∧ w.cell? ⟨b, off + i * 7 + 6, none⟩ = some (.int .i64 x.mark)
theorem IsRps.below {w w' : World} {v : Value} {ps : List PT} (h : IsRps w v ps) (hk : Below w.heap.size w w') : IsRps w' v ps := by
  rcases h with h | ⟨b, off, cap, hv, hb, h⟩
  · exact .inl h
  · have hc : ∀ j, w'.cell? ⟨b, j, none⟩ = w.cell? ⟨b, j, none⟩ := fun j => (Keeps.of_below hk fun _ h => h : Keeps (· < w.heap.size) w w').cell (p := ⟨b, j, none⟩) hb
    refine .inr ⟨b, off, cap, hv, Nat.lt_of_lt_of_le hb hk.size, fun i x hx => ?_⟩
    obtain ⟨v0, v1, v2, v3, h0, h1, h2, h3, h4, h5, h6, h7⟩ := h i x hx
    exact ⟨v0, v1, v2, v3, h0.below hk, (hc _).trans h1, (hc _).trans h2, (hc _).trans h3, (hc _).trans h4, (hc _).trans h5, (hc _).trans h6, (hc _).trans h7⟩
theorem IsRps.form {w : World} {v : Value} {ps : List PT} (h : IsRps w v ps) : ∃ a cap, v = .slice a ps.length cap := by
  rcases h with ⟨rfl, rfl⟩ | ⟨b, off, cap, rfl, _⟩
  · exact ⟨_, _, rfl⟩
  · exact ⟨_, _, rfl⟩
theorem IsRps.elem {w : World} {a : Option Addr} {n cap : Nat} {ps : List PT} (h : IsRps w (.slice a n cap) ps) {i : Nat} {x : PT} (hi : ps[i]? = some x) :
    ∃ b off v0 v1 v2 v3, a = some ⟨b, off, none⟩ ∧ b < w.heap.size ∧ IsRn w (.agg #[v0, v1, v2, v3, .bool x.nf.emp]) x.nf ∧ w.cell? ⟨b, off + i * 7, none⟩ = some v0 ∧ w.cell? ⟨b, off + i * 7 + 1, none⟩ = some v1 ∧ w.cell? ⟨b, off + i * 7 + 2, none⟩ = some v2 ∧ w.cell? ⟨b, off + i * 7 + 3, none⟩ = some v3 ∧
    w.cell? ⟨b, off + i * 7 + 4, none⟩ = some (.bool x.nf.emp) ∧ w.cell? ⟨b, off + i * 7 + 5, none⟩ = some (.bool x.beg) ∧ w.cell? ⟨b, off + i * 7 + 6, none⟩ = some (.int .i64 x.mark) := by
  rcases h with ⟨_, rfl⟩ | ⟨b, off, c, hv, hb, h⟩
  · simp at hi
  · cases hv
    obtain ⟨v0, v1, v2, v3, h0, rest⟩ := h i x hi
    exact ⟨b, off, v0, v1, v2, v3, rfl, hb, h0, rest⟩
end Go.Proofs.YthdnlndpmmiboaaGreatDoor
namespace Go.Proofs.YthdnlndpmmiboaaGreatDoor
open Go Go.RowKit Go.Shelf Go.Maps

/-- The seven cells of a part. -/
def PtIs (Q : World → Value → NF → Prop) (w : World) (x : PT) (f : Nat → Option Value) : Prop :=
  ∃ v0 v1 v2 v3, Q w (.agg #[v0, v1, v2, v3, .bool x.nf.emp]) x.nf ∧ f 0 = some v0 ∧ f 1 = some v1 ∧ f 2 = some v2 ∧ f 3 = some v3 ∧ f 4 = some (.bool x.nf.emp) ∧ f 5 = some (.bool x.beg) ∧ f 6 = some (.int .i64 x.mark)
theorem PtIs.mono {Q R : World → Value → NF → Prop} {w w' : World} {x : PT} {f g : Nat → Option Value} (h : PtIs Q w x f) (hq : ∀ v, Q w v x.nf → R w' v x.nf) (hf : ∀ j, j < 7 → ∀ u, f j = some u → g j = some u) : PtIs R w' x g := by
  obtain ⟨v0, v1, v2, v3, h0, h1, h2, h3, h4, h5, h6, h7⟩ := h
  exact ⟨v0, v1, v2, v3, hq _ h0, hf 0 (by decide) _ h1, hf 1 (by decide) _ h2, hf 2 (by decide) _ h3, hf 3 (by decide) _ h4, hf 4 (by decide) _ h5, hf 5 (by decide) _ h6, hf 6 (by decide) _ h7⟩
/-- Parts whose empty rows may lie anywhere. -/
def IsPtse (w : World) (v : Value) (ps : List PT) : Prop := (ps = [] ∧ ∃ a, v = .slice a 0 0) ∨ ∃ b off cap, v = .slice (some ⟨b, off, none⟩) ps.length cap ∧ b < w.heap.size ∧ ∀ (i : Nat) (x : PT), ps[i]? = some x → PtIs IsNfe w x fun j => w.cell? ⟨b, off + i * 7 + j, none⟩
theorem IsPtse.below {w w' : World} {v : Value} {ps : List PT} (h : IsPtse w v ps) (hk : Below w.heap.size w w') : IsPtse w' v ps := by
  rcases h with h | ⟨b, off, cap, hv, hb, h⟩
  · exact .inl h
  · have hc : ∀ j, w'.cell? ⟨b, j, none⟩ = w.cell? ⟨b, j, none⟩ := fun j => (Keeps.of_below hk fun _ h => h : Keeps (· < w.heap.size) w w').cell (p := ⟨b, j, none⟩) hb
    exact .inr ⟨b, off, cap, hv, Nat.lt_of_lt_of_le hb hk.size, fun i x hx => (h i x hx).mono (fun v hv => hv.below hk) fun j _ u hu => (hc _).trans hu⟩
theorem IsPtse.form {w : World} {v : Value} {ps : List PT} (h : IsPtse w v ps) : ∃ a cap, v = .slice a ps.length cap := by
  rcases h with ⟨rfl, a, rfl⟩ | ⟨b, off, cap, rfl, _⟩
  · exact ⟨_, _, rfl⟩
  · exact ⟨_, _, rfl⟩
theorem IsPtse.elem {w : World} {a : Option Addr} {n cap : Nat} {ps : List PT} (h : IsPtse w (.slice a n cap) ps) {i : Nat} {x : PT} (hi : ps[i]? = some x) :
    ∃ b off, a = some ⟨b, off, none⟩ ∧ b < w.heap.size ∧ PtIs IsNfe w x fun j => w.cell? ⟨b, off + i * 7 + j, none⟩ := by
  rcases h with ⟨rfl, _⟩ | ⟨b, off, c, hv, hb, h⟩
  · simp at hi
  · cases hv
    exact ⟨b, off, rfl, hb, h i x hi⟩
theorem IsNf.e {w : World} {v : Value} {a : NF} (h : IsNf w v a) : IsNfe w v a := by
  obtain ⟨v0, v1, v2, v3, e, h0, h1, h2, h3⟩ := h
  exact ⟨v0, v1, v2, v3, e, .inl h0, .inl h1.e, .inl h2, .inl h3⟩
theorem IsNfe.form4 {w : World} {v0 v1 v2 v3 e : Value} {a : NF} (h : IsNfe w (.agg #[v0, v1, v2, v3, e]) a) : ∃ a0 c0 a1 c1 a2 c2 a3 c3, v0 = .slice a0 a.sets.length c0 ∧ v1 = .slice a1 a.fol.length c1 ∧ v2 = .slice a2 a.fst.length c2 ∧ v3 = .slice a3 a.lst.length c3 := by
  obtain ⟨u0, u1, u2, u3, e, h0, h1, h2, h3⟩ := h
  obtain ⟨a0, c0, rfl⟩ := h0.form
  obtain ⟨a1, c1, rfl⟩ := h1.form
  obtain ⟨a2, c2, rfl⟩ := h2.form
  obtain ⟨a3, c3, rfl⟩ := h3.form
  cases e
  exact ⟨_, _, _, _, _, _, _, _, rfl, rfl, rfl, rfl⟩
theorem OwnNf.below {base : Nat} {w w' : World} {v : Value} {a : NF} (h : OwnNf base w v a) (hk : Below w.heap.size w w') : OwnNf base w' v a := by
  obtain ⟨v0, v1, v2, v3, e, h0, h1, h2, h3⟩ := h
  exact ⟨v0, v1, v2, v3, e, ownsRow_below h0 hk, h1.below hk, ownsRow_below h2 hk, ownsRow_below h3 hk⟩
theorem OwnNf.base {base base' : Nat} {w : World} {v : Value} {a : NF} (h : OwnNf base w v a) (hb : base' ≤ base) : OwnNf base' w v a := by
  obtain ⟨v0, v1, v2, v3, e, h0, h1, h2, h3⟩ := h
  exact ⟨v0, v1, v2, v3, e, ownsRow_base h0 hb, h1.base hb, ownsRow_base h2 hb, ownsRow_base h3 hb⟩
theorem OwnRn.below {base : Nat} {w w' : World} {v : Value} {a : NF} (h : OwnRn base w v a) (hk : Below w.heap.size w w') : OwnRn base w' v a := by
  obtain ⟨v0, v1, v2, v3, e, h0, h1, h2, h3⟩ := h
  exact ⟨v0, v1, v2, v3, e, ownsRow_below h0 hk, h1.below hk, ownsRow_below h2 hk, ownsRow_below h3 hk⟩
theorem OwnRn.base {base base' : Nat} {w : World} {v : Value} {a : NF} (h : OwnRn base w v a) (hb : base' ≤ base) : OwnRn base' w v a := by
  obtain ⟨v0, v1, v2, v3, e, h0, h1, h2, h3⟩ := h
  exact ⟨v0, v1, v2, v3, e, ownsRow_base h0 hb, h1.base hb, ownsRow_base h2 hb, ownsRow_base h3 hb⟩
/-- Rows of other types stay where one row is written or grows. -/
theorem row_far {w w' : World} {b1 b2 s1 s2 n1 n2 : Nat} {e1 e2 : TypeId} {v1 v2 : Value} {x1 x2 : List Value} (he : e1 ≠ e2) (h1 : w.ownsRow b1 e1 s1 v1 n1 x1) (h2 : w.ownsRow b2 e2 s2 v2 n2 x2) (hk : Keeps (fun x => x < w.heap.size ∧ v2.ownBlock ≠ some x) w w') : w'.ownsRow b1 e1 s1 v1 n1 x1 :=
  ownsRow_keeps h1 hk fun x hx => ⟨(h1.lt x hx).2, fun e => by
    rcases ownBlock_ne he h1 h2 with h5 | h5
    · rw [h5] at hx; cases hx
    · exact h5 (hx.trans e.symm)⟩
theorem OwnLL.far {w w' : World} {b1 b2 s2 n2 : Nat} {e2 : TypeId} {v1 v2 : Value} {x2 : List Value} {ll : List (List Int)} (h1 : OwnLL b1 w v1 ll) (h2 : w.ownsRow b2 e2 s2 v2 n2 x2) (ha : 33 ≠ e2) (hb : 3 ≠ e2) (hk : Keeps (fun x => x < w.heap.size ∧ v2.ownBlock ≠ some x) w w') : OwnLL b1 w' v1 ll := by
  obtain ⟨us, e, o1, o2⟩ := h1
  exact ⟨us, e, row_far ha o1 h2 hk, fun i u l hu hl => row_far hb (o2 i u l hu hl) h2 hk⟩
theorem OwnNf.far {w w' : World} {b1 b2 s2 n2 : Nat} {e2 : TypeId} {v1 v2 : Value} {x2 : List Value} {a : NF} (h1 : OwnNf b1 w v1 a) (h2 : w.ownsRow b2 e2 s2 v2 n2 x2) (h0 : 65 ≠ e2) (ha : 33 ≠ e2) (hb : 3 ≠ e2) (hk : Keeps (fun x => x < w.heap.size ∧ v2.ownBlock ≠ some x) w w') : OwnNf b1 w' v1 a := by
  obtain ⟨v0, v1, v2, v3, e, o0, o1, o2, o3⟩ := h1
  exact ⟨v0, v1, v2, v3, e, row_far h0 o0 h2 hk, o1.far h2 ha hb hk, row_far hb o2 h2 hk, row_far hb o3 h2 hk⟩
theorem OwnRn.far {w w' : World} {b1 b2 s2 n2 : Nat} {e2 : TypeId} {v1 v2 : Value} {x2 : List Value} {a : NF} (h1 : OwnRn b1 w v1 a) (h2 : w.ownsRow b2 e2 s2 v2 n2 x2) (h0 : 91 ≠ e2) (ha : 33 ≠ e2) (hb : 3 ≠ e2) (hk : Keeps (fun x => x < w.heap.size ∧ v2.ownBlock ≠ some x) w w') : OwnRn b1 w' v1 a := by
  obtain ⟨v0, v1, v2, v3, e, o0, o1, o2, o3⟩ := h1
  exact ⟨v0, v1, v2, v3, e, row_far h0 o0 h2 hk, o1.far h2 ha hb hk, row_far hb o2 h2 hk, row_far hb o3 h2 hk⟩
/-- No list is longer than the reach allows. -/
structure BigN (a : NF) : Prop where
  sets : a.sets.length ≤ 17592186044416
  fol : a.fol.length ≤ 17592186044416
  fst : a.fst.length ≤ 17592186044416
  lst : a.lst.length ≤ 17592186044416
  row : ∀ l ∈ a.fol, l.length ≤ 17592186044416
end Go.Proofs.YthdnlndpmmiboaaGreatDoor
namespace Go.Proofs.YthdnlndpmmiboaaGreatDoor
open Go Go.RowKit Go.Shelf Go.Maps

def smallL8 (d : DF) : List (List Int) := d.nx.take 41 ++ d.mr.take 41
def smallB8 (d : DF) : Bool := decide (d.cl.length ≤ 40) && decide (d.nx.length ≤ 40) && decide (d.mr.length ≤ 40) && decide (sumLen (smallL8 d) ≤ 1000)
theorem small8_sm {d : DF} (h : smallB8 d = true) : Sm d := by
  unfold smallB8 at h
  simp only [Bool.and_eq_true, decide_eq_true_eq] at h
  obtain ⟨⟨⟨h1, h2⟩, h3⟩, h4⟩ := h
  have e : smallL8 d = d.nx ++ d.mr := by unfold smallL8; rw [List.take_of_length_le (by omega), List.take_of_length_le (by omega)]
  rw [e] at h4
  refine ⟨by omega, by omega, by omega, fun l hl => ?_, fun l hl => ?_⟩
  · have := sumLen_le (List.mem_append_left d.mr hl); omega
  · have := sumLen_le (List.mem_append_right d.nx hl); omega
set_option maxRecDepth 100000 in
set_option maxHeartbeats 4000000 in
theorem small18_any (v : Value) (d : DF) (big : Big d) (w : World) (h : IsDfe w v d) :
    Calls Tryz.prog 8 #[v] w fun e w' => e = .returned (.bool (smallB8 d)) ∧ Below w.heap.size w w' := by
  obtain ⟨iL, hiL, hzL0, hzL1, hzL2⟩ := info_parts Tryz.infoL
  obtain ⟨v0, v1, v2, rfl, h0, h1, h2⟩ := h
  obtain ⟨a0, c0, rfl⟩ := h0.1.form
  obtain ⟨a1, c1, rfl⟩ := h1.form
  obtain ⟨a2, c2, rfl⟩ := h2.form
  obtain ⟨k1, hk1⟩ : ∃ k, k = min d.nx.length 41 := ⟨_, rfl⟩
  obtain ⟨k2, hk2⟩ : ∃ k, k = min d.mr.length 41 := ⟨_, rfl⟩
  obtain ⟨us, u1, u2, u3, u4⟩ := h1.take (k := k1) (by omega)
  obtain ⟨ms, m1, m2, m3, m4⟩ := h2.take (k := k2) (by omega)
  obtain ⟨S, hS⟩ : ∃ S, S = sumLen (smallL8 d) := ⟨_, rfl⟩
  have hsl : smallL8 d = d.nx.take k1 ++ d.mr.take k2 := by
    unfold smallL8
    congr 1
    · rw [hk1]
      by_cases h : d.nx.length ≤ 41
      · rw [List.take_of_length_le h, Nat.min_eq_left h, List.take_length]
      · rw [Nat.min_eq_right (by omega)]
    · rw [hk2]
      by_cases h : d.mr.length ≤ 41
      · rw [List.take_of_length_le h, Nat.min_eq_left h, List.take_length]
      · rw [Nat.min_eq_right (by omega)]
  have hrows : ∀ (i : Nat) (l : List Int), (smallL8 d)[i]? = some l → ∃ (ad : Option Addr) (cp : Nat), (us ++ ms)[i]? = some (.slice ad l.length cp) := fun i l hl => by
    rw [hsl] at hl
    have hl1 : (d.nx.take k1).length = k1 := by rw [List.length_take]; omega
    by_cases hi : i < k1
    · rw [List.getElem?_append_left (by omega)] at hl
      rw [List.getElem?_append_left (by omega)]
      exact u4 i l hl
    · rw [List.getElem?_append_right (by omega), hl1] at hl
      rw [List.getElem?_append_right (by omega), u1]
      exact m4 _ l hl
  have hlen : (smallL8 d).length = k1 + k2 := by rw [hsl, List.length_append, List.length_take, List.length_take]; omega
  have hbig : ∀ l ∈ smallL8 d, l.length ≤ 17592186044416 := fun l hl => by
    rcases List.mem_append.1 hl with hl | hl
    · exact big.nxs l (List.mem_of_mem_take hl)
    · exact big.mks l (List.mem_of_mem_take hl)
  obtain ⟨n0, hn0⟩ : ∃ n, n = d.cl.length := ⟨_, rfl⟩
  obtain ⟨n1, hn1⟩ : ∃ n, n = d.nx.length := ⟨_, rfl⟩
  obtain ⟨n2, hn2⟩ : ∃ n, n = d.mr.length := ⟨_, rfl⟩
  have hB : smallB8 d = (decide (n0 ≤ 40) && decide (n1 ≤ 40) && decide (n2 ≤ 40) && decide (S ≤ 1000)) := by unfold smallB8; rw [← hn0, ← hn1, ← hn2, ← hS]
  have hS2 : S ≤ 82 * 17592186044416 := by
    rw [hS]
    refine Nat.le_trans (sumLen_big hbig) ?_
    rw [hlen]
    exact Nat.mul_le_mul_right _ (by omega)
  have hmin1 : min (n1 : Int) 41 = k1 := by omega
  have hmin2 : min (n2 : Int) 41 = k2 := by omega
  have b1 := big.cl
  have b2 := big.nx
  have b3 := big.mr
  rw [← hn0] at b1 ⊢
  rw [← hn1] at b2 h1 ⊢
  rw [← hn2] at b3 h2 ⊢
  rw [hB]
  have l1 : k1 ≤ 41 := by omega
  have l2 : k2 ≤ 41 := by omega
  have l3 : k1 ≤ n1 := by omega
  have l4 : k2 ≤ n2 := by omega
  have U2 := Lib.hid u2
  have U3 := Lib.hid u3
  have M2 := Lib.hid m2
  have M3 := Lib.hid m3
  have HROWS := Lib.hid hrows
  have HLEN := Lib.hid hlen
  have HBIG := Lib.hid hbig
  have HS := Lib.hid hS
  have HU1 := Lib.hid u1
  have HM1 := Lib.hid m1
  have hc1 : n1 ≤ c1 := by
    obtain ⟨_, h6, h5, _⟩ := h1
    rcases h5 with ⟨e, _⟩ | ⟨b, off, cap, e, _, hc, _⟩
    · cases e; exact Nat.le_refl _
    · cases e; exact hc
  have hc2 : n2 ≤ c2 := by
    obtain ⟨_, h6, h5, _⟩ := h2
    rcases h5 with ⟨e, _⟩ | ⟨b, off, cap, e, _, hc, _⟩
    · cases e; exact Nat.le_refl _
    · cases e; exact hc
  have hkc1 : (k1 : Int) ≤ c1 := by omega
  have hkc2 : (k2 : Int) ≤ c2 := by omega
  clear h0 h1 h2 u1 u2 u3 u4 m1 m2 m3 m4 hS hsl hrows hlen hbig hn0 hn1 hn2 hB hk1 hk2 big
  go_enter Tryz.func8, Tryz.ntmps8
  go_wp2
  refine wp_named ?_
  intro V hV
  have B1 : Hid (Blk V w.heap.size #[.slice a0 n0 c0, .slice a1 n1 c1, .slice a2 n2 c2] 29) := by rw [hV]; exact Blk.new w _ _
  have X1 : Hid (Below w.heap.size w V) := by rw [hV]; exact ((Ext.refl w).alloc _).below
  clear hV
  have b0 := B1.out.cell 1
  have b2' := B1.out.cell 2
  replace b0 : V.cell? ⟨w.heap.size, 1, none⟩ = some (.slice a1 n1 c1) := b0
  replace b2' : V.cell? ⟨w.heap.size, 2, none⟩ = some (.slice a2 n2 c2) := b2'
  refine wp_region_regM (MoveK V.heap.size (twoPhi V.heap.size 33 1 k1 k2 us ms)) (MoveK.below (twoPhi_st _ _ _ _ _ _ _) (Ext.refl V).drew.below) (fun _ _ _ h k => h.trans k) (by kernel_rfl) 18 [0, 1, 0, 4, 12, 28, 63, 127, 0, 256, 0, 1024, 3072, 7168, 16128, 32767, 65535, 0] (fun i => i == 7 || i == 15) (by kernel_rfl) (fun i => if i = 7 then Eff.fact _ _ 0 (fun v => ∃ a c, v = .slice a k1 c) (.slice none k1 0) ⟨none, 0, rfl⟩ else if i = 15 then Eff.fact _ _ 1 (fun v => ∃ a c, v = .slice a (k1 + k2) c) (.slice none (k1 + k2) 0) ⟨none, 0, rfl⟩ else Eff.any _) ?_
  intro C hC hne
  have HC := Lib.hid hC
  have hlV := B1.out.lt
  have f1 : ∀ W : { W // C W }, W.1.cell? ⟨w.heap.size, 1, none⟩ = some (.slice a1 n1 c1) := fun W => (((hC W.1).1 W.2).1.cell (p := ⟨w.heap.size, 1, none⟩) ⟨hlV, hlV⟩).trans b0
  have f2 : ∀ W : { W // C W }, W.1.cell? ⟨w.heap.size, 2, none⟩ = some (.slice a2 n2 c2) := fun W => (((hC W.1).1 W.2).1.cell (p := ⟨w.heap.size, 2, none⟩) ⟨hlV, hlV⟩).trans b2'
  clear hC b0 b2'
  have dk1 : (k1 : Int) ≤ n1 := by omega
  have dk2 : (k2 : Int) ≤ n2 := by omega
  have U2V : Hid (∀ W, MoveK V.heap.size (twoPhi V.heap.size 33 1 k1 k2 us ms) V W → IsSl (fun u : Value => u) W (.slice a1 k1 c1) us ∧ IsSl (fun u : Value => u) W (.slice a2 k2 c2) ms) := Lib.hid fun W hM => by
    have hb : Below w.heap.size w W := X1.out.trans (hM.1.mono fun x hx => by have : x < w.heap.size := hx; have := X1.out.size; exact ⟨by omega, by omega⟩ : Keeps (· < w.heap.size) V W).below
    exact ⟨U2.out.below hb, M2.out.below hb⟩
  repeat (refine regStep (fun K hK => ?_); first | (refine regN rfl ?_; try go_simp; refine hK _ _ ?_; clear hK K) | (refine regF rfl rfl ?_; unfold floatAt; go_simp; refine hK _ _ ?_; clear hK K))
  refine regStep (fun K hK => ?_)
  refine regE rfl rfl (Eff.fact _ _ 0 (fun v => ∃ a c, v = .slice a k1 c) (.slice none k1 0) ⟨none, 0, rfl⟩) rfl (fun W hW hN => ?_) (fun v hv => ?_)
  · have hM := (HC.out W).1 hW
    have hsW := hM.1.size
    have HU := Lib.hid (U2V.out W hM).1
    clear hW hK K hN hM
    go_simp
    refine effT_call ((cloneLL_any _ us W HU.out (by rw [HU1.out]; omega) U3.out).mono ?_)
    rintro e w2 ⟨u, rfl, ho, hx⟩
    rw [HU1.out] at ho
    have ho2 : w2.ownsRow V.heap.size 33 1 u k1 us := ownsRow_base ho hsW
    exact ⟨_, rfl, MoveK.below (twoPhi_st _ _ _ _ _ _ _) hx, ownsRow_form ho2, ho2⟩
  obtain ⟨a7, c7, rfl⟩ := hv
  go_simp
  refine hK _ _ ?_
  clear hK K
  repeat (refine regStep (fun K hK => ?_); first | (refine regN rfl ?_; try go_simp; refine hK _ _ ?_; clear hK K) | (refine regF rfl rfl ?_; unfold floatAt; go_simp; refine hK _ _ ?_; clear hK K))
  refine regStep (fun K hK => ?_)
  refine regE rfl rfl (Eff.fact _ _ 1 (fun v => ∃ a c, v = .slice a (k1 + k2) c) (.slice none (k1 + k2) 0) ⟨none, 0, rfl⟩) rfl (fun W hW hN => ?_) (fun v hv => ?_)
  · have hM := (HC.out W).1 hW
    have hsW := hM.1.size
    have h0 : W.ownsRow V.heap.size 33 1 (.slice a7 k1 c7) k1 us := hN.at 0 rfl (by kernel_rfl)
    have hm2 := (U2V.out W hM).2
    have hsrc := hm2.src
    rw [HM1.out] at hsrc
    clear hW hK K hN hm2
    refine effT_appendZ (.tmp 13) (.tmp 20) 27 rfl V.heap.size 33 iL (.slice none 0 0) 1 24 Tryz.underlying27 hiL hzL0 hzL1 hzL2 rfl (by decide) (.slice a7 k1 c7) k1 us rfl h0 (.slice a2 k2 c2) k2 ms rfl hsrc (by rw [HM1.out, Nat.mul_one]) M3.out (by unfold maxLen; omega) (by omega) hsW ?_
    intro v' w' ho hg halt
    rcases halt with hb | ⟨g, cap, y1, y2, y3⟩
    · exact ⟨MoveK.below (twoPhi_st _ _ _ _ _ _ _) hb, ownsRow_form ho, ho⟩
    · subst y2
      rw [y1] at h0 hg
      exact ⟨⟨Keeps.of_grown hg fun x hx => ⟨hx.2, fun e => by cases e; have := (h0.lt _ rfl).1; have := hx.1; omega⟩, twoPhi_place (by decide) h0 ho hg⟩, ⟨_, _, rfl⟩, ho⟩
  obtain ⟨a15, c15, rfl⟩ := hv
  go_simp
  refine hK _ _ ?_
  clear hK K
  repeat (refine regStep (fun K hK => ?_); first | (refine regN rfl ?_; try go_simp; refine hK _ _ ?_; clear hK K) | (refine regF rfl rfl ?_; unfold floatAt; go_simp; refine hK _ _ ?_; clear hK K))
  refine regNil (fun W hW hH => ?_)
  have hM := (HC.out W).1 hW
  have RO : Hid (W.ownsRow V.heap.size 33 1 (.slice a15 (k1 + k2) c15) (k1 + k2) (us ++ ms)) := Lib.hid (hH _ (List.mem_of_getElem? (show _ = some _ from rfl : _[0]? = some _)))
  have XW : Hid (Below w.heap.size w W) := Lib.hid (X1.out.trans (hM.1.mono fun x hx => by have : x < w.heap.size := hx; have := X1.out.size; exact ⟨by omega, by omega⟩ : Keeps (· < w.heap.size) V W).below)
  have BW : Hid (Blk W w.heap.size #[.slice a0 n0 c0, .slice a1 n1 c1, .slice a2 n2 c2] 29) := Lib.hid (B1.out.keeps hM.1 ⟨hlV, hlV⟩)
  clear hM hW hH HC f1 f2 U2V X1 B1 U2 U3 M2 M3 hne
  obtain ⟨m, hm⟩ : ∃ m, m = k1 + k2 := ⟨_, rfl⟩
  have hm42 : m ≤ 82 := by omega
  rw [← hm] at RO HLEN ⊢
  go_wp2
  go_loopw [3, 23] (fun nv iv wr => ∃ i : Nat, i ≤ m ∧ iv = .int .i64 i ∧ nv = .int .i64 (sumLen ((smallL8 d).take i)) ∧ wr = W) (fun _ iv _ => m - (intOf iv).toNat)
  case atStart => exact ⟨0, Nat.zero_le _, rfl, rfl, rfl⟩
  case round =>
    obtain ⟨i, hi, rfl, rfl, rfl⟩ := hrel
    have hsi : sumLen ((smallL8 d).take i) ≤ 82 * 17592186044416 := Nat.le_trans (sumLen_big fun l hl => HBIG.out l (List.mem_of_mem_take hl)) (Nat.mul_le_mul_right _ (by rw [List.length_take]; omega))
    by_cases hlt : i < m
    · obtain ⟨l, hl⟩ : ∃ l, (smallL8 d)[i]? = some l := ⟨_, List.getElem?_eq_getElem (by rw [HLEN.out]; exact hlt)⟩
      obtain ⟨ad, cp, hr⟩ := HROWS.out i l hl
      obtain ⟨g, u, rfl, _, _, hu, cu, _⟩ := rowCell RO.out hlt
      rw [hr] at hu
      cases hu
      have hll := HBIG.out l (List.mem_of_getElem? hl)
      have hs : sumLen ((smallL8 d).take (i + 1)) = sumLen ((smallL8 d).take i) + l.length := by
        rw [List.take_add_one, hl, sumLen_append]
        simp [sumLen]
      have hii : (i : Int) < m := by omega
      obtain ⟨sl, hsl⟩ : ∃ s, s = sumLen ((smallL8 d).take i) := ⟨_, rfl⟩
      rw [← hsl] at hs hsi ⊢
      obtain ⟨ln, hln⟩ : ∃ n, n = l.length := ⟨_, rfl⟩
      rw [← hln] at hs cu hll
      have HSS := Lib.hid hs
      clear hl hr hs hsl hln
      go_wp2
      go_roundw
      case rel => exact ⟨i + 1, by omega, by go_num, by rw [HSS.out]; go_num, trivial⟩
      case measure => simp [intOf]; omega
    · obtain rfl : i = m := by omega
      have hft : (smallL8 d).take i = smallL8 d := by rw [← HLEN.out]; exact List.take_length
      rw [hft, ← HS.out]
      have HBB := BW
      obtain ⟨⟨s0, s1, s2⟩, _⟩ := BW.out.three
      clear hft HROWS HLEN HBIG HS RO
      by_cases h0 : n0 ≤ 40
      · have q0 : decide ((n0 : Int) ≤ 40) = true := decide_eq_true (by omega)
        have p0 : (n0 : Int) ≤ 40 := by omega
        by_cases h1 : n1 ≤ 40
        · have q1 : decide ((n1 : Int) ≤ 40) = true := decide_eq_true (by omega)
          have p1 : (n1 : Int) ≤ 40 := by omega
          by_cases h2 : n2 ≤ 40
          · have q2 : decide ((n2 : Int) ≤ 40) = true := decide_eq_true (by omega)
            have p2 : (n2 : Int) ≤ 40 := by omega
            by_cases h3 : S ≤ 1000
            · have q3 : decide ((S : Int) ≤ 1000) = true := decide_eq_true (by omega)
              have p3 : (S : Int) ≤ 1000 := by omega
              go_wp2
              exact bodyPost_ret (v := .bool true) (by simp [results, Tryz.results8, go_sem]) rfl ⟨by simp; exact ⟨⟨⟨h0, h1⟩, h2⟩, h3⟩, XW.out⟩
            · have q3 : decide ((S : Int) ≤ 1000) = false := decide_eq_false (by omega)
              have p3 : ¬ (S : Int) ≤ 1000 := by omega
              go_wp2
              exact bodyPost_ret (v := .bool false) (by simp [results, Tryz.results8, go_sem]) rfl ⟨by simp, XW.out⟩
          · have q2 : decide ((n2 : Int) ≤ 40) = false := decide_eq_false (by omega)
            have p2 : ¬ (n2 : Int) ≤ 40 := by omega
            go_wp2
            exact bodyPost_ret (v := .bool false) (by simp [results, Tryz.results8, go_sem]) rfl ⟨by simp, XW.out⟩
        · have q1 : decide ((n1 : Int) ≤ 40) = false := decide_eq_false (by omega)
          have p1 : ¬ (n1 : Int) ≤ 40 := by omega
          go_wp2
          exact bodyPost_ret (v := .bool false) (by simp [results, Tryz.results8, go_sem]) rfl ⟨by simp, XW.out⟩
      · have q0 : decide ((n0 : Int) ≤ 40) = false := decide_eq_false (by omega)
        have p0 : ¬ (n0 : Int) ≤ 40 := by omega
        go_wp2
        exact bodyPost_ret (v := .bool false) (by simp [results, Tryz.results8, go_sem]) rfl ⟨by simp, XW.out⟩
end Go.Proofs.YthdnlndpmmiboaaGreatDoor
