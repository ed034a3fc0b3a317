/-
  product.Of.
  product.Of, where it makes an automaton or runs out of fuel.
  Plain facts on automata: the way that First goes (breadth first), the way that the reference goes (the distances), and that both come to the same string.
  Plain facts on automata: the string that First finds is the reference's first one; counts.
  product.Not.
  The law's small.
  Opening an automaton that comes by value, and what the bound says of its lists.
-/
import Derived.Test.YthdnlndpmmiboaaGreatDoorR18
import Derived.Test.YthdnlndpmmiboaaGreatDoorR12
import Derived.Test.YthdnlndpmmiboaaGreatDoorR11
import Derived.Test.YthdnlndpmmiboaaGreatDoorR15
import Derived.Test.YthdnlndpmmiboaaGreatDoorRows
import Derived.Test.YthdnlndpmmiboaaGreatDoorR06
import Derived.Deep.Strs
import Derived.OpenShut
import Derived.JoinedCond
namespace Go.Proofs.YthdnlndpmmiboaaGreatDoor
open Go Go.RowKit Go.Shelf Go.Maps
attribute [local go_sem] encS

theorem post_named2 {P : Program} {fn : Func} {R : Ending → World → Prop} {x : Exit} {a : Act} {w : World} (h : ∀ W, W = w → bodyPost P fn R x a W) : bodyPost P fn R x a w := h w rfl
section
variable {α : Type} [DecidableEq α]
theorem addQ_new {fuel : Nat} {st : List α × List Nat} {q : α} (hq : q ∉ st.1) (hf : st.1.length ≠ fuel) : addQ fuel st q = some (st.1 ++ [q], st.2 ++ [st.1.length]) := by
  unfold addQ
  rw [if_pos (List.idxOf_eq_length hq), if_neg hf]
theorem addQ_full {fuel : Nat} {st : List α × List Nat} {q : α} (hq : q ∉ st.1) (hf : st.1.length = fuel) : addQ fuel st q = none := by
  unfold addQ
  rw [if_pos (List.idxOf_eq_length hq), if_pos hf]
theorem addQ_old {fuel : Nat} {st : List α × List Nat} {q : α} (hq : q ∈ st.1) : addQ fuel st q = some (st.1, st.2 ++ [st.1.idxOf q]) := by
  unfold addQ
  rw [if_neg (Nat.ne_of_lt (List.idxOf_lt_length_of_mem hq))]
end
end Go.Proofs.YthdnlndpmmiboaaGreatDoor
namespace Go.Proofs.YthdnlndpmmiboaaGreatDoor
open Go Go.RowKit Go.Shelf Go.Maps
attribute [local go_sem] encS

/-- A row of heads onto which one known head is laid. -/
def nxApp (lo : Nat) (v : Value) (n : Nat) (us : List Value) (x : Value) : Ap3.App := ⟨33, 1, v, n, us, 1, lo, fun ns _ => ns = [x], fun _ _ _ _ h => h⟩
/-- .. one head of a new row with known cells. -/
def mkApp (lo : Nat) (v : Value) (n : Nat) (us : List Value) (ml : Nat) (mx : List Value) : Ap3.App := ⟨33, 1, v, n, us, 1, lo, fun ns W => ∃ u, ns = [u] ∧ u.oneCell' = true ∧ W.ownsRow lo 3 1 u ml mx, fun _ _ _ hk ⟨u, h1, h2, h3⟩ => ⟨u, h1, h2, ownsRow_keeps h3 hk fun x hx => h3.lt x hx⟩⟩
/-- One more row behind the others, in a later world. -/
theorem OwnLL.more {base : Nat} {W : World} {v : Value} {ll : List (List Int)} {l : List Int} {us : List Value} {u : Value} {n : Nat} (h1 : us.length = ll.length) (hn : us.length = n) (ho : W.ownsRow base 33 1 v (n + 1) (us ++ [u]))
    (h3 : ∀ (i : Nat) (u : Value) (l : List Int), us[i]? = some u → ll[i]? = some l → W.ownsRow base 3 1 u l.length (l.map encZ)) (hu : W.ownsRow base 3 1 u l.length (l.map encZ)) : OwnLL base W v (ll ++ [l]) := by
  subst hn
  refine ⟨us ++ [u], by simp [h1], by simpa using ho, fun i x y hx hy => ?_⟩
  by_cases hi : i < us.length
  · rw [List.getElem?_append_left hi] at hx
    rw [List.getElem?_append_left (by omega)] at hy
    exact h3 i x y hx hy
  · have hil := (List.getElem?_eq_some_iff.1 hx).1
    simp at hil
    obtain rfl : i = us.length := by omega
    simp at hx
    subst hx
    rw [h1] at hy
    simp at hy
    subst hy
    exact hu
end Go.Proofs.YthdnlndpmmiboaaGreatDoor
namespace Go.Proofs.YthdnlndpmmiboaaGreatDoor
open Go Go.RowKit

/-- There is a way of so many steps to a state with marks. -/
def Reach (d : DF) : Nat → Nat → Prop
  | 0, s => acc d s = true
  | m + 1, s => ∃ k, k < d.cl.length ∧ Reach d m (nxt d s k)

/-! The reference: distances. -/
def relax (d : DF) (far : List Int) (s k : Nat) : List Int := if far.getD (nxt d s k) 0 + 1 < far.getD s 0 then far.set s (far.getD (nxt d s k) 0 + 1) else far
def far0 (d : DF) : List Int := (List.range d.nx.length).map fun s => if acc d s then 0 else (d.nx.length : Int)
def relaxRow (d : DF) (far : List Int) (s : Nat) : Nat → List Int
  | 0 => far
  | k + 1 => relax d (relaxRow d far s k) s k
def relaxAll (d : DF) (far : List Int) : Nat → List Int
  | 0 => far
  | s + 1 => relaxRow d (relaxAll d far s) s d.cl.length
def farTo (d : DF) : Nat → List Int
  | 0 => far0 d
  | r + 1 => relaxAll d (farTo d r) d.nx.length

structure FarOk (d : DF) (far : List Int) : Prop where
  len : far.length = d.nx.length
  lo : ∀ s, s < d.nx.length → 0 ≤ far.getD s 0 ∧ far.getD s 0 ≤ d.nx.length
  sound : ∀ s, s < d.nx.length → far.getD s 0 < d.nx.length → Reach d (far.getD s 0).toNat s
theorem getD_set (l : List Int) (i j : Nat) (x : Int) (hj : i < l.length) : (l.set i x).getD j 0 = if j = i then x else l.getD j 0 := by
  rw [List.getD_eq_getElem?_getD, List.getElem?_set]
  by_cases e : j = i
  · subst e; rw [if_pos rfl, if_pos hj, if_pos rfl]; rfl
  · rw [if_neg (fun h => e h.symm), if_neg e, List.getD_eq_getElem?_getD]
/-- The distances. -/
def farOf (d : DF) : List Int := farTo d d.nx.length
def farAt (d : DF) (s : Nat) : Int := (farOf d).getD s 0
/-- The least byte that leads nearer. -/
def nearer (d : DF) (s c : Nat) : Bool := farAt d (nxt d s (cls d.cl c)) == farAt d s - 1
def stepB (d : DF) (s : Nat) : Nat := ((List.range 256).find? (nearer d s)).getD 0
/-! The program: breadth first. -/
structure Bst where
  todo : List Nat
  keys : List Nat
  fr : List Int
  by' : List Nat
structure BOk (d : DF) (x : Nat) (st : Bst) : Prop where
  keys : st.keys.length = st.todo.length
  fr : st.fr.length = d.nx.length
  by' : st.by'.length = d.nx.length
  head : st.todo[0]? = some 0
  root : st.fr.getD 0 0 = -1
  nodup : st.todo.Nodup
  lt : ∀ t ∈ st.todo, t < d.nx.length
  mem : ∀ t, t < d.nx.length → (st.fr.getD t 0 ≠ 0 ↔ t ∈ st.todo)
  par : ∀ j t, 0 < j → st.todo[j]? = some t → ∃ y s, st.keys[j]? = some y ∧ y < x ∧ y / d.cl.length < j ∧ st.todo[y / d.cl.length]? = some s ∧ nxt d s (y % d.cl.length) = t ∧ st.fr.getD t 0 = s + 1 ∧ st.by'.getD t 0 = lb d.cl (y % d.cl.length)
  mono : ∀ i j y z, 0 < i → i < j → st.keys[i]? = some y → st.keys[j]? = some z → y < z
  done : ∀ y s, y < x → st.todo[y / d.cl.length]? = some s → ∃ j : Nat, st.todo[j]? = some (nxt d s (y % d.cl.length)) ∧ (j = 0 ∨ ∃ z, st.keys[j]? = some z ∧ z ≤ y)
theorem getD_rep (n i : Nat) : (List.replicate n (0 : Int)).getD i 0 = 0 := by
  rw [List.getD_eq_getElem?_getD, List.getElem?_replicate]; split <;> rfl
end Go.Proofs.YthdnlndpmmiboaaGreatDoor
namespace Go.Proofs.YthdnlndpmmiboaaGreatDoor
open Go Go.RowKit

theorem nodup_lt : ∀ (n : Nat) (l : List Nat), l.Nodup → (∀ t ∈ l, t < n) → l.length ≤ n
  | 0, l, _, h => by
    cases l with
    | nil => simp
    | cons x r => have := h x (by simp); omega
  | n + 1, l, hd, h => by
    have h1 := nodup_lt n (l.erase n) (hd.erase n) (fun t ht => by
      have h2 := (hd.mem_erase_iff).1 ht
      have := h t h2.2
      have := h2.1
      omega)
    by_cases hm : n ∈ l
    · rw [List.length_erase_of_mem hm] at h1; omega
    · rw [List.erase_of_not_mem hm] at h1; omega
theorem BOk.len {d : DF} {x : Nat} {st : Bst} (h : BOk d x st) : st.todo.length ≤ d.nx.length := nodup_lt _ _ h.nodup h.lt

/-- The way back to the start. -/
structure Chain (d : DF) (st : Bst) (m i : Nat) (q : Nat → Nat) : Prop where
  zero : q 0 = 0
  last : q m = i
  step : ∀ l, l < m → q l < q (l + 1) ∧ ∃ y, st.keys[q (l + 1)]? = some y ∧ y / d.cl.length = q l
theorem Chain.mono {d : DF} {st : Bst} {m i : Nat} {q : Nat → Nat} (c : Chain d st m i q) : ∀ l, l ≤ m → l ≤ q l ∧ q l ≤ i := by
  have h1 : ∀ l, l ≤ m → l ≤ q l := by
    intro l
    induction l with
    | zero => intro _; omega
    | succ l ih => intro hl; have := (c.step l (by omega)).1; have := ih (by omega); omega
  have h2 : ∀ r l, l + r = m → q l ≤ i := by
    intro r
    induction r with
    | zero => intro l hl; rw [← c.last, show l = m by omega]; exact Nat.le_refl _
    | succ r ih => intro l hl; have := ih (l + 1) (by omega); have := (c.step l (by omega)).1; omega
  exact fun l hl => ⟨h1 l hl, h2 (m - l) l (by omega)⟩

section
variable {d : DF} (h : Rt d) {i : Nat} {st : Bst} (I : BOk d (i * d.cl.length) st) (hi : i < st.todo.length) (ha : ∀ (j t : Nat), j < i → st.todo[j]? = some t → acc d t = false) {m : Nat} {q : Nat → Nat} (c : Chain d st m i q)
include h I c hi
include ha
variable {s : Nat} (hs : st.todo[i]? = some s) (hacc : acc d s = true)
include hs hacc
end

end Go.Proofs.YthdnlndpmmiboaaGreatDoor
namespace Go.Proofs.YthdnlndpmmiboaaGreatDoor
open Go Go.RowKit Go.Shelf Go.Maps
attribute [local go_sem] encS

theorem rowCell {w : World} {base n cap : Nat} {e : TypeId} {ad : Option Addr} {xs : List Value} (h : w.ownsRow base e 1 (.slice ad n cap) n xs) {i : Nat} (hi : i < n) : ∃ g u, ad = some ⟨g, 0, none⟩ ∧ base ≤ g ∧ g < w.heap.size ∧ xs[i]? = some u ∧ w.cell? ⟨g, i, none⟩ = some u ∧ w.frozen? ⟨g, i, none⟩ = false := by
  have hl := h.1
  have hu : xs[i]? = some (xs[i]'(by omega)) := List.getElem?_eq_getElem (by omega)
  obtain ⟨a, c, e1⟩ := ownsRow_form h
  rcases h.2 with ⟨_, e2⟩ | ⟨g, c', cur, e2, _⟩
  · omega
  · injection e2 with e2 _ _
    subst e2
    have hlt := h.lt g rfl
    exact ⟨g, _, rfl, hlt.1, hlt.2, hu, by have := h.cells (g := g) rfl _ _ hu; rw [Addr.add_mid] at this; simpa using this, h.frozenAt _⟩
end Go.Proofs.YthdnlndpmmiboaaGreatDoor
namespace Go.Proofs.YthdnlndpmmiboaaGreatDoor
open Go Go.RowKit Go.Shelf Go.Maps
attribute [local go_sem] encS

/-- All lengths are of a size that a machine has. -/
structure Big (d : DF) : Prop where
  cl : d.cl.length ≤ 17592186044416
  nx : d.nx.length ≤ 17592186044416
  mr : d.mr.length ≤ 17592186044416
  nxs : ∀ l ∈ d.nx, l.length ≤ 17592186044416
  mks : ∀ l ∈ d.mr, l.length ≤ 17592186044416
def sumLen (ll : List (List Int)) : Nat := (ll.map List.length).sum
theorem sumLen_append (a b : List (List Int)) : sumLen (a ++ b) = sumLen a + sumLen b := by simp [sumLen]
theorem sumLen_le {ll : List (List Int)} {l : List Int} (h : l ∈ ll) : l.length ≤ sumLen ll := by
  unfold sumLen
  induction ll with
  | nil => cases h
  | cons x t ih =>
    simp only [List.map_cons, List.sum_cons]
    rcases List.mem_cons.1 h with rfl | h
    · omega
    · have := ih h; omega
theorem sumLen_big {ll : List (List Int)} {B : Nat} (h : ∀ l ∈ ll, l.length ≤ B) : sumLen ll ≤ ll.length * B := by
  unfold sumLen
  induction ll with
  | nil => simp
  | cons x t ih =>
    simp only [List.map_cons, List.sum_cons, List.length_cons, Nat.succ_mul]
    have := h x (List.mem_cons_self ..)
    have := ih fun l hl => h l (List.mem_cons_of_mem _ hl)
    omega
/-- The first rows of a list of rows. -/
theorem IsLLe.take {w : World} {a : Option Addr} {n c k : Nat} {ll : List (List Int)} (h : IsLLe w (.slice a n c) ll) (hk : k ≤ ll.length) : ∃ us : List Value, us.length = k ∧ IsSl (fun u : Value => u) w (.slice a k c) us ∧ (∀ u ∈ us, u.oneCell' = true) ∧ ∀ (i : Nat) (l : List Int), (ll.take k)[i]? = some l → ∃ (ad : Option Addr) (cp : Nat), us[i]? = some (.slice ad l.length cp) := by
  obtain ⟨us, h1, h2, h3⟩ := h
  have hone : ∀ (i : Nat) (u : Value) (l : List Int), us[i]? = some u → ll[i]? = some l → ∃ (ad : Option Addr) (cp : Nat), u = .slice ad l.length cp := fun i u l hu hl => by
    obtain ⟨ad, cp, e⟩ := (h3 i u l hu hl).form
    exact ⟨ad, cp, e⟩
  refine ⟨us.take k, by rw [List.length_take]; omega, ?_, fun u hu => ?_, fun i l hl => ?_⟩
  · rcases h2 with ⟨e, rfl⟩ | ⟨b, off, cap, e, hb, hc, h⟩
    · cases e
      have hk0 : k = 0 := by simp at h1; omega
      subst hk0
      exact .inl ⟨rfl, rfl⟩
    · cases e
      refine .inr ⟨b, off, c, by rw [List.length_take, Nat.min_eq_left (by omega)], hb, by rw [List.length_take]; omega, fun i x hx => ?_⟩
      rw [List.getElem?_take] at hx
      split at hx
      · exact h i x hx
      · cases hx
  · obtain ⟨i, hi⟩ := List.getElem?_of_mem (List.mem_of_mem_take hu)
    have hil := (List.getElem?_eq_some_iff.1 hi).1
    obtain ⟨ad, cp, e⟩ := hone i u _ hi (List.getElem?_eq_getElem (by omega))
    rw [e]; rfl
  · rw [List.getElem?_take] at hl
    split at hl
    · rename_i hik
      have hil := (List.getElem?_eq_some_iff.1 hl).1
      obtain ⟨ad, cp, e⟩ := hone i _ l (List.getElem?_eq_getElem (by omega)) hl
      refine ⟨ad, cp, ?_⟩
      rw [List.getElem?_take, if_pos hik, ← e]
      exact List.getElem?_eq_getElem (by omega)
    · cases hl
theorem IsSl.src {w : World} {v : Value} {us : List Value} (h : IsSl (fun u : Value => u) w v us) : SrcOf w v us.length us := by
  rcases h with ⟨rfl, rfl⟩ | ⟨b, off, cap, rfl, _, _, hc⟩
  · exact .inl ⟨rfl, rfl, rfl⟩
  · exact .inr ⟨⟨b, off, none⟩, cap, rfl, fun j u hj => by rw [Addr.add_mid]; exact hc j u hj⟩
end Go.Proofs.YthdnlndpmmiboaaGreatDoor
namespace Go.Proofs.YthdnlndpmmiboaaGreatDoor
open Go Go.ChangeShapes Go.WideShapes Go.ChangeAt Go.RowKit Go.Deep
section
variable {H : Type} {enc : TypeId × Value → H} {W : World}

theorem bulk_one (d : DataW H) : 1 ≤ Rows.uptoBulk d := by
  cases d with
  | lit l => cases l <;> simp [Rows.uptoBulk]
  | nil => simp [Rows.uptoBulk]
  | ptr d => simp [Rows.uptoBulk]
  | slice a b => simp [Rows.uptoBulk]
  | agg a => simp [Rows.uptoBulk]
  | iface t d => simp [Rows.uptoBulk]
  | map a => simp [Rows.uptoBulk]
  | held h => simp [Rows.uptoBulk]
theorem bulk_len (l : List (DataW H)) : l.length ≤ Rows.uptoBulkAll l := by
  induction l with
  | nil => simp [Rows.uptoBulkAll]
  | cons x r ih => have := bulk_one x; simp only [Rows.uptoBulkAll, List.length_cons]; omega
/-- A slice's length is within the bulk. -/
theorem slice_bulk {t e : TypeId} {fuel : Nat} {a : Option Addr} {n c : Nat} {x : DataW H × List MemPlace} (ht : Tryz.prog.underlying t = some (.slice e)) (h : DataW.trod enc Tryz.prog W 0 (fun _ => true) true fuel t [.slice a n c] = some x) : n ≤ Rows.uptoBulk x.1 := by
  rcases open_slice ht h with ⟨hcs, _⟩ | ⟨a', len, cap, m, k, D, Pl, hcs, _, _, _, _, rfl, _⟩
  · have : Value.slice a n c = .slice none 0 0 := by simpa using hcs
    cases this
    omega
  · have : Value.slice a n c = .slice (some a') len cap := by simpa using hcs
    cases this
    have := bulk_len ((List.range n).map D)
    simp only [Rows.uptoBulk, List.length_map, List.length_range] at this ⊢
    omega
set_option maxRecDepth 100000 in
theorem inner_ints {fuel : Nat} {v : Value} {y : DataW H × List MemPlace} (h : DataW.trod enc Tryz.prog W 0 (fun _ => true) true fuel 33 [v] = some y) : ∃ l : List Int, IsSlE encZ W v l ∧ l.length ≤ Rows.uptoBulk y.1 := by
  have h0 := h
  rcases open_ints Tryz.underlying33 Tryz.underlying3 (by kernel_rfl) h with ⟨hcs, _⟩ | ⟨a, len, cap, zs, hcs, _, hl, hm, hzs, _, hi, hwf⟩
  · obtain rfl : v = .slice none 0 0 := by simpa using hcs
    exact ⟨[], .inl (.inl ⟨rfl, rfl⟩), by simp⟩
  · obtain rfl : v = .slice (some a) len cap := by simpa using hcs
    rw [if_pos rfl] at hzs
    have hb := slice_bulk Tryz.underlying33 h0
    have hlen : (zs.take len).length = len := by rw [List.length_take]; omega
    rcases Nat.eq_zero_or_pos cap with h1 | h1
    · obtain rfl : len = 0 := by omega
      subst h1
      exact ⟨[], .inr ⟨rfl, a, rfl⟩, by simp⟩
    · obtain ⟨b, off, rfl, hc⟩ := ints_at hi (by omega)
      have hbl : b < W.heap.size := by
        have := hc 0 (by omega)
        unfold World.cell? at this
        cases hh : W.heap[b]? with
        | none => rw [hh] at this; cases this
        | some o => exact (Array.getElem?_eq_some_iff.1 hh).1
      refine ⟨zs.take len, .inl (.inr ⟨b, off, cap, by rw [hlen], hbl, by rw [hlen]; exact hl, fun i x hx => ?_⟩), by rw [hlen]; exact hb⟩
      rw [List.getElem?_take] at hx
      split at hx
      · have hiz : i < zs.length := (List.getElem?_eq_some_iff.1 hx).1
        have := hc i hiz
        rw [List.getD_eq_getElem?_getD, hx] at this
        exact this
      · cases hx
/- The fields of an automaton. -/
set_option maxRecDepth 100000 in
theorem dfa_okParts {r : Go.Reach} {b0 : Nat} {v : Value} (hok : Value.okWide Tryz.prog W r b0 29 v) : ∃ v0 v1 v2, v = .agg #[v0, v1, v2] ∧ Value.okWide Tryz.prog W r b0 26 v0 ∧ Value.okWide Tryz.prog W r b0 27 v1 ∧ Value.okWide Tryz.prog W r b0 27 v2 := by
  simp only [Value.okWide, Tryz.underlying29] at hok
  obtain ⟨cs, rfl, hsz, ts, hts, _, hrow⟩ := hok
  have e : Tryz.prog.cellTypes Tryz.prog.depth 29 = some [26, 27, 27] := by kernel_rfl
  rw [e] at hts
  cases hts
  have hc : Tryz.prog.cellsOf 29 = 3 := by kernel_rfl
  rw [hc] at hsz
  obtain ⟨l⟩ := cs
  match l, hsz with
  | [v0, v1, v2], _ =>
    refine ⟨v0, v1, v2, rfl, ?_, ?_, ?_⟩
    · obtain ⟨u, hu, h⟩ := hrow 0 v0 rfl
      cases hu
      simp only [Value.okWide, Tryz.underlying26]; exact h
    · obtain ⟨u, hu, h⟩ := hrow 1 v1 rfl
      cases hu
      simp only [Value.okWide, Tryz.underlying27]; exact h
    · obtain ⟨u, hu, h⟩ := hrow 2 v2 rfl
      cases hu
      simp only [Value.okWide, Tryz.underlying27]; exact h
end
end Go.Proofs.YthdnlndpmmiboaaGreatDoor
