/-
  dfa.First and dfa.Marks of automata that are not right.
  The states that are reached, in the order in which they are met: plain words.
  The trimmed automaton: plain words.
  dfa.Reached.
-/
import Derived.Test.YthdnlndpmmiboaaGreatDoorR32
import Derived.Test.YthdnlndpmmiboaaGreatDoorR19
import Derived.Test.YthdnlndpmmiboaaGreatDoorR20
import Derived.Deep.CutRange
namespace Go.Proofs.YthdnlndpmmiboaaGreatDoor
open Go Go.RowKit Go.Shelf Go.Maps
attribute [local go_sem] encS

set_option maxRecDepth 100000 in
set_option maxHeartbeats 4000000 in
theorem dfaFirstNo_any (v bv : Value) (d : DF) (sm : Sm d) (hr : d.right = false) (w : World) (h : IsDf w v d) :
    Calls Tryz.prog 20 #[v, bv] w fun e w' => e = .returned (.tuple #[.int .i64 0, .int .i64 0, .bool false, .int .i64 182]) ∧ Below w.heap.size w w' := by
  have CR : Hid (∀ W, Below w.heap.size w W → Calls Tryz.prog 28 #[v] W fun e w' => e = .returned (.bool false) ∧ Below W.heap.size W w') := fun W hW => by
    have := right_any v d W (h.below hW) sm
    rwa [hr] at this
  obtain ⟨v0, v1, v2, rfl, h0, h1, h2⟩ := h
  obtain ⟨a0, c0, rfl⟩ := h0.1.form
  obtain ⟨a1, c1, rfl⟩ := h1.form
  obtain ⟨a2, c2, rfl⟩ := h2.form
  generalize d.cl.length = n0 at *
  generalize d.nx.length = n1 at *
  generalize d.mr.length = n2 at *
  clear h0 h1 h2 sm hr
  go_enter Tryz.func20, Tryz.ntmps20
  go_wp2_with fail
  refine calls_named ?_
  intro V hV
  have X1 : Hid (Below w.heap.size w V) := by rw [hV]; exact Lib.hid ((Ext.refl w).alloc _).below
  clear hV
  refine (CR.out _ X1.out).mono ?_
  rintro e w2 ⟨rfl, hx⟩
  have X2 := Lib.hid (X1.out.trans (hx.mono X1.out.size))
  clear hx X1
  go_wp2
  refine bodyPost_ret (v := .tuple #[.int .i64 0, .int .i64 0, .bool false, .int .i64 182]) (by simp [results, Tryz.results20, go_sem]) rfl ⟨rfl, X2.out⟩
set_option maxRecDepth 100000 in
set_option maxHeartbeats 4000000 in
theorem dfaMarksNo_any (v bv : Value) (d : DF) (sm : Sm d) (hr : d.right = false) (b : List Nat) (hb : ∀ c ∈ b, c < 256) (hbn : b.length ≤ 1000000) (w : World) (h : IsDf w v d) (hbv : IsSl encB w bv b) :
    Calls Tryz.prog 19 #[v, bv] w fun e w' => e = .returned (.tuple #[.slice none 0 0, .int .i64 182]) ∧ Below w.heap.size w w' := by
  have CR : Hid (∀ W, Below w.heap.size w W → Calls Tryz.prog 32 #[v, .int .i64 0, bv] W fun e w' => e = .returned (.tuple #[.int .i64 0, .int .i64 182]) ∧ Below W.heap.size W w') := fun W hW => by
    have := dfaRunE_any v bv d sm 0 b hb hbn W (h.below hW) (hbv.below hW)
    have e1 : runE d 0 b = (0, 182) := by unfold runE; rw [if_pos hr]
    rwa [e1] at this
  obtain ⟨v0, v1, v2, rfl, h0, h1, h2⟩ := h
  obtain ⟨a0, c0, rfl⟩ := h0.1.form
  obtain ⟨a1, c1, rfl⟩ := h1.form
  obtain ⟨a2, c2, rfl⟩ := h2.form
  generalize d.cl.length = n0 at *
  generalize d.nx.length = n1 at *
  generalize d.mr.length = n2 at *
  clear h0 h1 h2 sm hr hbv
  go_enter Tryz.func19, Tryz.ntmps19
  go_wp2_with fail
  refine calls_named ?_
  intro V hV
  have X1 : Hid (Below w.heap.size w V) := by rw [hV]; exact Lib.hid ((Ext.refl w).alloc _).below
  clear hV
  refine (CR.out _ X1.out).mono ?_
  rintro e w2 ⟨rfl, hx⟩
  have X2 := Lib.hid (X1.out.trans (hx.mono X1.out.size))
  clear hx X1
  go_wp2
  refine bodyPost_ret (v := .tuple #[.slice none 0 0, .int .i64 182]) (by simp [results, Tryz.results19, go_sem]) rfl ⟨rfl, X2.out⟩
end Go.Proofs.YthdnlndpmmiboaaGreatDoor
namespace Go.Proofs.YthdnlndpmmiboaaGreatDoor
open Go Go.RowKit

/-- The states that a state leads to. -/
def nxL (d : DF) (s : Nat) : List Nat := (d.nx.getD s []).map Int.toNat
def addN (L : List Nat) (t : Nat) : List Nat := if t ∈ L then L else L ++ [t]
def bfs (d : DF) : Nat → List Nat
  | 0 => [0]
  | n + 1 => match (bfs d n)[n]? with
    | none => bfs d n
    | some s => (nxL d s).foldl addN (bfs d n)
def reachD (d : DF) : List Nat := bfs d d.nx.length
structure InN (N : Nat) (L : List Nat) : Prop where
  nodup : L.Nodup
  lt : ∀ t ∈ L, t < N
  pos : 0 < L.length
theorem InN.len {N : Nat} {L : List Nat} (h : InN N L) : L.length ≤ N := nodup_lt _ _ h.nodup h.lt
theorem InN.add {N : Nat} {L : List Nat} (h : InN N L) {t : Nat} (ht : t < N) : InN N (addN L t) := by
  unfold addN
  split
  · exact h
  · rename_i hn
    refine ⟨?_, fun x hx => ?_, by simp⟩
    · rw [List.nodup_append]
      refine ⟨h.nodup, by simp, fun a ha b hb => ?_⟩
      simp at hb
      subst hb
      intro e
      subst e
      exact hn ha
    · rcases List.mem_append.1 hx with hx | hx
      · exact h.lt x hx
      · simp at hx; omega
theorem InN.fold {N : Nat} : ∀ (ts : List Nat) {L : List Nat}, InN N L → (∀ t ∈ ts, t < N) → InN N (ts.foldl addN L)
  | [], _, h, _ => h
  | t :: ts, L, h, ht => by
    rw [List.foldl_cons]
    exact InN.fold ts (h.add (ht t (List.mem_cons_self ..))) fun x hx => ht x (List.mem_cons_of_mem _ hx)
theorem fold_take {l : List Nat} {k t : Nat} (L : List Nat) (h : l[k]? = some t) : (l.take (k + 1)).foldl addN L = addN ((l.take k).foldl addN L) t := by
  rw [List.take_add_one, h, Option.toList_some, List.foldl_append]; rfl
theorem addN_len (L : List Nat) (t : Nat) : L.length ≤ (addN L t).length := by unfold addN; split <;> simp
theorem fold_len : ∀ (ts L : List Nat), L.length ≤ (ts.foldl addN L).length
  | [], _ => Nat.le_refl _
  | t :: ts, L => Nat.le_trans (addN_len L t) (fold_len ts _)
theorem addN_pre (L : List Nat) (t : Nat) {i x : Nat} (h : L[i]? = some x) : (addN L t)[i]? = some x := by
  unfold addN
  split
  · exact h
  · rw [List.getElem?_append_left (List.getElem?_eq_some_iff.1 h).1]; exact h
theorem fold_pre {i x : Nat} : ∀ (ts L : List Nat), L[i]? = some x → (ts.foldl addN L)[i]? = some x
  | [], _, h => h
  | t :: ts, L, h => fold_pre ts _ (addN_pre L t h)
theorem nxL_at {d : DF} (rt : Rt d) {s k : Nat} (hs : s < d.nx.length) (hk : k < d.cl.length) : ∃ t : Nat, t < d.nx.length ∧ (d.nx.getD s [])[k]? = some (t : Int) ∧ (nxL d s)[k]? = some t := by
  have hl := rt.len s hs
  have hz : (d.nx.getD s [])[k]? = some ((d.nx.getD s [])[k]'(by omega)) := List.getElem?_eq_getElem (by omega)
  have hr := rt.rng s hs _ (List.mem_of_getElem? hz)
  refine ⟨((d.nx.getD s [])[k]'(by omega)).toNat, by omega, by rw [hz]; congr 1; omega, ?_⟩
  unfold nxL
  rw [List.getElem?_map, hz]; rfl
theorem nxL_len {d : DF} (rt : Rt d) {s : Nat} (hs : s < d.nx.length) : (nxL d s).length = d.cl.length := by unfold nxL; rw [List.length_map, rt.len s hs]
theorem nxL_lt {d : DF} (rt : Rt d) {s : Nat} (hs : s < d.nx.length) : ∀ t ∈ nxL d s, t < d.nx.length := fun t ht => by
  obtain ⟨z, hz, rfl⟩ := List.mem_map.1 ht
  have := rt.rng s hs z hz
  omega
theorem bfs_in {d : DF} (rt : Rt d) : ∀ n, InN d.nx.length (bfs d n)
  | 0 => ⟨by simp [bfs], fun t ht => by simp [bfs] at ht; have := rt.pos; omega, by simp [bfs]⟩
  | n + 1 => by
    have h := bfs_in rt n
    rw [bfs]
    cases e : (bfs d n)[n]? with
    | none => exact h
    | some s =>
      have hs := h.lt s (List.mem_of_getElem? e)
      exact h.fold _ (nxL_lt rt hs)
theorem bfs_next {d : DF} {n s : Nat} (h : (bfs d n)[n]? = some s) : bfs d (n + 1) = (nxL d s).foldl addN (bfs d n) := by rw [bfs, h]
theorem bfs_stop {d : DF} {n : Nat} (h : (bfs d n).length ≤ n) : ∀ k, bfs d (n + k) = bfs d n
  | 0 => rfl
  | k + 1 => by
    have ih := bfs_stop h k
    rw [← Nat.add_assoc, bfs, ih, List.getElem?_eq_none (by omega)]
theorem reach_at {d : DF} {n : Nat} (h : (bfs d n).length ≤ n) (hn : n ≤ d.nx.length) : reachD d = bfs d n := by
  have := bfs_stop h (d.nx.length - n)
  rw [show n + (d.nx.length - n) = d.nx.length by omega] at this
  exact this
theorem reachD_in {d : DF} (rt : Rt d) : InN d.nx.length (reachD d) := bfs_in rt _
/-- Which states have been seen. -/
def seenL (N : Nat) (L : List Nat) : List Int := (List.range N).map fun t => if t ∈ L then 1 else 0
theorem seenL_len (N : Nat) (L : List Nat) : (seenL N L).length = N := by simp [seenL]
theorem seenL_at {N t : Nat} (L : List Nat) (h : t < N) : (seenL N L)[t]? = some (if t ∈ L then 1 else 0) := by
  unfold seenL
  rw [List.getElem?_map, List.getElem?_range h]; rfl
theorem seenL_set {N t : Nat} (L : List Nat) (h : t < N) : (seenL N L).set t 1 = seenL N (L ++ [t]) := by
  apply List.ext_getElem?
  intro j
  rw [List.getElem?_set]
  by_cases hj : j < N
  · rw [seenL_at _ hj, seenL_at _ hj]
    by_cases e : t = j
    · subst e; simp [seenL_len, h]
    · rw [if_neg e]
      have : (j ∈ L ++ [t]) ↔ j ∈ L := by simp; intro e2; exact absurd e2.symm e
      simp only [this]
  · rw [if_neg (by omega), List.getElem?_eq_none (by rw [seenL_len]; omega), List.getElem?_eq_none (by rw [seenL_len]; omega)]
theorem seenL_first {N : Nat} (h : 0 < N) : (List.replicate N (0 : Int)).set 0 1 = seenL N [0] := by
  have e : List.replicate N (0 : Int) = seenL N [] := by
    apply List.ext_getElem?
    intro j
    by_cases hj : j < N
    · rw [seenL_at _ hj, List.getElem?_replicate, if_pos hj]; simp
    · rw [List.getElem?_eq_none (by simp; omega), List.getElem?_eq_none (by rw [seenL_len]; omega)]
  rw [e, seenL_set [] h]; rfl
end Go.Proofs.YthdnlndpmmiboaaGreatDoor
namespace Go.Proofs.YthdnlndpmmiboaaGreatDoor
open Go Go.RowKit

theorem mem_addN (L : List Nat) (t : Nat) : t ∈ addN L t := by unfold addN; split <;> simp_all
theorem sub_addN {L : List Nat} {t x : Nat} (h : x ∈ L) : x ∈ addN L t := by unfold addN; split <;> simp_all
theorem sub_fold {x : Nat} : ∀ (ts : List Nat) {L : List Nat}, x ∈ L → x ∈ ts.foldl addN L
  | [], _, h => h
  | _ :: ts, _, h => sub_fold ts (sub_addN h)
theorem mem_fold {x : Nat} : ∀ (ts : List Nat) (L : List Nat), x ∈ ts → x ∈ ts.foldl addN L
  | t :: ts, L, h => by
    rw [List.foldl_cons]
    rcases List.mem_cons.1 h with rfl | h
    · exact sub_fold ts (mem_addN _ _)
    · exact mem_fold ts _ h
theorem bfs_mono {d : DF} {n i x : Nat} (h : (bfs d n)[i]? = some x) : ∀ k, (bfs d (n + k))[i]? = some x
  | 0 => h
  | k + 1 => by
    have ih := bfs_mono h k
    rw [← Nat.add_assoc, bfs]
    cases (bfs d (n + k))[n + k]? with
    | none => exact ih
    | some s => exact fold_pre _ _ ih
theorem reach_closed {d : DF} (rt : Rt d) {s t : Nat} (hs : s ∈ reachD d) (ht : t ∈ nxL d s) : t ∈ reachD d := by
  obtain ⟨k, hk⟩ := List.getElem?_of_mem hs
  have hkl := (List.getElem?_eq_some_iff.1 hk).1
  have hle := (reachD_in rt).len
  have hkk : k < (bfs d k).length := by
    rcases Nat.lt_or_ge k (bfs d k).length with h | h
    · exact h
    · have := reach_at h (by omega)
      rw [this] at hkl; omega
  obtain ⟨s', hs'⟩ : ∃ s', (bfs d k)[k]? = some s' := ⟨_, List.getElem?_eq_getElem hkk⟩
  have e := bfs_mono hs' (d.nx.length - k)
  rw [show k + (d.nx.length - k) = d.nx.length by omega] at e
  have e2 : s' = s := by
    have : (reachD d)[k]? = some s' := e
    rw [hk] at this; exact (Option.some.inj this).symm
  subst e2
  have hm : t ∈ bfs d (k + 1) := by rw [bfs_next hs']; exact mem_fold _ _ ht
  obtain ⟨i, hi⟩ := List.getElem?_of_mem hm
  have e3 := bfs_mono hi (d.nx.length - (k + 1))
  rw [show k + 1 + (d.nx.length - (k + 1)) = d.nx.length by omega] at e3
  exact List.mem_of_getElem? e3
def rowR (d : DF) (s : Nat) : List Int := (nxL d s).map fun t => ((reachD d).idxOf t : Int)
def trimR (d : DF) : DF := ⟨d.cl, (reachD d).map (rowR d), (reachD d).map fun s => d.mr.getD s []⟩
/-- The numbers of the first states. -/
def numL (N : Nat) (L : List Nat) (i : Nat) : List Int := (List.range N).map fun t => if L.idxOf t < i then (L.idxOf t : Int) else 0
theorem numL_len (N : Nat) (L : List Nat) (i : Nat) : (numL N L i).length = N := by simp [numL]
theorem numL_at {N t : Nat} (L : List Nat) (i : Nat) (h : t < N) : (numL N L i)[t]? = some (if L.idxOf t < i then (L.idxOf t : Int) else 0) := by
  unfold numL
  rw [List.getElem?_map, List.getElem?_range h]; rfl
theorem numL_zero (N : Nat) (L : List Nat) : List.replicate N (0 : Int) = numL N L 0 := by
  apply List.ext_getElem?
  intro j
  by_cases hj : j < N
  · rw [numL_at _ _ hj, List.getElem?_replicate, if_pos hj, if_neg (by omega)]
  · rw [List.getElem?_eq_none (by simp; omega), List.getElem?_eq_none (by rw [numL_len]; omega)]
theorem idxOf_at8 {L : List Nat} (hn : L.Nodup) {i s : Nat} (h : L[i]? = some s) : L.idxOf s = i := by
  obtain ⟨hi, he⟩ := List.getElem?_eq_some_iff.1 h
  subst he
  exact hn.idxOf_getElem i hi
theorem idxOf_get8 {L : List Nat} {t : Nat} (h : t ∈ L) : L[L.idxOf t]? = some t := by
  have := List.idxOf_lt_length_of_mem h
  rw [List.getElem?_eq_getElem this, List.getElem_idxOf this]
theorem numL_set {N i s : Nat} {L : List Nat} (hn : L.Nodup) (h : L[i]? = some s) (hs : s < N) : (numL N L i).set s (i : Int) = numL N L (i + 1) := by
  apply List.ext_getElem?
  intro j
  rw [List.getElem?_set]
  by_cases hj : j < N
  · rw [numL_at _ _ hj, numL_at _ _ hj]
    by_cases e : s = j
    · subst e
      rw [if_pos rfl, numL_len, if_pos hs, idxOf_at8 hn h, if_pos (by omega)]
    · rw [if_neg e]
      have hne : L.idxOf j ≠ i := fun e2 => by
        have hi := (List.getElem?_eq_some_iff.1 h).1
        have hm : j ∈ L := List.idxOf_lt_length_iff.1 (by omega)
        have := idxOf_get8 hm
        rw [e2, h] at this
        exact e (Option.some.inj this)
      by_cases e3 : L.idxOf j < i
      · rw [if_pos e3, if_pos (by omega)]
      · rw [if_neg e3, if_neg (by omega)]
  · rw [if_neg (by omega), List.getElem?_eq_none (by rw [numL_len]; omega), List.getElem?_eq_none (by rw [numL_len]; omega)]
theorem numL_mem {N t : Nat} {L : List Nat} (h : t ∈ L) (hs : t < N) : (numL N L L.length)[t]? = some (L.idxOf t : Int) := by
  rw [numL_at _ _ hs, if_pos (List.idxOf_lt_length_of_mem h)]
end Go.Proofs.YthdnlndpmmiboaaGreatDoor
namespace Go.Proofs.YthdnlndpmmiboaaGreatDoor
open Go Go.RowKit Go.Shelf Go.Maps

theorem encN_z (L : List Nat) : L.map encN = (L.map Int.ofNat).map encZ := by rw [List.map_map]; rfl
set_option maxRecDepth 100000 in
set_option maxHeartbeats 8000000 in
theorem reached_any (v : Value) (d : DF) (rt : Rt d) (sm : Sm d) (w : World) (h : IsDf w v d) :
    Calls Tryz.prog 33 #[v] w fun e w' => ∃ u, e = .returned (.tuple #[u, .int .i64 0]) ∧ w'.ownsRow w.heap.size 3 1 u (reachD d).length ((reachD d).map encN) ∧ Below w.heap.size w w' := by
  obtain ⟨iI, hiI, hzI0, hzI1, hzI2⟩ := info_parts Tryz.infoI
  have CR : Hid (∀ W, Below w.heap.size w W → Calls Tryz.prog 28 #[v] W fun e w' => e = .returned (.bool true) ∧ Below W.heap.size W w') := fun W hW => by
    have := right_any v d W (h.below hW) sm
    rwa [(right_iff d).2 rt] at this
  obtain ⟨v0, v1, v2, rfl, h0, h1, h2⟩ := h
  obtain ⟨a0, c0, rfl⟩ := h0.1.form
  obtain ⟨a1, c1, rfl⟩ := h1.form
  obtain ⟨a2, c2, rfl⟩ := h2.form
  have hmr := rt.mr
  rw [hmr] at h2 CR ⊢
  obtain ⟨n, hn⟩ : ∃ n, n = d.nx.length := ⟨_, rfl⟩
  obtain ⟨K, hK⟩ : ∃ n, n = d.cl.length := ⟨_, rfl⟩
  have hn4 : n ≤ 4000 := by have := rt.le; omega
  have hn1 : 1 ≤ n := by have := rt.pos; omega
  have hK2 : K ≤ 256 := by have := rt.clle; omega
  rw [← hn] at h1 h2 CR ⊢
  rw [← hK] at h0 CR ⊢
  have H1 := Lib.hid h1
  have HN := Lib.hid hn
  have HK := Lib.hid hK
  have RT := Lib.hid rt
  clear h0 h1 h2 hn hK hmr rt sm
  go_enter Tryz.func33, Tryz.ntmps33
  go_wp2_with fail
  refine calls_named ?_
  intro V hV
  have B1 : Hid (Blk V w.heap.size #[.slice a0 K c0, .slice a1 n c1, .slice a2 n c2] 29) := by rw [hV]; exact Blk.new w _ _
  have X1 : Hid (Below w.heap.size w V) := by rw [hV]; exact ((Ext.refl w).alloc _).below
  clear hV
  refine (CR.out V X1.out).mono ?_
  rintro e w2 ⟨rfl, hx⟩
  have C1 := Lib.hid (B1.out.below hx B1.out.lt)
  have hws : w.heap.size < w2.heap.size := C1.out.lt
  have X2 := Lib.hid (X1.out.trans (hx.mono X1.out.size))
  clear hx B1 X1 CR
  have XB : Hid (∀ W, Keeps (fun x => x < w2.heap.size) w2 W → Below w.heap.size w W) := Lib.hid fun W k => X2.out.trans (k.mono fun x (hx : x < w.heap.size) => by show x < w2.heap.size; omega : Keeps (· < w.heap.size) w2 W).below
  go_upto_region 4 with fail
  refine wp_named ?_
  intro V3 hV3
  have O3 : Hid (Blk V3 w2.heap.size #[.int .i64 0] 3) := by rw [hV3]; exact Blk.new _ _ _
  have K3 : Hid (Keeps (fun x => x < w2.heap.size) w2 V3) := by rw [hV3]; exact Lib.hid (Keeps.of_below ((Ext.refl _).alloc _).below fun x h => h)
  have hs3 : w2.heap.size < V3.heap.size := by rw [hV3]; simp
  clear hV3
  have D1 := Lib.hid (C1.out.keeps K3.out hws)
  obtain ⟨⟨k0, k1, k2⟩, _⟩ := D1.out.three
  skip --A1
  go_wp2_with (at_make; refine wpList_make_full _ rfl (.tmp 15) (.tmp 15) 33 rfl V3.heap.size 3 iI (.int .i64 0) 1 Tryz.underlying33 hiI hzI0 hzI1 .i64 .i64 _ _ n rfl rfl rfl rfl (by rw [hzI2]; omega) (by unfold maxLen; omega) (Nat.le_refl _) ?_; intro w3 hr hg; refine Hid.out ?_)
  refine Lib.hid ?_
  have hs4 : V3.heap.size < w3.heap.size := by
    rcases hr.2 with ⟨h5, _⟩ | ⟨g, c, cur, h5, _, h6, _⟩
    · cases h5
    · cases h5; exact (Array.getElem?_eq_some_iff.1 h6).1
  have hb3 : Below V3.heap.size V3 w3 := (Keeps.of_grown hg fun x hx => ⟨hx, fun e => by cases e⟩ : Keeps (· < V3.heap.size) V3 w3).below
  rw [made_ints] at hr
  have R3 := Lib.hid hr
  have O4 := Lib.hid (O3.out.below hb3 O3.out.lt)
  have K4 : Hid (Keeps (fun x => x < w2.heap.size) w2 w3) := Lib.hid (K3.out.tr (Keeps.of_below hb3 fun x (hx : x < w2.heap.size) => by omega))
  clear hr hg hb3 k0 k1 k2 D1 O3 K3
  obtain ⟨g5, hg5⟩ : ∃ g, g = V3.heap.size := ⟨_, rfl⟩
  rw [← hg5] at R3 hs3 hs4 ⊢
  clear hg5
  have f0 : w3.frozen? ⟨g5, 0, none⟩ = false := R3.out.frozenAt 0
  have f1 : w3.cell? ⟨g5, 0, none⟩ = some (.int .i64 0) := by
    rw [R3.out.cellAt 0 (by omega), List.getElem?_map, List.getElem?_replicate, if_pos (by omega)]
    rfl
  have hni : (0 : Int) < n := by omega
  skip --A2
  go_wp2
  clear f0 f1
  skip --A3
  go_loopw [4, 6] (fun ov iv wr => ∃ (i : Nat) (L : List Nat), iv = .int .i64 i ∧ L = bfs d i ∧ i ≤ L.length ∧ wr.ownsRow w2.heap.size 3 1 ov L.length (L.map encN) ∧ ov.ownBlock ≠ some g5 ∧ wr.ownsRow g5 3 1 (.slice (some ⟨g5, 0, none⟩) n n) n ((seenL n L).map encZ) ∧ Keeps (fun x => x < w2.heap.size) w2 wr ∧ w3.heap.size ≤ wr.heap.size) (fun _ iv _ => n - (intOf iv).toNat)
  case atStart =>
    have kg : Keeps (· ≠ g5) w3 (w3.setCell ⟨g5, 0, none⟩ (.int .i64 1)) := (Keeps.refl (· ≠ g5) _).setCell (p := ⟨g5, 0, none⟩) (fun h => h rfl) _
    refine ⟨0, [0], rfl, rfl, Nat.zero_le _, ?_, ?_, ?_, K4.out.tr (kg.mono fun x (hx : x < w2.heap.size) => by show x ≠ g5; omega), kg.size⟩
    · exact ⟨rfl, .inr ⟨w2.heap.size, 1, #[.int .i64 0], rfl, Nat.le_refl _, O4.out.keeps kg (by show w2.heap.size ≠ g5; omega), Nat.le_refl _, by unfold maxLen; omega, rfl, rfl⟩⟩
    · intro e
      have : w2.heap.size = g5 := by simpa [Value.ownBlock] using e
      omega
    · rw [← seenL_first (by omega), List.map_set]
      exact (R3.out.stored 0 _).1
  case round =>
    obtain ⟨i, L, rfl, hL, hiL, ho, hne, hsn, hx, hsz⟩ := hrel
    obtain ⟨wo, rfl⟩ : ∃ wo : World, wo = wr := ⟨_, rfl⟩
    have IL : Hid (InN n L) := Lib.hid (by rw [hL, HN.out]; exact bfs_in RT.out i)
    have hLn := IL.out.len
    have HX := Lib.hid hx
    have HO := Lib.hid ho
    have HS := Lib.hid hsn
    have HNE := Lib.hid hne
    have HL := Lib.hid hL
    clear hx ho hsn hne hL
    obtain ⟨m, hm⟩ : ∃ m, m = L.length := ⟨_, rfl⟩
    rw [← hm] at HO hiL hLn
    have HM := Lib.hid hm
    clear hm
    obtain ⟨oa, oc, rfl⟩ := ownsRow_form HO.out
    by_cases hlt : i < m
    · obtain ⟨s, hs⟩ : ∃ s, L[i]? = some s := ⟨_, List.getElem?_eq_getElem (by have := HM.out; omega)⟩
      have hsn : s < n := IL.out.lt s (List.mem_of_getElem? hs)
      obtain ⟨og, ou, rfl, hog1, hog2, hou, hoc, _⟩ := rowCell HO.out hlt
      rw [List.getElem?_map, hs] at hou
      cases hou
      replace hoc : wo.cell? ⟨og, i, none⟩ = some (.int .i64 s) := hoc
      have hrow : d.nx[s]? = some (d.nx.getD s []) := by
        rw [List.getD_eq_getElem?_getD, List.getElem?_eq_getElem (by rw [← HN.out]; exact hsn)]; rfl
      obtain ⟨b, off, a', c', rfl, hb, hc, hsl⟩ := H1.out.elem hrow
      have hrl : (d.nx.getD s []).length = K := by rw [HK.out]; exact RT.out.len s (by rw [← HN.out]; exact hsn)
      rw [hrl] at hc hsl
      replace hc : wo.cell? ⟨b, off + s, none⟩ = some (.slice a' K c') := ((Keeps.of_below (XB.out wo HX.out) fun _ h => h : Keeps (· < w.heap.size) w wo).cell (p := ⟨b, off + s, none⟩) hb).trans hc
      replace hb : b < wo.heap.size := Nat.lt_of_lt_of_le hb (XB.out wo HX.out).size
      have BW := Lib.hid (C1.out.keeps HX.out hws)
      have HSL := Lib.hid hsl
      have HNX : Hid (∀ k, k < K → ∃ t : Nat, t < n ∧ (d.nx.getD s [])[k]? = some (t : Int) ∧ (nxL d s)[k]? = some t) := Lib.hid fun k hk => by
        obtain ⟨t, e1, e2, e3⟩ := nxL_at RT.out (s := s) (k := k) (by rw [← HN.out]; exact hsn) (by rw [← HK.out]; exact hk)
        exact ⟨t, by rw [HN.out]; exact e1, e2, e3⟩
      have HNL : Hid (bfs d (i + 1) = (nxL d s).foldl addN L ∧ (nxL d s).length = K) := Lib.hid ⟨by rw [bfs_next (by rw [← HL.out]; exact hs), ← HL.out], by rw [HK.out]; exact nxL_len RT.out (by rw [← HN.out]; exact hsn)⟩
      have hii : (i : Int) < m := by omega
      have hsi : (s : Int) < n := by omega
      have hbk := BW.out.cell 1
      simp only [List.getElem?_toArray, List.getElem?_cons_zero, List.getElem?_cons_succ] at hbk
      clear hs hsl hrow hrl
      go_upto_region 9 with fail
      skip --B1
      refine wp_region_reg false (fun _ => False) (by kernel_rfl) 10 [0, 1, 0, 0, 12, 28, 63, 127, 255, 0] (fun i => false) (by kernel_rfl) (fun i => Eff.any _) ?_
      intro C hC hne
      have HC := Lib.hid hC
      have q1 := regCell hC (p := ⟨w.heap.size, 1, none⟩) BW.out.lt (fun h => h) hbk
      have q2 := regCell hC (p := ⟨og, i, none⟩) hog2 (fun h => h) hoc
      have q3 := regCell hC (p := ⟨b, off + s, none⟩) hb (fun h => h) hc
      clear hC
      repeat (refine regStep (fun K hK => ?_); first | (refine regN rfl ?_; try go_simp; refine hK _ _ ?_; clear hK K) | (refine regF rfl rfl ?_; unfold floatAt; go_simp; refine hK _ _ ?_; clear hK K))
      refine regNil (fun W hW hH => ?_)
      have hM := (HC.out W).1 hW
      have hbw := hM.below
      have WO := Lib.hid (ownsRow_below HO.out hbw)
      have WS := Lib.hid (ownsRow_below HS.out hbw)
      have WX : Hid (Keeps (fun x => x < w2.heap.size) w2 W) := Lib.hid (HX.out.tr (Keeps.of_below hbw fun x (hx : x < w2.heap.size) => Nat.lt_of_lt_of_le hx HX.out.size))
      have WB := Lib.hid (BW.out.below hbw BW.out.lt)
      have hsW : w3.heap.size ≤ W.heap.size := Nat.le_trans hsz hbw.size
      clear hM hbw hW hH HC q1 q2 q3 hne HO HS HX BW hbk hoc hc
      skip --B2
      go_wp2
      go_loopw [4, 34] (fun ov jv wr => ∃ (j : Nat) (L' : List Nat), j ≤ K ∧ jv = .int .i64 j ∧ L' = ((nxL d s).take j).foldl addN L ∧ wr.ownsRow w2.heap.size 3 1 ov L'.length (L'.map encN) ∧ ov.ownBlock ≠ some g5 ∧ wr.ownsRow g5 3 1 (.slice (some ⟨g5, 0, none⟩) n n) n ((seenL n L').map encZ) ∧ Keeps (fun x => x < w2.heap.size) w2 wr ∧ w3.heap.size ≤ wr.heap.size) (fun _ jv _ => K - (intOf jv).toNat)
      case atStart => exact ⟨0, L, Nat.zero_le _, rfl, rfl, by rw [← HM.out]; exact WO.out, HNE.out, WS.out, WX.out, hsW⟩
      case round =>
        obtain ⟨j, L', hj, rfl, hL', ho, hne, hsn', hx, hsz'⟩ := hrel
        obtain ⟨wi, rfl⟩ : ∃ wi : World, wi = wr := ⟨_, rfl⟩
        have IL' : Hid (InN n L') := Lib.hid (by
          rw [hL']
          refine IL.out.fold _ fun t ht => ?_
          have := nxL_lt RT.out (s := s) (by rw [← HN.out]; exact hsn) t (List.mem_of_mem_take ht)
          rw [HN.out]; exact this)
        have hLn' := IL'.out.len
        have HO := Lib.hid ho
        have HS := Lib.hid hsn'
        have HX := Lib.hid hx
        have HNE' := Lib.hid hne
        have HL' := Lib.hid hL'
        clear ho hsn' hx hne hL'
        obtain ⟨m', hm'⟩ : ∃ m, m = L'.length := ⟨_, rfl⟩
        rw [← hm'] at HO hLn'
        have HM' := Lib.hid hm'
        clear hm'
        obtain ⟨oa, oc', rfl⟩ := ownsRow_form HO.out
        by_cases hjl : j < K
        · obtain ⟨t, htn, hz, htl⟩ := HNX.out j hjl
          obtain ⟨b', off', rfl, hb', hc'⟩ := (HSL.out.below (XB.out wi HX.out)).elem hz
          replace hc' : wi.cell? ⟨b', off' + j, none⟩ = some (.int .i64 (t : Int)) := hc'
          have hji : (j : Int) < K := by omega
          have hti : (t : Int) < n := by omega
          have hstep : ((nxL d s).take (j + 1)).foldl addN L = addN L' t := by rw [fold_take L htl, HL'.out]
          obtain ⟨sg, su, se, _, hsg, hsu, hsc, hsf⟩ := rowCell HS.out htn
          cases se
          rw [List.getElem?_map, seenL_at _ htn] at hsu
          by_cases hin : t ∈ L'
          · rw [if_pos hin] at hsu
            cases hsu
            have hst : addN L' t = L' := by unfold addN; rw [if_pos hin]
            rw [hst] at hstep
            replace hsc : wi.cell? ⟨g5, t, none⟩ = some (.int .i64 1) := hsc
            have HST := Lib.hid hstep
            clear hstep hst hz htl
            go_wp2
            go_roundw
            case rel => exact ⟨j + 1, L', by omega, by go_num, HST.out.symm, by rw [← HM'.out]; exact HO.out, HNE'.out, HS.out, HX.out, hsz'⟩
            case measure => simp [intOf]; omega
          · rw [if_neg hin] at hsu
            cases hsu
            have hst : addN L' t = L' ++ [t] := by unfold addN; rw [if_neg hin]
            rw [hst] at hstep
            replace hsc : wi.cell? ⟨g5, t, none⟩ = some (.int .i64 0) := hsc
            have HST := Lib.hid hstep
            have hlen2 : m' + 1 ≤ n := by
              have := (IL'.out.add htn).len
              rw [hst, List.length_append] at this
              have := HM'.out
              simp at *
              omega
            clear hstep hst hz htl
            go_upto_region 14 with fail
            refine wp_named ?_
            intro W3 hW3
            have kg : Keeps (· ≠ g5) wi W3 := by rw [hW3]; exact (Keeps.refl (· ≠ g5) _).setCell (p := ⟨g5, t, none⟩) (fun h => h rfl) _
            have S3 : Hid (W3.ownsRow g5 3 1 (.slice (some ⟨g5, 0, none⟩) n n) n ((seenL n (L' ++ [t])).map encZ)) := Lib.hid (by
              rw [← seenL_set L' htn, List.map_set, hW3]
              exact (HS.out.stored t _).1)
            have U3 : Hid (W3.ownsRow w2.heap.size 3 1 (.slice oa m' oc') m' (L'.map encN)) := Lib.hid (ownsRow_keeps HO.out kg fun x hx e => HNE'.out (by rw [hx, e]))
            have Y3 : Hid (Keeps (fun x => x < w2.heap.size) w2 W3) := Lib.hid (HX.out.tr (kg.mono fun x (hx : x < w2.heap.size) => by show x ≠ g5; omega))
            have hs5 : w3.heap.size ≤ W3.heap.size := Nat.le_trans hsz' kg.size
            clear hW3 kg HO HS HX hsc hsf hc'
            skip --C1
            go_wp2_with (at_builtin; refine wpList_append_own_at _ rfl (.tmp 46) (.tmp 48) 33 rfl w2.heap.size 3 iI (.int .i64 0) 1 8 Tryz.underlying33 hiI hzI0 hzI1 hzI2 rfl (by decide) _ _ _ rfl (U3.out.alloc _) ⟨W3.heap.size, 0, none⟩ 1 1 [encN t] rfl rfl (cell_one _ _ _) (by simp [Value.oneCell', encN]) (by unfold maxLen; omega) (by omega) (by simp; omega) ?_; intro v' w6 hown' hgrow hh hat; have HO2 := Lib.hid hown'; have HG := Lib.hid hgrow; clear hown' hgrow hh)
            skip --C2
            go_roundw
            case rel =>
              have hs6 : W3.heap.size ≤ w6.heap.size := by have := HG.out.size; simp at this; omega
              have hlo : ∀ x, (Value.slice oa m' oc').ownBlock = some x → w2.heap.size ≤ x := fun x hx => (U3.out.lt x hx).1
              refine ⟨j + 1, L' ++ [t], by omega, by go_num, HST.out.symm, ?_, ?_, ?_, ?_, by omega⟩
              · rw [List.length_append, ← HM'.out, List.map_append]
                exact HO2.out
              · intro e
                rcases hat with h5 | h5
                · exact HNE'.out (h5.symm.trans e)
                · rw [h5] at e
                  have h6 : (W3.alloc (.cells #[encN t] 3)).heap.size = g5 := by simpa using e
                  simp at h6
                  omega
              · refine (S3.out.alloc _).kept HG.out (.inr fun e => ?_)
                exact HNE'.out e.symm
              · exact (Y3.out.tr (Keeps.of_below ((Ext.refl _).alloc _).below fun x (hx : x < w2.heap.size) => by omega)).tr (Keeps.of_grown HG.out fun x (hx : x < w2.heap.size) => ⟨by simp; omega, fun e => by have := hlo x e.symm; omega⟩)
            case measure => simp [intOf]; omega
        · obtain rfl : j = K := by omega
          have hji : ¬ ((j : Int) < j) := by omega
          have hfin : L' = bfs d (i + 1) := by rw [HL'.out, HNL.out.1, List.take_of_length_le (by rw [HNL.out.2]; exact Nat.le_refl _)]
          have HF := Lib.hid hfin
          clear hfin
          have hmm : m ≤ m' := by
            rw [HM.out, HM'.out, HL'.out]; exact fold_len _ _
          skip --D1
          go_wp2
          go_roundw
          case rel => exact ⟨i + 1, L', by go_num, HF.out, by have := HM'.out; omega, by rw [← HM'.out]; exact HO.out, HNE'.out, HS.out, HX.out, hsz'⟩
          case measure => simp [intOf]; omega
    · obtain rfl : i = m := by omega
      have hii : ¬ ((i : Int) < i) := by omega
      have hfin : reachD d = L := by rw [HL.out]; exact reach_at (by rw [← HL.out, ← HM.out]; exact Nat.le_refl _) (by rw [← HN.out]; exact hLn)
      have HF := Lib.hid hfin
      clear hfin
      skip --E1
      go_wp2
      refine bodyPost_ret (v := .tuple #[.slice oa i oc, .int .i64 0]) (by simp [results, Tryz.results33, go_sem]) rfl ?_
      exact ⟨_, rfl, by rw [HF.out, ← HM.out]; exact ownsRow_base HO.out (Nat.le_of_lt hws), X2.out.trans (HX.out.mono fun x (hx : x < w.heap.size) => by show x < w2.heap.size; omega : Keeps (· < w.heap.size) w2 wo).below⟩
end Go.Proofs.YthdnlndpmmiboaaGreatDoor
