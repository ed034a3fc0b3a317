/-
  slices.Clone at parts.
  The maker of dfa in memory.
-/
import Derived.Test.YthdnlndpmmiboaaGreatDoorM31
import Derived.Test.YthdnlndpmmiboaaGreatDoorM08
import Derived.Test.YthdnlndpmmiboaaGreatDoorM30
import Derived.Test.YthdnlndpmmiboaaGreatDoorM17
import Derived.Test.YthdnlndpmmiboaaGreatDoorM19
import Derived.Test.YthdnlndpmmiboaaGreatDoorM10
import Derived.Test.YthdnlndpmmiboaaGreatDoorM16
namespace Go.Proofs.YthdnlndpmmiboaaGreatDoor
open Go Go.RowKit Go.Shelf Go.Maps

theorem flat_get {α : Type} {k : Nat} : ∀ (ls : List (List α)), (∀ l ∈ ls, l.length = k) → ∀ (i : Nat) (l : List α), ls[i]? = some l → ∀ j, j < k → ls.flatten[i * k + j]? = l[j]?
  | [], _, i, l, h, _, _ => by simp at h
  | x :: ls, hk, i, l, h, j, hj => by
    have hx : x.length = k := hk x (List.mem_cons_self ..)
    rw [List.flatten_cons]
    cases i with
    | zero =>
      cases h
      rw [Nat.zero_mul, Nat.zero_add, List.getElem?_append_left (by omega)]
    | succ i =>
      rw [List.getElem?_append_right (by rw [hx, Nat.succ_mul]; omega), hx, show (i + 1) * k + j - k = i * k + j by rw [Nat.succ_mul]; omega]
      exact flat_get ls (fun l hl => hk l (List.mem_cons_of_mem _ hl)) i l (by simpa using h) j hj
theorem flat_len {α : Type} {k : Nat} : ∀ (ls : List (List α)), (∀ l ∈ ls, l.length = k) → ls.flatten.length = ls.length * k
  | [], _ => by simp
  | x :: ls, hk => by
    rw [List.flatten_cons, List.length_append, hk x (List.mem_cons_self ..), flat_len ls fun l hl => hk l (List.mem_cons_of_mem _ hl), List.length_cons, Nat.succ_mul]; omega
/-- The cells of a row of parts, as a list. -/
theorem ptse_cells {w : World} {b off : Nat} {ps : List PT} (h : ∀ (i : Nat) (x : PT), ps[i]? = some x → PtIs IsNfe w x fun j => w.cell? ⟨b, off + i * 7 + j, none⟩) :
    ∃ cs : List Value, cs.length = ps.length * 7 ∧ (∀ j u, cs[j]? = some u → w.cell? ⟨b, off + j, none⟩ = some u) ∧ (∀ u ∈ cs, u.oneCell' = true) ∧ ∀ (i : Nat) (x : PT), ps[i]? = some x → cs[i * 7 + 5]? = some (.bool x.beg) ∧ cs[i * 7 + 6]? = some (.int .i64 x.mark) := by
  obtain ⟨L, hL⟩ := Go.Deep.choose_lt (α := List Value) (n := ps.length) (p := fun i l => l.length = 7 ∧ (∀ j u, l[j]? = some u → w.cell? ⟨b, off + i * 7 + j, none⟩ = some u) ∧ (∀ u ∈ l, u.oneCell' = true) ∧ ∀ x, ps[i]? = some x → l[5]? = some (.bool x.beg) ∧ l[6]? = some (.int .i64 x.mark)) (fun i hi => by
    obtain ⟨y, hx⟩ : ∃ y, ps[i]? = some y := ⟨_, List.getElem?_eq_getElem hi⟩
    obtain ⟨v0, v1, v2, v3, h0, h1, h2, h3, h4, h5, h6, h7⟩ := h i _ hx
    obtain ⟨a0, c0, a1, c1, a2, c2, a3, c3, rfl, rfl, rfl, rfl⟩ := h0.form4
    refine ⟨[.slice a0 y.nf.sets.length c0, .slice a1 y.nf.fol.length c1, .slice a2 y.nf.fst.length c2, .slice a3 y.nf.lst.length c3, .bool y.nf.emp, .bool y.beg, .int .i64 y.mark], rfl, fun j u hu => ?_, fun u hu => ?_, fun x hx' => by rw [hx] at hx'; cases hx'; exact ⟨rfl, rfl⟩⟩
    · match j, hu with
      | 0, hu => cases hu; exact h1
      | 1, hu => cases hu; exact h2
      | 2, hu => cases hu; exact h3
      | 3, hu => cases hu; exact h4
      | 4, hu => cases hu; exact h5
      | 5, hu => cases hu; exact h6
      | 6, hu => cases hu; exact h7
      | j + 7, hu => simp at hu
    · simp only [List.mem_cons, List.not_mem_nil, or_false] at hu
      rcases hu with rfl | rfl | rfl | rfl | rfl | rfl | rfl <;> rfl)
  have hall : ∀ l ∈ (List.range ps.length).map L, l.length = 7 := fun l hl => by
    obtain ⟨i, hi, rfl⟩ := List.mem_map.1 hl
    exact (hL i (List.mem_range.1 hi)).1
  have hget : ∀ i, i < ps.length → ((List.range ps.length).map L)[i]? = some (L i) := fun i hi => by
    rw [List.getElem?_map, List.getElem?_range hi]; rfl
  refine ⟨((List.range ps.length).map L).flatten, ?_, fun j u hu => ?_, fun u hu => ?_, fun i x hx => ?_⟩
  · rw [flat_len _ hall, List.length_map, List.length_range]
  · have hj : j < ps.length * 7 := by
      have := (List.getElem?_eq_some_iff.1 hu).1
      rw [flat_len _ hall, List.length_map, List.length_range] at this
      exact this
    have hi : j / 7 < ps.length := by omega
    have e := flat_get _ hall (j / 7) _ (hget _ hi) (j % 7) (Nat.mod_lt _ (by decide))
    rw [show j / 7 * 7 + j % 7 = j by omega, hu] at e
    have := (hL _ hi).2.1 (j % 7) u e.symm
    rw [show off + j / 7 * 7 + j % 7 = off + j by omega] at this
    exact this
  · obtain ⟨l, hl, hul⟩ := List.mem_flatten.1 hu
    obtain ⟨i, hi, rfl⟩ := List.mem_map.1 hl
    exact (hL i (List.mem_range.1 hi)).2.2.1 u hul
  · have hi := (List.getElem?_eq_some_iff.1 hx).1
    have g := (hL i hi).2.2.2 x hx
    rw [flat_get _ hall i _ (hget i hi) 5 (by decide), flat_get _ hall i _ (hget i hi) 6 (by decide)]
    exact g

set_option maxRecDepth 100000 in
set_option maxHeartbeats 1000000 in
theorem clonePts_any (v : Value) (ps : List PT) (w : World) (h : IsPtse w v ps) (hn : ps.length ≤ 1000000) :
    Calls Tryz.prog 10 #[v] w fun e w' => ∃ u cs, e = .returned u ∧ w'.ownsRow w.heap.size 37 7 u ps.length cs ∧ (∀ (i : Nat) (x : PT), ps[i]? = some x → cs[i * 7 + 5]? = some (.bool x.beg) ∧ cs[i * 7 + 6]? = some (.int .i64 x.mark)) ∧ Below w.heap.size w w' := by
  obtain ⟨i0, hi, hz0, hz1, hz2⟩ := info_parts Tryz.infoP
  have h' : (v = .slice none 0 0 ∧ ps = []) ∨ ∃ (a : Addr) (cap : Nat) (cs : List Value), v = .slice (some a) ps.length cap ∧ cs.length = ps.length * 7 ∧ (∀ o j u, cs[j]? = some u → (w.alloc o).cell? (a.add j) = some u) ∧ (∀ u ∈ cs, u.oneCell' = true) ∧ ∀ (i : Nat) (x : PT), ps[i]? = some x → cs[i * 7 + 5]? = some (.bool x.beg) ∧ cs[i * 7 + 6]? = some (.int .i64 x.mark) := by
    rcases h with ⟨rfl, a, rfl⟩ | ⟨b, off, cap, rfl, hb, hc⟩
    · cases a with
      | none => exact .inl ⟨rfl, rfl⟩
      | some a => exact .inr ⟨a, 0, [], rfl, rfl, fun o j u hj => by simp at hj, fun u hu => (by cases hu), fun i x hx => by simp at hx⟩
    · obtain ⟨cs, h1, h2, h3, h4⟩ := ptse_cells hc
      refine .inr ⟨⟨b, off, none⟩, cap, cs, rfl, h1, fun o j u hj => ?_, h3, h4⟩
      refine (((Ext.refl w).alloc o).cell (p := (⟨b, off, none⟩ : Addr).add j) (by rw [Addr.add_mid]; exact hb)).trans ?_
      rw [Addr.add_mid]
      exact h2 j u hj
  clear h
  rcases h' with ⟨rfl, rfl⟩ | ⟨ad, cap, cs, rfl, hcl, hnews, hone, hbm⟩
  · have he := fun W => Lib.run_eql_slice_nil (P := Tryz.prog) W 22 37 none 0 0 0 0 Tryz.underlying22
    go_enter Tryz.func10, Tryz.ntmps10
    go_wp2
    go_ret
    exact ⟨_, [], rfl, World.ownsRow_nil _ _ _ _, fun i x hx => by simp at hx, Below.refl _ _⟩
  · obtain ⟨n, hnn⟩ : ∃ n, n = ps.length := ⟨_, rfl⟩
    rw [← hnn] at hn hcl ⊢
    have HN := Lib.hid hnn
    have HNw := Lib.hid hnews
    have HO := Lib.hid hone
    have HBM := Lib.hid hbm
    have he := fun W => Lib.run_eql_slice_nil (P := Tryz.prog) W 22 37 (some ad) n cap 0 0 Tryz.underlying22
    clear hnews hnn hone hbm
    go_enter Tryz.func10, Tryz.ntmps10
    have o1 : (w.alloc (.cells #[] 37 (0, 0))).ownsRow w.heap.size 37 7 (.slice (some ⟨w.heap.size, 0, none⟩) 0 0) 0 [] := ⟨rfl, .inr ⟨w.heap.size, 0, #[], rfl, Nat.le_refl _, World.alloc_heap_new _ _, Nat.le_refl _, by simp, rfl, rfl⟩⟩
    have HO1 := Lib.hid o1
    clear o1
    go_wp2_with (at_builtin; (refine wpList_append_own_at _ rfl (.tmp 5) (.tmp 6) 22 rfl w.heap.size 37 i0 (.agg #[.slice none 0 0, .slice none 0 0, .slice none 0 0, .slice none 0 0, .bool false, .bool false, .int .i64 0]) 7 120 Tryz.underlying22 hi hz0 hz1 hz2 rfl (by decide) _ 0 [] rfl HO1.out ad n cap cs rfl hcl (fun j u hj => HNw.out _ j u hj) HO.out (by unfold maxLen; omega) (by omega) (by simp) ?_; intro v' w2 ho hg _ _; have HO2 := Lib.hid ho; have HG := Lib.hid hg; obtain ⟨a2, c2, rfl⟩ := ownsRow_form ho; clear ho hg))
    go_ret
    refine ⟨_, cs, rfl, ?_, HBM.out, ?_⟩
    · have := HO2.out
      rwa [Nat.zero_add, List.nil_append] at this
    · exact ((Below.refl _ _).alloc (Nat.le_refl _) _).grown HG.out (by simp) (fun c e => (HO1.out.lt c e).1)
end Go.Proofs.YthdnlndpmmiboaaGreatDoor
namespace Go.Proofs.YthdnlndpmmiboaaGreatDoor
open Go Go.RowKit Go.Shelf Go.Maps

theorem Tryz.infoLL : (Tryz.prog.info? 27).map (fun i => (i.zero, i.size, i.bytes)) = some (some (.slice none 0 0), 1, 24) := by kernel_rfl
/-- A row owned from base on, whose block is in F. -/
def RowF (F : Nat → Prop) (w : World) (base : Nat) (e : TypeId) (v : Value) (n : Nat) (xs : List Value) : Prop := w.ownsRow base e 1 v n xs ∧ ∀ x, v.ownBlock = some x → F x
theorem RowF.keeps {F : Nat → Prop} {w w' : World} {base n : Nat} {e : TypeId} {v : Value} {xs : List Value} (h : RowF F w base e v n xs) {R : Nat → Prop} (hk : Keeps R w w') (hr : ∀ x, x < w.heap.size → F x → R x) : RowF F w' base e v n xs :=
  ⟨ownsRow_keeps h.1 hk fun x e => hr x (h.1.lt x e).2 (h.2 x e), h.2⟩
theorem RowF.nil (F : Nat → Prop) (w : World) (base : Nat) (e : TypeId) : RowF F w base e (.slice none 0 0) 0 [] := ⟨World.ownsRow_nil _ _ _ _, fun x e => by cases e⟩
theorem RowF.mono {F F' : Nat → Prop} {w : World} {base n : Nat} {e : TypeId} {v : Value} {xs : List Value} (h : RowF F w base e v n xs) (hf : ∀ x, x < w.heap.size → F x → F' x) : RowF F' w base e v n xs := ⟨h.1, fun x e => hf x (h.1.lt x e).2 (h.2 x e)⟩
def RowsF (F : Nat → Prop) (w : World) (base : Nat) (us : List Value) (ll : List (List Int)) : Prop := ∀ (i : Nat) (u : Value) (l : List Int), us[i]? = some u → ll[i]? = some l → RowF F w base 3 u l.length (l.map encZ)
def LLF (F : Nat → Prop) (w : World) (base : Nat) (v : Value) (ll : List (List Int)) : Prop := ∃ us, RowF F w base 33 v ll.length us ∧ RowsF F w base us ll
theorem LLF.own {F : Nat → Prop} {w : World} {base : Nat} {v : Value} {ll : List (List Int)} (h : LLF F w base v ll) : OwnLL base w v ll := by
  obtain ⟨us, h1, h2⟩ := h
  have hl : us.length = ll.length := by have := h1.1.1; omega
  exact ⟨us, hl, by rw [hl]; exact h1.1, fun i u l hu hl => (h2 i u l hu hl).1⟩
theorem LLF.of {F : Nat → Prop} {w : World} {base : Nat} {v : Value} {ll : List (List Int)} (h : OwnLL base w v ll) (hf : ∀ x, base ≤ x → F x) : LLF F w base v ll := by
  obtain ⟨us, h1, h2, h3⟩ := h
  rw [h1] at h2
  exact ⟨us, ⟨h2, fun x e => hf x (h2.lt x e).1⟩, fun i u l hu hl => ⟨h3 i u l hu hl, fun x e => hf x ((h3 i u l hu hl).lt x e).1⟩⟩
theorem RowF.base {F : Nat → Prop} {w : World} {base base' n : Nat} {e : TypeId} {v : Value} {xs : List Value} (h : RowF F w base e v n xs) (hb : base' ≤ base) : RowF F w base' e v n xs := ⟨ownsRow_base h.1 hb, h.2⟩
theorem LLF.base {F : Nat → Prop} {w : World} {base base' : Nat} {v : Value} {ll : List (List Int)} (h : LLF F w base v ll) (hb : base' ≤ base) : LLF F w base' v ll := by
  obtain ⟨us, h1, h2⟩ := h
  exact ⟨us, h1.base hb, fun i u l hu hl => (h2 i u l hu hl).base hb⟩
/-- The maker: its block mb, its map ob. -/
structure Mk (F : Nat → Prop) (w : World) (base mb ob f : Nat) (pv cv : Value) (ps : List PT) (rows : List (List (List Int))) (nx : List (List Int)) (sv nv kv : Value) (us ns ks : List Value) : Prop where
  blk : Blk w mb #[pv, .int .i64 f, sv, .map (some ob), cv, nv, kv] 109
  map : IsMs w ob rows
  fm : F mb
  fo : F ob
  bm : base ≤ mb
  bo : base ≤ ob
  st : RowF F w base 27 sv rows.length us
  stI : ∀ (i : Nat) (u : Value) (r : List (List Int)), us[i]? = some u → rows[i]? = some r → LLF F w base u r ∧ Far u nv ∧ Far u kv
  nxr : RowF F w base 33 nv nx.length ns
  nxI : RowsF F w base ns nx
  mkr : RowF F w base 33 kv rows.length ks
  mkI : RowsF F w base ks (rows.map (marksR ps))
  far : Far nv kv
theorem Mk.keeps {F : Nat → Prop} {w w' : World} {base mb ob f : Nat} {pv cv : Value} {ps : List PT} {rows : List (List (List Int))} {nx : List (List Int)} {sv nv kv : Value} {us ns ks : List Value} (h : Mk F w base mb ob f pv cv ps rows nx sv nv kv us ns ks)
    {R : Nat → Prop} (hk : Keeps R w w') (hr : ∀ x, x < w.heap.size → F x → R x) : Mk F w' base mb ob f pv cv ps rows nx sv nv kv us ns ks where
  blk := h.blk.keeps hk (hr _ h.blk.lt h.fm)
  map := h.map.keeps hk (hr _ h.map.lt h.fo)
  fm := h.fm
  fo := h.fo
  bm := h.bm
  bo := h.bo
  st := h.st.keeps hk hr
  stI := fun i u r hu hl => by
    obtain ⟨⟨vs, h1, h2⟩, h3⟩ := h.stI i u r hu hl
    exact ⟨⟨vs, h1.keeps hk hr, fun i u l hu hl => (h2 i u l hu hl).keeps hk hr⟩, h3⟩
  nxr := h.nxr.keeps hk hr
  nxI := fun i u l hu hl => (h.nxI i u l hu hl).keeps hk hr
  mkr := h.mkr.keeps hk hr
  mkI := fun i u l hu hl => (h.mkI i u l hu hl).keeps hk hr
  far := h.far
theorem Mk.mono {F F' : Nat → Prop} {w : World} {base mb ob f : Nat} {pv cv : Value} {ps : List PT} {rows : List (List (List Int))} {nx : List (List Int)} {sv nv kv : Value} {us ns ks : List Value} (h : Mk F w base mb ob f pv cv ps rows nx sv nv kv us ns ks)
    (hf : ∀ x, x < w.heap.size → F x → F' x) : Mk F' w base mb ob f pv cv ps rows nx sv nv kv us ns ks where
  blk := h.blk
  map := h.map
  fm := hf _ h.blk.lt h.fm
  fo := hf _ h.map.lt h.fo
  bm := h.bm
  bo := h.bo
  st := h.st.mono hf
  stI := fun i u r hu hl => by
    obtain ⟨⟨vs, h1, h2⟩, h3⟩ := h.stI i u r hu hl
    exact ⟨⟨vs, h1.mono hf, fun i u l hu hl => (h2 i u l hu hl).mono hf⟩, h3⟩
  nxr := h.nxr.mono hf
  nxI := fun i u l hu hl => (h.nxI i u l hu hl).mono hf
  mkr := h.mkr.mono hf
  mkI := fun i u l hu hl => (h.mkI i u l hu hl).mono hf
  far := h.far
theorem Mk.below {F : Nat → Prop} {w w' : World} {base mb ob f : Nat} {pv cv : Value} {ps : List PT} {rows : List (List (List Int))} {nx : List (List Int)} {sv nv kv : Value} {us ns ks : List Value} (h : Mk F w base mb ob f pv cv ps rows nx sv nv kv us ns ks)
    (hk : Below w.heap.size w w') : Mk F w' base mb ob f pv cv ps rows nx sv nv kv us ns ks := h.keeps (Keeps.of_below hk fun _ h => h : Keeps (· < w.heap.size) w w') fun _ h _ => h
/-- .. with what is known of it alone. -/
def MkX (F : Nat → Prop) (w : World) (base mb ob f : Nat) (pv cv : Value) (ps : List PT) (rows : List (List (List Int))) (nx : List (List Int)) : Prop := ∃ sv nv kv us ns ks, Mk F w base mb ob f pv cv ps rows nx sv nv kv us ns ks
/-- A row's block is neither another type's block nor a map. -/
theorem row_nb {w : World} {base size n : Nat} {e : TypeId} {v : Value} {xs : List Value} (h : w.ownsRow base e size v n xs) {b : Nat} {o : Obj} (hb : w.heap[b]? = some o) (ho : ∀ c fz, o ≠ .cells c e fz) : ∀ x, v.ownBlock = some x → x ≠ b := fun x hx e2 => by
  subst e2
  rcases h.2 with ⟨rfl, _⟩ | ⟨g, c, cur, rfl, _, hg, _⟩
  · cases hx
  · have : g = x := by simpa [Value.ownBlock] using hx
    subst this
    rw [hb] at hg
    exact ho _ _ (Option.some.inj hg)
theorem compactK_any (base : Nat) (v : Value) (n : Nat) (l : List Int) (w : World) (ho : w.ownsRow base 3 1 v n (l.map encZ)) (hn : n ≤ 1000000) :
    Calls Tryz.prog 96 #[v] w fun e w' => ∃ u, e = .returned u ∧ w'.ownsRow base 3 1 u (Lib.compact l).length ((Lib.compact l).map encZ) ∧ Keeps (fun x => x < w.heap.size ∧ v.ownBlock ≠ some x) w w' ∧
      ((v = .slice none 0 0 ∧ u = .slice none 0 0) ∨ ∃ g cap, v = .slice (some ⟨g, 0, none⟩) n cap ∧ u = .slice (some ⟨g, 0, none⟩) (Lib.compact l).length cap) := by
  have hl : l.length = n := by have := ho.1; simpa using this
  rcases ho.2 with ⟨rfl, rfl⟩ | ⟨g, cap, cur, rfl, hbg, hg, hnc, hcm, _⟩
  · have hl0 : l = [] := List.eq_nil_of_length_eq_zero hl
    subst hl0
    exact (Any.slices_Compact_int_empty Tryz.compactI none 0 w).mono fun e w' ⟨he, hw⟩ => ⟨_, he, by rw [hw]; exact ho, by rw [hw]; exact Keeps.refl _ _, .inl ⟨rfl, rfl⟩⟩
  · have hc : ∀ j, j < l.length → w.cell? ⟨g, 0 + j, none⟩ = some (.int .i64 (l.getD j 0)) := fun j hj => by
      rw [Nat.zero_add, ho.cellAt j (by omega), List.getElem?_map, List.getElem?_eq_getElem hj]
      simp [encZ, hj]
    have := Any.slices_Compact_int_cells Tryz.compactI g 0 n cap l w (by omega) (by omega) hnc hc (fun j _ => ho.frozenAt _)
    rw [List.take_of_length_le (by omega)] at this
    refine this.mono fun e w' ⟨he, q, hw⟩ => ⟨_, he, ?_⟩
    have hle := Lib.compact_length_le l
    have hd : (w.drewN q).ownsRow base 3 1 (.slice (some ⟨g, 0, none⟩) n cap) n (l.map encZ) := ho
    obtain ⟨a1, a2⟩ := ownsRow_wrote hd (ys := (Lib.compact l ++ List.replicate (n - (Lib.compact l).length) 0).map (Value.int .i64)) (by rw [List.length_map, List.length_append, List.length_replicate]; omega)
    have hd2 : Keeps (· ≠ g) w (w.drewN q) := ⟨rfl, rfl, rfl, Nat.le_refl _, fun _ _ => rfl⟩
    rw [hw]
    refine ⟨?_, (hd2.tr a2).mono fun x hx e => hx.2 (by rw [e]; rfl), .inr ⟨g, cap, rfl, rfl⟩⟩
    have := ownsRow_cut a1 (m := (Lib.compact l).length) (by omega)
    have e : List.take (Lib.compact l).length ((Lib.compact l ++ List.replicate (n - (Lib.compact l).length) 0).map (Value.int .i64)) = (Lib.compact l).map encZ := by
      rw [List.map_append, List.take_left' (by rw [List.length_map])]; rfl
    rw [e] at this
    exact this
end Go.Proofs.YthdnlndpmmiboaaGreatDoor
