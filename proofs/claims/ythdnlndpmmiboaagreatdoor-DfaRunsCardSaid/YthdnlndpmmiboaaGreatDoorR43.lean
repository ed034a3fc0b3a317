/-
  The automaton of parts with the fuel that the law hands the reference.
  The law's makes of automata of parts: what its first loop keeps.
  The maker of dfa in memory.
-/
import Derived.Test.YthdnlndpmmiboaaGreatDoorR41
import Derived.Test.YthdnlndpmmiboaaGreatDoorR13
import Derived.Test.YthdnlndpmmiboaaGreatDoorR30
import Derived.Test.YthdnlndpmmiboaaGreatDoorR19
import Derived.Test.YthdnlndpmmiboaaGreatDoorR29
import Derived.Test.YthdnlndpmmiboaaGreatDoorR20
import Derived.Test.YthdnlndpmmiboaaGreatDoorR22
import Derived.Test.YthdnlndpmmiboaaGreatDoorR11
namespace Go.Proofs.YthdnlndpmmiboaaGreatDoor
open Go Go.RowKit Go.Shelf Go.Maps

theorem risB_ge8 {l : List Int} (h : risB l = true) : ∀ k, k < l.length → (k : Int) ≤ l.getD k 0 ∧ l.getD k 0 ≤ 255 := by
  unfold risB at h
  rw [List.all_eq_true] at h
  intro k
  induction k with
  | zero =>
    intro hk
    have := h 0 (by simpa using hk)
    unfold risAt prevOf at this
    simp at this
    refine ⟨?_, ?_⟩ <;> simp [List.getD_eq_getElem?_getD] at * <;> omega
  | succ k ih =>
    intro hk
    have h1 := ih (by omega)
    have := h (k + 1) (by simpa using hk)
    unfold risAt prevOf at this
    rw [if_neg (by omega), Bool.and_eq_true, decide_eq_true_eq, decide_eq_true_eq, Nat.add_sub_cancel] at this
    push_cast
    omega
theorem Rt.sm8 {d : DF} (h : Rt d) : Sm d := by
  have hn := h.le
  have hk := h.clle
  have idx : ∀ (ll : List (List Int)) (l : List Int), l ∈ ll → ∃ i, i < ll.length ∧ ll.getD i [] = l := fun ll l hl => by
    obtain ⟨i, hi⟩ := List.getElem?_of_mem hl
    exact ⟨i, (List.getElem?_eq_some_iff.1 hi).1, getD_some hi⟩
  refine ⟨by omega, by omega, by have := h.mr; omega, fun l hl => ?_, fun l hl => ?_⟩
  · obtain ⟨i, h1, h2⟩ := idx _ _ hl
    have := h.len i h1
    rw [h2] at this
    omega
  · obtain ⟨i, h1, h2⟩ := idx _ _ hl
    have hr := h.ris i (by have := h.mr; omega)
    rw [h2] at hr
    by_cases h0 : l.length = 0
    · omega
    · have := risB_ge8 hr (l.length - 1) (by omega)
      omega
end Go.Proofs.YthdnlndpmmiboaaGreatDoor
namespace Go.Proofs.YthdnlndpmmiboaaGreatDoor
open Go Go.RowKit Go.Shelf Go.Maps

/-- The seven cells of a part. -/
def cells7 (v0 v1 v2 v3 : Value) (x : PT) : List Value := [v0, v1, v2, v3, .bool x.nf.emp, .bool x.beg, .int .i64 x.mark]
/-- So many parts stand in the reference's row, so many are copied. -/
structure MkI (w W : World) (ps : List PT) (kp ko : Nat) (pv ov : Value) (xs cs : List Value) : Prop where
  prow : W.ownsRow w.heap.size 45 7 pv kp xs
  prt : ∀ (i : Nat) (x : PT), i < kp → ps[i]? = some x → PtIs (OwnRn w.heap.size) W x fun j => xs[i * 7 + j]?
  orow : W.ownsRow w.heap.size 37 7 ov ps.length cs
  own : ∀ (i : Nat) (x : PT), i < ko → ps[i]? = some x → PtIs (OwnNf w.heap.size) W x fun j => cs[i * 7 + j]?
  rest : ∀ (i : Nat) (x : PT), ps[i]? = some x → cs[i * 7 + 5]? = some (.bool x.beg) ∧ cs[i * 7 + 6]? = some (.int .i64 x.mark)
  below : Below w.heap.size w W
theorem MkI.start {w W : World} {ps : List PT} {ov : Value} {cs : List Value} (ho : W.ownsRow w.heap.size 37 7 ov ps.length cs) (hr : ∀ (i : Nat) (x : PT), ps[i]? = some x → cs[i * 7 + 5]? = some (.bool x.beg) ∧ cs[i * 7 + 6]? = some (.int .i64 x.mark)) (hb : Below w.heap.size w W) : MkI w W ps 0 0 (.slice none 0 0) ov [] cs :=
  ⟨World.ownsRow_nil _ _ _ _, fun _ _ h => absurd h (Nat.not_lt_zero _), ho, fun _ _ h => absurd h (Nat.not_lt_zero _), hr, hb⟩
theorem MkI.next {w W W' : World} {ps : List PT} {kp ko : Nat} {pv ov : Value} {xs cs : List Value} (h : MkI w W ps kp ko pv ov xs cs) (hk : Below W.heap.size W W') : MkI w W' ps kp ko pv ov xs cs :=
  ⟨ownsRow_below h.prow hk, fun i x hi hx => (h.prt i x hi hx).mono (fun _ hv => hv.below hk) fun _ _ _ hu => hu, ownsRow_below h.orow hk, fun i x hi hx => (h.own i x hi hx).mono (fun _ hv => hv.below hk) fun _ _ _ hu => hu, h.rest, h.below.trans (hk.mono h.below.size)⟩
theorem append7 {xs : List Value} {k i j : Nat} (hl : xs.length = k * 7) (c : List Value) (hj : j < 7) (hi : i < k) : (xs ++ c)[i * 7 + j]? = xs[i * 7 + j]? := List.getElem?_append_left (by omega)
theorem append7_at {xs : List Value} {k j : Nat} (hl : xs.length = k * 7) (c : List Value) : (xs ++ c)[k * 7 + j]? = c[j]? := by
  rw [List.getElem?_append_right (by omega), hl]; congr 1; omega
/-- One more part of the reference. -/
theorem MkI.more {w W W' : World} {ps : List PT} {k ko : Nat} {pv pv' ov v0 v1 v2 v3 : Value} {xs cs : List Value} {x : PT} (h : MkI w W ps k ko pv ov xs cs) (hx : ps[k]? = some x)
    (hn : OwnRn w.heap.size W (.agg #[v0, v1, v2, v3, .bool x.nf.emp]) x.nf) (hg : W.grownBy W' pv.ownBlock) (ho : W'.ownsRow w.heap.size 45 7 pv' (k + 1) (xs ++ cells7 v0 v1 v2 v3 x)) : MkI w W' ps (k + 1) ko pv' ov (xs ++ cells7 v0 v1 v2 v3 x) cs := by
  have hkp : Keeps (fun y => y < W.heap.size ∧ pv.ownBlock ≠ some y) W W' := Keeps.of_grown hg fun y hy => ⟨hy.1, fun e => hy.2 e.symm⟩
  have hl := h.prow.1
  refine ⟨ho, fun i y hi hy => ?_, row_far (by decide) h.orow h.prow hkp, fun i y hi hy => (h.own i y hi hy).mono (fun _ hv => hv.far h.prow (by decide) (by decide) (by decide) hkp) fun _ _ _ hu => hu, h.rest, ?_⟩
  · by_cases e : i < k
    · exact (h.prt i y e hy).mono (fun _ hv => hv.far h.prow (by decide) (by decide) (by decide) hkp) fun j hj u hu => (append7 hl _ hj e).trans hu
    · obtain rfl : i = k := by omega
      rw [hx] at hy
      cases hy
      refine ⟨v0, v1, v2, v3, hn.far h.prow (by decide) (by decide) (by decide) hkp, ?_, ?_, ?_, ?_, ?_, ?_, ?_⟩ <;> exact append7_at hl _
  · exact h.below.trans ((Below.refl _ _).grown hg h.below.size (fun c e => (h.prow.lt c e).1))
/-- The cells of a row where a part's first five have been written. -/
def put5 (cs : List Value) (k : Nat) (v0 v1 v2 v3 v4 : Value) : List Value := ((((cs.set (k * 7) v0).set (k * 7 + 1) v1).set (k * 7 + 2) v2).set (k * 7 + 3) v3).set (k * 7 + 4) v4
def putPW (W : World) (g k : Nat) (v0 v1 v2 v3 v4 : Value) : World := ((((W.setCell ⟨g, k * 7, none⟩ v0).setCell ⟨g, k * 7 + 1, none⟩ v1).setCell ⟨g, k * 7 + 2, none⟩ v2).setCell ⟨g, k * 7 + 3, none⟩ v3).setCell ⟨g, k * 7 + 4, none⟩ v4
theorem putPW_keeps (W : World) (g k : Nat) (v0 v1 v2 v3 v4 : Value) : Keeps (· ≠ g) W (putPW W g k v0 v1 v2 v3 v4) :=
  (((((Keeps.refl _ W).setCell (p := ⟨g, k * 7, none⟩) (fun h => h rfl) _).setCell (p := ⟨g, k * 7 + 1, none⟩) (fun h => h rfl) _).setCell (p := ⟨g, k * 7 + 2, none⟩) (fun h => h rfl) _).setCell (p := ⟨g, k * 7 + 3, none⟩) (fun h => h rfl) _).setCell (p := ⟨g, k * 7 + 4, none⟩) (fun h => h rfl) _
theorem put5_other {cs : List Value} {k i j : Nat} {v0 v1 v2 v3 v4 : Value} (h : i * 7 + j < k * 7 ∨ k * 7 + 4 < i * 7 + j) : (put5 cs k v0 v1 v2 v3 v4)[i * 7 + j]? = cs[i * 7 + j]? := by
  unfold put5
  rw [List.getElem?_set_ne (by omega), List.getElem?_set_ne (by omega), List.getElem?_set_ne (by omega), List.getElem?_set_ne (by omega), List.getElem?_set_ne (by omega)]
/-- One more part is copied. -/
theorem MkI.put {w W : World} {ps : List PT} {kp k g n cap : Nat} {pv v0 v1 v2 v3 : Value} {xs cs : List Value} {x : PT} (h : MkI w W ps kp k pv (.slice (some ⟨g, 0, none⟩) n cap) xs cs) (hn : n = ps.length) (hx : ps[k]? = some x)
    (ho : OwnNf w.heap.size W (.agg #[v0, v1, v2, v3, .bool x.nf.emp]) x.nf) : MkI w (putPW W g k v0 v1 v2 v3 (.bool x.nf.emp)) ps kp (k + 1) pv (.slice (some ⟨g, 0, none⟩) n cap) xs (put5 cs k v0 v1 v2 v3 (.bool x.nf.emp)) := by
  have hk := (List.getElem?_eq_some_iff.1 hx).1
  subst hn
  have hl := h.orow.1
  have hrow : (putPW W g k v0 v1 v2 v3 (.bool x.nf.emp)).ownsRow w.heap.size 37 7 (.slice (some ⟨g, 0, none⟩) ps.length cap) ps.length (put5 cs k v0 v1 v2 v3 (.bool x.nf.emp)) :=
    (((((h.orow.stored (k * 7) v0).1.stored (k * 7 + 1) v1).1.stored (k * 7 + 2) v2).1.stored (k * 7 + 3) v3).1.stored (k * 7 + 4) _).1
  have hkp : Keeps (fun y => y < W.heap.size ∧ (Value.slice (some ⟨g, 0, none⟩) ps.length cap).ownBlock ≠ some y) W (putPW W g k v0 v1 v2 v3 (.bool x.nf.emp)) := (putPW_keeps _ _ _ _ _ _ _ _).mono fun y hy e => hy.2 (by rw [e]; rfl)
  refine ⟨row_far (by decide) h.prow h.orow hkp, fun i y hi hy => (h.prt i y hi hy).mono (fun _ hv => hv.far h.orow (by decide) (by decide) (by decide) hkp) fun _ _ _ hu => hu, hrow, fun i y hi hy => ?_, fun i y hy => ?_, h.below.trans ((putPW_keeps _ _ _ _ _ _ _ _).mono fun y (hy : y < w.heap.size) e => ?_ : Keeps (· < w.heap.size) _ _).below⟩
  · by_cases e : i < k
    · exact (h.own i y e hy).mono (fun _ hv => hv.far h.orow (by decide) (by decide) (by decide) hkp) fun j hj u hu => (put5_other (.inl (by omega))).trans hu
    · obtain rfl : i = k := by omega
      rw [hx] at hy
      cases hy
      obtain ⟨r5, r6⟩ := h.rest i x hx
      refine ⟨v0, v1, v2, v3, ho.far h.orow (by decide) (by decide) (by decide) hkp, ?_, ?_, ?_, ?_, ?_, (put5_other (.inr (by omega))).trans r5, (put5_other (.inr (by omega))).trans r6⟩
      · show (put5 cs i v0 v1 v2 v3 _)[i * 7 + 0]? = _
        unfold put5
        rw [List.getElem?_set_ne (by omega), List.getElem?_set_ne (by omega), List.getElem?_set_ne (by omega), List.getElem?_set_ne (by omega), Nat.add_zero, List.getElem?_set_self (by omega)]
      · show (put5 cs i v0 v1 v2 v3 _)[i * 7 + 1]? = _
        unfold put5
        rw [List.getElem?_set_ne (by omega), List.getElem?_set_ne (by omega), List.getElem?_set_ne (by omega), List.getElem?_set_self (by simp; omega)]
      · show (put5 cs i v0 v1 v2 v3 _)[i * 7 + 2]? = _
        unfold put5
        rw [List.getElem?_set_ne (by omega), List.getElem?_set_ne (by omega), List.getElem?_set_self (by simp; omega)]
      · show (put5 cs i v0 v1 v2 v3 _)[i * 7 + 3]? = _
        unfold put5
        rw [List.getElem?_set_ne (by omega), List.getElem?_set_self (by simp; omega)]
      · show (put5 cs i v0 v1 v2 v3 _)[i * 7 + 4]? = _
        unfold put5
        rw [List.getElem?_set_self (by simp; omega)]
  · obtain ⟨r5, r6⟩ := h.rest i y hy
    have hik : i < k ∨ i = k ∨ k < i := by omega
    exact ⟨(put5_other (by omega)).trans r5, (put5_other (by omega)).trans r6⟩
  · have := (h.orow.lt g rfl).1; omega
theorem OwnRn.form {base : Nat} {w : World} {v : Value} {a : NF} (h : OwnRn base w v a) : ∃ a0 n0 c0 a1 n1 c1 a2 n2 c2 a3 n3 c3, v = .agg #[.slice a0 n0 c0, .slice a1 n1 c1, .slice a2 n2 c2, .slice a3 n3 c3, .bool a.emp] := by
  obtain ⟨v0, v1, v2, v3, rfl, h0, h1, h2, h3⟩ := h
  obtain ⟨a0, c0, rfl⟩ := ownsRow_form h0
  obtain ⟨a1, c1, rfl⟩ := h1.form
  obtain ⟨a2, c2, rfl⟩ := ownsRow_form h2
  obtain ⟨a3, c3, rfl⟩ := ownsRow_form h3
  exact ⟨_, _, _, _, _, _, _, _, _, _, _, _, rfl⟩
theorem OwnNf.form {base : Nat} {w : World} {v : Value} {a : NF} (h : OwnNf base w v a) : ∃ a0 n0 c0 a1 n1 c1 a2 n2 c2 a3 n3 c3, v = .agg #[.slice a0 n0 c0, .slice a1 n1 c1, .slice a2 n2 c2, .slice a3 n3 c3, .bool a.emp] := by
  obtain ⟨v0, v1, v2, v3, rfl, h0, h1, h2, h3⟩ := h
  obtain ⟨a0, c0, rfl⟩ := ownsRow_form h0
  obtain ⟨a1, c1, rfl⟩ := h1.form
  obtain ⟨a2, c2, rfl⟩ := ownsRow_form h2
  obtain ⟨a3, c3, rfl⟩ := ownsRow_form h3
  exact ⟨_, _, _, _, _, _, _, _, _, _, _, _, rfl⟩
end Go.Proofs.YthdnlndpmmiboaaGreatDoor
namespace Go.Proofs.YthdnlndpmmiboaaGreatDoor
open Go Go.RowKit Go.Shelf Go.Maps

theorem Tryz.infoLL : (Tryz.prog.info? 27).map (fun i => (i.zero, i.size, i.bytes)) = some (some (.slice none 0 0), 1, 24) := by kernel_rfl
/-- A row owned from base on, whose block is in F. -/
def RowF (F : Nat → Prop) (w : World) (base : Nat) (e : TypeId) (v : Value) (n : Nat) (xs : List Value) : Prop := w.ownsRow base e 1 v n xs ∧ ∀ x, v.ownBlock = some x → F x
theorem RowF.keeps {F : Nat → Prop} {w w' : World} {base n : Nat} {e : TypeId} {v : Value} {xs : List Value} (h : RowF F w base e v n xs) {R : Nat → Prop} (hk : Keeps R w w') (hr : ∀ x, x < w.heap.size → F x → R x) : RowF F w' base e v n xs :=
  ⟨ownsRow_keeps h.1 hk fun x e => hr x (h.1.lt x e).2 (h.2 x e), h.2⟩
theorem RowF.nil (F : Nat → Prop) (w : World) (base : Nat) (e : TypeId) : RowF F w base e (.slice none 0 0) 0 [] := ⟨World.ownsRow_nil _ _ _ _, fun x e => by cases e⟩
theorem RowF.mono {F F' : Nat → Prop} {w : World} {base n : Nat} {e : TypeId} {v : Value} {xs : List Value} (h : RowF F w base e v n xs) (hf : ∀ x, x < w.heap.size → F x → F' x) : RowF F' w base e v n xs := ⟨h.1, fun x e => hf x (h.1.lt x e).2 (h.2 x e)⟩
def RowsF (F : Nat → Prop) (w : World) (base : Nat) (us : List Value) (ll : List (List Int)) : Prop := ∀ (i : Nat) (u : Value) (l : List Int), us[i]? = some u → ll[i]? = some l → RowF F w base 3 u l.length (l.map encZ)
def LLF (F : Nat → Prop) (w : World) (base : Nat) (v : Value) (ll : List (List Int)) : Prop := ∃ us, RowF F w base 33 v ll.length us ∧ RowsF F w base us ll
theorem LLF.own {F : Nat → Prop} {w : World} {base : Nat} {v : Value} {ll : List (List Int)} (h : LLF F w base v ll) : OwnLL base w v ll := by
  obtain ⟨us, h1, h2⟩ := h
  have hl : us.length = ll.length := by have := h1.1.1; omega
  exact ⟨us, hl, by rw [hl]; exact h1.1, fun i u l hu hl => (h2 i u l hu hl).1⟩
theorem LLF.of {F : Nat → Prop} {w : World} {base : Nat} {v : Value} {ll : List (List Int)} (h : OwnLL base w v ll) (hf : ∀ x, base ≤ x → F x) : LLF F w base v ll := by
  obtain ⟨us, h1, h2, h3⟩ := h
  rw [h1] at h2
  exact ⟨us, ⟨h2, fun x e => hf x (h2.lt x e).1⟩, fun i u l hu hl => ⟨h3 i u l hu hl, fun x e => hf x ((h3 i u l hu hl).lt x e).1⟩⟩
theorem RowF.base {F : Nat → Prop} {w : World} {base base' n : Nat} {e : TypeId} {v : Value} {xs : List Value} (h : RowF F w base e v n xs) (hb : base' ≤ base) : RowF F w base' e v n xs := ⟨ownsRow_base h.1 hb, h.2⟩
theorem LLF.base {F : Nat → Prop} {w : World} {base base' : Nat} {v : Value} {ll : List (List Int)} (h : LLF F w base v ll) (hb : base' ≤ base) : LLF F w base' v ll := by
  obtain ⟨us, h1, h2⟩ := h
  exact ⟨us, h1.base hb, fun i u l hu hl => (h2 i u l hu hl).base hb⟩
/-- The maker: its block mb, its map ob. -/
structure Mk (F : Nat → Prop) (w : World) (base mb ob f : Nat) (pv cv : Value) (ps : List PT) (rows : List (List (List Int))) (nx : List (List Int)) (sv nv kv : Value) (us ns ks : List Value) : Prop where
  blk : Blk w mb #[pv, .int .i64 f, sv, .map (some ob), cv, nv, kv] 109
  map : IsMs w ob rows
  fm : F mb
  fo : F ob
  bm : base ≤ mb
  bo : base ≤ ob
  st : RowF F w base 27 sv rows.length us
  stI : ∀ (i : Nat) (u : Value) (r : List (List Int)), us[i]? = some u → rows[i]? = some r → LLF F w base u r ∧ Far u nv ∧ Far u kv
  nxr : RowF F w base 33 nv nx.length ns
  nxI : RowsF F w base ns nx
  mkr : RowF F w base 33 kv rows.length ks
  mkI : RowsF F w base ks (rows.map (marksR ps))
  far : Far nv kv
theorem Mk.keeps {F : Nat → Prop} {w w' : World} {base mb ob f : Nat} {pv cv : Value} {ps : List PT} {rows : List (List (List Int))} {nx : List (List Int)} {sv nv kv : Value} {us ns ks : List Value} (h : Mk F w base mb ob f pv cv ps rows nx sv nv kv us ns ks)
    {R : Nat → Prop} (hk : Keeps R w w') (hr : ∀ x, x < w.heap.size → F x → R x) : Mk F w' base mb ob f pv cv ps rows nx sv nv kv us ns ks where
  blk := h.blk.keeps hk (hr _ h.blk.lt h.fm)
  map := h.map.keeps hk (hr _ h.map.lt h.fo)
  fm := h.fm
  fo := h.fo
  bm := h.bm
  bo := h.bo
  st := h.st.keeps hk hr
  stI := fun i u r hu hl => by
    obtain ⟨⟨vs, h1, h2⟩, h3⟩ := h.stI i u r hu hl
    exact ⟨⟨vs, h1.keeps hk hr, fun i u l hu hl => (h2 i u l hu hl).keeps hk hr⟩, h3⟩
  nxr := h.nxr.keeps hk hr
  nxI := fun i u l hu hl => (h.nxI i u l hu hl).keeps hk hr
  mkr := h.mkr.keeps hk hr
  mkI := fun i u l hu hl => (h.mkI i u l hu hl).keeps hk hr
  far := h.far
theorem Mk.mono {F F' : Nat → Prop} {w : World} {base mb ob f : Nat} {pv cv : Value} {ps : List PT} {rows : List (List (List Int))} {nx : List (List Int)} {sv nv kv : Value} {us ns ks : List Value} (h : Mk F w base mb ob f pv cv ps rows nx sv nv kv us ns ks)
    (hf : ∀ x, x < w.heap.size → F x → F' x) : Mk F' w base mb ob f pv cv ps rows nx sv nv kv us ns ks where
  blk := h.blk
  map := h.map
  fm := hf _ h.blk.lt h.fm
  fo := hf _ h.map.lt h.fo
  bm := h.bm
  bo := h.bo
  st := h.st.mono hf
  stI := fun i u r hu hl => by
    obtain ⟨⟨vs, h1, h2⟩, h3⟩ := h.stI i u r hu hl
    exact ⟨⟨vs, h1.mono hf, fun i u l hu hl => (h2 i u l hu hl).mono hf⟩, h3⟩
  nxr := h.nxr.mono hf
  nxI := fun i u l hu hl => (h.nxI i u l hu hl).mono hf
  mkr := h.mkr.mono hf
  mkI := fun i u l hu hl => (h.mkI i u l hu hl).mono hf
  far := h.far
theorem Mk.below {F : Nat → Prop} {w w' : World} {base mb ob f : Nat} {pv cv : Value} {ps : List PT} {rows : List (List (List Int))} {nx : List (List Int)} {sv nv kv : Value} {us ns ks : List Value} (h : Mk F w base mb ob f pv cv ps rows nx sv nv kv us ns ks)
    (hk : Below w.heap.size w w') : Mk F w' base mb ob f pv cv ps rows nx sv nv kv us ns ks := h.keeps (Keeps.of_below hk fun _ h => h : Keeps (· < w.heap.size) w w') fun _ h _ => h
/-- .. with what is known of it alone. -/
def MkX (F : Nat → Prop) (w : World) (base mb ob f : Nat) (pv cv : Value) (ps : List PT) (rows : List (List (List Int))) (nx : List (List Int)) : Prop := ∃ sv nv kv us ns ks, Mk F w base mb ob f pv cv ps rows nx sv nv kv us ns ks
/-- A row's block is neither another type's block nor a map. -/
theorem row_nb {w : World} {base size n : Nat} {e : TypeId} {v : Value} {xs : List Value} (h : w.ownsRow base e size v n xs) {b : Nat} {o : Obj} (hb : w.heap[b]? = some o) (ho : ∀ c fz, o ≠ .cells c e fz) : ∀ x, v.ownBlock = some x → x ≠ b := fun x hx e2 => by
  subst e2
  rcases h.2 with ⟨rfl, _⟩ | ⟨g, c, cur, rfl, _, hg, _⟩
  · cases hx
  · have : g = x := by simpa [Value.ownBlock] using hx
    subst this
    rw [hb] at hg
    exact ho _ _ (Option.some.inj hg)
theorem compactK_any (base : Nat) (v : Value) (n : Nat) (l : List Int) (w : World) (ho : w.ownsRow base 3 1 v n (l.map encZ)) (hn : n ≤ 1000000) :
    Calls Tryz.prog 96 #[v] w fun e w' => ∃ u, e = .returned u ∧ w'.ownsRow base 3 1 u (Lib.compact l).length ((Lib.compact l).map encZ) ∧ Keeps (fun x => x < w.heap.size ∧ v.ownBlock ≠ some x) w w' ∧
      ((v = .slice none 0 0 ∧ u = .slice none 0 0) ∨ ∃ g cap, v = .slice (some ⟨g, 0, none⟩) n cap ∧ u = .slice (some ⟨g, 0, none⟩) (Lib.compact l).length cap) := by
  have hl : l.length = n := by have := ho.1; simpa using this
  rcases ho.2 with ⟨rfl, rfl⟩ | ⟨g, cap, cur, rfl, hbg, hg, hnc, hcm, _⟩
  · have hl0 : l = [] := List.eq_nil_of_length_eq_zero hl
    subst hl0
    exact (Any.slices_Compact_int_empty Tryz.compactI none 0 w).mono fun e w' ⟨he, hw⟩ => ⟨_, he, by rw [hw]; exact ho, by rw [hw]; exact Keeps.refl _ _, .inl ⟨rfl, rfl⟩⟩
  · have hc : ∀ j, j < l.length → w.cell? ⟨g, 0 + j, none⟩ = some (.int .i64 (l.getD j 0)) := fun j hj => by
      rw [Nat.zero_add, ho.cellAt j (by omega), List.getElem?_map, List.getElem?_eq_getElem hj]
      simp [encZ, hj]
    have := Any.slices_Compact_int_cells Tryz.compactI g 0 n cap l w (by omega) (by omega) hnc hc (fun j _ => ho.frozenAt _)
    rw [List.take_of_length_le (by omega)] at this
    refine this.mono fun e w' ⟨he, q, hw⟩ => ⟨_, he, ?_⟩
    have hle := Lib.compact_length_le l
    have hd : (w.drewN q).ownsRow base 3 1 (.slice (some ⟨g, 0, none⟩) n cap) n (l.map encZ) := ho
    obtain ⟨a1, a2⟩ := ownsRow_wrote hd (ys := (Lib.compact l ++ List.replicate (n - (Lib.compact l).length) 0).map (Value.int .i64)) (by rw [List.length_map, List.length_append, List.length_replicate]; omega)
    have hd2 : Keeps (· ≠ g) w (w.drewN q) := ⟨rfl, rfl, rfl, Nat.le_refl _, fun _ _ => rfl⟩
    rw [hw]
    refine ⟨?_, (hd2.tr a2).mono fun x hx e => hx.2 (by rw [e]; rfl), .inr ⟨g, cap, rfl, rfl⟩⟩
    have := ownsRow_cut a1 (m := (Lib.compact l).length) (by omega)
    have e : List.take (Lib.compact l).length ((Lib.compact l ++ List.replicate (n - (Lib.compact l).length) 0).map (Value.int .i64)) = (Lib.compact l).map encZ := by
      rw [List.map_append, List.take_left' (by rw [List.length_map])]; rfl
    rw [e] at this
    exact this
end Go.Proofs.YthdnlndpmmiboaaGreatDoor
