/-
  dfa.Copy, slices.Clone at slices of slices, the law's theirs, same, spoil and small.
  The law's theirs: an automaton as the reference's.
  The law's same, at equal automata; slices.Equal at equal lists of the reference's sets, EqualFunc at equal lists of numbers.
  slices.Clone at slices of slices; the law's spoil and small.
-/
import Derived.Test.YthdnlndpmmiboaaGreatDoorR14
import Derived.Test.YthdnlndpmmiboaaGreatDoorR06
namespace Go.Proofs.YthdnlndpmmiboaaGreatDoor
open Go Go.RowKit Go.Shelf Go.Maps

/-- Slices of numbers, owned, as what an effect leaves. -/
def Eff.oll (base : Nat) (ll : List (List Int)) : Eff (Move false (fun _ => False)) where
  P := fun v => ∃ a c, v = .slice a ll.length c
  H := fun v W => OwnLL base W v ll
  wit := .slice none ll.length 0
  pw := ⟨none, 0, rfl⟩
  st := fun _ _ _ hm _ h => h.below hm.below
/-- Three cells in a box. -/
theorem Blk.three {w : World} {b : Nat} {x y z : Value} {t : TypeId} (h : Blk w b #[x, y, z] t) : (w.cell? ⟨b, 0, none⟩ = some x ∧ w.cell? ⟨b, 1, none⟩ = some y ∧ w.cell? ⟨b, 2, none⟩ = some z) ∧ w.frozen? ⟨b, 0, none⟩ = false ∧ w.frozen? ⟨b, 1, none⟩ = false ∧ w.frozen? ⟨b, 2, none⟩ = false :=
  ⟨⟨h.cell 0, h.cell 1, h.cell 2⟩, h.frozen 0, h.frozen 1, h.frozen 2⟩
theorem Blk.set3 {w : World} {b : Nat} {x y z x' y' z' : Value} {t : TypeId} (h : Blk w b #[x, y, z] t) : Blk (((w.setCell ⟨b, 0, none⟩ x').setCell ⟨b, 1, none⟩ y').setCell ⟨b, 2, none⟩ z') b #[x', y', z'] t := ((h.set 0 x').set 1 y').set 2 z'
theorem below_set3 {w W : World} {n b : Nat} {x y z : Value} (h : Below n w W) (hb : n ≤ b) : Below n w (((W.setCell ⟨b, 0, none⟩ x).setCell ⟨b, 1, none⟩ y).setCell ⟨b, 2, none⟩ z) :=
  ((h.setCell (by simpa using hb) _).setCell (by simpa using hb) _).setCell (by simpa using hb) _

set_option maxRecDepth 100000 in
set_option maxHeartbeats 4000000 in
theorem copyE_any (v : Value) (d : DF) (w : World) (h : IsDfe w v d) (sm : Sm d) :
    Calls Tryz.prog 25 #[v] w fun e w' => ∃ u, e = .returned u ∧ OwnDf w.heap.size w' u d ∧ Below w.heap.size w w' := by
  obtain ⟨v0, v1, v2, rfl, h0, h1, h2⟩ := h
  obtain ⟨a0, c0, rfl⟩ := h0.1.form
  obtain ⟨a1, c1, rfl⟩ := h1.form
  obtain ⟨a2, c2, rfl⟩ := h2.form
  have SM := Lib.hid sm
  have H0 := Lib.hid h0
  have H1 := Lib.hid h1
  have H2 := Lib.hid h2
  clear h0 h1 h2 sm
  obtain ⟨n0, hn0⟩ : ∃ n, n = d.cl.length := ⟨_, rfl⟩
  obtain ⟨n1, hn1⟩ : ∃ n, n = d.nx.length := ⟨_, rfl⟩
  obtain ⟨n2, hn2⟩ : ∃ n, n = d.mr.length := ⟨_, rfl⟩
  rw [← hn0] at H0 ⊢
  rw [← hn1] at H1 ⊢
  rw [← hn2] at H2 ⊢
  have HN0 := Lib.hid hn0
  have HN1 := Lib.hid hn1
  have HN2 := Lib.hid hn2
  clear hn0 hn1 hn2
  go_enter Tryz.func25, Tryz.ntmps25
  go_wp2
  refine wp_named ?_
  intro V hV
  have HB1 : Hid (Blk V w.heap.size #[.slice a0 n0 c0, .slice a1 n1 c1, .slice a2 n2 c2] 29) := by rw [hV]; exact (Blk.new w _ _).alloc _
  have HB2 : Hid (Blk V (w.heap.size + 1) #[.slice none 0 0, .slice none 0 0, .slice none 0 0] 29) := by rw [hV]; exact (Blk.new (w.alloc _) _ _).at (by simp)
  have HX : Hid (Below w.heap.size w V) := by rw [hV]; exact (((Ext.refl w).alloc _).alloc _).below
  have HS : Hid (w.heap.size + 2 ≤ V.heap.size) := by rw [hV]; exact Lib.hid (by simp)
  clear hV
  refine wp_region_reg false (fun _ => False) (by kernel_rfl) 8 [0, 1, 3, 0, 8, 31, 0, 64, 255, 511, 1023] (fun i => i == 2 || i == 5 || i == 8 || i == 10) (by kernel_rfl) (fun i => if i = 2 then Eff.row (w.heap.size + 2) 65 4 d.cl.length (flatS d.cl) else if i = 5 then Eff.oll (w.heap.size + 2) d.nx else Eff.any _) ?_
  intro C hC hne
  have HC := Lib.hid hC
  have f0 := regCell hC (p := ⟨w.heap.size, 0, none⟩) (by have := HB1.out.lt; exact this) (fun h => h) (HB1.out.cell 0)
  have f1 := regCell hC (p := ⟨w.heap.size, 1, none⟩) (by have := HB1.out.lt; exact this) (fun h => h) (HB1.out.cell 1)
  have f2 := regCell hC (p := ⟨w.heap.size, 2, none⟩) (by have := HB1.out.lt; exact this) (fun h => h) (HB1.out.cell 2)
  clear hC
  repeat (refine regStep (fun K hK => ?_); first | (refine regN rfl ?_; try go_simp; refine hK _ _ ?_; clear hK K) | (refine regF rfl rfl ?_; unfold floatAt; go_simp; refine hK _ _ ?_; clear hK K))
  refine regStep (fun K hK => ?_)
  refine regE rfl rfl (Eff.row (w.heap.size + 2) 65 4 d.cl.length (flatS d.cl)) rfl (fun W hW hN => ?_) (fun v hv => ?_)
  · have hM := (HC.out W).1 hW
    clear hW
    go_simp
    refine effT_call ((cloneSets_any _ d.cl _ ⟨(H0.out.1.below HX.out).below hM.below, H0.out.2⟩ SM.out.cl).mono ?_)
    rintro e w2 ⟨vp, rfl, ho, hx⟩
    exact ⟨_, rfl, Move.of_below hx, ownsRow_form ho, ownsRow_base ho (Nat.le_trans HS.out hM.size)⟩
  obtain ⟨a3, c3, rfl⟩ := hv
  go_simp
  refine hK _ _ ?_
  clear hK K
  repeat (refine regStep (fun K hK => ?_); first | (refine regN rfl ?_; try go_simp; refine hK _ _ ?_; clear hK K) | (refine regF rfl rfl ?_; unfold floatAt; go_simp; refine hK _ _ ?_; clear hK K))
  refine regStep (fun K hK => ?_)
  refine regE rfl rfl (Eff.oll (w.heap.size + 2) d.nx) rfl (fun W hW hN => ?_) (fun v hv => ?_)
  · have hM := (HC.out W).1 hW
    clear hW
    go_simp
    refine effT_call ((listsE_any _ d.nx _ ((H1.out.below HX.out).below hM.below) SM.out.nx SM.out.nxs).mono ?_)
    rintro e w2 ⟨vp, rfl, ho, hx⟩
    exact ⟨_, rfl, Move.of_below hx, ho.form, ho.base (Nat.le_trans HS.out hM.size)⟩
  obtain ⟨a4, c4, rfl⟩ := hv
  go_simp
  refine hK _ _ ?_
  clear hK K
  repeat (refine regStep (fun K hK => ?_); first | (refine regN rfl ?_; try go_simp; refine hK _ _ ?_; clear hK K) | (refine regF rfl rfl ?_; unfold floatAt; go_simp; refine hK _ _ ?_; clear hK K))
  refine regNil (fun W hW hH => ?_)
  have hM := (HC.out W).1 hW
  have R0 : Hid (W.ownsRow (w.heap.size + 2) 65 4 (.slice a3 d.cl.length c3) d.cl.length (flatS d.cl)) := Lib.hid (hH _ (List.mem_of_getElem? (show _ = some _ from rfl : _[1]? = some _)))
  have R1 : Hid (OwnLL (w.heap.size + 2) W (.slice a4 d.nx.length c4) d.nx) := Lib.hid (hH _ (List.mem_of_getElem? (show _ = some _ from rfl : _[0]? = some _)))
  have XB1 := Lib.hid (HB1.out.below hM.below HB1.out.lt)
  have XB2 := Lib.hid (HB2.out.below hM.below HB2.out.lt)
  have XX := Lib.hid (HX.out.trans (hM.below.mono HX.out.size))
  have XS := Lib.hid (Nat.le_trans HS.out hM.size)
  clear hM hW hH f0 f1 f2 HC HB1 HB2 HX
  go_wp2_with fail
  refine (listsE_any _ d.mr _ (H2.out.below XX.out) SM.out.mr SM.out.mks).mono ?_
  rintro e w2 ⟨vp, rfl, ho, hx⟩
  obtain ⟨a5, c5, rfl⟩ := ho.form
  have R0' := Lib.hid (ownsRow_below R0.out hx)
  have R1' := Lib.hid (R1.out.below hx)
  have R2' := Lib.hid (ho.base XS.out)
  have YB2 := Lib.hid (XB2.out.below hx XB2.out.lt)
  have YX := Lib.hid (XX.out.trans (hx.mono XX.out.size))
  clear ho hx R0 R1 XB1 XB2 XX
  obtain ⟨⟨k0, k1, k2⟩, z0, z1, z2⟩ := YB2.out.three
  go_wp2
  obtain ⟨W9, hW9⟩ : ∃ W9, W9 = (((w2.setCell ⟨w.heap.size + 1, 0, none⟩ (.slice a3 d.cl.length c3)).setCell ⟨w.heap.size + 1, 1, none⟩ (.slice a4 d.nx.length c4)).setCell ⟨w.heap.size + 1, 2, none⟩ (.slice a5 d.mr.length c5)) := ⟨_, rfl⟩
  have E : Hid (Blk W9 (w.heap.size + 1) #[.slice a3 d.cl.length c3, .slice a4 d.nx.length c4, .slice a5 d.mr.length c5] 29) := by rw [hW9]; exact YB2.out.set3
  have K9 : Hid (Keeps (fun x => x < w2.heap.size ∧ x ≠ w.heap.size + 1) w2 W9) := by rw [hW9]; exact (((Keeps.refl _ _).setCell (p := ⟨w.heap.size + 1, 0, none⟩) (fun h => h.2 rfl) _).setCell (p := ⟨w.heap.size + 1, 1, none⟩) (fun h => h.2 rfl) _).setCell (p := ⟨w.heap.size + 1, 2, none⟩) (fun h => h.2 rfl) _
  rw [← hW9]
  clear hW9 k0 k1 k2 z0 z1 z2
  obtain ⟨⟨m0, m1, m2⟩, _⟩ := E.out.three
  refine bodyPost_ret (v := .agg #[.slice a3 d.cl.length c3, .slice a4 d.nx.length c4, .slice a5 d.mr.length c5]) (by simp [results, Tryz.results25, go_sem, m0, m1, m2]) rfl ⟨_, rfl, ?_, ?_⟩
  · refine OwnDf.base (base := w.heap.size + 2) ⟨_, _, _, rfl, ?_, ?_, ?_⟩ (by omega)
    · exact ownsRow_keepsB R0'.out K9.out fun k h1 h2 => ⟨h2, by omega⟩
    · exact R1'.out.keeps K9.out fun k h1 h2 => ⟨h2, by omega⟩
    · exact R2'.out.keeps K9.out fun k h1 h2 => ⟨h2, by omega⟩
  · exact YX.out.trans ((K9.out.mono fun k hk => ⟨Nat.lt_of_lt_of_le hk YX.out.size, by have : k < w.heap.size := hk; omega⟩ : Keeps (· < w.heap.size) w2 W9).below)
end Go.Proofs.YthdnlndpmmiboaaGreatDoor
namespace Go.Proofs.YthdnlndpmmiboaaGreatDoor
open Go Go.RowKit Go.Shelf Go.Maps

theorem effT_build1 {P : Program} {Cl : FuncId → Array Value → World → (Ending → World → Prop) → Prop} {Rd : Nat → FuncId → Array Value → Code → Code → World → (Ending → World → Prop) → Prop} {o : Oper} {a : Act} {W : World} {post : Value → World → Prop}
    (t e : TypeId) (x : Operand) (ho : o.op = .buildSlice t 1 #[(0, x)])
    {i : TypeInfo} {z : Value} {m : Nat} (ht : P.underlying t = some (.slice e)) (hi : P.info? e = some i) (hz : i.zero = some z) (hsz : i.size = m) (hm : 0 < m) (hm2 : m ≤ 16777216)
    (cs : Array Value) (hx : a.eval x = .agg cs) (hc : cs.size = m) (h : post (.slice (some ⟨W.heap.size, 0, none⟩) 1 1) (W.alloc (.cells cs e))) : effT Cl Rd post ((execOp a.eval o).run P W) := by
  unfold execOp
  have e1 : (#[((0 : Nat), x)].map fun p => (p.1, a.eval p.2)) = #[(0, .agg cs)] := by rw [← hx]; simp
  simp only [ho, Sem.run_bind, e1, run_buildSlice_one ht hi hz hsz hm hm2 cs hc W, Result.andThen_ok, Sem.run_pure]
  exact h

theorem Blk.news1 {w : World} {b : Nat} {u : Value} {t : TypeId} (h : Blk w b #[u] t) : ∀ j x, [u][j]? = some x → w.cell? ((⟨b, 0, none⟩ : Addr).add j) = some x := news_blk h

end Go.Proofs.YthdnlndpmmiboaaGreatDoor
namespace Go.Proofs.YthdnlndpmmiboaaGreatDoor
open Go Go.RowKit Go.Shelf Go.Maps

theorem IsArrs.rangeE {w : World} {a : Option Addr} {n cap : Nat} {fs : List (Nat → Int)} (h : IsArrs w (.slice a n cap) fs) {i : Nat} {f : Nat → Int} (hi : fs[i]? = some f) : ∃ b off, a = some ⟨b, off, none⟩ ∧ b < w.heap.size ∧ w.rangeAt b (off + i * 256) (aI f).toList := by
  obtain ⟨b, off, e, hb, hc⟩ := h.elem hi
  refine ⟨b, off, e, hb, fun j v hj => ?_⟩
  rw [Array.getElem?_toList] at hj
  have hj' : j < 256 := by
    rcases Nat.lt_or_ge j 256 with h | h
    · exact h
    · rw [Array.getElem?_eq_none (by rw [aI_size]; exact h)] at hj; cases hj
  rw [aI_get f hj'] at hj
  rw [hc j hj', hj]
theorem a56_equal (f g : Nat → Int) (w : World) : (Op.equalIn 10000 91 (.agg (aI f)) (.agg (aI g))).run Tryz.prog w = .ok (eqA f g) w :=
  run_equalIn_array w 9998 (aI f) (aI g) f g Tryz.underlying91 Tryz.underlying3 (fun _ => by kernel_rfl) (fun _ => by kernel_rfl) (fun _ hi => aI_get f hi) (fun _ hi => aI_get g hi)
theorem eg_eqI : ∀ args w, (callFunc 21 args).run Tryz.prog w = .ok (.enter 21 args) w := fun args w => by kernel_rfl

end Go.Proofs.YthdnlndpmmiboaaGreatDoor
namespace Go.Proofs.YthdnlndpmmiboaaGreatDoor
open Go Go.RowKit Go.Shelf Go.Maps

set_option maxRecDepth 100000 in
set_option maxHeartbeats 1000000 in
theorem cloneLL_any (v : Value) (us : List Value) (w : World) (h : IsSl (fun u : Value => u) w v us) (hn : us.length ≤ 1000000) (h1 : ∀ u ∈ us, u.oneCell' = true) :
    Calls Tryz.prog 23 #[v] w fun e w' => ∃ u, e = .returned u ∧ w'.ownsRow w.heap.size 33 1 u us.length us ∧ Below w.heap.size w w' := by
  obtain ⟨i0, hi, hz0, hz1, hz2⟩ := info_parts Tryz.infoL
  rcases h with ⟨rfl, rfl⟩ | ⟨b, off, cap, rfl, hb, _, hc⟩
  · have he := fun W => Lib.run_eql_slice_nil (P := Tryz.prog) W 27 33 none 0 0 0 0 Tryz.underlying27
    go_enter Tryz.func23, Tryz.ntmps23
    go_wp2
    go_ret
    exact ⟨_, rfl, World.ownsRow_nil _ _ _ _, Below.refl _ _⟩
  · have hnews : ∀ j u, us[j]? = some u → w.cell? ((⟨b, off, none⟩ : Addr).add j) = some u := fun j u hj => by
      rw [Addr.add_mid, hc j u hj]
    obtain ⟨n, hnn⟩ : ∃ n, n = us.length := ⟨_, rfl⟩
    rw [← hnn] at hn ⊢
    have HN := Lib.hid hnn
    have HNw := Lib.hid hnews
    have H1 := Lib.hid h1
    have he := fun W => Lib.run_eql_slice_nil (P := Tryz.prog) W 27 33 (some ⟨b, off, none⟩) n cap 0 0 Tryz.underlying27
    clear hc hnews hnn h1
    go_enter Tryz.func23, Tryz.ntmps23
    have o1 : (w.alloc (.cells #[] 33 (0, 0))).ownsRow w.heap.size 33 1 (.slice (some ⟨w.heap.size, 0, none⟩) 0 0) 0 [] := ⟨rfl, .inr ⟨w.heap.size, 0, #[], rfl, Nat.le_refl _, World.alloc_heap_new _ _, Nat.le_refl _, by simp, rfl, rfl⟩⟩
    have HO1 := Lib.hid o1
    clear o1
    go_wp2_with (at_builtin; (refine wpList_append_own_at _ rfl (.tmp 5) (.tmp 6) 27 rfl w.heap.size 33 i0 (.slice none 0 0) 1 24 Tryz.underlying27 hi hz0 hz1 hz2 rfl (by decide) _ 0 [] rfl HO1.out ⟨b, off, none⟩ n cap us rfl (by rw [HN.out, Nat.mul_one]) (fun j u hj => (((Ext.refl w).alloc _).cell (p := (⟨b, off, none⟩ : Addr).add j) (by rw [Addr.add_mid]; exact hb)).trans (HNw.out j u hj)) H1.out (by unfold maxLen; omega) (by omega) (by simp) ?_; intro v' w2 ho hg _ _; have HO2 := Lib.hid ho; have HG := Lib.hid hg; obtain ⟨a2, c2, rfl⟩ := ownsRow_form ho; clear ho hg))
    go_ret
    refine ⟨_, rfl, ?_, ?_⟩
    · have := HO2.out
      rwa [Nat.zero_add, List.nil_append] at this
    · exact ((Below.refl _ _).alloc (Nat.le_refl _) _).grown HG.out (by simp) (fun c e => (HO1.out.lt c e).1)

theorem isSome_set {w : World} {a b : Addr} {v : Value} (h : (w.cell? b).isSome = true) : ((w.setCell a v).cell? b).isSome = true := by
  by_cases e : a = b
  · subst e
    obtain ⟨u, hu⟩ := Option.isSome_iff_exists.1 h
    rw [World.cell?_setCell_same _ _ _ hu]; rfl
  · rw [World.cell?_setCell_other _ _ _ _ e]; exact h
/-- The head of a row whose cells may be written; it lies in the blocks from base to lim. -/
def RowT (base lim : Nat) (w : World) (u : Value) : Prop := u = .slice none 0 0 ∨ ∃ g n c, u = .slice (some ⟨g, 0, none⟩) n c ∧ base ≤ g ∧ g < lim ∧ n ≤ c ∧ c ≤ 9223372036854775807 ∧ ∀ j, j < n → (w.cell? ⟨g, j, none⟩).isSome = true ∧ w.frozen? ⟨g, j, none⟩ = false
theorem RowT.set {base lim : Nat} {w : World} {u : Value} (h : RowT base lim w u) (a : Addr) (v : Value) : RowT base lim (w.setCell a v) u := by
  rcases h with h | ⟨g, n, c, h1, h2, h3, h4, h5, h6⟩
  · exact .inl h
  · exact .inr ⟨g, n, c, h1, h2, h3, h4, h5, fun j hj => ⟨isSome_set (h6 j hj).1, by rw [World.frozen?_setCell]; exact (h6 j hj).2⟩⟩
theorem RowT.keeps {base lim : Nat} {w w' : World} {u : Value} (h : RowT base lim w u) {R : Nat → Prop} (hk : Keeps R w w') (hr : ∀ g, base ≤ g → g < lim → R g) : RowT base lim w' u := by
  rcases h with h | ⟨g, n, c, h1, h2, h3, h4, h5, h6⟩
  · exact .inl h
  · exact .inr ⟨g, n, c, h1, h2, h3, h4, h5, fun j hj => ⟨by rw [hk.cell (p := ⟨g, j, none⟩) (hr g h2 h3)]; exact (h6 j hj).1, by rw [hk.frozen (p := ⟨g, j, none⟩) (hr g h2 h3)]; exact (h6 j hj).2⟩⟩
theorem RowT.of {base : Nat} {w : World} {e : TypeId} {u : Value} {n : Nat} {xs : List Value} (h : w.ownsRow base e 1 u n xs) : RowT base w.heap.size w u := by
  have h0 := h
  rcases h.2 with ⟨rfl, rfl⟩ | ⟨g, c, cur, rfl, hb, hg, h1, h2, h3⟩
  · exact .inl rfl
  · refine .inr ⟨g, n, c, rfl, hb, (h0.lt g rfl).2, h1, by unfold maxLen at h2; exact h2, fun j hj => ?_⟩
    have := ownsRow_there h0 (o := 0) (k := n) (by omega) j hj
    rwa [Nat.zero_add] at this
theorem RowT.form {base lim : Nat} {w : World} {u : Value} (h : RowT base lim w u) : ∃ a n c, u = .slice a n c ∧ n ≤ 9223372036854775807 ∧ ∀ j, j < n → ∃ g, a = some ⟨g, 0, none⟩ ∧ base ≤ g ∧ g < lim ∧ (w.cell? ⟨g, j, none⟩).isSome = true ∧ w.frozen? ⟨g, j, none⟩ = false := by
  rcases h with h | ⟨g, n, c, h1, h2, h3, h4, h5, h6⟩
  · exact ⟨none, 0, 0, h, by omega, fun j hj => by omega⟩
  · exact ⟨_, n, c, h1, by omega, fun j hj => ⟨g, rfl, h2, h3, h6 j hj⟩⟩
theorem SrcOf.own {w : World} {base n : Nat} {e : TypeId} {v : Value} {xs : List Value} (h : w.ownsRow base e 1 v n xs) : SrcOf w v n xs := by
  rcases h.2 with ⟨rfl, rfl⟩ | ⟨g, c, cur, rfl, _⟩
  · exact .inl ⟨rfl, rfl, by have := h.1; simpa using this⟩
  · exact .inr ⟨_, c, rfl, h.cells rfl⟩
theorem OwnLL.rows {base : Nat} {w : World} {v : Value} {ll : List (List Int)} (h : OwnLL base w v ll) : ∃ us : List Value, us.length = ll.length ∧ w.ownsRow base 33 1 v us.length us ∧ (∀ u ∈ us, RowT base w.heap.size w u) ∧ ∀ u ∈ us, u.oneCell' = true := by
  obtain ⟨us, h1, h2, h3⟩ := h
  have key : ∀ u ∈ us, ∃ l : List Int, w.ownsRow base 3 1 u l.length (l.map encZ) := fun u hu => by
    obtain ⟨i, hi⟩ := List.getElem?_of_mem hu
    have hil := (List.getElem?_eq_some_iff.1 hi).1
    exact ⟨_, h3 i u _ hi (List.getElem?_eq_getElem (by omega))⟩
  refine ⟨us, h1, h2, fun u hu => ?_, fun u hu => ?_⟩
  · obtain ⟨l, hl⟩ := key u hu
    exact RowT.of hl
  · obtain ⟨l, hl⟩ := key u hu
    obtain ⟨a, c, rfl⟩ := ownsRow_form hl
    rfl

end Go.Proofs.YthdnlndpmmiboaaGreatDoor
