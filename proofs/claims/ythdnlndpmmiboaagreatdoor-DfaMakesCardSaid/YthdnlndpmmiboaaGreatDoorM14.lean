/-
  dfa.Copy, slices.Clone at slices of slices, the law's theirs, same, spoil and small.
  The law's theirs: an automaton as the reference's.
  The law's same, at equal automata; slices.Equal at equal lists of the reference's sets, EqualFunc at equal lists of numbers.
  slices.Clone at slices of slices; the law's spoil and small.
  The reference's Rising and classes.
  product.join.
  The map of pairs to numbers: its block holds the pairs in the order in which they came.
-/
import Derived.Test.YthdnlndpmmiboaaGreatDoorM13
import Derived.Test.YthdnlndpmmiboaaGreatDoorM06
import Derived.Test.YthdnlndpmmiboaaGreatDoorM10
import Derived.Laws.EntriesVeiled
import Derived.DeepKeys4
import Derived.Maps.Own
namespace Go.Proofs.YthdnlndpmmiboaaGreatDoor
open Go Go.RowKit Go.Shelf Go.Maps

/-- Three cells in a box. -/
theorem Blk.three {w : World} {b : Nat} {x y z : Value} {t : TypeId} (h : Blk w b #[x, y, z] t) : (w.cell? ⟨b, 0, none⟩ = some x ∧ w.cell? ⟨b, 1, none⟩ = some y ∧ w.cell? ⟨b, 2, none⟩ = some z) ∧ w.frozen? ⟨b, 0, none⟩ = false ∧ w.frozen? ⟨b, 1, none⟩ = false ∧ w.frozen? ⟨b, 2, none⟩ = false :=
  ⟨⟨h.cell 0, h.cell 1, h.cell 2⟩, h.frozen 0, h.frozen 1, h.frozen 2⟩
theorem Blk.set3 {w : World} {b : Nat} {x y z x' y' z' : Value} {t : TypeId} (h : Blk w b #[x, y, z] t) : Blk (((w.setCell ⟨b, 0, none⟩ x').setCell ⟨b, 1, none⟩ y').setCell ⟨b, 2, none⟩ z') b #[x', y', z'] t := ((h.set 0 x').set 1 y').set 2 z'
theorem below_set3 {w W : World} {n b : Nat} {x y z : Value} (h : Below n w W) (hb : n ≤ b) : Below n w (((W.setCell ⟨b, 0, none⟩ x).setCell ⟨b, 1, none⟩ y).setCell ⟨b, 2, none⟩ z) :=
  ((h.setCell (by simpa using hb) _).setCell (by simpa using hb) _).setCell (by simpa using hb) _

end Go.Proofs.YthdnlndpmmiboaaGreatDoor
namespace Go.Proofs.YthdnlndpmmiboaaGreatDoor
open Go Go.RowKit Go.Shelf Go.Maps

theorem effT_build1 {P : Program} {Cl : FuncId → Array Value → World → (Ending → World → Prop) → Prop} {Rd : Nat → FuncId → Array Value → Code → Code → World → (Ending → World → Prop) → Prop} {o : Oper} {a : Act} {W : World} {post : Value → World → Prop}
    (t e : TypeId) (x : Operand) (ho : o.op = .buildSlice t 1 #[(0, x)])
    {i : TypeInfo} {z : Value} {m : Nat} (ht : P.underlying t = some (.slice e)) (hi : P.info? e = some i) (hz : i.zero = some z) (hsz : i.size = m) (hm : 0 < m) (hm2 : m ≤ 16777216)
    (cs : Array Value) (hx : a.eval x = .agg cs) (hc : cs.size = m) (h : post (.slice (some ⟨W.heap.size, 0, none⟩) 1 1) (W.alloc (.cells cs e))) : effT Cl Rd post ((execOp a.eval o).run P W) := by
  unfold execOp
  have e1 : (#[((0 : Nat), x)].map fun p => (p.1, a.eval p.2)) = #[(0, .agg cs)] := by rw [← hx]; simp
  simp only [ho, Sem.run_bind, e1, run_buildSlice_one ht hi hz hsz hm hm2 cs hc W, Result.andThen_ok, Sem.run_pure]
  exact h

/-- A box with the head of a new row of numbers. -/
def Eff.headRow (base n : Nat) (xs : List Value) : Eff (Move false (fun _ => False)) where
  P := fun v => ∃ b, v = .slice (some ⟨b, 0, none⟩) 1 1
  H := fun v W => ∀ b, v = .slice (some ⟨b, 0, none⟩) 1 1 → ∃ u, Blk W b #[u] 33 ∧ W.ownsRow base 3 1 u n xs
  wit := .slice (some ⟨0, 0, none⟩) 1 1
  pw := ⟨0, rfl⟩
  st := fun _ _ _ hm _ h b hb => by
    obtain ⟨u, h1, h2⟩ := h b hb
    exact ⟨u, h1.below hm.below h1.lt, ownsRow_below h2 hm.below⟩
theorem Blk.news1 {w : World} {b : Nat} {u : Value} {t : TypeId} (h : Blk w b #[u] t) : ∀ j x, [u][j]? = some x → w.cell? ((⟨b, 0, none⟩ : Addr).add j) = some x := news_blk h

end Go.Proofs.YthdnlndpmmiboaaGreatDoor
namespace Go.Proofs.YthdnlndpmmiboaaGreatDoor
open Go Go.RowKit Go.Shelf Go.Maps

theorem IsArrs.rangeE {w : World} {a : Option Addr} {n cap : Nat} {fs : List (Nat → Int)} (h : IsArrs w (.slice a n cap) fs) {i : Nat} {f : Nat → Int} (hi : fs[i]? = some f) : ∃ b off, a = some ⟨b, off, none⟩ ∧ b < w.heap.size ∧ w.rangeAt b (off + i * 256) (aI f).toList := by
  obtain ⟨b, off, e, hb, hc⟩ := h.elem hi
  refine ⟨b, off, e, hb, fun j v hj => ?_⟩
  rw [Array.getElem?_toList] at hj
  have hj' : j < 256 := by
    rcases Nat.lt_or_ge j 256 with h | h
    · exact h
    · rw [Array.getElem?_eq_none (by rw [aI_size]; exact h)] at hj; cases hj
  rw [aI_get f hj'] at hj
  rw [hc j hj', hj]
theorem a56_equal (f g : Nat → Int) (w : World) : (Op.equalIn 10000 91 (.agg (aI f)) (.agg (aI g))).run Tryz.prog w = .ok (eqA f g) w :=
  run_equalIn_array w 9998 (aI f) (aI g) f g Tryz.underlying91 Tryz.underlying3 (fun _ => by kernel_rfl) (fun _ => by kernel_rfl) (fun _ hi => aI_get f hi) (fun _ hi => aI_get g hi)
theorem eqA_self (f : Nat → Int) : eqA f f = true := by unfold eqA; simp

set_option maxRecDepth 100000 in
set_option maxHeartbeats 2000000 in
theorem eqArrs_any (v1 v2 : Value) (fs : List (Nat → Int)) (w : World) (h1 : IsArrs w v1 fs) (h2 : IsArrs w v2 fs) (hn : fs.length ≤ 1000000) :
    Calls Tryz.prog 59 #[v1, v2] w fun e w' => e = .returned (.bool true) ∧ Below w.heap.size w w' := by
  obtain ⟨a1, c1, rfl⟩ := h1.form
  obtain ⟨a2, c2, rfl⟩ := h2.form
  obtain ⟨n, hnn⟩ : ∃ n, n = fs.length := ⟨_, rfl⟩
  rw [← hnn] at h1 h2 hn ⊢
  have HN := Lib.hid hnn
  have H1 := Lib.hid h1
  have H2 := Lib.hid h2
  clear h1 h2 hnn
  go_enter Tryz.func59, Tryz.ntmps59
  go_wp2
  go_loopw [13] (fun i wr => ∃ k : Nat, k ≤ n ∧ i = .int .i64 k ∧ Below w.heap.size w wr) (fun i _ => n - (intOf i).toNat)
  case atStart => exact ⟨0, by omega, rfl, Below.refl _ _⟩
  case round =>
    obtain ⟨k, hk, rfl, hx⟩ := hrel
    obtain ⟨wo, rfl⟩ : ∃ wo : World, wo = wr := ⟨_, rfl⟩
    have HX := Lib.hid hx
    by_cases hlt : k < n
    · obtain ⟨f, hf⟩ : ∃ f, fs[k]? = some f := ⟨_, List.getElem?_eq_getElem (by have := HN.out; omega)⟩
      obtain ⟨b, off, rfl, hb, r1⟩ := (H1.out.below hx).rangeE hf
      obtain ⟨b', off', rfl, hb', r2⟩ := (H2.out.below hx).rangeE hf
      have hki : (k : Int) < n := by omega
      have R1 := Lib.hid r1
      have R2 := Lib.hid r2
      have HE := Lib.hid fun W => a56_equal f f W
      rw [eqA_self] at HE
      clear hf hx r1 r2
      go_wp2
      refine wp_region_reg false (fun _ => False) (by kernel_rfl) 9 [0, 0, 3, 7, 0, 0, 48, 112, 255] (fun i => false) (by kernel_rfl) (fun i => Eff.any _) ?_
      intro C hC hne
      have HC := Lib.hid hC
      clear hC
      refine regStep (fun K hK => ?_)
      refine regF rfl rfl ?_
      unfold floatAt
      go_simp
      refine hK _ _ ?_
      clear hK K
      refine regStep (fun K hK => ?_)
      refine regF rfl rfl ?_
      unfold floatAt
      go_simp
      refine hK _ _ ?_
      clear hK K
      refine regStep (fun K hK => ?_)
      refine regF rfl rfl ?_
      unfold floatAt
      go_simp
      refine hK _ _ ?_
      clear hK K
      refine regStep (fun K hK => ?_)
      refine regL rfl rfl (.agg (aI f)) (fun W hW hN => have hM := (HC.out W).1 hW; floatAt_load 91 (.tmp 18) rfl (b) (off + k * 256) rfl (aI f) _ (rangeAt_keeps R1.out hM.keeps ⟨hb, fun h => h⟩) Tryz.underlying91 rfl (sizeA56 f)) ?_
      go_simp
      refine hK _ _ ?_
      clear hK K
      refine regStep (fun K hK => ?_)
      refine regF rfl rfl ?_
      unfold floatAt
      go_simp
      refine hK _ _ ?_
      clear hK K
      refine regStep (fun K hK => ?_)
      refine regF rfl rfl ?_
      unfold floatAt
      go_simp
      refine hK _ _ ?_
      clear hK K
      refine regStep (fun K hK => ?_)
      refine regF rfl rfl ?_
      unfold floatAt
      go_simp
      refine hK _ _ ?_
      clear hK K
      refine regStep (fun K hK => ?_)
      refine regL rfl rfl (.agg (aI f)) (fun W hW hN => have hM := (HC.out W).1 hW; floatAt_load 91 (.tmp 22) rfl (b') (off' + k * 256) rfl (aI f) _ (rangeAt_keeps R2.out hM.keeps ⟨hb', fun h => h⟩) Tryz.underlying91 rfl (sizeA56 f)) ?_
      go_simp
      refine hK _ _ ?_
      clear hK K
      have he := HE.out
      repeat (refine regStep (fun K hK => ?_); first | (refine regN rfl ?_; try go_simp; refine hK _ _ ?_; clear hK K) | (refine regF rfl rfl ?_; unfold floatAt; go_simp; refine hK _ _ ?_; clear hK K))
      refine regNil (fun W hW hH => ?_)
      have hM := (HC.out W).1 hW
      have XX := Lib.hid (HX.out.trans (hM.below.mono HX.out.size))
      clear hM hW hH HC HX he
      go_wp2
      go_roundw
      case rel => exact ⟨k + 1, by omega, by go_num, XX.out⟩
      case measure => simp [intOf]; omega
    · clear hx
      go_wp2
      go_ret
      exact ⟨rfl, HX.out⟩

theorem eg_eqI : ∀ args w, (callFunc 21 args).run Tryz.prog w = .ok (.enter 21 args) w := fun args w => by kernel_rfl

set_option maxRecDepth 100000 in
set_option maxHeartbeats 2000000 in
theorem eqLL_any (v1 v2 : Value) (ll : List (List Int)) (w : World) (h1 : IsLL w v1 ll) (h2 : IsLL w v2 ll) (hn : ll.length ≤ 1000000) (hs : ∀ l ∈ ll, l.length ≤ 1000000) :
    Calls Tryz.prog 60 #[v1, v2, .func (.func 21) #[] #[]] w fun e w' => e = .returned (.bool true) ∧ Below w.heap.size w w' := by
  obtain ⟨a1, c1, rfl⟩ := h1.form
  obtain ⟨a2, c2, rfl⟩ := h2.form
  obtain ⟨n, hnn⟩ : ∃ n, n = ll.length := ⟨_, rfl⟩
  rw [← hnn] at h1 h2 hn ⊢
  have HN := Lib.hid hnn
  have H1 := Lib.hid h1
  have H2 := Lib.hid h2
  have HS := Lib.hid hs
  have eg := eg_eqI
  clear h1 h2 hnn hs
  go_enter Tryz.func60, Tryz.ntmps60
  go_wp2
  go_loopw [17] (fun i wr => ∃ k : Nat, k ≤ n ∧ i = .int .i64 k ∧ Below w.heap.size w wr) (fun i _ => n - (intOf i).toNat)
  case atStart => exact ⟨0, by omega, rfl, Below.refl _ _⟩
  case round =>
    obtain ⟨k, hk, rfl, hx⟩ := hrel
    obtain ⟨wo, rfl⟩ : ∃ wo : World, wo = wr := ⟨_, rfl⟩
    have HX := Lib.hid hx
    by_cases hlt : k < n
    · obtain ⟨l, hl⟩ : ∃ l, ll[k]? = some l := ⟨_, List.getElem?_eq_getElem (by have := HN.out; omega)⟩
      obtain ⟨b, off, e1, k1, rfl, hb, x1, y1⟩ := (H1.out.below hx).elem hl
      obtain ⟨b', off', e2, k2, rfl, hb', x2, y2⟩ := (H2.out.below hx).elem hl
      have hki : (k : Int) < n := by omega
      have CE : Hid (Calls Tryz.prog 21 #[.slice e1 l.length k1, .slice e2 l.length k2] wo fun e w' => e = .returned (.bool true) ∧ Ext wo w') := Lib.hid (by
        have := slEqual_any _ _ _ _ wo y1 y2 (HS.out l (List.mem_of_getElem? hl))
        rwa [beq_self_eq_true] at this)
      obtain ⟨j, hj⟩ : ∃ j, j = l.length := ⟨_, rfl⟩
      rw [← hj] at x1 x2 CE
      clear hl y1 y2 hx hj
      go_wp2_with fail
      refine (CE.out).mono ?_
      rintro e w2 ⟨rfl, hx⟩
      have XX := Lib.hid (HX.out.trans (hx.below.mono HX.out.size))
      clear hx x1 x2
      go_wp2
      go_roundw
      case rel => exact ⟨k + 1, by omega, by go_num, XX.out⟩
      case measure => simp [intOf]; omega
    · clear hx
      go_wp2
      go_ret
      exact ⟨rfl, HX.out⟩

end Go.Proofs.YthdnlndpmmiboaaGreatDoor
namespace Go.Proofs.YthdnlndpmmiboaaGreatDoor
open Go Go.RowKit Go.Shelf Go.Maps

set_option maxRecDepth 100000 in
set_option maxHeartbeats 1000000 in
theorem cloneLL_any (v : Value) (us : List Value) (w : World) (h : IsSl (fun u : Value => u) w v us) (hn : us.length ≤ 1000000) (h1 : ∀ u ∈ us, u.oneCell' = true) :
    Calls Tryz.prog 23 #[v] w fun e w' => ∃ u, e = .returned u ∧ w'.ownsRow w.heap.size 33 1 u us.length us ∧ Below w.heap.size w w' := by
  obtain ⟨i0, hi, hz0, hz1, hz2⟩ := info_parts Tryz.infoL
  rcases h with ⟨rfl, rfl⟩ | ⟨b, off, cap, rfl, hb, _, hc⟩
  · have he := fun W => Lib.run_eql_slice_nil (P := Tryz.prog) W 27 33 none 0 0 0 0 Tryz.underlying27
    go_enter Tryz.func23, Tryz.ntmps23
    go_wp2
    go_ret
    exact ⟨_, rfl, World.ownsRow_nil _ _ _ _, Below.refl _ _⟩
  · have hnews : ∀ j u, us[j]? = some u → w.cell? ((⟨b, off, none⟩ : Addr).add j) = some u := fun j u hj => by
      rw [Addr.add_mid, hc j u hj]
    obtain ⟨n, hnn⟩ : ∃ n, n = us.length := ⟨_, rfl⟩
    rw [← hnn] at hn ⊢
    have HN := Lib.hid hnn
    have HNw := Lib.hid hnews
    have H1 := Lib.hid h1
    have he := fun W => Lib.run_eql_slice_nil (P := Tryz.prog) W 27 33 (some ⟨b, off, none⟩) n cap 0 0 Tryz.underlying27
    clear hc hnews hnn h1
    go_enter Tryz.func23, Tryz.ntmps23
    have o1 : (w.alloc (.cells #[] 33 (0, 0))).ownsRow w.heap.size 33 1 (.slice (some ⟨w.heap.size, 0, none⟩) 0 0) 0 [] := ⟨rfl, .inr ⟨w.heap.size, 0, #[], rfl, Nat.le_refl _, World.alloc_heap_new _ _, Nat.le_refl _, by simp, rfl, rfl⟩⟩
    have HO1 := Lib.hid o1
    clear o1
    go_wp2_with (at_builtin; (refine wpList_append_own_at _ rfl (.tmp 5) (.tmp 6) 27 rfl w.heap.size 33 i0 (.slice none 0 0) 1 24 Tryz.underlying27 hi hz0 hz1 hz2 rfl (by decide) _ 0 [] rfl HO1.out ⟨b, off, none⟩ n cap us rfl (by rw [HN.out, Nat.mul_one]) (fun j u hj => (((Ext.refl w).alloc _).cell (p := (⟨b, off, none⟩ : Addr).add j) (by rw [Addr.add_mid]; exact hb)).trans (HNw.out j u hj)) H1.out (by unfold maxLen; omega) (by omega) (by simp) ?_; intro v' w2 ho hg _ _; have HO2 := Lib.hid ho; have HG := Lib.hid hg; obtain ⟨a2, c2, rfl⟩ := ownsRow_form ho; clear ho hg))
    go_ret
    refine ⟨_, rfl, ?_, ?_⟩
    · have := HO2.out
      rwa [Nat.zero_add, List.nil_append] at this
    · exact ((Below.refl _ _).alloc (Nat.le_refl _) _).grown HG.out (by simp) (fun c e => (HO1.out.lt c e).1)

theorem isSome_set {w : World} {a b : Addr} {v : Value} (h : (w.cell? b).isSome = true) : ((w.setCell a v).cell? b).isSome = true := by
  by_cases e : a = b
  · subst e
    obtain ⟨u, hu⟩ := Option.isSome_iff_exists.1 h
    rw [World.cell?_setCell_same _ _ _ hu]; rfl
  · rw [World.cell?_setCell_other _ _ _ _ e]; exact h
/-- The head of a row whose cells may be written; it lies in the blocks from base to lim. -/
def RowT (base lim : Nat) (w : World) (u : Value) : Prop := u = .slice none 0 0 ∨ ∃ g n c, u = .slice (some ⟨g, 0, none⟩) n c ∧ base ≤ g ∧ g < lim ∧ n ≤ c ∧ c ≤ 9223372036854775807 ∧ ∀ j, j < n → (w.cell? ⟨g, j, none⟩).isSome = true ∧ w.frozen? ⟨g, j, none⟩ = false
theorem RowT.set {base lim : Nat} {w : World} {u : Value} (h : RowT base lim w u) (a : Addr) (v : Value) : RowT base lim (w.setCell a v) u := by
  rcases h with h | ⟨g, n, c, h1, h2, h3, h4, h5, h6⟩
  · exact .inl h
  · exact .inr ⟨g, n, c, h1, h2, h3, h4, h5, fun j hj => ⟨isSome_set (h6 j hj).1, by rw [World.frozen?_setCell]; exact (h6 j hj).2⟩⟩
theorem RowT.keeps {base lim : Nat} {w w' : World} {u : Value} (h : RowT base lim w u) {R : Nat → Prop} (hk : Keeps R w w') (hr : ∀ g, base ≤ g → g < lim → R g) : RowT base lim w' u := by
  rcases h with h | ⟨g, n, c, h1, h2, h3, h4, h5, h6⟩
  · exact .inl h
  · exact .inr ⟨g, n, c, h1, h2, h3, h4, h5, fun j hj => ⟨by rw [hk.cell (p := ⟨g, j, none⟩) (hr g h2 h3)]; exact (h6 j hj).1, by rw [hk.frozen (p := ⟨g, j, none⟩) (hr g h2 h3)]; exact (h6 j hj).2⟩⟩
theorem RowT.of {base : Nat} {w : World} {e : TypeId} {u : Value} {n : Nat} {xs : List Value} (h : w.ownsRow base e 1 u n xs) : RowT base w.heap.size w u := by
  have h0 := h
  rcases h.2 with ⟨rfl, rfl⟩ | ⟨g, c, cur, rfl, hb, hg, h1, h2, h3⟩
  · exact .inl rfl
  · refine .inr ⟨g, n, c, rfl, hb, (h0.lt g rfl).2, h1, by unfold maxLen at h2; exact h2, fun j hj => ?_⟩
    have := ownsRow_there h0 (o := 0) (k := n) (by omega) j hj
    rwa [Nat.zero_add] at this
theorem RowT.form {base lim : Nat} {w : World} {u : Value} (h : RowT base lim w u) : ∃ a n c, u = .slice a n c ∧ n ≤ 9223372036854775807 ∧ ∀ j, j < n → ∃ g, a = some ⟨g, 0, none⟩ ∧ base ≤ g ∧ g < lim ∧ (w.cell? ⟨g, j, none⟩).isSome = true ∧ w.frozen? ⟨g, j, none⟩ = false := by
  rcases h with h | ⟨g, n, c, h1, h2, h3, h4, h5, h6⟩
  · exact ⟨none, 0, 0, h, by omega, fun j hj => by omega⟩
  · exact ⟨_, n, c, h1, by omega, fun j hj => ⟨g, rfl, h2, h3, h6 j hj⟩⟩
theorem SrcOf.own {w : World} {base n : Nat} {e : TypeId} {v : Value} {xs : List Value} (h : w.ownsRow base e 1 v n xs) : SrcOf w v n xs := by
  rcases h.2 with ⟨rfl, rfl⟩ | ⟨g, c, cur, rfl, _⟩
  · exact .inl ⟨rfl, rfl, by have := h.1; simpa using this⟩
  · exact .inr ⟨_, c, rfl, h.cells rfl⟩
theorem OwnLL.rows {base : Nat} {w : World} {v : Value} {ll : List (List Int)} (h : OwnLL base w v ll) : ∃ us : List Value, us.length = ll.length ∧ w.ownsRow base 33 1 v us.length us ∧ (∀ u ∈ us, RowT base w.heap.size w u) ∧ ∀ u ∈ us, u.oneCell' = true := by
  obtain ⟨us, h1, h2, h3⟩ := h
  have key : ∀ u ∈ us, ∃ l : List Int, w.ownsRow base 3 1 u l.length (l.map encZ) := fun u hu => by
    obtain ⟨i, hi⟩ := List.getElem?_of_mem hu
    have hil := (List.getElem?_eq_some_iff.1 hi).1
    exact ⟨_, h3 i u _ hi (List.getElem?_eq_getElem (by omega))⟩
  refine ⟨us, h1, h2, fun u hu => ?_, fun u hu => ?_⟩
  · obtain ⟨l, hl⟩ := key u hu
    exact RowT.of hl
  · obtain ⟨l, hl⟩ := key u hu
    obtain ⟨a, c, rfl⟩ := ownsRow_form hl
    rfl

end Go.Proofs.YthdnlndpmmiboaaGreatDoor
namespace Go.Proofs.YthdnlndpmmiboaaGreatDoor
open Go Go.RowKit Go.Shelf Go.Maps

theorem refS_backS {g : Nat → Int} (h : ∀ c, g c = 0 ∨ g c = 1) {c : Nat} (hc : c < 256) : refS (backS g) c = g c := by
  unfold refS
  rw [backS_bit g hc]
  rcases h c with e | e <;> rw [e] <;> rfl
theorem aI_set_of {p : List BS} {f : Nat → Int} (h : Agrees p f) {n m : Nat} (hn : (leastsTo f 256)[n]? = some m) {s : BS} (hs : p[n]? = some s) : aI (refSetOf f m) = aI (refS s) := by
  obtain ⟨t, h1, h2, _⟩ := h.cls n m hn
  rw [hs] at h1
  cases h1
  refine aI_congr fun c hc => ?_
  rw [← h2, refS_backS (fun c => ?_) hc]
  unfold refSetOf
  split
  · exact .inr rfl
  · exact .inl rfl

set_option maxRecDepth 100000 in
set_option maxHeartbeats 4000000 in
theorem refClassesD_any (p : List BS) (f : Nat → Int) (ha : Agrees p f) (w : World) :
    Calls Tryz.prog 49 #[.agg (aI f)] w fun e w' => ∃ u, e = .returned u ∧ w'.ownsRow w.heap.size 91 256 u (p.map refS).length (flatA (p.map refS)) ∧ Below w.heap.size w w' := by
  obtain ⟨i0, hi, hz0, hz1, hz2⟩ := info_parts Tryz.infoA
  obtain ⟨n, hnn⟩ : ∃ n, n = p.length := ⟨_, rfl⟩
  have hn2 : (leastsTo f 256).length = n := by rw [hnn]; exact ha.len.symm
  have hn256 : n ≤ 256 := by rw [← hn2]; exact leastsTo_len f 256
  have HA := Lib.hid ha
  have HN := Lib.hid hnn
  have HN2 := Lib.hid hn2
  have HLE : Hid (∀ W, Calls Tryz.prog 48 #[.agg (aI f)] W fun e w' => ∃ a c, e = .returned (.slice a n c) ∧ Below W.heap.size W w') := fun W => (leasts_any f W).mono fun e w' ⟨u, he, ho, hx⟩ => by
    rw [hn2] at ho
    obtain ⟨a, c, rfl⟩ := ownsRow_form ho
    exact ⟨a, c, he, hx⟩
  clear ha hnn hn2
  go_enter Tryz.func49, Tryz.ntmps49
  go_wp2
  go_loopw [4, 3] (fun i u wr => ∃ k : Nat, k ≤ n ∧ i = .int .i64 k ∧ wr.ownsRow (w.heap.size + 1) 91 256 u ((p.take k).map refS).length (flatA ((p.take k).map refS)) ∧ Blk wr w.heap.size (aI f) 95 ∧ Below w.heap.size w wr) (fun i _ _ => n - (intOf i).toNat)
  case atStart => exact ⟨0, by omega, rfl, World.ownsRow_nil _ _ _ _, Blk.new _ _ _, (Below.refl _ _).alloc (Nat.le_refl _) _⟩
  case round =>
    obtain ⟨k, hk, rfl, ho, hb, hx⟩ := hrel
    obtain ⟨wo, rfl⟩ : ∃ wo : World, wo = wr := ⟨_, rfl⟩
    obtain ⟨ml, hml⟩ : ∃ m, m = ((p.take k).map refS).length := ⟨_, rfl⟩
    have hmk : ml ≤ 1000000 := by rw [hml, List.length_map, List.length_take]; omega
    rw [← hml] at ho
    have HML := Lib.hid hml
    obtain ⟨ua, uc, rfl⟩ := ownsRow_form ho
    have HO := Lib.hid ho
    have HB := Lib.hid hb
    have HX := Lib.hid hx
    clear ho hb hx hml
    go_wp2_with (refine wpList_load_w rfl 95 (.tmp 1) rfl w.heap.size rfl (aI f) _ HB.out.range Tryz.underlying95 rfl (sizeA87 f) ?_)
    refine (HLE.out _).mono ?_
    rintro e w1 ⟨a1, c1, rfl, hx⟩
    have O1 := Lib.hid (ownsRow_below HO.out hx)
    have B1 := Lib.hid (HB.out.below hx HB.out.lt)
    have X1 := Lib.hid (HX.out.trans (hx.mono HX.out.size))
    clear hx HO HB HX
    by_cases hlt : k < n
    · obtain ⟨s, hs⟩ : ∃ s, p[k]? = some s := ⟨_, List.getElem?_eq_getElem (by have := HN.out; omega)⟩
      obtain ⟨m, hm⟩ : ∃ m, (leastsTo f 256)[k]? = some m := ⟨_, List.getElem?_eq_getElem (by have := HN2.out; omega)⟩
      have hki : (k : Int) < n := by omega
      have HSet : Hid (∀ W, Calls Tryz.prog 70 #[.agg (aI f), .int .i64 k] W fun e w' => e = .returned (.agg (aI (refS s))) ∧ Below W.heap.size W w') := fun W => by
        have := refSet_any f k m hm W
        rwa [aI_set_of HA.out hm hs] at this
      have HT := Lib.hid (show (p.take (k + 1)).map refS = (p.take k).map refS ++ [refS s] by rw [List.take_add_one, hs]; simp)
      clear hs hm
      generalize (p.take k).map refS = xs at O1 HML HT
      go_wp2_with (refine wpList_load_w rfl 95 (.tmp 1) rfl w.heap.size rfl (aI f) _ B1.out.range Tryz.underlying95 rfl (sizeA87 f) ?_)
      refine (HSet.out _).mono ?_
      rintro e w2 ⟨rfl, hx⟩
      have O2 := Lib.hid (ownsRow_below O1.out hx)
      have B2 := Lib.hid (B1.out.below hx B1.out.lt)
      have X2 := Lib.hid (X1.out.trans (hx.mono X1.out.size))
      have hsz := aI_size (refS s)
      have hlt1 : w.heap.size < w2.heap.size := B2.out.lt
      clear hx O1 B1 X1
      go_wp2_with (first | (refine wpList_build1 rfl 40 91 (.tmp 15) rfl (some 16) rfl Tryz.underlying40 hi hz0 hz1 (by decide) (by decide) (aI (refS s)) rfl hsz ?_) | (at_builtin; refine wpList_append_own_at _ rfl (.tmp 12) (.tmp 16) 40 rfl (w.heap.size + 1) 91 i0 (.agg (aI fun _ => 0)) 256 2048 Tryz.underlying40 hi hz0 hz1 hz2 (aI_size _) (by decide) _ _ _ rfl (O2.out.alloc _) ⟨w2.heap.size, 0, none⟩ 1 1 (aI (refS s)).toList rfl (by rw [Array.length_toList, aI_size]) (news_blk (Blk.new _ (aI (refS s)) 91)) (by intro u hu; exact Array.all_eq_true_iff_forall_mem.1 (aI_one _) u (by simpa using hu)) (by unfold maxLen; omega) (by omega) (by simp; omega) ?_; intro v' w3 hown' hgrow hh hat; have HO2 := Lib.hid hown'; have HG := Lib.hid hgrow; clear hown' hgrow hh hat))
      go_roundw
      case rel =>
        refine ⟨k + 1, by omega, by go_num, ?_, ?_, ?_⟩
        · rw [HT.out, List.length_append, flatA_append, flatA_one, ← HML.out]; exact HO2.out
        · exact (B2.out.alloc _).grown HG.out (fun e => by have := (O2.out.lt _ e.symm).1; omega)
        · exact (X2.out.alloc X2.out.size _).grown HG.out (by have := X2.out.size; simp; omega) (fun c e => by have := (O2.out.lt c e).1; omega)
      case measure => simp [intOf]; omega
    · obtain rfl : k = n := by omega
      have htk : p.take k = p := by rw [HN.out]; exact List.take_length
      rw [htk] at O1 HML
      go_wp2
      go_ret
      refine ⟨_, rfl, ?_, X1.out⟩
      rw [← HML.out]
      exact ownsRow_base O1.out (by omega)
end Go.Proofs.YthdnlndpmmiboaaGreatDoor
namespace Go.Proofs.YthdnlndpmmiboaaGreatDoor
open Go Go.RowKit Go.Shelf Go.Maps
attribute [local go_sem] encS

theorem leastOf_lb {l : List BS} {k : Nat} (hk : k < (partsOf l).length) : leastOf (partsOf l) k = (lb (partsOf l) k, true) := by
  have h1 := some_getD (l := partsOf l) 0 hk
  have h2 := first_of_ne (partsOf_ne l (List.mem_of_getElem? h1))
  unfold leastOf
  rw [setOf_nat, h1]
  show firstOf _ = _
  unfold lb
  rw [show firstOf ((partsOf l).getD k 0) = ((firstOf ((partsOf l).getD k 0)).1, (firstOf ((partsOf l).getD k 0)).2) from rfl, h2.1]
theorem post_named {P : Program} {fn : Func} {R : Ending → World → Prop} {x : Exit} {a : Act} {w : World} (h : ∀ W, W = w → bodyPost P fn R x a W) : bodyPost P fn R x a w := h w rfl
theorem Far.symm {v y : Value} (h : Far v y) : Far y v := by
  unfold Far at *
  by_cases e : y.ownBlock = none
  · exact .inl e
  · right
    rcases h with h | h
    · intro h'; exact e (h'.trans h)
    · exact fun h' => h h'.symm
end Go.Proofs.YthdnlndpmmiboaaGreatDoor
namespace Go.Proofs.YthdnlndpmmiboaaGreatDoor
open Go Go.RowKit Go.Shelf Go.Maps
open Go.WideMaps (KeyLaw)
open Go.ChangeMaps (setBlock heap_setBlock_same)

def pairV (p : Nat × Nat) : Value := .agg #[.int .i64 p.1, .int .i64 p.2]
/-- The entries of numbered pairs. -/
def entOf : Nat → List (Nat × Nat) → List MapEntry
  | _, [] => []
  | n, p :: l => ⟨pairV p, .int .i64 n, n⟩ :: entOf (n + 1) l
/-- The block of the map. -/
def IsNum (w : World) (b : Nat) (l : List (Nat × Nat)) : Prop := w.heap[b]? = some (.map (entOf 0 l).toArray l.length)
theorem IsNum.keeps {w w' : World} {b : Nat} {l : List (Nat × Nat)} (h : IsNum w b l) {R : Nat → Prop} (hk : Keeps R w w') (hb : R b) : IsNum w' b l := (hk.keep b hb).trans h
theorem IsNum.lt {w : World} {b : Nat} {l : List (Nat × Nat)} (h : IsNum w b l) : b < w.heap.size := (Array.getElem?_eq_some_iff.1 h).1
theorem IsNum.below {w w' : World} {b : Nat} {l : List (Nat × Nat)} (h : IsNum w b l) (hk : Below w.heap.size w w') : IsNum w' b l := (hk.block b h.lt).trans h

end Go.Proofs.YthdnlndpmmiboaaGreatDoor
