/-
  The law's same, at equal automata; slices.Equal at equal lists of the reference's sets, EqualFunc at equal lists of numbers.
  slices.Clone at slices of slices; the law's spoil and small.
-/
import Derived.Test.YtiegfnmpknmbmaaGreatK18
namespace Go.Proofs.YtiegfnmpknmbmaaGreat
open Go Go.RowKit Go.Shelf Go.Maps

theorem IsArrs.rangeE {w : World} {a : Option Addr} {n cap : Nat} {fs : List (Nat → Int)} (h : IsArrs w (.slice a n cap) fs) {i : Nat} {f : Nat → Int} (hi : fs[i]? = some f) : ∃ b off, a = some ⟨b, off, none⟩ ∧ b < w.heap.size ∧ w.rangeAt b (off + i * 256) (aI f).toList := by
  obtain ⟨b, off, e, hb, hc⟩ := h.elem hi
  refine ⟨b, off, e, hb, fun j v hj => ?_⟩
  rw [Array.getElem?_toList] at hj
  have hj' : j < 256 := by
    rcases Nat.lt_or_ge j 256 with h | h
    · exact h
    · rw [Array.getElem?_eq_none (by rw [aI_size]; exact h)] at hj; cases hj
  rw [aI_get f hj'] at hj
  rw [hc j hj', hj]
theorem a56_equal (f g : Nat → Int) (w : World) : (Op.equalIn 10000 75 (.agg (aI f)) (.agg (aI g))).run Tryz.prog w = .ok (eqA f g) w :=
  run_equalIn_array w 9998 (aI f) (aI g) f g Tryz.underlying75 Tryz.underlying3 (fun _ => by kernel_rfl) (fun _ => by kernel_rfl) (fun _ hi => aI_get f hi) (fun _ hi => aI_get g hi)
theorem eqA_self (f : Nat → Int) : eqA f f = true := by unfold eqA; simp

set_option maxRecDepth 100000 in
set_option maxHeartbeats 2000000 in
theorem eqArrs_any (v1 v2 : Value) (fs : List (Nat → Int)) (w : World) (h1 : IsArrs w v1 fs) (h2 : IsArrs w v2 fs) (hn : fs.length ≤ 1000000) :
    Calls Tryz.prog 38 #[v1, v2] w fun e w' => e = .returned (.bool true) ∧ Below w.heap.size w w' := by
  obtain ⟨a1, c1, rfl⟩ := h1.form
  obtain ⟨a2, c2, rfl⟩ := h2.form
  obtain ⟨n, hnn⟩ : ∃ n, n = fs.length := ⟨_, rfl⟩
  rw [← hnn] at h1 h2 hn ⊢
  have HN := Lib.hid hnn
  have H1 := Lib.hid h1
  have H2 := Lib.hid h2
  clear h1 h2 hnn
  go_enter Tryz.func38, Tryz.ntmps38
  go_wp2
  go_loopw [13] (fun i wr => ∃ k : Nat, k ≤ n ∧ i = .int .i64 k ∧ Below w.heap.size w wr) (fun i _ => n - (intOf i).toNat)
  case atStart => exact ⟨0, by omega, rfl, Below.refl _ _⟩
  case round =>
    obtain ⟨k, hk, rfl, hx⟩ := hrel
    obtain ⟨wo, rfl⟩ : ∃ wo : World, wo = wr := ⟨_, rfl⟩
    have HX := Lib.hid hx
    by_cases hlt : k < n
    · obtain ⟨f, hf⟩ : ∃ f, fs[k]? = some f := ⟨_, List.getElem?_eq_getElem (by have := HN.out; omega)⟩
      obtain ⟨b, off, rfl, hb, r1⟩ := (H1.out.below hx).rangeE hf
      obtain ⟨b', off', rfl, hb', r2⟩ := (H2.out.below hx).rangeE hf
      have hki : (k : Int) < n := by omega
      have R1 := Lib.hid r1
      have R2 := Lib.hid r2
      have HE := Lib.hid fun W => a56_equal f f W
      rw [eqA_self] at HE
      clear hf hx r1 r2
      go_wp2
      refine wp_region_reg false (fun _ => False) (by kernel_rfl) 9 [0, 0, 3, 7, 0, 0, 48, 112, 255] (fun i => false) (by kernel_rfl) (fun i => Eff.any _) ?_
      intro C hC hne
      have HC := Lib.hid hC
      clear hC
      refine regStep (fun K hK => ?_)
      refine regF rfl rfl ?_
      unfold floatAt
      go_simp
      refine hK _ _ ?_
      clear hK K
      refine regStep (fun K hK => ?_)
      refine regF rfl rfl ?_
      unfold floatAt
      go_simp
      refine hK _ _ ?_
      clear hK K
      refine regStep (fun K hK => ?_)
      refine regF rfl rfl ?_
      unfold floatAt
      go_simp
      refine hK _ _ ?_
      clear hK K
      refine regStep (fun K hK => ?_)
      refine regL rfl rfl (.agg (aI f)) (fun W hW hN => have hM := (HC.out W).1 hW; floatAt_load 75 (.tmp 18) rfl (b) (off + k * 256) rfl (aI f) _ (rangeAt_keeps R1.out hM.keeps ⟨hb, fun h => h⟩) Tryz.underlying75 rfl (sizeA56 f)) ?_
      go_simp
      refine hK _ _ ?_
      clear hK K
      refine regStep (fun K hK => ?_)
      refine regF rfl rfl ?_
      unfold floatAt
      go_simp
      refine hK _ _ ?_
      clear hK K
      refine regStep (fun K hK => ?_)
      refine regF rfl rfl ?_
      unfold floatAt
      go_simp
      refine hK _ _ ?_
      clear hK K
      refine regStep (fun K hK => ?_)
      refine regF rfl rfl ?_
      unfold floatAt
      go_simp
      refine hK _ _ ?_
      clear hK K
      refine regStep (fun K hK => ?_)
      refine regL rfl rfl (.agg (aI f)) (fun W hW hN => have hM := (HC.out W).1 hW; floatAt_load 75 (.tmp 22) rfl (b') (off' + k * 256) rfl (aI f) _ (rangeAt_keeps R2.out hM.keeps ⟨hb', fun h => h⟩) Tryz.underlying75 rfl (sizeA56 f)) ?_
      go_simp
      refine hK _ _ ?_
      clear hK K
      have he := HE.out
      repeat (refine regStep (fun K hK => ?_); first | (refine regN rfl ?_; try go_simp; refine hK _ _ ?_; clear hK K) | (refine regF rfl rfl ?_; unfold floatAt; go_simp; refine hK _ _ ?_; clear hK K))
      refine regNil (fun W hW hH => ?_)
      have hM := (HC.out W).1 hW
      have XX := Lib.hid (HX.out.trans (hM.below.mono HX.out.size))
      clear hM hW hH HC HX he
      go_wp2
      go_roundw
      case rel => exact ⟨k + 1, by omega, by go_num, XX.out⟩
      case measure => simp [intOf]; omega
    · clear hx
      go_wp2
      go_ret
      exact ⟨rfl, HX.out⟩

theorem eg_eqI : ∀ args w, (callFunc 40 args).run Tryz.prog w = .ok (.enter 40 args) w := fun args w => by kernel_rfl

set_option maxRecDepth 100000 in
set_option maxHeartbeats 2000000 in
theorem eqLL_any (v1 v2 : Value) (ll : List (List Int)) (w : World) (h1 : IsLL w v1 ll) (h2 : IsLL w v2 ll) (hn : ll.length ≤ 1000000) (hs : ∀ l ∈ ll, l.length ≤ 1000000) :
    Calls Tryz.prog 39 #[v1, v2, .func (.func 40) #[] #[]] w fun e w' => e = .returned (.bool true) ∧ Below w.heap.size w w' := by
  obtain ⟨a1, c1, rfl⟩ := h1.form
  obtain ⟨a2, c2, rfl⟩ := h2.form
  obtain ⟨n, hnn⟩ : ∃ n, n = ll.length := ⟨_, rfl⟩
  rw [← hnn] at h1 h2 hn ⊢
  have HN := Lib.hid hnn
  have H1 := Lib.hid h1
  have H2 := Lib.hid h2
  have HS := Lib.hid hs
  have eg := eg_eqI
  clear h1 h2 hnn hs
  go_enter Tryz.func39, Tryz.ntmps39
  go_wp2
  go_loopw [17] (fun i wr => ∃ k : Nat, k ≤ n ∧ i = .int .i64 k ∧ Below w.heap.size w wr) (fun i _ => n - (intOf i).toNat)
  case atStart => exact ⟨0, by omega, rfl, Below.refl _ _⟩
  case round =>
    obtain ⟨k, hk, rfl, hx⟩ := hrel
    obtain ⟨wo, rfl⟩ : ∃ wo : World, wo = wr := ⟨_, rfl⟩
    have HX := Lib.hid hx
    by_cases hlt : k < n
    · obtain ⟨l, hl⟩ : ∃ l, ll[k]? = some l := ⟨_, List.getElem?_eq_getElem (by have := HN.out; omega)⟩
      obtain ⟨b, off, e1, k1, rfl, hb, x1, y1⟩ := (H1.out.below hx).elem hl
      obtain ⟨b', off', e2, k2, rfl, hb', x2, y2⟩ := (H2.out.below hx).elem hl
      have hki : (k : Int) < n := by omega
      have CE : Hid (Calls Tryz.prog 40 #[.slice e1 l.length k1, .slice e2 l.length k2] wo fun e w' => e = .returned (.bool true) ∧ Ext wo w') := Lib.hid (by
        have := slEqual_any _ _ _ _ wo y1 y2 (HS.out l (List.mem_of_getElem? hl))
        rwa [beq_self_eq_true] at this)
      obtain ⟨j, hj⟩ : ∃ j, j = l.length := ⟨_, rfl⟩
      rw [← hj] at x1 x2 CE
      clear hl y1 y2 hx hj
      go_wp2_with fail
      refine (CE.out).mono ?_
      rintro e w2 ⟨rfl, hx⟩
      have XX := Lib.hid (HX.out.trans (hx.below.mono HX.out.size))
      clear hx x1 x2
      go_wp2
      go_roundw
      case rel => exact ⟨k + 1, by omega, by go_num, XX.out⟩
      case measure => simp [intOf]; omega
    · clear hx
      go_wp2
      go_ret
      exact ⟨rfl, HX.out⟩

set_option maxRecDepth 100000 in
set_option maxHeartbeats 4000000 in
theorem sameD_any (v v' : Value) (d : DF) (w : World) (h : IsDf w v d) (h' : IsRf w v' d) (sm : Sm d) :
    Calls Tryz.prog 16 #[v, v'] w fun e w' => e = .returned (.bool true) ∧ Below w.heap.size w w' := by
  have CT : Hid (∀ W, Below w.heap.size w W → Calls Tryz.prog 15 #[v] W fun e w' => ∃ u, e = .returned u ∧ IsRf w' u d ∧ Below W.heap.size W w') := fun W hW => theirsD_any v d W (h.below hW) sm
  obtain ⟨v0, v1, v2, rfl, h0, h1, h2⟩ := h
  obtain ⟨a0, c0, rfl⟩ := h0.1.form
  obtain ⟨a1, c1, rfl⟩ := h1.form
  obtain ⟨a2, c2, rfl⟩ := h2.form
  obtain ⟨u0, u1, u2, rfl, g0, g1, g2⟩ := h'
  obtain ⟨b0, e0, rfl⟩ := g0.form
  obtain ⟨b1, e1, rfl⟩ := g1.form
  obtain ⟨b2, e2, rfl⟩ := g2.form
  have SM := Lib.hid sm
  have eg := eg_eqI
  rw [List.length_map] at g0 ⊢
  obtain ⟨n0, hn0⟩ : ∃ n, n = d.cl.length := ⟨_, rfl⟩
  obtain ⟨n1, hn1⟩ : ∃ n, n = d.nx.length := ⟨_, rfl⟩
  obtain ⟨n2, hn2⟩ : ∃ n, n = d.mr.length := ⟨_, rfl⟩
  have HN0 := Lib.hid hn0
  have HN1 := Lib.hid hn1
  have HN2 := Lib.hid hn2
  rw [← hn0, ← hn1, ← hn2] at CT ⊢
  rw [← hn0] at g0
  rw [← hn1] at g1
  rw [← hn2] at g2
  have G0 := Lib.hid g0
  have G1 := Lib.hid g1
  have G2 := Lib.hid g2
  clear h0 h1 h2 g0 g1 g2 hn0 hn1 hn2 sm
  go_enter Tryz.func16, Tryz.ntmps16
  go_wp2_with fail
  refine calls_named ?_
  intro V hV
  have B3 : Hid (Blk V (w.heap.size + 1) #[.slice b0 n0 e0, .slice b1 n1 e1, .slice b2 n2 e2] 42) := by rw [hV]; exact (Blk.new (w.alloc _) _ _).at (by simp)
  have HX : Hid (Below w.heap.size w V) := by rw [hV]; exact (((Ext.refl w).alloc _).alloc _).below
  clear hV
  refine (CT.out V HX.out).mono ?_
  rintro e w1 ⟨u, rfl, ⟨q0, q1, q2, rfl, r0, r1, r2⟩, hx⟩
  obtain ⟨s0, f0, rfl⟩ := r0.form
  obtain ⟨s1, f1, rfl⟩ := r1.form
  obtain ⟨s2, f2, rfl⟩ := r2.form
  rw [List.length_map] at r0 ⊢
  rw [← HN0.out] at r0 ⊢
  rw [← HN1.out] at r1 ⊢
  rw [← HN2.out] at r2 ⊢
  have R0 := Lib.hid r0
  have R1 := Lib.hid r1
  have R2 := Lib.hid r2
  have C3 := Lib.hid (B3.out.below hx B3.out.lt)
  have XX := Lib.hid (HX.out.trans (hx.mono HX.out.size))
  clear r0 r1 r2 hx B3 HX
  have k0 := fun o => (C3.out.alloc o).three.1.1
  go_wp2_with fail
  refine calls_named ?_
  intro V2 hV2
  have X2 : Hid (Ext w1 V2) := by rw [hV2]; exact (Ext.refl _).alloc _
  have B5 : Hid (Blk V2 w1.heap.size #[.slice s0 n0 f0, .slice s1 n1 f1, .slice s2 n2 f2] 42) := by rw [hV2]; exact Blk.new _ _ _
  clear hV2 k0
  refine (eqArrs_any _ _ _ V2 (R0.out.below X2.out.below) ((G0.out.below XX.out).below X2.out.below) (by rw [List.length_map]; exact SM.out.cl)).mono ?_
  rintro e w3 ⟨rfl, hx⟩
  have X3 := Lib.hid (X2.out.below.trans (hx.mono X2.out.size))
  have D3 := Lib.hid (C3.out.below X3.out C3.out.lt)
  have D5 := Lib.hid (B5.out.below hx B5.out.lt)
  clear hx
  obtain ⟨⟨k0, k1, k2⟩, _⟩ := D3.out.three
  obtain ⟨⟨l0, l1, l2⟩, _⟩ := D5.out.three
  go_wp2_with fail
  refine (eqLL_any _ _ d.nx _ (R1.out.below X3.out) ((G1.out.below XX.out).below X3.out) SM.out.nx SM.out.nxs).mono ?_
  rintro e w4 ⟨rfl, hx⟩
  have X4 := Lib.hid (X3.out.trans (hx.mono X3.out.size))
  have E3 := Lib.hid (D3.out.below hx D3.out.lt)
  have E5 := Lib.hid (D5.out.below hx D5.out.lt)
  clear hx k0 k1 k2 l0 l1 l2
  obtain ⟨⟨k0, k1, k2⟩, _⟩ := E3.out.three
  obtain ⟨⟨l0, l1, l2⟩, _⟩ := E5.out.three
  go_wp2_with fail
  refine (eqLL_any _ _ d.mr _ (R2.out.below X4.out) ((G2.out.below XX.out).below X4.out) SM.out.mr SM.out.mks).mono ?_
  rintro e w5 ⟨rfl, hx⟩
  have X5 := Lib.hid (X4.out.trans (hx.mono X4.out.size))
  clear hx k0 k1 k2 l0 l1 l2
  go_wp2
  go_ret
  exact ⟨rfl, XX.out.trans (X5.out.mono XX.out.size)⟩
end Go.Proofs.YtiegfnmpknmbmaaGreat
namespace Go.Proofs.YtiegfnmpknmbmaaGreat
open Go Go.RowKit Go.Shelf Go.Maps

set_option maxRecDepth 100000 in
set_option maxHeartbeats 1000000 in
theorem cloneLL_any (v : Value) (us : List Value) (w : World) (h : IsSl (fun u : Value => u) w v us) (hn : us.length ≤ 1000000) (h1 : ∀ u ∈ us, u.oneCell' = true) :
    Calls Tryz.prog 13 #[v] w fun e w' => ∃ u, e = .returned u ∧ w'.ownsRow w.heap.size 36 1 u us.length us ∧ Below w.heap.size w w' := by
  obtain ⟨i0, hi, hz0, hz1, hz2⟩ := info_parts Tryz.infoL
  rcases h with ⟨rfl, rfl⟩ | ⟨b, off, cap, rfl, hb, _, hc⟩
  · have he := fun W => Lib.run_eql_slice_nil (P := Tryz.prog) W 23 36 none 0 0 0 0 Tryz.underlying23
    go_enter Tryz.func13, Tryz.ntmps13
    go_wp2
    go_ret
    exact ⟨_, rfl, World.ownsRow_nil _ _ _ _, Below.refl _ _⟩
  · have hnews : ∀ j u, us[j]? = some u → w.cell? ((⟨b, off, none⟩ : Addr).add j) = some u := fun j u hj => by
      rw [Addr.add_mid, hc j u hj]
    obtain ⟨n, hnn⟩ : ∃ n, n = us.length := ⟨_, rfl⟩
    rw [← hnn] at hn ⊢
    have HN := Lib.hid hnn
    have HNw := Lib.hid hnews
    have H1 := Lib.hid h1
    have he := fun W => Lib.run_eql_slice_nil (P := Tryz.prog) W 23 36 (some ⟨b, off, none⟩) n cap 0 0 Tryz.underlying23
    clear hc hnews hnn h1
    go_enter Tryz.func13, Tryz.ntmps13
    have o1 : (w.alloc (.cells #[] 36 (0, 0))).ownsRow w.heap.size 36 1 (.slice (some ⟨w.heap.size, 0, none⟩) 0 0) 0 [] := ⟨rfl, .inr ⟨w.heap.size, 0, #[], rfl, Nat.le_refl _, World.alloc_heap_new _ _, Nat.le_refl _, by simp, rfl, rfl⟩⟩
    have HO1 := Lib.hid o1
    clear o1
    go_wp2_with (at_builtin; (refine wpList_append_own_at _ rfl (.tmp 5) (.tmp 6) 23 rfl w.heap.size 36 i0 (.slice none 0 0) 1 24 Tryz.underlying23 hi hz0 hz1 hz2 rfl (by decide) _ 0 [] rfl HO1.out ⟨b, off, none⟩ n cap us rfl (by rw [HN.out, Nat.mul_one]) (fun j u hj => (((Ext.refl w).alloc _).cell (p := (⟨b, off, none⟩ : Addr).add j) (by rw [Addr.add_mid]; exact hb)).trans (HNw.out j u hj)) H1.out (by unfold maxLen; omega) (by omega) (by simp) ?_; intro v' w2 ho hg _ _; have HO2 := Lib.hid ho; have HG := Lib.hid hg; obtain ⟨a2, c2, rfl⟩ := ownsRow_form ho; clear ho hg))
    go_ret
    refine ⟨_, rfl, ?_, ?_⟩
    · have := HO2.out
      rwa [Nat.zero_add, List.nil_append] at this
    · exact ((Below.refl _ _).alloc (Nat.le_refl _) _).grown HG.out (by simp) (fun c e => (HO1.out.lt c e).1)

theorem isSome_set {w : World} {a b : Addr} {v : Value} (h : (w.cell? b).isSome = true) : ((w.setCell a v).cell? b).isSome = true := by
  by_cases e : a = b
  · subst e
    obtain ⟨u, hu⟩ := Option.isSome_iff_exists.1 h
    rw [World.cell?_setCell_same _ _ _ hu]; rfl
  · rw [World.cell?_setCell_other _ _ _ _ e]; exact h
/-- The head of a row whose cells may be written; it lies in the blocks from base to lim. -/
def RowT (base lim : Nat) (w : World) (u : Value) : Prop := u = .slice none 0 0 ∨ ∃ g n c, u = .slice (some ⟨g, 0, none⟩) n c ∧ base ≤ g ∧ g < lim ∧ n ≤ c ∧ c ≤ 9223372036854775807 ∧ ∀ j, j < n → (w.cell? ⟨g, j, none⟩).isSome = true ∧ w.frozen? ⟨g, j, none⟩ = false
theorem RowT.set {base lim : Nat} {w : World} {u : Value} (h : RowT base lim w u) (a : Addr) (v : Value) : RowT base lim (w.setCell a v) u := by
  rcases h with h | ⟨g, n, c, h1, h2, h3, h4, h5, h6⟩
  · exact .inl h
  · exact .inr ⟨g, n, c, h1, h2, h3, h4, h5, fun j hj => ⟨isSome_set (h6 j hj).1, by rw [World.frozen?_setCell]; exact (h6 j hj).2⟩⟩
theorem RowT.keeps {base lim : Nat} {w w' : World} {u : Value} (h : RowT base lim w u) {R : Nat → Prop} (hk : Keeps R w w') (hr : ∀ g, base ≤ g → g < lim → R g) : RowT base lim w' u := by
  rcases h with h | ⟨g, n, c, h1, h2, h3, h4, h5, h6⟩
  · exact .inl h
  · exact .inr ⟨g, n, c, h1, h2, h3, h4, h5, fun j hj => ⟨by rw [hk.cell (p := ⟨g, j, none⟩) (hr g h2 h3)]; exact (h6 j hj).1, by rw [hk.frozen (p := ⟨g, j, none⟩) (hr g h2 h3)]; exact (h6 j hj).2⟩⟩
theorem RowT.of {base : Nat} {w : World} {e : TypeId} {u : Value} {n : Nat} {xs : List Value} (h : w.ownsRow base e 1 u n xs) : RowT base w.heap.size w u := by
  have h0 := h
  rcases h.2 with ⟨rfl, rfl⟩ | ⟨g, c, cur, rfl, hb, hg, h1, h2, h3⟩
  · exact .inl rfl
  · refine .inr ⟨g, n, c, rfl, hb, (h0.lt g rfl).2, h1, by unfold maxLen at h2; exact h2, fun j hj => ?_⟩
    have := ownsRow_there h0 (o := 0) (k := n) (by omega) j hj
    rwa [Nat.zero_add] at this
theorem RowT.form {base lim : Nat} {w : World} {u : Value} (h : RowT base lim w u) : ∃ a n c, u = .slice a n c ∧ n ≤ 9223372036854775807 ∧ ∀ j, j < n → ∃ g, a = some ⟨g, 0, none⟩ ∧ base ≤ g ∧ g < lim ∧ (w.cell? ⟨g, j, none⟩).isSome = true ∧ w.frozen? ⟨g, j, none⟩ = false := by
  rcases h with h | ⟨g, n, c, h1, h2, h3, h4, h5, h6⟩
  · exact ⟨none, 0, 0, h, by omega, fun j hj => by omega⟩
  · exact ⟨_, n, c, h1, by omega, fun j hj => ⟨g, rfl, h2, h3, h6 j hj⟩⟩
theorem SrcOf.own {w : World} {base n : Nat} {e : TypeId} {v : Value} {xs : List Value} (h : w.ownsRow base e 1 v n xs) : SrcOf w v n xs := by
  rcases h.2 with ⟨rfl, rfl⟩ | ⟨g, c, cur, rfl, _⟩
  · exact .inl ⟨rfl, rfl, by have := h.1; simpa using this⟩
  · exact .inr ⟨_, c, rfl, h.cells rfl⟩
theorem OwnLL.rows {base : Nat} {w : World} {v : Value} {ll : List (List Int)} (h : OwnLL base w v ll) : ∃ us : List Value, us.length = ll.length ∧ w.ownsRow base 36 1 v us.length us ∧ (∀ u ∈ us, RowT base w.heap.size w u) ∧ ∀ u ∈ us, u.oneCell' = true := by
  obtain ⟨us, h1, h2, h3⟩ := h
  have key : ∀ u ∈ us, ∃ l : List Int, w.ownsRow base 3 1 u l.length (l.map encZ) := fun u hu => by
    obtain ⟨i, hi⟩ := List.getElem?_of_mem hu
    have hil := (List.getElem?_eq_some_iff.1 hi).1
    exact ⟨_, h3 i u _ hi (List.getElem?_eq_getElem (by omega))⟩
  refine ⟨us, h1, h2, fun u hu => ?_, fun u hu => ?_⟩
  · obtain ⟨l, hl⟩ := key u hu
    exact RowT.of hl
  · obtain ⟨l, hl⟩ := key u hu
    obtain ⟨a, c, rfl⟩ := ownsRow_form hl
    rfl

end Go.Proofs.YtiegfnmpknmbmaaGreat
