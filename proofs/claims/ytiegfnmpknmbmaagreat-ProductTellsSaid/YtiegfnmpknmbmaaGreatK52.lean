/-
  The law's makes.
-/
import Derived.Test.YtiegfnmpknmbmaaGreatK47
import Derived.Test.YtiegfnmpknmbmaaGreatK45
import Derived.Test.YtiegfnmpknmbmaaGreatK51
import Derived.Test.YtiegfnmpknmbmaaGreatK46
namespace Go.Proofs.YtiegfnmpknmbmaaGreat
open Go Go.RowKit Go.Shelf Go.Maps
attribute [local go_sem] encS

theorem ApartF.ne {ops : Array Oper} {al : List Nat} {a : Act} (h : ApartF ops al a) (i j s t : Nat) {x y : Value} (hi : i ∈ al) (hj : j ∈ al) (hij : i ≠ j) (hs : dstOf ops i = some s) (ht : dstOf ops j = some t) (h1 : a.tmps[s]? = some x) (h2 : a.tmps[t]? = some y) : x ≠ y := fun e =>
  h i j s t hi hj hij hs ht (Array.getElem?_eq_some_iff.1 h1).1 (Array.getElem?_eq_some_iff.1 h2).1 (by rw [h1, h2, e])
theorem keeps3 (W : World) (b : Nat) (x y z : Value) : Keeps (· ≠ b) W (((W.setCell ⟨b, 0, none⟩ x).setCell ⟨b, 1, none⟩ y).setCell ⟨b, 2, none⟩ z) :=
  (((Keeps.refl _ _).setCell (p := ⟨b, 0, none⟩) (fun h => h rfl) _).setCell (p := ⟨b, 1, none⟩) (fun h => h rfl) _).setCell (p := ⟨b, 2, none⟩) (fun h => h rfl) _
theorem partsE_ok (a b : DF) (op f : Int) : (∀ c ∈ (partsE a b op f).1, c < 256) ∧ (partsE a b op f).1.length ≤ 4000 := by
  unfold partsE
  by_cases h0 : (prodE a b op f).2 = 0
  · rw [if_pos h0]
    have hr := (right_iff _).1 ((prodE_sm a b op f).2 h0)
    exact ⟨firstR_lt hr, firstR_len hr⟩
  · rw [if_neg h0]
    exact ⟨fun c hc => (by cases hc), Nat.zero_le _⟩
set_option maxRecDepth 100000 in
set_option maxHeartbeats 8000000 in
theorem makes_any (v v' : Value) (a b : DF) (sa : Sm a) (sb : Sm b) (op : Nat) (hop : op < 256) (f : Int) (w : World) (h : IsDfe w v a) (h' : IsDfe w v' b) :
    Calls Tryz.prog 7 #[v, v', .int .u8 op, .int .i64 f] w fun e w' => e = .returned (.bool true) ∧ Below w.heap.size w w' := by
  have CC : Hid (∀ W, Below w.heap.size w W → Calls Tryz.prog 14 #[v] W fun e w' => ∃ u, e = .returned u ∧ OwnDf W.heap.size w' u a ∧ Below W.heap.size W w') := fun W hW => copyE_any v a W (h.below hW) sa
  have CC' : Hid (∀ W, Below w.heap.size w W → Calls Tryz.prog 14 #[v'] W fun e w' => ∃ u, e = .returned u ∧ OwnDf W.heap.size w' u b ∧ Below W.heap.size W w') := fun W hW => copyE_any v' b W (h'.below hW) sb
  have CT : Hid (∀ W, Below w.heap.size w W → Calls Tryz.prog 15 #[v] W fun e w' => ∃ u, e = .returned u ∧ OwnRf W.heap.size w' u a ∧ Below W.heap.size W w') := fun W hW => theirsOE_any v a W (h.below hW) sa
  have CT' : Hid (∀ W, Below w.heap.size w W → Calls Tryz.prog 15 #[v'] W fun e w' => ∃ u, e = .returned u ∧ OwnRf W.heap.size w' u b ∧ Below W.heap.size W w') := fun W hW => theirsOE_any v' b W (h'.below hW) sb
  have SA := Lib.hid sa
  have SB := Lib.hid sb
  obtain ⟨n0, hn0⟩ : ∃ n, n = a.cl.length := ⟨_, rfl⟩
  obtain ⟨n1, hn1⟩ : ∃ n, n = a.nx.length := ⟨_, rfl⟩
  obtain ⟨n2, hn2⟩ : ∃ n, n = a.mr.length := ⟨_, rfl⟩
  obtain ⟨m0, hm0⟩ : ∃ n, n = b.cl.length := ⟨_, rfl⟩
  obtain ⟨m1, hm1⟩ : ∃ n, n = b.nx.length := ⟨_, rfl⟩
  obtain ⟨m2, hm2⟩ : ∃ n, n = b.mr.length := ⟨_, rfl⟩
  have HN0 := Lib.hid hn0
  have HN1 := Lib.hid hn1
  have HN2 := Lib.hid hn2
  have HM0 := Lib.hid hm0
  have HM1 := Lib.hid hm1
  have HM2 := Lib.hid hm2
  clear hn0 hn1 hn2 hm0 hm1 hm2
  obtain ⟨v0, v1, v2, rfl, h0, h1, h2⟩ := h
  obtain ⟨u0, u1, u2, rfl, g0, g1, g2⟩ := h'
  clear h0 h1 h2 g0 g1 g2 sa sb
  go_enter Tryz.func7, Tryz.ntmps7
  go_wp2
  refine wp_named ?_
  intro V hV
  have B4 : Hid (Blk V w.heap.size #[v0, v1, v2] 25) := Lib.hid (by rw [hV]; exact (Blk.new w _ _).alloc _)
  have B5 : Hid (Blk V (w.heap.size + 1) #[u0, u1, u2] 25) := Lib.hid (by rw [hV]; exact (Blk.new (w.alloc _) _ _).at (by simp))
  have X1 : Hid (Below w.heap.size w V) := Lib.hid (by rw [hV]; exact (((Ext.refl w).alloc _).alloc _).below)
  clear hV
  have hwV : w.heap.size < V.heap.size := B4.out.lt
  have hwV' : w.heap.size + 1 < V.heap.size := B5.out.lt

  refine wp_region_regD (Move false (fun _ => False)) (fun _ _ h => h.size) (Move.ext (Ext.refl _).drew) (fun _ _ _ h k => h.trans k) (by kernel_rfl) 6 [0, 1, 0, 7, 0, 0, 63, 127] (fun i => i == 1 || i == 3 || i == 4 || i == 5 || i == 6 || i == 7) (by kernel_rfl) [4, 5] (by kernel_rfl) (fun i => if i = 1 then Eff.dfE V.heap.size a else if i = 3 then Eff.dfE V.heap.size b else if i = 4 then Eff.boxE V.heap.size #[.slice none 0 0, .slice none 0 0, .slice none 0 0] 25 else if i = 5 then Eff.boxE V.heap.size #[.slice none 0 0, .slice none 0 0, .slice none 0 0] 25 else Eff.any _) ?_
  intro C hC hne
  have HC := Lib.hid hC
  have f0 := regCell hC (p := ⟨w.heap.size, 0, none⟩) hwV (fun h => h) (B4.out.cell 0)
  have f0' := regCell hC (p := ⟨w.heap.size + 1, 0, none⟩) hwV' (fun h => h) (B5.out.cell 0)
  have f1 := regCell hC (p := ⟨w.heap.size, 1, none⟩) hwV (fun h => h) (B4.out.cell 1)
  have f1' := regCell hC (p := ⟨w.heap.size + 1, 1, none⟩) hwV' (fun h => h) (B5.out.cell 1)
  have f2 := regCell hC (p := ⟨w.heap.size, 2, none⟩) hwV (fun h => h) (B4.out.cell 2)
  have f2' := regCell hC (p := ⟨w.heap.size + 1, 2, none⟩) hwV' (fun h => h) (B5.out.cell 2)
  simp only [List.getElem?_toArray, List.getElem?_cons_zero, List.getElem?_cons_succ] at f0 f1 f2 f0' f1' f2'
  clear hC
  repeat (refine regStep (fun K hK => ?_); first | (refine regN rfl ?_; try go_simp; refine hK _ _ ?_; clear hK K) | (refine regF rfl rfl ?_; unfold floatAt; go_simp; refine hK _ _ ?_; clear hK K))
  refine regStep (fun K hK => ?_)
  refine regE rfl rfl (Eff.dfE V.heap.size a) rfl (fun W hW hN => ?_) (fun v hv => ?_)
  · have hM := (HC.out W).1 hW
    clear hW
    go_simp
    refine effT_call ((CC.out _ (X1.out.trans (hM.below.mono X1.out.size))).mono ?_)
    rintro e w2 ⟨u, rfl, ho, hx⟩
    exact ⟨_, rfl, Move.of_below hx, ho.form, ho.base hM.size⟩
  obtain ⟨pa0, pc0, pa1, pc1, pa2, pc2, rfl⟩ := hv
  go_simp
  refine hK _ _ ?_
  clear hK K
  repeat (refine regStep (fun K hK => ?_); first | (refine regN rfl ?_; try go_simp; refine hK _ _ ?_; clear hK K) | (refine regF rfl rfl ?_; unfold floatAt; go_simp; refine hK _ _ ?_; clear hK K))
  refine regStep (fun K hK => ?_)
  refine regE rfl rfl (Eff.dfE V.heap.size b) rfl (fun W hW hN => ?_) (fun v hv => ?_)
  · have hM := (HC.out W).1 hW
    clear hW
    go_simp
    refine effT_call ((CC'.out _ (X1.out.trans (hM.below.mono X1.out.size))).mono ?_)
    rintro e w2 ⟨u, rfl, ho, hx⟩
    exact ⟨_, rfl, Move.of_below hx, ho.form, ho.base hM.size⟩
  obtain ⟨qa0, qc0, qa1, qc1, qa2, qc2, rfl⟩ := hv
  go_simp
  refine hK _ _ ?_
  clear hK K
  refine regStep (fun K hK => ?_)
  refine regE rfl rfl (Eff.boxE V.heap.size #[.slice none 0 0, .slice none 0 0, .slice none 0 0] 25) rfl (fun W hW hN => ?_) (fun v hv => ?_)
  · have hM := (HC.out W).1 hW
    have hsW := hM.size
    clear hW hN hK K
    go_simp
    exact ⟨Move.ext ((Ext.refl _).alloc _), ⟨_, rfl⟩, fun b hb => by cases hb; exact ⟨hsW, Blk.new _ _ _⟩⟩
  obtain ⟨b9, rfl⟩ := hv
  go_simp
  refine hK _ _ ?_
  clear hK K
  refine regStep (fun K hK => ?_)
  refine regE rfl rfl (Eff.boxE V.heap.size #[.slice none 0 0, .slice none 0 0, .slice none 0 0] 25) rfl (fun W hW hN => ?_) (fun v hv => ?_)
  · have hM := (HC.out W).1 hW
    have hsW := hM.size
    clear hW hN hK K
    go_simp
    exact ⟨Move.ext ((Ext.refl _).alloc _), ⟨_, rfl⟩, fun b hb => by cases hb; exact ⟨hsW, Blk.new _ _ _⟩⟩
  obtain ⟨b10, rfl⟩ := hv
  go_simp
  refine hK _ _ ?_
  clear hK K
  refine regNil (fun W hW hH hap => ?_)
  have hM := (HC.out W).1 hW
  have hbb : b9 ≠ b10 := fun e => hap.ne 4 5 9 10 (x := .pointer (some ⟨b9, 0, none⟩)) (y := .pointer (some ⟨b10, 0, none⟩)) (by decide) (by decide) (by decide) rfl rfl rfl rfl (by rw [e])
  clear hap
  have D2 : Hid (V.heap.size ≤ b10 ∧ Blk W b10 #[.slice none 0 0, .slice none 0 0, .slice none 0 0] 25) := Lib.hid (hH _ (List.mem_of_getElem? (show _ = some _ from rfl : _[0]? = some _)) b10 rfl)
  have D1 : Hid (V.heap.size ≤ b9 ∧ Blk W b9 #[.slice none 0 0, .slice none 0 0, .slice none 0 0] 25) := Lib.hid (hH _ (List.mem_of_getElem? (show _ = some _ from rfl : _[1]? = some _)) b9 rfl)
  have O1 : Hid (OwnDf V.heap.size W (.agg #[.slice pa0 a.cl.length pc0, .slice pa1 a.nx.length pc1, .slice pa2 a.mr.length pc2]) a) := Lib.hid (hH _ (List.mem_of_getElem? (show _ = some _ from rfl : _[3]? = some _)))
  have O2 : Hid (OwnDf V.heap.size W (.agg #[.slice qa0 b.cl.length qc0, .slice qa1 b.nx.length qc1, .slice qa2 b.mr.length qc2]) b) := Lib.hid (hH _ (List.mem_of_getElem? (show _ = some _ from rfl : _[2]? = some _)))
  have MW := Lib.hid hM.below
  have hsW : V.heap.size ≤ W.heap.size := hM.size
  clear hM hW hH HC f0 f1 f2 f0' f1' f2' hne
  have hb1 := D1.out.1
  have hb2 := D2.out.1
  obtain ⟨⟨k0, k1, k2⟩, z0, z1, z2⟩ := D1.out.2.three
  obtain ⟨⟨l0, l1, l2⟩, y0, y1, y2⟩ := D2.out.2.three
  go_wp2_with fail
  refine wp_named ?_
  intro V2 hV2
  obtain ⟨W1, hW1⟩ : ∃ W1, W1 = (((W.setCell ⟨b9, 0, none⟩ (.slice pa0 a.cl.length pc0)).setCell ⟨b9, 1, none⟩ (.slice pa1 a.nx.length pc1)).setCell ⟨b9, 2, none⟩ (.slice pa2 a.mr.length pc2)) := ⟨_, rfl⟩
  have j1 : Keeps (· ≠ b9) W W1 := by rw [hW1]; exact keeps3 _ _ _ _ _
  have E1 : Blk W1 b9 #[.slice pa0 a.cl.length pc0, .slice pa1 a.nx.length pc1, .slice pa2 a.mr.length pc2] 25 := by rw [hW1]; exact D1.out.2.set3
  have E2 := D2.out.2.keeps j1 (fun e => hbb e.symm)
  have j2 : Keeps (· ≠ b10) W1 V2 := by rw [hV2, ← hW1]; exact keeps3 _ _ _ _ _
  have C10 : Hid (Blk V2 b10 #[.slice qa0 b.cl.length qc0, .slice qa1 b.nx.length qc1, .slice qa2 b.mr.length qc2] 25) := Lib.hid (by rw [hV2, ← hW1]; exact E2.set3)
  have C9 := Lib.hid (E1.keeps j2 hbb)
  have PD := Lib.hid ((O1.out.past D1.out.2 (by decide) (by decide) (by decide) j1).past E2 (by decide) (by decide) (by decide) j2).df
  have QD := Lib.hid ((O2.out.past D1.out.2 (by decide) (by decide) (by decide) j1).past E2 (by decide) (by decide) (by decide) j2).df
  have HB : Hid (Below V.heap.size V V2) := Lib.hid (MW.out.trans (((j1.mono fun x hx => by have : x < V.heap.size := hx; omega).tr (j2.mono fun x hx => by have : x < V.heap.size := hx; omega) : Keeps (· < V.heap.size) W V2).below))
  replace B4 := Lib.hid (B4.out.below HB.out B4.out.lt)
  replace B5 := Lib.hid (B5.out.below HB.out B5.out.lt)
  replace X1 := Lib.hid (X1.out.trans (HB.out.mono X1.out.size))
  clear hV2 hW1 j1 E1 E2 j2 O1 O2 D1 D2 HB MW k0 k1 k2 l0 l1 l2 z0 z1 z2 y0 y1 y2 hb1 hb2 hsW hwV hwV' CC CC'
  have hwV2 : w.heap.size < V2.heap.size := B4.out.lt
  have hwV2' : w.heap.size + 1 < V2.heap.size := B5.out.lt
  skip --M1
  refine wp_region_regD (Move false (fun _ => False)) (fun _ _ h => h.size) (Move.ext (Ext.refl _).drew) (fun _ _ _ h k => h.trans k) (by kernel_rfl) 6 [0, 1, 0, 7, 0, 0, 63, 127] (fun i => i == 1 || i == 3 || i == 4 || i == 5 || i == 6 || i == 7) (by kernel_rfl) [4, 5] (by kernel_rfl) (fun i => if i = 1 then Eff.rfE V2.heap.size a else if i = 3 then Eff.rfE V2.heap.size b else if i = 4 then Eff.boxE V2.heap.size #[.slice none 0 0, .slice none 0 0, .slice none 0 0] 42 else if i = 5 then Eff.boxE V2.heap.size #[.slice none 0 0, .slice none 0 0, .slice none 0 0] 42 else Eff.any _) ?_
  intro C hC hne
  have HC := Lib.hid hC
  have f0 := regCell hC (p := ⟨w.heap.size, 0, none⟩) hwV2 (fun h => h) (B4.out.cell 0)
  have f0' := regCell hC (p := ⟨w.heap.size + 1, 0, none⟩) hwV2' (fun h => h) (B5.out.cell 0)
  have f1 := regCell hC (p := ⟨w.heap.size, 1, none⟩) hwV2 (fun h => h) (B4.out.cell 1)
  have f1' := regCell hC (p := ⟨w.heap.size + 1, 1, none⟩) hwV2' (fun h => h) (B5.out.cell 1)
  have f2 := regCell hC (p := ⟨w.heap.size, 2, none⟩) hwV2 (fun h => h) (B4.out.cell 2)
  have f2' := regCell hC (p := ⟨w.heap.size + 1, 2, none⟩) hwV2' (fun h => h) (B5.out.cell 2)
  simp only [List.getElem?_toArray, List.getElem?_cons_zero, List.getElem?_cons_succ] at f0 f1 f2 f0' f1' f2'
  clear hC
  repeat (refine regStep (fun K hK => ?_); first | (refine regN rfl ?_; try go_simp; refine hK _ _ ?_; clear hK K) | (refine regF rfl rfl ?_; unfold floatAt; go_simp; refine hK _ _ ?_; clear hK K))
  refine regStep (fun K hK => ?_)
  refine regE rfl rfl (Eff.rfE V2.heap.size a) rfl (fun W hW hN => ?_) (fun v hv => ?_)
  · have hM := (HC.out W).1 hW
    clear hW
    go_simp
    refine effT_call ((CT.out _ (X1.out.trans (hM.below.mono X1.out.size))).mono ?_)
    rintro e w2 ⟨u, rfl, ho, hx⟩
    exact ⟨_, rfl, Move.of_below hx, ho.form, ho.base hM.size⟩
  obtain ⟨xa0, xc0, xa1, xc1, xa2, xc2, rfl⟩ := hv
  go_simp
  refine hK _ _ ?_
  clear hK K
  repeat (refine regStep (fun K hK => ?_); first | (refine regN rfl ?_; try go_simp; refine hK _ _ ?_; clear hK K) | (refine regF rfl rfl ?_; unfold floatAt; go_simp; refine hK _ _ ?_; clear hK K))
  refine regStep (fun K hK => ?_)
  refine regE rfl rfl (Eff.rfE V2.heap.size b) rfl (fun W hW hN => ?_) (fun v hv => ?_)
  · have hM := (HC.out W).1 hW
    clear hW
    go_simp
    refine effT_call ((CT'.out _ (X1.out.trans (hM.below.mono X1.out.size))).mono ?_)
    rintro e w2 ⟨u, rfl, ho, hx⟩
    exact ⟨_, rfl, Move.of_below hx, ho.form, ho.base hM.size⟩
  obtain ⟨ya0, yc0, ya1, yc1, ya2, yc2, rfl⟩ := hv
  go_simp
  refine hK _ _ ?_
  clear hK K
  refine regStep (fun K hK => ?_)
  refine regE rfl rfl (Eff.boxE V2.heap.size #[.slice none 0 0, .slice none 0 0, .slice none 0 0] 42) rfl (fun W hW hN => ?_) (fun v hv => ?_)
  · have hM := (HC.out W).1 hW
    have hsW := hM.size
    clear hW hN hK K
    go_simp
    exact ⟨Move.ext ((Ext.refl _).alloc _), ⟨_, rfl⟩, fun b hb => by cases hb; exact ⟨hsW, Blk.new _ _ _⟩⟩
  obtain ⟨b11, rfl⟩ := hv
  go_simp
  refine hK _ _ ?_
  clear hK K
  refine regStep (fun K hK => ?_)
  refine regE rfl rfl (Eff.boxE V2.heap.size #[.slice none 0 0, .slice none 0 0, .slice none 0 0] 42) rfl (fun W hW hN => ?_) (fun v hv => ?_)
  · have hM := (HC.out W).1 hW
    have hsW := hM.size
    clear hW hN hK K
    go_simp
    exact ⟨Move.ext ((Ext.refl _).alloc _), ⟨_, rfl⟩, fun b hb => by cases hb; exact ⟨hsW, Blk.new _ _ _⟩⟩
  obtain ⟨b12, rfl⟩ := hv
  go_simp
  refine hK _ _ ?_
  clear hK K
  refine regNil (fun W hW hH hap => ?_)
  have hM := (HC.out W).1 hW
  have hbb : b11 ≠ b12 := fun e => hap.ne 4 5 11 12 (x := .pointer (some ⟨b11, 0, none⟩)) (y := .pointer (some ⟨b12, 0, none⟩)) (by decide) (by decide) (by decide) rfl rfl rfl rfl (by rw [e])
  clear hap
  have D2 : Hid (V2.heap.size ≤ b12 ∧ Blk W b12 #[.slice none 0 0, .slice none 0 0, .slice none 0 0] 42) := Lib.hid (hH _ (List.mem_of_getElem? (show _ = some _ from rfl : _[0]? = some _)) b12 rfl)
  have D1 : Hid (V2.heap.size ≤ b11 ∧ Blk W b11 #[.slice none 0 0, .slice none 0 0, .slice none 0 0] 42) := Lib.hid (hH _ (List.mem_of_getElem? (show _ = some _ from rfl : _[1]? = some _)) b11 rfl)
  have O1 : Hid (OwnRf V2.heap.size W (.agg #[.slice xa0 a.cl.length xc0, .slice xa1 a.nx.length xc1, .slice xa2 a.mr.length xc2]) a) := Lib.hid (hH _ (List.mem_of_getElem? (show _ = some _ from rfl : _[3]? = some _)))
  have O2 : Hid (OwnRf V2.heap.size W (.agg #[.slice ya0 b.cl.length yc0, .slice ya1 b.nx.length yc1, .slice ya2 b.mr.length yc2]) b) := Lib.hid (hH _ (List.mem_of_getElem? (show _ = some _ from rfl : _[2]? = some _)))
  have MW := Lib.hid hM.below
  have hsW : V2.heap.size ≤ W.heap.size := hM.size
  clear hM hW hH HC f0 f1 f2 f0' f1' f2' hne
  have hb1 := D1.out.1
  have hb2 := D2.out.1
  obtain ⟨⟨k0, k1, k2⟩, z0, z1, z2⟩ := D1.out.2.three
  obtain ⟨⟨l0, l1, l2⟩, y0, y1, y2⟩ := D2.out.2.three
  rw [← HN0.out, ← HN1.out, ← HN2.out] at C9 O1 ⊢
  rw [← HM0.out, ← HM1.out, ← HM2.out] at C10 O2 ⊢
  have h9 := C9.out.lt
  have h10 := C10.out.lt
  have d1 : b9 ≠ b11 := by omega
  have d2 : b9 ≠ b12 := by omega
  obtain ⟨⟨i0, i1, i2⟩, _⟩ := (C9.out.below MW.out h9).three
  skip --M2
  go_wp2_with fail
  refine calls_named ?_
  intro V3 hV3
  obtain ⟨W1, hW1⟩ : ∃ W1, W1 = (((W.setCell ⟨b11, 0, none⟩ (.slice xa0 n0 xc0)).setCell ⟨b11, 1, none⟩ (.slice xa1 n1 xc1)).setCell ⟨b11, 2, none⟩ (.slice xa2 n2 xc2)) := ⟨_, rfl⟩
  have j1 : Keeps (· ≠ b11) W W1 := by rw [hW1]; exact keeps3 _ _ _ _ _
  have E1 : Blk W1 b11 #[.slice xa0 n0 xc0, .slice xa1 n1 xc1, .slice xa2 n2 xc2] 42 := by rw [hW1]; exact D1.out.2.set3
  have E2 := D2.out.2.keeps j1 (fun e => hbb e.symm)
  have j2 : Keeps (· ≠ b12) W1 V3 := by rw [hV3, ← hW1]; exact keeps3 _ _ _ _ _
  have C12 : Hid (Blk V3 b12 #[.slice ya0 m0 yc0, .slice ya1 m1 yc1, .slice ya2 m2 yc2] 42) := Lib.hid (by rw [hV3, ← hW1]; exact E2.set3)
  have C11 := Lib.hid (E1.keeps j2 hbb)
  have XD := Lib.hid ((O1.out.past D1.out.2 (by decide) (by decide) (by decide) j1).past E2 (by decide) (by decide) (by decide) j2).rf
  have YD := Lib.hid ((O2.out.past D1.out.2 (by decide) (by decide) (by decide) j1).past E2 (by decide) (by decide) (by decide) j2).rf
  have HB : Hid (Below V2.heap.size V2 V3) := Lib.hid (MW.out.trans (((j1.mono fun x hx => by have : x < V2.heap.size := hx; omega).tr (j2.mono fun x hx => by have : x < V2.heap.size := hx; omega) : Keeps (· < V2.heap.size) W V3).below))
  replace C9 := Lib.hid (C9.out.below HB.out C9.out.lt)
  replace C10 := Lib.hid (C10.out.below HB.out C10.out.lt)
  replace PD := Lib.hid (PD.out.below HB.out)
  replace QD := Lib.hid (QD.out.below HB.out)
  replace X1 := Lib.hid (X1.out.trans (HB.out.mono X1.out.size))
  rw [← HN0.out, ← HN1.out, ← HN2.out] at PD
  rw [← HM0.out, ← HM1.out, ← HM2.out] at QD
  clear hV3 hW1 j1 E1 E2 j2 O1 O2 D1 D2 HB MW k0 k1 k2 l0 l1 l2 z0 z1 z2 y0 y1 y2 hb1 hb2 hsW hwV2 hwV2' CT CT' i0 i1 i2 d1 d2 h9 h10 B4 B5 HN0 HN1 HN2 HM0 HM1 HM2
  -- what the contracts say
  have CS : Hid (∀ W u u', IsDf W u a → IsRf W u' a → Calls Tryz.prog 16 #[u, u'] W fun e w' => e = .returned (.bool true) ∧ Below W.heap.size W w') := Lib.hid fun W u u' h h' => sameD_any u u' a W h h' SA.out
  have CS' : Hid (∀ W u u', IsDf W u b → IsRf W u' b → Calls Tryz.prog 16 #[u, u'] W fun e w' => e = .returned (.bool true) ∧ Below W.heap.size W w') := Lib.hid fun W u u' h h' => sameD_any u u' b W h h' SB.out
  obtain ⟨pe, hpe⟩ : ∃ x, x = prodE a b op f := ⟨_, rfl⟩
  obtain ⟨se, hse⟩ : ∃ x, x = partsE a b 3 f := ⟨_, rfl⟩
  obtain ⟨te, hte⟩ : ∃ x, x = partsE a b 4 f := ⟨_, rfl⟩
  have hsm : Sm pe.1 := by rw [hpe]; exact (prodE_sm a b op f).1
  have hsl := partsE_ok a b 3 f
  have htl := partsE_ok a b 4 f
  have CO : Hid (∀ W u u', IsRf W u a → IsRf W u' b → Calls Tryz.prog 17 #[u, u', .int .i64 op, .int .i64 f] W fun e w' => ∃ u, e = .returned (.tuple #[u, .int .i64 pe.2]) ∧ IsRf w' u pe.1 ∧ Below W.heap.size W w') := Lib.hid fun W u u' h h' => by rw [hpe]; exact rof_any u u' a b SA.out SB.out op f W h h'
  have CP : Hid (∀ W u u', IsRf W u a → IsRf W u' b → Calls Tryz.prog 18 #[u, u', .int .i64 3, .int .i64 f] W fun e w' => ∃ u, e = .returned (.tuple #[u, .bool se.2.1, .int .i64 se.2.2]) ∧ w'.ownsRow W.heap.size 5 1 u se.1.length (se.1.map encB) ∧ Below W.heap.size W w') := Lib.hid fun W u u' h h' => by rw [hse]; exact rparts_any u u' a b SA.out SB.out 3 f W h h'
  have CP' : Hid (∀ W u u', IsRf W u a → IsRf W u' b → Calls Tryz.prog 18 #[u, u', .int .i64 4, .int .i64 f] W fun e w' => ∃ u, e = .returned (.tuple #[u, .bool te.2.1, .int .i64 te.2.2]) ∧ w'.ownsRow W.heap.size 5 1 u te.1.length (te.1.map encB) ∧ Below W.heap.size W w') := Lib.hid fun W u u' h h' => by rw [hte]; exact rparts_any u u' a b SA.out SB.out 4 f W h h'
  have DO : Hid (∀ W u u', IsDf W u a → IsDf W u' b → Calls Tryz.prog 19 #[u, u', .int .u8 op, .int .i64 f] W fun e w' => ∃ u, e = .returned (.tuple #[u, .int .i64 pe.2]) ∧ OwnDf W.heap.size w' u pe.1 ∧ Below W.heap.size W w') := Lib.hid fun W u u' h h' => by rw [hpe]; exact prod_any u u' a b SA.out SB.out op f W h h'
  have DW : Hid (∀ W u u', IsDf W u a → IsDf W u' b → Calls Tryz.prog 20 #[u, u', .int .i64 f] W fun e w' => ∃ u, e = .returned (.tuple #[u, .bool se.2.1, .int .i64 se.2.2]) ∧ w'.ownsRow W.heap.size 5 1 u se.1.length (se.1.map encB) ∧ Below W.heap.size W w') := Lib.hid fun W u u' h h' => by rw [hse]; exact pwithin_any u u' a b SA.out SB.out f W h h'
  have DE : Hid (∀ W u u', IsDf W u a → IsDf W u' b → Calls Tryz.prog 21 #[u, u', .int .i64 f] W fun e w' => ∃ u, e = .returned (.tuple #[u, .bool te.2.1, .int .i64 te.2.2]) ∧ w'.ownsRow W.heap.size 5 1 u te.1.length (te.1.map encB) ∧ Below W.heap.size W w') := Lib.hid fun W u u' h h' => by rw [hte]; exact pequal_any u u' a b SA.out SB.out f W h h'
  rw [← hse] at hsl
  rw [← hte] at htl
  obtain ⟨pd, pc⟩ := pe
  obtain ⟨sl, sb, sc⟩ := se
  obtain ⟨tl, tb, tc⟩ := te
  replace hsm : Sm pd := hsm
  have CSp : Hid (∀ W u u', IsDf W u pd → IsRf W u' pd → Calls Tryz.prog 16 #[u, u'] W fun e w' => e = .returned (.bool true) ∧ Below W.heap.size W w') := Lib.hid fun W u u' h h' => sameD_any u u' pd W h h' hsm
  have CB : Hid (∀ W u u', IsSl encB W u sl → IsSl encB W u' sl → Calls Tryz.prog 22 #[u, u'] W fun e w' => e = .returned (.bool true) ∧ w' = W) := Lib.hid fun W u u' h h' => by
    have := bytesEq_any u u' sl sl W h h' hsl.1 hsl.1
    rwa [beq_self_eq_true] at this
  have CB' : Hid (∀ W u u', IsSl encB W u tl → IsSl encB W u' tl → Calls Tryz.prog 22 #[u, u'] W fun e w' => e = .returned (.bool true) ∧ w' = W) := Lib.hid fun W u u' h h' => by
    have := bytesEq_any u u' tl tl W h h' htl.1 htl.1
    rwa [beq_self_eq_true] at this
  have SPO : Hid (∀ (base : Nat) (u : Value) (W0 W : World), OwnDf base W0 u pd → Keeps (fun x => base ≤ x ∧ x < W0.heap.size) W0 W → W0.heap.size ≤ W.heap.size → Calls Tryz.prog 23 #[u] W fun e w' => (∃ u, e = .returned u) ∧ Keeps (fun x => x < W.heap.size ∧ (x < base ∨ W0.heap.size ≤ x)) W w') := Lib.hid fun base u W0 W h hk hs => spoil2_any base u pd W0 W h hk hs hsm
  have hsl4 := hsl.2
  have htl4 := htl.2
  obtain ⟨sL, hsL⟩ : ∃ k, k = sl.length := ⟨_, rfl⟩
  obtain ⟨tL, htL⟩ : ∃ k, k = tl.length := ⟨_, rfl⟩
  simp only at CO CP CP' DO DW DE
  rw [← hsL] at CP DW hsl4
  rw [← htL] at CP' DE htl4
  have HSL := Lib.hid hsL
  have HTL := Lib.hid htL
  clear hpe hse hte hsm hsl htl SA SB hsL htL
  skip --M3
  refine (CS.out V3 _ _ PD.out XD.out).mono ?_
  rintro e w4 ⟨rfl, hx⟩
  have KV := Lib.hid hx
  clear hx
  obtain ⟨⟨i0, i1, i2⟩, _⟩ := (C10.out.below KV.out C10.out.lt).three
  obtain ⟨⟨r0, r1, r2⟩, _⟩ := (C12.out.below KV.out C12.out.lt).three
  go_wp2_with fail
  refine (CS'.out w4 _ _ (QD.out.below KV.out) (YD.out.below KV.out)).mono ?_
  rintro e w5 ⟨rfl, hx⟩
  replace KV := Lib.hid (KV.out.trans (hx.mono KV.out.size))
  clear hx i0 i1 i2 r0 r1 r2
  skip --M4
  obtain ⟨⟨i0, i1, i2⟩, _⟩ := (C11.out.below KV.out C11.out.lt).three
  obtain ⟨⟨r0, r1, r2⟩, _⟩ := (C12.out.below KV.out C12.out.lt).three
  have hwi : IntKind.i64.wrap (op : Int) = op := IntWalk.i64_in _ (by omega)
  go_wp2_with fail
  refine (CO.out w5 _ _ (XD.out.below KV.out) (YD.out.below KV.out)).mono ?_
  rintro e w6 ⟨uw, rfl, hw, hx⟩
  replace KV := Lib.hid (KV.out.trans (hx.mono KV.out.size))
  obtain ⟨x0, x1, x2, rfl, hw0, hw1, hw2⟩ := hw
  obtain ⟨wa0, wc0, rfl⟩ := hw0.form
  obtain ⟨wa1, wc1, rfl⟩ := hw1.form
  obtain ⟨wa2, wc2, rfl⟩ := hw2.form
  have WD : Hid (IsRf w6 (.agg #[.slice wa0 (pd.cl.map refS).length wc0, .slice wa1 pd.nx.length wc1, .slice wa2 pd.mr.length wc2]) pd) := Lib.hid ⟨_, _, _, rfl, hw0, hw1, hw2⟩
  obtain ⟨l0, hl0⟩ : ∃ k, k = (pd.cl.map refS).length := ⟨_, rfl⟩
  obtain ⟨l1, hl1⟩ : ∃ k, k = pd.nx.length := ⟨_, rfl⟩
  obtain ⟨l2, hl2⟩ : ∃ k, k = pd.mr.length := ⟨_, rfl⟩
  rw [← hl0, ← hl1, ← hl2] at WD ⊢
  have HL1 := Lib.hid hl1
  have HL2 := Lib.hid hl2
  clear hx i0 i1 i2 r0 r1 r2 hw0 hw1 hw2 CO hl0 hl1 hl2
  skip --M5
  have KVa : ∀ o, Below V3.heap.size V3 (w6.alloc o) := fun o => KV.out.alloc KV.out.size o
  have i0 : ∀ o, (w6.alloc o).cell? ⟨b11, 0, none⟩ = some (.slice xa0 n0 xc0) := fun o => ((C11.out.below (KVa o) C11.out.lt).three).1.1
  have i1 : ∀ o, (w6.alloc o).cell? ⟨b11, 1, none⟩ = some (.slice xa1 n1 xc1) := fun o => ((C11.out.below (KVa o) C11.out.lt).three).1.2.1
  have i2 : ∀ o, (w6.alloc o).cell? ⟨b11, 2, none⟩ = some (.slice xa2 n2 xc2) := fun o => ((C11.out.below (KVa o) C11.out.lt).three).1.2.2
  have r0 : ∀ o, (w6.alloc o).cell? ⟨b12, 0, none⟩ = some (.slice ya0 m0 yc0) := fun o => ((C12.out.below (KVa o) C12.out.lt).three).1.1
  have r1 : ∀ o, (w6.alloc o).cell? ⟨b12, 1, none⟩ = some (.slice ya1 m1 yc1) := fun o => ((C12.out.below (KVa o) C12.out.lt).three).1.2.1
  have r2 : ∀ o, (w6.alloc o).cell? ⟨b12, 2, none⟩ = some (.slice ya2 m2 yc2) := fun o => ((C12.out.below (KVa o) C12.out.lt).three).1.2.2
  clear KVa
  go_wp2_with fail
  refine calls_named ?_
  intro V7 hV7
  have C13 : Hid (Blk V7 w6.heap.size #[.slice wa0 l0 wc0, .slice wa1 l1 wc1, .slice wa2 l2 wc2] 42) := Lib.hid (by rw [hV7]; exact Blk.new _ _ _)
  have hb : Below w6.heap.size w6 V7 := by rw [hV7]; exact ((Ext.refl w6).alloc _).below
  replace KV := Lib.hid (KV.out.trans (hb.mono KV.out.size))
  replace WD := Lib.hid (WD.out.below hb)
  clear hb hV7 i0 i1 i2 r0 r1 r2
  refine (CP.out V7 _ _ (XD.out.below KV.out) (YD.out.below KV.out)).mono ?_
  rintro e w8 ⟨us, rfl, hs, hx⟩
  obtain ⟨ea, ec, rfl⟩ := ownsRow_form hs
  have S := Lib.hid hs
  replace KV := Lib.hid (KV.out.trans (hx.mono KV.out.size))
  replace WD := Lib.hid (WD.out.below hx)
  replace C13 := Lib.hid (C13.out.below hx C13.out.lt)
  clear hs hx
  skip --M6
  obtain ⟨⟨i0, i1, i2⟩, _⟩ := (C11.out.below KV.out C11.out.lt).three
  obtain ⟨⟨r0, r1, r2⟩, _⟩ := (C12.out.below KV.out C12.out.lt).three
  go_wp2_with fail
  refine (CP'.out w8 _ _ (XD.out.below KV.out) (YD.out.below KV.out)).mono ?_
  rintro e w9 ⟨ut, rfl, ht, hx⟩
  obtain ⟨ta, tc2, rfl⟩ := ownsRow_form ht
  have T := Lib.hid ht
  replace KV := Lib.hid (KV.out.trans (hx.mono KV.out.size))
  replace WD := Lib.hid (WD.out.below hx)
  replace S := Lib.hid (ownsRow_below S.out hx)
  replace C13 := Lib.hid (C13.out.below hx C13.out.lt)
  clear hx ht i0 i1 i2 r0 r1 r2 CP CP'
  have h69 : w6.heap.size < w9.heap.size := C13.out.lt
  skip --M7
  go_wp2
  go_loopw [74] (fun iv wr => ∃ k : Nat, k ≤ 2 ∧ iv = .int .i64 k ∧ Below w9.heap.size w9 wr) (fun iv _ => 2 - (intOf iv).toNat)
  case atStart => exact ⟨0, by omega, rfl, Below.refl _ _⟩
  case round =>
    obtain ⟨k, hk, rfl, hkb⟩ := hrel
    obtain ⟨wo, rfl⟩ : ∃ wo : World, wo = wr := ⟨_, rfl⟩
    have KB := Lib.hid hkb
    have KO := Lib.hid (KV.out.trans (hkb.mono KV.out.size))
    have hs9 : w9.heap.size ≤ wo.heap.size := hkb.size
    clear hkb
    by_cases hlt : k < 2
    · have hki : (k : Int) < 2 := by omega
      obtain ⟨⟨i0, i1, i2⟩, _⟩ := (C9.out.below KO.out C9.out.lt).three
      obtain ⟨⟨r0, r1, r2⟩, _⟩ := (C10.out.below KO.out C10.out.lt).three
      skip --N1
      go_wp2_with fail
      refine (DO.out wo _ _ (PD.out.below KO.out) (QD.out.below KO.out)).mono ?_
      rintro e w10 ⟨ud, rfl, ho, hx⟩
      obtain ⟨da0, dc0, da1, dc1, da2, dc2, rfl⟩ := ho.form
      obtain ⟨l3, hl3⟩ : ∃ k, k = pd.cl.length := ⟨_, rfl⟩
      have OD := Lib.hid ho
      rw [← hl3, ← HL1.out, ← HL2.out] at OD ⊢
      have KP := Lib.hid (KO.out.trans (hx.mono KO.out.size))
      have K0 := Lib.hid hx
      have ho10 : wo.heap.size ≤ w10.heap.size := hx.size
      clear hx i0 i1 i2 r0 r1 r2 ho hl3
      have KVa : ∀ o, Below V3.heap.size V3 (w10.alloc o) := fun o => KP.out.alloc KP.out.size o
      have i0 : ∀ o, (w10.alloc o).cell? ⟨b9, 0, none⟩ = some (.slice pa0 n0 pc0) := fun o => ((C9.out.below (KVa o) C9.out.lt).three).1.1
      have i1 : ∀ o, (w10.alloc o).cell? ⟨b9, 1, none⟩ = some (.slice pa1 n1 pc1) := fun o => ((C9.out.below (KVa o) C9.out.lt).three).1.2.1
      have i2 : ∀ o, (w10.alloc o).cell? ⟨b9, 2, none⟩ = some (.slice pa2 n2 pc2) := fun o => ((C9.out.below (KVa o) C9.out.lt).three).1.2.2
      have r0 : ∀ o, (w10.alloc o).cell? ⟨b10, 0, none⟩ = some (.slice qa0 m0 qc0) := fun o => ((C10.out.below (KVa o) C10.out.lt).three).1.1
      have r1 : ∀ o, (w10.alloc o).cell? ⟨b10, 1, none⟩ = some (.slice qa1 m1 qc1) := fun o => ((C10.out.below (KVa o) C10.out.lt).three).1.2.1
      have r2 : ∀ o, (w10.alloc o).cell? ⟨b10, 2, none⟩ = some (.slice qa2 m2 qc2) := fun o => ((C10.out.below (KVa o) C10.out.lt).three).1.2.2
      clear KVa
      skip --N2
      go_wp2_with fail
      refine calls_named ?_
      intro V11 hV11
      have CD : Hid (Blk V11 w10.heap.size #[.slice da0 l3 dc0, .slice da1 l1 dc1, .slice da2 l2 dc2] 25) := Lib.hid (by rw [hV11]; exact Blk.new _ _ _)
      have KD : Hid (Below w10.heap.size w10 V11) := Lib.hid (by rw [hV11]; exact ((Ext.refl w10).alloc _).below)
      clear hV11 i0 i1 i2 r0 r1 r2
      have hD := CD.out.lt
      have hk11 := KP.out.trans (KD.out.mono KP.out.size)
      refine (DW.out V11 _ _ (PD.out.below hk11) (QD.out.below hk11)).mono ?_
      rintro e w12 ⟨uu, rfl, hu, hx⟩
      obtain ⟨ua, uc, rfl⟩ := ownsRow_form hu
      have U := Lib.hid hu
      replace KD := Lib.hid (KD.out.trans (hx.mono KD.out.size))
      replace CD := Lib.hid (CD.out.below hx CD.out.lt)
      clear hu hx hk11
      have hk12 := KP.out.trans (KD.out.mono KP.out.size)
      obtain ⟨⟨i0, i1, i2⟩, _⟩ := (C9.out.below hk12 C9.out.lt).three
      obtain ⟨⟨r0, r1, r2⟩, _⟩ := (C10.out.below hk12 C10.out.lt).three
      have hp12 := Lib.hid (And.intro (PD.out.below hk12) (QD.out.below hk12))
      clear hk12
      skip --N3
      go_wp2_with fail
      refine (DE.out w12 _ _ hp12.out.1 hp12.out.2).mono ?_
      rintro e w13 ⟨uv, rfl, hu, hx⟩
      obtain ⟨va, vc, rfl⟩ := ownsRow_form hu
      have VV := Lib.hid hu
      replace KD := Lib.hid (KD.out.trans (hx.mono KD.out.size))
      replace CD := Lib.hid (CD.out.below hx CD.out.lt)
      replace U := Lib.hid (ownsRow_below U.out hx)
      clear hu hx hp12 i0 i1 i2 r0 r1 r2
      have hk13 : Below w9.heap.size w9 w13 := (KB.out.trans (K0.out.mono KB.out.size)).trans (KD.out.mono (by omega))
      obtain ⟨⟨i0, i1, i2⟩, _⟩ := CD.out.three
      obtain ⟨⟨r0, r1, r2⟩, _⟩ := (C13.out.below hk13 C13.out.lt).three
      have HD : Hid (IsDf w13 (.agg #[.slice da0 l3 dc0, .slice da1 l1 dc1, .slice da2 l2 dc2]) pd) := Lib.hid (OD.out.df.below KD.out)
      have HW := Lib.hid (WD.out.below hk13)
      have HS := Lib.hid (ownsRow_below S.out hk13)
      have HT := Lib.hid (ownsRow_below T.out hk13)
      have hz : ((pc : Int) != pc) = false := by simp
      clear hk13
      skip --N4
      go_wp2_with fail
      refine (CSp.out w13 _ _ HD.out HW.out).mono ?_
      rintro e w14 ⟨rfl, hx⟩
      replace KD := Lib.hid (KD.out.trans (hx.mono KD.out.size))
      replace CD := Lib.hid (CD.out.below hx CD.out.lt)
      replace U := Lib.hid (ownsRow_below U.out hx)
      replace VV := Lib.hid (ownsRow_below VV.out hx)
      replace HS := Lib.hid (ownsRow_below HS.out hx)
      replace HT := Lib.hid (ownsRow_below HT.out hx)
      clear hx i0 i1 i2 r0 r1 r2 HD HW
      skip --N5
      go_wp2_with fail
      refine (CB.out w14 _ _ (ownsRow_sl U.out HSL.out) (ownsRow_sl HS.out HSL.out)).mono ?_
      rintro e w' ⟨rfl, hw⟩
      replace hw := hw.symm
      subst hw
      skip --N6
      have hz2 : (sb != sb) = false := by simp
      have hz3 : ((sc : Int) != sc) = false := by simp
      go_wp2_with fail
      refine (CB'.out w14 _ _ (ownsRow_sl VV.out HTL.out) (ownsRow_sl HT.out HTL.out)).mono ?_
      rintro e w' ⟨rfl, hw⟩
      replace hw := hw.symm
      subst hw
      skip --N7
      have hz4 : (tb != tb) = false := by simp
      have hz5 : ((tc : Int) != tc) = false := by simp
      obtain ⟨⟨i0, i1, i2⟩, _⟩ := CD.out.three
      go_wp2_with fail
      refine (SPO.out wo.heap.size _ w10 w14 OD.out (Keeps.of_below KD.out fun x hx => hx.2) KD.out.size).mono ?_
      rintro e w15 ⟨⟨u15, rfl⟩, hk⟩
      have h14 : w10.heap.size < w14.heap.size := CD.out.lt
      have U15 := Lib.hid (ownsRow_keepsB U.out hk fun x h1 h2 => ⟨h2, .inr (by omega)⟩)
      have KE : Hid (Keeps (· < w9.heap.size) w9 w15) := Lib.hid ((((Keeps.of_below KB.out fun x hx => hx).tr (Keeps.of_below K0.out fun x (hx : x < w9.heap.size) => by omega)).tr (Keeps.of_below KD.out fun x (hx : x < w9.heap.size) => by omega)).tr (hk.mono fun x (hx : x < w9.heap.size) => ⟨by omega, .inl (by omega)⟩))
      have h15 : w14.heap.size ≤ w15.heap.size := hk.size
      clear hk i0 i1 i2 hz hz2 hz3 hz4 hz5 U VV HS HT OD CD KD KP K0 KB KO
      skip --N8
      go_wp2
      go_loopw [145] (fun iv wr => ∃ (k : Nat) (ys : List Value), k ≤ sL ∧ iv = .int .i64 k ∧ (∀ y ∈ ys, ∃ z : Int, y = .int .u8 z) ∧ wr.ownsRow V11.heap.size 5 1 (.slice ua sL uc) sL ys ∧ Keeps (· < w9.heap.size) w9 wr) (fun iv _ => sL - (intOf iv).toNat)
      case atStart => exact ⟨0, _, Nat.zero_le _, rfl, fun y hy => by obtain ⟨c, _, rfl⟩ := List.mem_map.1 hy; exact ⟨c, rfl⟩, U15.out, KE.out⟩
      case round =>
        obtain ⟨j, ys, hj, rfl, hys, hrow, hx⟩ := hrel
        obtain ⟨wi, rfl⟩ : ∃ wo : World, wo = wr := ⟨_, rfl⟩
        have HYS := Lib.hid hys
        have HROW := Lib.hid hrow
        have HX := Lib.hid hx
        clear hys hrow hx
        by_cases hlj : j < sL
        · obtain ⟨g, u, rfl, hg1, hg2, hu, cu, fu⟩ := rowCell HROW.out hlj
          obtain ⟨z, rfl⟩ := HYS.out u (List.mem_of_getElem? hu)
          have hji : (j : Int) < sL := by omega
          clear hu
          skip --N9
          go_wp2
          go_roundw
          case rel =>
            refine ⟨j + 1, _, by omega, by go_num, ?_, (HROW.out.stored j _).1, HX.out.setCell (p := ⟨g, j, none⟩) (fun h => by have h' : g < w9.heap.size := h; omega) _⟩
            intro y hy
            rcases List.mem_or_eq_of_mem_set hy with hy | hy
            · exact HYS.out y hy
            · exact ⟨_, hy⟩
          case measure => simp [intOf]; omega
        · obtain rfl : j = sL := by omega
          skip --N10
          go_wp2
          go_roundw
          case rel => exact ⟨k + 1, by omega, by go_num, HX.out.below⟩
          case measure => simp [intOf]; omega
    · obtain rfl : k = 2 := by omega
      skip --O1

      rcases (show op = 0 ∨ op = 1 ∨ op = 2 ∨ op = 3 ∨ op = 4 ∨ 5 ≤ op by omega) with rfl | rfl | rfl | rfl | rfl | h5
      · skip --E0
        have CN : Hid (∀ W, Calls Tryz.prog 24 #[.int .u8 0] W fun e w' => e = .returned (.string ⟨#[]⟩) ∧ Ext W w') := Lib.hid fun W => name_any 0 (by decide) W
        have hst : ((⟨#[]⟩ : ByteArray) == ⟨#[]⟩) = true := by kernel_rfl
        clear DO DW DE CSp CB CB' SPO hk hwi
        go_wp2_with fail
        refine calls_named ?_
        intro V9 hV9
        have KA : Hid (Below V3.heap.size V3 V9) := Lib.hid (by rw [hV9]; first | exact KO.out | exact KO.out.alloc KO.out.size _)
        clear hV9
        refine (CN.out V9).mono ?_
        rintro e w16 ⟨rfl, hx⟩
        replace KA := Lib.hid (KA.out.trans (hx.below.mono KA.out.size))
        obtain ⟨⟨i0, i1, i2⟩, _⟩ := (C9.out.below KA.out C9.out.lt).three
        obtain ⟨⟨r0, r1, r2⟩, _⟩ := (C11.out.below KA.out C11.out.lt).three
        clear hx CN
        skip --F0
        go_wp2_with fail
        refine (CS.out w16 _ _ (PD.out.below KA.out) (XD.out.below KA.out)).mono ?_
        rintro e w17 ⟨rfl, hx⟩
        replace KA := Lib.hid (KA.out.trans (hx.mono KA.out.size))
        clear hx i0 i1 i2 r0 r1 r2
        obtain ⟨⟨i0, i1, i2⟩, _⟩ := (C10.out.below KA.out C10.out.lt).three
        obtain ⟨⟨r0, r1, r2⟩, _⟩ := (C12.out.below KA.out C12.out.lt).three
        go_wp2_with fail
        refine (CS'.out w17 _ _ (QD.out.below KA.out) (YD.out.below KA.out)).mono ?_
        rintro e w18 ⟨rfl, hx⟩
        have KZ : Hid (Below w.heap.size w w18) := Lib.hid (X1.out.trans ((KA.out.trans (hx.mono KA.out.size)).mono X1.out.size))
        clear hx i0 i1 i2 r0 r1 r2
        go_wp2
        exact bodyPost_ret (v := .bool true) (by simp [results, Tryz.results7, go_sem]) rfl ⟨rfl, KZ.out⟩
      · skip --E1
        have CN : Hid (∀ W, Calls Tryz.prog 24 #[.int .u8 1] W fun e w' => e = .returned (.string ⟨#[97, 110, 100]⟩) ∧ Ext W w') := Lib.hid fun W => name_any 1 (by decide) W
        have hst : ((⟨#[97, 110, 100]⟩ : ByteArray) == ⟨#[97, 110, 100]⟩) = true := by kernel_rfl
        clear DO DW DE CSp CB CB' SPO hk hwi
        go_wp2_with fail
        refine calls_named ?_
        intro V9 hV9
        have KA : Hid (Below V3.heap.size V3 V9) := Lib.hid (by rw [hV9]; first | exact KO.out | exact KO.out.alloc KO.out.size _)
        clear hV9
        refine (CN.out V9).mono ?_
        rintro e w16 ⟨rfl, hx⟩
        replace KA := Lib.hid (KA.out.trans (hx.below.mono KA.out.size))
        obtain ⟨⟨i0, i1, i2⟩, _⟩ := (C9.out.below KA.out C9.out.lt).three
        obtain ⟨⟨r0, r1, r2⟩, _⟩ := (C11.out.below KA.out C11.out.lt).three
        clear hx CN
        skip --F1
        go_wp2_with fail
        refine (CS.out w16 _ _ (PD.out.below KA.out) (XD.out.below KA.out)).mono ?_
        rintro e w17 ⟨rfl, hx⟩
        replace KA := Lib.hid (KA.out.trans (hx.mono KA.out.size))
        clear hx i0 i1 i2 r0 r1 r2
        obtain ⟨⟨i0, i1, i2⟩, _⟩ := (C10.out.below KA.out C10.out.lt).three
        obtain ⟨⟨r0, r1, r2⟩, _⟩ := (C12.out.below KA.out C12.out.lt).three
        go_wp2_with fail
        refine (CS'.out w17 _ _ (QD.out.below KA.out) (YD.out.below KA.out)).mono ?_
        rintro e w18 ⟨rfl, hx⟩
        have KZ : Hid (Below w.heap.size w w18) := Lib.hid (X1.out.trans ((KA.out.trans (hx.mono KA.out.size)).mono X1.out.size))
        clear hx i0 i1 i2 r0 r1 r2
        go_wp2
        exact bodyPost_ret (v := .bool true) (by simp [results, Tryz.results7, go_sem]) rfl ⟨rfl, KZ.out⟩
      · skip --E2
        have CN : Hid (∀ W, Calls Tryz.prog 24 #[.int .u8 2] W fun e w' => e = .returned (.string ⟨#[111, 114]⟩) ∧ Ext W w') := Lib.hid fun W => name_any 2 (by decide) W
        have hst : ((⟨#[111, 114]⟩ : ByteArray) == ⟨#[111, 114]⟩) = true := by kernel_rfl
        clear DO DW DE CSp CB CB' SPO hk hwi
        go_wp2_with fail
        refine calls_named ?_
        intro V9 hV9
        have KA : Hid (Below V3.heap.size V3 V9) := Lib.hid (by rw [hV9]; first | exact KO.out | exact KO.out.alloc KO.out.size _)
        clear hV9
        refine (CN.out V9).mono ?_
        rintro e w16 ⟨rfl, hx⟩
        replace KA := Lib.hid (KA.out.trans (hx.below.mono KA.out.size))
        obtain ⟨⟨i0, i1, i2⟩, _⟩ := (C9.out.below KA.out C9.out.lt).three
        obtain ⟨⟨r0, r1, r2⟩, _⟩ := (C11.out.below KA.out C11.out.lt).three
        clear hx CN
        skip --F2
        go_wp2_with fail
        refine (CS.out w16 _ _ (PD.out.below KA.out) (XD.out.below KA.out)).mono ?_
        rintro e w17 ⟨rfl, hx⟩
        replace KA := Lib.hid (KA.out.trans (hx.mono KA.out.size))
        clear hx i0 i1 i2 r0 r1 r2
        obtain ⟨⟨i0, i1, i2⟩, _⟩ := (C10.out.below KA.out C10.out.lt).three
        obtain ⟨⟨r0, r1, r2⟩, _⟩ := (C12.out.below KA.out C12.out.lt).three
        go_wp2_with fail
        refine (CS'.out w17 _ _ (QD.out.below KA.out) (YD.out.below KA.out)).mono ?_
        rintro e w18 ⟨rfl, hx⟩
        have KZ : Hid (Below w.heap.size w w18) := Lib.hid (X1.out.trans ((KA.out.trans (hx.mono KA.out.size)).mono X1.out.size))
        clear hx i0 i1 i2 r0 r1 r2
        go_wp2
        exact bodyPost_ret (v := .bool true) (by simp [results, Tryz.results7, go_sem]) rfl ⟨rfl, KZ.out⟩
      · skip --E3
        have CN : Hid (∀ W, Calls Tryz.prog 24 #[.int .u8 3] W fun e w' => e = .returned (.string ⟨#[108, 101, 115, 115]⟩) ∧ Ext W w') := Lib.hid fun W => name_any 3 (by decide) W
        have hst : ((⟨#[108, 101, 115, 115]⟩ : ByteArray) == ⟨#[108, 101, 115, 115]⟩) = true := by kernel_rfl
        clear DO DW DE CSp CB CB' SPO hk hwi
        go_wp2_with fail
        refine calls_named ?_
        intro V9 hV9
        have KA : Hid (Below V3.heap.size V3 V9) := Lib.hid (by rw [hV9]; first | exact KO.out | exact KO.out.alloc KO.out.size _)
        clear hV9
        refine (CN.out V9).mono ?_
        rintro e w16 ⟨rfl, hx⟩
        replace KA := Lib.hid (KA.out.trans (hx.below.mono KA.out.size))
        obtain ⟨⟨i0, i1, i2⟩, _⟩ := (C9.out.below KA.out C9.out.lt).three
        obtain ⟨⟨r0, r1, r2⟩, _⟩ := (C11.out.below KA.out C11.out.lt).three
        clear hx CN
        skip --F3
        go_wp2_with fail
        refine (CS.out w16 _ _ (PD.out.below KA.out) (XD.out.below KA.out)).mono ?_
        rintro e w17 ⟨rfl, hx⟩
        replace KA := Lib.hid (KA.out.trans (hx.mono KA.out.size))
        clear hx i0 i1 i2 r0 r1 r2
        obtain ⟨⟨i0, i1, i2⟩, _⟩ := (C10.out.below KA.out C10.out.lt).three
        obtain ⟨⟨r0, r1, r2⟩, _⟩ := (C12.out.below KA.out C12.out.lt).three
        go_wp2_with fail
        refine (CS'.out w17 _ _ (QD.out.below KA.out) (YD.out.below KA.out)).mono ?_
        rintro e w18 ⟨rfl, hx⟩
        have KZ : Hid (Below w.heap.size w w18) := Lib.hid (X1.out.trans ((KA.out.trans (hx.mono KA.out.size)).mono X1.out.size))
        clear hx i0 i1 i2 r0 r1 r2
        go_wp2
        exact bodyPost_ret (v := .bool true) (by simp [results, Tryz.results7, go_sem]) rfl ⟨rfl, KZ.out⟩
      · skip --E4
        have CN : Hid (∀ W, Calls Tryz.prog 24 #[.int .u8 4] W fun e w' => e = .returned (.string ⟨#[100, 105, 102, 102, 101, 114]⟩) ∧ Ext W w') := Lib.hid fun W => name_any 4 (by decide) W
        have hst : ((⟨#[100, 105, 102, 102, 101, 114]⟩ : ByteArray) == ⟨#[100, 105, 102, 102, 101, 114]⟩) = true := by kernel_rfl
        clear DO DW DE CSp CB CB' SPO hk hwi
        go_wp2_with fail
        refine calls_named ?_
        intro V9 hV9
        have KA : Hid (Below V3.heap.size V3 V9) := Lib.hid (by rw [hV9]; first | exact KO.out | exact KO.out.alloc KO.out.size _)
        clear hV9
        refine (CN.out V9).mono ?_
        rintro e w16 ⟨rfl, hx⟩
        replace KA := Lib.hid (KA.out.trans (hx.below.mono KA.out.size))
        obtain ⟨⟨i0, i1, i2⟩, _⟩ := (C9.out.below KA.out C9.out.lt).three
        obtain ⟨⟨r0, r1, r2⟩, _⟩ := (C11.out.below KA.out C11.out.lt).three
        clear hx CN
        skip --F4
        go_wp2_with fail
        refine (CS.out w16 _ _ (PD.out.below KA.out) (XD.out.below KA.out)).mono ?_
        rintro e w17 ⟨rfl, hx⟩
        replace KA := Lib.hid (KA.out.trans (hx.mono KA.out.size))
        clear hx i0 i1 i2 r0 r1 r2
        obtain ⟨⟨i0, i1, i2⟩, _⟩ := (C10.out.below KA.out C10.out.lt).three
        obtain ⟨⟨r0, r1, r2⟩, _⟩ := (C12.out.below KA.out C12.out.lt).three
        go_wp2_with fail
        refine (CS'.out w17 _ _ (QD.out.below KA.out) (YD.out.below KA.out)).mono ?_
        rintro e w18 ⟨rfl, hx⟩
        have KZ : Hid (Below w.heap.size w w18) := Lib.hid (X1.out.trans ((KA.out.trans (hx.mono KA.out.size)).mono X1.out.size))
        clear hx i0 i1 i2 r0 r1 r2
        go_wp2
        exact bodyPost_ret (v := .bool true) (by simp [results, Tryz.results7, go_sem]) rfl ⟨rfl, KZ.out⟩
      · skip --E5
        have d1 : decide ((1 : Int) ≤ (op : Int)) = true := decide_eq_true (by omega)
        have d1' : decide (1 ≤ op) = true := decide_eq_true (by omega)
        have d2 : decide ((op : Int) ≤ 4) = false := decide_eq_false (by omega)
        have d2' : decide (op ≤ 4) = false := decide_eq_false (by omega)
        have CN : Hid (∀ W, Calls Tryz.prog 24 #[.int .u8 op] W fun e w' => e = .returned (.string ⟨#[]⟩) ∧ Ext W w') := Lib.hid fun W => by have := name_any op hop W; rwa [nameB_over (.inr (by omega))] at this
        have hst : ((⟨#[]⟩ : ByteArray) == ⟨#[]⟩) = true := by kernel_rfl
        clear DO DW DE CSp CB CB' SPO hk hwi
        go_wp2_with fail
        refine calls_named ?_
        intro V9 hV9
        have KA : Hid (Below V3.heap.size V3 V9) := Lib.hid (by rw [hV9]; first | exact KO.out | exact KO.out.alloc KO.out.size _)
        clear hV9
        refine (CN.out V9).mono ?_
        rintro e w16 ⟨rfl, hx⟩
        replace KA := Lib.hid (KA.out.trans (hx.below.mono KA.out.size))
        obtain ⟨⟨i0, i1, i2⟩, _⟩ := (C9.out.below KA.out C9.out.lt).three
        obtain ⟨⟨r0, r1, r2⟩, _⟩ := (C11.out.below KA.out C11.out.lt).three
        clear hx CN
        skip --F5
        go_wp2_with fail
        refine (CS.out w16 _ _ (PD.out.below KA.out) (XD.out.below KA.out)).mono ?_
        rintro e w17 ⟨rfl, hx⟩
        replace KA := Lib.hid (KA.out.trans (hx.mono KA.out.size))
        clear hx i0 i1 i2 r0 r1 r2
        obtain ⟨⟨i0, i1, i2⟩, _⟩ := (C10.out.below KA.out C10.out.lt).three
        obtain ⟨⟨r0, r1, r2⟩, _⟩ := (C12.out.below KA.out C12.out.lt).three
        go_wp2_with fail
        refine (CS'.out w17 _ _ (QD.out.below KA.out) (YD.out.below KA.out)).mono ?_
        rintro e w18 ⟨rfl, hx⟩
        have KZ : Hid (Below w.heap.size w w18) := Lib.hid (X1.out.trans ((KA.out.trans (hx.mono KA.out.size)).mono X1.out.size))
        clear hx i0 i1 i2 r0 r1 r2
        go_wp2
        exact bodyPost_ret (v := .bool true) (by simp [results, Tryz.results7, go_sem]) rfl ⟨rfl, KZ.out⟩
end Go.Proofs.YtiegfnmpknmbmaaGreat
