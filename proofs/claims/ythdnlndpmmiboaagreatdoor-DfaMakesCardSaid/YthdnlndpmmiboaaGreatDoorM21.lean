/-
  The law's machine: an automaton of positions for the reference. Printed by wip/gen/mach.py.
-/
import Derived.Test.YthdnlndpmmiboaaGreatDoorM18
import Derived.Test.YthdnlndpmmiboaaGreatDoorM19
import Derived.Test.YthdnlndpmmiboaaGreatDoorM11
import Derived.Test.YthdnlndpmmiboaaGreatDoorM20
namespace Go.Proofs.YthdnlndpmmiboaaGreatDoor
open Go Go.RowKit Go.Shelf Go.Maps
attribute [local go_sem] encS

/-- An automaton of positions whose empty rows may lie anywhere. -/
def IsNfe (w : World) (v : Value) (a : NF) : Prop := ∃ v0 v1 v2 v3, v = .agg #[v0, v1, v2, v3, .bool a.emp] ∧ IsSetsE w v0 a.sets ∧ IsLLE w v1 a.fol ∧ IsSlE encZ w v2 a.fst ∧ IsSlE encZ w v3 a.lst
theorem IsNfe.below {w w' : World} {v : Value} {a : NF} (h : IsNfe w v a) (hk : Below w.heap.size w w') : IsNfe w' v a := by
  obtain ⟨v0, v1, v2, v3, e, h0, h1, h2, h3⟩ := h
  exact ⟨v0, v1, v2, v3, e, h0.below hk, h1.below hk, h2.below hk, h3.below hk⟩
def OwnRn (base : Nat) (w : World) (v : Value) (a : NF) : Prop := ∃ v0 v1 v2 v3, v = .agg #[v0, v1, v2, v3, .bool a.emp] ∧ w.ownsRow base 91 256 v0 (a.sets.map refS).length (flatA (a.sets.map refS)) ∧ OwnLL base w v1 a.fol ∧ w.ownsRow base 3 1 v2 a.fst.length (a.fst.map encZ) ∧ w.ownsRow base 3 1 v3 a.lst.length (a.lst.map encZ)
theorem OwnRn.rn {base : Nat} {w : World} {v : Value} {a : NF} (h : OwnRn base w v a) : IsRn w v a := by
  obtain ⟨v0, v1, v2, v3, e, h0, h1, h2, h3⟩ := h
  exact ⟨v0, v1, v2, v3, e, ownsRow_arrs h0, h1.ll, ownsRow_sl h2 rfl, ownsRow_sl h3 rfl⟩
def Eff.rowJ (base n : Nat) (xs : List Value) : Eff (Move false (fun _ => False)) where
  P := fun v => ∃ a c, v = .slice a n c
  H := fun v W => W.ownsRow base 3 1 v n xs
  wit := .slice none n 0
  pw := ⟨none, 0, rfl⟩
  st := fun _ _ _ hm _ h => ownsRow_below h hm.below
theorem Blk.set5 {w : World} {b : Nat} {x y z u t x' y' z' u' t' : Value} {ty : TypeId} (h : Blk w b #[x, y, z, u, t] ty) : Blk (((((w.setCell ⟨b, 0, none⟩ x').setCell ⟨b, 1, none⟩ y').setCell ⟨b, 2, none⟩ z').setCell ⟨b, 3, none⟩ u').setCell ⟨b, 4, none⟩ t') b #[x', y', z', u', t'] ty := ((((h.set 0 x').set 1 y').set 2 z').set 3 u').set 4 t'
theorem keeps_set5 (W : World) (b : Nat) (x y z u t : Value) : Keeps (· ≠ b) W (((((W.setCell ⟨b, 0, none⟩ x).setCell ⟨b, 1, none⟩ y).setCell ⟨b, 2, none⟩ z).setCell ⟨b, 3, none⟩ u).setCell ⟨b, 4, none⟩ t) :=
  (((((Keeps.refl _ W).setCell (p := ⟨b, 0, none⟩) (fun h => h rfl) _).setCell (p := ⟨b, 1, none⟩) (fun h => h rfl) _).setCell (p := ⟨b, 2, none⟩) (fun h => h rfl) _).setCell (p := ⟨b, 3, none⟩) (fun h => h rfl) _).setCell (p := ⟨b, 4, none⟩) (fun h => h rfl) _
set_option maxRecDepth 100000 in
set_option maxHeartbeats 4000000 in
theorem machine_any (v : Value) (d : NF) (w : World) (h : IsNfe w v d) (sm : SmN d) :
    Calls Tryz.prog 11 #[v] w fun e w' => ∃ u, e = .returned u ∧ OwnRn w.heap.size w' u d ∧ Below w.heap.size w w' := by
  obtain ⟨i0, hi, hz0, hz1, hz2⟩ := info_parts Tryz.infoA
  obtain ⟨v0, v1, v2, v3, rfl, h0, h1, h2, h3⟩ := h
  obtain ⟨a0, c0, rfl⟩ := h0.form
  obtain ⟨a1, c1, rfl⟩ := h1.form
  obtain ⟨a2, c2, rfl⟩ := h2.form
  obtain ⟨a3, c3, rfl⟩ := h3.form
  have SM := Lib.hid sm
  have H0 := Lib.hid h0
  have HW := Lib.hid fun s W => refWords_any s W
  have C1 : Hid (∀ W, Below w.heap.size w W → Calls Tryz.prog 43 #[.slice a1 d.fol.length c1] W fun e w' => ∃ u, e = .returned u ∧ OwnLL W.heap.size w' u d.fol ∧ Below W.heap.size W w') := Lib.hid fun W hW => listsLE_any _ d.fol W (h1.below hW) sm.fol sm.row
  have C2 : Hid (∀ W, Below w.heap.size w W → Calls Tryz.prog 42 #[.slice a2 d.fst.length c2] W fun e w' => ∃ u, e = .returned u ∧ w'.ownsRow W.heap.size 3 1 u d.fst.length (d.fst.map encZ) ∧ Below W.heap.size W w') := Lib.hid fun W hW => cloneIntsE_any _ d.fst W (h2.below hW) sm.fst
  have C3 : Hid (∀ W, Below w.heap.size w W → Calls Tryz.prog 42 #[.slice a3 d.lst.length c3] W fun e w' => ∃ u, e = .returned u ∧ w'.ownsRow W.heap.size 3 1 u d.lst.length (d.lst.map encZ) ∧ Below W.heap.size W w') := Lib.hid fun W hW => cloneIntsE_any _ d.lst W (h3.below hW) sm.lst
  clear h0 h1 h2 h3 sm
  obtain ⟨n0, hn0⟩ : ∃ n, n = d.sets.length := ⟨_, rfl⟩
  obtain ⟨n1, hn1⟩ : ∃ n, n = d.fol.length := ⟨_, rfl⟩
  obtain ⟨n2, hn2⟩ : ∃ n, n = d.fst.length := ⟨_, rfl⟩
  obtain ⟨n3, hn3⟩ : ∃ n, n = d.lst.length := ⟨_, rfl⟩
  obtain ⟨X2s, hX2⟩ : ∃ n, n = d.fst.map encZ := ⟨_, rfl⟩
  obtain ⟨X3s, hX3⟩ : ∃ n, n = d.lst.map encZ := ⟨_, rfl⟩
  obtain ⟨em, hem⟩ : ∃ n, n = d.emp := ⟨_, rfl⟩
  have m0 : n0 ≤ 1000000 := by rw [hn0]; exact SM.out.sets
  rw [← hn0] at H0 ⊢
  rw [← hn1] at C1 ⊢
  rw [← hn2, ← hX2] at C2
  rw [← hn3, ← hX3] at C3
  rw [← hn2, ← hn3, ← hem]
  have HN0 := Lib.hid hn0
  have HN1 := Lib.hid hn1
  have HN2 := Lib.hid hn2
  have HN3 := Lib.hid hn3
  have HX2 := Lib.hid hX2
  have HX3 := Lib.hid hX3
  have HEM := Lib.hid hem
  clear hn0 hn1 hn2 hn3 hX2 hX3 hem
  go_enter Tryz.func11, Tryz.ntmps11
  go_wp2
  refine wp_named ?_
  intro V hV
  have B1 : Hid (Blk V w.heap.size #[.slice a0 n0 c0, .slice a1 n1 c1, .slice a2 n2 c2, .slice a3 n3 c3, .bool em] 35) := by rw [hV]; exact Lib.hid ((Blk.new w _ _).alloc _)
  have B2 : Hid (Blk V (w.heap.size + 1) #[.slice none 0 0, .slice none 0 0, .slice none 0 0, .slice none 0 0, .bool false] 42) := by rw [hV]; exact Lib.hid ((Blk.new (w.alloc _) _ _).at (by simp))
  have HX : Hid (Below w.heap.size w V) := by rw [hV]; exact Lib.hid (((Ext.refl w).alloc _).alloc _).below
  clear hV
  obtain ⟨b0, b1, b2, b3, b4⟩ := B1.out.five
  refine wp_region_reg false (fun _ => False) (by kernel_rfl) 13 [0, 1, 3, 0, 8, 31, 0, 64, 0, 256, 831, 2047, 0, 8191] (fun i => i == 2 || i == 5 || i == 10 || i == 12 || i == 13) (by kernel_rfl) (fun i => if i = 2 then Eff.rowJ V.heap.size n2 X2s else if i = 5 then Eff.rowJ V.heap.size n3 X3s else if i = 10 then Eff.ownLL V.heap.size n1 d.fol else if i = 12 then Eff.zbox V.heap.size #[.slice none 0 0, .slice none 0 0, .slice none 0 0, .slice none 0 0, .bool false] 42 else Eff.any _) ?_
  intro C hC hne
  have HC := Lib.hid hC
  have f1 := regCell hC (p := ⟨w.heap.size, 1, none⟩) B1.out.lt (fun h => h) b1
  have f2 := regCell hC (p := ⟨w.heap.size, 2, none⟩) B1.out.lt (fun h => h) b2
  have f3 := regCell hC (p := ⟨w.heap.size, 3, none⟩) B1.out.lt (fun h => h) b3
  have f4 := regCell hC (p := ⟨w.heap.size, 4, none⟩) B1.out.lt (fun h => h) b4
  clear hC
  repeat (refine regStep (fun K hK => ?_); first | (refine regN rfl ?_; try go_simp; refine hK _ _ ?_; clear hK K) | (refine regF rfl rfl ?_; unfold floatAt; go_simp; refine hK _ _ ?_; clear hK K))
  refine regStep (fun K hK => ?_)
  refine regE rfl rfl (Eff.rowJ V.heap.size n2 X2s) rfl (fun W hW hN => ?_) (fun v hv => ?_)
  · have hM := (HC.out W).1 hW
    clear hW
    go_simp
    refine effT_call ((C2.out W (HX.out.trans (hM.below.mono HX.out.size))).mono ?_)
    rintro e w2 ⟨u, rfl, ho, hx⟩
    exact ⟨_, rfl, Move.of_below hx, ownsRow_form ho, ownsRow_base ho hM.size⟩
  obtain ⟨a4, c4, rfl⟩ := hv
  go_simp
  refine hK _ _ ?_
  clear hK K
  repeat (refine regStep (fun K hK => ?_); first | (refine regN rfl ?_; try go_simp; refine hK _ _ ?_; clear hK K) | (refine regF rfl rfl ?_; unfold floatAt; go_simp; refine hK _ _ ?_; clear hK K))
  refine regStep (fun K hK => ?_)
  refine regE rfl rfl (Eff.rowJ V.heap.size n3 X3s) rfl (fun W hW hN => ?_) (fun v hv => ?_)
  · have hM := (HC.out W).1 hW
    clear hW
    go_simp
    refine effT_call ((C3.out W (HX.out.trans (hM.below.mono HX.out.size))).mono ?_)
    rintro e w2 ⟨u, rfl, ho, hx⟩
    exact ⟨_, rfl, Move.of_below hx, ownsRow_form ho, ownsRow_base ho hM.size⟩
  obtain ⟨a5, c5, rfl⟩ := hv
  go_simp
  refine hK _ _ ?_
  clear hK K
  repeat (refine regStep (fun K hK => ?_); first | (refine regN rfl ?_; try go_simp; refine hK _ _ ?_; clear hK K) | (refine regF rfl rfl ?_; unfold floatAt; go_simp; refine hK _ _ ?_; clear hK K))
  refine regStep (fun K hK => ?_)
  refine regE rfl rfl (Eff.ownLL V.heap.size n1 d.fol) rfl (fun W hW hN => ?_) (fun v hv => ?_)
  · have hM := (HC.out W).1 hW
    clear hW
    go_simp
    refine effT_call ((C1.out W (HX.out.trans (hM.below.mono HX.out.size))).mono ?_)
    rintro e w2 ⟨u, rfl, ho, hx⟩
    exact ⟨_, rfl, Move.of_below hx, (by rw [HN1.out]; exact ho.form), ho.base hM.size⟩
  obtain ⟨a6, c6, rfl⟩ := hv
  go_simp
  refine hK _ _ ?_
  clear hK K
  repeat (refine regStep (fun K hK => ?_); first | (refine regN rfl ?_; try go_simp; refine hK _ _ ?_; clear hK K) | (refine regF rfl rfl ?_; unfold floatAt; go_simp; refine hK _ _ ?_; clear hK K))
  refine regStep (fun K0 hK => ?_)
  refine regE rfl rfl (Eff.zbox V.heap.size #[.slice none 0 0, .slice none 0 0, .slice none 0 0, .slice none 0 0, .bool false] 42) rfl (fun W hW hN => ?_) (fun v hv => ?_)
  · have hM := (HC.out W).1 hW
    have hsW := hM.size
    clear hW hN hK K0
    go_simp
    exact ⟨Move.of_below ((Ext.refl _).alloc _).below, ⟨_, rfl⟩, fun b hb => by cases hb; exact ⟨Blk.new _ _ _, hsW⟩⟩
  obtain ⟨bx, rfl⟩ := hv
  go_simp
  refine hK _ _ ?_
  clear hK K0
  refine regNil (fun W hW hH => ?_)
  have hM := (HC.out W).1 hW
  have hb8 : (Eff.zbox V.heap.size #[.slice none 0 0, .slice none 0 0, .slice none 0 0, .slice none 0 0, .bool false] 42).H (.pointer (some ⟨bx, 0, none⟩)) W := hH _ (List.mem_of_getElem? (show _ = some _ from rfl : _[0]? = some _))
  have L6 : Hid (OwnLL V.heap.size W (.slice a6 n1 c6) d.fol) := Lib.hid (hH _ (List.mem_of_getElem? (show _ = some _ from rfl : _[1]? = some _)))
  have L5 : Hid (W.ownsRow V.heap.size 3 1 (.slice a5 n3 c5) n3 X3s) := Lib.hid (hH _ (List.mem_of_getElem? (show _ = some _ from rfl : _[2]? = some _)))
  have L4 : Hid (W.ownsRow V.heap.size 3 1 (.slice a4 n2 c4) n2 X2s) := Lib.hid (hH _ (List.mem_of_getElem? (show _ = some _ from rfl : _[3]? = some _)))
  have BX := Lib.hid (hb8 bx rfl)
  have XW := Lib.hid hM.below
  have hszW : V.heap.size ≤ W.heap.size := hM.size
  clear hM hW hH HC hne f1 f2 f3 f4 hb8 b0 b1 b2 b3 b4 C1 C2 C3
  obtain ⟨x0, x1, x2, x3, x4⟩ := BX.out.1.five
  have z0 := BX.out.1.frozen 0
  have z1 := BX.out.1.frozen 1
  have z2 := BX.out.1.frozen 2
  have z3 := BX.out.1.frozen 3
  have z4 := BX.out.1.frozen 4
  have D1 := Lib.hid (B1.out.below XW.out B1.out.lt)
  have hbx : bx ≠ w.heap.size := by have := BX.out.2; have := B1.out.lt; omega
  have D2 := (((((D1.out.other (p := ⟨bx, 0, none⟩) hbx (.slice none 0 0)).other (p := ⟨bx, 1, none⟩) hbx (.slice a6 n1 c6)).other (p := ⟨bx, 2, none⟩) hbx (.slice a4 n2 c4)).other (p := ⟨bx, 3, none⟩) hbx (.slice a5 n3 c5)).other (p := ⟨bx, 4, none⟩) hbx (.bool em))
  have k0 := D2.cell 0
  simp only [List.getElem?_toArray, List.getElem?_cons_zero] at k0
  clear D2
  go_wp2
  clear k0
  refine wp_named ?_
  intro W2 hW2
  have BD : Hid (Blk W2 bx #[.slice none 0 0, .slice a6 n1 c6, .slice a4 n2 c4, .slice a5 n3 c5, .bool em] 42) := by rw [hW2]; exact Lib.hid BX.out.1.set5
  have K2 : Keeps (· ≠ bx) W W2 := by rw [hW2]; exact keeps_set5 _ _ _ _ _ _ _
  clear hW2 x0 x1 x2 x3 x4 z0 z1 z2 z3 z4
  have hbl : ∀ {e : TypeId} {size n : Nat} {u : Value} {xs : List Value}, W.ownsRow V.heap.size e size u n xs → 42 ≠ e → W2.ownsRow V.heap.size e size u n xs := fun h he => ownsRow_keeps h K2 fun x hx => row_ne BX.out.1 h he x hx
  have M6 : Hid (OwnLL V.heap.size W2 (.slice a6 n1 c6) d.fol) := Lib.hid (by
    obtain ⟨us, h1, h2, h3⟩ := L6.out
    exact ⟨us, h1, hbl h2 (by decide), fun i u l hu hl => hbl (h3 i u l hu hl) (by decide)⟩)
  have M4 := Lib.hid (hbl L4.out (by decide))
  have M5 := Lib.hid (hbl L5.out (by decide))
  have D3 := Lib.hid (D1.out.keeps K2 (Ne.symm hbx))
  have hVb : V.heap.size ≤ bx := BX.out.2
  have E2 := Lib.hid ((B2.out.below XW.out B2.out.lt).keeps K2 (by have := B2.out.lt; show w.heap.size + 1 ≠ bx; omega))
  have X2 : Hid (Below w.heap.size w W2) := Lib.hid ((HX.out.trans (XW.out.mono HX.out.size)).trans (K2.mono fun x (hx : x < w.heap.size) => by have := B1.out.lt; omega : Keeps (· < w.heap.size) W W2).below)
  have hszW2 : W.heap.size ≤ W2.heap.size := K2.size
  have hb12 := B1.out.lt
  have hb22 := B2.out.lt
  clear K2 hbl L4 L5 L6 BX XW D1 B1 B2 HX
  go_loopw [21] (fun i wr => ∃ (k : Nat) (u : Value), k ≤ n0 ∧ i = .int .i64 k ∧ Blk wr bx #[u, .slice a6 n1 c6, .slice a4 n2 c4, .slice a5 n3 c5, .bool em] 42 ∧ wr.ownsRow W2.heap.size 91 256 u ((d.sets.take k).map refS).length (flatA ((d.sets.take k).map refS)) ∧ Keeps (fun x => x < W2.heap.size ∧ x ≠ bx) W2 wr) (fun i _ => n0 - (intOf i).toNat)
  case atStart => exact ⟨0, _, by omega, rfl, BD.out, World.ownsRow_nil _ _ _ _, Keeps.refl _ _⟩
  case round =>
    obtain ⟨k, u, hk, rfl, hb, ho, hx⟩ := hrel
    obtain ⟨wo, rfl⟩ : ∃ wo : World, wo = wr := ⟨_, rfl⟩
    have hXw : Below w.heap.size w wo := X2.out.trans (hx.mono fun x (hx' : x < w.heap.size) => ⟨Nat.lt_of_lt_of_le hx' X2.out.size, by omega⟩ : Keeps (· < w.heap.size) W2 wo).below
    by_cases hlt : k < n0
    · obtain ⟨s, hs⟩ : ∃ s, d.sets[k]? = some s := ⟨_, List.getElem?_eq_getElem (by have := HN0.out; omega)⟩
      obtain ⟨bb, off, rfl, hbb, d0, d1, d2, d3⟩ := (H0.out.below hXw).elem hs
      have hlen : ((d.sets.take k).map refS).length ≤ 1000000 := by rw [List.length_map, List.length_take]; omega
      have htk : (d.sets.take (k + 1)).map refS = (d.sets.take k).map refS ++ [refS s] := by rw [List.take_add_one, hs]; simp
      have hki : (k : Int) < n0 := by omega
      obtain ⟨ml, hml⟩ : ∃ m, m = ((d.sets.take k).map refS).length := ⟨_, rfl⟩
      rw [← hml] at ho hlen
      have HML := Lib.hid hml
      clear hml
      obtain ⟨ua, uc, rfl⟩ := ownsRow_form ho
      have HO := Lib.hid ho
      have HK := Lib.hid hx
      have HT := Lib.hid htk
      have HB := Lib.hid hb
      clear hs ho hx htk hb hXw
      generalize (d.sets.take k).map refS = xs at HO HML HT
      go_wp2
      refine wp_named ?_
      intro V2 hV2
      have S2 : Hid (Blk V2 wo.heap.size (encS s) 65) := by rw [hV2]; exact Blk.new _ _ _
      have X3 : Hid (Ext wo V2) := by rw [hV2]; exact (Ext.refl _).alloc _
      have hsz2 : wo.heap.size < V2.heap.size := S2.out.lt
      clear hV2 d0 d1 d2 d3
      refine wp_region_reg false (fun _ => False) (by kernel_rfl) 5 [0, 1, 0, 4, 12, 31, 63, 127] (fun i => i == 3 || i == 4 || i == 5 || i == 7) (by kernel_rfl) (fun i => if i = 3 then Eff.det _ (.agg (aI (refS s))) else if i = 4 then Eff.box 1 (aI (refS s)) 91 else Eff.any _) ?_
      intro C hC hne
      have HC := Lib.hid hC
      have f0 := regCell hC (p := ⟨bx, 0, none⟩) (by have := (HB.out.ext X3.out).lt; exact this) (fun h => h) ((HB.out.ext X3.out).cell 0)
      obtain ⟨k0, k1, k2, k3⟩ := regSet hC S2.out
      clear hC
      repeat (refine regStep (fun K hK => ?_); first | (refine regN rfl ?_; try go_simp; refine hK _ _ ?_; clear hK K) | (refine regF rfl rfl ?_; unfold floatAt; go_simp; refine hK _ _ ?_; clear hK K))
      refine regStep (fun K hK => ?_)
      refine regE rfl rfl (Eff.det _ (.agg (aI (refS s)))) rfl (fun W hW hN => ?_) (fun v hv => ?_)
      · have hM := (HC.out W).1 hW
        clear hW
        go_simp
        refine effT_call ((HW.out s _).mono ?_)
        rintro e w2 ⟨rfl, hx⟩
        exact ⟨_, rfl, Move.of_ext hx, rfl, trivial⟩
      replace hv : v = _ := hv
      subst hv
      go_simp
      refine hK _ _ ?_
      clear hK K
      refine regStep (fun K hK => ?_)
      refine regE rfl rfl (Eff.box 1 (aI (refS s)) 91) rfl (fun W hW hN => ?_) (fun v hv => ?_)
      · clear hW hN hK K
        exact effT_build1 40 91 _ rfl Tryz.underlying40 hi hz0 hz1 (by decide) (by decide) (aI (refS s)) rfl (aI_size _) ⟨Move.ext ((Ext.refl _).alloc _), ⟨_, rfl⟩, fun b hb => by cases hb; exact Blk.new _ _ _⟩
      obtain ⟨bz, rfl⟩ := hv
      go_simp
      refine hK _ _ ?_
      clear hK K
      refine regNil (fun W hW hH => ?_)
      have hM := (HC.out W).1 hW
      have hbx9 : Blk W bz (aI (refS s)) 91 := hH _ (List.mem_cons_self ..) bz rfl
      have hXX : Below wo.heap.size wo W := X3.out.below.trans (hM.below.mono X3.out.size)
      have HBX := Lib.hid hbx9
      have YB := Lib.hid (HB.out.below hXX HB.out.lt)
      have YO := Lib.hid (ownsRow_below HO.out hXX)
      have YK := Lib.hid (HK.out.tr (Keeps.of_below hXX fun x hx => Nat.lt_of_lt_of_le hx.1 HK.out.size))
      have hVs : W2.heap.size ≤ W.heap.size := Nat.le_trans HK.out.size hXX.size
      have hb3 : bx < W2.heap.size := BD.out.lt
      clear hM hW hH hXX f0 k0 k1 k2 k3 HC HB HO HK hbx9 S2 X3
      go_wp2_with (at_builtin; refine Hid.out ?_)
      refine Lib.hid ?_
      refine wpList_append_own_at _ rfl (.tmp 26) (.tmp 29) 40 rfl W2.heap.size 91 i0 (.agg (aI fun _ => 0)) 256 2048 Tryz.underlying40 hi hz0 hz1 hz2 (aI_size _) (by decide) _ _ _ rfl YO.out ⟨bz, 0, none⟩ 1 1 (aI (refS s)).toList rfl (by rw [Array.length_toList, aI_size]) (news_blk HBX.out) (by intro u hu; exact Array.all_eq_true_iff_forall_mem.1 (aI_one _) u (by simpa using hu)) (by unfold maxLen; omega) (by omega) hVs ?_
      intro v' w3 hown' hgrow hh hat
      have HO3 := Lib.hid hown'
      have HG := Lib.hid hgrow
      obtain ⟨ua3, uc3, rfl⟩ := ownsRow_form hown'
      have hne9 : ∀ x, (Value.slice ua ml uc).ownBlock = some x → W2.heap.size ≤ x := (fun x e => (YO.out.lt x e).1)
      have ZB := Lib.hid (YB.out.grown hgrow (fun e => by have := hne9 _ e.symm; omega))
      have ZK := Lib.hid (YK.out.tr (Keeps.of_grown hgrow fun x hx => ⟨Nat.lt_of_lt_of_le hx.1 hVs, fun e => by have := hne9 x e.symm; omega⟩))
      have hsz3 : W.heap.size ≤ w3.heap.size := hgrow.size
      obtain ⟨p0, p1, p2, p3, p4⟩ := ZB.out.five
      have q0 := ZB.out.frozen 0
      clear hown' hgrow hh hat hne9
      go_wp2
      go_roundw
      case rel =>
        refine ⟨k + 1, _, by omega, by go_num, ZB.out.set 0 _, ?_, ZK.out.setCell (p := ⟨bx, 0, none⟩) (fun h => h.2 rfl) _⟩
        rw [HT.out, List.length_append, flatA_append, flatA_one, ← HML.out]
        exact ownsRow_keepsB HO3.out ((Keeps.refl (· ≠ bx) _).setCell (p := ⟨bx, 0, none⟩) (fun h => h rfl) _) (fun x h1 _ e => by omega)
      case measure => simp [intOf]; omega
    · obtain rfl : k = n0 := by omega
      clear hlt hk
      have hki : ¬ ((k : Int) < k) := by omega
      have htk : d.sets.take k = d.sets := by rw [HN0.out]; exact List.take_length
      rw [htk] at ho
      obtain ⟨lx, hlx⟩ : ∃ m, m = (d.sets.map refS).length := ⟨_, rfl⟩
      rw [← hlx] at ho
      have HLX := Lib.hid hlx
      obtain ⟨ua, uc, rfl⟩ := ownsRow_form ho
      have R0 := Lib.hid ho
      have XA := Lib.hid hXw
      have CB := Lib.hid hb
      have HK := Lib.hid hx
      have hb3 : bx < W2.heap.size := BD.out.lt
      have C2 := Lib.hid (E2.out.keeps hx ⟨E2.out.lt, by omega⟩)
      clear ho hb hx htk hXw hlx
      obtain ⟨p0, p1, p2, p3, p4⟩ := CB.out.five
      obtain ⟨y0, y1, y2, y3, y4⟩ := C2.out.five
      have z0 := C2.out.frozen 0
      have z1 := C2.out.frozen 1
      have z2 := C2.out.frozen 2
      have z3 := C2.out.frozen 3
      have z4 := C2.out.frozen 4
      go_wp2
      refine post_named ?_
      intro W9 hW9
      have E9 : Hid (Blk W9 (w.heap.size + 1) #[.slice ua lx uc, .slice a6 n1 c6, .slice a4 n2 c4, .slice a5 n3 c5, .bool em] 42 ∧ Keeps (· ≠ w.heap.size + 1) wo W9) := by
        rw [hW9]
        exact Lib.hid ⟨C2.out.set5, keeps_set5 _ _ _ _ _ _ _⟩
      clear hW9 z0 z1 z2 z3 z4 y0 y1 y2 y3 y4 p0 p1 p2 p3 p4
      obtain ⟨m0, m1, m2, m3, m4⟩ := E9.out.1.five
      have key : ∀ {e : TypeId} {size n : Nat} {u : Value} {xs : List Value}, W2.ownsRow V.heap.size e size u n xs → 42 ≠ e → W9.ownsRow w.heap.size e size u n xs := fun h he => ownsRow_base (base := V.heap.size) (ownsRow_keeps (ownsRow_keeps h HK.out fun x hx => ⟨(h.lt x hx).2, row_ne BD.out h he x hx⟩) E9.out.2 fun x hx => by have := (h.lt x hx).1; show x ≠ w.heap.size + 1; omega) (by omega)
      have LK : ∀ {v : Value} {ll : List (List Int)}, OwnLL V.heap.size W2 v ll → OwnLL w.heap.size W9 v ll := fun h => by
        obtain ⟨us, g1, g2, g3⟩ := h
        exact ⟨us, g1, key g2 (by decide), fun i u l hu hl => key (g3 i u l hu hl) (by decide)⟩
      have hW2l : w.heap.size + 1 < W2.heap.size := by omega
      refine bodyPost_ret (v := .agg #[.slice ua lx uc, .slice a6 n1 c6, .slice a4 n2 c4, .slice a5 n3 c5, .bool em]) (by simp [results, Tryz.results11, go_sem, m0, m1, m2, m3, m4]) rfl ⟨_, rfl, ⟨_, _, _, _, by rw [HEM.out], ?_, LK M6.out, ?_, ?_⟩, XA.out.trans (E9.out.2.mono fun x (hx : x < w.heap.size) => by show x ≠ w.heap.size + 1; omega : Keeps (· < w.heap.size) wo W9).below⟩
      · rw [← HLX.out]
        exact ownsRow_base (base := W2.heap.size) (ownsRow_keepsB R0.out E9.out.2 fun x h1 _ => by show x ≠ w.heap.size + 1; omega) (by omega)
      · rw [← HN2.out, ← HX2.out]; exact key M4.out (by decide)
      · rw [← HN3.out, ← HX3.out]; exact key M5.out (by decide)
end Go.Proofs.YthdnlndpmmiboaaGreatDoor
