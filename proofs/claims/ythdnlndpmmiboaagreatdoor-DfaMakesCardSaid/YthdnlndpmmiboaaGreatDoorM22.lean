/-
  nfa.Copy. Printed by wip/gen/ncopy.py.
-/
import Derived.Test.YthdnlndpmmiboaaGreatDoorM21
import Derived.Test.YthdnlndpmmiboaaGreatDoorM08
namespace Go.Proofs.YthdnlndpmmiboaaGreatDoor
open Go Go.RowKit Go.Shelf Go.Maps
attribute [local go_sem] encS

def OwnNf (base : Nat) (w : World) (v : Value) (a : NF) : Prop := ∃ v0 v1 v2 v3, v = .agg #[v0, v1, v2, v3, .bool a.emp] ∧ w.ownsRow base 65 4 v0 a.sets.length (flatS a.sets) ∧ OwnLL base w v1 a.fol ∧ w.ownsRow base 3 1 v2 a.fst.length (a.fst.map encZ) ∧ w.ownsRow base 3 1 v3 a.lst.length (a.lst.map encZ)
theorem OwnNf.nf {base : Nat} {w : World} {v : Value} {a : NF} (h : OwnNf base w v a) : IsNf w v a := by
  obtain ⟨v0, v1, v2, v3, e, h0, h1, h2, h3⟩ := h
  exact ⟨v0, v1, v2, v3, e, ownsRow_setsC h0, h1.ll, ownsRow_sl h2 rfl, ownsRow_sl h3 rfl⟩
set_option maxRecDepth 100000 in
set_option maxHeartbeats 4000000 in
theorem ncopy_any (v : Value) (d : NF) (w : World) (h : IsNfe w v d) (sm : SmN d) :
    Calls Tryz.prog 12 #[v] w fun e w' => ∃ u, e = .returned u ∧ OwnNf w.heap.size w' u d ∧ Below w.heap.size w w' := by
  obtain ⟨iL, hiL, hzL0, hzL1, hzL2⟩ := info_parts Tryz.infoL
  obtain ⟨v0, v1, v2, v3, rfl, h0, h1, h2, h3⟩ := h
  obtain ⟨a0, c0, rfl⟩ := h0.form
  obtain ⟨a1, c1, rfl⟩ := h1.form
  obtain ⟨a2, c2, rfl⟩ := h2.form
  obtain ⟨a3, c3, rfl⟩ := h3.form
  have SM := Lib.hid sm
  have H1 := Lib.hid h1
  have C1 : Hid (∀ W, Below w.heap.size w W → Calls Tryz.prog 45 #[.slice a0 d.sets.length c0] W fun e w' => ∃ u, e = .returned u ∧ w'.ownsRow W.heap.size 65 4 u d.sets.length (flatS d.sets) ∧ Below W.heap.size W w') := Lib.hid fun W hW => cloneSetsE_any _ d.sets W (h0.below hW) sm.sets
  have C2 : Hid (∀ W, Below w.heap.size w W → Calls Tryz.prog 42 #[.slice a2 d.fst.length c2] W fun e w' => ∃ u, e = .returned u ∧ w'.ownsRow W.heap.size 3 1 u d.fst.length (d.fst.map encZ) ∧ Below W.heap.size W w') := Lib.hid fun W hW => cloneIntsE_any _ d.fst W (h2.below hW) sm.fst
  have C3 : Hid (∀ W, Below w.heap.size w W → Calls Tryz.prog 42 #[.slice a3 d.lst.length c3] W fun e w' => ∃ u, e = .returned u ∧ w'.ownsRow W.heap.size 3 1 u d.lst.length (d.lst.map encZ) ∧ Below W.heap.size W w') := Lib.hid fun W hW => cloneIntsE_any _ d.lst W (h3.below hW) sm.lst
  clear h0 h1 h2 h3 sm
  obtain ⟨n0, hn0⟩ : ∃ n, n = d.sets.length := ⟨_, rfl⟩
  obtain ⟨n1, hn1⟩ : ∃ n, n = d.fol.length := ⟨_, rfl⟩
  obtain ⟨n2, hn2⟩ : ∃ n, n = d.fst.length := ⟨_, rfl⟩
  obtain ⟨n3, hn3⟩ : ∃ n, n = d.lst.length := ⟨_, rfl⟩
  obtain ⟨X0s, hX0⟩ : ∃ n, n = flatS d.sets := ⟨_, rfl⟩
  obtain ⟨X2s, hX2⟩ : ∃ n, n = d.fst.map encZ := ⟨_, rfl⟩
  obtain ⟨X3s, hX3⟩ : ∃ n, n = d.lst.map encZ := ⟨_, rfl⟩
  obtain ⟨em, hem⟩ : ∃ n, n = d.emp := ⟨_, rfl⟩
  have m1 : n1 ≤ 1000000 := by rw [hn1]; exact SM.out.fol
  rw [← hn0, ← hX0] at C1
  rw [← hn2, ← hX2] at C2
  rw [← hn3, ← hX3] at C3
  rw [← hn1] at H1
  rw [← hn0, ← hn1, ← hn2, ← hn3, ← hem]
  have HN0 := Lib.hid hn0
  have HN1 := Lib.hid hn1
  have HN2 := Lib.hid hn2
  have HN3 := Lib.hid hn3
  have HX0 := Lib.hid hX0
  have HX2 := Lib.hid hX2
  have HX3 := Lib.hid hX3
  have HEM := Lib.hid hem
  clear hn0 hn1 hn2 hn3 hX0 hX2 hX3 hem
  go_enter Tryz.func12, Tryz.ntmps12
  go_wp2
  refine wp_named ?_
  intro V hV
  have B1 : Hid (Blk V w.heap.size #[.slice a0 n0 c0, .slice a1 n1 c1, .slice a2 n2 c2, .slice a3 n3 c3, .bool em] 35) := by rw [hV]; exact Lib.hid ((Blk.new w _ _).alloc _)
  have B2 : Hid (Blk V (w.heap.size + 1) #[.slice none 0 0, .slice none 0 0, .slice none 0 0, .slice none 0 0, .bool false] 35) := by rw [hV]; exact Lib.hid ((Blk.new (w.alloc _) _ _).at (by simp))
  have HX : Hid (Below w.heap.size w V) := by rw [hV]; exact Lib.hid (((Ext.refl w).alloc _).alloc _).below
  clear hV
  obtain ⟨b0, b1, b2, b3, b4⟩ := B1.out.five
  refine wp_region_reg false (fun _ => False) (by kernel_rfl) 13 [0, 1, 3, 0, 8, 31, 0, 64, 255, 0, 512, 2047, 0, 8191] (fun i => i == 2 || i == 5 || i == 8 || i == 12 || i == 13) (by kernel_rfl) (fun i => if i = 2 then Eff.row V.heap.size 65 4 n0 X0s else if i = 5 then Eff.rowJ V.heap.size n2 X2s else if i = 8 then Eff.rowJ V.heap.size n3 X3s else if i = 12 then Eff.zbox V.heap.size #[.slice none 0 0, .slice none 0 0, .slice none 0 0, .slice none 0 0, .bool false] 35 else Eff.any _) ?_
  intro C hC hne
  have HC := Lib.hid hC
  have f1 := regCell hC (p := ⟨w.heap.size, 0, none⟩) B1.out.lt (fun h => h) b0
  have f2 := regCell hC (p := ⟨w.heap.size, 2, none⟩) B1.out.lt (fun h => h) b2
  have f3 := regCell hC (p := ⟨w.heap.size, 3, none⟩) B1.out.lt (fun h => h) b3
  have f4 := regCell hC (p := ⟨w.heap.size, 4, none⟩) B1.out.lt (fun h => h) b4
  clear hC
  repeat (refine regStep (fun K hK => ?_); first | (refine regN rfl ?_; try go_simp; refine hK _ _ ?_; clear hK K) | (refine regF rfl rfl ?_; unfold floatAt; go_simp; refine hK _ _ ?_; clear hK K))
  refine regStep (fun K hK => ?_)
  refine regE rfl rfl (Eff.row V.heap.size 65 4 n0 X0s) rfl (fun W hW hN => ?_) (fun v hv => ?_)
  · have hM := (HC.out W).1 hW
    clear hW
    go_simp
    refine effT_call ((C1.out W (HX.out.trans (hM.below.mono HX.out.size))).mono ?_)
    rintro e w2 ⟨u, rfl, ho, hx⟩
    exact ⟨_, rfl, Move.of_below hx, ownsRow_form ho, ownsRow_base ho hM.size⟩
  obtain ⟨a4, c4, rfl⟩ := hv
  go_simp
  refine hK _ _ ?_
  clear hK K
  repeat (refine regStep (fun K hK => ?_); first | (refine regN rfl ?_; try go_simp; refine hK _ _ ?_; clear hK K) | (refine regF rfl rfl ?_; unfold floatAt; go_simp; refine hK _ _ ?_; clear hK K))
  refine regStep (fun K hK => ?_)
  refine regE rfl rfl (Eff.rowJ V.heap.size n2 X2s) rfl (fun W hW hN => ?_) (fun v hv => ?_)
  · have hM := (HC.out W).1 hW
    clear hW
    go_simp
    refine effT_call ((C2.out W (HX.out.trans (hM.below.mono HX.out.size))).mono ?_)
    rintro e w2 ⟨u, rfl, ho, hx⟩
    exact ⟨_, rfl, Move.of_below hx, ownsRow_form ho, ownsRow_base ho hM.size⟩
  obtain ⟨a5, c5, rfl⟩ := hv
  go_simp
  refine hK _ _ ?_
  clear hK K
  repeat (refine regStep (fun K hK => ?_); first | (refine regN rfl ?_; try go_simp; refine hK _ _ ?_; clear hK K) | (refine regF rfl rfl ?_; unfold floatAt; go_simp; refine hK _ _ ?_; clear hK K))
  refine regStep (fun K hK => ?_)
  refine regE rfl rfl (Eff.rowJ V.heap.size n3 X3s) rfl (fun W hW hN => ?_) (fun v hv => ?_)
  · have hM := (HC.out W).1 hW
    clear hW
    go_simp
    refine effT_call ((C3.out W (HX.out.trans (hM.below.mono HX.out.size))).mono ?_)
    rintro e w2 ⟨u, rfl, ho, hx⟩
    exact ⟨_, rfl, Move.of_below hx, ownsRow_form ho, ownsRow_base ho hM.size⟩
  obtain ⟨a6, c6, rfl⟩ := hv
  go_simp
  refine hK _ _ ?_
  clear hK K
  repeat (refine regStep (fun K hK => ?_); first | (refine regN rfl ?_; try go_simp; refine hK _ _ ?_; clear hK K) | (refine regF rfl rfl ?_; unfold floatAt; go_simp; refine hK _ _ ?_; clear hK K))
  refine regStep (fun K0 hK => ?_)
  refine regE rfl rfl (Eff.zbox V.heap.size #[.slice none 0 0, .slice none 0 0, .slice none 0 0, .slice none 0 0, .bool false] 35) rfl (fun W hW hN => ?_) (fun v hv => ?_)
  · have hM := (HC.out W).1 hW
    have hsW := hM.size
    clear hW hN hK K0
    go_simp
    exact ⟨Move.of_below ((Ext.refl _).alloc _).below, ⟨_, rfl⟩, fun b hb => by cases hb; exact ⟨Blk.new _ _ _, hsW⟩⟩
  obtain ⟨bx, rfl⟩ := hv
  go_simp
  refine hK _ _ ?_
  clear hK K0
  refine regNil (fun W hW hH => ?_)
  have hM := (HC.out W).1 hW
  have hb8 : (Eff.zbox V.heap.size #[.slice none 0 0, .slice none 0 0, .slice none 0 0, .slice none 0 0, .bool false] 35).H (.pointer (some ⟨bx, 0, none⟩)) W := hH _ (List.mem_of_getElem? (show _ = some _ from rfl : _[0]? = some _))
  have L6 : Hid (W.ownsRow V.heap.size 3 1 (.slice a6 n3 c6) n3 X3s) := Lib.hid (hH _ (List.mem_of_getElem? (show _ = some _ from rfl : _[1]? = some _)))
  have L5 : Hid (W.ownsRow V.heap.size 3 1 (.slice a5 n2 c5) n2 X2s) := Lib.hid (hH _ (List.mem_of_getElem? (show _ = some _ from rfl : _[2]? = some _)))
  have L4 : Hid (W.ownsRow V.heap.size 65 4 (.slice a4 n0 c4) n0 X0s) := Lib.hid (hH _ (List.mem_of_getElem? (show _ = some _ from rfl : _[3]? = some _)))
  have BX := Lib.hid (hb8 bx rfl)
  have XW := Lib.hid hM.below
  have hszW : V.heap.size ≤ W.heap.size := hM.size
  clear hM hW hH HC hne f1 f2 f3 f4 hb8 b0 b1 b2 b3 b4 C1 C2 C3
  obtain ⟨x0, x1, x2, x3, x4⟩ := BX.out.1.five
  have z0 := BX.out.1.frozen 0
  have z1 := BX.out.1.frozen 1
  have z2 := BX.out.1.frozen 2
  have z3 := BX.out.1.frozen 3
  have z4 := BX.out.1.frozen 4
  have D1 := Lib.hid (B1.out.below XW.out B1.out.lt)
  have hbx : bx ≠ w.heap.size := by have := BX.out.2; have := B1.out.lt; omega
  have D2 := (((((D1.out.other (p := ⟨bx, 0, none⟩) hbx (.slice a4 n0 c4)).other (p := ⟨bx, 1, none⟩) hbx (.slice none 0 0)).other (p := ⟨bx, 2, none⟩) hbx (.slice a5 n2 c5)).other (p := ⟨bx, 3, none⟩) hbx (.slice a6 n3 c6)).other (p := ⟨bx, 4, none⟩) hbx (.bool em))
  have k0 := D2.cell 1
  simp only [List.getElem?_toArray, List.getElem?_cons_zero, List.getElem?_cons_succ] at k0
  clear D2
  go_wp2
  clear k0
  refine wp_named ?_
  intro W2 hW2
  have BD : Hid (Blk W2 bx #[.slice a4 n0 c4, .slice none 0 0, .slice a5 n2 c5, .slice a6 n3 c6, .bool em] 35) := by rw [hW2]; exact Lib.hid BX.out.1.set5
  have K2 : Keeps (· ≠ bx) W W2 := by rw [hW2]; exact keeps_set5 _ _ _ _ _ _ _
  clear hW2 x0 x1 x2 x3 x4 z0 z1 z2 z3 z4
  have hbl : ∀ {e : TypeId} {size n : Nat} {u : Value} {xs : List Value}, W.ownsRow V.heap.size e size u n xs → 35 ≠ e → W2.ownsRow V.heap.size e size u n xs := fun h he => ownsRow_keeps h K2 fun x hx => row_ne BX.out.1 h he x hx
  have M4 := Lib.hid (hbl L4.out (by decide))
  have M5 := Lib.hid (hbl L5.out (by decide))
  have M6 := Lib.hid (hbl L6.out (by decide))
  have hVb : V.heap.size ≤ bx := BX.out.2
  have E2 := Lib.hid ((B2.out.below XW.out B2.out.lt).keeps K2 (by have := B2.out.lt; show w.heap.size + 1 ≠ bx; omega))
  have X2 : Hid (Below w.heap.size w W2) := Lib.hid ((HX.out.trans (XW.out.mono HX.out.size)).trans (K2.mono fun x (hx : x < w.heap.size) => by have := B1.out.lt; omega : Keeps (· < w.heap.size) W W2).below)
  have hszW2 : W.heap.size ≤ W2.heap.size := K2.size
  have hb12 := B1.out.lt
  have hb22 := B2.out.lt
  have hb3 : bx < W2.heap.size := BD.out.lt
  clear K2 hbl L4 L5 L6 BX XW D1 B1 B2 HX
  go_loopw [21] (fun i wr => ∃ (kk : Nat) (u : Value), kk ≤ n1 ∧ i = .int .i64 kk ∧ Blk wr bx #[.slice a4 n0 c4, u, .slice a5 n2 c5, .slice a6 n3 c6, .bool em] 35 ∧ OwnLL W2.heap.size wr u (d.fol.take kk) ∧ Keeps (fun x => x < W2.heap.size ∧ x ≠ bx) W2 wr) (fun i _ => n1 - (intOf i).toNat)
  case atStart => exact ⟨0, _, by omega, rfl, BD.out, OwnLL.nil _ _, Keeps.refl _ _⟩
  case round =>
    obtain ⟨kk, u, hk, rfl, hb, ho, hx⟩ := hrel
    obtain ⟨w5, rfl⟩ : ∃ w5 : World, w5 = wr := ⟨_, rfl⟩
    have hXw : Below w.heap.size w w5 := X2.out.trans (hx.mono fun x (hx' : x < w.heap.size) => ⟨Nat.lt_of_lt_of_le hx' X2.out.size, by omega⟩ : Keeps (· < w.heap.size) W2 w5).below
    by_cases hlt : kk < n1
    · obtain ⟨l, hl⟩ : ∃ l, d.fol[kk]? = some l := ⟨_, List.getElem?_eq_getElem (by have := HN1.out; omega)⟩
      obtain ⟨g1, o1, e1, k1, rfl, hg1, x1, y1⟩ := (H1.out.below hXw).elem hl
      have hll := SM.out.row l (List.mem_of_getElem? hl)
      have htk : d.fol.take (kk + 1) = d.fol.take kk ++ [l] := by rw [List.take_add_one, hl]; rfl
      have hlen : (d.fol.take kk).length ≤ 1000000 := by rw [List.length_take]; omega
      have hki : (kk : Int) < n1 := by omega
      obtain ⟨us, u1, u2, u3⟩ := ho
      obtain ⟨ml, hml⟩ : ∃ m, m = us.length := ⟨_, rfl⟩
      have hmm : ml ≤ 1000000 := by omega
      obtain ⟨j, hj⟩ : ∃ j, j = l.length := ⟨_, rfl⟩
      rw [← hj] at x1 y1 hll
      rw [← hml] at u1 u2
      have HM := Lib.hid hml
      have HJ := Lib.hid hj
      obtain ⟨ua5, uc5, rfl⟩ := ownsRow_form u2
      have U2 := Lib.hid u2
      have U3 := Lib.hid u3
      have U1 := Lib.hid u1
      have HB := Lib.hid hb
      have HK := Lib.hid hx
      have HT := Lib.hid htk
      have Y1 := Lib.hid y1
      clear hl hb hx htk hXw u1 u2 u3 hml hj y1 hlen
      go_wp2
      refine wp_region_reg false (fun _ => False) (by kernel_rfl) 5 [0, 1, 0, 4, 12, 31, 63, 127] (fun i => i == 3 || i == 4 || i == 5 || i == 7) (by kernel_rfl) (fun i => if i = 3 then Eff.row W2.heap.size 3 1 j (l.map encZ) else if i = 4 then Eff.headRow W2.heap.size j (l.map encZ) else Eff.any _) ?_
      intro C hC hne
      have HC := Lib.hid hC
      have f0 := regCell hC (p := ⟨bx, 1, none⟩) (by have := HB.out.lt; exact this) (fun h => h) (HB.out.cell 1)
      clear hC x1
      repeat (refine regStep (fun K hK => ?_); first | (refine regN rfl ?_; try go_simp; refine hK _ _ ?_; clear hK K) | (refine regF rfl rfl ?_; unfold floatAt; go_simp; refine hK _ _ ?_; clear hK K))
      refine regStep (fun K hK => ?_)
      refine regE rfl rfl (Eff.row W2.heap.size 3 1 j (l.map encZ)) rfl (fun W hW hN => ?_) (fun v hv => ?_)
      · have hM := (HC.out W).1 hW
        clear hW
        go_simp
        refine effT_call ((cloneIntsE_any _ l _ (Y1.out.below hM.below) (by rw [← HJ.out]; exact hll)).mono ?_)
        rintro e w2 ⟨vp, rfl, ho, hx⟩
        exact ⟨_, rfl, Move.of_below hx, (by rw [HJ.out]; exact ownsRow_form ho), (by rw [HJ.out]; exact ownsRow_base ho (Nat.le_trans HK.out.size hM.size))⟩
      obtain ⟨a7, c7, rfl⟩ := hv
      go_simp
      refine hK _ _ ?_
      clear hK K
      refine regStep (fun K hK => ?_)
      refine regE rfl rfl (Eff.headRow W2.heap.size j (l.map encZ)) rfl (fun W hW hN => ?_) (fun v hv => ?_)
      · have hro : W.ownsRow W2.heap.size 3 1 (.slice a7 j c7) j (l.map encZ) := hN.at 0 rfl (by kernel_rfl)
        have HRO := Lib.hid hro
        clear hW hN hK K hro
        go_simp
        exact ⟨Move.ext ((Ext.refl _).alloc _), ⟨_, rfl⟩, fun b hb => by cases hb; exact ⟨_, Blk.new _ _ _, HRO.out.alloc _⟩⟩
      obtain ⟨bz, rfl⟩ := hv
      go_simp
      refine hK _ _ ?_
      clear hK K
      refine regNil (fun W hW hH => ?_)
      have hM := (HC.out W).1 hW
      obtain ⟨ux, hbx9, hux⟩ : ∃ ux, Blk W bz #[ux] 33 ∧ W.ownsRow W2.heap.size 3 1 ux j (l.map encZ) := hH _ (List.mem_cons_self ..) bz rfl
      obtain ⟨a8, c8, rfl⟩ := ownsRow_form hux
      have HBX := Lib.hid hbx9
      have HUX := Lib.hid hux
      have YB := Lib.hid (HB.out.below hM.below HB.out.lt)
      have YO := Lib.hid (ownsRow_below U2.out hM.below)
      have Y3 := Lib.hid fun i u l hu hl => ownsRow_below (U3.out i u l hu hl) hM.below
      have YK := Lib.hid (HK.out.tr (Keeps.of_below hM.below fun x hx => Nat.lt_of_lt_of_le hx.1 HK.out.size))
      have hVs : W2.heap.size ≤ W.heap.size := Nat.le_trans HK.out.size hM.size
      clear hM hW hH f0 HC HB HK hbx9 hux U2 U3
      go_wp2_with (at_builtin; refine Hid.out ?_)
      refine Lib.hid ?_
      refine wpList_append_own_at _ rfl (.tmp 26) (.tmp 29) 27 rfl W2.heap.size 33 iL (.slice none 0 0) 1 24 Tryz.underlying27 hiL hzL0 hzL1 hzL2 rfl (by decide) _ _ _ rfl YO.out ⟨bz, 0, none⟩ 1 1 [.slice a8 j c8] rfl rfl HBX.out.news1 (by simp [Value.oneCell']) (by unfold maxLen; omega) (by omega) hVs ?_
      intro v' w3 hown' hgrow hh hat
      have HO3 := Lib.hid hown'
      have HG := Lib.hid hgrow
      obtain ⟨ua3, uc3, rfl⟩ := ownsRow_form hown'
      have hne9 : ∀ x, (Value.slice ua5 ml uc5).ownBlock = some x → W2.heap.size ≤ x := (fun x e => (YO.out.lt x e).1)
      have ZB := Lib.hid (YB.out.grown hgrow (fun e => by have := hne9 _ e.symm; omega))
      have ZK := Lib.hid (YK.out.tr (Keeps.of_grown hgrow fun x hx => ⟨Nat.lt_of_lt_of_le hx.1 hVs, fun e => by have := hne9 x e.symm; omega⟩))
      have hsz3 : W.heap.size ≤ w3.heap.size := hgrow.size
      have p1 := ZB.out.cell 1
      have q1 := ZB.out.frozen 1
      clear hown' hgrow hh hat hne9
      go_wp2
      go_roundw
      case rel =>
        refine ⟨kk + 1, _, by omega, by go_num, ZB.out.set 1 _, ?_, ZK.out.setCell (p := ⟨bx, 1, none⟩) (fun h => h.2 rfl) _⟩
        have hs : OwnLL W2.heap.size w3 (.slice ua3 (ml + 1) uc3) (d.fol.take kk ++ [l]) := OwnLL.snoc (w := W) (v := .slice ua5 ml uc5) (us := us) (u := .slice a8 j c8) (by rw [← HM.out]; exact U1.out) (by rw [← HM.out]; exact YO.out) (fun i u l hu hl => Y3.out i u l hu hl) (by rw [← HJ.out]; exact HUX.out) HG.out (by rw [← HM.out]; exact HO3.out)
        rw [HT.out]
        exact hs.keeps ((Keeps.refl (· ≠ bx) _).setCell (p := ⟨bx, 1, none⟩) (fun h => h rfl) _) (fun x h1 _ e => by omega)
      case measure => simp [intOf]; omega
    · obtain rfl : kk = n1 := by omega
      clear hlt hk
      have hki : ¬ ((kk : Int) < kk) := by omega
      have htk : d.fol.take kk = d.fol := by rw [HN1.out]; exact List.take_length
      rw [htk] at ho
      obtain ⟨ua, uc, hua1⟩ := ho.form
      rw [← HN1.out] at hua1
      subst hua1
      have R0 := Lib.hid ho
      have XA := Lib.hid hXw
      have CB := Lib.hid hb
      have HK := Lib.hid hx
      have C2 := Lib.hid (E2.out.keeps hx ⟨E2.out.lt, by omega⟩)
      clear ho hb hx htk hXw
      obtain ⟨p0, p1, p2, p3, p4⟩ := CB.out.five
      obtain ⟨y0, y1, y2, y3, y4⟩ := C2.out.five
      have z0 := C2.out.frozen 0
      have z1 := C2.out.frozen 1
      have z2 := C2.out.frozen 2
      have z3 := C2.out.frozen 3
      have z4 := C2.out.frozen 4
      go_wp2
      refine post_named ?_
      intro W9 hW9
      have E9 : Hid (Blk W9 (w.heap.size + 1) #[.slice a4 n0 c4, .slice ua kk uc, .slice a5 n2 c5, .slice a6 n3 c6, .bool em] 35 ∧ Keeps (· ≠ w.heap.size + 1) w5 W9) := by
        rw [hW9]
        exact Lib.hid ⟨C2.out.set5, keeps_set5 _ _ _ _ _ _ _⟩
      clear hW9 z0 z1 z2 z3 z4 y0 y1 y2 y3 y4 p0 p1 p2 p3 p4
      obtain ⟨m0, m1, m2, m3, m4⟩ := E9.out.1.five
      have key : ∀ {e : TypeId} {size n : Nat} {u : Value} {xs : List Value}, W2.ownsRow V.heap.size e size u n xs → 35 ≠ e → W9.ownsRow w.heap.size e size u n xs := fun h he => ownsRow_base (base := V.heap.size) (ownsRow_keeps (ownsRow_keeps h HK.out fun x hx => ⟨(h.lt x hx).2, row_ne BD.out h he x hx⟩) E9.out.2 fun x hx => by have := (h.lt x hx).1; show x ≠ w.heap.size + 1; omega) (by omega)
      refine bodyPost_ret (v := .agg #[.slice a4 n0 c4, .slice ua kk uc, .slice a5 n2 c5, .slice a6 n3 c6, .bool em]) (by simp [results, Tryz.results12, go_sem, m0, m1, m2, m3, m4]) rfl ⟨_, rfl, ⟨_, _, _, _, by rw [HEM.out], ?_, ?_, ?_, ?_⟩, XA.out.trans (E9.out.2.mono fun x (hx : x < w.heap.size) => by show x ≠ w.heap.size + 1; omega : Keeps (· < w.heap.size) w5 W9).below⟩
      · rw [← HN0.out, ← HX0.out]; exact key M4.out (by decide)
      · exact (R0.out.keeps E9.out.2 fun x h1 _ => by show x ≠ w.heap.size + 1; omega).base (by omega)
      · rw [← HN2.out, ← HX2.out]; exact key M5.out (by decide)
      · rw [← HN3.out, ← HX3.out]; exact key M6.out (by decide)
end Go.Proofs.YthdnlndpmmiboaaGreatDoor
