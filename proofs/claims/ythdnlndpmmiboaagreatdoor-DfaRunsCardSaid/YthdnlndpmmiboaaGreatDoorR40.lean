/-
  The law's runs of automata. Printed by wip/gen/runs18.py.
-/
import Derived.Test.YthdnlndpmmiboaaGreatDoorR35
import Derived.Test.YthdnlndpmmiboaaGreatDoorR34
import Derived.Test.YthdnlndpmmiboaaGreatDoorR36
import Derived.Test.YthdnlndpmmiboaaGreatDoorR37
import Derived.Test.YthdnlndpmmiboaaGreatDoorR38
import Derived.Test.YthdnlndpmmiboaaGreatDoorR39
import Derived.Test.YthdnlndpmmiboaaGreatDoorR32
import Derived.Deep.CutRange
namespace Go.Proofs.YthdnlndpmmiboaaGreatDoor
open Go Go.RowKit Go.Shelf Go.Maps
attribute [local go_sem] encS

def Eff.df8 (base : Nat) (d : DF) : Eff (Move false (fun _ => False)) where
  P := fun v => ∃ a0 c0 a1 c1 a2 c2, v = .agg #[.slice a0 d.cl.length c0, .slice a1 d.nx.length c1, .slice a2 d.mr.length c2]
  H := fun v W => OwnDf base W v d
  wit := .agg #[.slice none d.cl.length 0, .slice none d.nx.length 0, .slice none d.mr.length 0]
  pw := ⟨none, 0, none, 0, none, 0, rfl⟩
  st := fun _ _ _ hm _ h => h.below hm.below
def Eff.rf8 (base : Nat) (d : DF) : Eff (Move false (fun _ => False)) where
  P := fun v => ∃ a0 c0 a1 c1 a2 c2, v = .agg #[.slice a0 d.cl.length c0, .slice a1 d.nx.length c1, .slice a2 d.mr.length c2]
  H := fun v W => OwnRf base W v d
  wit := .agg #[.slice none d.cl.length 0, .slice none d.nx.length 0, .slice none d.mr.length 0]
  pw := ⟨none, 0, none, 0, none, 0, rfl⟩
  st := fun _ _ _ hm _ h => h.below hm.below
theorem keeps3r (W : World) (b : Nat) (x y z : Value) : Keeps (· ≠ b) W (((W.setCell ⟨b, 0, none⟩ x).setCell ⟨b, 1, none⟩ y).setCell ⟨b, 2, none⟩ z) :=
  (((Keeps.refl _ _).setCell (p := ⟨b, 0, none⟩) (fun h => h rfl) _).setCell (p := ⟨b, 1, none⟩) (fun h => h rfl) _).setCell (p := ⟨b, 2, none⟩) (fun h => h rfl) _
def Eff.rfT (D : DF) (t0 t1 t2 : Nat) : Eff (Move false (fun _ => False)) where
  P := fun v => ∃ a0 c0 a1 c1 a2 c2, v = .agg #[.slice a0 t0 c0, .slice a1 t1 c1, .slice a2 t2 c2]
  H := fun v W => IsRf W v D
  wit := .agg #[.slice none t0 0, .slice none t1 0, .slice none t2 0]
  pw := ⟨none, 0, none, 0, none, 0, rfl⟩
  st := fun _ _ _ hm _ h => h.below hm.below
theorem IsRf.form3r {w : World} {v : Value} {d : DF} (h : IsRf w v d) : ∃ a0 c0 a1 c1 a2 c2, v = .agg #[.slice a0 d.cl.length c0, .slice a1 d.nx.length c1, .slice a2 d.mr.length c2] := by
  obtain ⟨v0, v1, v2, rfl, h0, h1, h2⟩ := h
  obtain ⟨a0, c0, rfl⟩ := h0.form
  obtain ⟨a1, c1, rfl⟩ := h1.form
  obtain ⟨a2, c2, rfl⟩ := h2.form
  exact ⟨a0, c0, a1, c1, a2, c2, by rw [List.length_map]⟩
theorem trimR_sm {d : DF} (h : Rt d) (sm : Sm d) : Sm (trimR d) := by
  have hle := (reachD_in h).len
  have h4 := h.le
  refine ⟨sm.cl, by simp [trimR]; omega, by simp [trimR]; omega, fun l hl => ?_, fun l hl => ?_⟩
  · obtain ⟨s, hs, rfl⟩ := List.mem_map.1 hl
    unfold rowR
    rw [List.length_map, nxL_len h ((reachD_in h).lt s hs)]
    exact sm.cl
  · obtain ⟨s, hs, rfl⟩ := List.mem_map.1 hl
    have hsl := (reachD_in h).lt s hs
    rw [List.getD_eq_getElem?_getD, List.getElem?_eq_getElem (by rw [h.mr]; exact hsl)]
    exact sm.mks _ (List.getElem_mem _)
theorem runE_no {d : DF} (h : d.right = false) (s : Int) (b : List Nat) : runE d s b = (0, 182) := by unfold runE; rw [if_pos h]
theorem runE_yes {d : DF} (h : d.right = true) (s : Int) (b : List Nat) : runE d s b = if s < 0 ∨ (d.nx.length : Int) ≤ s then (0, 2) else (((runD d s.toNat b : Nat) : Int), 0) := by unfold runE; rw [if_neg (by rw [h]; decide)]
set_option maxRecDepth 100000 in
set_option maxHeartbeats 16000000 in
theorem runs18_any (v v' bv : Value) (d x : DF) (sd : Sm d) (sx : Sm x) (s : Int) (b : List Nat) (hb : ∀ c ∈ b, c < 256) (hbn : b.length ≤ 1000000) (w : World) (h : IsDfe w v d) (h' : IsDfe w v' x) (hbv : IsSl encB w bv b) :
    Calls Tryz.prog 9 #[v, v', .int .i64 s, bv] w fun e w' => e = .returned (.bool true) ∧ Below w.heap.size w w' := by
  have CT : Hid (∀ W, Below w.heap.size w W → Calls Tryz.prog 24 #[v] W fun e w' => ∃ u, e = .returned u ∧ OwnRf W.heap.size w' u d ∧ Below W.heap.size W w') := Lib.hid fun W hW => theirs18_any v d W (h.below hW) sd
  have CT' : Hid (∀ W, Below w.heap.size w W → Calls Tryz.prog 24 #[v'] W fun e w' => ∃ u, e = .returned u ∧ OwnRf W.heap.size w' u x ∧ Below W.heap.size W w') := Lib.hid fun W hW => theirs18_any v' x W (h'.below hW) sx
  have CC : Hid (∀ W, Below w.heap.size w W → Calls Tryz.prog 25 #[v] W fun e w' => ∃ u, e = .returned u ∧ OwnDf W.heap.size w' u d ∧ Below W.heap.size W w') := Lib.hid fun W hW => copyE_any v d W (h.below hW) sd
  have CB : Hid (∀ W, Below w.heap.size w W → Calls Tryz.prog 26 #[bv] W fun e w' => ∃ u, e = .returned u ∧ W.heap.size ≤ w'.heap.size ∧ w'.ownsRow W.heap.size 5 1 u b.length (b.map encB) ∧ Below W.heap.size W w') := Lib.hid fun W hW => (cloneBytes_any bv b W (hbv.below hW) hbn).mono fun e w' ⟨u, h1, h2, h3⟩ => ⟨u, h1, h3.size, h2, h3⟩
  have CR : Hid (∀ W, Below w.heap.size w W → Calls Tryz.prog 28 #[v] W fun e w' => e = .returned (.bool d.right) ∧ Below W.heap.size W w') := Lib.hid fun W hW => rightE_any v d W (h.below hW) sd
  have CS : Hid (∀ W, Below w.heap.size w W → Calls Tryz.prog 29 #[v, v'] W fun e w' => e = .returned (.bool (eqD d x)) ∧ Below W.heap.size W w') := Lib.hid fun W hW => dfaSame_any v v' d x W (h.below hW) (h'.below hW) sd
  have CE : Hid (∀ W u, Below w.heap.size w W → IsRf W u x → Calls Tryz.prog 15 #[v, u] W fun e w' => e = .returned (.bool (eqD d x)) ∧ Below W.heap.size W w') := Lib.hid fun W u hW hu => same18G_any v u d x W (h.below hW) hu sd
  have SD := Lib.hid sd
  have HBB := Lib.hid hb
  have EQD : eqD d d = true := eqD_iff.2 rfl
  obtain ⟨ba, bc, rfl⟩ := hbv.form
  obtain ⟨v0, v1, v2, rfl, h0, h1, h2⟩ := h
  obtain ⟨u0, u1, u2, rfl, g0, g1, g2⟩ := h'
  obtain ⟨n0, hn0⟩ : ∃ n, n = d.cl.length := ⟨_, rfl⟩
  obtain ⟨n1, hn1⟩ : ∃ n, n = d.nx.length := ⟨_, rfl⟩
  obtain ⟨n2, hn2⟩ : ∃ n, n = d.mr.length := ⟨_, rfl⟩
  obtain ⟨m, hm⟩ : ∃ n, n = b.length := ⟨_, rfl⟩
  rw [← hm] at hbn hbv CB ⊢
  have HBV := Lib.hid hbv
  have HN0 := Lib.hid hn0
  have HN1 := Lib.hid hn1
  have HN2 := Lib.hid hn2
  have HM := Lib.hid hm
  have EQH := Lib.hid EQD
  obtain ⟨c0, hc0⟩ : ∃ c, c = b.headD 0 := ⟨_, rfl⟩
  have hc256 : c0 < 256 := by
    rw [hc0]
    cases b with
    | nil => show 0 < 256; omega
    | cons y l => exact hb y (List.mem_cons_self ..)
  have HC0 := Lib.hid hc0
  clear h0 h1 h2 g0 g1 g2 sd sx hb hbv hn0 hn1 hn2 hm EQD hc0
  go_enter Tryz.func9, Tryz.ntmps9
  go_wp2
  refine wp_named ?_
  intro V hV
  have B4 : Hid (Blk V w.heap.size #[v0, v1, v2] 29) := Lib.hid (by rw [hV]; exact (Blk.new w _ _).alloc _)
  have B5 : Hid (Blk V (w.heap.size + 1) #[u0, u1, u2] 29) := Lib.hid (by rw [hV]; exact (Blk.new (w.alloc _) _ _).at (by simp))
  have X1 : Hid (Below w.heap.size w V) := Lib.hid (by rw [hV]; exact (((Ext.refl w).alloc _).alloc _).below)
  clear hV
  have hwV : w.heap.size < V.heap.size := B4.out.lt
  have hwV' : w.heap.size + 1 < V.heap.size := B5.out.lt
  skip --A1
  refine wp_region_reg false (fun _ => False) (by kernel_rfl) 8 [0, 1, 0, 7, 0, 31, 0, 0, 255, 511, 1023] (fun i => i == 1 || i == 3 || i == 5 || i == 6 || i == 7) (by kernel_rfl) (fun i => if i = 1 then Eff.rf8 V.heap.size d else if i = 3 then Eff.df8 V.heap.size d else if i = 5 then Eff.row V.heap.size 5 1 m (b.map encB) else if i = 6 then Eff.zbox V.heap.size #[.slice none 0 0, .slice none 0 0, .slice none 0 0] 48 else if i = 7 then Eff.zbox V.heap.size #[.slice none 0 0, .slice none 0 0, .slice none 0 0] 29 else Eff.any _) ?_
  intro C hC hne
  have HC := Lib.hid hC
  have f0 := regCell hC (p := ⟨w.heap.size, 0, none⟩) hwV (fun h => h) (B4.out.cell 0)
  have f1 := regCell hC (p := ⟨w.heap.size, 1, none⟩) hwV (fun h => h) (B4.out.cell 1)
  have f2 := regCell hC (p := ⟨w.heap.size, 2, none⟩) hwV (fun h => h) (B4.out.cell 2)
  simp only [List.getElem?_toArray, List.getElem?_cons_zero, List.getElem?_cons_succ] at f0 f1 f2
  clear hC
  skip --A2
  repeat (refine regStep (fun K hK => ?_); first | (refine regN rfl ?_; try go_simp; refine hK _ _ ?_; clear hK K) | (refine regF rfl rfl ?_; unfold floatAt; go_simp; refine hK _ _ ?_; clear hK K))
  refine regStep (fun K hK => ?_)
  refine regE rfl rfl (Eff.rf8 V.heap.size d) rfl (fun W hW hN => ?_) (fun v hv => ?_)
  · have hM := (HC.out W).1 hW
    clear hW
    go_simp
    refine effT_call ((CT.out _ (X1.out.trans (hM.below.mono X1.out.size))).mono ?_)
    rintro e w2 ⟨u, rfl, ho, hx⟩
    exact ⟨_, rfl, Move.of_below hx, ho.form, ho.base hM.size⟩
  obtain ⟨pa0, pc0, pa1, pc1, pa2, pc2, rfl⟩ := hv
  go_simp
  refine hK _ _ ?_
  clear hK K
  repeat (refine regStep (fun K hK => ?_); first | (refine regN rfl ?_; try go_simp; refine hK _ _ ?_; clear hK K) | (refine regF rfl rfl ?_; unfold floatAt; go_simp; refine hK _ _ ?_; clear hK K))
  refine regStep (fun K hK => ?_)
  refine regE rfl rfl (Eff.df8 V.heap.size d) rfl (fun W hW hN => ?_) (fun v hv => ?_)
  · have hM := (HC.out W).1 hW
    clear hW
    go_simp
    refine effT_call ((CC.out _ (X1.out.trans (hM.below.mono X1.out.size))).mono ?_)
    rintro e w2 ⟨u, rfl, ho, hx⟩
    exact ⟨_, rfl, Move.of_below hx, ho.form, ho.base hM.size⟩
  obtain ⟨qa0, qc0, qa1, qc1, qa2, qc2, rfl⟩ := hv
  go_simp
  refine hK _ _ ?_
  clear hK K
  repeat (refine regStep (fun K hK => ?_); first | (refine regN rfl ?_; try go_simp; refine hK _ _ ?_; clear hK K) | (refine regF rfl rfl ?_; unfold floatAt; go_simp; refine hK _ _ ?_; clear hK K))
  skip --A3
  refine regStep (fun K hK => ?_)
  refine regE rfl rfl (Eff.row V.heap.size 5 1 m (b.map encB)) rfl (fun W hW hN => ?_) (fun v hv => ?_)
  · have hM := (HC.out W).1 hW
    clear hW
    go_simp
    refine effT_call ((CB.out _ (X1.out.trans (hM.below.mono X1.out.size))).mono ?_)
    rintro e w2 ⟨u, rfl, hs, ho, hx⟩
    exact ⟨_, rfl, Move.of_below hx, ownsRow_form ho, ownsRow_base ho hM.size⟩
  obtain ⟨ta, tc, rfl⟩ := hv
  go_simp
  refine hK _ _ ?_
  clear hK K
  skip --A4
  refine regStep (fun K hK => ?_)
  refine regE rfl rfl (Eff.zbox V.heap.size #[.slice none 0 0, .slice none 0 0, .slice none 0 0] 48) rfl (fun W hW hN => ?_) (fun v hv => ?_)
  · have hM := (HC.out W).1 hW
    have hsW := hM.size
    clear hW hN hK K
    go_simp
    exact ⟨Move.ext ((Ext.refl _).alloc _), ⟨_, rfl⟩, fun b hb => by cases hb; exact ⟨Blk.new _ _ _, hsW⟩⟩
  obtain ⟨b9, rfl⟩ := hv
  go_simp
  refine hK _ _ ?_
  clear hK K
  refine regStep (fun K hK => ?_)
  refine regE rfl rfl (Eff.zbox V.heap.size #[.slice none 0 0, .slice none 0 0, .slice none 0 0] 29) rfl (fun W hW hN => ?_) (fun v hv => ?_)
  · have hM := (HC.out W).1 hW
    have hsW := hM.size
    clear hW hN hK K
    go_simp
    exact ⟨Move.ext ((Ext.refl _).alloc _), ⟨_, rfl⟩, fun b hb => by cases hb; exact ⟨Blk.new _ _ _, hsW⟩⟩
  obtain ⟨b10, rfl⟩ := hv
  go_simp
  refine hK _ _ ?_
  clear hK K
  skip --A5
  refine regNil (fun W hW hH => ?_)
  have hM := (HC.out W).1 hW
  have D10 : Hid (Blk W b10 #[.slice none 0 0, .slice none 0 0, .slice none 0 0] 29 ∧ V.heap.size ≤ b10) := Lib.hid (hH _ (List.mem_of_getElem? (show _ = some _ from rfl : _[0]? = some _)) b10 rfl)
  have D9 : Hid (Blk W b9 #[.slice none 0 0, .slice none 0 0, .slice none 0 0] 48 ∧ V.heap.size ≤ b9) := Lib.hid (hH _ (List.mem_of_getElem? (show _ = some _ from rfl : _[1]? = some _)) b9 rfl)
  have O3 : Hid (W.ownsRow V.heap.size 5 1 (.slice ta m tc) m (b.map encB)) := Lib.hid (hH _ (List.mem_of_getElem? (show _ = some _ from rfl : _[2]? = some _)))
  have O2 : Hid (OwnDf V.heap.size W (.agg #[.slice qa0 d.cl.length qc0, .slice qa1 d.nx.length qc1, .slice qa2 d.mr.length qc2]) d) := Lib.hid (hH _ (List.mem_of_getElem? (show _ = some _ from rfl : _[3]? = some _)))
  have O1 : Hid (OwnRf V.heap.size W (.agg #[.slice pa0 d.cl.length pc0, .slice pa1 d.nx.length pc1, .slice pa2 d.mr.length pc2]) d) := Lib.hid (hH _ (List.mem_of_getElem? (show _ = some _ from rfl : _[4]? = some _)))
  have MW := Lib.hid hM.below
  have hsW : V.heap.size ≤ W.heap.size := hM.size
  have hbb : b9 ≠ b10 := blk_ne D9.out.1 D10.out.1 (by decide)
  clear hM hW hH HC f0 f1 f2 hne
  rw [← HN0.out, ← HN1.out, ← HN2.out] at O1 O2 ⊢
  have hb9 := D9.out.2
  have hb10 := D10.out.2
  obtain ⟨⟨k0, k1, k2⟩, z0, z1, z2⟩ := D9.out.1.three
  obtain ⟨⟨l0, l1, l2⟩, y0, y1, y2⟩ := D10.out.1.three
  skip --A6
  go_upto_region 2 with fail
  refine wp_named ?_
  intro V2 hV2
  obtain ⟨W1, hW1⟩ : ∃ W1, W1 = (((W.setCell ⟨b9, 0, none⟩ (.slice pa0 n0 pc0)).setCell ⟨b9, 1, none⟩ (.slice pa1 n1 pc1)).setCell ⟨b9, 2, none⟩ (.slice pa2 n2 pc2)) := ⟨_, rfl⟩
  have j1 : Keeps (· ≠ b9) W W1 := by rw [hW1]; exact keeps3r _ _ _ _ _
  have E1 : Blk W1 b9 #[.slice pa0 n0 pc0, .slice pa1 n1 pc1, .slice pa2 n2 pc2] 48 := by rw [hW1]; exact D9.out.1.set3
  have E2 := D10.out.1.keeps j1 (fun e => hbb e.symm)
  have j2 : Keeps (· ≠ b10) W1 V2 := by rw [hV2, ← hW1]; exact keeps3r _ _ _ _ _
  have B10 : Hid (Blk V2 b10 #[.slice qa0 n0 qc0, .slice qa1 n1 qc1, .slice qa2 n2 qc2] 29) := Lib.hid (by rw [hV2, ← hW1]; exact E2.set3)
  have B9 := Lib.hid (E1.keeps j2 hbb)
  have RD := Lib.hid ((O1.out.past D9.out.1 (by decide) (by decide) (by decide) j1).past E2 (by decide) (by decide) (by decide) j2).rf
  have DD := Lib.hid ((O2.out.past D9.out.1 (by decide) (by decide) (by decide) j1).past E2 (by decide) (by decide) (by decide) j2).df
  have TD : Hid (IsSl encB V2 (.slice ta m tc) b) := Lib.hid (ownsRow_sl (ownsRow_keeps (ownsRow_keeps O3.out j1 (row_ne D9.out.1 O3.out (by decide))) j2 (row_ne E2 (ownsRow_keeps O3.out j1 (row_ne D9.out.1 O3.out (by decide))) (by decide))) HM.out)
  have HB : Hid (Below V.heap.size V V2) := Lib.hid (MW.out.trans (((j1.mono fun x hx => by have : x < V.heap.size := hx; omega).tr (j2.mono fun x hx => by have : x < V.heap.size := hx; omega) : Keeps (· < V.heap.size) W V2).below))
  replace B4 := Lib.hid (B4.out.below HB.out B4.out.lt)
  replace B5 := Lib.hid (B5.out.below HB.out B5.out.lt)
  replace X1 := Lib.hid (X1.out.trans (HB.out.mono X1.out.size))
  clear hV2 hW1 j1 E1 E2 j2 O1 O2 O3 D9 D10 HB MW k0 k1 k2 l0 l1 l2 z0 z1 z2 y0 y1 y2 hb9 hb10 hsW hwV hwV' CC CB CT
  have hwV2 : w.heap.size < V2.heap.size := B4.out.lt
  have hwV2' : w.heap.size + 1 < V2.heap.size := B5.out.lt
  skip --C1
  go_upto_if 52 with fail
  go_cut [12] from 52 to 55 (fun c wx => c = .int .u8 c0 ∧ wx = V2)
  case first =>
    by_cases hm0 : m = 0
    · subst hm0
      have hc : c0 = 0 := by
        have e1 := HM.out
        rw [HC0.out, List.eq_nil_of_length_eq_zero e1.symm]; rfl
      go_wp2_with fail
      go_meet
      exact ⟨by rw [hc]; rfl, rfl⟩
    · have hmi : (0 : Int) < m := by omega
      have hbz : b[0]? = some c0 := by
        rw [HC0.out]
        have e1 := HM.out
        cases b with
        | nil => simp at e1; omega
        | cons y l => rfl
      obtain ⟨bg, bo, rfl, hbg, hbc⟩ := (HBV.out.below X1.out).elem hbz
      replace hbc : V2.cell? ⟨bg, bo, none⟩ = some (.int .u8 c0) := hbc
      go_wp2_with fail
      go_meet
      exact ⟨rfl, rfl⟩
  case rest =>
  obtain ⟨rfl, hwc⟩ := hcut
  replace hwc := hwc.symm
  subst hwc
  clear HC0
  skip --C2
  obtain ⟨⟨k0, k1, k2⟩, _⟩ := B9.out.three
  obtain ⟨r, hr⟩ : ∃ r, r = d.right := ⟨_, rfl⟩
  rw [← hr] at CR
  have HR := Lib.hid hr
  clear hr
  go_wp2_with fail
  refine (refRight_any _ d V2 RD.out SD.out).mono ?_
  rintro e w3 ⟨rfl, hx⟩
  rw [← HR.out]
  have Y3 := Lib.hid hx
  clear hx k0 k1 k2
  have C9 := Lib.hid (B9.out.below Y3.out B9.out.lt)
  have C10 := Lib.hid (B10.out.below Y3.out B10.out.lt)
  have C4 := Lib.hid (B4.out.below Y3.out B4.out.lt)
  have C5 := Lib.hid (B5.out.below Y3.out B5.out.lt)
  skip --C3
  go_upto_region 6 with fail
  skip --C4
  obtain ⟨q, hq⟩ : ∃ q, q = eqD d x := ⟨_, rfl⟩
  rw [← hq] at CS CE
  clear hq
  have e1 : (r == r) = true := by simp
  have e2 : (r != r) = false := by simp
  have e3 : (q == q) = true := by simp
  have e4 : (q != q) = false := by simp
  have X3 := Lib.hid (X1.out.trans (Y3.out.mono X1.out.size))
  obtain ⟨m0, hm0⟩ : ∃ n, n = x.cl.length := ⟨_, rfl⟩
  refine wp_region_reg false (fun _ => False) (by kernel_rfl) 20 [0, 1, 0, 7, 15, 31, 31, 127, 31, 31, 767, 2047, 4095, 8191, 16383, 32767, 32767, 131071, 262143, 524287] (fun i => i == 1 || i == 7 || i == 10 || i == 11 || i == 17) (by kernel_rfl) (fun i => if i = 1 then Eff.det _ (.bool r) else if i = 7 then Eff.det _ (.bool q) else if i = 10 then Eff.rf8 w3.heap.size x else if i = 11 then Eff.det _ (.bool q) else if i = 17 then Eff.det _ (.bool true) else Eff.any _) ?_
  intro C hC hne
  have HC := Lib.hid hC
  have f0 := regCell hC (p := ⟨w.heap.size, 0, none⟩) C4.out.lt (fun h => h) (C4.out.cell 0)
  have f1 := regCell hC (p := ⟨w.heap.size, 1, none⟩) C4.out.lt (fun h => h) (C4.out.cell 1)
  have f2 := regCell hC (p := ⟨w.heap.size, 2, none⟩) C4.out.lt (fun h => h) (C4.out.cell 2)
  have g0 := regCell hC (p := ⟨w.heap.size + 1, 0, none⟩) C5.out.lt (fun h => h) (C5.out.cell 0)
  have g1 := regCell hC (p := ⟨w.heap.size + 1, 1, none⟩) C5.out.lt (fun h => h) (C5.out.cell 1)
  have g2 := regCell hC (p := ⟨w.heap.size + 1, 2, none⟩) C5.out.lt (fun h => h) (C5.out.cell 2)
  have i0 := regCell hC (p := ⟨b9, 0, none⟩) C9.out.lt (fun h => h) (C9.out.cell 0)
  have i1 := regCell hC (p := ⟨b9, 1, none⟩) C9.out.lt (fun h => h) (C9.out.cell 1)
  have i2 := regCell hC (p := ⟨b9, 2, none⟩) C9.out.lt (fun h => h) (C9.out.cell 2)
  have j0 := regCell hC (p := ⟨b10, 0, none⟩) C10.out.lt (fun h => h) (C10.out.cell 0)
  have j1 := regCell hC (p := ⟨b10, 1, none⟩) C10.out.lt (fun h => h) (C10.out.cell 1)
  have j2 := regCell hC (p := ⟨b10, 2, none⟩) C10.out.lt (fun h => h) (C10.out.cell 2)
  simp only [List.getElem?_toArray, List.getElem?_cons_zero, List.getElem?_cons_succ] at f0 f1 f2 g0 g1 g2 i0 i1 i2 j0 j1 j2
  clear hC
  skip --C5
  repeat (refine regStep (fun K hK => ?_); first | (refine regN rfl ?_; try go_simp; refine hK _ _ ?_; clear hK K) | (refine regF rfl rfl ?_; unfold floatAt; go_simp; refine hK _ _ ?_; clear hK K))
  refine regStep (fun K hK => ?_)
  refine regE rfl rfl (Eff.det _ (.bool r)) rfl (fun W hW hN => ?_) (fun v hv => ?_)
  · have hM := (HC.out W).1 hW
    clear hW
    go_simp
    refine effT_call ((CR.out W (X3.out.trans (hM.below.mono X3.out.size))).mono ?_)
    rintro e w2 ⟨rfl, hx⟩
    exact ⟨_, rfl, Move.of_below hx, rfl, trivial⟩
  replace hv : v = _ := hv
  subst hv
  go_simp
  refine hK _ _ ?_
  clear hK K
  repeat (refine regStep (fun K hK => ?_); first | (refine regN rfl ?_; try go_simp; refine hK _ _ ?_; clear hK K) | (refine regF rfl rfl ?_; unfold floatAt; go_simp; refine hK _ _ ?_; clear hK K))
  refine regStep (fun K hK => ?_)
  refine regE rfl rfl (Eff.det _ (.bool q)) rfl (fun W hW hN => ?_) (fun v hv => ?_)
  · have hM := (HC.out W).1 hW
    clear hW
    go_simp
    refine effT_call ((CS.out W (X3.out.trans (hM.below.mono X3.out.size))).mono ?_)
    rintro e w2 ⟨rfl, hx⟩
    exact ⟨_, rfl, Move.of_below hx, rfl, trivial⟩
  replace hv : v = _ := hv
  subst hv
  go_simp
  refine hK _ _ ?_
  clear hK K
  repeat (refine regStep (fun K hK => ?_); first | (refine regN rfl ?_; try go_simp; refine hK _ _ ?_; clear hK K) | (refine regF rfl rfl ?_; unfold floatAt; go_simp; refine hK _ _ ?_; clear hK K))
  skip --C6
  refine regStep (fun K hK => ?_)
  refine regE rfl rfl (Eff.rf8 w3.heap.size x) rfl (fun W hW hN => ?_) (fun v hv => ?_)
  · have hM := (HC.out W).1 hW
    clear hW
    go_simp
    refine effT_call ((CT'.out W (X3.out.trans (hM.below.mono X3.out.size))).mono ?_)
    rintro e w2 ⟨u, rfl, ho, hx⟩
    exact ⟨_, rfl, Move.of_below hx, ho.form, ho.base hM.size⟩
  obtain ⟨xa0, xc0, xa1, xc1, xa2, xc2, rfl⟩ := hv
  go_simp
  refine hK _ _ ?_
  clear hK K
  skip --C7
  refine regStep (fun K hK => ?_)
  refine regE rfl rfl (Eff.det _ (.bool q)) rfl (fun W hW hN => ?_) (fun v hv => ?_)
  · have hM := (HC.out W).1 hW
    have hy : OwnRf w3.heap.size W (.agg #[.slice xa0 x.cl.length xc0, .slice xa1 x.nx.length xc1, .slice xa2 x.mr.length xc2]) x := hN.at 0 rfl (by kernel_rfl)
    clear hW hN
    go_simp
    refine effT_call ((CE.out W _ (X3.out.trans (hM.below.mono X3.out.size)) hy.rf).mono ?_)
    rintro e w2 ⟨rfl, hx⟩
    exact ⟨_, rfl, Move.of_below hx, rfl, trivial⟩
  replace hv : v = _ := hv
  subst hv
  go_simp
  refine hK _ _ ?_
  clear hK K
  skip --C8
  repeat (refine regStep (fun K hK => ?_); first | (refine regN rfl ?_; try go_simp; refine hK _ _ ?_; clear hK K) | (refine regF rfl rfl ?_; unfold floatAt; go_simp; refine hK _ _ ?_; clear hK K))
  refine regStep (fun K hK => ?_)
  refine regE rfl rfl (Eff.det _ (.bool true)) rfl (fun W hW hN => ?_) (fun v hv => ?_)
  · have hM := (HC.out W).1 hW
    clear hW hN
    go_simp
    have hyy := Y3.out.trans (hM.below.mono Y3.out.size)
    refine effT_call ((same18G_any _ _ d d W (DD.out.below hyy).e (RD.out.below hyy) SD.out).mono ?_)
    rintro e w2 ⟨rfl, hx⟩
    exact ⟨_, rfl, Move.of_below hx, by rw [EQH.out]; rfl, trivial⟩
  replace hv : v = _ := hv
  subst hv
  go_simp
  refine hK _ _ ?_
  clear hK K
  repeat (refine regStep (fun K hK => ?_); first | (refine regN rfl ?_; try go_simp; refine hK _ _ ?_; clear hK K) | (refine regF rfl rfl ?_; unfold floatAt; go_simp; refine hK _ _ ?_; clear hK K))
  skip --C9
  refine regNil (fun w4 hW hH => ?_)
  have hM := (HC.out w4).1 hW
  have Y4 := Lib.hid (Y3.out.trans (hM.below.mono Y3.out.size))
  clear hM hW hH HC hne f0 f1 f2 g0 g1 g2 i0 i1 i2 j0 j1 j2 C9 C10 C4 C5 X3 Y3 CS CE CR CT' e1 e2 e3 e4 hm0 m0
  skip --D0
  obtain ⟨⟨k0, k1, k2⟩, _⟩ := (B10.out.below Y4.out B10.out.lt).three
  obtain ⟨⟨l0, l1, l2⟩, _⟩ := (B9.out.below Y4.out B9.out.lt).three
  cases r with
  | false =>
    have RN : Hid (d.right = false) := Lib.hid HR.out.symm
    go_wp2_with fail
    refine (dfaClass_any _ d SD.out c0 hc256 w4 (DD.out.below Y4.out)).mono ?_
    rintro e w5 ⟨he, hx⟩
    have Y5 := Lib.hid (Y4.out.trans (hx.mono Y4.out.size))
    rw [RN.out] at he
    replace he : e = .returned (.tuple #[.int .i64 0, .int .i64 182]) := he
    subst he
    clear hx Y4 k0 k1 k2 l0 l1 l2
    obtain ⟨⟨k0, k1, k2⟩, _⟩ := (B10.out.below Y5.out B10.out.lt).three
    obtain ⟨⟨l0, l1, l2⟩, _⟩ := (B9.out.below Y5.out B9.out.lt).three
    skip --D1
    go_wp2_with fail
    refine (dfaStep_any _ d SD.out s c0 hc256 w5 (DD.out.below Y5.out)).mono ?_
    rintro e w6 ⟨he, hx⟩
    have Y6 := Lib.hid (Y5.out.trans (hx.mono Y5.out.size))
    rw [runE_no RN.out] at he
    subst he
    clear hx Y5 k0 k1 k2 l0 l1 l2
    obtain ⟨⟨k0, k1, k2⟩, _⟩ := (B10.out.below Y6.out B10.out.lt).three
    obtain ⟨⟨l0, l1, l2⟩, _⟩ := (B9.out.below Y6.out B9.out.lt).three
    skip --D2
    go_wp2_with fail
    refine (dfaRunE_any _ _ d SD.out s b HBB.out (by rw [← HM.out]; exact hbn) w6 (DD.out.below Y6.out) (TD.out.below Y6.out)).mono ?_
    rintro e w7 ⟨he, hx⟩
    have Y7 := Lib.hid (Y6.out.trans (hx.mono Y6.out.size))
    rw [runE_no RN.out] at he
    subst he
    clear hx Y6 k0 k1 k2 l0 l1 l2
    obtain ⟨⟨k0, k1, k2⟩, _⟩ := (B10.out.below Y7.out B10.out.lt).three
    obtain ⟨⟨l0, l1, l2⟩, _⟩ := (B9.out.below Y7.out B9.out.lt).three
    go_wp2_with fail
    refine (dfaMarksNo_any _ _ d SD.out RN.out b HBB.out (by rw [← HM.out]; exact hbn) w7 (DD.out.below Y7.out) (TD.out.below Y7.out)).mono ?_
    rintro e w8 ⟨rfl, hx⟩
    have Y8 := Lib.hid (Y7.out.trans (hx.mono Y7.out.size))
    clear hx Y7 k0 k1 k2 l0 l1 l2
    obtain ⟨⟨k0, k1, k2⟩, _⟩ := (B10.out.below Y8.out B10.out.lt).three
    obtain ⟨⟨l0, l1, l2⟩, _⟩ := (B9.out.below Y8.out B9.out.lt).three
    go_wp2_with fail
    refine (dfaFirstNo_any _ _ d SD.out RN.out w8 (DD.out.below Y8.out)).mono ?_
    rintro e w9 ⟨rfl, hx⟩
    have Y9 := Lib.hid (Y8.out.trans (hx.mono Y8.out.size))
    clear hx Y8 k0 k1 k2 l0 l1 l2
    obtain ⟨⟨k0, k1, k2⟩, _⟩ := (B10.out.below Y9.out B10.out.lt).three
    obtain ⟨⟨l0, l1, l2⟩, _⟩ := (B9.out.below Y9.out B9.out.lt).three
    go_wp2_with fail
    refine (reachedNo_any _ d SD.out RN.out w9 (DD.out.below Y9.out)).mono ?_
    rintro e w10 ⟨rfl, hx⟩
    have Y10 := Lib.hid (Y9.out.trans (hx.mono Y9.out.size))
    clear hx Y9 k0 k1 k2 l0 l1 l2
    obtain ⟨⟨k0, k1, k2⟩, _⟩ := (B10.out.below Y10.out B10.out.lt).three
    obtain ⟨⟨l0, l1, l2⟩, _⟩ := (B9.out.below Y10.out B9.out.lt).three
    go_wp2_with fail
    refine (trimNo_any _ d SD.out RN.out w10 (DD.out.below Y10.out)).mono ?_
    rintro e w11 ⟨rfl, hx⟩
    have Y11 := Lib.hid (Y10.out.trans (hx.mono Y10.out.size))
    clear hx Y10 k0 k1 k2 l0 l1 l2
    obtain ⟨⟨k0, k1, k2⟩, _⟩ := (B10.out.below Y11.out B10.out.lt).three
    obtain ⟨⟨l0, l1, l2⟩, _⟩ := (B9.out.below Y11.out B9.out.lt).three
    skip --D5
    go_upto_region 16 with fail
    skip --D5a
    go_upto_region 17 with fail
    skip --D6
    refine wp_named ?_
    intro V12 hV12
    have BE : Hid (Blk V12 (w11.heap.size + 1) #[.int .i64 182, .int .i64 182, .int .i64 182, .int .i64 182, .int .i64 182, .int .i64 182, .int .i64 182] 51) := Lib.hid (by rw [hV12]; exact (Blk.new _ _ _).at (by simp))
    have BT : Hid (Blk V12 w11.heap.size #[.slice none 0 0, .slice none 0 0, .slice none 0 0] 29) := Lib.hid (by rw [hV12]; exact (Blk.new _ _ _).alloc _)
    have Y12 : Hid (Below V2.heap.size V2 V12) := Lib.hid (by rw [hV12]; exact Y11.out.trans ((((Ext.refl _).alloc _).alloc _).below.mono Y11.out.size))
    clear hV12 Y11 k0 k1 k2 l0 l1 l2
    skip --D7
    go_loopw [133] (fun iv wr => ∃ k : Nat, k ≤ 7 ∧ iv = .int .i64 k ∧ wr = V12) (fun iv _ => 7 - (intOf iv).toNat)
    case atStart => exact ⟨0, by omega, rfl, rfl⟩
    case round =>
      obtain ⟨k, hk, rfl, rfl⟩ := hrel
      by_cases hlt : k < 7
      · have hki : (k : Int) < 7 := by omega
        have hcell : wr.cell? ⟨w11.heap.size + 1, k, none⟩ = some (.int .i64 182) := by
          obtain rfl | rfl | rfl | rfl | rfl | rfl | rfl : k = 0 ∨ k = 1 ∨ k = 2 ∨ k = 3 ∨ k = 4 ∨ k = 5 ∨ k = 6 := by omega
          all_goals exact BE.out.cell _
        go_wp2
        go_roundw
        case rel => exact ⟨k + 1, by omega, by go_num, by trivial⟩
        case measure => simp [intOf]; omega
      · obtain rfl : k = 7 := by omega
        have hki : ¬ (((7 : Nat) : Int) < 7) := by omega
        obtain ⟨⟨t0, t1, t2⟩, _⟩ := BT.out.three
        skip --D8
        have hz : IsDfe wr (.agg #[.slice none 0 0, .slice none 0 0, .slice none 0 0]) ⟨[], [], []⟩ := ⟨_, _, _, rfl, ⟨.inl ⟨rfl, rfl⟩, fun a n cap e => by cases e; exact Nat.le_refl _⟩, (IsLL.nil _).e, (IsLL.nil _).e⟩
        have hz' : IsRf wr (.agg #[.slice none 0 0, .slice none 0 0, .slice none 0 0]) ⟨[], [], []⟩ := ⟨_, _, _, rfl, .inl ⟨rfl, rfl⟩, IsLL.nil _, IsLL.nil _⟩
        have HZ := Lib.hid hz
        have HZ' := Lib.hid hz'
        clear hz hz'
        go_wp2_with fail
        refine (same18G_any _ _ ⟨[], [], []⟩ ⟨[], [], []⟩ wr HZ.out HZ'.out ⟨by simp, by simp, by simp, by simp, by simp⟩).mono ?_
        rintro e w13 ⟨he, hx⟩
        replace he : e = .returned (.bool true) := he
        subst he
        have X13 := Lib.hid (X1.out.trans ((Y12.out.trans (hx.mono Y12.out.size)).mono X1.out.size))
        clear hx
        skip --D9
        go_wp2
        go_ret
        exact ⟨rfl, X13.out⟩
  | true =>
    have RT : Hid (Rt d) := Lib.hid ((right_iff d).1 HR.out.symm)
    have n12 : n1 = n2 := by rw [HN2.out, HN1.out]; exact RT.out.mr.symm
    subst n12
    go_wp2_with fail
    refine (dfaClass_any _ d SD.out c0 hc256 w4 (DD.out.below Y4.out)).mono ?_
    rintro e w5 ⟨he, hx⟩
    have Y5 := Lib.hid (Y4.out.trans (hx.mono Y4.out.size))
    rw [← HR.out] at he
    replace he : e = .returned (.tuple #[.int .i64 (cls d.cl c0), .int .i64 0]) := he
    subst he
    clear hx Y4 k0 k1 k2 l0 l1 l2
    obtain ⟨⟨k0, k1, k2⟩, _⟩ := (B10.out.below Y5.out B10.out.lt).three
    obtain ⟨⟨l0, l1, l2⟩, _⟩ := (B9.out.below Y5.out B9.out.lt).three
    obtain ⟨k9, hk9⟩ : ∃ k, k = cls d.cl c0 := ⟨_, rfl⟩
    rw [← hk9]
    have HK9 := Lib.hid hk9
    clear hk9
    obtain ⟨p, hp⟩ : ∃ p, p = (runE d s [c0]).1 := ⟨_, rfl⟩
    obtain ⟨f, hf⟩ : ∃ p, p = (runE d s [c0]).2 := ⟨_, rfl⟩
    obtain ⟨p2, hp2⟩ : ∃ p, p = (runE d s b).1 := ⟨_, rfl⟩
    have hff : f = (runE d s b).2 := by
      rw [hf, runE_yes HR.out.symm, runE_yes HR.out.symm]
      split <;> rfl
    have HP := Lib.hid hp
    have HF := Lib.hid hf
    have HP2 := Lib.hid hp2
    have HFF := Lib.hid hff
    clear hp hf hp2 hff
    skip --T1
    go_wp2_with fail
    refine (dfaStep_any _ d SD.out s c0 hc256 w5 (DD.out.below Y5.out)).mono ?_
    rintro e w6 ⟨he, hx⟩
    have Y6 := Lib.hid (Y5.out.trans (hx.mono Y5.out.size))
    rw [← HP.out, ← HF.out] at he
    subst he
    clear hx Y5 k0 k1 k2 l0 l1 l2
    obtain ⟨⟨k0, k1, k2⟩, _⟩ := (B10.out.below Y6.out B10.out.lt).three
    obtain ⟨⟨l0, l1, l2⟩, _⟩ := (B9.out.below Y6.out B9.out.lt).three
    go_wp2_with fail
    refine (dfaRunE_any _ _ d SD.out s b HBB.out (by rw [← HM.out]; exact hbn) w6 (DD.out.below Y6.out) (TD.out.below Y6.out)).mono ?_
    rintro e w7 ⟨he, hx⟩
    have Y7 := Lib.hid (Y6.out.trans (hx.mono Y6.out.size))
    rw [← HP2.out, ← HFF.out] at he
    subst he
    clear hx Y6 k0 k1 k2 l0 l1 l2
    obtain ⟨⟨k0, k1, k2⟩, _⟩ := (B10.out.below Y7.out B10.out.lt).three
    obtain ⟨⟨l0, l1, l2⟩, _⟩ := (B9.out.below Y7.out B9.out.lt).three
    obtain ⟨mk, hmk⟩ : ∃ l, l = d.mr.getD (runD d 0 b) [] := ⟨_, rfl⟩
    have HMK := Lib.hid hmk
    clear hmk
    skip --T2
    go_wp2_with fail
    refine (dfaMarks_any _ _ d RT.out SD.out b HBB.out (by rw [← HM.out]; exact hbn) w7 (DD.out.below Y7.out) (TD.out.below Y7.out)).mono ?_
    rintro e w8 ⟨um, rfl, ho, hx⟩
    have Y8 := Lib.hid (Y7.out.trans (hx.mono Y7.out.size))
    rw [← HMK.out] at ho
    obtain ⟨ml, hml⟩ : ∃ l, l = mk.length := ⟨_, rfl⟩
    rw [← hml] at ho
    have HML := Lib.hid hml
    clear hml
    obtain ⟨ma, mc, rfl⟩ := ownsRow_form ho
    have OM8 := Lib.hid ho
    have LM : Hid (∀ x, (Value.slice ma ml mc).ownBlock = some x → w7.heap.size ≤ x ∧ x < w8.heap.size) := Lib.hid fun x e => ho.lt x e
    have h78 := hx.size
    have Y7' := Lib.hid Y7.out
    clear ho
    clear hx Y7 k0 k1 k2 l0 l1 l2
    obtain ⟨⟨k0, k1, k2⟩, _⟩ := (B10.out.below Y8.out B10.out.lt).three
    obtain ⟨⟨l0, l1, l2⟩, _⟩ := (B9.out.below Y8.out B9.out.lt).three
    skip --T3
    go_wp2_with fail
    refine (dfaFirst_any _ _ d RT.out SD.out b HBB.out (by rw [← HM.out]; exact hbn) w8 (DD.out.below Y8.out) (TD.out.below Y8.out)).mono ?_
    rintro e w9 ⟨⟨fn, fm, fb⟩, hfi, rfl, hx⟩
    have Y9 := Lib.hid (Y8.out.trans (hx.mono Y8.out.size))
    have FI := Lib.hid hfi
    have OM9 := Lib.hid (ownsRow_below OM8.out hx)
    have h89 := hx.size
    clear hfi OM8
    clear hx Y8 k0 k1 k2 l0 l1 l2
    obtain ⟨⟨k0, k1, k2⟩, _⟩ := (B10.out.below Y9.out B10.out.lt).three
    obtain ⟨⟨l0, l1, l2⟩, _⟩ := (B9.out.below Y9.out B9.out.lt).three
    obtain ⟨rl, hrl⟩ : ∃ l, l = (reachD d).length := ⟨_, rfl⟩
    have HRL := Lib.hid hrl
    clear hrl
    skip --T4
    go_wp2_with fail
    refine (reached_any _ d RT.out SD.out w9 (DD.out.below Y9.out)).mono ?_
    rintro e w10 ⟨ur, rfl, ho, hx⟩
    have Y10 := Lib.hid (Y9.out.trans (hx.mono Y9.out.size))
    rw [← HRL.out] at ho
    obtain ⟨ra, rc, rfl⟩ := ownsRow_form ho
    have OR10 := Lib.hid ho
    have OM10 := Lib.hid (ownsRow_below OM9.out hx)
    have OMX := Lib.hid OM10.out
    have ORX := Lib.hid OR10.out
    have Y10X := Lib.hid (Y9.out.trans (hx.mono Y9.out.size))
    have LR : Hid (∀ x, (Value.slice ra rl rc).ownBlock = some x → w9.heap.size ≤ x ∧ x < w10.heap.size) := Lib.hid fun x e => ho.lt x e
    have h910 := hx.size
    clear ho OM9
    clear hx Y9 k0 k1 k2 l0 l1 l2
    obtain ⟨⟨k0, k1, k2⟩, _⟩ := (B10.out.below Y10.out B10.out.lt).three
    obtain ⟨⟨l0, l1, l2⟩, _⟩ := (B9.out.below Y10.out B9.out.lt).three
    obtain ⟨t0, ht0⟩ : ∃ l, l = (trimR d).cl.length := ⟨_, rfl⟩
    obtain ⟨t1, ht1⟩ : ∃ l, l = (trimR d).nx.length := ⟨_, rfl⟩
    obtain ⟨t2, ht2⟩ : ∃ l, l = (trimR d).mr.length := ⟨_, rfl⟩
    have HT0 := Lib.hid ht0
    have HT1 := Lib.hid ht1
    have HT2 := Lib.hid ht2
    clear ht0 ht1 ht2
    skip --T5
    go_wp2_with fail
    refine (trim_any _ d RT.out SD.out w10 (DD.out.below Y10.out)).mono ?_
    rintro e w11 ⟨ut, rfl, ho, hx⟩
    have Y11 := Lib.hid (Y10.out.trans (hx.mono Y10.out.size))
    obtain ⟨ua0, uc0, ua1, uc1, ua2, uc2, rfl⟩ := ho.form
    rw [← HT0.out, ← HT1.out, ← HT2.out] at ho ⊢
    have OT11 := Lib.hid ho
    have Z11 := Lib.hid hx
    have OR11 := Lib.hid (ownsRow_below OR10.out hx)
    have OM11 := Lib.hid (ownsRow_below OM10.out hx)
    have h1011 := hx.size
    clear ho OR10 OM10
    clear hx Y10 k0 k1 k2 l0 l1 l2
    obtain ⟨⟨k0, k1, k2⟩, _⟩ := (B10.out.below Y11.out B10.out.lt).three
    obtain ⟨⟨l0, l1, l2⟩, _⟩ := (B9.out.below Y11.out B9.out.lt).three
    skip --T6
    go_upto_region 15 with fail
    refine wp_named ?_
    intro w12 hw12
    have BT : Hid (Blk w12 w11.heap.size #[.slice ua0 t0 uc0, .slice ua1 t1 uc1, .slice ua2 t2 uc2] 29) := Lib.hid (by rw [hw12]; first | exact Blk.new _ _ _ | exact (Blk.new _ _ _).set3)
    have hx : Below w11.heap.size w11 w12 := by rw [hw12]; exact ((Ext.refl _).alloc _).below
    have OT12 := Lib.hid (OT11.out.below hx)
    have OR12 := Lib.hid (ownsRow_below OR11.out hx)
    have OM12 := Lib.hid (ownsRow_below OM11.out hx)
    have h1112 := hx.size
    have Z12 := Lib.hid (Z11.out.trans (hx.mono Z11.out.size))
    have Y12 := Lib.hid (Y11.out.trans (hx.mono Y11.out.size))
    clear hw12 hx OT11 OR11 OM11 Y11 k0 k1 k2 l0 l1 l2
    skip --T7
    obtain ⟨⟨k0, k1, k2⟩, _⟩ := (B10.out.below Y12.out B10.out.lt).three
    obtain ⟨⟨l0, l1, l2⟩, _⟩ := (B9.out.below Y12.out B9.out.lt).three
    go_wp2_with fail
    refine calls_named ?_
    intro w13 hw13
    have ISC : Hid (IsSl encB w13 (.slice (some ⟨w12.heap.size, 0, none⟩) 1 1) [c0]) := Lib.hid (by
      rw [hw13]
      exact .inr ⟨_, 0, 1, rfl, by simp, by simp, fun i y hi => by
        have h5 := (List.getElem?_eq_some_iff.1 hi).1
        simp at h5
        subst h5
        simp at hi
        subst hi
        exact (Blk.new _ _ _).cell 0⟩)
    have hx : Below w12.heap.size w12 w13 := by rw [hw13]; exact ((Ext.refl _).alloc _).below
    have Y13 := Lib.hid (Y12.out.trans (hx.mono Y12.out.size))
    have Q13 := Lib.hid hx
    clear hw13 hx k0 k1 k2 l0 l1 l2
    skip --T8
    refine (refRun18_any _ _ d RT.out SD.out s [c0] (by simpa using hc256) (by simp) w13 (RD.out.below Y13.out) ISC.out).mono ?_
    rintro e w14 ⟨he, hx⟩
    rw [← HP.out, ← HF.out] at he
    subst he
    have Y14 := Lib.hid (Y13.out.trans (hx.mono Y13.out.size))
    have Q14 := Lib.hid (Q13.out.trans (hx.mono Q13.out.size))
    clear hx Y13 Q13 ISC
    skip --T9
    obtain ⟨⟨k0, k1, k2⟩, _⟩ := (B10.out.below Y14.out B10.out.lt).three
    obtain ⟨⟨l0, l1, l2⟩, _⟩ := (B9.out.below Y14.out B9.out.lt).three
    go_upto_if 174 with fail
    skip --U0
    go_cut [34] from 174 to 178 (fun q wx => q = .int .i64 p2 ∧ Below w14.heap.size w14 wx)
    case first =>
      by_cases hs : s < 0 ∨ (n1 : Int) ≤ s
      · have e1 : f = 2 := by rw [HF.out, runE_yes HR.out.symm, if_pos (by rw [← HN1.out]; exact hs)]
        have e2 : p2 = 0 := by rw [HP2.out, runE_yes HR.out.symm, if_pos (by rw [← HN1.out]; exact hs)]
        subst e1 e2
        clear hs
        go_wp2_with fail
        go_meet
        exact ⟨rfl, Below.refl _ _⟩
        skip --U0a
      · have e1 : f = 0 := by rw [HF.out, runE_yes HR.out.symm, if_neg (by rw [← HN1.out]; exact hs)]
        have e2 : p2 = ((runD d s.toNat b : Nat) : Int) := by rw [HP2.out, runE_yes HR.out.symm, if_neg (by rw [← HN1.out]; exact hs)]
        obtain ⟨sn, rfl⟩ : ∃ sn : Nat, s = sn := ⟨s.toNat, by omega⟩
        rw [Int.toNat_natCast] at e2
        have hsn : sn < d.nx.length := by rw [← HN1.out]; omega
        have HE2 := Lib.hid e2
        have HSN := Lib.hid hsn
        clear e2 hsn hs
        subst e1
        skip --U0b
        go_wp2_with fail
        refine (refBehind18_any _ _ d RT.out sn HSN.out b HBB.out (by rw [← HM.out]; exact hbn) w14 (RD.out.below Y14.out) (HBV.out.below (X1.out.trans (Y14.out.mono X1.out.size)))).mono ?_
        rintro e w15 ⟨he, hx⟩
        skip --U0c
        rw [← HE2.out] at he
        subst he
        go_wp2_with fail
        go_meet
        exact ⟨rfl, hx⟩
    case rest =>
    obtain ⟨rfl, hx⟩ := hcut
    obtain ⟨w15, rfl⟩ : ∃ w15 : World, w15 = wc := ⟨_, rfl⟩
    have Y15 := Lib.hid (Y14.out.trans (hx.mono Y14.out.size))
    have Q15 := Lib.hid (Q14.out.trans (hx.mono Q14.out.size))
    clear hx Y14 Q14 k0 k1 k2 l0 l1 l2
    skip --U1
    obtain ⟨⟨k0, k1, k2⟩, _⟩ := (B10.out.below Y15.out B10.out.lt).three
    obtain ⟨⟨l0, l1, l2⟩, _⟩ := (B9.out.below Y15.out B9.out.lt).three
    obtain ⟨la, hla⟩ : ∃ n : Nat, n = runD d 0 b := ⟨_, rfl⟩
    have hlan : la < n1 := by rw [hla, HN1.out]; exact runD_lt RT.out RT.out.pos _ HBB.out
    have HLA := Lib.hid hla
    clear hla
    go_wp2_with fail
    refine (refBehind18_any _ _ d RT.out 0 RT.out.pos b HBB.out (by rw [← HM.out]; exact hbn) w15 (RD.out.below Y15.out) (HBV.out.below (X1.out.trans (Y15.out.mono X1.out.size)))).mono ?_
    rintro e w16 ⟨he, hx⟩
    have Y16 := Lib.hid (Y15.out.trans (hx.mono Y15.out.size))
    have Q16 := Lib.hid (Q15.out.trans (hx.mono Q15.out.size))
    rw [← HLA.out] at he
    subst he
    clear hx Y15 Q15 k0 k1 k2 l0 l1 l2
    obtain ⟨⟨k0, k1, k2⟩, _⟩ := (B10.out.below Y16.out B10.out.lt).three
    obtain ⟨⟨l0, l1, l2⟩, _⟩ := (B9.out.below Y16.out B9.out.lt).three
    skip --U2
    go_wp2_with fail
    refine (refFirst18_any _ _ d RT.out b HBB.out (by rw [← HM.out]; exact hbn) w16 (RD.out.below Y16.out) (HBV.out.below (X1.out.trans (Y16.out.mono X1.out.size)))).mono ?_
    rintro e w17 ⟨⟨r9, hr9, rfl⟩, hx⟩
    have Y17 := Lib.hid (Y16.out.trans (hx.mono Y16.out.size))
    have Q17 := Lib.hid (Q16.out.trans (hx.mono Q16.out.size))
    have hr8 := hr9.uniq FI.out
    subst hr8
    clear hr9
    clear hx Y16 Q16 k0 k1 k2 l0 l1 l2
    obtain ⟨⟨k0, k1, k2⟩, _⟩ := (B10.out.below Y17.out B10.out.lt).three
    obtain ⟨⟨l0, l1, l2⟩, _⟩ := (B9.out.below Y17.out B9.out.lt).three
    skip --U3
    have c1 : (f == f) = true := by simp
    have c2 : (f != f) = false := by simp
    have c3 : (p == p) = true := by simp
    have c4 : (p != p) = false := by simp
    have c5 : (p2 == p2) = true := by simp
    have c6 : (p2 != p2) = false := by simp
    have c7 : (k9 == k9) = true := by simp
    have c8 : (k9 != k9) = false := by simp
    have d1 : (fn == fn) = true := by simp
    have d2 : (fn != fn) = false := by simp
    have d3 : (fm == fm) = true := by simp
    have d4 : (fm != fm) = false := by simp
    have d5 : (fb == fb) = true := by simp
    have d6 : (fb != fb) = false := by simp
    have hlai : (la : Int) < n1 := by omega
    skip --U3a
    have hmr : d.mr[la]? = some mk := by
      rw [HMK.out, ← HLA.out, List.getD_eq_getElem?_getD, List.getElem?_eq_getElem (by rw [RT.out.mr, ← HN1.out]; exact hlan)]; rfl
    have hll : IsLL w17 (.slice pa2 n1 pc2) d.mr := by
      obtain ⟨_, _, _, e, _, _, h5⟩ := RD.out.below Y17.out
      cases e
      exact h5
    obtain ⟨mb, mo, me, md, rfl, hmb, hmc, hms⟩ := hll.elem hmr
    rw [← HML.out] at hmc hms
    replace hmc : w17.cell? ⟨mb, mo + la, none⟩ = some (.slice me ml md) := hmc
    have hml6 : mk.length ≤ 1000000 := SD.out.mks mk (List.mem_of_getElem? hmr)
    have OM17 := Lib.hid (ownsRow_below OM12.out Q17.out)
    have OR17 := Lib.hid (ownsRow_below OR12.out Q17.out)
    have OT17 := Lib.hid (OT12.out.below Q17.out)
    have HMS := Lib.hid hms
    have BT17 := Lib.hid (BT.out.below Q17.out BT.out.lt)
    have C9 := Lib.hid (B9.out.below Y17.out B9.out.lt)
    have RD17 := Lib.hid (RD.out.below Y17.out)
    have TD17 := Lib.hid (TD.out.below Y17.out)
    have BV17 := Lib.hid (HBV.out.below (X1.out.trans (Y17.out.mono X1.out.size)))
    have ST : Hid (Sm (trimR d)) := Lib.hid (trimR_sm RT.out SD.out)
    have HML6 := Lib.hid hml6
    have CK : Hid (∀ W, Below w17.heap.size w17 W → Calls Tryz.prog 38 #[.agg #[.slice pa0 n0 pc0, .slice pa1 n1 pc1, .slice (some ⟨mb, mo, none⟩) n1 pc2], .int .u8 c0] W fun e w' => e = .returned (.int .i64 k9) ∧ Below W.heap.size W w') := Lib.hid fun W hW => by rw [HK9.out]; exact refClassD_any _ d RT.out c0 hc256 W (RD17.out.below hW)
    clear hmr hll hms hml6 k0 k1 k2 l0 l1 l2
    go_upto_region 29 with fail
    dsimp only [List.append]
    skip --U4
    refine wp_region_reg false (fun _ => False) (by kernel_rfl) 82 [0, 0, 3, 0, 15, 0, 63, 0, 255, 511, 1023, 2047, 2047, 8191, 16383, 32767, 65535, 65535, 262143, 524287, 1048575, 2097151, 2097151, 2097151, 14680063, 33554431, 67108863, 134217727, 268435455, 268435455, 1073741823, 2147483647, 4294967295, 8589934591, 8589934591, 34359738367, 68719476735, 137438953471, 274877906943, 274877906943, 824633720831, 274877906943, 4123168604159, 8521215115263, 17592186044415, 35184372088831, 70368744177663, 140737488355327, 281474976710655, 281474976710655, 1125899906842623, 2251799813685247, 4503599627370495, 9007199254740991, 9007199254740991, 36028797018963967, 72057594037927935, 144115188075855871, 288230376151711743, 288230376151711743, 1152921504606846975, 2305843009213693951, 4611686018427387903, 9223372036854775807, 9223372036854775807, 27670116110564327423, 73786976294838206463, 147573952589676412927, 295147905179352825855, 590295810358705651711, 1180591620717411303423, 1180591620717411303423, 3541774862152233910271, 9444732965739290427391, 18889465931478580854783, 37778931862957161709567, 75557863725914323419135, 151115727451828646838271, 151115727451828646838271, 604462909807314587353087, 1208925819614629174706175, 2417851639229258349412351] (fun i => i == 24 || i == 44 || i == 65 || i == 66 || i == 72 || i == 73 || i == 79) (by kernel_rfl) (fun i => if i = 24 then Eff.det _ (.int .i64 k9) else if i = 44 then Eff.det _ (.bool true) else if i = 65 then Eff.row w17.heap.size 3 1 rl ((reachD d).map encN) else if i = 66 then Eff.det _ (.bool true) else if i = 72 then Eff.rfT (trimR d) t0 t1 t2 else if i = 73 then Eff.det _ (.bool true) else if i = 79 then Eff.det _ (.bool true) else Eff.any _) ?_
    intro C hC hne
    have HC := Lib.hid hC
    have i0 := regCell hC (p := ⟨b9, 0, none⟩) C9.out.lt (fun h => h) (C9.out.cell 0)
    have i1 := regCell hC (p := ⟨b9, 1, none⟩) C9.out.lt (fun h => h) (C9.out.cell 1)
    have i2 := regCell hC (p := ⟨b9, 2, none⟩) C9.out.lt (fun h => h) (C9.out.cell 2)
    have j0 := regCell hC (p := ⟨w11.heap.size, 0, none⟩) BT17.out.lt (fun h => h) (BT17.out.cell 0)
    have j1 := regCell hC (p := ⟨w11.heap.size, 1, none⟩) BT17.out.lt (fun h => h) (BT17.out.cell 1)
    have j2 := regCell hC (p := ⟨w11.heap.size, 2, none⟩) BT17.out.lt (fun h => h) (BT17.out.cell 2)
    have m0 := regCell hC (p := ⟨mb, mo + la, none⟩) hmb (fun h => h) hmc
    simp only [List.getElem?_toArray, List.getElem?_cons_zero, List.getElem?_cons_succ] at i0 i1 i2 j0 j1 j2
    clear hC
    skip --U5
    repeat (refine regStep (fun K hK => ?_); first | (refine regN rfl ?_; try go_simp; refine hK _ _ ?_; clear hK K) | (refine regF rfl rfl ?_; unfold floatAt; go_simp; refine hK _ _ ?_; clear hK K))
    skip --U5a
    refine regStep (fun K hK => ?_)
    refine regE rfl rfl (Eff.det _ (.int .i64 k9)) rfl (fun W hW hN => ?_) (fun v hv => ?_)
    · have hM := (HC.out W).1 hW
      clear hW
      go_simp
      refine effT_call ((CK.out W hM.below).mono ?_)
      rintro e w2 ⟨rfl, hx⟩
      exact ⟨_, rfl, Move.of_below hx, rfl, trivial⟩
    replace hv : v = _ := hv
    subst hv
    go_simp
    refine hK _ _ ?_
    clear hK K
    skip --U6
    repeat (refine regStep (fun K hK => ?_); first | (refine regN rfl ?_; try go_simp; refine hK _ _ ?_; clear hK K) | (refine regF rfl rfl ?_; unfold floatAt; go_simp; refine hK _ _ ?_; clear hK K))
    refine regStep (fun K hK => ?_)
    refine regE rfl rfl (Eff.det _ (.bool true)) rfl (fun W hW hN => ?_) (fun v hv => ?_)
    · have hM := (HC.out W).1 hW
      clear hW hN
      go_simp
      refine effT_call ((slEqG_any _ _ mk mk W (.inl (ownsRow_sl (ownsRow_below OM17.out hM.below) HML.out)) (.inl (HMS.out.below hM.below)) HML6.out).mono ?_)
      rintro e w2 ⟨rfl, hx⟩
      exact ⟨_, rfl, Move.of_below hx.below, by simp; rfl, trivial⟩
    replace hv : v = _ := hv
    subst hv
    go_simp
    refine hK _ _ ?_
    clear hK K
    skip --U7
    repeat (refine regStep (fun K hK => ?_); first | (refine regN rfl ?_; try go_simp; refine hK _ _ ?_; clear hK K) | (refine regF rfl rfl ?_; unfold floatAt; go_simp; refine hK _ _ ?_; clear hK K))
    refine regStep (fun K hK => ?_)
    refine regE rfl rfl (Eff.row w17.heap.size 3 1 rl ((reachD d).map encN)) rfl (fun W hW hN => ?_) (fun v hv => ?_)
    · have hM := (HC.out W).1 hW
      clear hW
      go_simp
      refine effT_call ((refReached18_any _ d RT.out W (RD17.out.below hM.below)).mono ?_)
      rintro e w2 ⟨u, rfl, ho, hx⟩
      exact ⟨_, rfl, Move.of_below hx, (by rw [← HRL.out] at ho; exact ownsRow_form ho), (by rw [← HRL.out] at ho; exact ownsRow_base ho hM.size)⟩
    obtain ⟨xa, xc, rfl⟩ := hv
    go_simp
    refine hK _ _ ?_
    clear hK K
    skip --U8
    repeat (refine regStep (fun K hK => ?_); first | (refine regN rfl ?_; try go_simp; refine hK _ _ ?_; clear hK K) | (refine regF rfl rfl ?_; unfold floatAt; go_simp; refine hK _ _ ?_; clear hK K))
    refine regStep (fun K hK => ?_)
    refine regE rfl rfl (Eff.det _ (.bool true)) rfl (fun W hW hN => ?_) (fun v hv => ?_)
    · have hM := (HC.out W).1 hW
      have hy : W.ownsRow w17.heap.size 3 1 (.slice xa rl xc) rl ((reachD d).map encN) := hN.at 0 rfl (by kernel_rfl)
      clear hW hN
      go_simp
      refine effT_call ((slEqG_any _ _ ((reachD d).map Int.ofNat) ((reachD d).map Int.ofNat) W (.inl (ownsRow_sl (by rw [← encN_z]; exact ownsRow_below OR17.out hM.below) (by rw [List.length_map]; exact HRL.out))) (.inl (ownsRow_sl (by rw [← encN_z]; exact hy) (by rw [List.length_map]; exact HRL.out))) (by rw [List.length_map]; have := (reachD_in RT.out).len; have := RT.out.le; omega)).mono ?_)
      rintro e w2 ⟨rfl, hx⟩
      exact ⟨_, rfl, Move.of_below hx.below, by simp; rfl, trivial⟩
    replace hv : v = _ := hv
    subst hv
    go_simp
    refine hK _ _ ?_
    clear hK K
    skip --U9
    repeat (refine regStep (fun K hK => ?_); first | (refine regN rfl ?_; try go_simp; refine hK _ _ ?_; clear hK K) | (refine regF rfl rfl ?_; unfold floatAt; go_simp; refine hK _ _ ?_; clear hK K))
    refine regStep (fun K hK => ?_)
    refine regE rfl rfl (Eff.rfT (trimR d) t0 t1 t2) rfl (fun W hW hN => ?_) (fun v hv => ?_)
    · have hM := (HC.out W).1 hW
      clear hW
      go_simp
      refine effT_call ((refTrim18_any _ d RT.out W (RD17.out.below hM.below)).mono ?_)
      rintro e w2 ⟨u, rfl, ho, hx⟩
      exact ⟨_, rfl, Move.of_below hx, (by rw [HT0.out, HT1.out, HT2.out]; exact ho.form3r), ho⟩
    obtain ⟨ya0, yc0, ya1, yc1, ya2, yc2, rfl⟩ := hv
    go_simp
    refine hK _ _ ?_
    clear hK K
    repeat (refine regStep (fun K hK => ?_); first | (refine regN rfl ?_; try go_simp; refine hK _ _ ?_; clear hK K) | (refine regF rfl rfl ?_; unfold floatAt; go_simp; refine hK _ _ ?_; clear hK K))
    skip --V0
    refine regStep (fun K hK => ?_)
    refine regE rfl rfl (Eff.det _ (.bool true)) rfl (fun W hW hN => ?_) (fun v hv => ?_)
    · have hM := (HC.out W).1 hW
      have hy : IsRf W (.agg #[.slice ya0 t0 yc0, .slice ya1 t1 yc1, .slice ya2 t2 yc2]) (trimR d) := hN.at 0 rfl (by kernel_rfl)
      clear hW hN
      go_simp
      refine effT_call ((same18G_any _ _ (trimR d) (trimR d) W (OT17.out.below hM.below).df.e hy ST.out).mono ?_)
      rintro e w2 ⟨rfl, hx⟩
      exact ⟨_, rfl, Move.of_below hx, by rw [eqD_iff.2 rfl]; rfl, trivial⟩
    replace hv : v = _ := hv
    subst hv
    go_simp
    refine hK _ _ ?_
    clear hK K
    skip --V1
    repeat (refine regStep (fun K hK => ?_); first | (refine regN rfl ?_; try go_simp; refine hK _ _ ?_; clear hK K) | (refine regF rfl rfl ?_; unfold floatAt; go_simp; refine hK _ _ ?_; clear hK K))
    refine regStep (fun K hK => ?_)
    refine regE rfl rfl (Eff.det _ (.bool true)) rfl (fun W hW hN => ?_) (fun v hv => ?_)
    · have hM := (HC.out W).1 hW
      clear hW hN
      go_simp
      refine effT_call ((slEqB_any _ _ b b W (TD17.out.below hM.below) (BV17.out.below hM.below) (by rw [← HM.out]; exact hbn)).mono ?_)
      rintro e w2 ⟨rfl, hx⟩
      exact ⟨_, rfl, Move.of_below hx.below, by simp; rfl, trivial⟩
    replace hv : v = _ := hv
    subst hv
    go_simp
    refine hK _ _ ?_
    clear hK K
    repeat (refine regStep (fun K hK => ?_); first | (refine regN rfl ?_; try go_simp; refine hK _ _ ?_; clear hK K) | (refine regF rfl rfl ?_; unfold floatAt; go_simp; refine hK _ _ ?_; clear hK K))
    skip --V2
    refine regNil (fun w18 hW hH => ?_)
    have hM := (HC.out w18).1 hW
    have hx := hM.below
    have Y18 := Lib.hid (Y17.out.trans (hx.mono Y17.out.size))
    have Q18 := Lib.hid (Q17.out.trans (hx.mono Q17.out.size))
    clear hM hW hH HC hne hx i0 i1 i2 j0 j1 j2 m0 Y17 Q17 OM17 OR17 OT17 BT17 C9 RD17 TD17 BV17 HMS hmc
    have OT18 := Lib.hid (OT12.out.below Q18.out)
    obtain ⟨⟨t5, t6, t7⟩, _⟩ := (BT.out.below Q18.out BT.out.lt).three
    skip --V3
    go_wp2_with fail
    refine (spoil18_any w10.heap.size _ (trimR d) w18 OT18.out ST.out (by have := Q18.out.size; omega)).mono ?_
    rintro e w19 ⟨⟨sp, rfl⟩, hx⟩
    have Z19 := Lib.hid ((Z12.out.trans (Q18.out.mono (show w10.heap.size ≤ w12.heap.size by omega))).trans hx)
    have OM19 := Lib.hid (ownsRow_below OMX.out Z19.out)
    have OR19 := Lib.hid (ownsRow_below ORX.out Z19.out)
    have Y19 := Lib.hid (Y10X.out.trans (Z19.out.mono Y10X.out.size))
    have h2_7 := Y7'.out.size
    have hml9 : ml ≤ 1000000 := by rw [HML.out]; exact HML6.out
    have hrl9 : rl ≤ 1000000 := by rw [HRL.out]; have := (reachD_in RT.out).len; have := RT.out.le; omega
    clear hx Z12 Q18 Y18 OT18 ST BT t5 t6 t7 OM12 OR12 OT12 Z19 OMX ORX Y10X HT0 HT1 HT2 CK hlai hlan HMK HRL HML HML6 TD c1 c2 c3 c4 c5 c6 c7 c8 d1 d2 d3 d4 d5 d6
    skip --V4
    go_wp2
    go_loopw [275] (fun iv wr => ∃ k : Nat, k ≤ ml ∧ iv = .int .i64 k ∧ (∃ ys, wr.ownsRow w7.heap.size 3 1 (.slice ma ml mc) ml ys) ∧ Keeps (fun x => (Value.slice ma ml mc).ownBlock ≠ some x) w19 wr) (fun iv _ => ml - (intOf iv).toNat)
    case atStart => exact ⟨0, by omega, rfl, ⟨_, OM19.out⟩, Keeps.refl _ _⟩
    case round =>
    obtain ⟨k, hk, rfl, ⟨ys, ho⟩, hx⟩ := hrel
    obtain ⟨w20, rfl⟩ : ∃ w20 : World, w20 = wr := ⟨_, rfl⟩
    by_cases hlt : k < ml
    · have hki : (k : Int) < ml := by omega
      have HO := Lib.hid ho
      have HX := Lib.hid hx
      obtain ⟨g, u, rfl, _, hg, _, hc, hf⟩ := rowCell ho hlt
      clear ho hx
      go_wp2
      go_roundw
      case rel => exact ⟨k + 1, by omega, by go_num, ⟨_, (HO.out.stored k _).1⟩, HX.out.tr ((Keeps.refl _ _).setCell (p := ⟨g, k, none⟩) (by simp [Value.ownBlock]) _)⟩
      case measure => simp [intOf]; omega
    obtain rfl : k = ml := by omega
    have hki : ¬ ((k : Int) < k) := by omega
    have KM := Lib.hid hx
    have Y20 := Lib.hid (Y19.out.trans (hx.mono fun x (hx' : x < V2.heap.size) e => by have := (LM.out x e).1; omega : Keeps (· < V2.heap.size) w19 w20).below)
    have OR20 := Lib.hid (ownsRow_keeps OR19.out hx fun x e e2 => by have h5 := (LM.out x e2).2; have h6 := (OR19.out.lt x e).1; omega)
    clear ho hx hlt hk OM19 OR19 Y19 KM
    skip --V5
    go_wp2
    go_loopw [284] (fun iv wr => ∃ k : Nat, k ≤ rl ∧ iv = .int .i64 k ∧ (∃ ys, wr.ownsRow w9.heap.size 3 1 (.slice ra rl rc) rl ys) ∧ Keeps (fun x => (Value.slice ra rl rc).ownBlock ≠ some x) w20 wr) (fun iv _ => rl - (intOf iv).toNat)
    case atStart => exact ⟨0, by omega, rfl, ⟨_, OR20.out⟩, Keeps.refl _ _⟩
    case round =>
    obtain ⟨k, hk, rfl, ⟨ys, ho⟩, hx⟩ := hrel
    obtain ⟨w21, rfl⟩ : ∃ w21 : World, w21 = wr := ⟨_, rfl⟩
    by_cases hlt : k < rl
    · have hki : (k : Int) < rl := by omega
      have HO := Lib.hid ho
      have HX := Lib.hid hx
      obtain ⟨g, u, rfl, _, hg, _, hc, hf⟩ := rowCell ho hlt
      clear ho hx
      go_wp2
      go_roundw
      case rel => exact ⟨k + 1, by omega, by go_num, ⟨_, (HO.out.stored k _).1⟩, HX.out.tr ((Keeps.refl _ _).setCell (p := ⟨g, k, none⟩) (by simp [Value.ownBlock]) _)⟩
      case measure => simp [intOf]; omega
    obtain rfl : k = rl := by omega
    have hki : ¬ ((k : Int) < k) := by omega
    have Y21 := Lib.hid (Y20.out.trans (hx.mono fun x (hx' : x < V2.heap.size) e => by have := (LR.out x e).1; omega : Keeps (· < V2.heap.size) w20 w21).below)
    clear ho hx hlt hk OR20 Y20
    obtain ⟨⟨k0, k1, k2⟩, _⟩ := (B10.out.below Y21.out B10.out.lt).three
    obtain ⟨⟨l0, l1, l2⟩, _⟩ := (B9.out.below Y21.out B9.out.lt).three
    skip --V6
    go_wp2_with fail
    refine (same18G_any _ _ d d w21 (DD.out.below Y21.out).e (RD.out.below Y21.out) SD.out).mono ?_
    rintro e w22 ⟨he, hx⟩
    rw [EQH.out] at he
    subst he
    have Y22 := Lib.hid (Y21.out.trans (hx.mono Y21.out.size))
    clear hx
    go_wp2
    go_ret
    exact ⟨rfl, X1.out.trans (Y22.out.mono X1.out.size)⟩
end Go.Proofs.YthdnlndpmmiboaaGreatDoor
