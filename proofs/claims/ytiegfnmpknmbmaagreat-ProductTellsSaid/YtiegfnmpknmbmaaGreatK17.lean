/-
  dfa.Copy, slices.Clone at slices of slices, the law's theirs, same, spoil and small.
-/
import Derived.Test.YtiegfnmpknmbmaaGreatK16
import Derived.Test.YtiegfnmpknmbmaaGreatK06
namespace Go.Proofs.YtiegfnmpknmbmaaGreat
open Go Go.RowKit Go.Shelf Go.Maps

/-- Slices of numbers, owned, as what an effect leaves. -/
def Eff.oll (base : Nat) (ll : List (List Int)) : Eff (Move false (fun _ => False)) where
  P := fun v => ∃ a c, v = .slice a ll.length c
  H := fun v W => OwnLL base W v ll
  wit := .slice none ll.length 0
  pw := ⟨none, 0, rfl⟩
  st := fun _ _ _ hm _ h => h.below hm.below
/-- Three cells in a box. -/
theorem Blk.three {w : World} {b : Nat} {x y z : Value} {t : TypeId} (h : Blk w b #[x, y, z] t) : (w.cell? ⟨b, 0, none⟩ = some x ∧ w.cell? ⟨b, 1, none⟩ = some y ∧ w.cell? ⟨b, 2, none⟩ = some z) ∧ w.frozen? ⟨b, 0, none⟩ = false ∧ w.frozen? ⟨b, 1, none⟩ = false ∧ w.frozen? ⟨b, 2, none⟩ = false :=
  ⟨⟨h.cell 0, h.cell 1, h.cell 2⟩, h.frozen 0, h.frozen 1, h.frozen 2⟩
theorem Blk.set3 {w : World} {b : Nat} {x y z x' y' z' : Value} {t : TypeId} (h : Blk w b #[x, y, z] t) : Blk (((w.setCell ⟨b, 0, none⟩ x').setCell ⟨b, 1, none⟩ y').setCell ⟨b, 2, none⟩ z') b #[x', y', z'] t := ((h.set 0 x').set 1 y').set 2 z'
theorem below_set3 {w W : World} {n b : Nat} {x y z : Value} (h : Below n w W) (hb : n ≤ b) : Below n w (((W.setCell ⟨b, 0, none⟩ x).setCell ⟨b, 1, none⟩ y).setCell ⟨b, 2, none⟩ z) :=
  ((h.setCell (by simpa using hb) _).setCell (by simpa using hb) _).setCell (by simpa using hb) _

set_option maxRecDepth 100000 in
set_option maxHeartbeats 4000000 in
theorem copyE_any (v : Value) (d : DF) (w : World) (h : IsDfe w v d) (sm : Sm d) :
    Calls Tryz.prog 14 #[v] w fun e w' => ∃ u, e = .returned u ∧ OwnDf w.heap.size w' u d ∧ Below w.heap.size w w' := by
  obtain ⟨v0, v1, v2, rfl, h0, h1, h2⟩ := h
  obtain ⟨a0, c0, rfl⟩ := h0.1.form
  obtain ⟨a1, c1, rfl⟩ := h1.form
  obtain ⟨a2, c2, rfl⟩ := h2.form
  have SM := Lib.hid sm
  have H0 := Lib.hid h0
  have H1 := Lib.hid h1
  have H2 := Lib.hid h2
  clear h0 h1 h2 sm
  obtain ⟨n0, hn0⟩ : ∃ n, n = d.cl.length := ⟨_, rfl⟩
  obtain ⟨n1, hn1⟩ : ∃ n, n = d.nx.length := ⟨_, rfl⟩
  obtain ⟨n2, hn2⟩ : ∃ n, n = d.mr.length := ⟨_, rfl⟩
  rw [← hn0] at H0 ⊢
  rw [← hn1] at H1 ⊢
  rw [← hn2] at H2 ⊢
  have HN0 := Lib.hid hn0
  have HN1 := Lib.hid hn1
  have HN2 := Lib.hid hn2
  clear hn0 hn1 hn2
  go_enter Tryz.func14, Tryz.ntmps14
  go_wp2
  refine wp_named ?_
  intro V hV
  have HB1 : Hid (Blk V w.heap.size #[.slice a0 n0 c0, .slice a1 n1 c1, .slice a2 n2 c2] 25) := by rw [hV]; exact (Blk.new w _ _).alloc _
  have HB2 : Hid (Blk V (w.heap.size + 1) #[.slice none 0 0, .slice none 0 0, .slice none 0 0] 25) := by rw [hV]; exact (Blk.new (w.alloc _) _ _).at (by simp)
  have HX : Hid (Below w.heap.size w V) := by rw [hV]; exact (((Ext.refl w).alloc _).alloc _).below
  have HS : Hid (w.heap.size + 2 ≤ V.heap.size) := by rw [hV]; exact Lib.hid (by simp)
  clear hV
  refine wp_region_reg false (fun _ => False) (by kernel_rfl) 8 [0, 1, 3, 0, 8, 31, 0, 64, 255, 511, 1023] (fun i => i == 2 || i == 5 || i == 8 || i == 10) (by kernel_rfl) (fun i => if i = 2 then Eff.row (w.heap.size + 2) 33 4 d.cl.length (flatS d.cl) else if i = 5 then Eff.oll (w.heap.size + 2) d.nx else Eff.any _) ?_
  intro C hC hne
  have HC := Lib.hid hC
  have f0 := regCell hC (p := ⟨w.heap.size, 0, none⟩) (by have := HB1.out.lt; exact this) (fun h => h) (HB1.out.cell 0)
  have f1 := regCell hC (p := ⟨w.heap.size, 1, none⟩) (by have := HB1.out.lt; exact this) (fun h => h) (HB1.out.cell 1)
  have f2 := regCell hC (p := ⟨w.heap.size, 2, none⟩) (by have := HB1.out.lt; exact this) (fun h => h) (HB1.out.cell 2)
  clear hC
  repeat (refine regStep (fun K hK => ?_); first | (refine regN rfl ?_; try go_simp; refine hK _ _ ?_; clear hK K) | (refine regF rfl rfl ?_; unfold floatAt; go_simp; refine hK _ _ ?_; clear hK K))
  refine regStep (fun K hK => ?_)
  refine regE rfl rfl (Eff.row (w.heap.size + 2) 33 4 d.cl.length (flatS d.cl)) rfl (fun W hW hN => ?_) (fun v hv => ?_)
  · have hM := (HC.out W).1 hW
    clear hW
    go_simp
    refine effT_call ((cloneSets_any _ d.cl _ ⟨(H0.out.1.below HX.out).below hM.below, H0.out.2⟩ SM.out.cl).mono ?_)
    rintro e w2 ⟨vp, rfl, ho, hx⟩
    exact ⟨_, rfl, Move.of_below hx, ownsRow_form ho, ownsRow_base ho (Nat.le_trans HS.out hM.size)⟩
  obtain ⟨a3, c3, rfl⟩ := hv
  go_simp
  refine hK _ _ ?_
  clear hK K
  repeat (refine regStep (fun K hK => ?_); first | (refine regN rfl ?_; try go_simp; refine hK _ _ ?_; clear hK K) | (refine regF rfl rfl ?_; unfold floatAt; go_simp; refine hK _ _ ?_; clear hK K))
  refine regStep (fun K hK => ?_)
  refine regE rfl rfl (Eff.oll (w.heap.size + 2) d.nx) rfl (fun W hW hN => ?_) (fun v hv => ?_)
  · have hM := (HC.out W).1 hW
    clear hW
    go_simp
    refine effT_call ((listsE_any _ d.nx _ ((H1.out.below HX.out).below hM.below) SM.out.nx SM.out.nxs).mono ?_)
    rintro e w2 ⟨vp, rfl, ho, hx⟩
    exact ⟨_, rfl, Move.of_below hx, ho.form, ho.base (Nat.le_trans HS.out hM.size)⟩
  obtain ⟨a4, c4, rfl⟩ := hv
  go_simp
  refine hK _ _ ?_
  clear hK K
  repeat (refine regStep (fun K hK => ?_); first | (refine regN rfl ?_; try go_simp; refine hK _ _ ?_; clear hK K) | (refine regF rfl rfl ?_; unfold floatAt; go_simp; refine hK _ _ ?_; clear hK K))
  refine regNil (fun W hW hH => ?_)
  have hM := (HC.out W).1 hW
  have R0 : Hid (W.ownsRow (w.heap.size + 2) 33 4 (.slice a3 d.cl.length c3) d.cl.length (flatS d.cl)) := Lib.hid (hH _ (List.mem_of_getElem? (show _ = some _ from rfl : _[1]? = some _)))
  have R1 : Hid (OwnLL (w.heap.size + 2) W (.slice a4 d.nx.length c4) d.nx) := Lib.hid (hH _ (List.mem_of_getElem? (show _ = some _ from rfl : _[0]? = some _)))
  have XB1 := Lib.hid (HB1.out.below hM.below HB1.out.lt)
  have XB2 := Lib.hid (HB2.out.below hM.below HB2.out.lt)
  have XX := Lib.hid (HX.out.trans (hM.below.mono HX.out.size))
  have XS := Lib.hid (Nat.le_trans HS.out hM.size)
  clear hM hW hH f0 f1 f2 HC HB1 HB2 HX
  go_wp2_with fail
  refine (listsE_any _ d.mr _ (H2.out.below XX.out) SM.out.mr SM.out.mks).mono ?_
  rintro e w2 ⟨vp, rfl, ho, hx⟩
  obtain ⟨a5, c5, rfl⟩ := ho.form
  have R0' := Lib.hid (ownsRow_below R0.out hx)
  have R1' := Lib.hid (R1.out.below hx)
  have R2' := Lib.hid (ho.base XS.out)
  have YB2 := Lib.hid (XB2.out.below hx XB2.out.lt)
  have YX := Lib.hid (XX.out.trans (hx.mono XX.out.size))
  clear ho hx R0 R1 XB1 XB2 XX
  obtain ⟨⟨k0, k1, k2⟩, z0, z1, z2⟩ := YB2.out.three
  go_wp2
  obtain ⟨W9, hW9⟩ : ∃ W9, W9 = (((w2.setCell ⟨w.heap.size + 1, 0, none⟩ (.slice a3 d.cl.length c3)).setCell ⟨w.heap.size + 1, 1, none⟩ (.slice a4 d.nx.length c4)).setCell ⟨w.heap.size + 1, 2, none⟩ (.slice a5 d.mr.length c5)) := ⟨_, rfl⟩
  have E : Hid (Blk W9 (w.heap.size + 1) #[.slice a3 d.cl.length c3, .slice a4 d.nx.length c4, .slice a5 d.mr.length c5] 25) := by rw [hW9]; exact YB2.out.set3
  have K9 : Hid (Keeps (fun x => x < w2.heap.size ∧ x ≠ w.heap.size + 1) w2 W9) := by rw [hW9]; exact (((Keeps.refl _ _).setCell (p := ⟨w.heap.size + 1, 0, none⟩) (fun h => h.2 rfl) _).setCell (p := ⟨w.heap.size + 1, 1, none⟩) (fun h => h.2 rfl) _).setCell (p := ⟨w.heap.size + 1, 2, none⟩) (fun h => h.2 rfl) _
  rw [← hW9]
  clear hW9 k0 k1 k2 z0 z1 z2
  obtain ⟨⟨m0, m1, m2⟩, _⟩ := E.out.three
  refine bodyPost_ret (v := .agg #[.slice a3 d.cl.length c3, .slice a4 d.nx.length c4, .slice a5 d.mr.length c5]) (by simp [results, Tryz.results14, go_sem, m0, m1, m2]) rfl ⟨_, rfl, ?_, ?_⟩
  · refine OwnDf.base (base := w.heap.size + 2) ⟨_, _, _, rfl, ?_, ?_, ?_⟩ (by omega)
    · exact ownsRow_keepsB R0'.out K9.out fun k h1 h2 => ⟨h2, by omega⟩
    · exact R1'.out.keeps K9.out fun k h1 h2 => ⟨h2, by omega⟩
    · exact R2'.out.keeps K9.out fun k h1 h2 => ⟨h2, by omega⟩
  · exact YX.out.trans ((K9.out.mono fun k hk => ⟨Nat.lt_of_lt_of_le hk YX.out.size, by have : k < w.heap.size := hk; omega⟩ : Keeps (· < w.heap.size) w2 W9).below)
end Go.Proofs.YtiegfnmpknmbmaaGreat
