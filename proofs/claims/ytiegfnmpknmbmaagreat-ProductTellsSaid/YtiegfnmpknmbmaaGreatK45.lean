/-
  The law's tells.
-/
import Derived.Test.YtiegfnmpknmbmaaGreatK42
import Derived.Test.YtiegfnmpknmbmaaGreatK43
import Derived.Test.YtiegfnmpknmbmaaGreatK39
import Derived.Test.YtiegfnmpknmbmaaGreatK44
import Derived.Test.YtiegfnmpknmbmaaGreatK40
import Derived.Test.YtiegfnmpknmbmaaGreatK35
namespace Go.Proofs.YtiegfnmpknmbmaaGreat
open Go Go.RowKit Go.Shelf Go.Maps
attribute [local go_sem] encS

def Eff.dfE (base : Nat) (d : DF) : Eff (Move false (fun _ => False)) where
  P := fun v => ∃ a0 c0 a1 c1 a2 c2, v = .agg #[.slice a0 d.cl.length c0, .slice a1 d.nx.length c1, .slice a2 d.mr.length c2]
  H := fun v W => OwnDf base W v d
  wit := .agg #[.slice none d.cl.length 0, .slice none d.nx.length 0, .slice none d.mr.length 0]
  pw := ⟨none, 0, none, 0, none, 0, rfl⟩
  st := fun _ _ _ hm _ h => h.below hm.below
def Eff.rfE (base : Nat) (d : DF) : Eff (Move false (fun _ => False)) where
  P := fun v => ∃ a0 c0 a1 c1 a2 c2, v = .agg #[.slice a0 d.cl.length c0, .slice a1 d.nx.length c1, .slice a2 d.mr.length c2]
  H := fun v W => OwnRf base W v d
  wit := .agg #[.slice none d.cl.length 0, .slice none d.nx.length 0, .slice none d.mr.length 0]
  pw := ⟨none, 0, none, 0, none, 0, rfl⟩
  st := fun _ _ _ hm _ h => h.below hm.below
def Eff.isRf (d : DF) : Eff (Move false (fun _ => False)) where
  P := fun _ => True
  H := fun v W => IsRf W v d
  wit := undef
  pw := trivial
  st := fun _ _ _ hm _ h => h.below hm.below
def Eff.boxE (base : Nat) (cs : Array Value) (t : TypeId) : Eff (Move false (fun _ => False)) where
  P := fun v => ∃ b, v = .pointer (some ⟨b, 0, none⟩)
  H := fun v W => ∀ b, v = .pointer (some ⟨b, 0, none⟩) → base ≤ b ∧ Blk W b cs t
  wit := .pointer (some ⟨0, 0, none⟩)
  pw := ⟨0, rfl⟩
  st := fun _ _ _ hm _ h b hb => ⟨(h b hb).1, (h b hb).2.below hm.below (h b hb).2.lt⟩
theorem firstR_lt {d : DF} (h : Rt d) : ∀ c ∈ (firstR d).getD [], c < 256 := fun c hc => by
  unfold firstR at hc
  split at hc
  · cases hc
  · rename_i hne
    have hlo := far_lo h (s := 0) (by have := h.pos; omega)
    have h2 := desc_at h (by omega) (farAt d 0).toNat (by omega)
    exact h2.2.2.2 c hc
theorem firstR_len {d : DF} (h : Rt d) : ((firstR d).getD []).length ≤ 4000 := by
  unfold firstR
  split
  · exact Nat.zero_le _
  · rename_i hne
    have hlo := far_lo h (s := 0) (by have := h.pos; omega)
    have h2 := desc_at h (by omega) (farAt d 0).toNat (by omega)
    show (descTo d (farAt d 0).toNat).2.length ≤ 4000
    rw [h2.2.2.1]
    have := h.le
    omega
theorem notOf_right {d : DF} (h : Rt d) : Rt (notOf d) ∧ Sm (notOf d) := by
  have hl : (notOf d).mr.length = d.mr.length := by simp [notOf]
  have key : Rt (notOf d) := by
    refine (right_iff _).1 ?_
    have h5 := (right_iff d).2 h
    unfold DF.right at h5 ⊢
    rw [hl]
    simp only [Bool.and_eq_true] at h5 ⊢
    refine ⟨h5.1, ?_⟩
    have h6 := h5.2
    rw [List.all_eq_true] at h6 ⊢
    intro s hs
    have h7 := h6 s hs
    unfold DF.rowB at h7 ⊢
    simp only [Bool.and_eq_true] at h7 ⊢
    refine ⟨h7.1, ?_⟩
    show risB ((d.mr.map fun m => if m.isEmpty then [0] else []).getD s []) = true
    rw [List.getD_eq_getElem?_getD, List.getElem?_map]
    cases d.mr[s]? with
    | none => rfl
    | some m =>
      show risB (if m.isEmpty then [0] else []) = true
      split
      · exact risB_zero
      · rfl
  exact ⟨key, key.sm⟩
set_option maxRecDepth 100000 in
set_option maxHeartbeats 8000000 in
theorem tells_any (v : Value) (d : DF) (sm : Sm d) (n most : Int) (w : World) (h : IsDfe w v d) :
    Calls Tryz.prog 9 #[v, .int .i64 n, .int .i64 most] w fun e w' => e = .returned (.bool true) ∧ Below w.heap.size w w' := by
  have CC : Hid (∀ W, Below w.heap.size w W → Calls Tryz.prog 14 #[v] W fun e w' => ∃ u, e = .returned u ∧ OwnDf W.heap.size w' u d ∧ Below W.heap.size W w') := fun W hW => copyE_any v d W (h.below hW) sm
  have CT : Hid (∀ W, Below w.heap.size w W → Calls Tryz.prog 15 #[v] W fun e w' => ∃ u, e = .returned u ∧ OwnRf W.heap.size w' u d ∧ Below W.heap.size W w') := fun W hW => theirsOE_any v d W (h.below hW) sm
  have SM := Lib.hid sm
  obtain ⟨v0, v1, v2, rfl, h0, h1, h2⟩ := h
  obtain ⟨n0, hn0⟩ : ∃ n, n = d.cl.length := ⟨_, rfl⟩
  obtain ⟨n1, hn1⟩ : ∃ n, n = d.nx.length := ⟨_, rfl⟩
  obtain ⟨n2, hn2⟩ : ∃ n, n = d.mr.length := ⟨_, rfl⟩
  have HN0 := Lib.hid hn0
  have HN1 := Lib.hid hn1
  have HN2 := Lib.hid hn2
  clear h0 h1 h2 sm hn0 hn1 hn2
  go_enter Tryz.func9, Tryz.ntmps9
  go_wp2
  refine wp_named ?_
  intro V hV
  have B3 : Hid (Blk V w.heap.size #[v0, v1, v2] 25) := by rw [hV]; exact Blk.new w _ _
  have X1 : Hid (Below w.heap.size w V) := by rw [hV]; exact ((Ext.refl w).alloc _).below
  clear hV
  have hwV : w.heap.size < V.heap.size := B3.out.lt
  refine wp_region_reg false (fun _ => False) (by kernel_rfl) 6 [0, 1, 0, 7, 0, 0, 63, 127] (fun i => i == 1 || i == 3 || i == 4 || i == 5 || i == 6 || i == 7) (by kernel_rfl) (fun i => if i = 1 then Eff.dfE V.heap.size d else if i = 3 then Eff.rfE V.heap.size d else if i = 4 then Eff.boxE V.heap.size #[.slice none 0 0, .slice none 0 0, .slice none 0 0] 25 else if i = 5 then Eff.boxE V.heap.size #[.slice none 0 0, .slice none 0 0, .slice none 0 0] 42 else Eff.any _) ?_
  intro C hC hne
  have HC := Lib.hid hC
  have f0 := regCell hC (p := ⟨w.heap.size, 0, none⟩) hwV (fun h => h) (B3.out.cell 0)
  have f1 := regCell hC (p := ⟨w.heap.size, 1, none⟩) hwV (fun h => h) (B3.out.cell 1)
  have f2 := regCell hC (p := ⟨w.heap.size, 2, none⟩) hwV (fun h => h) (B3.out.cell 2)
  simp only [List.getElem?_toArray, List.getElem?_cons_zero, List.getElem?_cons_succ] at f0 f1 f2
  clear hC
  repeat (refine regStep (fun K hK => ?_); first | (refine regN rfl ?_; try go_simp; refine hK _ _ ?_; clear hK K) | (refine regF rfl rfl ?_; unfold floatAt; go_simp; refine hK _ _ ?_; clear hK K))
  refine regStep (fun K hK => ?_)
  refine regE rfl rfl (Eff.dfE V.heap.size d) rfl (fun W hW hN => ?_) (fun v hv => ?_)
  · have hM := (HC.out W).1 hW
    clear hW
    go_simp
    refine effT_call ((CC.out _ (X1.out.trans (hM.below.mono X1.out.size))).mono ?_)
    rintro e w2 ⟨u, rfl, ho, hx⟩
    exact ⟨_, rfl, Move.of_below hx, ho.form, ho.base hM.size⟩
  obtain ⟨pa0, pc0, pa1, pc1, pa2, pc2, rfl⟩ := hv
  go_simp
  refine hK _ _ ?_
  clear hK K
  repeat (refine regStep (fun K hK => ?_); first | (refine regN rfl ?_; try go_simp; refine hK _ _ ?_; clear hK K) | (refine regF rfl rfl ?_; unfold floatAt; go_simp; refine hK _ _ ?_; clear hK K))
  refine regStep (fun K hK => ?_)
  refine regE rfl rfl (Eff.rfE V.heap.size d) rfl (fun W hW hN => ?_) (fun v hv => ?_)
  · have hM := (HC.out W).1 hW
    clear hW
    go_simp
    refine effT_call ((CT.out _ (X1.out.trans (hM.below.mono X1.out.size))).mono ?_)
    rintro e w2 ⟨u, rfl, ho, hx⟩
    exact ⟨_, rfl, Move.of_below hx, ho.form, ho.base hM.size⟩
  obtain ⟨xa0, xc0, xa1, xc1, xa2, xc2, rfl⟩ := hv
  go_simp
  refine hK _ _ ?_
  clear hK K
  refine regStep (fun K hK => ?_)
  refine regE rfl rfl (Eff.boxE V.heap.size #[.slice none 0 0, .slice none 0 0, .slice none 0 0] 25) rfl (fun W hW hN => ?_) (fun v hv => ?_)
  · have hM := (HC.out W).1 hW
    have hsW := hM.size
    clear hW hN hK K
    go_simp
    exact ⟨Move.ext ((Ext.refl _).alloc _), ⟨_, rfl⟩, fun b hb => by cases hb; exact ⟨hsW, Blk.new _ _ _⟩⟩
  obtain ⟨b7, rfl⟩ := hv
  go_simp
  refine hK _ _ ?_
  clear hK K
  refine regStep (fun K hK => ?_)
  refine regE rfl rfl (Eff.boxE V.heap.size #[.slice none 0 0, .slice none 0 0, .slice none 0 0] 42) rfl (fun W hW hN => ?_) (fun v hv => ?_)
  · have hM := (HC.out W).1 hW
    have hsW := hM.size
    clear hW hN hK K
    go_simp
    exact ⟨Move.ext ((Ext.refl _).alloc _), ⟨_, rfl⟩, fun b hb => by cases hb; exact ⟨hsW, Blk.new _ _ _⟩⟩
  obtain ⟨b8, rfl⟩ := hv
  go_simp
  refine hK _ _ ?_
  clear hK K
  refine regNil (fun W hW hH => ?_)
  have hM := (HC.out W).1 hW
  have B8 : Hid (V.heap.size ≤ b8 ∧ Blk W b8 #[.slice none 0 0, .slice none 0 0, .slice none 0 0] 42) := Lib.hid (hH _ (List.mem_of_getElem? (show _ = some _ from rfl : _[0]? = some _)) b8 rfl)
  have B7 : Hid (V.heap.size ≤ b7 ∧ Blk W b7 #[.slice none 0 0, .slice none 0 0, .slice none 0 0] 25) := Lib.hid (hH _ (List.mem_of_getElem? (show _ = some _ from rfl : _[1]? = some _)) b7 rfl)
  have RX : Hid (OwnRf V.heap.size W (.agg #[.slice xa0 d.cl.length xc0, .slice xa1 d.nx.length xc1, .slice xa2 d.mr.length xc2]) d) := Lib.hid (hH _ (List.mem_of_getElem? (show _ = some _ from rfl : _[2]? = some _)))
  have OP : Hid (OwnDf V.heap.size W (.agg #[.slice pa0 d.cl.length pc0, .slice pa1 d.nx.length pc1, .slice pa2 d.mr.length pc2]) d) := Lib.hid (hH _ (List.mem_of_getElem? (show _ = some _ from rfl : _[3]? = some _)))
  have XW := Lib.hid (X1.out.trans (hM.below.mono X1.out.size))
  have hsW : V.heap.size ≤ W.heap.size := hM.size
  clear hM hW hH HC f0 f1 f2 hne B3 X1 CC CT
  rw [← HN0.out, ← HN1.out, ← HN2.out] at OP RX ⊢
  have h78 : b7 ≠ b8 := blk_ne B7.out.2 B8.out.2 (by decide)
  have hb7 := B7.out.1
  have hb8 := B8.out.1
  obtain ⟨⟨k0, k1, k2⟩, z0, z1, z2⟩ := B7.out.2.three
  obtain ⟨⟨l0, l1, l2⟩, y0, y1, y2⟩ := B8.out.2.three
  go_wp2_with fail
  refine calls_named ?_
  intro V2 hV2
  obtain ⟨W1, hW1⟩ : ∃ W1, W1 = (((W.setCell ⟨b7, 0, none⟩ (.slice pa0 n0 pc0)).setCell ⟨b7, 1, none⟩ (.slice pa1 n1 pc1)).setCell ⟨b7, 2, none⟩ (.slice pa2 n2 pc2)) := ⟨_, rfl⟩
  have k71 : Keeps (· ≠ b7) W W1 := by rw [hW1]; exact (((Keeps.refl _ _).setCell (p := ⟨b7, 0, none⟩) (fun h => h rfl) _).setCell (p := ⟨b7, 1, none⟩) (fun h => h rfl) _).setCell (p := ⟨b7, 2, none⟩) (fun h => h rfl) _
  have B71 : Blk W1 b7 #[.slice pa0 n0 pc0, .slice pa1 n1 pc1, .slice pa2 n2 pc2] 25 := by rw [hW1]; exact B7.out.2.set3
  have B81 := B8.out.2.keeps k71 (fun e => h78 e.symm)
  have k82 : Keeps (· ≠ b8) W1 V2 := by rw [hV2, ← hW1]; exact (((Keeps.refl _ _).setCell (p := ⟨b8, 0, none⟩) (fun h => h rfl) _).setCell (p := ⟨b8, 1, none⟩) (fun h => h rfl) _).setCell (p := ⟨b8, 2, none⟩) (fun h => h rfl) _
  have C8 : Hid (Blk V2 b8 #[.slice xa0 n0 xc0, .slice xa1 n1 xc1, .slice xa2 n2 xc2] 42) := Lib.hid (by rw [hV2, ← hW1]; exact B81.set3)
  have C7 := Lib.hid (B71.keeps k82 h78)
  have P2 := Lib.hid ((OP.out.past B7.out.2 (by decide) (by decide) (by decide) k71).past B81 (by decide) (by decide) (by decide) k82)
  have R2 := Lib.hid ((RX.out.past B7.out.2 (by decide) (by decide) (by decide) k71).past B81 (by decide) (by decide) (by decide) k82)
  have X2 : Hid (Below w.heap.size w V2) := Lib.hid (XW.out.trans (((k71.mono fun x hx => by have : x < w.heap.size := hx; omega).tr (k82.mono fun x hx => by have : x < w.heap.size := hx; omega) : Keeps (· < w.heap.size) W V2).below))
  clear hV2 hW1 k71 B71 B81 k82 B7 B8 OP RX XW k0 k1 k2 z0 z1 z2 l0 l1 l2 y0 y1 y2
  have hE : firstE d = if d.right then ((firstR d).getD [], (firstR d).isSome, 0) else ([], false, 182) := rfl
  have hE2 : countE d n most = if d.right then countR d n most else (0, 182) := rfl
  have CR : Hid (∀ W u, IsRf W u d → Calls Tryz.prog 30 #[u] W fun e w' => e = .returned (.bool d.right) ∧ Below W.heap.size W w') := Lib.hid fun W u h => refRight_any u d W h SM.out
  cases hr : d.right with
  | false =>
    have CN : Hid (∀ W u, IsDf W u d → Calls Tryz.prog 27 #[u] W fun e w' => ∃ v', e = .returned (.tuple #[v', .int .i64 182]) ∧ OwnDf W.heap.size w' v' dfZ ∧ Below W.heap.size W w') := Lib.hid fun W u h => by
      have := pnot_any u d SM.out W h
      rw [hr] at this
      exact this
    have CE : Hid (∀ W u, IsDf W u d → Calls Tryz.prog 29 #[u] W fun e w' => e = .returned (.tuple #[.bool false, .int .i64 182]) ∧ Below W.heap.size W w') := Lib.hid fun W u h => by
      have := pempty_any u d SM.out W h
      rw [hE, hr] at this
      exact this
    have CF : Hid (∀ W u, IsDf W u d → Calls Tryz.prog 26 #[u] W fun e w' => ∃ u, e = .returned (.tuple #[u, .bool false, .int .i64 182]) ∧ w'.ownsRow W.heap.size 5 1 u 0 [] ∧ Below W.heap.size W w') := Lib.hid fun W u h => by
      have := pfirst_any u d SM.out W h
      rw [hE, hr] at this
      exact this
    have CO : Hid (∀ W u, IsDf W u d → Calls Tryz.prog 28 #[u, .int .i64 n, .int .i64 most] W fun e w' => e = .returned (.tuple #[.int .i64 0, .int .i64 182]) ∧ Below W.heap.size W w') := Lib.hid fun W u h => by
      have := pcount_any u d SM.out n most W h
      rw [hE2, hr] at this
      exact this
    rw [hr] at CR
    have CS : Hid (∀ W u u', IsDf W u dfZ → IsRf W u' dfZ → Calls Tryz.prog 16 #[u, u'] W fun e w' => e = .returned (.bool true) ∧ Below W.heap.size W w') := Lib.hid fun W u u' h h' => sameD_any u u' dfZ W h h' dfZ_sm
    have RZ : Hid (∀ W, IsRf W (.agg #[.slice none 0 0, .slice none 0 0, .slice none 0 0]) dfZ) := Lib.hid fun W => ⟨_, _, _, rfl, .inl ⟨rfl, rfl⟩, IsLL.nil _, IsLL.nil _⟩
    clear hr hE hE2
    refine (CN.out V2 _ P2.out.df).mono ?_
    rintro e w3 ⟨u3, rfl, hno, hx⟩
    have ND := Lib.hid hno
    obtain ⟨na0, nc0, na1, nc1, na2, nc2, rfl⟩ := hno.form
    have C73 := Lib.hid (C7.out.below hx C7.out.lt)
    have C83 := Lib.hid (C8.out.below hx C8.out.lt)
    have P3 := Lib.hid (P2.out.below hx)
    have R3 := Lib.hid (R2.out.below hx)
    have X3 := Lib.hid (X2.out.trans (hx.mono X2.out.size))
    clear hno hx C7 C8 P2 R2 X2 CN
    obtain ⟨⟨k0, k1, k2⟩, _⟩ := C73.out.three
    have k0' : ∀ o, (w3.alloc o).cell? ⟨b7, 0, none⟩ = some (.slice pa0 n0 pc0) := fun o => ((C73.out.alloc o).three).1.1
    have k1' : ∀ o, (w3.alloc o).cell? ⟨b7, 1, none⟩ = some (.slice pa1 n1 pc1) := fun o => ((C73.out.alloc o).three).1.2.1
    have k2' : ∀ o, (w3.alloc o).cell? ⟨b7, 2, none⟩ = some (.slice pa2 n2 pc2) := fun o => ((C73.out.alloc o).three).1.2.2
    go_wp2_with fail
    refine calls_named ?_
    intro V4 hV4
    have C94 : Hid (Blk V4 w3.heap.size #[.slice na0 dfZ.cl.length nc0, .slice na1 dfZ.nx.length nc1, .slice na2 dfZ.mr.length nc2] 25) := Lib.hid (by rw [hV4]; exact Blk.new _ _ _)
    have hb : Below w3.heap.size w3 V4 := by rw [hV4]; exact ((Ext.refl w3).alloc _).below
    have C74 := Lib.hid (C73.out.below hb C73.out.lt)
    have C84 := Lib.hid (C83.out.below hb C83.out.lt)
    have P4 := Lib.hid (P3.out.below hb)
    have R4 := Lib.hid (R3.out.below hb)
    have N4 := Lib.hid (ND.out.below hb)
    have X4 := Lib.hid (X3.out.trans (hb.mono X3.out.size))
    clear hb hV4 k0 k1 k2 k0' k1' k2' C73 C83 P3 R3 ND X3
    refine (CE.out V4 _ P4.out.df).mono ?_
    rintro e w5 ⟨rfl, hx⟩
    have C75 := Lib.hid (C74.out.below hx C74.out.lt)
    have C85 := Lib.hid (C84.out.below hx C84.out.lt)
    have C95 := Lib.hid (C94.out.below hx C94.out.lt)
    have P5 := Lib.hid (P4.out.below hx)
    have R5 := Lib.hid (R4.out.below hx)
    have N5 := Lib.hid (N4.out.below hx)
    have X5 := Lib.hid (X4.out.trans (hx.mono X4.out.size))
    clear hx C74 C84 C94 P4 R4 N4 X4
    obtain ⟨⟨k0, k1, k2⟩, _⟩ := C75.out.three
    go_wp2_with fail
    refine (CF.out w5 _ P5.out.df).mono ?_
    rintro e w6 ⟨us, rfl, hr6, hx⟩
    obtain ⟨ua, uc, rfl⟩ := ownsRow_form hr6
    clear hr6
    have C76 := Lib.hid (C75.out.below hx C75.out.lt)
    have C86 := Lib.hid (C85.out.below hx C85.out.lt)
    have C96 := Lib.hid (C95.out.below hx C95.out.lt)
    have P6 := Lib.hid (P5.out.below hx)
    have R6 := Lib.hid (R5.out.below hx)
    have N6 := Lib.hid (N5.out.below hx)
    have X6 := Lib.hid (X5.out.trans (hx.mono X5.out.size))
    clear hx C75 C85 C95 P5 R5 N5 X5 k0 k1 k2
    obtain ⟨⟨k0, k1, k2⟩, _⟩ := C76.out.three
    go_wp2_with fail
    refine (CO.out w6 _ P6.out.df).mono ?_
    rintro e w7 ⟨rfl, hx⟩
    have C77 := Lib.hid (C76.out.below hx C76.out.lt)
    have C87 := Lib.hid (C86.out.below hx C86.out.lt)
    have C97 := Lib.hid (C96.out.below hx C96.out.lt)
    have P7 := Lib.hid (P6.out.below hx)
    have R7 := Lib.hid (R6.out.below hx)
    have N7 := Lib.hid (N6.out.below hx)
    have X7 := Lib.hid (X6.out.trans (hx.mono X6.out.size))
    clear hx C76 C86 C96 P6 R6 N6 X6 k0 k1 k2
    obtain ⟨⟨k0, k1, k2⟩, _⟩ := C87.out.three
    go_wp2_with fail
    refine (CR.out w7 _ R7.out.rf).mono ?_
    rintro e w8 ⟨rfl, hx⟩
    have C78 := Lib.hid (C77.out.below hx C77.out.lt)
    have C88 := Lib.hid (C87.out.below hx C87.out.lt)
    have C98 := Lib.hid (C97.out.below hx C97.out.lt)
    have P8 := Lib.hid (P7.out.below hx)
    have R8 := Lib.hid (R7.out.below hx)
    have N8 := Lib.hid (N7.out.below hx)
    have X8 := Lib.hid (X7.out.trans (hx.mono X7.out.size))
    clear hx C77 C87 C97 P7 R7 N7 X7 k0 k1 k2
    obtain ⟨⟨k0, k1, k2⟩, _⟩ := C98.out.three
    go_wp2_with fail
    refine (CS.out w8 _ _ N8.out.df (RZ.out w8)).mono ?_
    rintro e w9 ⟨rfl, hx⟩
    have C79 := Lib.hid (C78.out.below hx C78.out.lt)
    have C89 := Lib.hid (C88.out.below hx C88.out.lt)
    have C99 := Lib.hid (C98.out.below hx C98.out.lt)
    have P9 := Lib.hid (P8.out.below hx)
    have R9 := Lib.hid (R8.out.below hx)
    have N9 := Lib.hid (N8.out.below hx)
    have X9 := Lib.hid (X8.out.trans (hx.mono X8.out.size))
    clear hx C78 C88 C98 P8 R8 N8 X8 k0 k1 k2
    go_wp2
    exact bodyPost_ret (v := .bool true) (by simp [results, Tryz.results9, go_sem]) rfl ⟨rfl, X9.out⟩
  | true =>
    have rt := (right_iff d).1 hr
    have hnr := notOf_right rt
    have hfb := firstR_lt rt
    have hfl4 := firstR_len rt
    obtain ⟨fl, hfl⟩ : ∃ l, l = (firstR d).getD [] := ⟨_, rfl⟩
    obtain ⟨fs, hfs⟩ : ∃ b, b = (firstR d).isSome := ⟨_, rfl⟩
    obtain ⟨nd, hnd⟩ : ∃ x, x = notOf d := ⟨_, rfl⟩
    obtain ⟨cm, hcm⟩ : ∃ x, x = (countR d n most).1 := ⟨_, rfl⟩
    obtain ⟨ce, hce⟩ : ∃ x, x = (countR d n most).2 := ⟨_, rfl⟩
    have CN : Hid (∀ W u, IsDf W u d → Calls Tryz.prog 27 #[u] W fun e w' => ∃ v', e = .returned (.tuple #[v', .int .i64 0]) ∧ OwnDf W.heap.size w' v' nd ∧ Below W.heap.size W w') := Lib.hid fun W u h => by
      have := pnot_any u d SM.out W h
      rw [hr, ← hnd] at this
      exact this
    have CE : Hid (∀ W u, IsDf W u d → Calls Tryz.prog 29 #[u] W fun e w' => e = .returned (.tuple #[.bool (!fs), .int .i64 0]) ∧ Below W.heap.size W w') := Lib.hid fun W u h => by
      have := pempty_any u d SM.out W h
      rw [hE, hr, ← hfs] at this
      exact this
    have CF : Hid (∀ W u, IsDf W u d → Calls Tryz.prog 26 #[u] W fun e w' => ∃ u, e = .returned (.tuple #[u, .bool fs, .int .i64 0]) ∧ w'.ownsRow W.heap.size 5 1 u fl.length (fl.map encB) ∧ Below W.heap.size W w') := Lib.hid fun W u h => by
      have := pfirst_any u d SM.out W h
      rw [hE, hr, ← hfs, ← hfl] at this
      exact this
    have CO : Hid (∀ W u, IsDf W u d → Calls Tryz.prog 28 #[u, .int .i64 n, .int .i64 most] W fun e w' => e = .returned (.tuple #[.int .i64 cm, .int .i64 ce]) ∧ Below W.heap.size W w') := Lib.hid fun W u h => by
      have := pcount_any u d SM.out n most W h
      rw [hE2, hr] at this
      rw [hcm, hce]
      exact this
    rw [hr] at CR
    have CG : Hid (∀ W u, IsRf W u d → Calls Tryz.prog 31 #[u] W fun e w' => ∃ u, e = .returned (.tuple #[u, .bool fs]) ∧ w'.ownsRow W.heap.size 5 1 u fl.length (fl.map encB) ∧ Below W.heap.size W w') := Lib.hid fun W u h => by
      have := rfirst_any u d rt W h
      rw [← hfs, ← hfl] at this
      exact this
    have CH : Hid (∀ W u, IsRf W u d → Calls Tryz.prog 32 #[u, .int .i64 n, .int .i64 most] W fun e w' => e = .returned (.tuple #[.int .i64 cm, .int .i64 ce]) ∧ Below W.heap.size W w') := Lib.hid fun W u h => by
      have := rCount_any u d rt n most W h
      rw [hcm, hce]
      exact this
    have CM : Hid (∀ W u, IsRf W u d → Calls Tryz.prog 33 #[u] W fun e w' => ∃ u, e = .returned u ∧ IsRf w' u nd ∧ Below W.heap.size W w') := Lib.hid fun W u h => by
      have := rnot_any u d (by have := rt.mr; have := rt.le; omega) W h
      rw [← hnd] at this
      exact this
    rw [← hnd] at hnr
    have CS : Hid (∀ W u u', IsDf W u nd → IsRf W u' nd → Calls Tryz.prog 16 #[u, u'] W fun e w' => e = .returned (.bool true) ∧ Below W.heap.size W w') := Lib.hid fun W u u' h h' => sameD_any u u' nd W h h' hnr.2
    have CS2 : Hid (∀ W u u', IsDf W u d → IsRf W u' d → Calls Tryz.prog 16 #[u, u'] W fun e w' => e = .returned (.bool true) ∧ Below W.heap.size W w') := Lib.hid fun W u u' h h' => sameD_any u u' d W h h' SM.out
    have CB : Hid (∀ W u u', IsSl encB W u fl → IsSl encB W u' fl → Calls Tryz.prog 22 #[u, u'] W fun e w' => e = .returned (.bool true) ∧ w' = W) := Lib.hid fun W u u' h h' => by
      rw [← hfl] at hfb
      have := bytesEq_any u u' fl fl W h h' hfb hfb
      rwa [beq_self_eq_true] at this
    have CP : Hid (∀ (base : Nat) (u : Value) (W0 W : World), OwnDf base W0 u nd → Keeps (fun x => base ≤ x ∧ x < W0.heap.size) W0 W → W0.heap.size ≤ W.heap.size → Calls Tryz.prog 23 #[u] W fun e w' => (∃ u, e = .returned u) ∧ Keeps (fun x => x < W.heap.size ∧ (x < base ∨ W0.heap.size ≤ x)) W w') := Lib.hid fun base u W0 W h hk hs => spoil2_any base u nd W0 W h hk hs hnr.2
    rw [← hfl] at hfl4
    clear hr hE hE2 rt hnr hfb hfl hfs hnd hcm hce SM
    obtain ⟨fL, hfL⟩ : ∃ k, k = fl.length := ⟨_, rfl⟩
    rw [← hfL] at CF CG hfl4
    have HFL := Lib.hid hfL
    clear hfL
    refine (CN.out V2 _ P2.out.df).mono ?_
    rintro e w3 ⟨u3, rfl, hno, hx⟩
    have ND := Lib.hid hno
    obtain ⟨na0, nc0, na1, nc1, na2, nc2, rfl⟩ := hno.form
    obtain ⟨m0, hm0⟩ : ∃ k, k = nd.cl.length := ⟨_, rfl⟩
    obtain ⟨m1, hm1⟩ : ∃ k, k = nd.nx.length := ⟨_, rfl⟩
    obtain ⟨m2, hm2⟩ : ∃ k, k = nd.mr.length := ⟨_, rfl⟩
    rw [← hm0, ← hm1, ← hm2] at ND ⊢
    have C73 := Lib.hid (C7.out.below hx C7.out.lt)
    have C83 := Lib.hid (C8.out.below hx C8.out.lt)
    have P3 := Lib.hid (P2.out.below hx)
    have R3 := Lib.hid (R2.out.below hx)
    have K3 := Lib.hid hx
    have hs23 : V2.heap.size ≤ w3.heap.size := hx.size
    have hb72 : b7 < V2.heap.size := C7.out.lt
    have hb82 : b8 < V2.heap.size := C8.out.lt
    clear hno hx CN hm0 hm1 hm2
    obtain ⟨⟨k0, k1, k2⟩, _⟩ := C73.out.three
    have k0' : ∀ o, (w3.alloc o).cell? ⟨b7, 0, none⟩ = some (.slice pa0 n0 pc0) := fun o => ((C73.out.alloc o).three).1.1
    have k1' : ∀ o, (w3.alloc o).cell? ⟨b7, 1, none⟩ = some (.slice pa1 n1 pc1) := fun o => ((C73.out.alloc o).three).1.2.1
    have k2' : ∀ o, (w3.alloc o).cell? ⟨b7, 2, none⟩ = some (.slice pa2 n2 pc2) := fun o => ((C73.out.alloc o).three).1.2.2
    go_wp2_with fail
    refine calls_named ?_
    intro V4 hV4
    have C94 : Hid (Blk V4 w3.heap.size #[.slice na0 m0 nc0, .slice na1 m1 nc1, .slice na2 m2 nc2] 25) := Lib.hid (by rw [hV4]; exact Blk.new _ _ _)
    have hb : Below w3.heap.size w3 V4 := by rw [hV4]; exact ((Ext.refl w3).alloc _).below
    have C74 := Lib.hid (C73.out.below hb C73.out.lt)
    have C84 := Lib.hid (C83.out.below hb C83.out.lt)
    have P4 := Lib.hid (P3.out.below hb)
    have R4 := Lib.hid (R3.out.below hb)
    have N4 := Lib.hid (ND.out.below hb)
    have Z4 := Lib.hid hb
    clear hb hV4 k0 k1 k2 k0' k1' k2' C73 C83 P3 R3
    refine (CE.out V4 _ P4.out.df).mono ?_
    rintro e w5 ⟨rfl, hx⟩
    have C75 := Lib.hid (C74.out.below hx C74.out.lt)
    have C85 := Lib.hid (C84.out.below hx C84.out.lt)
    have C95 := Lib.hid (C94.out.below hx C94.out.lt)
    have P5 := Lib.hid (P4.out.below hx)
    have R5 := Lib.hid (R4.out.below hx)
    have N5 := Lib.hid (N4.out.below hx)
    have Z5 := Lib.hid (Z4.out.trans (hx.mono Z4.out.size))
    clear hx C74 C84 C94 P4 R4 N4 Z4
    have hs35 : w3.heap.size ≤ w5.heap.size := Z5.out.size
    obtain ⟨⟨k0, k1, k2⟩, _⟩ := C75.out.three
    go_wp2_with fail
    refine (CF.out w5 _ P5.out.df).mono ?_
    rintro e w6 ⟨us, rfl, hr6, hx⟩
    obtain ⟨ua, uc, rfl⟩ := ownsRow_form hr6
    have S6 := Lib.hid hr6
    clear hr6
    have C76 := Lib.hid (C75.out.below hx C75.out.lt)
    have C86 := Lib.hid (C85.out.below hx C85.out.lt)
    have C96 := Lib.hid (C95.out.below hx C95.out.lt)
    have P6 := Lib.hid (P5.out.below hx)
    have R6 := Lib.hid (R5.out.below hx)
    have N6 := Lib.hid (N5.out.below hx)
    have Z6 := Lib.hid (Z5.out.trans (hx.mono Z5.out.size))
    clear hx C75 C85 C95 P5 R5 N5 Z5 k0 k1 k2
    obtain ⟨⟨k0, k1, k2⟩, _⟩ := C76.out.three
    go_wp2_with fail
    refine (CO.out w6 _ P6.out.df).mono ?_
    rintro e w7 ⟨rfl, hx⟩
    have C77 := Lib.hid (C76.out.below hx C76.out.lt)
    have C87 := Lib.hid (C86.out.below hx C86.out.lt)
    have C97 := Lib.hid (C96.out.below hx C96.out.lt)
    have P7 := Lib.hid (P6.out.below hx)
    have R7 := Lib.hid (R6.out.below hx)
    have N7 := Lib.hid (N6.out.below hx)
    have Z7 := Lib.hid (Z6.out.trans (hx.mono Z6.out.size))
    have S7 := Lib.hid (ownsRow_below S6.out hx)
    clear hx C76 C86 C96 P6 R6 N6 Z6 S6 k0 k1 k2
    obtain ⟨⟨k0, k1, k2⟩, _⟩ := C87.out.three
    go_wp2_with fail
    refine (CR.out w7 _ R7.out.rf).mono ?_
    rintro e w8 ⟨rfl, hx⟩
    have C78 := Lib.hid (C77.out.below hx C77.out.lt)
    have C88 := Lib.hid (C87.out.below hx C87.out.lt)
    have C98 := Lib.hid (C97.out.below hx C97.out.lt)
    have P8 := Lib.hid (P7.out.below hx)
    have R8 := Lib.hid (R7.out.below hx)
    have N8 := Lib.hid (N7.out.below hx)
    have Z8 := Lib.hid (Z7.out.trans (hx.mono Z7.out.size))
    have S8 := Lib.hid (ownsRow_below S7.out hx)
    clear hx C77 C87 C97 P7 R7 N7 Z7 S7 k0 k1 k2
    obtain ⟨⟨k0, k1, k2⟩, _⟩ := C88.out.three
    go_wp2_with fail
    refine (CG.out w8 _ R8.out.rf).mono ?_
    rintro e w9 ⟨ut, rfl, hr9, hx⟩
    obtain ⟨ta, tc, rfl⟩ := ownsRow_form hr9
    have T9 := Lib.hid hr9
    clear hr9
    have C79 := Lib.hid (C78.out.below hx C78.out.lt)
    have C89 := Lib.hid (C88.out.below hx C88.out.lt)
    have C99 := Lib.hid (C98.out.below hx C98.out.lt)
    have P9 := Lib.hid (P8.out.below hx)
    have R9 := Lib.hid (R8.out.below hx)
    have N9 := Lib.hid (N8.out.below hx)
    have Z9 := Lib.hid (Z8.out.trans (hx.mono Z8.out.size))
    have S9 := Lib.hid (ownsRow_below S8.out hx)
    clear hx C78 C88 C98 P8 R8 N8 Z8 S8 k0 k1 k2
    obtain ⟨⟨k0, k1, k2⟩, _⟩ := C89.out.three
    go_wp2_with fail
    refine (CH.out w9 _ R9.out.rf).mono ?_
    rintro e w10 ⟨rfl, hx⟩
    have T10 := Lib.hid (ownsRow_below T9.out hx)
    have C710 := Lib.hid (C79.out.below hx C79.out.lt)
    have C810 := Lib.hid (C89.out.below hx C89.out.lt)
    have C910 := Lib.hid (C99.out.below hx C99.out.lt)
    have P10 := Lib.hid (P9.out.below hx)
    have R10 := Lib.hid (R9.out.below hx)
    have N10 := Lib.hid (N9.out.below hx)
    have Z10 := Lib.hid (Z9.out.trans (hx.mono Z9.out.size))
    have S10 := Lib.hid (ownsRow_below S9.out hx)
    clear hx C79 C89 C99 P9 R9 N9 Z9 S9 k0 k1 k2
    clear T9 CE CF CO CR CG CH
    have hwz : w3.heap.size < w10.heap.size := C910.out.lt
    cases fs with
    | true =>
      go_wp2
      refine wp_region_reg false (fun _ => False) (by kernel_rfl) 39 [0, 0, 3, 0, 15, 31, 63, 127, 127, 383, 1023, 2047, 4095, 8191, 16383, 16383, 65535, 131071, 262143, 524287, 524287, 2097151, 4194303, 8388607, 16777215, 33554431, 33554431, 134217727, 268435455, 536870911, 1073741823, 1073741823, 4294967295, 8589934591, 17179869183, 34359738367, 34359738367, 137438953471, 274877906943] (fun i => i == 9 || i == 10 || i == 21) (by kernel_rfl) (fun i => if i = 9 then Eff.isRf nd else if i = 10 then Eff.det _ (.bool true) else if i = 21 then Eff.det _ (.bool true) else Eff.any _) ?_
      intro C hC hne
      have HC := Lib.hid hC
      have f80 := regCell hC (p := ⟨b8, 0, none⟩) C810.out.lt (fun h => h) (C810.out.cell 0)
      have f81 := regCell hC (p := ⟨b8, 1, none⟩) C810.out.lt (fun h => h) (C810.out.cell 1)
      have f82 := regCell hC (p := ⟨b8, 2, none⟩) C810.out.lt (fun h => h) (C810.out.cell 2)
      have f90 := regCell hC (p := ⟨w3.heap.size, 0, none⟩) hwz (fun h => h) (C910.out.cell 0)
      have f91 := regCell hC (p := ⟨w3.heap.size, 1, none⟩) hwz (fun h => h) (C910.out.cell 1)
      have f92 := regCell hC (p := ⟨w3.heap.size, 2, none⟩) hwz (fun h => h) (C910.out.cell 2)
      simp only [List.getElem?_toArray, List.getElem?_cons_zero, List.getElem?_cons_succ] at f80 f81 f82 f90 f91 f92
      clear hC
      repeat (refine regStep (fun K hK => ?_); first | (refine regN rfl ?_; try go_simp; refine hK _ _ ?_; clear hK K) | (refine regF rfl rfl ?_; unfold floatAt; go_simp; refine hK _ _ ?_; clear hK K))
      refine regStep (fun K hK => ?_)
      refine regE rfl rfl (Eff.isRf nd) rfl (fun W hW hN => ?_) (fun v hv => ?_)
      · have hM := (HC.out W).1 hW
        clear hW
        go_simp
        refine effT_call ((CM.out _ _ (R10.out.rf.below hM.below)).mono ?_)
        rintro e w2 ⟨u, rfl, ho, hx⟩
        exact ⟨_, rfl, Move.of_below hx, trivial, ho⟩
      clear hv
      go_simp
      refine hK _ _ ?_
      clear hK K
      refine regStep (fun K hK => ?_)
      refine regE rfl rfl (Eff.det _ (.bool true)) rfl (fun W hW hN => ?_) (fun v hv => ?_)
      · have hM := (HC.out W).1 hW
        clear hW
        go_simp
        refine effT_call ((CS.out _ _ _ ((N10.out.below hM.below).df) (hN.at 0 rfl (by kernel_rfl))).mono ?_)
        rintro e w2 ⟨rfl, hx⟩
        exact ⟨_, rfl, Move.of_below hx, rfl, trivial⟩
      replace hv : v = _ := hv
      subst hv
      go_simp
      refine hK _ _ ?_
      clear hK K
      repeat (refine regStep (fun K hK => ?_); first | (refine regN rfl ?_; try go_simp; refine hK _ _ ?_; clear hK K) | (refine regF rfl rfl ?_; unfold floatAt; go_simp; refine hK _ _ ?_; clear hK K))
      refine regStep (fun K hK => ?_)
      refine regE rfl rfl (Eff.det _ (.bool true)) rfl (fun W hW hN => ?_) (fun v hv => ?_)
      · have hM := (HC.out W).1 hW
        clear hW
        go_simp
        refine effT_call ((CB.out _ _ _ (ownsRow_sl (ownsRow_below S10.out hM.below) HFL.out) (ownsRow_sl (ownsRow_below T10.out hM.below) HFL.out)).mono ?_)
        rintro e w2 ⟨rfl, rfl⟩
        exact ⟨_, rfl, Move.refl _ _ _, rfl, trivial⟩
      replace hv : v = _ := hv
      subst hv
      go_simp
      refine hK _ _ ?_
      clear hK K
      repeat (refine regStep (fun K hK => ?_); first | (refine regN rfl ?_; try go_simp; refine hK _ _ ?_; clear hK K) | (refine regF rfl rfl ?_; unfold floatAt; go_simp; refine hK _ _ ?_; clear hK K))
      refine regNil (fun W hW hH => ?_)
      have hM := (HC.out W).1 hW
      have hb := hM.below
      have KA := Lib.hid (Z10.out.trans (hb.mono Z10.out.size))
      have C9w := Lib.hid (C910.out.below hb C910.out.lt)
      have Sw := Lib.hid (ownsRow_below S10.out hb)
      clear hM hW hH HC hb f80 f81 f82 f90 f91 f92 CM CS CB C710 C810 C910 P10 R10 N10 Z10 S10 T10
      obtain ⟨⟨k0, k1, k2⟩, _⟩ := C9w.out.three
      go_wp2_with fail
      refine (CP.out V2.heap.size _ w3 W ND.out (Keeps.of_below KA.out fun x hx => hx.2) KA.out.size).mono ?_
      rintro e w12 ⟨⟨u12, rfl⟩, hk⟩
      have hsW : w3.heap.size ≤ W.heap.size := KA.out.size
      have S12 := Lib.hid (ownsRow_keepsB Sw.out hk fun x h1 h2 => ⟨h2, .inr (by omega)⟩)
      have KE : Hid (Keeps (· < V2.heap.size) V2 w12) := Lib.hid (((Keeps.of_below K3.out fun x hx => hx).tr (Keeps.of_below KA.out fun x (hx : x < V2.heap.size) => by omega)).tr (hk.mono fun x (hx : x < V2.heap.size) => ⟨by omega, .inl hx⟩))
      have hs12 : W.heap.size ≤ w12.heap.size := hk.size
      clear hk Sw C9w KA k0 k1 k2 CP ND K3
      go_wp2
      go_loopw [142] (fun iv wr => ∃ (k : Nat) (ys : List Value), k ≤ fL ∧ iv = .int .i64 k ∧ (∀ y ∈ ys, ∃ z : Int, y = .int .u8 z) ∧ wr.ownsRow w5.heap.size 5 1 (.slice ua fL uc) fL ys ∧ Keeps (· < V2.heap.size) V2 wr) (fun iv _ => fL - (intOf iv).toNat)
      case atStart => exact ⟨0, _, Nat.zero_le _, rfl, fun y hy => by obtain ⟨c, _, rfl⟩ := List.mem_map.1 hy; exact ⟨c, rfl⟩, S12.out, KE.out⟩
      case round =>
        obtain ⟨k, ys, hk, rfl, hys, hrow, hx⟩ := hrel
        obtain ⟨wo, rfl⟩ : ∃ wo : World, wo = wr := ⟨_, rfl⟩
        have HYS := Lib.hid hys
        have HROW := Lib.hid hrow
        have HX := Lib.hid hx
        clear hys hrow hx
        by_cases hlt : k < fL
        · obtain ⟨g, u, rfl, hg1, hg2, hu, cu, fu⟩ := rowCell HROW.out hlt
          obtain ⟨z, rfl⟩ := HYS.out u (List.mem_of_getElem? hu)
          have hki : (k : Int) < fL := by omega
          clear hu
          go_wp2
          go_roundw
          case rel =>
            refine ⟨k + 1, _, by omega, by go_num, ?_, (HROW.out.stored k _).1, HX.out.setCell (p := ⟨g, k, none⟩) (fun h => by have h' : g < V2.heap.size := h; omega) _⟩
            intro y hy
            rcases List.mem_or_eq_of_mem_set hy with hy | hy
            · exact HYS.out y hy
            · exact ⟨_, hy⟩
          case measure => simp [intOf]; omega
        · obtain rfl : k = fL := by omega
          have C7e := Lib.hid (C7.out.keeps HX.out hb72)
          have C8e := Lib.hid (C8.out.keeps HX.out hb82)
          have Pe := Lib.hid (P2.out.keeps HX.out fun x h1 h2 => h2)
          have Re := Lib.hid (R2.out.keeps HX.out fun x h1 h2 => h2)
          have Xe : Hid (Below w.heap.size w wo) := Lib.hid (X2.out.trans (HX.out.mono fun x (hx : x < w.heap.size) => Nat.lt_of_lt_of_le hx X2.out.size : Keeps (· < w.heap.size) V2 wo).below)
          obtain ⟨⟨k0, k1, k2⟩, _⟩ := C7e.out.three
          obtain ⟨⟨l0, l1, l2⟩, _⟩ := C8e.out.three
          clear HYS HROW HX KE S12
          go_wp2_with fail
          refine (CS2.out wo _ _ Pe.out.df Re.out.rf).mono ?_
          rintro e w20 ⟨rfl, hx⟩
          have Xf := Lib.hid (Xe.out.trans (hx.mono Xe.out.size))
          clear hx
          go_wp2
          exact bodyPost_ret (v := .bool true) (by simp [results, Tryz.results9, go_sem]) rfl ⟨rfl, Xf.out⟩
    | false =>
      go_wp2
      refine wp_region_reg false (fun _ => False) (by kernel_rfl) 39 [0, 0, 3, 0, 15, 31, 63, 127, 127, 383, 1023, 2047, 4095, 8191, 16383, 16383, 65535, 131071, 262143, 524287, 524287, 2097151, 4194303, 8388607, 16777215, 33554431, 33554431, 134217727, 268435455, 536870911, 1073741823, 1073741823, 4294967295, 8589934591, 17179869183, 34359738367, 34359738367, 137438953471, 274877906943] (fun i => i == 9 || i == 10 || i == 21) (by kernel_rfl) (fun i => if i = 9 then Eff.isRf nd else if i = 10 then Eff.det _ (.bool true) else if i = 21 then Eff.det _ (.bool true) else Eff.any _) ?_
      intro C hC hne
      have HC := Lib.hid hC
      have f80 := regCell hC (p := ⟨b8, 0, none⟩) C810.out.lt (fun h => h) (C810.out.cell 0)
      have f81 := regCell hC (p := ⟨b8, 1, none⟩) C810.out.lt (fun h => h) (C810.out.cell 1)
      have f82 := regCell hC (p := ⟨b8, 2, none⟩) C810.out.lt (fun h => h) (C810.out.cell 2)
      have f90 := regCell hC (p := ⟨w3.heap.size, 0, none⟩) hwz (fun h => h) (C910.out.cell 0)
      have f91 := regCell hC (p := ⟨w3.heap.size, 1, none⟩) hwz (fun h => h) (C910.out.cell 1)
      have f92 := regCell hC (p := ⟨w3.heap.size, 2, none⟩) hwz (fun h => h) (C910.out.cell 2)
      simp only [List.getElem?_toArray, List.getElem?_cons_zero, List.getElem?_cons_succ] at f80 f81 f82 f90 f91 f92
      clear hC
      repeat (refine regStep (fun K hK => ?_); first | (refine regN rfl ?_; try go_simp; refine hK _ _ ?_; clear hK K) | (refine regF rfl rfl ?_; unfold floatAt; go_simp; refine hK _ _ ?_; clear hK K))
      refine regStep (fun K hK => ?_)
      refine regE rfl rfl (Eff.isRf nd) rfl (fun W hW hN => ?_) (fun v hv => ?_)
      · have hM := (HC.out W).1 hW
        clear hW
        go_simp
        refine effT_call ((CM.out _ _ (R10.out.rf.below hM.below)).mono ?_)
        rintro e w2 ⟨u, rfl, ho, hx⟩
        exact ⟨_, rfl, Move.of_below hx, trivial, ho⟩
      clear hv
      go_simp
      refine hK _ _ ?_
      clear hK K
      refine regStep (fun K hK => ?_)
      refine regE rfl rfl (Eff.det _ (.bool true)) rfl (fun W hW hN => ?_) (fun v hv => ?_)
      · have hM := (HC.out W).1 hW
        clear hW
        go_simp
        refine effT_call ((CS.out _ _ _ ((N10.out.below hM.below).df) (hN.at 0 rfl (by kernel_rfl))).mono ?_)
        rintro e w2 ⟨rfl, hx⟩
        exact ⟨_, rfl, Move.of_below hx, rfl, trivial⟩
      replace hv : v = _ := hv
      subst hv
      go_simp
      refine hK _ _ ?_
      clear hK K
      repeat (refine regStep (fun K hK => ?_); first | (refine regN rfl ?_; try go_simp; refine hK _ _ ?_; clear hK K) | (refine regF rfl rfl ?_; unfold floatAt; go_simp; refine hK _ _ ?_; clear hK K))
      refine regStep (fun K hK => ?_)
      refine regE rfl rfl (Eff.det _ (.bool true)) rfl (fun W hW hN => ?_) (fun v hv => ?_)
      · have hM := (HC.out W).1 hW
        clear hW
        go_simp
        refine effT_call ((CB.out _ _ _ (ownsRow_sl (ownsRow_below S10.out hM.below) HFL.out) (ownsRow_sl (ownsRow_below T10.out hM.below) HFL.out)).mono ?_)
        rintro e w2 ⟨rfl, rfl⟩
        exact ⟨_, rfl, Move.refl _ _ _, rfl, trivial⟩
      replace hv : v = _ := hv
      subst hv
      go_simp
      refine hK _ _ ?_
      clear hK K
      repeat (refine regStep (fun K hK => ?_); first | (refine regN rfl ?_; try go_simp; refine hK _ _ ?_; clear hK K) | (refine regF rfl rfl ?_; unfold floatAt; go_simp; refine hK _ _ ?_; clear hK K))
      refine regNil (fun W hW hH => ?_)
      have hM := (HC.out W).1 hW
      have hb := hM.below
      have KA := Lib.hid (Z10.out.trans (hb.mono Z10.out.size))
      have C9w := Lib.hid (C910.out.below hb C910.out.lt)
      have Sw := Lib.hid (ownsRow_below S10.out hb)
      clear hM hW hH HC hb f80 f81 f82 f90 f91 f92 CM CS CB C710 C810 C910 P10 R10 N10 Z10 S10 T10
      obtain ⟨⟨k0, k1, k2⟩, _⟩ := C9w.out.three
      go_wp2_with fail
      refine (CP.out V2.heap.size _ w3 W ND.out (Keeps.of_below KA.out fun x hx => hx.2) KA.out.size).mono ?_
      rintro e w12 ⟨⟨u12, rfl⟩, hk⟩
      have hsW : w3.heap.size ≤ W.heap.size := KA.out.size
      have S12 := Lib.hid (ownsRow_keepsB Sw.out hk fun x h1 h2 => ⟨h2, .inr (by omega)⟩)
      have KE : Hid (Keeps (· < V2.heap.size) V2 w12) := Lib.hid (((Keeps.of_below K3.out fun x hx => hx).tr (Keeps.of_below KA.out fun x (hx : x < V2.heap.size) => by omega)).tr (hk.mono fun x (hx : x < V2.heap.size) => ⟨by omega, .inl hx⟩))
      have hs12 : W.heap.size ≤ w12.heap.size := hk.size
      clear hk Sw C9w KA k0 k1 k2 CP ND K3
      go_wp2
      go_loopw [142] (fun iv wr => ∃ (k : Nat) (ys : List Value), k ≤ fL ∧ iv = .int .i64 k ∧ (∀ y ∈ ys, ∃ z : Int, y = .int .u8 z) ∧ wr.ownsRow w5.heap.size 5 1 (.slice ua fL uc) fL ys ∧ Keeps (· < V2.heap.size) V2 wr) (fun iv _ => fL - (intOf iv).toNat)
      case atStart => exact ⟨0, _, Nat.zero_le _, rfl, fun y hy => by obtain ⟨c, _, rfl⟩ := List.mem_map.1 hy; exact ⟨c, rfl⟩, S12.out, KE.out⟩
      case round =>
        obtain ⟨k, ys, hk, rfl, hys, hrow, hx⟩ := hrel
        obtain ⟨wo, rfl⟩ : ∃ wo : World, wo = wr := ⟨_, rfl⟩
        have HYS := Lib.hid hys
        have HROW := Lib.hid hrow
        have HX := Lib.hid hx
        clear hys hrow hx
        by_cases hlt : k < fL
        · obtain ⟨g, u, rfl, hg1, hg2, hu, cu, fu⟩ := rowCell HROW.out hlt
          obtain ⟨z, rfl⟩ := HYS.out u (List.mem_of_getElem? hu)
          have hki : (k : Int) < fL := by omega
          clear hu
          go_wp2
          go_roundw
          case rel =>
            refine ⟨k + 1, _, by omega, by go_num, ?_, (HROW.out.stored k _).1, HX.out.setCell (p := ⟨g, k, none⟩) (fun h => by have h' : g < V2.heap.size := h; omega) _⟩
            intro y hy
            rcases List.mem_or_eq_of_mem_set hy with hy | hy
            · exact HYS.out y hy
            · exact ⟨_, hy⟩
          case measure => simp [intOf]; omega
        · obtain rfl : k = fL := by omega
          have C7e := Lib.hid (C7.out.keeps HX.out hb72)
          have C8e := Lib.hid (C8.out.keeps HX.out hb82)
          have Pe := Lib.hid (P2.out.keeps HX.out fun x h1 h2 => h2)
          have Re := Lib.hid (R2.out.keeps HX.out fun x h1 h2 => h2)
          have Xe : Hid (Below w.heap.size w wo) := Lib.hid (X2.out.trans (HX.out.mono fun x (hx : x < w.heap.size) => Nat.lt_of_lt_of_le hx X2.out.size : Keeps (· < w.heap.size) V2 wo).below)
          obtain ⟨⟨k0, k1, k2⟩, _⟩ := C7e.out.three
          obtain ⟨⟨l0, l1, l2⟩, _⟩ := C8e.out.three
          clear HYS HROW HX KE S12
          go_wp2_with fail
          refine (CS2.out wo _ _ Pe.out.df Re.out.rf).mono ?_
          rintro e w20 ⟨rfl, hx⟩
          have Xf := Lib.hid (Xe.out.trans (hx.mono Xe.out.size))
          clear hx
          go_wp2
          exact bodyPost_ret (v := .bool true) (by simp [results, Tryz.results9, go_sem]) rfl ⟨rfl, Xf.out⟩
end Go.Proofs.YtiegfnmpknmbmaaGreat
