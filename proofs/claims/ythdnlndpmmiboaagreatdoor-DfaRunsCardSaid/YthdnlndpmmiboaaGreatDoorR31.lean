/-
  dfa.table, Run, Marks.
-/
import Derived.Test.YthdnlndpmmiboaaGreatDoorR17
namespace Go.Proofs.YthdnlndpmmiboaaGreatDoor
open Go Go.RowKit Go.Shelf Go.Maps

set_option maxRecDepth 100000 in
set_option maxHeartbeats 2000000 in
theorem dfaTable_any (v : Value) (d : DF) (rt : Rt d) (w : World) (h : IsDf w v d) :
    Calls Tryz.prog 62 #[v] w fun e w' => e = .returned (.agg (tabArr d.cl)) ∧ Below w.heap.size w w' := by
  obtain ⟨v0, v1, v2, rfl, h0, h1, h2⟩ := h
  obtain ⟨a0, c0, rfl⟩ := h0.1.form
  obtain ⟨a1, c1, rfl⟩ := h1.form
  obtain ⟨a2, c2, rfl⟩ := h2.form
  have H0 := Lib.hid h0.1
  have CO : Hid (∀ W, IsSets W (.slice a0 d.cl.length c0) d.cl → Calls Tryz.prog 54 #[.slice a0 d.cl.length c0] W fun e w' => ∃ b, e = .returned (.pointer (some ⟨b, 0, none⟩)) ∧ IsAl w' W.heap.size (.pointer (some ⟨b, 0, none⟩)) d.cl ∧ Below W.heap.size W w') := fun W h => by
    have := alphOf_any d.cl _ W h (by have := rt.clle; omega)
    rwa [rt.cl] at this
  have CT : Hid (∀ b base W, IsAl W base (.pointer (some ⟨b, 0, none⟩)) d.cl → Calls Tryz.prog 82 #[.pointer (some ⟨b, 0, none⟩)] W fun e w' => e = .returned (.agg (tabArr d.cl)) ∧ Ext W w') := fun b base W h => table_any _ base d.cl W h
  clear h0 h1 h2
  have hsz := size_tab
  have hz := tabArr_nil
  generalize d.cl.length = n0 at *
  go_enter Tryz.func62, Tryz.ntmps62
  go_wp2_with fail
  refine calls_named ?_
  intro V hV
  have B2 : Hid (Blk V (w.heap.size + 1) (tabArr []) 119) := by rw [hV]; exact (Blk.new (w.alloc _) _ _).at (by simp)
  have X1 : Hid (Below w.heap.size w V) := by rw [hV]; exact (((Ext.refl w).alloc _).alloc _).below
  clear hV
  refine (CO.out _ (H0.out.below X1.out)).mono ?_
  rintro e w2 ⟨b, rfl, ha, hx⟩
  have B3 := Lib.hid (B2.out.below hx B2.out.lt)
  have X2 := Lib.hid (X1.out.trans (hx.mono X1.out.size))
  have A2 := Lib.hid ha
  clear ha hx B2 X1
  go_wp2_with fail
  refine (CT.out _ _ _ A2.out).mono ?_
  rintro e w3 ⟨rfl, hx⟩
  have B4 := Lib.hid (B3.out.ext hx)
  have X3 := Lib.hid (X2.out.trans (hx.below.mono X2.out.size))
  clear hx B3 X2
  go_wp2_with (refine wpList_store_row rfl 119 (.tmp 2) (.tmp 6) rfl (w.heap.size + 1) (tabArr d.cl) rfl rfl 119 (tabArr []) B4.out (by rw [tabArr_size]; exact hsz) (by rw [tabArr_size, tabArr_size]) (tabArr_one _) ?_)
  refine bodyPost_ret (results_cell_row rfl _ _ (w.heap.size + 1) 119 (tabArr d.cl) (0, 0) _ rfl B4.out.setRow Tryz.underlying119 rfl (by rw [tabArr_size]; exact size_tab)) rfl ⟨rfl, Below.setRow' X3.out (by omega) _⟩

/-- The state behind bytes. -/
def runD (d : DF) (s : Nat) (b : List Nat) : Nat := b.foldl (fun s c => nxt d s (cls d.cl c)) s
theorem runD_take {d : DF} {s : Nat} {b : List Nat} {k c : Nat} (h : b[k]? = some c) : runD d s (b.take (k + 1)) = nxt d (runD d s (b.take k)) (cls d.cl c) := by
  unfold runD
  rw [List.take_add_one, h, List.foldl_append]; rfl
theorem runD_lt {d : DF} (rt : Rt d) {s : Nat} (hs : s < d.nx.length) : ∀ (b : List Nat), (∀ c ∈ b, c < 256) → runD d s b < d.nx.length := by
  intro b
  induction b generalizing s with
  | nil => intro _; exact hs
  | cons c r ih => intro h; exact ih (rt.nxt_lt hs (rt.part.cls_lt (h c (by simp)))) (fun x hx => h x (by simp [hx]))

set_option maxRecDepth 100000 in
set_option maxHeartbeats 4000000 in
theorem dfaRun_any (v bv : Value) (d : DF) (rt : Rt d) (sm : Sm d) (s : Nat) (hs : s < d.nx.length) (b : List Nat) (hb : ∀ c ∈ b, c < 256) (hbn : b.length ≤ 1000000) (w : World) (h : IsDf w v d) (hbv : IsSl encB w bv b) :
    Calls Tryz.prog 32 #[v, .int .i64 s, bv] w fun e w' => e = .returned (.tuple #[.int .i64 (runD d s b), .int .i64 0]) ∧ Below w.heap.size w w' := by
  have CR : Hid (∀ W, Below w.heap.size w W → Calls Tryz.prog 28 #[v] W fun e w' => e = .returned (.bool true) ∧ Below W.heap.size W w') := fun W hW => by
    have := right_any v d W (h.below hW) sm
    rwa [(right_iff d).2 rt] at this
  have CT : Hid (∀ W, Below w.heap.size w W → Calls Tryz.prog 62 #[v] W fun e w' => e = .returned (.agg (tabArr d.cl)) ∧ Below W.heap.size W w') := fun W hW => dfaTable_any v d rt W (h.below hW)
  obtain ⟨v0, v1, v2, rfl, h0, h1, h2⟩ := h
  obtain ⟨a0, c0, rfl⟩ := h0.1.form
  obtain ⟨a1, c1, rfl⟩ := h1.form
  obtain ⟨a2, c2, rfl⟩ := h2.form
  obtain ⟨ab, cb, rfl⟩ := hbv.form
  obtain ⟨n1, hn1⟩ : ∃ n, n = d.nx.length := ⟨_, rfl⟩
  obtain ⟨nb, hnb⟩ : ∃ n, n = b.length := ⟨_, rfl⟩
  have HN1 := Lib.hid hn1
  have HNB := Lib.hid hnb
  have hs1 : s < n1 := by omega
  have hn4 : n1 ≤ 4000 := by rw [hn1]; exact rt.le
  rw [← hn1] at h1 CR CT ⊢
  rw [← hnb] at hbv hbn ⊢
  have H1 := Lib.hid h1
  have HBV := Lib.hid hbv
  have HB := Lib.hid hb
  have RT := Lib.hid rt
  have e1 : decide ((s : Int) < 0) = false := decide_eq_false (by omega)
  have e2 : decide ((n1 : Int) ≤ s) = false := decide_eq_false (by omega)
  have e3 : decide (n1 ≤ s) = false := decide_eq_false (by omega)
  have hsz := size_tab
  have hz := tabArr_nil
  clear h0 h1 h2 hbv hn1 hnb hb
  go_enter Tryz.func32, Tryz.ntmps32
  go_wp2_with fail
  refine calls_named ?_
  intro V hV
  have B1 : Hid (Blk V w.heap.size #[.slice a0 d.cl.length c0, .slice a1 n1 c1, .slice a2 d.mr.length c2] 29) := by rw [hV]; exact Blk.new w _ _
  have X1 : Hid (Below w.heap.size w V) := by rw [hV]; exact ((Ext.refl w).alloc _).below
  clear hV
  refine (CR.out _ X1.out).mono ?_
  rintro e w2 ⟨rfl, hx⟩
  have B2 := Lib.hid (B1.out.below hx B1.out.lt)
  have X2 := Lib.hid (X1.out.trans (hx.mono X1.out.size))
  clear hx B1 X1
  obtain ⟨⟨k0, k1, k2⟩, _⟩ := B2.out.three
  go_wp2_with fail
  refine (CT.out _ X2.out).mono ?_
  rintro e w3 ⟨rfl, hx⟩
  have B3 := Lib.hid (B2.out.below hx B2.out.lt)
  have X3 := Lib.hid (X2.out.trans (hx.mono X2.out.size))
  clear hx B2 X2 k0 k1 k2 e1 e2 e3 CR CT
  have hst := run_storeCells_new (P := Tryz.prog) w3 119 (tabArr []) (tabArr d.cl) (by rw [tabArr_size]; exact hsz) (by rw [tabArr_size, tabArr_size]) (tabArr_one _)
  have hs0 := tabArr_size d.cl
  go_wp2
  refine wp_named ?_
  intro V2 hV2
  have B4 : Hid (Blk V2 w.heap.size #[.slice a0 d.cl.length c0, .slice a1 n1 c1, .slice a2 d.mr.length c2] 29) := by rw [hV2]; exact B3.out.alloc _
  have T4 : Hid (Blk V2 w3.heap.size (tabArr d.cl) 119) := by rw [hV2]; exact Blk.new _ _ _
  have X4 : Hid (Below w.heap.size w V2) := by rw [hV2]; exact X3.out.alloc X3.out.size _
  clear hV2 hst hs0 hz hsz B3 X3
  go_loopw [29, 1] (fun i sv wr => ∃ k : Nat, k ≤ nb ∧ i = .int .i64 k ∧ sv = .int .i64 (runD d s (b.take k)) ∧ Below V2.heap.size V2 wr) (fun i _ _ => nb - (intOf i).toNat)
  case atStart => exact ⟨0, by omega, rfl, rfl, Below.refl _ _⟩
  case round =>
    obtain ⟨k, hk, rfl, rfl, hx⟩ := hrel
    obtain ⟨wo, rfl⟩ : ∃ wo : World, wo = wr := ⟨_, rfl⟩
    have HX := Lib.hid hx
    have B5 := Lib.hid (B4.out.below hx B4.out.lt)
    have T5 := Lib.hid (T4.out.below hx T4.out.lt)
    have X5 := Lib.hid (X4.out.trans (hx.mono X4.out.size))
    clear hx
    by_cases hlt : k < nb
    · obtain ⟨c, hc⟩ : ∃ c, b[k]? = some c := ⟨_, List.getElem?_eq_getElem (by have := HNB.out; omega)⟩
      have hc256 := HB.out c (List.mem_of_getElem? hc)
      have HT := Lib.hid (runD_take (d := d) (s := s) hc)
      have hsl := runD_lt RT.out (s := s) (by rw [← HN1.out]; exact hs1) (b.take k) (fun x hx => HB.out x (List.mem_of_mem_take hx))
      obtain ⟨g0, o0, rfl, hg0, x0⟩ := (HBV.out.below X5.out).elem hc
      replace x0 : wo.cell? ⟨g0, o0 + k, none⟩ = some (.int .u8 c) := x0
      generalize runD d s (b.take k) = sv at HT hsl ⊢
      obtain ⟨l, hl⟩ : ∃ l, d.nx[sv]? = some l := ⟨_, List.getElem?_eq_getElem hsl⟩
      obtain ⟨g1, o1, e1, k1, rfl, hg1, x1, y1⟩ := (H1.out.below X5.out).elem hl
      obtain ⟨q, hq⟩ : ∃ q, q = cls d.cl c := ⟨_, rfl⟩
      have hql : q < d.cl.length := by rw [hq]; exact RT.out.part.cls_lt hc256
      have hll : l.length = d.cl.length := by have := RT.out.len sv hsl; rwa [getD_some hl] at this
      obtain ⟨r, hr⟩ : ∃ r, r = nxt d sv q := ⟨_, rfl⟩
      have hlr : l[q]? = some (r : Int) := by have := RT.out.nxt_cell hsl hql; rwa [getD_some hl, ← hr] at this
      obtain ⟨g2, o2, rfl, hg2, x2⟩ := y1.elem hlr
      replace x2 : wo.cell? ⟨g2, o2 + q, none⟩ = some (.int .i64 r) := x2
      have x3 : wo.cell? ⟨w3.heap.size, c, none⟩ = some (.int .u8 q) := by rw [hq]; exact (T5.out.cell c).trans (tabArr_get _ hc256)
      have b1 := B5.out.cell 1
      simp only [List.getElem?_toArray, List.getElem?_cons_zero, List.getElem?_cons_succ] at b1
      have hsn : sv < n1 := by rw [HN1.out]; exact hsl
      have hci : (c : Int) < 256 := by omega
      have hsi : (sv : Int) < n1 := by omega
      obtain ⟨j, hj⟩ : ∃ j, j = l.length := ⟨_, rfl⟩
      have hqj : q < j := by omega
      have hqi : (q : Int) < j := by omega
      rw [← hj] at x1
      have hki : (k : Int) < nb := by omega
      have HRQ := Lib.hid hr
      have HQ := Lib.hid hq
      clear hc hl y1 hlr hll hql hq hr hj hsl
      go_wp2
      refine wp_region_reg false (fun _ => False) (by kernel_rfl) 11 [0, 1, 0, 7, 15, 0, 32, 96, 255, 511, 1023] (fun i => false) (by kernel_rfl) (fun i => Eff.any _) ?_
      intro C hC hne
      have HC := Lib.hid hC
      have f0 := regCell hC (p := ⟨w.heap.size, 1, none⟩) (by have := B5.out.lt; exact this) (fun h => h) b1
      have f1 := regCell hC (p := ⟨g1, o1 + sv, none⟩) hg1 (fun h => h) x1
      have f2 := regCell hC (p := ⟨g2, o2 + q, none⟩) hg2 (fun h => h) x2
      have f3 := regCell hC (p := ⟨w3.heap.size, c, none⟩) (by have := T5.out.lt; exact this) (fun h => h) x3
      clear hC b1 x1 x2 x3 x0
      repeat (refine regStep (fun K hK => ?_); first | (refine regN rfl ?_; try go_simp; refine hK _ _ ?_; clear hK K) | (refine regF rfl rfl ?_; unfold floatAt; go_simp; refine hK _ _ ?_; clear hK K))
      refine regNil (fun W hW hH => ?_)
      have hM := (HC.out W).1 hW
      have XX := Lib.hid (HX.out.trans (hM.below.mono HX.out.size))
      clear hM hW hH HC HX f0 f1 f2 f3
      go_wp2
      go_roundw
      case rel => exact ⟨k + 1, by omega, by go_num, by rw [HT.out, ← HQ.out, ← HRQ.out], XX.out⟩
      case measure => simp [intOf]; omega
    · obtain rfl : k = nb := by omega
      have htk : b.take k = b := by rw [HNB.out]; exact List.take_length
      rw [htk]
      clear htk
      go_wp2
      go_ret2
      exact ⟨rfl, X5.out⟩

set_option maxRecDepth 100000 in
set_option maxHeartbeats 4000000 in
theorem dfaMarks_any (v bv : Value) (d : DF) (rt : Rt d) (sm : Sm d) (b : List Nat) (hb : ∀ c ∈ b, c < 256) (hbn : b.length ≤ 1000000) (w : World) (h : IsDf w v d) (hbv : IsSl encB w bv b) :
    Calls Tryz.prog 19 #[v, bv] w fun e w' => ∃ u, e = .returned (.tuple #[u, .int .i64 0]) ∧ w'.ownsRow w.heap.size 3 1 u (d.mr.getD (runD d 0 b) []).length ((d.mr.getD (runD d 0 b) []).map encZ) ∧ Below w.heap.size w w' := by
  have CR : Hid (∀ W, Below w.heap.size w W → Calls Tryz.prog 32 #[v, .int .i64 0, bv] W fun e w' => e = .returned (.tuple #[.int .i64 (runD d 0 b), .int .i64 0]) ∧ Below W.heap.size W w') := fun W hW => dfaRun_any v bv d rt sm 0 rt.pos b hb hbn W (h.below hW) (hbv.below hW)
  obtain ⟨v0, v1, v2, rfl, h0, h1, h2⟩ := h
  obtain ⟨a0, c0, rfl⟩ := h0.1.form
  obtain ⟨a1, c1, rfl⟩ := h1.form
  obtain ⟨a2, c2, rfl⟩ := h2.form
  obtain ⟨ab, cb, rfl⟩ := hbv.form
  have hsl := runD_lt rt rt.pos b hb
  rw [← rt.mr] at hsl
  generalize runD d 0 b = sv at CR hsl ⊢
  obtain ⟨m, hm⟩ : ∃ m, d.mr[sv]? = some m := ⟨_, List.getElem?_eq_getElem hsl⟩
  rw [getD_some hm]
  obtain ⟨g1, o1, e1, k1, rfl, hg1, x1, y1⟩ := h2.elem hm
  have lm := sm.mks m (List.mem_of_getElem? hm)
  have hsi : (sv : Int) < (d.mr.length : Nat) := by omega
  obtain ⟨n2, hn2⟩ : ∃ n, n = d.mr.length := ⟨_, rfl⟩
  rw [← hn2] at hsl hsi CR ⊢
  have Y1 := Lib.hid y1
  obtain ⟨j, hj⟩ : ∃ j, j = m.length := ⟨_, rfl⟩
  rw [← hj] at x1 Y1
  have HJ := Lib.hid hj
  have LM := Lib.hid lm
  have X0 := Lib.hid x1
  clear h0 h1 h2 hm y1 hbv hb hbn rt sm hn2 hj lm x1
  go_enter Tryz.func19, Tryz.ntmps19
  go_wp2_with fail
  refine calls_named ?_
  intro V hV
  have B1 : Hid (Blk V w.heap.size #[.slice a0 d.cl.length c0, .slice a1 d.nx.length c1, .slice (some ⟨g1, o1, none⟩) n2 c2] 29) := by rw [hV]; exact Blk.new w _ _
  have X1 : Hid (Below w.heap.size w V) := by rw [hV]; exact ((Ext.refl w).alloc _).below
  clear hV
  refine (CR.out _ X1.out).mono ?_
  rintro e w2 ⟨rfl, hx⟩
  have B2 := Lib.hid (B1.out.below hx B1.out.lt)
  have X2 := Lib.hid (X1.out.trans (hx.mono X1.out.size))
  clear hx B1 X1 CR
  have b2 := B2.out.cell 2
  simp only [List.getElem?_toArray, List.getElem?_cons_zero, List.getElem?_cons_succ] at b2
  have x2 : w2.cell? ⟨g1, o1 + sv, none⟩ = some (.slice e1 j k1) := (belowCells X2.out).1 g1 (o1 + sv) hg1 ▸ X0.out
  go_wp2_with fail
  refine (cloneInts_any _ m _ (Y1.out.below X2.out) LM.out).mono ?_
  rintro e w3 ⟨ur, rfl, ho, hx⟩
  have O3 := Lib.hid (ownsRow_base ho X2.out.size)
  have X3 := Lib.hid (X2.out.trans (hx.mono X2.out.size))
  clear ho hx b2 x2
  go_wp2
  go_ret2
  exact ⟨_, rfl, O3.out, X3.out⟩
end Go.Proofs.YthdnlndpmmiboaaGreatDoor
