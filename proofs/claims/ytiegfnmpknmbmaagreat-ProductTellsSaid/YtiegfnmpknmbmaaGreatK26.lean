/-
  product.Of, where it refuses; and in all.
  dfa.Copy once more: the rows of the copy lie apart.
-/
import Derived.Test.YtiegfnmpknmbmaaGreatK25
import Derived.Test.YtiegfnmpknmbmaaGreatK24
namespace Go.Proofs.YtiegfnmpknmbmaaGreat
open Go Go.RowKit Go.Shelf Go.Maps
attribute [local go_sem] encS

theorem prodE_right {a b : DF} (h : (a.right && b.right) = false) (op f : Int) : prodE a b op f = (dfZ, 182) := by
  unfold prodE; rw [if_pos h]
set_option maxRecDepth 100000 in
theorem eq_nilN (W : World) : (binOp BinOp.eql 87 .nilFunc .nilFunc).run Tryz.prog W = .ok (.bool true) W := by kernel_rfl
theorem saysN_any (op : Nat) : ∃ sv, (sv = .nilFunc ∨ ∃ g, sv = .func (.func g) #[] #[]) ∧ (sv = .nilFunc ↔ (op < 1 ∨ 4 < op)) ∧ ∀ W, Calls Tryz.prog 46 #[.int .u8 op] W fun e w' => e = .returned sv ∧ w' = W := by
  by_cases h : op = 0 ∨ 4 < op
  · exact ⟨.nilFunc, .inl rfl, ⟨fun _ => by omega, fun _ => rfl⟩, fun W => says_none op h W⟩
  · exact ⟨_, .inr ⟨_, rfl⟩, ⟨fun h' => by simp at h', fun h' => by omega⟩, fun W => says_some op (by omega) (by omega) W⟩
set_option maxRecDepth 100000 in
set_option maxHeartbeats 4000000 in
theorem prod_refuse (v v' : Value) (a b : DF) (sa : Sm a) (sb : Sm b) (op : Nat) (f : Int) (hbad : (a.right && b.right) = false ∨ (op < 1 ∨ 4 < op) ∨ (f < 0 ∨ 4000 < f) ∨ f = 0) (w : World) (h : IsDf w v a) (h' : IsDf w v' b) :
    Calls Tryz.prog 19 #[v, v', .int .u8 op, .int .i64 f] w fun e w' => ∃ u, e = .returned (.tuple #[u, .int .i64 (prodE a b op f).2]) ∧ OwnDf w.heap.size w' u (prodE a b op f).1 ∧ Below w.heap.size w w' := by
  have CR : Hid (∀ W, Below w.heap.size w W → Calls Tryz.prog 47 #[v] W fun e w' => e = .returned (.bool a.right) ∧ Below W.heap.size W w') := fun W hW => right_any v a W (h.below hW) sa
  have CR' : Hid (∀ W, Below w.heap.size w W → Calls Tryz.prog 47 #[v'] W fun e w' => e = .returned (.bool b.right) ∧ Below W.heap.size W w') := fun W hW => right_any v' b W (h'.below hW) sb
  obtain ⟨sv, hsv, hsn, CS0⟩ := saysN_any op
  have CS : Hid (∀ W, Calls Tryz.prog 46 #[.int .u8 op] W fun e w' => e = .returned sv ∧ w' = W) := CS0
  obtain ⟨v0, v1, v2, rfl, h0, h1, h2⟩ := h
  obtain ⟨u0, u1, u2, rfl, g0, g1, g2⟩ := h'
  obtain ⟨PE, hPE⟩ : ∃ x, x = prodE a b op f := ⟨_, rfl⟩
  rw [← hPE]
  have HPE := Lib.hid hPE
  have HSN := Lib.hid hsn
  obtain ⟨ar, har⟩ : ∃ x, x = a.right := ⟨_, rfl⟩
  obtain ⟨br, hbr⟩ : ∃ x, x = b.right := ⟨_, rfl⟩
  rw [← har] at CR hbad
  rw [← hbr] at CR' hbad
  have HAR := Lib.hid har
  have HBR := Lib.hid hbr
  have HBAD := Lib.hid hbad
  clear h0 h1 h2 g0 g1 g2 hPE hsn CS0 har hbr hbad
  have fin : Hid (∀ (W : World) (c : Int), PE = (dfZ, c) → Below w.heap.size w W → ∀ e, e = Ending.returned (.tuple #[.agg #[.slice none 0 0, .slice none 0 0, .slice none 0 0], .int .i64 c]) → ∃ u, e = .returned (.tuple #[u, .int .i64 PE.2]) ∧ OwnDf w.heap.size W u PE.1 ∧ Below w.heap.size w W) := Lib.hid fun W c h hx e he => by rw [h]; exact ⟨_, he, dfZ_own _ _, hx⟩
  go_enter Tryz.func19, Tryz.ntmps19
  go_wp2_with fail
  refine calls_named ?_
  intro V hV
  have B4 : Hid (Blk V w.heap.size #[v0, v1, v2] 25) := by rw [hV]; exact ((Blk.new w _ _).alloc _).alloc _
  have B5 : Hid (Blk V (w.heap.size + 1) #[u0, u1, u2] 25) := by rw [hV]; exact ((Blk.new (w.alloc _) _ _).at (by simp)).alloc _
  have B8 : Hid (Blk V (w.heap.size + 2) #[.slice none 0 0, .slice none 0 0, .slice none 0 0] 25) := by rw [hV]; exact (Blk.new ((w.alloc _).alloc _) _ _).at (by simp)
  have X1 : Hid (Below w.heap.size w V) := by rw [hV]; exact ((((Ext.refl w).alloc _).alloc _).alloc _).below
  clear hV
  refine (CS.out V).mono ?_
  rintro e w' ⟨rfl, hw⟩
  replace hw := hw.symm
  subst hw
  obtain ⟨⟨k0, k1, k2⟩, _⟩ := B4.out.three
  go_wp2_with fail
  refine (CR.out V X1.out).mono ?_
  rintro e w2 ⟨rfl, hx⟩
  have C5 := Lib.hid (B5.out.below hx B5.out.lt)
  have C8 := Lib.hid (B8.out.below hx B8.out.lt)
  have X2 := Lib.hid (X1.out.trans (hx.mono X1.out.size))
  clear hx k0 k1 k2 B4 B5 B8 X1
  cases ar with
  | false =>
    obtain ⟨_, z0, z1, z2⟩ := C8.out.three
    obtain ⟨⟨k0, k1, k2⟩, _⟩ := C8.out.three
    go_wp2
    refine post_named ?_
    intro W9 hW9
    have E9 : Hid (Blk W9 (w.heap.size + 2) #[.slice none 0 0, .slice none 0 0, .slice none 0 0] 25 ∧ Below w.heap.size w W9) := by rw [hW9]; exact Lib.hid ⟨C8.out.set3, below_set3 X2.out (by omega)⟩
    clear hW9
    obtain ⟨⟨m0, m1, m2⟩, _⟩ := E9.out.1.three
    refine bodyPost_ret (v := .tuple #[.agg #[.slice none 0 0, .slice none 0 0, .slice none 0 0], .int .i64 182]) (by simp [results, Tryz.results19, go_sem, m0, m1, m2]) rfl (fin.out W9 182 (HPE.out.trans (prodE_right (by rw [← HAR.out]; rfl) _ _)) E9.out.2 _ rfl)
  | true =>
    obtain ⟨⟨k0, k1, k2⟩, _⟩ := C5.out.three
    go_wp2_with fail
    refine (CR'.out w2 X2.out).mono ?_
    rintro e w3 ⟨rfl, hx⟩
    have D8 := Lib.hid (C8.out.below hx C8.out.lt)
    have X3 := Lib.hid (X2.out.trans (hx.mono X2.out.size))
    clear hx k0 k1 k2 C5 C8 X2
    obtain ⟨_, z0, z1, z2⟩ := D8.out.three
    obtain ⟨⟨k0, k1, k2⟩, _⟩ := D8.out.three
    have fin2 : Hid (∀ (W9 : World) (c : Int), W9 = (((w3.setCell ⟨w.heap.size + 2, 0, none⟩ (.slice none 0 0)).setCell ⟨w.heap.size + 2, 1, none⟩ (.slice none 0 0)).setCell ⟨w.heap.size + 2, 2, none⟩ (.slice none 0 0)) → Blk W9 (w.heap.size + 2) #[.slice none 0 0, .slice none 0 0, .slice none 0 0] 25 ∧ Below w.heap.size w W9) := Lib.hid fun W9 c hW9 => by rw [hW9]; exact ⟨D8.out.set3, below_set3 X3.out (by omega)⟩
    cases br with
    | false =>
      go_wp2
      refine post_named ?_
      intro W9 hW9
      have E9 := Lib.hid (fin2.out W9 0 hW9)
      clear hW9
      obtain ⟨⟨m0, m1, m2⟩, _⟩ := E9.out.1.three
      refine bodyPost_ret (v := .tuple #[.agg #[.slice none 0 0, .slice none 0 0, .slice none 0 0], .int .i64 182]) (by simp [results, Tryz.results19, go_sem, m0, m1, m2]) rfl (fin.out W9 182 (HPE.out.trans (prodE_right (by rw [← HAR.out, ← HBR.out]; rfl) _ _)) E9.out.2 _ rfl)
    | true =>
      have hr : ¬ (a.right && b.right) = false := by rw [← HAR.out, ← HBR.out]; decide
      rcases hsv with rfl | ⟨gf, rfl⟩
      · have hop := HSN.out.1 rfl
        have hqn := eq_nilN
        have hpe : PE = (dfZ, 190) := by rw [HPE.out]; unfold prodE; rw [if_neg hr, if_pos (by omega)]
        have HPP := Lib.hid hpe
        clear hpe hr hop
        go_wp2
        refine post_named ?_
        intro W9 hW9
        have E9 := Lib.hid (fin2.out W9 0 hW9)
        clear hW9
        obtain ⟨⟨m0, m1, m2⟩, _⟩ := E9.out.1.three
        refine bodyPost_ret (v := .tuple #[.agg #[.slice none 0 0, .slice none 0 0, .slice none 0 0], .int .i64 190]) (by simp [results, Tryz.results19, go_sem, m0, m1, m2]) rfl (fin.out W9 190 HPP.out E9.out.2 _ rfl)
      · have hop : ¬ (op < 1 ∨ 4 < op) := fun h => by have := HSN.out.2 h; cases this
        have hqn := eq_nilF gf
        by_cases hf0 : f < 0
        · have d1 : decide (f < 0) = true := decide_eq_true hf0
          have HPP : Hid (PE = (dfZ, 2)) := Lib.hid (by rw [HPE.out]; unfold prodE; rw [if_neg hr, if_neg (by omega), if_pos (by omega)])
          clear hr hop
          go_wp2
          refine post_named ?_
          intro W9 hW9
          have E9 := Lib.hid (fin2.out W9 0 hW9)
          clear hW9
          obtain ⟨⟨m0, m1, m2⟩, _⟩ := E9.out.1.three
          refine bodyPost_ret (v := .tuple #[.agg #[.slice none 0 0, .slice none 0 0, .slice none 0 0], .int .i64 2]) (by simp [results, Tryz.results19, go_sem, m0, m1, m2]) rfl (fin.out W9 2 HPP.out E9.out.2 _ rfl)
        · have d1 : decide (f < 0) = false := decide_eq_false hf0
          by_cases hf4 : 4000 < f
          · have d2 : decide (4000 < f) = true := decide_eq_true hf4
            have HPP : Hid (PE = (dfZ, 2)) := Lib.hid (by rw [HPE.out]; unfold prodE; rw [if_neg hr, if_neg (by omega), if_pos (by omega)])
            clear hr hop
            go_wp2
            refine post_named ?_
            intro W9 hW9
            have E9 := Lib.hid (fin2.out W9 0 hW9)
            clear hW9
            obtain ⟨⟨m0, m1, m2⟩, _⟩ := E9.out.1.three
            refine bodyPost_ret (v := .tuple #[.agg #[.slice none 0 0, .slice none 0 0, .slice none 0 0], .int .i64 2]) (by simp [results, Tryz.results19, go_sem, m0, m1, m2]) rfl (fin.out W9 2 HPP.out E9.out.2 _ rfl)
          · have d2 : decide (4000 < f) = false := decide_eq_false hf4
            obtain rfl : f = 0 := by
              rcases HBAD.out with h | h | h | h
              · cases h
              · exact absurd h hop
              · omega
              · exact h
            have HPP : Hid (PE = (dfZ, 181)) := Lib.hid (by rw [HPE.out]; unfold prodE; rw [if_neg hr, if_neg (by omega), if_neg (by omega), if_pos rfl])
            clear hr hop hf0 hf4
            go_wp2
            refine post_named ?_
            intro W9 hW9
            have E9 := Lib.hid (fin2.out W9 0 hW9)
            clear hW9
            obtain ⟨⟨m0, m1, m2⟩, _⟩ := E9.out.1.three
            refine bodyPost_ret (v := .tuple #[.agg #[.slice none 0 0, .slice none 0 0, .slice none 0 0], .int .i64 181]) (by simp [results, Tryz.results19, go_sem, m0, m1, m2]) rfl (fin.out W9 181 HPP.out E9.out.2 _ rfl)
theorem prod_any (v v' : Value) (a b : DF) (sa : Sm a) (sb : Sm b) (op : Nat) (f : Int) (w : World) (h : IsDf w v a) (h' : IsDf w v' b) :
    Calls Tryz.prog 19 #[v, v', .int .u8 op, .int .i64 f] w fun e w' => ∃ u, e = .returned (.tuple #[u, .int .i64 (prodE a b op f).2]) ∧ OwnDf w.heap.size w' u (prodE a b op f).1 ∧ Below w.heap.size w w' := by
  by_cases hbad : (a.right && b.right) = false ∨ (op < 1 ∨ 4 < op) ∨ (f < 0 ∨ 4000 < f) ∨ f = 0
  · exact prod_refuse v v' a b sa sb op f hbad w h h'
  · obtain ⟨n, rfl⟩ : ∃ n : Nat, f = n := ⟨f.toNat, by omega⟩
    have hr : a.right = true ∧ b.right = true := by
      cases ha : a.right <;> cases hb : b.right <;> simp [ha, hb] at hbad <;> simp
    exact prod_main v v' a b ((right_iff a).1 hr.1) ((right_iff b).1 hr.2) sa sb op (by omega) (by omega) n (by omega) (by omega) w h h'
end Go.Proofs.YtiegfnmpknmbmaaGreat
namespace Go.Proofs.YtiegfnmpknmbmaaGreat
open Go Go.RowKit Go.Shelf Go.Maps
attribute [local go_sem] encS
set_option maxRecDepth 100000 in
set_option maxHeartbeats 4000000 in
theorem copyF_any (v : Value) (d : DF) (w : World) (h : IsDf w v d) (sm : Sm d) :
    Calls Tryz.prog 14 #[v] w fun e w' => ∃ u, e = .returned u ∧ OwnDf w.heap.size w' u d ∧ (∀ v0 v1 v2, u = .agg #[v0, v1, v2] → Far v1 v2) ∧ Below w.heap.size w w' := by
  obtain ⟨v0, v1, v2, rfl, h0, h1, h2⟩ := h
  obtain ⟨a0, c0, rfl⟩ := h0.1.form
  obtain ⟨a1, c1, rfl⟩ := h1.form
  obtain ⟨a2, c2, rfl⟩ := h2.form
  have SM := Lib.hid sm
  have H0 := Lib.hid h0
  have H1 := Lib.hid h1
  have H2 := Lib.hid h2
  clear h0 h1 h2 sm
  obtain ⟨n0, hn0⟩ : ∃ n, n = d.cl.length := ⟨_, rfl⟩
  obtain ⟨n1, hn1⟩ : ∃ n, n = d.nx.length := ⟨_, rfl⟩
  obtain ⟨n2, hn2⟩ : ∃ n, n = d.mr.length := ⟨_, rfl⟩
  rw [← hn0] at H0 ⊢
  rw [← hn1] at H1 ⊢
  rw [← hn2] at H2 ⊢
  have HN0 := Lib.hid hn0
  have HN1 := Lib.hid hn1
  have HN2 := Lib.hid hn2
  clear hn0 hn1 hn2
  go_enter Tryz.func14, Tryz.ntmps14
  go_wp2
  refine wp_named ?_
  intro V hV
  have HB1 : Hid (Blk V w.heap.size #[.slice a0 n0 c0, .slice a1 n1 c1, .slice a2 n2 c2] 25) := by rw [hV]; exact (Blk.new w _ _).alloc _
  have HB2 : Hid (Blk V (w.heap.size + 1) #[.slice none 0 0, .slice none 0 0, .slice none 0 0] 25) := by rw [hV]; exact (Blk.new (w.alloc _) _ _).at (by simp)
  have HX : Hid (Below w.heap.size w V) := by rw [hV]; exact (((Ext.refl w).alloc _).alloc _).below
  have HS : Hid (w.heap.size + 2 ≤ V.heap.size) := by rw [hV]; exact Lib.hid (by simp)
  clear hV
  refine wp_region_reg false (fun _ => False) (by kernel_rfl) 8 [0, 1, 3, 0, 8, 31, 0, 64, 255, 511, 1023] (fun i => i == 2 || i == 5 || i == 8 || i == 10) (by kernel_rfl) (fun i => if i = 2 then Eff.row (w.heap.size + 2) 33 4 d.cl.length (flatS d.cl) else if i = 5 then Eff.oll (w.heap.size + 2) d.nx else Eff.any _) ?_
  intro C hC hne
  have HC := Lib.hid hC
  have f0 := regCell hC (p := ⟨w.heap.size, 0, none⟩) (by have := HB1.out.lt; exact this) (fun h => h) (HB1.out.cell 0)
  have f1 := regCell hC (p := ⟨w.heap.size, 1, none⟩) (by have := HB1.out.lt; exact this) (fun h => h) (HB1.out.cell 1)
  have f2 := regCell hC (p := ⟨w.heap.size, 2, none⟩) (by have := HB1.out.lt; exact this) (fun h => h) (HB1.out.cell 2)
  clear hC
  repeat (refine regStep (fun K hK => ?_); first | (refine regN rfl ?_; try go_simp; refine hK _ _ ?_; clear hK K) | (refine regF rfl rfl ?_; unfold floatAt; go_simp; refine hK _ _ ?_; clear hK K))
  refine regStep (fun K hK => ?_)
  refine regE rfl rfl (Eff.row (w.heap.size + 2) 33 4 d.cl.length (flatS d.cl)) rfl (fun W hW hN => ?_) (fun v hv => ?_)
  · have hM := (HC.out W).1 hW
    clear hW
    go_simp
    refine effT_call ((cloneSets_any _ d.cl _ ⟨(H0.out.1.below HX.out).below hM.below, H0.out.2⟩ SM.out.cl).mono ?_)
    rintro e w2 ⟨vp, rfl, ho, hx⟩
    exact ⟨_, rfl, Move.of_below hx, ownsRow_form ho, ownsRow_base ho (Nat.le_trans HS.out hM.size)⟩
  obtain ⟨a3, c3, rfl⟩ := hv
  go_simp
  refine hK _ _ ?_
  clear hK K
  repeat (refine regStep (fun K hK => ?_); first | (refine regN rfl ?_; try go_simp; refine hK _ _ ?_; clear hK K) | (refine regF rfl rfl ?_; unfold floatAt; go_simp; refine hK _ _ ?_; clear hK K))
  refine regStep (fun K hK => ?_)
  refine regE rfl rfl (Eff.oll (w.heap.size + 2) d.nx) rfl (fun W hW hN => ?_) (fun v hv => ?_)
  · have hM := (HC.out W).1 hW
    clear hW
    go_simp
    refine effT_call ((lists_any _ d.nx _ ((H1.out.below HX.out).below hM.below) SM.out.nx SM.out.nxs).mono ?_)
    rintro e w2 ⟨vp, rfl, ho, hx⟩
    exact ⟨_, rfl, Move.of_below hx, ho.form, ho.base (Nat.le_trans HS.out hM.size)⟩
  obtain ⟨a4, c4, rfl⟩ := hv
  go_simp
  refine hK _ _ ?_
  clear hK K
  repeat (refine regStep (fun K hK => ?_); first | (refine regN rfl ?_; try go_simp; refine hK _ _ ?_; clear hK K) | (refine regF rfl rfl ?_; unfold floatAt; go_simp; refine hK _ _ ?_; clear hK K))
  refine regNil (fun W hW hH => ?_)
  have hM := (HC.out W).1 hW
  have R0 : Hid (W.ownsRow (w.heap.size + 2) 33 4 (.slice a3 d.cl.length c3) d.cl.length (flatS d.cl)) := Lib.hid (hH _ (List.mem_of_getElem? (show _ = some _ from rfl : _[1]? = some _)))
  have R1 : Hid (OwnLL (w.heap.size + 2) W (.slice a4 d.nx.length c4) d.nx) := Lib.hid (hH _ (List.mem_of_getElem? (show _ = some _ from rfl : _[0]? = some _)))
  have XB1 := Lib.hid (HB1.out.below hM.below HB1.out.lt)
  have XB2 := Lib.hid (HB2.out.below hM.below HB2.out.lt)
  have XX := Lib.hid (HX.out.trans (hM.below.mono HX.out.size))
  have XS := Lib.hid (Nat.le_trans HS.out hM.size)
  clear hM hW hH f0 f1 f2 HC HB1 HB2 HX
  go_wp2_with fail
  refine (lists_any _ d.mr _ (H2.out.below XX.out) SM.out.mr SM.out.mks).mono ?_
  rintro e w2 ⟨vp, rfl, ho, hx⟩
  obtain ⟨a5, c5, rfl⟩ := ho.form
  have R0' := Lib.hid (ownsRow_below R0.out hx)
  have R1' := Lib.hid (R1.out.below hx)
  have FR : Hid (Far (.slice a4 d.nx.length c4) (.slice a5 d.mr.length c5)) := Lib.hid (by
    obtain ⟨us, _, h1, _⟩ := R1.out
    obtain ⟨ms, _, h2, _⟩ := ho
    by_cases e : (Value.slice a4 d.nx.length c4).ownBlock = none
    · exact .inl e
    · right
      intro e2
      cases e3 : (Value.slice a4 d.nx.length c4).ownBlock with
      | none => exact e e3
      | some x => have h5 := (h1.lt x e3).2; have h6 := (h2.lt x (e2 ▸ e3)).1; omega)
  have R2' := Lib.hid (ho.base XS.out)
  have YB2 := Lib.hid (XB2.out.below hx XB2.out.lt)
  have YX := Lib.hid (XX.out.trans (hx.mono XX.out.size))
  clear ho hx R0 R1 XB1 XB2 XX
  obtain ⟨⟨k0, k1, k2⟩, z0, z1, z2⟩ := YB2.out.three
  go_wp2
  obtain ⟨W9, hW9⟩ : ∃ W9, W9 = (((w2.setCell ⟨w.heap.size + 1, 0, none⟩ (.slice a3 d.cl.length c3)).setCell ⟨w.heap.size + 1, 1, none⟩ (.slice a4 d.nx.length c4)).setCell ⟨w.heap.size + 1, 2, none⟩ (.slice a5 d.mr.length c5)) := ⟨_, rfl⟩
  have E : Hid (Blk W9 (w.heap.size + 1) #[.slice a3 d.cl.length c3, .slice a4 d.nx.length c4, .slice a5 d.mr.length c5] 25) := by rw [hW9]; exact YB2.out.set3
  have K9 : Hid (Keeps (fun x => x < w2.heap.size ∧ x ≠ w.heap.size + 1) w2 W9) := by rw [hW9]; exact (((Keeps.refl _ _).setCell (p := ⟨w.heap.size + 1, 0, none⟩) (fun h => h.2 rfl) _).setCell (p := ⟨w.heap.size + 1, 1, none⟩) (fun h => h.2 rfl) _).setCell (p := ⟨w.heap.size + 1, 2, none⟩) (fun h => h.2 rfl) _
  rw [← hW9]
  clear hW9 k0 k1 k2 z0 z1 z2
  obtain ⟨⟨m0, m1, m2⟩, _⟩ := E.out.three
  refine bodyPost_ret (v := .agg #[.slice a3 d.cl.length c3, .slice a4 d.nx.length c4, .slice a5 d.mr.length c5]) (by simp [results, Tryz.results14, go_sem, m0, m1, m2]) rfl ⟨_, rfl, ?_, fun _ _ _ e => by cases e; exact FR.out, ?_⟩
  · refine OwnDf.base (base := w.heap.size + 2) ⟨_, _, _, rfl, ?_, ?_, ?_⟩ (by omega)
    · exact ownsRow_keepsB R0'.out K9.out fun k h1 h2 => ⟨h2, by omega⟩
    · exact R1'.out.keeps K9.out fun k h1 h2 => ⟨h2, by omega⟩
    · exact R2'.out.keeps K9.out fun k h1 h2 => ⟨h2, by omega⟩
  · exact YX.out.trans ((K9.out.mono fun k hk => ⟨Nat.lt_of_lt_of_le hk YX.out.size, by have : k < w.heap.size := hk; omega⟩ : Keeps (· < w.heap.size) w2 W9).below)
end Go.Proofs.YtiegfnmpknmbmaaGreat
