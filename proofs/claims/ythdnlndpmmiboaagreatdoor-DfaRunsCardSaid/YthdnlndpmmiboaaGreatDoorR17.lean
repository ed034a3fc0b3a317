/-
  The reference's Right and Class.
-/
import Derived.Test.YthdnlndpmmiboaaGreatDoorR16
namespace Go.Proofs.YthdnlndpmmiboaaGreatDoor
open Go Go.RowKit Go.Shelf Go.Maps

theorem eqA_refS (s t : BS) : eqA (refS s) (refS t) = (s == t) := by
  rw [Bool.eq_iff_iff, eqA_iff, beq_iff_eq]
  constructor
  · intro h
    rw [← backS_refS s, ← backS_refS t]
    unfold backS
    exact BS.ext fun c hc => by rw [bsOf_bit _ hc, bsOf_bit _ hc, h c hc]
  · intro h c _; rw [h]

set_option maxRecDepth 100000 in
set_option maxHeartbeats 8000000 in
theorem refRight_any (v : Value) (d : DF) (w : World) (h : IsRf w v d) (sm : Sm d) :
    Calls Tryz.prog 27 #[v] w fun e w' => e = .returned (.bool d.right) ∧ Below w.heap.size w w' := by
  obtain ⟨v0, v1, v2, rfl, h0, h1, h2⟩ := h
  obtain ⟨a0, c0, rfl⟩ := h0.form
  obtain ⟨a1, c1, rfl⟩ := h1.form
  obtain ⟨a2, c2, rfl⟩ := h2.form
  rw [List.length_map] at h0 ⊢
  obtain ⟨n0, hn0⟩ : ∃ n, n = d.cl.length := ⟨_, rfl⟩
  obtain ⟨n1, hn1⟩ : ∃ n, n = d.nx.length := ⟨_, rfl⟩
  obtain ⟨n2, hn2⟩ : ∃ n, n = d.mr.length := ⟨_, rfl⟩
  obtain ⟨r, hr⟩ : ∃ r, r = d.right := ⟨_, rfl⟩
  obtain ⟨f, hf⟩ : ∃ f, f = refA d.cl := ⟨_, rfl⟩
  obtain ⟨p, hp⟩ : ∃ p, p = partsOf d.cl := ⟨_, rfl⟩
  have HP := Lib.hid hp
  have l0 := sm.cl
  have l1 := sm.nx
  have l2 := sm.mr
  rw [← hn0] at h0 l0 ⊢
  rw [← hn1] at h1 l1 ⊢
  rw [← hn2] at h2 l2 ⊢
  rw [← hr]
  have HN0 := Lib.hid hn0
  have HN1 := Lib.hid hn1
  have HN2 := Lib.hid hn2
  have HR := Lib.hid hr
  have H0 := Lib.hid h0
  have H1 := Lib.hid h1
  have H2 := Lib.hid h2
  have SM := Lib.hid sm
  obtain ⟨pn, hpn⟩ : ∃ n, n = p.length := ⟨_, rfl⟩
  have lp : pn ≤ 256 := by rw [hpn, hp, (partsOf_perm d.cl).length_eq]; exact partsRaw_len d.cl
  have HPN := Lib.hid hpn
  have CO : Hid (∀ W u, IsArrs W u (d.cl.map refS) → Calls Tryz.prog 47 #[u] W fun e w' => e = .returned (.agg (aI f)) ∧ Ext W w') := fun W u h => by rw [hf]; exact refOf_any u _ W h (by rw [List.length_map]; exact SM.out.cl)
  have CC : Hid (∀ W, Calls Tryz.prog 49 #[.agg (aI f)] W fun e w' => ∃ a c, e = .returned (.slice a pn c) ∧ IsArrs w' (.slice a pn c) (p.map refS) ∧ Below W.heap.size W w') := fun W => by
    have := refClassesD_any p f (by rw [hf, hp]; exact agrees_of d.cl) W
    refine this.mono fun e w' ⟨u, he, ho, hx⟩ => ?_
    have hl : (p.map refS).length = pn := by rw [List.length_map, hpn]
    have ho' := ho
    rw [hl] at ho'
    obtain ⟨a, c, rfl⟩ := ownsRow_form ho'
    exact ⟨a, c, he, ownsRow_arrs ho, hx⟩
  clear h0 h1 h2 hn0 hn1 hn2 hr hf hp sm hpn
  have HB0 : ∀ (V : World) , V = w.alloc (.cells #[.slice a0 n0 c0, .slice a1 n1 c1, .slice a2 n2 c2] 48) → Blk V w.heap.size #[.slice a0 n0 c0, .slice a1 n1 c1, .slice a2 n2 c2] 48 ∧ Below w.heap.size w V := fun V hV => by rw [hV]; exact ⟨Blk.new _ _ _, ((Ext.refl w).alloc _).below⟩
  have HB := Lib.hid HB0
  clear HB0
  by_cases q1 : n1 < 1
  · have d1 : decide ((n1 : Int) < 1) = true := decide_eq_true (by omega)
    have d1' : decide (n1 < 1) = true := decide_eq_true q1
    have HRR := Lib.hid (HR.out.trans (right_no (.inl (by rw [← HN1.out]; exact q1))))
    go_enter Tryz.func27, Tryz.ntmps27
    go_wp2
    go_ret
    exact ⟨by rw [HRR.out]; rfl, (HB.out _ rfl).2⟩
  · have d1 : decide ((n1 : Int) < 1) = false := decide_eq_false (by omega)
    have d1' : decide (n1 < 1) = false := decide_eq_false q1
    by_cases q2 : 4000 < n1
    · have d2 : decide ((4000 : Int) < n1) = true := decide_eq_true (by omega)
      have d2' : decide (4000 < n1) = true := decide_eq_true q2
      have HRR := Lib.hid (HR.out.trans (right_no (.inr (.inl (by rw [← HN1.out]; exact q2)))))
      go_enter Tryz.func27, Tryz.ntmps27
      go_wp2
      go_ret
      exact ⟨by rw [HRR.out]; rfl, (HB.out _ rfl).2⟩
    · have d2 : decide ((4000 : Int) < n1) = false := decide_eq_false (by omega)
      have d2' : decide (4000 < n1) = false := decide_eq_false q2
      by_cases q3 : n2 = n1
      · obtain rfl : n1 = n2 := q3.symm
        clear q3
        go_enter Tryz.func27, Tryz.ntmps27
        go_wp2_with fail
        refine calls_named ?_
        intro V hV
        have B1 := Lib.hid (HB.out V hV).1
        have X1 := Lib.hid (HB.out V hV).2
        clear hV HB d1 d1' d2 d2'
        refine (CO.out _ _ (H0.out.below X1.out)).mono ?_
        rintro e w2 ⟨rfl, hx⟩
        have B2 := Lib.hid (B1.out.ext hx)
        have X2 := Lib.hid (X1.out.trans (hx.below.mono X1.out.size))
        clear hx B1 X1
        go_wp2_with fail
        refine (CC.out _).mono ?_
        rintro e w3 ⟨a4, c4, rfl, hq, hx⟩
        have B3 := Lib.hid (B2.out.below hx B2.out.lt)
        have X3 := Lib.hid (X2.out.trans (hx.mono X2.out.size))
        have HQ := Lib.hid hq
        clear hq hx B2 X2 CO CC
        have b0 := B3.out.cell 0
        have b1 := B3.out.cell 1
        have b2 := B3.out.cell 2
        simp only [List.getElem?_toArray, List.getElem?_cons_zero, List.getElem?_cons_succ] at b0 b1 b2
        by_cases q4 : pn = n0
        · subst q4
          go_wp2
          clear b0 b1 b2
          go_loopw [5] (fun i wr => ∃ k : Nat, k ≤ pn ∧ i = .int .i64 k ∧ (∀ i x y, i < k → p[i]? = some x → d.cl[i]? = some y → x = y) ∧ Below w3.heap.size w3 wr) (fun i _ => pn - (intOf i).toNat)
          case atStart => exact ⟨0, by omega, rfl, fun i x y hi => by omega, Below.refl _ _⟩
          case round =>
            obtain ⟨k, hk, rfl, ha, hx⟩ := hrel
            obtain ⟨wo, rfl⟩ : ∃ wo : World, wo = wr := ⟨_, rfl⟩
            have HA := Lib.hid ha
            have HX := Lib.hid hx
            have B4 := Lib.hid (B3.out.below hx B3.out.lt)
            have X4 := Lib.hid (X3.out.trans (hx.mono X3.out.size))
            by_cases hlt : k < pn
            · obtain ⟨x, hxl⟩ : ∃ x, p[k]? = some x := ⟨_, List.getElem?_eq_getElem (by have := HPN.out; omega)⟩
              obtain ⟨y, hyl⟩ : ∃ y, d.cl[k]? = some y := ⟨_, List.getElem?_eq_getElem (by have := HN0.out; omega)⟩
              obtain ⟨g1, o1, rfl, hg1, r1⟩ := (HQ.out.below hx).rangeE (i := k) (f := refS x) (by rw [List.getElem?_map, hxl]; rfl)
              obtain ⟨g2, o2, rfl, hg2, r2⟩ := (H0.out.below X4.out).rangeE (i := k) (f := refS y) (by rw [List.getElem?_map, hyl]; rfl)
              have hki : (k : Int) < pn := by omega
              have R1 := Lib.hid r1
              have R2 := Lib.hid r2
              have HE := Lib.hid fun W => a56_equal (refS x) (refS y) W
              rw [eqA_refS] at HE
              obtain ⟨q, hq⟩ : ∃ q, q = (x == y) := ⟨_, rfl⟩
              rw [← hq] at HE
              have HQQ := Lib.hid hq
              have HXL := Lib.hid hxl
              have HYL := Lib.hid hyl
              have b0 := B4.out.cell 0
              simp only [List.getElem?_toArray, List.getElem?_cons_zero] at b0
              clear hxl hyl hx ha r1 r2 hq
              go_wp2
              refine wp_region_reg false (fun _ => False) (by kernel_rfl) 10 [0, 0, 3, 7, 0, 16, 0, 112, 240, 511] (fun i => false) (by kernel_rfl) (fun i => Eff.any _) ?_
              intro C hC hne
              have HC := Lib.hid hC
              have f0 := regCell hC (p := ⟨w.heap.size, 0, none⟩) (by have := B4.out.lt; exact this) (fun h => h) b0
              clear hC b0
              iterate 3 (refine regStep (fun K hK => ?_); refine regF rfl rfl ?_; unfold floatAt; go_simp; refine hK _ _ ?_; clear hK K)
              refine regStep (fun K hK => ?_)
              refine regL rfl rfl (.agg (aI (refS x))) (fun W hW hN => have hM := (HC.out W).1 hW; floatAt_load 91 (.tmp 42) rfl (g1) (o1 + k * 256) rfl (aI (refS x)) _ (rangeAt_keeps R1.out hM.keeps ⟨hg1, fun h => h⟩) Tryz.underlying91 rfl (sizeA56 _)) ?_
              go_simp
              refine hK _ _ ?_
              clear hK K
              iterate 4 (refine regStep (fun K hK => ?_); refine regF rfl rfl ?_; unfold floatAt; go_simp; refine hK _ _ ?_; clear hK K)
              refine regStep (fun K hK => ?_)
              refine regL rfl rfl (.agg (aI (refS y))) (fun W hW hN => have hM := (HC.out W).1 hW; floatAt_load 91 (.tmp 47) rfl (g2) (o2 + k * 256) rfl (aI (refS y)) _ (rangeAt_keeps R2.out hM.keeps ⟨hg2, fun h => h⟩) Tryz.underlying91 rfl (sizeA56 _)) ?_
              go_simp
              refine hK _ _ ?_
              clear hK K
              have he := HE.out
              repeat (refine regStep (fun K hK => ?_); first | (refine regN rfl ?_; try go_simp; refine hK _ _ ?_; clear hK K) | (refine regF rfl rfl ?_; unfold floatAt; go_simp; refine hK _ _ ?_; clear hK K))
              refine regNil (fun W hW hH => ?_)
              have hM := (HC.out W).1 hW
              have XX := Lib.hid (HX.out.trans (hM.below.mono HX.out.size))
              clear hM hW hH HC HX he f0
              cases q with
              | true =>
                go_wp2
                go_roundw
                case rel => exact ⟨k + 1, by omega, by go_num, fun i x' y' hi hx hy => by
                  by_cases e : i = k
                  · subst e
                    rw [HXL.out] at hx; rw [HYL.out] at hy; cases hx; cases hy
                    exact beq_iff_eq.1 HQQ.out.symm
                  · exact HA.out i x' y' (by omega) hx hy, XX.out⟩
                case measure => simp [intOf]; omega
              | false =>
                have HRR := Lib.hid (HR.out.trans (right_no (.inr (.inr (.inr (by rw [← HP.out]; exact list_ne HXL.out HYL.out (beq_eq_false_iff_ne.1 HQQ.out.symm)))))))
                go_wp2
                go_ret
                exact ⟨by rw [HRR.out]; rfl, X3.out.trans (XX.out.mono X3.out.size)⟩
            · obtain rfl : k = pn := by omega
              have HEQ : Hid ((partsOf d.cl == d.cl) = true) := Lib.hid (by rw [← HP.out]; exact list_eq_of HPN.out.symm HN0.out.symm HA.out)
              have H1' := Lib.hid (H1.out.below X4.out)
              have H2' := Lib.hid (H2.out.below X4.out)
              clear hx ha HX HA HQ H0 H1 H2 B3 X3 hk hlt HPN HP
              go_wp2
              go_loopw [6] (fun i wr => ∃ s : Nat, s ≤ n1 ∧ i = .int .i64 s ∧ (∀ j, j < s → d.rowB j = true) ∧ Below wo.heap.size wo wr) (fun i _ => n1 - (intOf i).toNat)
              case atStart => exact ⟨0, by omega, rfl, fun j hj => by omega, Below.refl _ _⟩
              case round =>
                obtain ⟨s, hs, rfl, ha, hx⟩ := hrel
                obtain ⟨wi, rfl⟩ : ∃ wi : World, wi = wr := ⟨_, rfl⟩
                have HA := Lib.hid ha
                have HX := Lib.hid hx
                have B5 := Lib.hid (B4.out.below hx B4.out.lt)
                have X5 := Lib.hid (X4.out.trans (hx.mono X4.out.size))
                by_cases hlt : s < n1
                · obtain ⟨l, hl⟩ : ∃ l, d.nx[s]? = some l := ⟨_, List.getElem?_eq_getElem (by have := HN1.out; omega)⟩
                  obtain ⟨m, hm⟩ : ∃ m, d.mr[s]? = some m := ⟨_, List.getElem?_eq_getElem (by have := HN2.out; omega)⟩
                  obtain ⟨g1, o1, e1, k1, rfl, hg1, x1, y1⟩ := (H1'.out.below hx).elem hl
                  obtain ⟨g2, o2, e2, k2, rfl, hg2, x2, y2⟩ := (H2'.out.below hx).elem hm
                  have gl := getD_some (d := ([] : List Int)) hl
                  have gm := getD_some (d := ([] : List Int)) hm
                  have ll := SM.out.nxs l (List.mem_of_getElem? hl)
                  have lm := SM.out.mks m (List.mem_of_getElem? hm)
                  have hs1 : s < d.nx.length := by have := HN1.out; omega
                  have Hs1 := Lib.hid hs1
                  have hki : (s : Int) < n1 := by omega
                  obtain ⟨j, hj⟩ : ∃ j, j = l.length := ⟨_, rfl⟩
                  obtain ⟨mj, hmj⟩ : ∃ j, j = m.length := ⟨_, rfl⟩
                  rw [← hj] at x1 y1 ll
                  rw [← hmj] at x2 y2 lm
                  have HJ := Lib.hid hj
                  have HMJ := Lib.hid hmj
                  have GL := Lib.hid gl
                  have GM := Lib.hid gm
                  have Y1 := Lib.hid y1
                  have Y2 := Lib.hid y2
                  have b1 := B5.out.cell 1
                  have b2 := B5.out.cell 2
                  simp only [List.getElem?_toArray, List.getElem?_cons_zero, List.getElem?_cons_succ] at b1 b2
                  clear hl hm hj hmj gl gm y1 y2 hs1 ha hx
                  by_cases hj0 : j = k
                  · subst hj0
                    obtain ⟨z, hz⟩ : ∃ z, z = risB m := ⟨_, rfl⟩
                    have CR : Hid (∀ W, IsSl encZ W (.slice e2 mj k2) m → Calls Tryz.prog 64 #[.slice e2 mj k2, .int .i64 0, .int .i64 256] W fun e w' => e = .returned (.bool z) ∧ Below W.heap.size W w') := fun W h => by rw [hz]; exact rising_any _ m W h (by rw [← HMJ.out]; exact lm)
                    have HZ := Lib.hid hz
                    clear hz
                    go_wp2_with fail
                    refine (CR.out _ Y2.out).mono ?_
                    rintro e w6 ⟨rfl, hx⟩
                    have B6 := Lib.hid (B5.out.below hx B5.out.lt)
                    have X6 := Lib.hid (HX.out.trans (hx.mono HX.out.size))
                    have X6' := Lib.hid (X5.out.trans (hx.mono X5.out.size))
                    have Y6 := Lib.hid (Y1.out.below hx)
                    have x6 : w6.cell? ⟨g1, o1 + s, none⟩ = some (.slice e1 j k1) := (belowCells hx).1 g1 (o1 + s) hg1 ▸ x1
                    have b6 := B6.out.cell 1
                    simp only [List.getElem?_toArray, List.getElem?_cons_zero, List.getElem?_cons_succ] at b6
                    clear hx b1 b2 x1 x2
                    cases z with
                    | false =>
                      have HRR := Lib.hid (HR.out.trans (right_row Hs1.out (row_ris (by rw [GM.out]; exact HZ.out.symm))))
                      go_wp2
                      go_ret
                      exact ⟨by rw [HRR.out]; rfl, X6'.out⟩
                    | true =>
                      go_wp2
                      go_loop [7] (fun i => ∃ c : Nat, c ≤ j ∧ i = .int .i64 c ∧ ∀ x ∈ l.take c, (!inN n1 x) = false) (fun i => j - (intOf i).toNat)
                      case atStart => exact ⟨0, by omega, rfl, fun x hx => by simp at hx⟩
                      case round =>
                        obtain ⟨c, hc, rfl, hc2⟩ := hrel
                        have HC2 := Lib.hid hc2
                        clear hc2
                        by_cases hck : c < j
                        · obtain ⟨x, hx⟩ : ∃ x, l[c]? = some x := ⟨_, List.getElem?_eq_getElem (by have := HJ.out; omega)⟩
                          obtain ⟨g3, o3, rfl, hg3, x3⟩ := Y6.out.elem hx
                          replace x3 : w6.cell? ⟨g3, o3 + c, none⟩ = some (.int .i64 x) := x3
                          have hci : (c : Int) < j := by omega
                          have HXM := Lib.hid hx
                          clear hx
                          by_cases h1 : x < 0
                          · have d1 : decide (x < 0) = true := decide_eq_true h1
                            have HRR := Lib.hid (HR.out.trans (right_row Hs1.out (row_any (by rw [GL.out, List.any_eq_true]; exact ⟨x, List.mem_of_getElem? HXM.out, by unfold inN; rw [show decide (0 ≤ x) = false from decide_eq_false (by omega)]; rfl⟩))))
                            go_wp2
                            go_ret
                            exact ⟨by rw [HRR.out]; rfl, X6'.out⟩
                          · have d1 : decide (x < 0) = false := decide_eq_false h1
                            by_cases h2 : (n1 : Int) ≤ x
                            · have d2 : decide ((n1 : Int) ≤ x) = true := decide_eq_true h2
                              have HRR := Lib.hid (HR.out.trans (right_row Hs1.out (row_any (by rw [GL.out, List.any_eq_true]; exact ⟨x, List.mem_of_getElem? HXM.out, by unfold inN; rw [← HN1.out, show decide (x < (n1 : Int)) = false from decide_eq_false (by omega), Bool.and_false]; rfl⟩))))
                              go_wp2
                              go_ret
                              exact ⟨by rw [HRR.out]; rfl, X6'.out⟩
                            · have d2 : decide ((n1 : Int) ≤ x) = false := decide_eq_false h2
                              go_wp2
                              go_round
                              case rel => exact ⟨c + 1, by omega, by go_num, take_step HXM.out (by unfold inN; rw [decide_eq_true (show 0 ≤ x by omega), decide_eq_true (show x < (n1 : Int) by omega)]; rfl) HC2.out⟩
                              case measure => simp [intOf]; omega
                        · obtain rfl : c = j := by omega
                          have hrow : ∀ j', j' < s + 1 → d.rowB j' = true := fun j' hj' => by
                            by_cases e : j' = s
                            · rw [e]
                              refine row_all (by rw [GL.out, ← HJ.out]; exact HN0.out) ?_ (by rw [GM.out]; exact HZ.out.symm)
                              rw [GL.out, List.any_eq_false, ← HN1.out]
                              intro x hx
                              have := HC2.out x (by rw [HJ.out, List.take_length]; exact hx)
                              rw [this]; decide
                            · exact HA.out j' (by omega)
                          have HROW := Lib.hid hrow
                          clear hrow
                          go_wp2
                          go_roundw
                          case rel => exact ⟨s + 1, by omega, by go_num, HROW.out, X6.out⟩
                          case measure => simp [intOf]; omega
                  · have d3 : ((j : Int) == (k : Int)) = false := by rw [beq_eq_false_iff_ne]; omega
                    have d3' : ((j : Int) != (k : Int)) = true := by simp; omega
                    have d3'' : (j == k) = false := by rw [beq_eq_false_iff_ne]; exact hj0
                    have HRR := Lib.hid (HR.out.trans (right_row Hs1.out (row_len (by rw [GL.out, ← HJ.out, ← HN0.out]; exact hj0))))
                    go_wp2
                    go_ret
                    exact ⟨by rw [HRR.out]; rfl, X5.out⟩
                · obtain rfl : s = n1 := by omega
                  have HRR := Lib.hid (HR.out.trans (right_all (by rw [← HN1.out]; omega) (by rw [← HN1.out]; omega) (by rw [← HN1.out, ← HN2.out]) HEQ.out (fun j hj => HA.out j (by rw [HN1.out]; exact hj))))
                  clear ha hx
                  go_wp2
                  go_ret
                  exact ⟨by rw [HRR.out]; rfl, X5.out⟩
        · have d3 : ((pn : Int) == (n0 : Int)) = false := by rw [beq_eq_false_iff_ne]; omega
          have d3' : ((pn : Int) != (n0 : Int)) = true := by simp; omega
          have d3'' : (pn == n0) = false := by rw [beq_eq_false_iff_ne]; exact q4
          have HRR := Lib.hid (HR.out.trans (right_no (.inr (.inr (.inr (list_len_ne (by rw [← HP.out, ← HPN.out, ← HN0.out]; exact q4)))))))
          go_wp2
          go_ret
          exact ⟨by rw [HRR.out]; rfl, X3.out⟩
      · have d3 : ((n2 : Int) == (n1 : Int)) = false := by rw [beq_eq_false_iff_ne]; omega
        have d3' : ((n2 : Int) != (n1 : Int)) = true := by simp; omega
        have d3'' : (n2 == n1) = false := by rw [beq_eq_false_iff_ne]; exact q3
        have HRR := Lib.hid (HR.out.trans (right_no (.inr (.inr (.inl (by rw [← HN1.out, ← HN2.out]; exact q3))))))
        go_enter Tryz.func27, Tryz.ntmps27
        go_wp2
        go_ret
        exact ⟨by rw [HRR.out]; rfl, (HB.out _ rfl).2⟩
end Go.Proofs.YthdnlndpmmiboaaGreatDoor
