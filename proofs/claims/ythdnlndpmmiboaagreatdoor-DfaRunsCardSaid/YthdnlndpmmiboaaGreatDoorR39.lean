/-
  The law's spoil. Printed by wip/gen/sed18.py.
  slices.Equal of bytes. Printed by wip/gen/eqb.py.
-/
import Derived.Test.YthdnlndpmmiboaaGreatDoorR15
import Derived.Test.YthdnlndpmmiboaaGreatDoorR06
namespace Go.Proofs.YthdnlndpmmiboaaGreatDoor
open Go Go.RowKit Go.Shelf Go.Maps

set_option maxRecDepth 100000 in
set_option maxHeartbeats 4000000 in
theorem spoil18_any (base : Nat) (v : Value) (d : DF) (w : World) (h : OwnDf base w v d) (sm : Sm d) (hbase : base ≤ w.heap.size) :
    Calls Tryz.prog 16 #[v] w fun e w' => (∃ u, e = .returned u) ∧ Below base w w' := by
  obtain ⟨i0, hi, hz0, hz1, hz2⟩ := info_parts Tryz.infoL
  obtain ⟨v0, v1, v2, rfl, h0, h1, h2⟩ := h
  obtain ⟨us, u1, u2, u3, u4⟩ := h1.rows
  obtain ⟨ms, m1, m2, m3, m4⟩ := h2.rows
  obtain ⟨n0, hn0⟩ : ∃ n, n = d.cl.length := ⟨_, rfl⟩
  obtain ⟨n1, hn1⟩ : ∃ n, n = us.length := ⟨_, rfl⟩
  obtain ⟨n2, hn2⟩ : ∃ n, n = ms.length := ⟨_, rfl⟩
  have l0 : n0 ≤ 1000000 := by rw [hn0]; exact sm.cl
  have l1 : n1 ≤ 1000000 := by rw [hn1, u1]; exact sm.nx
  have l2 : n2 ≤ 1000000 := by rw [hn2, m1]; exact sm.mr
  rw [← hn0] at h0
  rw [← hn1] at u2
  rw [← hn2] at m2
  obtain ⟨a0, c0, rfl⟩ := ownsRow_form h0
  obtain ⟨a1, c1, rfl⟩ := ownsRow_form u2
  obtain ⟨a2, c2, rfl⟩ := ownsRow_form m2
  have n12 : Hid ((Value.slice a1 n1 c1).ownBlock = none ∨ (Value.slice a1 n1 c1).ownBlock ≠ (Value.slice a0 n0 c0).ownBlock) := ownBlock_ne (by decide) u2 h0
  have n22 : Hid ((Value.slice a2 n2 c2).ownBlock = none ∨ (Value.slice a2 n2 c2).ownBlock ≠ (Value.slice a0 n0 c0).ownBlock) := ownBlock_ne (by decide) m2 h0
  have H0 := Lib.hid h0
  have U2 := Lib.hid u2
  have M2 := Lib.hid m2
  have UO := Lib.hid u4
  have MO := Lib.hid m4
  have HN1 := Lib.hid hn1
  have HN2 := Lib.hid hn2
  have HT : Hid (∀ u ∈ us ++ ms, RowT base w.heap.size w u) := Lib.hid fun u hu => by
    rcases List.mem_append.1 hu with hu | hu
    · exact u3 u hu
    · exact m3 u hu
  have hob : ∀ x, (Value.slice a0 n0 c0).ownBlock = some x → base ≤ x ∧ x < w.heap.size := fun x e => h0.lt x e
  have HOB := Lib.hid hob
  clear h0 u2 m2 u3 u4 m3 m4 h1 h2 hn0 hn1 hn2 u1 m1 sm hob
  go_enter Tryz.func16, Tryz.ntmps16
  go_wp2
  refine wp_named ?_
  intro V hV
  have B1 : Hid (Blk V w.heap.size #[.slice a0 n0 c0, .slice a1 n1 c1, .slice a2 n2 c2] 29) := by rw [hV]; exact Blk.new w _ _
  have X1 : Hid (Ext w V) := by rw [hV]; exact (Ext.refl w).alloc _
  clear hV
  have hV1 : w.heap.size < V.heap.size := B1.out.lt
  have b0 := B1.out.cell 0
  simp only [List.getElem?_toArray, List.getElem?_cons_zero] at b0
  go_wp2
  clear b0
  go_loopw [9] (fun i wr => ∃ k : Nat, k ≤ n0 ∧ i = .int .i64 k ∧ (∃ ys, wr.ownsRow base 65 4 (.slice a0 n0 c0) n0 ys) ∧ (∀ u ∈ us ++ ms, RowT base w.heap.size wr u) ∧ Keeps (fun x => (Value.slice a0 n0 c0).ownBlock ≠ some x) V wr) (fun i _ => n0 - (intOf i).toNat)
  case atStart => exact ⟨0, by omega, rfl, ⟨_, ownsRow_below H0.out X1.out.below⟩, fun u hu => (HT.out u hu).keeps X1.out.keeps (fun g _ h => h), Keeps.refl _ _⟩
  case round =>
    obtain ⟨k, hk, rfl, ⟨ys, ho⟩, ht, hx⟩ := hrel
    have HO := Lib.hid ho
    have HX := Lib.hid hx
    have HT2 := Lib.hid ht
    have C1 := Lib.hid (B1.out.keeps hx (fun e => by have := HOB.out _ e; omega))
    clear ho hx ht
    by_cases hlt : k < n0
    · rcases HO.out.2 with ⟨e, _⟩ | ⟨go, cap, cur, e, hbo, hgo, _⟩
      · exfalso; cases e; omega
      · cases e
        have ht : wr.there go (k * 4) 4 := ownsRow_there HO.out (by omega)
        have hdm : (k : Int) < n0 := by omega
        obtain ⟨c0, hc0⟩ := Option.isSome_iff_exists.1 (ht 0 (by decide)).1
        obtain ⟨c1, hc1⟩ := Option.isSome_iff_exists.1 (ht 1 (by decide)).1
        obtain ⟨c2, hc2⟩ := Option.isSome_iff_exists.1 (ht 2 (by decide)).1
        obtain ⟨c3, hc3⟩ := Option.isSome_iff_exists.1 (ht 3 (by decide)).1
        have d0 : wr.cell? ⟨go, k * 4, none⟩ = some c0 := hc0
        have d1 : wr.cell? ⟨go, k * 4 + 1, none⟩ = some c1 := hc1
        have d2 : wr.cell? ⟨go, k * 4 + 2, none⟩ = some c2 := hc2
        have d3 : wr.cell? ⟨go, k * 4 + 3, none⟩ = some c3 := hc3
        have z0 : wr.frozen? ⟨go, k * 4, none⟩ = false := (ht 0 (by decide)).2
        have z1 : wr.frozen? ⟨go, k * 4 + 1, none⟩ = false := (ht 1 (by decide)).2
        have z2 : wr.frozen? ⟨go, k * 4 + 2, none⟩ = false := (ht 2 (by decide)).2
        have z3 : wr.frozen? ⟨go, k * 4 + 3, none⟩ = false := (ht 3 (by decide)).2
        have b0 := C1.out.cell 0
        simp only [List.getElem?_toArray, List.getElem?_cons_zero] at b0
        clear ht hgo hc0 hc1 hc2 hc3
        go_wp2
        obtain ⟨ys2, h1, h2⟩ := ownsRow_setCells (k * 4) [.int .u64 0, .int .u64 0, .int .u64 0, .int .u64 0] (k * 4) wr ys (Nat.le_refl _) HO.out
        exact ⟨⟨k + 1, by omega, by go_num, ⟨ys2, h1⟩, fun u hu => ((((HT2.out u hu).set _ _).set _ _).set _ _).set _ _, HX.out.trans h2 (fun x hx e => hx (by rw [e]; rfl))⟩, by simp [intOf]; omega⟩
    · obtain rfl : k = n0 := by omega
      obtain ⟨wo, rfl⟩ : ∃ wo : World, wo = wr := ⟨_, rfl⟩
      have U3 : Hid (wo.ownsRow base 33 1 (.slice a1 n1 c1) n1 us) := ownsRow_keeps (ownsRow_below U2.out X1.out.below) HX.out (fun k e e' => by
        rcases n12.out with h | h
        · rw [h] at e; cases e
        · exact h (e.trans e'.symm))
      have M3 : Hid (wo.ownsRow base 33 1 (.slice a2 n2 c2) n2 ms) := ownsRow_keeps (ownsRow_below M2.out X1.out.below) HX.out (fun k e e' => by
        rcases n22.out with h | h
        · rw [h] at e; cases e
        · exact h (e.trans e'.symm))
      have hwo : V.heap.size ≤ wo.heap.size := HX.out.size
      have XB : Hid (Keeps (· < base) w wo) := (X1.out.mono fun x hx => (by have : x < base := hx; omega) : Keeps (· < base) w V).tr (HX.out.mono fun x hx e => by have := HOB.out x e; have : x < base := hx; omega)
      have c1 := C1.out.cell 1
      have c2 := C1.out.cell 2
      simp only [List.getElem?_toArray, List.getElem?_cons_zero, List.getElem?_cons_succ] at c1 c2
      have HS := Lib.hid (fun x (hx : x ≤ w.heap.size) => (by omega : x < wo.heap.size))
      clear B1 HO X1 H0 U2 M2 HT n12 n22 HX hlt hk
      go_wp2
      refine wp_region_lexK (fun x => x ≤ w.heap.size) (by kernel_rfl) (fun i => i == 2 || i == 5) (by kernel_rfl) ?_
      intro C hC hne W0 hK0 hblk hsz hx0
      have HC := Lib.hid hC
      have HK0 := Lib.hid hK0
      have HX0 := Lib.hid hx0
      refine Later.out ?_
      have f1 := lexCell hC (p := ⟨w.heap.size, 1, none⟩) (Nat.le_refl _) c1
      have f2 := lexCell hC (p := ⟨w.heap.size, 2, none⟩) (Nat.le_refl _) c2
      have X0 := Lib.hid (HX0.out.below)
      clear hC hK0 hblk hsz hx0 c1 c2
      repeat (refine laterStep (fun K hK => ?_); first | (refine lexN rfl ?_; try go_simp; refine hK _ _ ?_; clear hK K) | (refine lexF rfl rfl ?_; unfold floatAt; go_simp; refine hK _ _ ?_; clear hK K))
      refine laterStep (fun K hK => ?_)
      refine lexE rfl rfl ?_
      go_simp
      refine effAt_call ((cloneLL_any _ us _ (ownsRow_sl (e := 33) (base := base) (by simpa using ownsRow_below U3.out X0.out) HN1.out) (by rw [← HN1.out]; exact l1) UO.out).mono ?_)
      rintro e w1 ⟨uh, rfl, ho, hx⟩
      have hk1 := Keeps.stepB HK0.out HS.out hx
      refine ⟨_, rfl, (HC.out _).2 hk1, hK _ _ ?_⟩
      have HK1 := Lib.hid hk1
      clear hK K hk1
      have hsz1 : W0.heap.size ≤ w1.heap.size := hx.size
      have O1 := Lib.hid ho
      have M4 := Lib.hid (ownsRow_below (ownsRow_below M3.out X0.out) hx)
      have hsz0 : wo.heap.size ≤ W0.heap.size := HX0.out.size
      clear ho hx
      repeat (refine laterStep (fun K hK => ?_); first | (refine lexN rfl ?_; try go_simp; refine hK _ _ ?_; clear hK K) | (refine lexF rfl rfl ?_; unfold floatAt; go_simp; refine hK _ _ ?_; clear hK K))
      refine laterStep (fun K hK => ?_)
      refine lexE rfl rfl (effAt_appendS (.tmp 20) (.tmp 22) 27 rfl W0.heap.size 33 i0 (.slice none 0 0) 1 24 Tryz.underlying27 hi hz0 hz1 hz2 rfl (by decide) _ _ _ rfl O1.out _ n2 ms rfl (SrcOf.own M4.out) (by rw [HN2.out, Nat.mul_one]) MO.out (by unfold maxLen; have := HN1.out; omega) (by have := HN1.out; omega) hsz1 ?_)
      intro v' w2 ho hgr
      obtain ⟨N, hN⟩ : ∃ N, N = us.length + n2 := ⟨_, rfl⟩
      rw [← hN] at ho
      have HNN := Lib.hid hN
      clear hN
      obtain ⟨ah, ch, rfl⟩ := ownsRow_form ho
      go_simp
      have k2 := HK1.out.tr (Keeps.of_grown hgr (fun x hx => ⟨by have := HS.out x hx; omega, fun e => by have := (O1.out.lt x e.symm).1; have := HS.out x hx; omega⟩))
      refine ⟨(HC.out _).2 k2, hK _ _ ?_⟩
      have O2 := Lib.hid ho
      have HK2 := Lib.hid k2
      clear hK K ho hgr k2 O1 M4
      repeat (refine laterStep (fun K hK => ?_); first | (refine lexN rfl ?_; try go_simp; refine hK _ _ ?_; clear hK K) | (refine lexF rfl rfl ?_; unfold floatAt; go_simp; refine hK _ _ ?_; clear hK K))
      refine laterNil ?_
      have T2 : Hid (∀ u ∈ us ++ ms, RowT base w.heap.size w2 u) := Lib.hid fun u hu => (HT2.out u hu).keeps HK2.out (fun g _ h => Nat.le_of_lt h)
      have hN1 : N ≤ 2000000 := by have := HNN.out; have := HN1.out; omega
      have XB2 := Lib.hid (XB.out.tr (HK2.out.mono fun x hx => (by have : x < base := hx; omega)))
      clear HK0 HK1 HK2 HX0 X0 U3 M3 HC hne HT2 C1
      go_wp2
      go_loopw [25] (fun i wr => ∃ j : Nat, j ≤ N ∧ i = .int .i64 j ∧ (∀ u ∈ us ++ ms, RowT base w.heap.size wr u) ∧ Keeps (fun x => x < base ∨ w.heap.size ≤ x) w2 wr) (fun i _ => N - (intOf i).toNat)
      case atStart => exact ⟨0, by omega, rfl, T2.out, Keeps.refl _ _⟩
      case round =>
        obtain ⟨j, hj, rfl, ht, hx⟩ := hrel
        obtain ⟨w3, rfl⟩ : ∃ w3 : World, w3 = wr := ⟨_, rfl⟩
        have O3 := Lib.hid (ownsRow_keepsB O2.out hx fun x h1 h2 => .inr (by omega))
        have HT3 := Lib.hid ht
        have HX := Lib.hid hx
        clear ht hx
        by_cases hlt : j < N
        · have hlen : (us ++ ms).length = N := by have := O3.out.1; omega
          obtain ⟨u, hu⟩ : ∃ u, (us ++ ms)[j]? = some u := ⟨_, List.getElem?_eq_getElem (by omega)⟩
          have hum := List.mem_of_getElem? hu
          have HUM := Lib.hid hum
          rcases O3.out.2 with ⟨e, _⟩ | ⟨gh, cap, cur, e, hbo, hgo, _⟩
          · exfalso; cases e; omega
          · have hcell := O3.out.cells (g := gh) (by rw [e]; rfl) j u hu
            cases e
            rw [Addr.add_mid, Nat.zero_add] at hcell
            obtain ⟨ar, nr, cr, rfl, hnr, hrow⟩ := (HT3.out u hum).form
            have hji : (j : Int) < N := by omega
            have HROW := Lib.hid hrow
            clear hgo hbo hu hlen hum hrow
            go_wp2
            clear hcell
            go_loopw [31] (fun i wr => ∃ q : Nat, q ≤ nr ∧ i = .int .i64 q ∧ (∀ u ∈ us ++ ms, RowT base w.heap.size wr u) ∧ Keeps (fun x => x < base ∨ w.heap.size ≤ x) w2 wr) (fun i _ => nr - (intOf i).toNat)
            case atStart => exact ⟨0, by omega, rfl, HT3.out, HX.out⟩
            case round =>
              obtain ⟨q, hq, rfl, ht, hx⟩ := hrel
              obtain ⟨w4, rfl⟩ : ∃ w4 : World, w4 = wr := ⟨_, rfl⟩
              have HT4 := Lib.hid ht
              have HX4 := Lib.hid hx
              clear ht hx
              by_cases hqn : q < nr
              · obtain ⟨ar', nr', cr', e', _, hrow'⟩ := (HT4.out _ HUM.out).form
                cases e'
                obtain ⟨g, rfl, hg1, hg2, hs, hz⟩ := hrow' q hqn
                obtain ⟨x, hx⟩ := Option.isSome_iff_exists.1 hs
                have hqi : (q : Int) < nr := by omega
                clear hrow' hs
                go_wp2
                go_roundw
                case rel => exact ⟨q + 1, by omega, by go_num, fun u hu => (HT4.out u hu).set _ _, HX4.out.setCell (p := ⟨g, q, none⟩) (fun h => by
                  have h' : g < base ∨ w.heap.size ≤ g := h
                  omega) _⟩
                case measure => simp [intOf]; omega
              · obtain rfl : q = nr := by omega
                go_wp2
                go_roundw
                case rel => exact ⟨j + 1, by omega, by go_num, HT4.out, HX4.out⟩
                case measure => simp [intOf]; omega
        · obtain rfl : j = N := by omega
          go_wp2
          refine bodyPost_end (v := .tuple #[]) (by simp [results, Tryz.results16, go_sem]) rfl ⟨⟨_, rfl⟩, ?_⟩
          exact ((XB2.out.tr (HX.out.mono fun x hx => .inl hx) : Keeps (· < base) w w3)).below
end Go.Proofs.YthdnlndpmmiboaaGreatDoor
namespace Go.Proofs.YthdnlndpmmiboaaGreatDoor
open Go Go.RowKit Go.Shelf Go.Maps

set_option maxRecDepth 100000 in
set_option maxHeartbeats 1000000 in
theorem slEqB_any (v1 v2 : Value) (l1 l2 : List Nat) (w : World) (h1 : IsSl encB w v1 l1) (h2 : IsSl encB w v2 l2) (hn : l1.length ≤ 1000000) :
    Calls Tryz.prog 41 #[v1, v2] w fun e w' => e = .returned (.bool (l1 == l2)) ∧ Ext w w' := by
  obtain ⟨a1, c1, rfl⟩ := h1.form
  obtain ⟨a2, c2, rfl⟩ := h2.form
  obtain ⟨n, hnn⟩ : ∃ n, n = l1.length := ⟨_, rfl⟩
  obtain ⟨m, hmm⟩ : ∃ m, m = l2.length := ⟨_, rfl⟩
  rw [← hnn] at hn h1 ⊢
  rw [← hmm] at h2 ⊢
  obtain ⟨r, hr⟩ : ∃ r, r = (l1 == l2) := ⟨_, rfl⟩
  rw [← hr]
  have H1 := Lib.hid h1
  have H2 := Lib.hid h2
  have HN := Lib.hid hnn
  have HM := Lib.hid hmm
  have HR := Lib.hid hr
  clear h1 h2 hnn hmm hr
  by_cases hnm : n = m
  · subst hnm
    go_enter Tryz.func41, Tryz.ntmps41
    go_wp2
    go_loopw [13] (fun i wr => ∃ k : Nat, k ≤ n ∧ i = .int .i64 k ∧ l1.take k = l2.take k ∧ Ext w wr) (fun i _ => n - (intOf i).toNat)
    case atStart => exact ⟨0, by omega, rfl, rfl, Ext.refl _⟩
    case round =>
      obtain ⟨k, hk, rfl, ht, hx⟩ := hrel
      obtain ⟨wo, rfl⟩ : ∃ wo : World, wo = wr := ⟨_, rfl⟩
      by_cases hlt : k < n
      · obtain ⟨x, hxl⟩ : ∃ x, l1[k]? = some x := ⟨_, List.getElem?_eq_getElem (by have := HN.out; omega)⟩
        obtain ⟨y, hyl⟩ : ∃ y, l2[k]? = some y := ⟨_, List.getElem?_eq_getElem (by have := HM.out; omega)⟩
        obtain ⟨g1, o1, rfl, hg1, hc1⟩ := H1.out.elem hxl
        obtain ⟨g2, o2, rfl, hg2, hc2⟩ := H2.out.elem hyl
        have d1 : wo.cell? ⟨g1, o1 + k, none⟩ = some (.int .u8 x) := (hx.cell (p := ⟨g1, o1 + k, none⟩) hg1).trans hc1
        have d2 : wo.cell? ⟨g2, o2 + k, none⟩ = some (.int .u8 y) := (hx.cell (p := ⟨g2, o2 + k, none⟩) hg2).trans hc2
        have HXL := Lib.hid hxl
        have HYL := Lib.hid hyl
        have HT := Lib.hid ht
        have HX := Lib.hid hx
        clear hxl hyl ht hx hc1 hc2
        go_wp2
        refine wp_region_lexK (fun b => b = g1 ∨ b = g2) (by kernel_rfl) (fun i => false) (by kernel_rfl) ?_
        intro C hC hne W0 hK0 hblk hsz hx0
        have f1 := lexCell hC (.inl rfl) d1
        have f2 := lexCell hC (.inr rfl) d2
        have HX0 := Lib.hid hx0
        clear hC hK0 hblk hsz hx0 d1 d2
        repeat (refine wpLex_step (fun K hK => ?_); refine lexOp_float rfl ?_; unfold floatAt; go_simp; refine hK _ _ ?_; clear hK K)
        refine wpLex_nil ?_
        by_cases hxy : x = y
        · subst hxy
          have dxy : ((x : Int) != x) = false := by simp
          go_wp2
          go_roundw
          case rel =>
            refine ⟨k + 1, by omega, by go_num, ?_, HX.out.trans HX0.out⟩
            rw [List.take_add_one, List.take_add_one, HXL.out, HYL.out, HT.out]
          case measure => simp [intOf]; omega
        · have dxy : ((x : Int) != y) = true := by simp; omega
          have hr : r = false := by
            rw [HR.out, beq_eq_false_iff_ne]
            intro e
            have h1 := HXL.out
            rw [e, HYL.out] at h1
            exact hxy (Option.some.inj h1).symm
          have HRR := Lib.hid hr
          clear hr
          go_wp2
          go_ret
          exact ⟨by rw [HRR.out]; rfl, HX.out.trans HX0.out⟩
      · obtain rfl : k = n := by omega
        have hr : r = true := by
          rw [HR.out, beq_iff_eq, ← List.take_of_length_le (l := l1) (i := k) (by have := HN.out; omega), ht, List.take_of_length_le (by have := HM.out; omega)]
        have HRR := Lib.hid hr
        have HX := Lib.hid hx
        clear ht hr hx
        go_wp2
        go_ret
        exact ⟨by rw [HRR.out]; rfl, HX.out⟩
  · have hr : r = false := by
      rw [HR.out, beq_eq_false_iff_ne]
      intro e
      have h1 := HN.out; have h2 := HM.out
      rw [e] at h1; omega
    have HRR := Lib.hid hr
    clear hr
    go_enter Tryz.func41, Tryz.ntmps41
    go_wp2
    go_ret
    exact ⟨by rw [HRR.out]; rfl, Ext.refl _⟩
end Go.Proofs.YthdnlndpmmiboaaGreatDoor
