/-
  The law's same, where it holds. Printed by wip/gen/sed18.py.
  The law's spoil. Printed by wip/gen/sed18.py.
  Equal where empty rows may lie anywhere; nfa.Same, where it holds. Printed by wip/gen/nsame.py.
-/
import Derived.Test.YthdnlndpmmiboaaGreatDoorM18
import Derived.Test.YthdnlndpmmiboaaGreatDoorM14
import Derived.Test.YthdnlndpmmiboaaGreatDoorM21
import Derived.Test.YthdnlndpmmiboaaGreatDoorM12
namespace Go.Proofs.YthdnlndpmmiboaaGreatDoor
open Go Go.RowKit Go.Shelf Go.Maps

set_option maxRecDepth 100000 in
set_option maxHeartbeats 4000000 in
theorem same18_any (v v' : Value) (d : DF) (w : World) (h : IsDf w v d) (h' : IsRf w v' d) (sm : Sm d) :
    Calls Tryz.prog 15 #[v, v'] w fun e w' => e = .returned (.bool true) ∧ Below w.heap.size w w' := by
  have CT : Hid (∀ W, Below w.heap.size w W → Calls Tryz.prog 24 #[v] W fun e w' => ∃ u, e = .returned u ∧ IsRf w' u d ∧ Below W.heap.size W w') := fun W hW => (theirs18_any v d W (h.below hW).e sm).mono fun e w' ⟨u, h1, h2, h3⟩ => ⟨u, h1, h2.rf, h3⟩
  obtain ⟨v0, v1, v2, rfl, h0, h1, h2⟩ := h
  obtain ⟨a0, c0, rfl⟩ := h0.1.form
  obtain ⟨a1, c1, rfl⟩ := h1.form
  obtain ⟨a2, c2, rfl⟩ := h2.form
  obtain ⟨u0, u1, u2, rfl, g0, g1, g2⟩ := h'
  obtain ⟨b0, e0, rfl⟩ := g0.form
  obtain ⟨b1, e1, rfl⟩ := g1.form
  obtain ⟨b2, e2, rfl⟩ := g2.form
  have SM := Lib.hid sm
  have eg := eg_eqI
  rw [List.length_map] at g0 ⊢
  obtain ⟨n0, hn0⟩ : ∃ n, n = d.cl.length := ⟨_, rfl⟩
  obtain ⟨n1, hn1⟩ : ∃ n, n = d.nx.length := ⟨_, rfl⟩
  obtain ⟨n2, hn2⟩ : ∃ n, n = d.mr.length := ⟨_, rfl⟩
  have HN0 := Lib.hid hn0
  have HN1 := Lib.hid hn1
  have HN2 := Lib.hid hn2
  rw [← hn0, ← hn1, ← hn2] at CT ⊢
  rw [← hn0] at g0
  rw [← hn1] at g1
  rw [← hn2] at g2
  have G0 := Lib.hid g0
  have G1 := Lib.hid g1
  have G2 := Lib.hid g2
  clear h0 h1 h2 g0 g1 g2 hn0 hn1 hn2 sm
  go_enter Tryz.func15, Tryz.ntmps15
  go_wp2_with fail
  refine calls_named ?_
  intro V hV
  have B3 : Hid (Blk V (w.heap.size + 1) #[.slice b0 n0 e0, .slice b1 n1 e1, .slice b2 n2 e2] 48) := by rw [hV]; exact (Blk.new (w.alloc _) _ _).at (by simp)
  have HX : Hid (Below w.heap.size w V) := by rw [hV]; exact (((Ext.refl w).alloc _).alloc _).below
  clear hV
  refine (CT.out V HX.out).mono ?_
  rintro e w1 ⟨u, rfl, ⟨q0, q1, q2, rfl, r0, r1, r2⟩, hx⟩
  obtain ⟨s0, f0, rfl⟩ := r0.form
  obtain ⟨s1, f1, rfl⟩ := r1.form
  obtain ⟨s2, f2, rfl⟩ := r2.form
  rw [List.length_map] at r0 ⊢
  rw [← HN0.out] at r0 ⊢
  rw [← HN1.out] at r1 ⊢
  rw [← HN2.out] at r2 ⊢
  have R0 := Lib.hid r0
  have R1 := Lib.hid r1
  have R2 := Lib.hid r2
  have C3 := Lib.hid (B3.out.below hx B3.out.lt)
  have XX := Lib.hid (HX.out.trans (hx.mono HX.out.size))
  clear r0 r1 r2 hx B3 HX
  have k0 := fun o => (C3.out.alloc o).three.1.1
  go_wp2_with fail
  refine calls_named ?_
  intro V2 hV2
  have X2 : Hid (Ext w1 V2) := by rw [hV2]; exact (Ext.refl _).alloc _
  have B5 : Hid (Blk V2 w1.heap.size #[.slice s0 n0 f0, .slice s1 n1 f1, .slice s2 n2 f2] 48) := by rw [hV2]; exact Blk.new _ _ _
  clear hV2 k0
  refine (eqArrs_any _ _ _ V2 (R0.out.below X2.out.below) ((G0.out.below XX.out).below X2.out.below) (by rw [List.length_map]; exact SM.out.cl)).mono ?_
  rintro e w3 ⟨rfl, hx⟩
  have X3 := Lib.hid (X2.out.below.trans (hx.mono X2.out.size))
  have D3 := Lib.hid (C3.out.below X3.out C3.out.lt)
  have D5 := Lib.hid (B5.out.below hx B5.out.lt)
  clear hx
  obtain ⟨⟨k0, k1, k2⟩, _⟩ := D3.out.three
  obtain ⟨⟨l0, l1, l2⟩, _⟩ := D5.out.three
  go_wp2_with fail
  refine (eqLL_any _ _ d.nx _ (R1.out.below X3.out) ((G1.out.below XX.out).below X3.out) SM.out.nx SM.out.nxs).mono ?_
  rintro e w4 ⟨rfl, hx⟩
  have X4 := Lib.hid (X3.out.trans (hx.mono X3.out.size))
  have E3 := Lib.hid (D3.out.below hx D3.out.lt)
  have E5 := Lib.hid (D5.out.below hx D5.out.lt)
  clear hx k0 k1 k2 l0 l1 l2
  obtain ⟨⟨k0, k1, k2⟩, _⟩ := E3.out.three
  obtain ⟨⟨l0, l1, l2⟩, _⟩ := E5.out.three
  go_wp2_with fail
  refine (eqLL_any _ _ d.mr _ (R2.out.below X4.out) ((G2.out.below XX.out).below X4.out) SM.out.mr SM.out.mks).mono ?_
  rintro e w5 ⟨rfl, hx⟩
  have X5 := Lib.hid (X4.out.trans (hx.mono X4.out.size))
  clear hx k0 k1 k2 l0 l1 l2
  go_wp2
  go_ret
  exact ⟨rfl, XX.out.trans (X5.out.mono XX.out.size)⟩
end Go.Proofs.YthdnlndpmmiboaaGreatDoor
namespace Go.Proofs.YthdnlndpmmiboaaGreatDoor
open Go Go.RowKit Go.Shelf Go.Maps

set_option maxRecDepth 100000 in
set_option maxHeartbeats 4000000 in
theorem spoil18_any (base : Nat) (v : Value) (d : DF) (w : World) (h : OwnDf base w v d) (sm : Sm d) (hbase : base ≤ w.heap.size) :
    Calls Tryz.prog 16 #[v] w fun e w' => (∃ u, e = .returned u) ∧ Below base w w' := by
  obtain ⟨i0, hi, hz0, hz1, hz2⟩ := info_parts Tryz.infoL
  obtain ⟨v0, v1, v2, rfl, h0, h1, h2⟩ := h
  obtain ⟨us, u1, u2, u3, u4⟩ := h1.rows
  obtain ⟨ms, m1, m2, m3, m4⟩ := h2.rows
  obtain ⟨n0, hn0⟩ : ∃ n, n = d.cl.length := ⟨_, rfl⟩
  obtain ⟨n1, hn1⟩ : ∃ n, n = us.length := ⟨_, rfl⟩
  obtain ⟨n2, hn2⟩ : ∃ n, n = ms.length := ⟨_, rfl⟩
  have l0 : n0 ≤ 1000000 := by rw [hn0]; exact sm.cl
  have l1 : n1 ≤ 1000000 := by rw [hn1, u1]; exact sm.nx
  have l2 : n2 ≤ 1000000 := by rw [hn2, m1]; exact sm.mr
  rw [← hn0] at h0
  rw [← hn1] at u2
  rw [← hn2] at m2
  obtain ⟨a0, c0, rfl⟩ := ownsRow_form h0
  obtain ⟨a1, c1, rfl⟩ := ownsRow_form u2
  obtain ⟨a2, c2, rfl⟩ := ownsRow_form m2
  have n12 : Hid ((Value.slice a1 n1 c1).ownBlock = none ∨ (Value.slice a1 n1 c1).ownBlock ≠ (Value.slice a0 n0 c0).ownBlock) := ownBlock_ne (by decide) u2 h0
  have n22 : Hid ((Value.slice a2 n2 c2).ownBlock = none ∨ (Value.slice a2 n2 c2).ownBlock ≠ (Value.slice a0 n0 c0).ownBlock) := ownBlock_ne (by decide) m2 h0
  have H0 := Lib.hid h0
  have U2 := Lib.hid u2
  have M2 := Lib.hid m2
  have UO := Lib.hid u4
  have MO := Lib.hid m4
  have HN1 := Lib.hid hn1
  have HN2 := Lib.hid hn2
  have HT : Hid (∀ u ∈ us ++ ms, RowT base w.heap.size w u) := Lib.hid fun u hu => by
    rcases List.mem_append.1 hu with hu | hu
    · exact u3 u hu
    · exact m3 u hu
  have hob : ∀ x, (Value.slice a0 n0 c0).ownBlock = some x → base ≤ x ∧ x < w.heap.size := fun x e => h0.lt x e
  have HOB := Lib.hid hob
  clear h0 u2 m2 u3 u4 m3 m4 h1 h2 hn0 hn1 hn2 u1 m1 sm hob
  go_enter Tryz.func16, Tryz.ntmps16
  go_wp2
  refine wp_named ?_
  intro V hV
  have B1 : Hid (Blk V w.heap.size #[.slice a0 n0 c0, .slice a1 n1 c1, .slice a2 n2 c2] 29) := by rw [hV]; exact Blk.new w _ _
  have X1 : Hid (Ext w V) := by rw [hV]; exact (Ext.refl w).alloc _
  clear hV
  have hV1 : w.heap.size < V.heap.size := B1.out.lt
  have b0 := B1.out.cell 0
  simp only [List.getElem?_toArray, List.getElem?_cons_zero] at b0
  go_wp2
  clear b0
  go_loopw [9] (fun i wr => ∃ k : Nat, k ≤ n0 ∧ i = .int .i64 k ∧ (∃ ys, wr.ownsRow base 65 4 (.slice a0 n0 c0) n0 ys) ∧ (∀ u ∈ us ++ ms, RowT base w.heap.size wr u) ∧ Keeps (fun x => (Value.slice a0 n0 c0).ownBlock ≠ some x) V wr) (fun i _ => n0 - (intOf i).toNat)
  case atStart => exact ⟨0, by omega, rfl, ⟨_, ownsRow_below H0.out X1.out.below⟩, fun u hu => (HT.out u hu).keeps X1.out.keeps (fun g _ h => h), Keeps.refl _ _⟩
  case round =>
    obtain ⟨k, hk, rfl, ⟨ys, ho⟩, ht, hx⟩ := hrel
    have HO := Lib.hid ho
    have HX := Lib.hid hx
    have HT2 := Lib.hid ht
    have C1 := Lib.hid (B1.out.keeps hx (fun e => by have := HOB.out _ e; omega))
    clear ho hx ht
    by_cases hlt : k < n0
    · rcases HO.out.2 with ⟨e, _⟩ | ⟨go, cap, cur, e, hbo, hgo, _⟩
      · exfalso; cases e; omega
      · cases e
        have ht : wr.there go (k * 4) 4 := ownsRow_there HO.out (by omega)
        have hdm : (k : Int) < n0 := by omega
        obtain ⟨c0, hc0⟩ := Option.isSome_iff_exists.1 (ht 0 (by decide)).1
        obtain ⟨c1, hc1⟩ := Option.isSome_iff_exists.1 (ht 1 (by decide)).1
        obtain ⟨c2, hc2⟩ := Option.isSome_iff_exists.1 (ht 2 (by decide)).1
        obtain ⟨c3, hc3⟩ := Option.isSome_iff_exists.1 (ht 3 (by decide)).1
        have d0 : wr.cell? ⟨go, k * 4, none⟩ = some c0 := hc0
        have d1 : wr.cell? ⟨go, k * 4 + 1, none⟩ = some c1 := hc1
        have d2 : wr.cell? ⟨go, k * 4 + 2, none⟩ = some c2 := hc2
        have d3 : wr.cell? ⟨go, k * 4 + 3, none⟩ = some c3 := hc3
        have z0 : wr.frozen? ⟨go, k * 4, none⟩ = false := (ht 0 (by decide)).2
        have z1 : wr.frozen? ⟨go, k * 4 + 1, none⟩ = false := (ht 1 (by decide)).2
        have z2 : wr.frozen? ⟨go, k * 4 + 2, none⟩ = false := (ht 2 (by decide)).2
        have z3 : wr.frozen? ⟨go, k * 4 + 3, none⟩ = false := (ht 3 (by decide)).2
        have b0 := C1.out.cell 0
        simp only [List.getElem?_toArray, List.getElem?_cons_zero] at b0
        clear ht hgo hc0 hc1 hc2 hc3
        go_wp2
        obtain ⟨ys2, h1, h2⟩ := ownsRow_setCells (k * 4) [.int .u64 0, .int .u64 0, .int .u64 0, .int .u64 0] (k * 4) wr ys (Nat.le_refl _) HO.out
        exact ⟨⟨k + 1, by omega, by go_num, ⟨ys2, h1⟩, fun u hu => ((((HT2.out u hu).set _ _).set _ _).set _ _).set _ _, HX.out.trans h2 (fun x hx e => hx (by rw [e]; rfl))⟩, by simp [intOf]; omega⟩
    · obtain rfl : k = n0 := by omega
      obtain ⟨wo, rfl⟩ : ∃ wo : World, wo = wr := ⟨_, rfl⟩
      have U3 : Hid (wo.ownsRow base 33 1 (.slice a1 n1 c1) n1 us) := ownsRow_keeps (ownsRow_below U2.out X1.out.below) HX.out (fun k e e' => by
        rcases n12.out with h | h
        · rw [h] at e; cases e
        · exact h (e.trans e'.symm))
      have M3 : Hid (wo.ownsRow base 33 1 (.slice a2 n2 c2) n2 ms) := ownsRow_keeps (ownsRow_below M2.out X1.out.below) HX.out (fun k e e' => by
        rcases n22.out with h | h
        · rw [h] at e; cases e
        · exact h (e.trans e'.symm))
      have hwo : V.heap.size ≤ wo.heap.size := HX.out.size
      have XB : Hid (Keeps (· < base) w wo) := (X1.out.mono fun x hx => (by have : x < base := hx; omega) : Keeps (· < base) w V).tr (HX.out.mono fun x hx e => by have := HOB.out x e; have : x < base := hx; omega)
      have c1 := C1.out.cell 1
      have c2 := C1.out.cell 2
      simp only [List.getElem?_toArray, List.getElem?_cons_zero, List.getElem?_cons_succ] at c1 c2
      have HS := Lib.hid (fun x (hx : x ≤ w.heap.size) => (by omega : x < wo.heap.size))
      clear B1 HO X1 H0 U2 M2 HT n12 n22 HX hlt hk
      go_wp2
      refine wp_region_lexK (fun x => x ≤ w.heap.size) (by kernel_rfl) (fun i => i == 2 || i == 5) (by kernel_rfl) ?_
      intro C hC hne W0 hK0 hblk hsz hx0
      have HC := Lib.hid hC
      have HK0 := Lib.hid hK0
      have HX0 := Lib.hid hx0
      refine Later.out ?_
      have f1 := lexCell hC (p := ⟨w.heap.size, 1, none⟩) (Nat.le_refl _) c1
      have f2 := lexCell hC (p := ⟨w.heap.size, 2, none⟩) (Nat.le_refl _) c2
      have X0 := Lib.hid (HX0.out.below)
      clear hC hK0 hblk hsz hx0 c1 c2
      repeat (refine laterStep (fun K hK => ?_); first | (refine lexN rfl ?_; try go_simp; refine hK _ _ ?_; clear hK K) | (refine lexF rfl rfl ?_; unfold floatAt; go_simp; refine hK _ _ ?_; clear hK K))
      refine laterStep (fun K hK => ?_)
      refine lexE rfl rfl ?_
      go_simp
      refine effAt_call ((cloneLL_any _ us _ (ownsRow_sl (e := 33) (base := base) (by simpa using ownsRow_below U3.out X0.out) HN1.out) (by rw [← HN1.out]; exact l1) UO.out).mono ?_)
      rintro e w1 ⟨uh, rfl, ho, hx⟩
      have hk1 := Keeps.stepB HK0.out HS.out hx
      refine ⟨_, rfl, (HC.out _).2 hk1, hK _ _ ?_⟩
      have HK1 := Lib.hid hk1
      clear hK K hk1
      have hsz1 : W0.heap.size ≤ w1.heap.size := hx.size
      have O1 := Lib.hid ho
      have M4 := Lib.hid (ownsRow_below (ownsRow_below M3.out X0.out) hx)
      have hsz0 : wo.heap.size ≤ W0.heap.size := HX0.out.size
      clear ho hx
      repeat (refine laterStep (fun K hK => ?_); first | (refine lexN rfl ?_; try go_simp; refine hK _ _ ?_; clear hK K) | (refine lexF rfl rfl ?_; unfold floatAt; go_simp; refine hK _ _ ?_; clear hK K))
      refine laterStep (fun K hK => ?_)
      refine lexE rfl rfl (effAt_appendS (.tmp 20) (.tmp 22) 27 rfl W0.heap.size 33 i0 (.slice none 0 0) 1 24 Tryz.underlying27 hi hz0 hz1 hz2 rfl (by decide) _ _ _ rfl O1.out _ n2 ms rfl (SrcOf.own M4.out) (by rw [HN2.out, Nat.mul_one]) MO.out (by unfold maxLen; have := HN1.out; omega) (by have := HN1.out; omega) hsz1 ?_)
      intro v' w2 ho hgr
      obtain ⟨N, hN⟩ : ∃ N, N = us.length + n2 := ⟨_, rfl⟩
      rw [← hN] at ho
      have HNN := Lib.hid hN
      clear hN
      obtain ⟨ah, ch, rfl⟩ := ownsRow_form ho
      go_simp
      have k2 := HK1.out.tr (Keeps.of_grown hgr (fun x hx => ⟨by have := HS.out x hx; omega, fun e => by have := (O1.out.lt x e.symm).1; have := HS.out x hx; omega⟩))
      refine ⟨(HC.out _).2 k2, hK _ _ ?_⟩
      have O2 := Lib.hid ho
      have HK2 := Lib.hid k2
      clear hK K ho hgr k2 O1 M4
      repeat (refine laterStep (fun K hK => ?_); first | (refine lexN rfl ?_; try go_simp; refine hK _ _ ?_; clear hK K) | (refine lexF rfl rfl ?_; unfold floatAt; go_simp; refine hK _ _ ?_; clear hK K))
      refine laterNil ?_
      have T2 : Hid (∀ u ∈ us ++ ms, RowT base w.heap.size w2 u) := Lib.hid fun u hu => (HT2.out u hu).keeps HK2.out (fun g _ h => Nat.le_of_lt h)
      have hN1 : N ≤ 2000000 := by have := HNN.out; have := HN1.out; omega
      have XB2 := Lib.hid (XB.out.tr (HK2.out.mono fun x hx => (by have : x < base := hx; omega)))
      clear HK0 HK1 HK2 HX0 X0 U3 M3 HC hne HT2 C1
      go_wp2
      go_loopw [25] (fun i wr => ∃ j : Nat, j ≤ N ∧ i = .int .i64 j ∧ (∀ u ∈ us ++ ms, RowT base w.heap.size wr u) ∧ Keeps (fun x => x < base ∨ w.heap.size ≤ x) w2 wr) (fun i _ => N - (intOf i).toNat)
      case atStart => exact ⟨0, by omega, rfl, T2.out, Keeps.refl _ _⟩
      case round =>
        obtain ⟨j, hj, rfl, ht, hx⟩ := hrel
        obtain ⟨w3, rfl⟩ : ∃ w3 : World, w3 = wr := ⟨_, rfl⟩
        have O3 := Lib.hid (ownsRow_keepsB O2.out hx fun x h1 h2 => .inr (by omega))
        have HT3 := Lib.hid ht
        have HX := Lib.hid hx
        clear ht hx
        by_cases hlt : j < N
        · have hlen : (us ++ ms).length = N := by have := O3.out.1; omega
          obtain ⟨u, hu⟩ : ∃ u, (us ++ ms)[j]? = some u := ⟨_, List.getElem?_eq_getElem (by omega)⟩
          have hum := List.mem_of_getElem? hu
          have HUM := Lib.hid hum
          rcases O3.out.2 with ⟨e, _⟩ | ⟨gh, cap, cur, e, hbo, hgo, _⟩
          · exfalso; cases e; omega
          · have hcell := O3.out.cells (g := gh) (by rw [e]; rfl) j u hu
            cases e
            rw [Addr.add_mid, Nat.zero_add] at hcell
            obtain ⟨ar, nr, cr, rfl, hnr, hrow⟩ := (HT3.out u hum).form
            have hji : (j : Int) < N := by omega
            have HROW := Lib.hid hrow
            clear hgo hbo hu hlen hum hrow
            go_wp2
            clear hcell
            go_loopw [31] (fun i wr => ∃ q : Nat, q ≤ nr ∧ i = .int .i64 q ∧ (∀ u ∈ us ++ ms, RowT base w.heap.size wr u) ∧ Keeps (fun x => x < base ∨ w.heap.size ≤ x) w2 wr) (fun i _ => nr - (intOf i).toNat)
            case atStart => exact ⟨0, by omega, rfl, HT3.out, HX.out⟩
            case round =>
              obtain ⟨q, hq, rfl, ht, hx⟩ := hrel
              obtain ⟨w4, rfl⟩ : ∃ w4 : World, w4 = wr := ⟨_, rfl⟩
              have HT4 := Lib.hid ht
              have HX4 := Lib.hid hx
              clear ht hx
              by_cases hqn : q < nr
              · obtain ⟨ar', nr', cr', e', _, hrow'⟩ := (HT4.out _ HUM.out).form
                cases e'
                obtain ⟨g, rfl, hg1, hg2, hs, hz⟩ := hrow' q hqn
                obtain ⟨x, hx⟩ := Option.isSome_iff_exists.1 hs
                have hqi : (q : Int) < nr := by omega
                clear hrow' hs
                go_wp2
                go_roundw
                case rel => exact ⟨q + 1, by omega, by go_num, fun u hu => (HT4.out u hu).set _ _, HX4.out.setCell (p := ⟨g, q, none⟩) (fun h => by
                  have h' : g < base ∨ w.heap.size ≤ g := h
                  omega) _⟩
                case measure => simp [intOf]; omega
              · obtain rfl : q = nr := by omega
                go_wp2
                go_roundw
                case rel => exact ⟨j + 1, by omega, by go_num, HT4.out, HX4.out⟩
                case measure => simp [intOf]; omega
        · obtain rfl : j = N := by omega
          go_wp2
          refine bodyPost_end (v := .tuple #[]) (by simp [results, Tryz.results16, go_sem]) rfl ⟨⟨_, rfl⟩, ?_⟩
          exact ((XB2.out.tr (HX.out.mono fun x hx => .inl hx) : Keeps (· < base) w w3)).below
end Go.Proofs.YthdnlndpmmiboaaGreatDoor
namespace Go.Proofs.YthdnlndpmmiboaaGreatDoor
open Go Go.RowKit Go.Shelf Go.Maps

set_option maxRecDepth 100000 in
set_option maxHeartbeats 2000000 in
theorem slEq_nil (a1 a2 : Option Addr) (c1 c2 : Nat) (w : World) : Calls Tryz.prog 21 #[.slice a1 0 c1, .slice a2 0 c2] w fun e w' => e = .returned (.bool true) ∧ Ext w w' := by
  go_enter Tryz.func21, Tryz.ntmps21
  go_wp2
  go_loopw [13] (fun i wr => i = .int .i64 0 ∧ Ext w wr) (fun _ _ => 0)
  case atStart => exact ⟨rfl, Ext.refl _⟩
  case round =>
    obtain ⟨rfl, hx⟩ := hrel
    obtain ⟨wo, rfl⟩ : ∃ wo : World, wo = wr := ⟨_, rfl⟩
    have HX := Lib.hid hx
    clear hx
    go_wp2
    go_ret
    exact ⟨rfl, HX.out⟩
theorem slEqE_any (v1 v2 : Value) (l : List Int) (w : World) (h1 : IsSlE encZ w v1 l) (h2 : IsSlE encZ w v2 l) (hn : l.length ≤ 1000000) :
    Calls Tryz.prog 21 #[v1, v2] w fun e w' => e = .returned (.bool true) ∧ Ext w w' := by
  cases l with
  | nil =>
    obtain ⟨a1, c1, rfl⟩ := h1.form
    obtain ⟨a2, c2, rfl⟩ := h2.form
    exact slEq_nil a1 a2 c1 c2 w
  | cons x l =>
    have g1 : IsSl encZ w v1 (x :: l) := by
      rcases h1 with h | ⟨h, _⟩
      · exact h
      · cases h
    have g2 : IsSl encZ w v2 (x :: l) := by
      rcases h2 with h | ⟨h, _⟩
      · exact h
      · cases h
    have := slEqual_any v1 v2 _ _ w g1 g2 hn
    rwa [beq_self_eq_true] at this
set_option maxRecDepth 100000 in
set_option maxHeartbeats 2000000 in
theorem eqLLe_any (v1 v2 : Value) (ll : List (List Int)) (w : World) (h1 : IsLLE w v1 ll) (h2 : IsLLE w v2 ll) (hn : ll.length ≤ 1000000) (hs : ∀ l ∈ ll, l.length ≤ 1000000) :
    Calls Tryz.prog 60 #[v1, v2, .func (.func 21) #[] #[]] w fun e w' => e = .returned (.bool true) ∧ Below w.heap.size w w' := by
  obtain ⟨a1, c1, rfl⟩ := h1.form
  obtain ⟨a2, c2, rfl⟩ := h2.form
  obtain ⟨n, hnn⟩ : ∃ n, n = ll.length := ⟨_, rfl⟩
  rw [← hnn] at h1 h2 hn ⊢
  have HN := Lib.hid hnn
  have H1 := Lib.hid h1
  have H2 := Lib.hid h2
  have HS := Lib.hid hs
  have eg := eg_eqI
  clear h1 h2 hnn hs
  go_enter Tryz.func60, Tryz.ntmps60
  go_wp2
  go_loopw [17] (fun i wr => ∃ k : Nat, k ≤ n ∧ i = .int .i64 k ∧ Below w.heap.size w wr) (fun i _ => n - (intOf i).toNat)
  case atStart => exact ⟨0, by omega, rfl, Below.refl _ _⟩
  case round =>
    obtain ⟨k, hk, rfl, hx⟩ := hrel
    obtain ⟨wo, rfl⟩ : ∃ wo : World, wo = wr := ⟨_, rfl⟩
    have HX := Lib.hid hx
    by_cases hlt : k < n
    · obtain ⟨l, hl⟩ : ∃ l, ll[k]? = some l := ⟨_, List.getElem?_eq_getElem (by have := HN.out; omega)⟩
      obtain ⟨b, off, e1, k1, rfl, hb, x1, y1⟩ := (H1.out.below hx).elem hl
      obtain ⟨b', off', e2, k2, rfl, hb', x2, y2⟩ := (H2.out.below hx).elem hl
      have hki : (k : Int) < n := by omega
      have CE : Hid (Calls Tryz.prog 21 #[.slice e1 l.length k1, .slice e2 l.length k2] wo fun e w' => e = .returned (.bool true) ∧ Ext wo w') := Lib.hid (by
        exact slEqE_any _ _ l wo y1 y2 (HS.out l (List.mem_of_getElem? hl)))
      obtain ⟨j, hj⟩ : ∃ j, j = l.length := ⟨_, rfl⟩
      rw [← hj] at x1 x2 CE
      clear hl y1 y2 hx hj
      go_wp2_with fail
      refine (CE.out).mono ?_
      rintro e w2 ⟨rfl, hx⟩
      have XX := Lib.hid (HX.out.trans (hx.below.mono HX.out.size))
      clear hx x1 x2
      go_wp2
      go_roundw
      case rel => exact ⟨k + 1, by omega, by go_num, XX.out⟩
      case measure => simp [intOf]; omega
    · clear hx
      go_wp2
      go_ret
      exact ⟨rfl, HX.out⟩

set_option maxRecDepth 100000 in
set_option maxHeartbeats 4000000 in
theorem nsame_any (v v' : Value) (a : NF) (sm : SmN a) (w : World) (h : IsNfe w v a) (h' : IsNfe w v' a) :
    Calls Tryz.prog 17 #[v, v'] w fun e w' => e = .returned (.bool true) ∧ Below w.heap.size w w' := by
  obtain ⟨v0, v1, v2, v3, rfl, h0, h1, h2, h3⟩ := h
  obtain ⟨u0, u1, u2, u3, rfl, g0, g1, g2, g3⟩ := h'
  have C0 : Hid (∀ W, Below w.heap.size w W → Calls Tryz.prog 61 #[v0, u0] W fun e w' => e = .returned (.bool true) ∧ Ext W w') := Lib.hid fun W hW => setsEqualE_any _ _ a.sets W (h0.below hW) (g0.below hW) sm.sets
  have C1 : Hid (∀ W, Below w.heap.size w W → Calls Tryz.prog 60 #[v1, u1, .func (.func 21) #[] #[]] W fun e w' => e = .returned (.bool true) ∧ Below W.heap.size W w') := Lib.hid fun W hW => eqLLe_any _ _ a.fol W (h1.below hW) (g1.below hW) sm.fol sm.row
  have C2 : Hid (∀ W, Below w.heap.size w W → Calls Tryz.prog 21 #[v2, u2] W fun e w' => e = .returned (.bool true) ∧ Ext W w') := Lib.hid fun W hW => slEqE_any _ _ a.fst W (h2.below hW) (g2.below hW) sm.fst
  have C3 : Hid (∀ W, Below w.heap.size w W → Calls Tryz.prog 21 #[v3, u3] W fun e w' => e = .returned (.bool true) ∧ Ext W w') := Lib.hid fun W hW => slEqE_any _ _ a.lst W (h3.below hW) (g3.below hW) sm.lst
  obtain ⟨a0, c0, rfl⟩ := h0.form
  obtain ⟨a1, c1, rfl⟩ := h1.form
  obtain ⟨a2, c2, rfl⟩ := h2.form
  obtain ⟨a3, c3, rfl⟩ := h3.form
  obtain ⟨b0, d0, rfl⟩ := g0.form
  obtain ⟨b1, d1, rfl⟩ := g1.form
  obtain ⟨b2, d2, rfl⟩ := g2.form
  obtain ⟨b3, d3, rfl⟩ := g3.form
  clear h0 h1 h2 h3 g0 g1 g2 g3 sm
  generalize a.sets.length = n0 at *
  generalize a.fol.length = n1 at *
  generalize a.fst.length = n2 at *
  generalize a.lst.length = n3 at *
  generalize a.emp = em at *
  have eg := eg_eqI
  have d9 : (em == em) = true := by simp
  go_enter Tryz.func17, Tryz.ntmps17
  go_wp2_with fail
  refine calls_named ?_
  intro V hV
  have B1 : Hid (Blk V w.heap.size #[.slice a0 n0 c0, .slice a1 n1 c1, .slice a2 n2 c2, .slice a3 n3 c3, .bool em] 35) := by rw [hV]; exact Lib.hid ((Blk.new w _ _).alloc _)
  have B2 : Hid (Blk V (w.heap.size + 1) #[.slice b0 n0 d0, .slice b1 n1 d1, .slice b2 n2 d2, .slice b3 n3 d3, .bool em] 35) := by rw [hV]; exact Lib.hid ((Blk.new (w.alloc _) _ _).at (by simp))
  have HX : Hid (Below w.heap.size w V) := by rw [hV]; exact Lib.hid (((Ext.refl w).alloc _).alloc _).below
  clear hV
  refine (C0.out V HX.out).mono ?_
  rintro e w2 ⟨rfl, hx⟩
  have E1 := Lib.hid (B1.out.ext hx)
  have E2 := Lib.hid (B2.out.ext hx)
  have X2 := Lib.hid (HX.out.trans (hx.below.mono HX.out.size))
  clear hx B1 B2 HX
  obtain ⟨p0, p1, p2, p3, p4⟩ := E1.out.five
  obtain ⟨q0, q1, q2, q3, q4⟩ := E2.out.five
  go_wp2_with fail
  refine (C1.out w2 X2.out).mono ?_
  rintro e w3 ⟨rfl, hx⟩
  have F1 := Lib.hid (E1.out.below hx E1.out.lt)
  have F2 := Lib.hid (E2.out.below hx E2.out.lt)
  have X3 := Lib.hid (X2.out.trans (hx.mono X2.out.size))
  clear hx E1 E2 X2 p0 p1 p2 p3 p4 q0 q1 q2 q3 q4
  obtain ⟨p0, p1, p2, p3, p4⟩ := F1.out.five
  obtain ⟨q0, q1, q2, q3, q4⟩ := F2.out.five
  go_wp2_with fail
  refine (C2.out w3 X3.out).mono ?_
  rintro e w4 ⟨rfl, hx⟩
  have G1 := Lib.hid (F1.out.ext hx)
  have G2 := Lib.hid (F2.out.ext hx)
  have X4 := Lib.hid (X3.out.trans (hx.below.mono X3.out.size))
  clear hx F1 F2 X3 p0 p1 p2 p3 p4 q0 q1 q2 q3 q4
  obtain ⟨p0, p1, p2, p3, p4⟩ := G1.out.five
  obtain ⟨q0, q1, q2, q3, q4⟩ := G2.out.five
  go_wp2_with fail
  refine (C3.out w4 X4.out).mono ?_
  rintro e w5 ⟨rfl, hx⟩
  have I1 := Lib.hid (G1.out.ext hx)
  have I2 := Lib.hid (G2.out.ext hx)
  have X5 := Lib.hid (X4.out.trans (hx.below.mono X4.out.size))
  clear hx G1 G2 X4 p0 p1 p2 p3 p4 q0 q1 q2 q3 q4
  obtain ⟨p0, p1, p2, p3, p4⟩ := I1.out.five
  obtain ⟨q0, q1, q2, q3, q4⟩ := I2.out.five
  go_wp2
  go_ret
  exact ⟨rfl, X5.out⟩
end Go.Proofs.YthdnlndpmmiboaaGreatDoor
