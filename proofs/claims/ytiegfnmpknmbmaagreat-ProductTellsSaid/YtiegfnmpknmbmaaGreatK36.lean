/-
  product.Count.
-/
import Derived.Test.YtiegfnmpknmbmaaGreatK35
namespace Go.Proofs.YtiegfnmpknmbmaaGreat
open Go Go.RowKit Go.Shelf Go.Maps
attribute [local go_sem] encS

set_option maxRecDepth 100000 in
set_option maxHeartbeats 8000000 in
theorem pcount_main (v : Value) (d : DF) (rt : Rt d) (sm : Sm d) (n : Nat) (hn64 : n ≤ 64) (most : Int) (hm0 : 0 ≤ most) (hm1 : most ≤ maxC) (w : World) (h : IsDf w v d) :
    Calls Tryz.prog 28 #[v, .int .i64 n, .int .i64 most] w fun e w' => e = .returned (.tuple #[.int .i64 (min ((cntTo d n).getD 0 0) most), .int .i64 0]) ∧ Below w.heap.size w w' := by
  obtain ⟨iI, hiI, hzI0, hzI1, hzI2⟩ := info_parts Tryz.infoI
  have CR : Hid (∀ W, Below w.heap.size w W → Calls Tryz.prog 47 #[v] W fun e w' => e = .returned (.bool true) ∧ Below W.heap.size W w') := fun W hW => by
    have := right_any v d W (h.below hW) sm
    rwa [(right_iff d).2 rt] at this
  obtain ⟨v0, v1, v2, rfl, h0, h1, h2⟩ := h
  obtain ⟨a0, c0, rfl⟩ := h0.1.form
  obtain ⟨a1, c1, rfl⟩ := h1.form
  obtain ⟨a2, c2, rfl⟩ := h2.form
  have hmr := rt.mr
  rw [hmr] at h2 CR ⊢
  obtain ⟨N, hN⟩ : ∃ n, n = d.nx.length := ⟨_, rfl⟩
  obtain ⟨K, hK⟩ : ∃ n, n = d.cl.length := ⟨_, rfl⟩
  have hn4 : N ≤ 4000 := by have := rt.le; omega
  have hn1 : 1 ≤ N := by have := rt.pos; omega
  have hK2 : K ≤ 256 := by have := rt.clle; omega
  rw [← hN] at h1 h2 CR ⊢
  rw [← hK] at h0 CR ⊢
  have H0 := Lib.hid h0.1
  have H1 := Lib.hid h1
  have H2 := Lib.hid h2
  have HN := Lib.hid hN
  have HK := Lib.hid hK
  have HMR := Lib.hid hmr
  have RT := Lib.hid rt
  have IN : Hid (∀ k t, 0 ≤ (cntTo d k).getD t 0 ∧ (cntTo d k).getD t 0 ≤ maxC) := Lib.hid (cntTo_in d)
  have g1 : decide ((n : Int) < 0) = false := decide_eq_false (by omega)
  have g2 : decide ((64 : Int) < n) = false := decide_eq_false (by omega)
  have g3 : decide (most < 0) = false := decide_eq_false (by omega)
  have g4 : decide ((1099511627776 : Int) < most) = false := decide_eq_false (by unfold maxC at hm1; omega)
  have HM1 := Lib.hid hm1
  obtain ⟨y0, hy0⟩ : ∃ y, y = (cntTo d n).getD 0 0 := ⟨_, rfl⟩
  rw [← hy0]
  have HY0 := Lib.hid hy0
  clear hy0
  have HM0 := Lib.hid hm0
  clear h0 h1 h2 hN hK hmr rt sm hm1 hm0
  go_enter Tryz.func28, Tryz.ntmps28
  go_wp2_with fail
  refine calls_named ?_ --M1
  intro V hV
  have B1 : Hid (Blk V w.heap.size #[.slice a0 K c0, .slice a1 N c1, .slice a2 N c2] 25) := by rw [hV]; exact Blk.new w _ _
  have X1 : Hid (Below w.heap.size w V) := by rw [hV]; exact ((Ext.refl w).alloc _).below
  clear hV
  refine (CR.out V X1.out).mono ?_
  rintro e w2 ⟨rfl, hx⟩
  have C1 := Lib.hid (B1.out.below hx B1.out.lt)
  have hws : w.heap.size < w2.heap.size := C1.out.lt
  have X2 := Lib.hid (X1.out.trans (hx.mono X1.out.size))
  clear hx B1 X1 CR
  obtain ⟨⟨k0, k1, k2⟩, _⟩ := C1.out.three
  go_wp2_with (at_make; refine wpList_make_full _ rfl (.tmp 37) (.tmp 37) 36 rfl w2.heap.size 3 iI (.int .i64 0) 1 Tryz.underlying36 hiI hzI0 hzI1 .i64 .i64 _ _ N rfl rfl rfl rfl (by rw [hzI2]; omega) (by unfold maxLen; omega) (Nat.le_refl _) ?_; intro w3 hr hg; refine Hid.out ?_)
  refine Lib.hid ?_
  have hs3 : w2.heap.size < w3.heap.size := by --M2
    rcases hr.2 with ⟨h5, _⟩ | ⟨g, c, cur, h5, _, h6, _⟩
    · cases h5
    · cases h5; exact (Array.getElem?_eq_some_iff.1 h6).1
  have hb3 : Below w2.heap.size w2 w3 := (Keeps.of_grown hg fun x hx => ⟨hx, fun e => by cases e⟩ : Keeps (· < w2.heap.size) w2 w3).below
  rw [made_ints] at hr
  have R3 := Lib.hid hr
  have D1 := Lib.hid (C1.out.below hb3 C1.out.lt)
  have X3 := Lib.hid (X2.out.trans (hb3.mono X2.out.size))
  clear hr hg hb3 k0 k1 k2 C1 X2
  obtain ⟨g5, hg5⟩ : ∃ g, g = w2.heap.size := ⟨_, rfl⟩
  rw [← hg5] at R3 hs3 hws ⊢
  clear hg5
  have kk : ∀ wr : World, Keeps (fun x => x < w3.heap.size ∧ x ≠ g5) w3 wr → Hid (Blk wr w.heap.size #[.slice a0 K c0, .slice a1 N c1, .slice a2 N c2] 25 ∧ Below w.heap.size w wr) := fun wr hx => Lib.hid ⟨D1.out.keeps hx ⟨by omega, by omega⟩, X3.out.trans (hx.mono fun x h5 => by have : x < w.heap.size := h5; exact ⟨by omega, by omega⟩ : Keeps (· < w.heap.size) w3 wr).below⟩
  have KK := Lib.hid kk
  clear kk
  obtain ⟨⟨k0, k1, k2⟩, _⟩ := D1.out.three
  go_wp2
  clear k0 k1 k2
  clear HM0 --M3
  go_loopw [42] (fun i wr => ∃ (k : Nat) (l : List Int), k ≤ N ∧ i = .int .i64 k ∧ UpTo (fun s => if acc d s then 1 else 0) k N l ∧ wr.ownsRow g5 3 1 (.slice (some ⟨g5, 0, none⟩) N N) N (l.map encZ) ∧ Keeps (fun x => x < w3.heap.size ∧ x ≠ g5) w3 wr) (fun i _ => N - (intOf i).toNat)
  case atStart => exact ⟨0, _, Nat.zero_le _, rfl, UpTo.zero _ _, R3.out, Keeps.refl _ _⟩
  case round =>
    obtain ⟨k, l, hk, rfl, hu, hr, hx⟩ := hrel
    obtain ⟨wo, rfl⟩ : ∃ wo : World, wo = wr := ⟨_, rfl⟩
    have HU := Lib.hid hu
    have HR := Lib.hid hr
    have HX := Lib.hid hx
    have BX := KK.out wo hx
    clear hu hr hx
    obtain ⟨⟨b0, b1, b2⟩, _⟩ := BX.out.1.three
    by_cases hlt : k < N
    · obtain ⟨m, hm⟩ : ∃ m, d.mr[k]? = some m := ⟨_, List.getElem?_eq_getElem (by have := HMR.out; have := HN.out; omega)⟩
      obtain ⟨bm, om, am, cm, e2, hbm, cmm, _⟩ := (H2.out.below BX.out.2).elem hm
      cases e2
      have hki : (k : Int) < N := by omega
      obtain ⟨cc, ff⟩ := intCell HR.out hlt
      have hset := HU.out.set hlt
      rw [show (if acc d k = true then (1 : Int) else 0) = min (m.length : Int) 1 from acc_eq d hm] at hset
      have HSET := Lib.hid hset
      obtain ⟨ml, hml⟩ : ∃ n, n = m.length := ⟨_, rfl⟩
      rw [← hml] at cmm HSET
      clear hset hm hml
      go_wp2 --M4
      go_roundw
      case rel =>
        refine ⟨k + 1, _, by omega, by go_num, HSET.out, ?_, HX.out.tr ((Keeps.refl _ wo).setCell (p := ⟨g5, k, none⟩) (fun h => h.2 rfl) _)⟩
        rw [List.map_set]
        exact (HR.out.stored k _).1
      case measure => simp [intOf]; omega
    · obtain rfl : k = N := by omega --M5
      have hl : l = cntTo d 0 := by
        have := HU.out.full
        rw [this, HN.out]
        rfl
      have HR0 : Hid (wo.ownsRow g5 3 1 (.slice (some ⟨g5, 0, none⟩) k k) k ((cntTo d 0).map encZ)) := Lib.hid (by rw [← hl]; exact HR.out)
      clear hl HR HU b0 b1 b2
      go_wp2
      go_loopw [8, 55] (fun mv iv wr => ∃ (r g : Nat), r ≤ n ∧ iv = .int .i64 r ∧ mv = .slice (some ⟨g, 0, none⟩) k k ∧ wr.ownsRow g5 3 1 (.slice (some ⟨g, 0, none⟩) k k) k ((cntTo d r).map encZ) ∧ Keeps (fun x => x < w3.heap.size ∧ x ≠ g5) w3 wr) (fun _ iv _ => n - (intOf iv).toNat)
      case atStart => exact ⟨0, g5, Nat.zero_le _, rfl, rfl, HR0.out, HX.out⟩
      case round =>
        obtain ⟨r, g6, hr, rfl, rfl, hrow, hx⟩ := hrel
        obtain ⟨wa, rfl⟩ : ∃ wo : World, wo = wr := ⟨_, rfl⟩
        have BX := KK.out wa hx
        have hg6 := hrow.lt g6 rfl
        have HRO := Lib.hid hrow
        have HXA := Lib.hid hx
        have hswa : w3.heap.size ≤ wa.heap.size := hx.size
        obtain ⟨⟨b0, b1, b2⟩, _⟩ := BX.out.1.three
        clear hrow hx
        by_cases hlt : r < n
        · have hri : (r : Int) < n := by omega
          go_wp2_with (at_make; refine wpList_make_full _ rfl (.tmp 59) (.tmp 59) 36 rfl wa.heap.size 3 iI (.int .i64 0) 1 Tryz.underlying36 hiI hzI0 hzI1 .i64 .i64 _ _ k rfl rfl rfl rfl (by rw [hzI2]; omega) (by unfold maxLen; omega) (Nat.le_refl _) ?_; intro w6 hr hg; refine Hid.out ?_)
          refine Lib.hid ?_
          have hs6 : wa.heap.size < w6.heap.size := by
            rcases hr.2 with ⟨h5, _⟩ | ⟨g, c, cur, h5, _, h6, _⟩
            · cases h5
            · cases h5; exact (Array.getElem?_eq_some_iff.1 h6).1
          have hb6 : Below wa.heap.size wa w6 := (Keeps.of_grown hg fun x hx => ⟨hx, fun e => by cases e⟩ : Keeps (· < wa.heap.size) wa w6).below
          rw [made_ints] at hr
          have R6 := Lib.hid hr
          have M6 := Lib.hid (ownsRow_below HRO.out hb6)
          have X6 := Lib.hid (HXA.out.tr (Keeps.of_below hb6 fun x hx => by have := hx.1; omega))
          clear hr hg hb6 b0 b1 b2 HRO
          obtain ⟨g7, hg7⟩ : ∃ g, g = wa.heap.size := ⟨_, rfl⟩
          rw [← hg7] at R6 hs6 ⊢
          have hg67 : g6 < g7 := by omega
          have hw37 : w3.heap.size ≤ g7 := by omega
          clear hg7
          have kk : ∀ wr : World, Keeps (fun x => x < w6.heap.size ∧ x ≠ g7) w6 wr → Hid (Blk wr w.heap.size #[.slice a0 K c0, .slice a1 k c1, .slice a2 k c2] 25 ∧ Below w.heap.size w wr ∧ Keeps (fun x => x < w3.heap.size ∧ x ≠ g5) w3 wr ∧ ∀ t, t < k → wr.cell? ⟨g6, t, none⟩ = some (.int .i64 ((cntTo d r).getD t 0))) := fun wr hx => by
            have hy : Keeps (fun x => x < w3.heap.size ∧ x ≠ g5) w3 wr := X6.out.tr (hx.mono fun x h5 => ⟨by have := h5.1; omega, by have := h5.1; omega⟩)
            have hz := KK.out wr hy
            exact Lib.hid ⟨hz.out.1, hz.out.2, hy, fun t ht => (hx.cell (p := ⟨g6, t, none⟩) ⟨by show g6 < _; omega, by show g6 ≠ g7; omega⟩).trans (intCell M6.out ht).1⟩
          have KJ := Lib.hid kk
          clear kk
          have BJ := KJ.out w6 (Keeps.refl _ _)
          obtain ⟨⟨b0, b1, b2⟩, _⟩ := BJ.out.1.three
          go_wp2
          clear b0 b1 b2
          go_loopw [64] (fun i wr => ∃ (s : Nat) (l : List Int), s ≤ k ∧ i = .int .i64 s ∧ UpTo (fun s => cntRow d (cntTo d r) s K) s k l ∧ wr.ownsRow g7 3 1 (.slice (some ⟨g7, 0, none⟩) k k) k (l.map encZ) ∧ Keeps (fun x => x < w6.heap.size ∧ x ≠ g7) w6 wr) (fun i _ => k - (intOf i).toNat)
          case atStart => exact ⟨0, _, Nat.zero_le _, rfl, UpTo.zero _ _, R6.out, Keeps.refl _ _⟩
          case round =>
            obtain ⟨s, l, hs, rfl, hu, hr2, hx⟩ := hrel
            obtain ⟨wb, rfl⟩ : ∃ wo : World, wo = wr := ⟨_, rfl⟩
            have BX := KJ.out wb hx
            have HU := Lib.hid hu
            have HR := Lib.hid hr2
            have HX := Lib.hid hx
            clear hu hr2 hx
            by_cases hlt2 : s < k
            · have hsi : (s : Int) < k := by omega
              have hsd : s < d.nx.length := by rw [← HN.out]; exact hlt2
              have HSET := Lib.hid (HU.out.set hlt2)
              have hl0 : l.getD s 0 = 0 := by rw [HU.out.2 s hlt2, if_neg (by omega)]
              have HL0 : Hid (l.set s 0 = l) := Lib.hid (set_self l s hl0)
              have HLL : Hid (s < l.length) := Lib.hid (by rw [HU.out.1]; exact hlt2)
              obtain ⟨rw0, hrw⟩ : ∃ r, d.nx[s]? = some r := ⟨_, List.getElem?_eq_getElem hsd⟩
              have hrK : rw0.length = K := by have := RT.out.len s hsd; rw [getD_some hrw] at this; rw [this, HK.out]
              obtain ⟨bl, ol, al, cl, e1, hbl, cll, hsl⟩ := (H1.out.below BX.out.2.1).elem hrw
              cases e1
              rw [hrK] at cll hsl
              have HRW := Lib.hid hrw
              have SL0 : Hid (IsSl encZ w (.slice al K cl) rw0) := by
                obtain ⟨bl', ol', al', cl', e1', _, cll', hsl'⟩ := H1.out.elem hrw
                cases e1'
                have e5 := ((Keeps.of_below BX.out.2.1 (R := (· < w.heap.size)) fun _ h => h).cell (p := ⟨bl, ol + s, none⟩) ‹_›).trans cll'
                rw [cll] at e5
                rw [hrK] at hsl' e5
                cases e5
                exact Lib.hid hsl'
              clear hrw hl0 hsl hrK
              go_wp2
              clear cll
              go_loopw [71] (fun i wr => ∃ (q : Nat), q ≤ K ∧ i = .int .i64 q ∧ wr.ownsRow g7 3 1 (.slice (some ⟨g7, 0, none⟩) k k) k ((l.set s (cntRow d (cntTo d r) s q)).map encZ) ∧ Keeps (fun x => x < wb.heap.size ∧ x ≠ g7) wb wr) (fun i _ => K - (intOf i).toNat)
              case atStart =>
                refine ⟨0, Nat.zero_le _, rfl, ?_, Keeps.refl _ _⟩
                show wb.ownsRow _ _ _ _ _ ((l.set s 0).map encZ)
                rw [HL0.out]
                exact HR.out
              case round =>
                obtain ⟨q, hq, rfl, hr2, hx⟩ := hrel
                obtain ⟨wi, rfl⟩ : ∃ wo : World, wo = wr := ⟨_, rfl⟩
                have hy := HX.out.tr (hx.mono fun x h5 => ⟨Nat.lt_of_lt_of_le h5.1 HX.out.size, h5.2⟩)
                have BI := KJ.out wi hy
                have HRI := Lib.hid hr2
                have HXI := Lib.hid hx
                have HYI := Lib.hid hy
                clear hr2 hx hy
                by_cases hqK : q < K
                · have hqi : (q : Int) < K := by omega
                  have hqd : q < d.cl.length := by rw [← HK.out]; exact hqK
                  obtain ⟨t, ht⟩ : ∃ t, t = nxt d s q := ⟨_, rfl⟩
                  have htn : t < k := by rw [ht, HN.out]; exact RT.out.nxt_lt hsd hqd
                  have hrq : rw0[q]? = some (t : Int) := by have := RT.out.nxt_cell hsd hqd; rw [getD_some HRW.out, ← ht] at this; exact this
                  have hsw : wb.heap.size ≤ wi.heap.size := HXI.out.size
                  have kw : ∀ p : Addr, p.block < w.heap.size → wi.cell? p = w.cell? p := fun p hp => (Keeps.of_below BI.out.2.1 (R := (· < w.heap.size)) fun _ h => h).cell hp
                  obtain ⟨bz, oz, e9, hbz, cz⟩ := (SL0.out.elem hrq)
                  cases e9
                  replace cz : wi.cell? ⟨bz, oz + q, none⟩ = some (.int .i64 t) := (kw ⟨bz, oz + q, none⟩ hbz).trans cz
                  obtain ⟨c, hc⟩ : ∃ c, d.cl[q]? = some c := ⟨_, List.getElem?_eq_getElem hqd⟩
                  obtain ⟨bc, oc, e8, hbc, q0, q1, q2, q3⟩ := (H0.out.below BI.out.2.1).elem hc
                  cases e8
                  have q6 := BI.out.2.2.2 t htn
                  have hmv := IN.out r t
                  obtain ⟨mv, hmve⟩ : ∃ z, z = (cntTo d r).getD t 0 := ⟨_, rfl⟩
                  rw [← hmve] at q6 hmv
                  obtain ⟨hmv0, hmv1⟩ := hmv
                  have hcr := cntRow_in (d := d) (many := cntTo d r) (IN.out r) s q
                  obtain ⟨q5, _⟩ := intCell HRI.out hlt2
                  rw [getD_set _ _ _ _ HLL.out, if_pos rfl] at q5
                  obtain ⟨y, hy⟩ : ∃ y, y = cntRow d (cntTo d r) s q := ⟨_, rfl⟩
                  rw [← hy] at q5 hcr
                  obtain ⟨hy0, hy1⟩ := hcr
                  have hsz := sizeS_le c
                  have hrow : cntRow d (cntTo d r) s (q + 1) = min (y + sizeS c * mv) maxC := by
                    show min (cntRow d (cntTo d r) s q + sizeS (d.cl.getD q 0) * (cntTo d r).getD (nxt d s q) 0) maxC = _
                    rw [← hy, getD_some hc, ← ht, ← hmve]
                  have CSC : Hid (∀ W, Calls Tryz.prog 55 #[.agg (encS c)] W fun e w' => e = .returned (.int .i64 (sizeS c)) ∧ Ext W w') := Lib.hid fun W => size_any c W
                  obtain ⟨sz, hsze⟩ : ∃ z, z = sizeS c := ⟨_, rfl⟩
                  rw [← hsze] at CSC hrow hsz
                  have hp0 : (0 : Int) ≤ (sz : Int) * mv := Int.mul_nonneg (by omega) hmv0
                  have hp1 : (sz : Int) * mv ≤ 256 * 1099511627776 := Int.mul_le_mul (by omega) (by unfold maxC at hmv1; exact hmv1) hmv0 (by omega)
                  obtain ⟨p, hp⟩ : ∃ p, p = (sz : Int) * mv := ⟨_, rfl⟩
                  rw [← hp] at hp0 hp1 hrow
                  have hp2 : p ≤ 300000000000000 := by omega
                  unfold maxC at hy1 hmv1
                  have hti : (t : Int) < k := by omega
                  have hw1 : IntKind.i64.wrap ((sz : Int) * mv) = p := by rw [← hp]; exact IntWalk.i64_in _ ⟨by omega, by omega⟩
                  have HROW := Lib.hid hrow
                  have hg7i : g7 < wi.heap.size := by have := HYI.out.size; omega
                  have hg6i : g6 < wi.heap.size := by omega
                  have hbzi : bz < wi.heap.size := by have := BI.out.2.1.size; omega
                  obtain ⟨⟨b0, b1, b2⟩, _⟩ := BI.out.1.three
                  have hlw : w.heap.size < wi.heap.size := by omega
                  have SZ : Hid (sz ≤ 256) := Lib.hid hsz
                  clear hrow hsze hy hmve hsz hc hrq ht hp kw hp1
                  go_wp2
                  refine wp_region_reg false (fun _ => False) (by kernel_rfl) 20 [0, 0, 0, 0, 12, 28, 0, 64, 0, 448, 960, 1984, 0, 0, 12288, 28672, 65472, 131068, 262140, 524287, 1048575] (fun i => i == 11 || i == 20) (by kernel_rfl) (fun i => if i = 11 then Eff.det _ (.int .i64 sz) else Eff.any _) ?_
                  intro C hC hne
                  have HC := Lib.hid hC
                  have f0 := regCell hC (p := ⟨w.heap.size, 0, none⟩) hlw (fun h => h) b0
                  have t2 := regCell hC (p := ⟨bz, oz + q, none⟩) hbzi (fun h => h) cz
                  have t5 := regCell hC (p := ⟨g7, s, none⟩) hg7i (fun h => h) q5
                  have t6 := regCell hC (p := ⟨g6, t, none⟩) hg6i (fun h => h) q6
                  have s0 := regCell hC (p := ⟨bc, oc + q * 4, none⟩) hbc (fun h => h) q0
                  have s1 := regCell hC (p := ⟨bc, oc + q * 4 + 1, none⟩) hbc (fun h => h) q1
                  have s2 := regCell hC (p := ⟨bc, oc + q * 4 + 2, none⟩) hbc (fun h => h) q2
                  have s3 := regCell hC (p := ⟨bc, oc + q * 4 + 3, none⟩) hbc (fun h => h) q3
                  clear hC b0 b1 b2 cz q5 q6 q0 q1 q2 q3
                  repeat (refine regStep (fun K hK => ?_); first | (refine regN rfl ?_; try go_simp; refine hK _ _ ?_; clear hK K) | (refine regF rfl rfl ?_; unfold floatAt; go_simp; refine hK _ _ ?_; clear hK K))
                  refine regStep (fun K hK => ?_)
                  refine regE rfl rfl (Eff.det _ (.int .i64 sz)) rfl (fun W hW hN => ?_) (fun v hv => ?_)
                  · have hM := (HC.out W).1 hW
                    clear hW
                    go_simp
                    refine effT_call ((CSC.out _).mono ?_)
                    rintro e w9 ⟨rfl, hx⟩
                    exact ⟨_, rfl, Move.of_ext hx, rfl, trivial⟩
                  replace hv : v = _ := hv
                  subst hv
                  go_simp
                  refine hK _ _ ?_
                  clear hK K
                  repeat (refine regStep (fun K hK => ?_); first | (refine regN rfl ?_; try go_simp; refine hK _ _ ?_; clear hK K) | (refine regF rfl rfl ?_; unfold floatAt; go_simp; refine hK _ _ ?_; clear hK K))
                  refine regNil (fun W hW hH => ?_)
                  have hM := (HC.out W).1 hW
                  have KW : Hid (Keeps (fun x => x < wi.heap.size) wi W) := Lib.hid (Keeps.of_below hM.below fun _ h => h)
                  have RW := Lib.hid (ownsRow_below HRI.out hM.below)
                  obtain ⟨c5, fz⟩ := intCell RW.out hlt2
                  clear hM hW hH HC f0 t2 t5 t6 s0 s1 s2 s3
                  have hsW : wi.heap.size ≤ W.heap.size := KW.out.size
                  go_wp2
                  go_roundw
                  case rel =>
                    refine ⟨q + 1, by omega, by go_num, ?_, ?_⟩ --M7
                    · have h9 := (RW.out.stored s (.int .i64 (min (y + p) maxC))).1
                      rw [HROW.out]
                      rw [show (l.set s (min (y + p) maxC)).map encZ = (((l.set s (cntRow d (cntTo d r) s q)).map encZ).set s (.int .i64 (min (y + p) maxC))) by rw [List.map_set, List.map_set, List.set_set]; rfl]
                      exact h9
                    · exact (HXI.out.tr (KW.out.mono fun x hx => by have := hx.1; omega)).setCell (p := ⟨g7, s, none⟩) (fun h => h.2 rfl) _
                  case measure => simp [intOf]; omega
                · obtain rfl : q = K := by omega
                  have hcell := KJ.out wi HYI.out
                  go_wp2
                  go_roundw
                  case rel => exact ⟨s + 1, _, by omega, by go_num, HSET.out, HRI.out, HYI.out⟩
                  case measure => simp [intOf]; omega
            · obtain rfl : s = k := by omega
              have hl : l = cntTo d (r + 1) := by
                have := HU.out.full
                rw [this, HN.out, HK.out]
                rfl
              have BX := KJ.out wb HX.out
              have HRL : Hid (wb.ownsRow g7 3 1 (.slice (some ⟨g7, 0, none⟩) s s) s ((cntTo d (r + 1)).map encZ)) := Lib.hid (by rw [← hl]; exact HR.out)
              clear hl HR HU
              go_wp2
              go_roundw
              case rel => exact ⟨r + 1, g7, by omega, by go_num, rfl, ownsRow_base HRL.out (by omega), BX.out.2.2.1⟩
              case measure => simp [intOf]; omega
        · obtain rfl : r = n := by omega
          obtain ⟨q5, _⟩ := intCell HRO.out hn1
          rw [← HY0.out] at q5
          clear b0 b1 b2
          go_wp2
          exact bodyPost_ret (v := .tuple #[.int .i64 (min y0 most), .int .i64 0]) (by simp [results, Tryz.results28, go_sem]) rfl ⟨rfl, BX.out.2⟩
end Go.Proofs.YtiegfnmpknmbmaaGreat
