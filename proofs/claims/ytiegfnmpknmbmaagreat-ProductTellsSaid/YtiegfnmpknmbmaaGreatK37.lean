/-
  The reference's near: how many bytes it takes at least from each state to one with marks.
-/
import Derived.Test.YtiegfnmpknmbmaaGreatK35
namespace Go.Proofs.YtiegfnmpknmbmaaGreat
open Go Go.RowKit Go.Shelf Go.Maps
attribute [local go_sem] encS

set_option maxRecDepth 100000 in
set_option maxHeartbeats 8000000 in
theorem near_any (v : Value) (d : DF) (rt : Rt d) (w : World) (h : IsRf w v d) :
    Calls Tryz.prog 58 #[v] w fun e w' => ∃ g, e = .returned (.slice (some ⟨g, 0, none⟩) d.nx.length d.nx.length) ∧ w'.ownsRow w.heap.size 3 1 (.slice (some ⟨g, 0, none⟩) d.nx.length d.nx.length) d.nx.length ((farOf d).map encZ) ∧ Below w.heap.size w w' := by
  obtain ⟨iI, hiI, hzI0, hzI1, hzI2⟩ := info_parts Tryz.infoI
  obtain ⟨v0, v1, v2, rfl, h0, h1, h2⟩ := h
  obtain ⟨a0, c0, rfl⟩ := h0.form
  obtain ⟨a1, c1, rfl⟩ := h1.form
  obtain ⟨a2, c2, rfl⟩ := h2.form
  rw [List.length_map]
  have hmr := rt.mr
  rw [hmr] at h2 ⊢
  obtain ⟨N, hN⟩ : ∃ n, n = d.nx.length := ⟨_, rfl⟩
  obtain ⟨K, hK⟩ : ∃ n, n = d.cl.length := ⟨_, rfl⟩
  have hn4 : N ≤ 4000 := by have := rt.le; omega
  have hK2 : K ≤ 256 := by have := rt.clle; omega
  have HFR : Hid (farOf d = farTo d N) := Lib.hid (by rw [hN]; rfl)
  rw [← hN] at h1 h2 ⊢
  rw [← hK]
  have H1 := Lib.hid h1
  have H2 := Lib.hid h2
  have HN := Lib.hid hN
  have HK := Lib.hid hK
  have HMR := Lib.hid hmr
  have RT := Lib.hid rt
  clear h0 h1 h2 hN hK hmr rt
  go_enter Tryz.func58, Tryz.ntmps58
  go_wp2_with (at_make; refine wpList_named ?_; intro V hV; refine Hid.out ?_)
  refine Lib.hid ?_
  have B1 : Hid (Blk V w.heap.size #[.slice a0 K c0, .slice a1 N c1, .slice a2 N c2] 42) := by rw [hV]; exact Blk.new w _ _
  have X1 : Hid (Below w.heap.size w V) := by rw [hV]; exact ((Ext.refl w).alloc _).below
  clear hV
  have hwV : w.heap.size < V.heap.size := B1.out.lt
  go_wp2_with (at_make; refine wpList_make_full _ rfl (.tmp 12) (.tmp 12) 36 rfl V.heap.size 3 iI (.int .i64 0) 1 Tryz.underlying36 hiI hzI0 hzI1 .i64 .i64 _ _ N rfl rfl rfl rfl (by rw [hzI2]; omega) (by unfold maxLen; omega) (Nat.le_refl _) ?_; intro w3 hr hg; refine Hid.out ?_)
  refine Lib.hid ?_
  have hs3 : V.heap.size < w3.heap.size := by
    rcases hr.2 with ⟨h5, _⟩ | ⟨g, c, cur, h5, _, h6, _⟩
    · cases h5
    · cases h5; exact (Array.getElem?_eq_some_iff.1 h6).1
  have hb3 : Below V.heap.size V w3 := (Keeps.of_grown hg fun x hx => ⟨hx, fun e => by cases e⟩ : Keeps (· < V.heap.size) V w3).below
  rw [made_ints] at hr
  have R3 := Lib.hid hr
  have C1 := Lib.hid (B1.out.below hb3 B1.out.lt)
  have X3 := Lib.hid (X1.out.trans (hb3.mono X1.out.size))
  clear hr hg hb3 B1 X1
  obtain ⟨g5, hg5⟩ : ∃ g, g = V.heap.size := ⟨_, rfl⟩
  rw [← hg5] at R3 hs3 hwV ⊢
  clear hg5
  have kk : ∀ wr : World, Keeps (fun x => x < w3.heap.size ∧ x ≠ g5) w3 wr → Hid (Blk wr w.heap.size #[.slice a0 K c0, .slice a1 N c1, .slice a2 N c2] 42 ∧ Below w.heap.size w wr) := fun wr hx => Lib.hid ⟨C1.out.keeps hx ⟨by omega, by omega⟩, X3.out.trans (hx.mono fun x h5 => by have : x < w.heap.size := h5; exact ⟨by omega, by omega⟩ : Keeps (· < w.heap.size) w3 wr).below⟩
  have KK := Lib.hid kk
  clear kk
  go_wp2
  go_loopw [5] (fun i wr => ∃ (k : Nat) (l : List Int), k ≤ N ∧ i = .int .i64 k ∧ UpTo (fun s => if acc d s then 0 else (N : Int)) k N l ∧ wr.ownsRow g5 3 1 (.slice (some ⟨g5, 0, none⟩) N N) N (l.map encZ) ∧ Keeps (fun x => x < w3.heap.size ∧ x ≠ g5) w3 wr) (fun i _ => N - (intOf i).toNat)
  case atStart => exact ⟨0, _, Nat.zero_le _, rfl, UpTo.zero _ _, R3.out, Keeps.refl _ _⟩
  case round =>
    obtain ⟨k, l, hk, rfl, hu, hr, hx⟩ := hrel
    obtain ⟨wo, rfl⟩ : ∃ wo : World, wo = wr := ⟨_, rfl⟩
    have HU := Lib.hid hu
    have HR := Lib.hid hr
    have HX := Lib.hid hx
    have BX := KK.out wo hx
    clear hu hr hx
    by_cases hlt : k < N
    · obtain ⟨m, hm⟩ : ∃ m, d.mr[k]? = some m := ⟨_, List.getElem?_eq_getElem (by have := HMR.out; have := HN.out; omega)⟩
      obtain ⟨bm, om, am, cm, e2, hbm, cmm, _⟩ := (H2.out.below BX.out.2).elem hm
      cases e2
      obtain ⟨⟨b0, b1, b2⟩, _⟩ := BX.out.1.three
      have hki : (k : Int) < N := by omega
      obtain ⟨_, ff⟩ := intCell HR.out hlt
      have hacc : acc d k = !m.isEmpty := by unfold acc; rw [getD_some hm]
      have kst : Keeps (fun x => x < w3.heap.size ∧ x ≠ g5) wo (wo.setCell ⟨g5, k, none⟩ (.int .i64 N)) := (Keeps.refl _ wo).setCell (p := ⟨g5, k, none⟩) (fun h => h.2 rfl) _
      have hset := HU.out.set hlt
      cases m with
      | nil =>
        have hac : acc d k = false := hacc
        rw [hac] at hset
        have HSET := Lib.hid hset
        have KST := Lib.hid kst
        obtain ⟨⟨cc, _⟩⟩ := (⟨intCell HR.out hlt⟩ : Nonempty _)
        clear hacc hac hset kst hm
        go_wp2
        go_roundw
        case rel =>
          refine ⟨k + 1, _, by omega, by go_num, HSET.out, ?_, HX.out.tr KST.out⟩
          rw [List.map_set]
          exact (HR.out.stored k _).1
        case measure => simp [intOf]; omega
      | cons x m =>
        have hac : acc d k = true := hacc
        rw [hac] at hset
        have h0 : l.set k 0 = l := set_self l k (by rw [HU.out.2 k hlt, if_neg (by omega)])
        have hset' : UpTo (fun s => if acc d s then 0 else (N : Int)) (k + 1) N l := by
          have h5 : l.set k (if true = true then 0 else (N : Int)) = l := h0
          rwa [h5] at hset
        have HSET := Lib.hid hset'
        obtain ⟨ml, hml⟩ : ∃ n, n = (x :: m).length := ⟨_, rfl⟩
        rw [← hml] at cmm
        have hml0 : ml ≠ 0 := by rw [hml]; simp
        have hmlb : ((ml : Int) == 0) = false := by rw [beq_eq_false_iff_ne]; omega
        clear hacc hac hset hset' h0 kst hm hml
        go_wp2
        go_roundw
        case rel => exact ⟨k + 1, l, by omega, by go_num, HSET.out, HR.out, HX.out⟩
        case measure => simp [intOf]; omega
    · obtain rfl : k = N := by omega
      have hl : l = farTo d 0 := by
        have := HU.out.full
        rw [this, HN.out]
        rfl
      have HR0 : Hid (wo.ownsRow g5 3 1 (.slice (some ⟨g5, 0, none⟩) k k) k ((farTo d 0).map encZ)) := Lib.hid (by rw [← hl]; exact HR.out)
      clear hl HR HU
      go_wp2
      go_loopw [6] (fun i wr => ∃ (r : Nat), r ≤ k ∧ i = .int .i64 r ∧ wr.ownsRow g5 3 1 (.slice (some ⟨g5, 0, none⟩) k k) k ((farTo d r).map encZ) ∧ Keeps (fun x => x < w3.heap.size ∧ x ≠ g5) w3 wr) (fun i _ => k - (intOf i).toNat)
      case atStart => exact ⟨0, Nat.zero_le _, rfl, HR0.out, HX.out⟩
      case round =>
        obtain ⟨r, hr, rfl, hrow, hx⟩ := hrel
        obtain ⟨wa, rfl⟩ : ∃ wo : World, wo = wr := ⟨_, rfl⟩
        have HRO := Lib.hid hrow
        have HXA := Lib.hid hx
        clear hrow hx
        by_cases hlt2 : r < k
        · have hri : (r : Int) < k := by omega
          go_wp2
          go_loopw [7] (fun i wr => ∃ (s : Nat), s ≤ k ∧ i = .int .i64 s ∧ wr.ownsRow g5 3 1 (.slice (some ⟨g5, 0, none⟩) k k) k ((relaxAll d (farTo d r) s).map encZ) ∧ Keeps (fun x => x < w3.heap.size ∧ x ≠ g5) w3 wr) (fun i _ => k - (intOf i).toNat)
          case atStart => exact ⟨0, Nat.zero_le _, rfl, HRO.out, HXA.out⟩
          case round =>
            obtain ⟨s, hs, rfl, hrow, hx⟩ := hrel
            obtain ⟨wb, rfl⟩ : ∃ wo : World, wo = wr := ⟨_, rfl⟩
            have HRB := Lib.hid hrow
            have HXB := Lib.hid hx
            clear hrow hx
            by_cases hlt3 : s < k
            · have hsi : (s : Int) < k := by omega
              go_wp2
              go_loopw [8] (fun i wr => ∃ (q : Nat), q ≤ K ∧ i = .int .i64 q ∧ wr.ownsRow g5 3 1 (.slice (some ⟨g5, 0, none⟩) k k) k ((relaxRow d (relaxAll d (farTo d r) s) s q).map encZ) ∧ Keeps (fun x => x < w3.heap.size ∧ x ≠ g5) w3 wr) (fun i _ => K - (intOf i).toNat)
              case atStart => exact ⟨0, Nat.zero_le _, rfl, HRB.out, HXB.out⟩
              case round =>
                obtain ⟨q, hq, rfl, hrow, hx⟩ := hrel
                obtain ⟨wc, rfl⟩ : ∃ wo : World, wo = wr := ⟨_, rfl⟩
                have BX := KK.out wc hx
                have HRC := Lib.hid hrow
                have HXC := Lib.hid hx
                clear hrow hx
                obtain ⟨⟨b0, b1, b2⟩, _⟩ := BX.out.1.three
                by_cases hqK : q < K
                · have hsd : s < d.nx.length := by rw [← HN.out]; exact hlt3
                  have hqd : q < d.cl.length := by rw [← HK.out]; exact hqK
                  obtain ⟨l, hl⟩ : ∃ l, d.nx[s]? = some l := ⟨_, List.getElem?_eq_getElem hsd⟩
                  obtain ⟨t, ht⟩ : ∃ t, t = nxt d s q := ⟨_, rfl⟩
                  have htn : t < k := by rw [ht, HN.out]; exact RT.out.nxt_lt hsd hqd
                  have hlq : l[q]? = some (t : Int) := by have := RT.out.nxt_cell hsd hqd; rw [getD_some hl, ← ht] at this; exact this
                  have hlK : l.length = K := by have := RT.out.len s hsd; rw [getD_some hl] at this; rw [this, HK.out]
                  obtain ⟨bl, ol, al, cl, e1, hbl, cll, hsl⟩ := (H1.out.below BX.out.2).elem hl
                  cases e1
                  rw [hlK] at cll hsl
                  obtain ⟨bz, oz, e9, hbz, cz⟩ := hsl.elem hlq
                  cases e9
                  replace cz : wc.cell? ⟨bz, oz + q, none⟩ = some (.int .i64 t) := cz
                  have FO := ((relaxRow_ok RT.out (relaxAll_ok RT.out (farTo_ok RT.out r).1 s (by omega)).1 hsd q (by omega))).1
                  have hrel : relaxRow d (relaxAll d (farTo d r) s) s (q + 1) = relax d (relaxRow d (relaxAll d (farTo d r) s) s q) s q := rfl
                  obtain ⟨L, hL⟩ : ∃ L, L = relaxRow d (relaxAll d (farTo d r) s) s q := ⟨_, rfl⟩
                  rw [← hL] at HRC FO hrel
                  unfold relax at hrel
                  rw [← ht] at hrel
                  obtain ⟨ct, _⟩ := intCell HRC.out htn
                  obtain ⟨cs, fs⟩ := intCell HRC.out hlt3
                  have lot := FO.lo t (by rw [← HN.out]; exact htn)
                  have los := FO.lo s hsd
                  rw [← HN.out] at lot los
                  obtain ⟨zt, hzt⟩ : ∃ z, z = L.getD t 0 := ⟨_, rfl⟩
                  obtain ⟨zs, hzs⟩ : ∃ z, z = L.getD s 0 := ⟨_, rfl⟩
                  rw [← hzt] at ct lot hrel
                  rw [← hzs] at cs los hrel
                  obtain ⟨lt0, lt1⟩ := lot
                  obtain ⟨ls0, ls1⟩ := los
                  have hti : (t : Int) < k := by omega
                  have hqi : (q : Int) < K := by omega
                  clear hzt hzs FO hlq hlK hl ht hsl hsd hqd hL
                  by_cases hc : zt + 1 < zs
                  · rw [if_pos hc] at hrel
                    have HREL := Lib.hid hrel
                    clear hrel
                    go_wp2_with fail
                    go_quiet (fail)
                    go_wp2
                    go_roundw
                    case rel =>
                      refine ⟨q + 1, by omega, by go_num, ?_, (HXC.out.drewN nq).setCell (p := ⟨g5, s, none⟩) (fun h => h.2 rfl) _⟩
                      rw [HREL.out, List.map_set]
                      exact ((show (wc.drewN nq).ownsRow g5 3 1 (.slice (some ⟨g5, 0, none⟩) k k) k (L.map encZ) from HRC.out).stored s _).1
                    case measure => simp [intOf]; omega
                  · rw [if_neg hc] at hrel
                    have HREL := Lib.hid hrel
                    clear hrel
                    have hcd : decide (zt + 1 < zs) = false := decide_eq_false hc
                    go_wp2_with fail
                    go_quiet (fail)
                    go_wp2
                    go_roundw
                    case rel => exact ⟨q + 1, by omega, by go_num, by rw [HREL.out]; exact HRC.out, HXC.out.drewN nq⟩
                    case measure => simp [intOf]; omega
                · obtain rfl : q = K := by omega
                  go_wp2
                  go_roundw
                  case rel =>
                    refine ⟨s + 1, by omega, by go_num, ?_, HXC.out⟩
                    rw [HK.out] at HRC
                    exact HRC.out
                  case measure => simp [intOf]; omega
            · obtain rfl : s = k := by omega
              go_wp2
              go_roundw
              case rel =>
                refine ⟨r + 1, by omega, by go_num, ?_, HXB.out⟩
                rw [HN.out] at HRB ⊢
                exact HRB.out
              case measure => simp [intOf]; omega
        · obtain rfl : r = k := by omega
          have BX := KK.out wa HXA.out
          go_wp2
          refine bodyPost_ret (v := .slice (some ⟨g5, 0, none⟩) r r) (by simp [results, Tryz.results58, go_sem]) rfl ⟨_, rfl, ?_, BX.out.2⟩
          rw [HFR.out]
          exact ownsRow_base HRO.out (by omega)
end Go.Proofs.YtiegfnmpknmbmaaGreat
