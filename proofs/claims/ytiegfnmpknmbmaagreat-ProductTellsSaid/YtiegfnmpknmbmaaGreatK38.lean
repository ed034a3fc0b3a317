/-
  The reference's Size, count and Count.
-/
import Derived.Test.YtiegfnmpknmbmaaGreatK37
import Derived.Test.YtiegfnmpknmbmaaGreatK19
namespace Go.Proofs.YtiegfnmpknmbmaaGreat
open Go Go.RowKit Go.Shelf Go.Maps
attribute [local go_sem] encS

set_option maxRecDepth 100000 in
set_option maxHeartbeats 4000000 in
theorem rsize_any (s : BS) (w : World) : Calls Tryz.prog 77 #[.agg (aI (refS s))] w fun e w' => e = .returned (.int .i64 (sizeS s)) ∧ Ext w w' := by
  go_enter Tryz.func77, Tryz.ntmps77
  go_wp2
  go_loopw [3, 4] (fun nv i wr => ∃ c : Nat, c ≤ 256 ∧ i = .int .i64 c ∧ nv = .int .i64 (bytesTo s c).length ∧ Blk wr w.heap.size (aI (refS s)) 75 ∧ Ext w wr) (fun _ i _ => 256 - (intOf i).toNat)
  case atStart => exact ⟨0, by omega, rfl, rfl, Blk.new _ _ _, (Ext.refl w).alloc _⟩
  case round =>
    obtain ⟨c, hc, rfl, rfl, hb, hx⟩ := hrel
    obtain ⟨wo, rfl⟩ : ∃ wo : World, wo = wr := ⟨_, rfl⟩
    have HB := Lib.hid hb
    have HX := Lib.hid hx
    have hl := bytesTo_len s c
    by_cases hlt : c < 256
    · have q := hb.aI hlt
      have hci : (c : Int) < 256 := by omega
      have hs := bytesTo_succ s c
      clear hb hx
      unfold refS at q
      obtain ⟨m, hm⟩ : ∃ m, m = (bytesTo s c).length := ⟨_, rfl⟩
      rw [← hm] at hl ⊢
      cases hbit : s.getLsbD c with
      | true =>
        rw [hbit] at q hs
        replace q : wo.cell? ⟨w.heap.size, c, none⟩ = some (.int .i64 1) := q
        have HS := Lib.hid hs
        have HM := Lib.hid hm
        clear hs hm hbit
        go_wp2
        go_roundw
        case rel =>
          refine ⟨c + 1, by omega, by go_num, ?_, HB.out, HX.out⟩
          rw [HS.out, List.length_append, ← HM.out]
          go_num
        case measure => simp [intOf]; omega
      | false =>
        rw [hbit] at q hs
        replace q : wo.cell? ⟨w.heap.size, c, none⟩ = some (.int .i64 0) := q
        have HS := Lib.hid hs
        have HM := Lib.hid hm
        clear hs hm hbit
        go_wp2
        go_roundw
        case rel =>
          refine ⟨c + 1, by omega, by go_num, ?_, HB.out, HX.out⟩
          rw [HS.out, List.length_append, ← HM.out]
          go_num
        case measure => simp [intOf]; omega
    · obtain rfl : c = 256 := by omega
      clear hb hx
      go_wp2
      exact bodyPost_ret (v := .int .i64 (bytesTo s 256).length) (by simp [results, Tryz.results77, go_sem]) rfl ⟨rfl, HX.out⟩

set_option maxRecDepth 100000 in
set_option maxHeartbeats 8000000 in
theorem rcount_zero (v : Value) (d : DF) (rt : Rt d) (w : World) (h : IsRf w v d) :
    Calls Tryz.prog 59 #[v, .int .i64 0] w fun e w' => ∃ g, e = .returned (.slice (some ⟨g, 0, none⟩) d.nx.length d.nx.length) ∧ w'.ownsRow w.heap.size 3 1 (.slice (some ⟨g, 0, none⟩) d.nx.length d.nx.length) d.nx.length ((cntTo d 0).map encZ) ∧ Below w.heap.size w w' := by
  obtain ⟨iI, hiI, hzI0, hzI1, hzI2⟩ := info_parts Tryz.infoI
  obtain ⟨v0, v1, v2, rfl, h0, h1, h2⟩ := h
  obtain ⟨a0, c0, rfl⟩ := h0.form
  obtain ⟨a1, c1, rfl⟩ := h1.form
  obtain ⟨a2, c2, rfl⟩ := h2.form
  have hmr := rt.mr
  rw [hmr] at h2 ⊢
  obtain ⟨N, hN⟩ : ∃ n, n = d.nx.length := ⟨_, rfl⟩
  have hn4 : N ≤ 4000 := by have := rt.le; omega
  generalize (d.cl.map refS).length = K at *
  rw [← hN] at h2 ⊢
  have H2 := Lib.hid h2
  have HN := Lib.hid hN
  have HMR := Lib.hid hmr
  clear h0 h1 h2 hN hmr rt
  go_enter Tryz.func59, Tryz.ntmps59
  go_wp2_with (at_make; refine wpList_named ?_; intro V hV; refine Hid.out ?_)
  refine Lib.hid ?_
  have B1 : Hid (Blk V w.heap.size #[.slice a0 K c0, .slice a1 N c1, .slice a2 N c2] 42) := by rw [hV]; exact Blk.new w _ _
  have X1 : Hid (Below w.heap.size w V) := by rw [hV]; exact ((Ext.refl w).alloc _).below
  clear hV
  have hwV : w.heap.size < V.heap.size := B1.out.lt
  go_wp2_with (at_make; refine wpList_make_full _ rfl (.tmp 12) (.tmp 12) 36 rfl V.heap.size 3 iI (.int .i64 0) 1 Tryz.underlying36 hiI hzI0 hzI1 .i64 .i64 _ _ N rfl rfl rfl rfl (by rw [hzI2]; omega) (by unfold maxLen; omega) (Nat.le_refl _) ?_; intro w3 hr hg; refine Hid.out ?_)
  refine Lib.hid ?_
  have hs3 : V.heap.size < w3.heap.size := by
    rcases hr.2 with ⟨h5, _⟩ | ⟨g, c, cur, h5, _, h6, _⟩
    · cases h5
    · cases h5; exact (Array.getElem?_eq_some_iff.1 h6).1
  have hb3 : Below V.heap.size V w3 := (Keeps.of_grown hg fun x hx => ⟨hx, fun e => by cases e⟩ : Keeps (· < V.heap.size) V w3).below
  rw [made_ints] at hr
  have R3 := Lib.hid hr
  have C1 := Lib.hid (B1.out.below hb3 B1.out.lt)
  have X3 := Lib.hid (X1.out.trans (hb3.mono X1.out.size))
  clear hr hg hb3 B1 X1
  obtain ⟨g5, hg5⟩ : ∃ g, g = V.heap.size := ⟨_, rfl⟩
  rw [← hg5] at R3 hs3 hwV ⊢
  clear hg5
  have kk : ∀ wr : World, Keeps (fun x => x < w3.heap.size ∧ x ≠ g5) w3 wr → Hid (Blk wr w.heap.size #[.slice a0 K c0, .slice a1 N c1, .slice a2 N c2] 42 ∧ Below w.heap.size w wr) := fun wr hx => Lib.hid ⟨C1.out.keeps hx ⟨by omega, by omega⟩, X3.out.trans (hx.mono fun x h5 => by have : x < w.heap.size := h5; exact ⟨by omega, by omega⟩ : Keeps (· < w.heap.size) w3 wr).below⟩
  have KK := Lib.hid kk
  clear kk
  go_wp2
  go_loopw [6] (fun i wr => ∃ (k : Nat) (l : List Int), k ≤ N ∧ i = .int .i64 k ∧ UpTo (fun s => if acc d s then 1 else 0) k N l ∧ wr.ownsRow g5 3 1 (.slice (some ⟨g5, 0, none⟩) N N) N (l.map encZ) ∧ Keeps (fun x => x < w3.heap.size ∧ x ≠ g5) w3 wr) (fun i _ => N - (intOf i).toNat)
  case atStart => exact ⟨0, _, Nat.zero_le _, rfl, UpTo.zero _ _, R3.out, Keeps.refl _ _⟩
  case round =>
    obtain ⟨k, l, hk, rfl, hu, hr, hx⟩ := hrel
    obtain ⟨wo, rfl⟩ : ∃ wo : World, wo = wr := ⟨_, rfl⟩
    have HU := Lib.hid hu
    have HR := Lib.hid hr
    have HX := Lib.hid hx
    have BX := KK.out wo hx
    clear hu hr hx
    by_cases hlt : k < N
    · obtain ⟨m, hm⟩ : ∃ m, d.mr[k]? = some m := ⟨_, List.getElem?_eq_getElem (by have := HMR.out; have := HN.out; omega)⟩
      obtain ⟨bm, om, am, cm, e2, hbm, cmm, _⟩ := (H2.out.below BX.out.2).elem hm
      cases e2
      obtain ⟨⟨b0, b1, b2⟩, _⟩ := BX.out.1.three
      have hki : (k : Int) < N := by omega
      obtain ⟨cc, ff⟩ := intCell HR.out hlt
      have hacc : acc d k = !m.isEmpty := by unfold acc; rw [getD_some hm]
      have hset := HU.out.set hlt
      cases m with
      | nil =>
        have hac : acc d k = false := hacc
        rw [hac] at hset
        have h0 : l.set k 0 = l := set_self l k (by rw [HU.out.2 k hlt, if_neg (by omega)])
        have hset' : UpTo (fun s => if acc d s then 1 else 0) (k + 1) N l := by
          have h5 : l.set k (if false = true then 1 else 0) = l := h0
          rwa [h5] at hset
        have HSET := Lib.hid hset'
        clear hacc hac hset hset' h0 hm cc ff
        go_wp2
        go_roundw
        case rel => exact ⟨k + 1, l, by omega, by go_num, HSET.out, HR.out, HX.out⟩
        case measure => simp [intOf]; omega
      | cons x m =>
        have hac : acc d k = true := hacc
        rw [hac] at hset
        have HSET := Lib.hid hset
        obtain ⟨ml, hml⟩ : ∃ n, n = (x :: m).length := ⟨_, rfl⟩
        rw [← hml] at cmm
        have hml0 : 0 < ml := by rw [hml]; simp
        have hmli : (0 : Int) < ml := by omega
        clear hacc hac hset hm hml
        go_wp2
        go_roundw
        case rel =>
          refine ⟨k + 1, _, by omega, by go_num, HSET.out, ?_, HX.out.tr ((Keeps.refl _ wo).setCell (p := ⟨g5, k, none⟩) (fun h => h.2 rfl) _)⟩
          rw [List.map_set]
          exact (HR.out.stored k _).1
        case measure => simp [intOf]; omega
    · obtain rfl : k = N := by omega
      have hl : l = cntTo d 0 := by
        have := HU.out.full
        rw [this, HN.out]
        rfl
      have HR0 : Hid (wo.ownsRow g5 3 1 (.slice (some ⟨g5, 0, none⟩) k k) k ((cntTo d 0).map encZ)) := Lib.hid (by rw [← hl]; exact HR.out)
      clear hl HR HU
      go_wp2
      exact bodyPost_ret (v := .slice (some ⟨g5, 0, none⟩) k k) (by simp [results, Tryz.results59, go_sem]) rfl ⟨_, rfl, ownsRow_base HR0.out (by omega), BX.out.2⟩

set_option maxRecDepth 100000 in
set_option maxHeartbeats 8000000 in
theorem rcount_succ (v : Value) (d : DF) (rt : Rt d) (n : Nat) (hn : n < 64) (ih : ∀ w, IsRf w v d → Calls Tryz.prog 59 #[v, .int .i64 n] w fun e w' => ∃ g, e = .returned (.slice (some ⟨g, 0, none⟩) d.nx.length d.nx.length) ∧ w'.ownsRow w.heap.size 3 1 (.slice (some ⟨g, 0, none⟩) d.nx.length d.nx.length) d.nx.length ((cntTo d n).map encZ) ∧ Below w.heap.size w w') (w : World) (h : IsRf w v d) :
    Calls Tryz.prog 59 #[v, .int .i64 (n + 1 : Nat)] w fun e w' => ∃ g, e = .returned (.slice (some ⟨g, 0, none⟩) d.nx.length d.nx.length) ∧ w'.ownsRow w.heap.size 3 1 (.slice (some ⟨g, 0, none⟩) d.nx.length d.nx.length) d.nx.length ((cntTo d (n + 1)).map encZ) ∧ Below w.heap.size w w' := by
  obtain ⟨iI, hiI, hzI0, hzI1, hzI2⟩ := info_parts Tryz.infoI
  have CT : Hid (∀ W, Below w.heap.size w W → Calls Tryz.prog 59 #[v, .int .i64 n] W fun e w' => ∃ g, e = .returned (.slice (some ⟨g, 0, none⟩) d.nx.length d.nx.length) ∧ w'.ownsRow W.heap.size 3 1 (.slice (some ⟨g, 0, none⟩) d.nx.length d.nx.length) d.nx.length ((cntTo d n).map encZ) ∧ Below W.heap.size W w') := Lib.hid fun W hW => ih W (h.below hW)
  have CS : Hid (∀ s W, Calls Tryz.prog 77 #[.agg (aI (refS s))] W fun e w' => e = .returned (.int .i64 (sizeS s)) ∧ Ext W w') := Lib.hid rsize_any
  have IN : Hid (∀ t, 0 ≤ (cntTo d n).getD t 0 ∧ (cntTo d n).getD t 0 ≤ maxC) := Lib.hid (cntTo_in d n)
  have hcn : cntTo d (n + 1) = (List.range d.nx.length).map fun s => cntRow d (cntTo d n) s d.cl.length := rfl
  generalize cntTo d n = less at CT IN hcn
  generalize cntTo d (n + 1) = res at hcn ⊢
  clear ih
  obtain ⟨v0, v1, v2, rfl, h0, h1, h2⟩ := h
  obtain ⟨a0, c0, rfl⟩ := h0.form
  obtain ⟨a1, c1, rfl⟩ := h1.form
  obtain ⟨a2, c2, rfl⟩ := h2.form
  have hkl : (d.cl.map refS).length = d.cl.length := List.length_map ..
  obtain ⟨N, hN⟩ : ∃ n, n = d.nx.length := ⟨_, rfl⟩
  obtain ⟨K, hK⟩ : ∃ n, n = d.cl.length := ⟨_, rfl⟩
  have hn4 : N ≤ 4000 := by have := rt.le; omega
  have hK2 : K ≤ 256 := by have := rt.clle; omega
  rw [hkl, ← hK] at h0 CT ⊢
  rw [← hN] at h1 CT hcn ⊢
  rw [← hK] at hcn
  generalize d.mr.length = M at *
  have H0 := Lib.hid h0
  have H1 := Lib.hid h1
  have HN := Lib.hid hN
  have HK := Lib.hid hK
  have RT := Lib.hid rt
  have HCN := Lib.hid hcn
  have hnw : ((n + 1 : Nat) : Int) = (n : Int) + 1 := by omega
  rw [hnw]
  have hn0 : (((n : Int) + 1) == 0) = false := by rw [beq_eq_false_iff_ne]; omega
  have hn1 : (n : Int) + 1 - 1 = n := by omega
  clear h0 h1 h2 hN hK rt hkl hcn hnw
  go_enter Tryz.func59, Tryz.ntmps59
  go_wp2_with (at_make; refine wpList_named ?_; intro V hV; refine Hid.out ?_)
  refine Lib.hid ?_
  have B1 : Hid (Blk V w.heap.size #[.slice a0 K c0, .slice a1 N c1, .slice a2 M c2] 42) := by rw [hV]; exact Blk.new w _ _
  have X1 : Hid (Below w.heap.size w V) := by rw [hV]; exact ((Ext.refl w).alloc _).below
  clear hV
  have hwV : w.heap.size < V.heap.size := B1.out.lt
  go_wp2_with (at_make; refine wpList_make_full _ rfl (.tmp 12) (.tmp 12) 36 rfl V.heap.size 3 iI (.int .i64 0) 1 Tryz.underlying36 hiI hzI0 hzI1 .i64 .i64 _ _ N rfl rfl rfl rfl (by rw [hzI2]; omega) (by unfold maxLen; omega) (Nat.le_refl _) ?_; intro w3 hr hg; refine Hid.out ?_)
  refine Lib.hid ?_
  have hs3 : V.heap.size < w3.heap.size := by
    rcases hr.2 with ⟨h5, _⟩ | ⟨g, c, cur, h5, _, h6, _⟩
    · cases h5
    · cases h5; exact (Array.getElem?_eq_some_iff.1 h6).1
  have hb3 : Below V.heap.size V w3 := (Keeps.of_grown hg fun x hx => ⟨hx, fun e => by cases e⟩ : Keeps (· < V.heap.size) V w3).below
  rw [made_ints] at hr
  have R3 := Lib.hid hr
  have C1 := Lib.hid (B1.out.below hb3 B1.out.lt)
  have X3 := Lib.hid (X1.out.trans (hb3.mono X1.out.size))
  clear hr hg hb3 B1 X1
  obtain ⟨g5, hg5⟩ : ∃ g, g = V.heap.size := ⟨_, rfl⟩
  rw [← hg5] at R3 hs3 hwV ⊢
  clear hg5
  obtain ⟨⟨b0, b1, b2⟩, _⟩ := C1.out.three
  go_wp2_with fail
  refine (CT.out w3 X3.out).mono ?_
  rintro e w4 ⟨g6, rfl, hr, hx⟩
  have hg6 := hr.lt g6 rfl
  have L4 := Lib.hid hr
  have R4 := Lib.hid (ownsRow_below R3.out hx)
  have C4 := Lib.hid (C1.out.below hx C1.out.lt)
  have X4 := Lib.hid (X3.out.trans (hx.mono X3.out.size))
  have hs4 : w3.heap.size ≤ w4.heap.size := hx.size
  clear hr hx b0 b1 b2 R3 C1 X3 CT
  have kk : ∀ wr : World, Keeps (fun x => x < w4.heap.size ∧ x ≠ g5) w4 wr → Hid (Blk wr w.heap.size #[.slice a0 K c0, .slice a1 N c1, .slice a2 M c2] 42 ∧ Below w.heap.size w wr ∧ ∀ t, t < N → wr.cell? ⟨g6, t, none⟩ = some (.int .i64 (less.getD t 0))) := fun wr hx => Lib.hid ⟨C4.out.keeps hx ⟨by omega, by omega⟩, X4.out.trans (hx.mono fun x h5 => by have : x < w.heap.size := h5; exact ⟨by omega, by omega⟩ : Keeps (· < w.heap.size) w4 wr).below, fun t ht => (hx.cell (p := ⟨g6, t, none⟩) ⟨hg6.2, by show g6 ≠ g5; omega⟩).trans (intCell L4.out ht).1⟩
  have KK := Lib.hid kk
  clear kk
  go_wp2
  go_loopw [8] (fun i wr => ∃ (s : Nat) (l : List Int), s ≤ N ∧ i = .int .i64 s ∧ UpTo (fun s => cntRow d less s K) s N l ∧ wr.ownsRow g5 3 1 (.slice (some ⟨g5, 0, none⟩) N N) N (l.map encZ) ∧ Keeps (fun x => x < w4.heap.size ∧ x ≠ g5) w4 wr) (fun i _ => N - (intOf i).toNat)
  case atStart => exact ⟨0, _, Nat.zero_le _, rfl, UpTo.zero _ _, R4.out, Keeps.refl _ _⟩
  case round =>
    obtain ⟨s, l, hs, rfl, hu, hr, hx⟩ := hrel
    obtain ⟨wo, rfl⟩ : ∃ wo : World, wo = wr := ⟨_, rfl⟩
    have HU := Lib.hid hu
    have HR := Lib.hid hr
    have HX := Lib.hid hx
    clear hu hr hx
    by_cases hlt : s < N
    · have hsi : (s : Int) < N := by omega
      have hsd : s < d.nx.length := by rw [← HN.out]; exact hlt
      have HSET := Lib.hid (HU.out.set hlt)
      have hl0 : l.getD s 0 = 0 := by rw [HU.out.2 s hlt, if_neg (by omega)]
      have HL0 : Hid (l.set s 0 = l) := Lib.hid (set_self l s hl0)
      have HLL : Hid (s < l.length) := Lib.hid (by rw [HU.out.1]; exact hlt)
      obtain ⟨r, hr⟩ : ∃ r, d.nx[s]? = some r := ⟨_, List.getElem?_eq_getElem hsd⟩
      have HRW := Lib.hid hr
      clear hr hl0
      go_wp2
      go_loopw [9] (fun i wr => ∃ (q : Nat), q ≤ K ∧ i = .int .i64 q ∧ wr.ownsRow g5 3 1 (.slice (some ⟨g5, 0, none⟩) N N) N ((l.set s (cntRow d less s q)).map encZ) ∧ Keeps (fun x => x < w4.heap.size ∧ x ≠ g5) w4 wr) (fun i _ => K - (intOf i).toNat)
      case atStart =>
        refine ⟨0, Nat.zero_le _, rfl, ?_, HX.out⟩
        show wo.ownsRow _ _ _ _ _ ((l.set s 0).map encZ)
        rw [HL0.out]
        exact HR.out
      case round =>
        obtain ⟨q, hq, rfl, hr, hx⟩ := hrel
        obtain ⟨wi, rfl⟩ : ∃ wo : World, wo = wr := ⟨_, rfl⟩
        have HRI := Lib.hid hr
        have HXI := Lib.hid hx
        have BX := KK.out wi hx
        obtain ⟨⟨b0, b1, b2⟩, _⟩ := BX.out.1.three
        clear hr hx
        by_cases hqK : q < K
        · have hqi : (q : Int) < K := by omega
          have hqd : q < d.cl.length := by rw [← HK.out]; exact hqK
          obtain ⟨t, ht⟩ : ∃ t, t = nxt d s q := ⟨_, rfl⟩
          have htn : t < N := by rw [ht, HN.out]; exact RT.out.nxt_lt hsd hqd
          have hrq : r[q]? = some (t : Int) := by have := RT.out.nxt_cell hsd hqd; rw [getD_some HRW.out, ← ht] at this; exact this
          have hrK : r.length = K := by have := RT.out.len s hsd; rw [getD_some HRW.out] at this; rw [this, HK.out]
          obtain ⟨bl, ol, al, cl, e1, hbl, cll, hsl⟩ := (H1.out.below BX.out.2.1).elem HRW.out
          cases e1
          rw [hrK] at cll hsl
          obtain ⟨bz, oz, e9, hbz, cz⟩ := hsl.elem hrq
          cases e9
          replace cz : wi.cell? ⟨bz, oz + q, none⟩ = some (.int .i64 t) := cz
          obtain ⟨c, hc⟩ : ∃ c, d.cl[q]? = some c := ⟨_, List.getElem?_eq_getElem hqd⟩
          obtain ⟨bc, oc, e8, hbc, rc⟩ := (H0.out.below BX.out.2.1).rangeE (i := q) (f := refS c) (by rw [List.getElem?_map, hc]; rfl)
          cases e8
          have RC := Lib.hid rc
          have q6 := BX.out.2.2 t htn
          have hmv := IN.out t
          obtain ⟨mv, hmve⟩ : ∃ z, z = less.getD t 0 := ⟨_, rfl⟩
          rw [← hmve] at q6 hmv
          obtain ⟨hmv0, hmv1⟩ := hmv
          have hcr := cntRow_in (d := d) (many := less) IN.out s q
          obtain ⟨q5, _⟩ := intCell HRI.out hlt
          rw [getD_set _ _ _ _ HLL.out, if_pos rfl] at q5
          obtain ⟨y, hy⟩ : ∃ y, y = cntRow d less s q := ⟨_, rfl⟩
          rw [← hy] at q5 hcr
          obtain ⟨hy0, hy1⟩ := hcr
          have hsz := sizeS_le c
          have hrow : cntRow d less s (q + 1) = min (y + sizeS c * mv) maxC := by
            show min (cntRow d less s q + sizeS (d.cl.getD q 0) * less.getD (nxt d s q) 0) maxC = _
            rw [← hy, getD_some hc, ← ht, ← hmve]
          have CSC : Hid (∀ W, Calls Tryz.prog 77 #[.agg (aI (refS c))] W fun e w' => e = .returned (.int .i64 (sizeS c)) ∧ Ext W w') := Lib.hid fun W => CS.out c W
          obtain ⟨sz, hsze⟩ : ∃ z, z = sizeS c := ⟨_, rfl⟩
          rw [← hsze] at CSC hrow hsz
          have hp0 : (0 : Int) ≤ (sz : Int) * mv := Int.mul_nonneg (by omega) hmv0
          have hp1 : (sz : Int) * mv ≤ 256 * 1099511627776 := Int.mul_le_mul (by omega) (by unfold maxC at hmv1; exact hmv1) hmv0 (by omega)
          obtain ⟨p, hp⟩ : ∃ p, p = (sz : Int) * mv := ⟨_, rfl⟩
          rw [← hp] at hp0 hp1 hrow
          unfold maxC at hy1 hmv1
          have hti : (t : Int) < N := by omega
          have hw1 : IntKind.i64.wrap ((sz : Int) * mv) = p := by rw [← hp]; exact IntWalk.i64_in _ ⟨by omega, by omega⟩
          have HROW := Lib.hid hrow
          have hszw : g5 < wi.heap.size := by have : w4.heap.size ≤ wi.heap.size := HXI.out.size; omega
          have hg6w : g6 < wi.heap.size := by have : w4.heap.size ≤ wi.heap.size := HXI.out.size; omega
          clear hrow hsze hy hmve hsz hc hrq hrK ht hp hsl
          go_wp2
          refine wp_region_reg false (fun _ => False) (by kernel_rfl) 26 [0, 0, 0, 0, 12, 28, 0, 64, 0, 448, 960, 1984, 0, 0, 8192, 0, 57344, 122880, 0, 516096, 1040384, 2093056, 4190208, 8388544, 16777212, 33554431, 67108863] (fun i => i == 11 || i == 26) (by kernel_rfl) (fun i => if i = 11 then Eff.det _ (.int .i64 sz) else Eff.any _) ?_
          intro C hC hne
          have HC := Lib.hid hC
          have hlw : w.heap.size < wi.heap.size := by omega
          have f0 := regCell hC (p := ⟨w.heap.size, 0, none⟩) hlw (fun h => h) b0
          have f1 := regCell hC (p := ⟨w.heap.size, 1, none⟩) hlw (fun h => h) b1
          have t1 := regCell hC (p := ⟨bl, ol + s, none⟩) hbl (fun h => h) cll
          have t2 := regCell hC (p := ⟨bz, oz + q, none⟩) hbz (fun h => h) cz
          have t5 := regCell hC (p := ⟨g5, s, none⟩) hszw (fun h => h) q5
          have t6 := regCell hC (p := ⟨g6, t, none⟩) hg6w (fun h => h) q6
          clear hC b0 b1 b2 cll cz q5 q6
          iterate 10 (refine regStep (fun K hK => ?_); refine regF rfl rfl ?_; unfold floatAt; go_simp; refine hK _ _ ?_; clear hK K)
          refine regStep (fun K hK => ?_)
          refine regL rfl rfl (.agg (aI (refS c))) (fun W hW hN => have hM := (HC.out W).1 hW; floatAt_load 75 (.tmp 59) rfl (bc) (oc + q * 256) rfl (aI (refS c)) _ (rangeAt_keeps RC.out hM.keeps ⟨hbc, fun h => h⟩) Tryz.underlying75 rfl (sizeA56 _)) ?_
          go_simp
          refine hK _ _ ?_
          clear hK K
          refine regStep (fun K hK => ?_)
          refine regE rfl rfl (Eff.det _ (.int .i64 sz)) rfl (fun W hW hN => ?_) (fun v hv => ?_)
          · have hM := (HC.out W).1 hW
            clear hW
            go_simp
            refine effT_call ((CSC.out _).mono ?_)
            rintro e w9 ⟨rfl, hx⟩
            exact ⟨_, rfl, Move.of_ext hx, rfl, trivial⟩
          replace hv : v = _ := hv
          subst hv
          go_simp
          refine hK _ _ ?_
          clear hK K
          repeat (refine regStep (fun K hK => ?_); first | (refine regN rfl ?_; try go_simp; refine hK _ _ ?_; clear hK K) | (refine regF rfl rfl ?_; unfold floatAt; go_simp; refine hK _ _ ?_; clear hK K))
          refine regNil (fun W hW hH => ?_)
          have hM := (HC.out W).1 hW
          have KW : Hid (Keeps (fun x => x < wi.heap.size) wi W) := Lib.hid (Keeps.of_below hM.below fun _ h => h)
          have RW := Lib.hid (ownsRow_below HRI.out hM.below)
          have fz := (intCell RW.out hlt).2
          clear hM hW hH HC f0 f1 t1 t2 t5 t6
          have hsW : wi.heap.size ≤ W.heap.size := KW.out.size
          have XW := Lib.hid (HXI.out.tr (KW.out.mono fun x (hx : x < w4.heap.size ∧ x ≠ g5) => by have := hx.1; have : w4.heap.size ≤ wi.heap.size := HXI.out.size; omega))
          obtain ⟨c5, fz⟩ := intCell RW.out hlt
          by_cases hmx : (1099511627776 : Int) < y + p
          · have hmd : decide ((1099511627776 : Int) < y + p) = true := decide_eq_true hmx
            have hmin : min (y + p) maxC = 1099511627776 := by unfold maxC; omega
            have HMIN := Lib.hid hmin
            clear hmin
            go_wp2
            go_roundw
            case rel =>
              refine ⟨q + 1, by omega, by go_num, ?_, (XW.out.setCell (p := ⟨g5, s, none⟩) (fun h => h.2 rfl) _).setCell (p := ⟨g5, s, none⟩) (fun h => h.2 rfl) _⟩
              have h9 := ((RW.out.stored s (.int .i64 (y + p))).1.stored s (.int .i64 1099511627776)).1
              rw [HROW.out, HMIN.out]
              rw [show (l.set s 1099511627776).map encZ = ((((l.set s (cntRow d less s q)).map encZ).set s (.int .i64 (y + p))).set s (.int .i64 1099511627776)) by rw [List.map_set, List.map_set, List.set_set, List.set_set]; rfl]
              exact h9
            case measure => simp [intOf]; omega
          · have hmd : decide ((1099511627776 : Int) < y + p) = false := decide_eq_false hmx
            have hmin : min (y + p) maxC = y + p := by unfold maxC; omega
            have HMIN := Lib.hid hmin
            clear hmin
            go_wp2
            go_roundw
            case rel =>
              refine ⟨q + 1, by omega, by go_num, ?_, XW.out.setCell (p := ⟨g5, s, none⟩) (fun h => h.2 rfl) _⟩
              have h9 := (RW.out.stored s (.int .i64 (y + p))).1
              rw [HROW.out, HMIN.out]
              rw [show (l.set s (y + p)).map encZ = ((l.set s (cntRow d less s q)).map encZ).set s (.int .i64 (y + p)) by rw [List.map_set, List.map_set, List.set_set]; rfl]
              exact h9
            case measure => simp [intOf]; omega
        · obtain rfl : q = K := by omega
          go_wp2
          go_roundw
          case rel => exact ⟨s + 1, _, by omega, by go_num, HSET.out, HRI.out, HXI.out⟩
          case measure => simp [intOf]; omega
    · obtain rfl : s = N := by omega
      have BX := KK.out wo HX.out
      have hl : l = res := by rw [HU.out.full, HCN.out]
      have HRL : Hid (wo.ownsRow g5 3 1 (.slice (some ⟨g5, 0, none⟩) s s) s (res.map encZ)) := Lib.hid (by rw [← hl]; exact HR.out)
      clear hl HR HU
      go_wp2
      exact bodyPost_ret (v := .slice (some ⟨g5, 0, none⟩) s s) (by simp [results, Tryz.results59, go_sem]) rfl ⟨_, rfl, ownsRow_base HRL.out (by omega), BX.out.2.1⟩
theorem rcount_any (v : Value) (d : DF) (rt : Rt d) : ∀ (n : Nat), n ≤ 64 → ∀ (w : World), IsRf w v d →
    Calls Tryz.prog 59 #[v, .int .i64 n] w fun e w' => ∃ g, e = .returned (.slice (some ⟨g, 0, none⟩) d.nx.length d.nx.length) ∧ w'.ownsRow w.heap.size 3 1 (.slice (some ⟨g, 0, none⟩) d.nx.length d.nx.length) d.nx.length ((cntTo d n).map encZ) ∧ Below w.heap.size w w'
  | 0, _, w, h => rcount_zero v d rt w h
  | n + 1, hn, w, h => rcount_succ v d rt n (by omega) (fun w h => rcount_any v d rt n (by omega) w h) w h
end Go.Proofs.YtiegfnmpknmbmaaGreat
