/-
  The reference's Behind, Run and First.
-/
import Derived.Test.YthdnlndpmmiboaaGreatDoorR32
import Derived.Test.YthdnlndpmmiboaaGreatDoorR18
import Derived.Test.YthdnlndpmmiboaaGreatDoorR17
import Derived.Test.YthdnlndpmmiboaaGreatDoorR33
namespace Go.Proofs.YthdnlndpmmiboaaGreatDoor
open Go Go.RowKit Go.Shelf Go.Maps

set_option maxRecDepth 100000 in
set_option maxHeartbeats 8000000 in
theorem refBehind18_any (v bv : Value) (d : DF) (rt : Rt d) (s : Nat) (hs : s < d.nx.length) (b : List Nat) (hb : ∀ c ∈ b, c < 256) (hbn : b.length ≤ 1000000) (w : World) (h : IsRf w v d) (hbv : IsSl encB w bv b) :
    Calls Tryz.prog 36 #[v, .int .i64 s, bv] w fun e w' => e = .returned (.int .i64 (runD d s b)) ∧ Below w.heap.size w w' := by
  have CC : Hid (∀ c : Nat, c < 256 → ∀ W, Below w.heap.size w W → Calls Tryz.prog 38 #[v, .int .u8 c] W fun e w' => e = .returned (.int .i64 (cls d.cl c)) ∧ Below W.heap.size W w') := Lib.hid fun c hc W hW => refClassD_any v d rt c hc W (h.below hW)
  obtain ⟨v0, v1, v2, rfl, h0, h1, h2⟩ := h
  obtain ⟨a0, c0, rfl⟩ := h0.form
  obtain ⟨a1, c1, rfl⟩ := h1.form
  obtain ⟨a2, c2, rfl⟩ := h2.form
  skip --Z1
  rw [List.length_map] at h0 CC ⊢
  skip --Z2
  obtain ⟨ba, bc, rfl⟩ := hbv.form
  obtain ⟨n, hn⟩ : ∃ n, n = d.nx.length := ⟨_, rfl⟩
  obtain ⟨K, hK⟩ : ∃ n, n = d.cl.length := ⟨_, rfl⟩
  obtain ⟨m, hm⟩ : ∃ n, n = b.length := ⟨_, rfl⟩
  have hn4 : n ≤ 4000 := by have := rt.le; omega
  have hK2 : K ≤ 256 := by have := rt.clle; omega
  rw [← hn] at h1 hs CC ⊢
  rw [← hK] at h0 CC ⊢
  rw [← hm] at hbv hbn ⊢
  skip --Z3
  generalize d.mr.length = n2 at *
  skip --Z4
  have H1 := Lib.hid h1
  have HB := Lib.hid hbv
  have HN := Lib.hid hn
  have HK := Lib.hid hK
  have HM := Lib.hid hm
  have RT := Lib.hid rt
  have HBB := Lib.hid hb
  have HLT : Hid (∀ k, runD d s (b.take k) < n) := Lib.hid fun k => by rw [hn]; exact runD_lt rt (by rw [← hn]; exact hs) _ fun c hc => hb c (List.mem_of_mem_take hc)
  clear h0 h1 h2 hn hK hm rt hb hbv
  skip --A0a
  go_enter Tryz.func36, Tryz.ntmps36
  skip --A0b
  go_wp2
  skip --A0c
  refine wp_named ?_
  intro V hV
  have B1 : Hid (Blk V w.heap.size #[.slice a0 K c0, .slice a1 n c1, .slice a2 n2 c2] 48) := Lib.hid (by rw [hV]; exact Blk.new w _ _)
  have X1 : Hid (Below w.heap.size w V) := Lib.hid (by rw [hV]; exact ((Ext.refl w).alloc _).below)
  clear hV
  skip --A1
  go_loopw [1, 7] (fun sv iv wr => ∃ i : Nat, i ≤ m ∧ iv = .int .i64 i ∧ sv = .int .i64 (runD d s (b.take i)) ∧ Below V.heap.size V wr) (fun _ iv _ => m - (intOf iv).toNat)
  case atStart => exact ⟨0, Nat.zero_le _, rfl, rfl, Below.refl _ _⟩
  case round =>
    obtain ⟨i, hi, rfl, rfl, hx⟩ := hrel
    obtain ⟨wo, rfl⟩ : ∃ wo : World, wo = wr := ⟨_, rfl⟩
    have HX := Lib.hid hx
    have XO := Lib.hid (X1.out.trans (hx.mono X1.out.size))
    clear hx
    obtain ⟨q, hq⟩ : ∃ q, q = runD d s (b.take i) := ⟨_, rfl⟩
    have hqn : q < n := by rw [hq]; exact HLT.out i
    rw [← hq]
    have HQ := Lib.hid hq
    clear hq
    by_cases hlt : i < m
    · obtain ⟨c, hc⟩ : ∃ c, b[i]? = some c := ⟨_, List.getElem?_eq_getElem (by have := HM.out; omega)⟩
      have hc256 := HBB.out c (List.mem_of_getElem? hc)
      obtain ⟨bg, bo, rfl, hbg, hbc⟩ := (HB.out.below XO.out).elem hc
      replace hbc : wo.cell? ⟨bg, bo + i, none⟩ = some (.int .u8 c) := hbc
      have hrow : d.nx[q]? = some (d.nx.getD q []) := by
        rw [List.getD_eq_getElem?_getD, List.getElem?_eq_getElem (by rw [← HN.out]; exact hqn)]; rfl
      obtain ⟨g, off, a', c', rfl, hg, hgc, hsl⟩ := (H1.out.below XO.out).elem hrow
      have hrl : (d.nx.getD q []).length = K := by rw [HK.out]; exact RT.out.len q (by rw [← HN.out]; exact hqn)
      rw [hrl] at hgc hsl
      obtain ⟨k, hk⟩ : ∃ k, k = cls d.cl c := ⟨_, rfl⟩
      have hkK : k < K := by rw [hk, HK.out]; exact RT.out.part.cls_lt hc256
      obtain ⟨t, htn, hz, htl⟩ := nxL_at RT.out (s := q) (k := k) (by rw [← HN.out]; exact hqn) (by rw [← HK.out]; exact hkK)
      obtain ⟨g2, off2, rfl, hg2, hgc2⟩ := hsl.elem hz
      replace hgc2 : wo.cell? ⟨g2, off2 + k, none⟩ = some (.int .i64 (t : Int)) := hgc2
      have hnext : runD d s (b.take (i + 1)) = t := by
        rw [runD_take hc, ← HQ.out, ← hk]
        unfold nxt
        rw [List.getD_eq_getElem?_getD (l := d.nx.getD q []), hz]; simp
      have HNX := Lib.hid hnext
      have CK : Hid (∀ W, Below wo.heap.size wo W → Calls Tryz.prog 38 #[.agg #[.slice a0 K c0, .slice (some ⟨g, off, none⟩) n c1, .slice a2 n2 c2], .int .u8 c] W fun e w' => e = .returned (.int .i64 k) ∧ Below W.heap.size W w') := Lib.hid fun W hW => by rw [hk]; exact CC.out c hc256 W (XO.out.trans (hW.mono XO.out.size))
      have BW := Lib.hid (B1.out.below HX.out B1.out.lt)
      obtain ⟨⟨y0, y1, y2⟩, _⟩ := BW.out.three
      have hii : (i : Int) < m := by omega
      have hqi : (q : Int) < n := by omega
      have hki : (k : Int) < K := by omega
      clear hc hrow hsl hrl hz htl hnext hk
      go_upto_region 4 with fail
      skip --B1
      refine wp_region_reg false (fun _ => False) (by kernel_rfl) 14 [0, 1, 0, 7, 15, 0, 0, 0, 192, 448, 992, 2047, 4095, 8191] (fun i => i == 10) (by kernel_rfl) (fun i => if i = 10 then Eff.det _ (.int .i64 k) else Eff.any _) ?_
      intro C hC hne
      have HC := Lib.hid hC
      have f0 := regCell hC (p := ⟨w.heap.size, 0, none⟩) BW.out.lt (fun h => h) y0
      have f1 := regCell hC (p := ⟨w.heap.size, 1, none⟩) BW.out.lt (fun h => h) y1
      have f2 := regCell hC (p := ⟨w.heap.size, 2, none⟩) BW.out.lt (fun h => h) y2
      have f3 := regCell hC (p := ⟨bg, bo + i, none⟩) hbg (fun h => h) hbc
      have f4 := regCell hC (p := ⟨g, off + q, none⟩) hg (fun h => h) hgc
      have f5 := regCell hC (p := ⟨g2, off2 + k, none⟩) hg2 (fun h => h) hgc2
      clear hC y0 y1 y2
      skip --B2
      repeat (refine regStep (fun K hK => ?_); first | (refine regN rfl ?_; try go_simp; refine hK _ _ ?_; clear hK K) | (refine regF rfl rfl ?_; unfold floatAt; go_simp; refine hK _ _ ?_; clear hK K))
      refine regStep (fun K hK => ?_)
      refine regE rfl rfl (Eff.det _ (.int .i64 k)) rfl (fun W hW hN => ?_) (fun v hv => ?_)
      · have hM := (HC.out W).1 hW
        clear hW
        go_simp
        refine effT_call ((CK.out W hM.below).mono ?_)
        rintro e w2 ⟨rfl, hx⟩
        exact ⟨_, rfl, Move.of_below hx, rfl, trivial⟩
      replace hv : v = _ := hv
      subst hv
      go_simp
      refine hK _ _ ?_
      clear hK K
      repeat (refine regStep (fun K hK => ?_); first | (refine regN rfl ?_; try go_simp; refine hK _ _ ?_; clear hK K) | (refine regF rfl rfl ?_; unfold floatAt; go_simp; refine hK _ _ ?_; clear hK K))
      refine regNil (fun W hW hH => ?_)
      have hM := (HC.out W).1 hW
      have XW := Lib.hid (HX.out.trans (hM.below.mono HX.out.size))
      clear hM hW hH HC hne f0 f1 f2 f3 f4 f5 hbc hgc hgc2 BW
      skip --B3
      go_wp2
      go_roundw
      case rel => exact ⟨i + 1, by omega, by go_num, by rw [HNX.out], XW.out⟩
      case measure => simp [intOf]; omega
    · obtain rfl : i = m := by omega
      have hii : ¬ ((i : Int) < i) := by omega
      have htk : b.take i = b := List.take_of_length_le (by rw [HM.out]; exact Nat.le_refl _)
      have HTK : Hid (q = runD d s b) := Lib.hid (by rw [HQ.out, htk])
      clear htk
      go_wp2
      go_ret
      exact ⟨by rw [HTK.out]; rfl, XO.out⟩
set_option maxRecDepth 100000 in
set_option maxHeartbeats 8000000 in
theorem refRun18_any (v bv : Value) (d : DF) (rt : Rt d) (sm : Sm d) (s : Int) (b : List Nat) (hb : ∀ c ∈ b, c < 256) (hbn : b.length ≤ 1000000) (w : World) (h : IsRf w v d) (hbv : IsSl encB w bv b) :
    Calls Tryz.prog 35 #[v, .int .i64 s, bv] w fun e w' => e = .returned (.tuple #[.int .i64 (runE d s b).1, .int .i64 (runE d s b).2]) ∧ Below w.heap.size w w' := by
  have CR : Hid (∀ W, Below w.heap.size w W → Calls Tryz.prog 27 #[v] W fun e w' => e = .returned (.bool true) ∧ Below W.heap.size W w') := fun W hW => by
    have := refRight_any v d W (h.below hW) sm
    rwa [(right_iff d).2 rt] at this
  have CB : Hid (∀ q : Nat, q < d.nx.length → ∀ W, Below w.heap.size w W → Calls Tryz.prog 36 #[v, .int .i64 q, bv] W fun e w' => e = .returned (.int .i64 (runD d q b)) ∧ Below W.heap.size W w') := Lib.hid fun q hq W hW => refBehind18_any v bv d rt q hq b hb hbn W (h.below hW) (hbv.below hW)
  obtain ⟨v0, v1, v2, rfl, h0, h1, h2⟩ := h
  obtain ⟨a0, c0, rfl⟩ := h0.form
  obtain ⟨a1, c1, rfl⟩ := h1.form
  obtain ⟨a2, c2, rfl⟩ := h2.form
  obtain ⟨ba, bc, rfl⟩ := hbv.form
  obtain ⟨n, hn⟩ : ∃ n, n = d.nx.length := ⟨_, rfl⟩
  obtain ⟨r, hr⟩ : ∃ r, r = runE d s b := ⟨_, rfl⟩
  have hn4 : n ≤ 4000 := by have := rt.le; omega
  have hre : runE d s b = if s < 0 ∨ (n : Int) ≤ s then (0, 2) else (((runD d s.toNat b : Nat) : Int), 0) := by
    unfold runE
    rw [(right_iff d).2 rt, hn]; simp
  rw [← hr] at hre ⊢
  rw [List.length_map] at *
  rw [← hn] at CR CB ⊢
  generalize d.cl.length = n0 at *
  generalize d.mr.length = n2 at *
  generalize b.length = m at *
  have HRE := Lib.hid hre
  clear h0 h1 h2 hn rt sm hb hbv hr hre
  go_enter Tryz.func35, Tryz.ntmps35
  go_wp2_with fail
  refine calls_named ?_
  intro V hV
  have B1 : Hid (Blk V w.heap.size #[.slice a0 n0 c0, .slice a1 n c1, .slice a2 n2 c2] 48) := Lib.hid (by rw [hV]; exact Blk.new w _ _)
  have X1 : Hid (Below w.heap.size w V) := Lib.hid (by rw [hV]; exact ((Ext.refl w).alloc _).below)
  clear hV
  refine (CR.out V X1.out).mono ?_
  rintro e w2 ⟨rfl, hx⟩
  have B2 := Lib.hid (B1.out.below hx B1.out.lt)
  have X2 := Lib.hid (X1.out.trans (hx.mono X1.out.size))
  clear hx B1 X1 CR
  obtain ⟨⟨y0, y1, y2⟩, _⟩ := B2.out.three
  by_cases e1 : s < 0
  · have hrr : r = (0, 2) := by rw [HRE.out, if_pos (.inl e1)]
    subst hrr
    go_wp2
    exact bodyPost_ret (v := .tuple #[.int .i64 0, .int .i64 2]) (by simp [results, Tryz.results35, go_sem]) rfl ⟨rfl, X2.out⟩
  · by_cases e2 : (n : Int) ≤ s
    · have hrr : r = (0, 2) := by rw [HRE.out, if_pos (.inr e2)]
      subst hrr
      go_wp2
      exact bodyPost_ret (v := .tuple #[.int .i64 0, .int .i64 2]) (by simp [results, Tryz.results35, go_sem]) rfl ⟨rfl, X2.out⟩
    · obtain ⟨q, rfl⟩ : ∃ q : Nat, s = q := ⟨s.toNat, by omega⟩
      have hrr : r = (((runD d q b : Nat) : Int), 0) := by rw [HRE.out, if_neg (by omega)]; rfl
      subst hrr
      have e3 : ¬ ((q : Int) < 0) := e1
      have e4 : ¬ ((n : Int) ≤ (q : Int)) := e2
      go_wp2_with fail
      refine (CB.out q (by omega) w2 X2.out).mono ?_
      rintro e w3 ⟨rfl, hx⟩
      have X3 := Lib.hid (X2.out.trans (hx.mono X2.out.size))
      clear hx
      go_wp2
      exact bodyPost_ret (v := .tuple #[.int .i64 (runD d q b : Nat), .int .i64 0]) (by simp [results, Tryz.results35, go_sem]) rfl ⟨rfl, X3.out⟩
theorem isSl_take8 {w : World} {a : Option Addr} {n c : Nat} {l : List Nat} (h : IsSl encB w (.slice a n c) l) {k : Nat} (hk : k ≤ l.length) : IsSl encB w (.slice a k c) (l.take k) := by
  rcases h with ⟨e, rfl⟩ | ⟨b, off, cap, e, hb, hc, hcc⟩
  · cases e
    have : k = 0 := by simpa using hk
    subst this
    exact .inl ⟨rfl, rfl⟩
  · cases e
    refine .inr ⟨b, off, c, by rw [List.length_take, Nat.min_eq_left hk], hb, by rw [List.length_take]; omega, fun i x hx => ?_⟩
    rw [List.getElem?_take] at hx
    split at hx
    · exact hcc i x hx
    · cases hx
/-- What First says. -/
def FirstOut (d : DF) (b : List Nat) (e : Ending) : Prop := ∃ r, FirstIs d b r ∧ e = .returned (.tuple #[.int .i64 r.1, .int .i64 r.2.1, .bool r.2.2])
set_option maxRecDepth 100000 in
set_option maxHeartbeats 8000000 in
theorem refFirst18_any (v bv : Value) (d : DF) (rt : Rt d) (b : List Nat) (hb : ∀ c ∈ b, c < 256) (hbn : b.length ≤ 1000000) (w : World) (h : IsRf w v d) (hbv : IsSl encB w bv b) :
    Calls Tryz.prog 37 #[v, bv] w fun e w' => FirstOut d b e ∧ Below w.heap.size w w' := by
  have CB : Hid (∀ (bw : Value) (l : List Nat), (∀ c ∈ l, c < 256) → l.length ≤ 1000000 → ∀ W, Below w.heap.size w W → IsSl encB W bw l → Calls Tryz.prog 36 #[v, .int .i64 0, bw] W fun e w' => e = .returned (.int .i64 (runD d 0 l)) ∧ Below W.heap.size W w') := Lib.hid fun bw l hl hn W hW hs => refBehind18_any v bw d rt 0 rt.pos l hl hn W (h.below hW) hs
  obtain ⟨v0, v1, v2, rfl, h0, h1, h2⟩ := h
  obtain ⟨a0, c0, rfl⟩ := h0.form
  obtain ⟨a1, c1, rfl⟩ := h1.form
  obtain ⟨a2, c2, rfl⟩ := h2.form
  obtain ⟨ba, bc, rfl⟩ := hbv.form
  have hbcap : b.length ≤ bc := by
    rcases hbv with ⟨e, e2⟩ | ⟨b', off, cap, e, _, hc, _⟩
    · injection e with _ h5 h6; omega
    · injection e with _ h5 h6; omega
  have hmr := rt.mr
  rw [hmr] at h2 CB ⊢
  obtain ⟨n, hn⟩ : ∃ n, n = d.nx.length := ⟨_, rfl⟩
  obtain ⟨m, hm⟩ : ∃ n, n = b.length := ⟨_, rfl⟩
  have hn4 : n ≤ 4000 := by have := rt.le; omega
  rw [← hn] at h2 CB ⊢
  rw [← hm] at hbv hbn hbcap ⊢
  rw [List.length_map] at CB ⊢
  generalize d.cl.length = n0 at *
  have H2 := Lib.hid h2
  have HB := Lib.hid hbv
  have HN := Lib.hid hn
  have HM := Lib.hid hm
  have HBB := Lib.hid hb
  have HMR : Hid (∀ q, q < n → d.mr[q]? = some (d.mr.getD q [])) := Lib.hid fun q hq => by
    rw [List.getD_eq_getElem?_getD, List.getElem?_eq_getElem (by rw [hmr, ← hn]; exact hq)]; rfl
  have HLT : Hid (∀ k, runD d 0 (b.take k) < n) := Lib.hid fun k => by rw [hn]; exact runD_lt rt rt.pos _ fun c hc => hb c (List.mem_of_mem_take hc)
  clear h0 h1 h2 hn hm rt hb hbv hmr
  go_enter Tryz.func37, Tryz.ntmps37
  go_wp2
  refine wp_named ?_
  intro V hV
  have B1 : Hid (Blk V w.heap.size #[.slice a0 n0 c0, .slice a1 n c1, .slice a2 n c2] 48) := Lib.hid (by rw [hV]; exact Blk.new w _ _)
  have X1 : Hid (Below w.heap.size w V) := Lib.hid (by rw [hV]; exact ((Ext.refl w).alloc _).below)
  clear hV
  skip --F1
  go_loopw [7] (fun iv wr => ∃ i : Nat, i ≤ m + 1 ∧ iv = .int .i64 i ∧ (∀ q, q < i → marksAt d b q = []) ∧ Below V.heap.size V wr) (fun iv _ => m + 1 - (intOf iv).toNat)
  case atStart => exact ⟨0, Nat.zero_le _, rfl, fun q h => absurd h (Nat.not_lt_zero _), Below.refl _ _⟩
  case round =>
    obtain ⟨i, hi, rfl, hno, hx⟩ := hrel
    obtain ⟨wo, rfl⟩ : ∃ wo : World, wo = wr := ⟨_, rfl⟩
    have HX := Lib.hid hx
    have HNO := Lib.hid hno
    have XO := Lib.hid (X1.out.trans (hx.mono X1.out.size))
    clear hx hno
    by_cases hlt : i ≤ m
    · have hii : (i : Int) ≤ m := by omega
      have hicap : (i : Int) ≤ bc := by omega
      obtain ⟨q, hq⟩ : ∃ q, q = runD d 0 (b.take i) := ⟨_, rfl⟩
      have hqn : q < n := by rw [hq]; exact HLT.out i
      have BW := Lib.hid (B1.out.below HX.out B1.out.lt)
      obtain ⟨⟨y0, y1, y2⟩, _⟩ := BW.out.three
      have CK : Hid (∀ W, Below wo.heap.size wo W → Calls Tryz.prog 36 #[.agg #[.slice a0 n0 c0, .slice a1 n c1, .slice a2 n c2], .int .i64 0, .slice ba i bc] W fun e w' => e = .returned (.int .i64 q) ∧ Below W.heap.size W w') := Lib.hid fun W hW => by
        rw [hq]
        exact CB.out _ (b.take i) (fun c hc => HBB.out c (List.mem_of_mem_take hc)) (by rw [List.length_take]; omega) W (XO.out.trans (hW.mono XO.out.size)) (isSl_take8 (HB.out.below (XO.out.trans (hW.mono XO.out.size))) (by rw [← HM.out]; exact hlt))
      have HQ := Lib.hid hq
      clear hq
      go_upto_region 4 with fail
      refine wp_region_reg false (fun _ => False) (by kernel_rfl) 6 [0, 0, 0, 6, 15, 31] (fun i => i == 4) (by kernel_rfl) (fun i => if i = 4 then Eff.det _ (.int .i64 q) else Eff.any _) ?_
      intro C hC hne
      have HC := Lib.hid hC
      have f0 := regCell hC (p := ⟨w.heap.size, 0, none⟩) BW.out.lt (fun h => h) y0
      have f1 := regCell hC (p := ⟨w.heap.size, 1, none⟩) BW.out.lt (fun h => h) y1
      have f2 := regCell hC (p := ⟨w.heap.size, 2, none⟩) BW.out.lt (fun h => h) y2
      clear hC y0 y1 y2
      skip --F2
      repeat (refine regStep (fun K hK => ?_); first | (refine regN rfl ?_; try go_simp; refine hK _ _ ?_; clear hK K) | (refine regF rfl rfl ?_; unfold floatAt; go_simp; refine hK _ _ ?_; clear hK K))
      refine regStep (fun K hK => ?_)
      refine regE rfl rfl (Eff.det _ (.int .i64 q)) rfl (fun W hW hN => ?_) (fun v hv => ?_)
      · have hM := (HC.out W).1 hW
        clear hW
        go_simp
        refine effT_call ((CK.out W hM.below).mono ?_)
        rintro e w2 ⟨rfl, hx⟩
        exact ⟨_, rfl, Move.of_below hx, rfl, trivial⟩
      replace hv : v = _ := hv
      subst hv
      go_simp
      refine hK _ _ ?_
      clear hK K
      repeat (refine regStep (fun K hK => ?_); first | (refine regN rfl ?_; try go_simp; refine hK _ _ ?_; clear hK K) | (refine regF rfl rfl ?_; unfold floatAt; go_simp; refine hK _ _ ?_; clear hK K))
      refine regNil (fun W hW hH => ?_)
      have hM := (HC.out W).1 hW
      have XW := Lib.hid (HX.out.trans (hM.below.mono HX.out.size))
      have BW2 := Lib.hid (BW.out.below hM.below BW.out.lt)
      clear hM hW hH HC hne f0 f1 f2 BW
      have XA := Lib.hid (X1.out.trans (XW.out.mono X1.out.size))
      obtain ⟨g, off, a', c', rfl, hg, hgc, hsl⟩ := (H2.out.below XA.out).elem (HMR.out q hqn)
      have hqi : (q : Int) < n := by omega
      obtain ⟨⟨y0, y1, y2⟩, _⟩ := BW2.out.three
      have hma : marksAt d b i = d.mr.getD q [] := by unfold marksAt; rw [HQ.out]
      have HMA := Lib.hid hma
      clear hma
      skip --F3
      cases hl : d.mr.getD q [] with
      | nil =>
        rw [hl] at hgc hsl HMA
        replace hgc : W.cell? ⟨g, off + q, none⟩ = some (.slice a' 0 c') := hgc
        clear hl
        go_wp2
        go_roundw
        case rel => exact ⟨i + 1, by omega, by go_num, fun p hp => by
          by_cases e : p < i
          · exact HNO.out p e
          · obtain rfl : p = i := by omega
            exact HMA.out, XW.out⟩
        case measure => simp [intOf]; omega
      | cons x l =>
        rw [hl] at hgc hsl HMA
        replace hgc : W.cell? ⟨g, off + q, none⟩ = some (.slice a' (l.length + 1) c') := hgc
        obtain ⟨g2, off2, rfl, hg2, hgc2⟩ := hsl.elem (i := 0) (x := x) rfl
        replace hgc2 : W.cell? ⟨g2, off2, none⟩ = some (.int .i64 x) := hgc2
        obtain ⟨ll, hll⟩ : ∃ z, z = l.length + 1 := ⟨_, rfl⟩
        rw [← hll] at hgc
        have hll0 : (0 : Int) < ll := by omega
        have hll1 : 0 < ll := by omega
        clear hl hll hsl
        go_upto_region 6 with fail
        refine wp_region_reg false (fun _ => False) (by kernel_rfl) 11 [0, 0, 2, 0, 14, 30, 62, 126, 1, 511, 1023] (fun i => false) (by kernel_rfl) (fun i => Eff.any _) ?_
        intro C hC hne
        have HC := Lib.hid hC
        have f2 := regCell hC (p := ⟨w.heap.size, 2, none⟩) BW2.out.lt (fun h => h) y2
        have f3 := regCell hC (p := ⟨g, off + q, none⟩) hg (fun h => h) hgc
        have f4 := regCell hC (p := ⟨g2, off2, none⟩) hg2 (fun h => h) hgc2
        clear hC
        skip --F4
        repeat (refine regStep (fun K hK => ?_); first | (refine regN rfl ?_; try go_simp; refine hK _ _ ?_; clear hK K) | (refine regF rfl rfl ?_; unfold floatAt; go_simp; refine hK _ _ ?_; clear hK K))
        refine regNil (fun W5 hW hH => ?_)
        have hM := (HC.out W5).1 hW
        have X5 := Lib.hid (XA.out.trans (hM.below.mono XA.out.size))
        clear hM hW hH HC hne f2 f3 f4 y0 y1 y2 hgc hgc2
        go_wp2
        exact bodyPost_ret (v := .tuple #[.int .i64 i, .int .i64 x, .bool true]) (by simp [results, Tryz.results37, go_sem]) rfl ⟨⟨(i, x, true), .inl ⟨i, x, l, by rw [← HM.out]; exact hlt, HNO.out, HMA.out, rfl⟩, rfl⟩, X5.out⟩
    · have hii : ¬ ((i : Int) ≤ m) := by omega
      go_wp2
      exact bodyPost_ret (v := .tuple #[.int .i64 0, .int .i64 0, .bool false]) (by simp [results, Tryz.results37, go_sem]) rfl ⟨⟨(0, 0, false), .inr ⟨fun p hp => HNO.out p (by have := HM.out; omega), rfl⟩, rfl⟩, XO.out⟩
end Go.Proofs.YthdnlndpmmiboaaGreatDoor
