/-
  The law's own comparison of an alphabet with the reference's.
-/
import Derived.Test.YtokkgbcjjaiaeaaAgrees
namespace Go.Proofs.Ytokkgbcjjaiaeaa
open Go Go.RowKit Go.Shelf Go.Maps
attribute [local go_sem] encS

theorem leastsTo_add (f : Nat → Int) (k j : Nat) : leastsTo f (k + j) = leastsTo f k ++ ((List.range j).map (k + ·)).filter (fun c => f c == (c : Int)) := by
  unfold leastsTo
  rw [← List.filter_append, List.range_add]
theorem leastsTo_idx {f : Nat → Int} {N i m k : Nat} (h : (leastsTo f N)[i]? = some m) (hm : m < k) (hk : k ≤ N) : i < (leastsTo f k).length := by
  rw [show N = k + (N - k) by omega, leastsTo_add] at h
  by_cases hi : i < (leastsTo f k).length
  · exact hi
  · rw [List.getElem?_append_right (by omega)] at h
    have := (List.mem_filter.1 (List.mem_of_getElem? h)).1
    obtain ⟨j, _, hj⟩ := List.mem_map.1 this
    omega

theorem run_index_tab (p : List BS) {d : Nat} (hd : d < 256) (W : World) : (Instr.index 38 (.agg (tabArr p)) (.int .i64 d)).run Try.prog W = .ok (.int .u8 (cls p d)) W := by
  have h1 := tabArr_get p hd
  have h2 : (d : Int) < 256 := by omega
  simp [Instr.index, asIntOf, run_underlying Try.underlying38, part, Try.isAgg5, Try.sizeOf5, h1, go_sem]
  intro h; omega

theorem leastsTo_lt' {f : Nat → Int} {i x : Nat} (h : (leastsTo f 256)[i]? = some x) : x < 256 := by
  have := List.mem_of_getElem? h
  unfold leastsTo at this
  exact List.mem_range.1 (List.mem_filter.1 this).1
theorem set_equal_zero (W : World) : (Op.equalIn 10000 25 (.agg #[.int .u64 0, .int .u64 0, .int .u64 0, .int .u64 0]) (.agg #[.int .u64 0, .int .u64 0, .int .u64 0, .int .u64 0])).run Try.prog W = .ok true W := by
  have h1 := set_equal 0 0 W
  rw [show ((0 : BS) == 0) = true from by simp, encS_zero] at h1
  exact h1
theorem set_equal_self (s : BS) (W : World) : (Op.equalIn 10000 25 (.agg #[.int .u64 (wd s 0).toNat, .int .u64 (wd s 1).toNat, .int .u64 (wd s 2).toNat, .int .u64 (wd s 3).toNat]) (.agg #[.int .u64 (wd s 0).toNat, .int .u64 (wd s 1).toNat, .int .u64 (wd s 2).toNat, .int .u64 (wd s 3).toNat])).run Try.prog W = .ok true W := by
  have h1 := set_equal s s W
  rw [show (s == s) = true from by simp] at h1
  exact h1

set_option maxRecDepth 100000 in
set_option maxHeartbeats 4000000 in
theorem same_law_any (b base : Nat) (p : List BS) (f : Nat → Int) (k : Int) (c : Nat) (hc : c < 256) (ha : Agrees p f) (w : World) (h : IsAl w base (.pointer (some ⟨b, 0, none⟩)) p) :
    Calls Try.prog 71 #[.pointer (some ⟨b, 0, none⟩), .agg (aI f), .int .i64 k, .int .u8 c] w fun e w' => e = .returned (.bool true) ∧ Below w.heap.size w w' := by
  have HL := Lib.hid fun W => leasts_any f W
  have H := Lib.hid h
  have HA := Lib.hid ha
  obtain ⟨z, hz⟩ : ∃ z, z = (leastsTo f 256).length := ⟨_, rfl⟩
  have HZ := Lib.hid hz
  have hpl : p.length = z := ha.len.trans hz.symm
  have hle := h.le
  rw [hpl] at hle
  have HPL := Lib.hid hpl
  clear h ha hz hpl
  go_enter Try.func71, Try.ntmps71
  have HB : Hid (Blk (w.alloc (.cells (aI f) 87)) w.heap.size (aI f) 87) := Blk.new _ _ _
  go_wp2_with (first | (refine wpList_load_w rfl 87 (.tmp 5) rfl w.heap.size rfl (aI f) _ HB.out.range Try.underlying87 rfl (sizeA87 f) ?_))
  refine (HL.out _).mono ?_
  rintro e w1 ⟨u, rfl, h1, hx⟩
  rw [← HZ.out] at h1
  obtain ⟨a1, c1, rfl⟩ := ownsRow_form h1
  have U1 := Lib.hid (ownsRow_sl (l := leastsTo f 256) h1 HZ.out)
  have B1 := Lib.hid (HB.out.below hx (by simp))
  have X1 := Lib.hid (((Below.refl w.heap.size w).alloc (Nat.le_refl _) (.cells (aI f) 87 (0, 0))).trans (hx.mono (by simp)))
  have A1 := Lib.hid (H.out.below X1.out)
  clear h1 hx
  obtain ⟨mc, hmc, hmle, hmi⟩ := HA.out.byte c hc
  have HRC := Lib.hid fun W => refClass_any f c (cls p c) mc hc hmc hmi W
  have HCL := Lib.hid fun W (hk : Below w1.heap.size w1 W) => class_any _ base p c hc W (A1.out.below hk)
  have HLE := Lib.hid fun W (hk : Below w1.heap.size w1 W) => len_any _ base p W (A1.out.below hk)
  rw [HPL.out] at HLE
  clear hmc hmle hmi
  obtain ⟨cn, hcn⟩ : ∃ n, n = cls p c := ⟨_, rfl⟩
  rw [← hcn] at HRC HCL
  clear hcn
  go_wp2
  refine wp_region_lexK (fun x => x < w1.heap.size) (by kernel_rfl) (fun i => i == 4 || i == 9 || i == 12 || i == 15) (by kernel_rfl) ?_
  intro C hC hne W0 hK0 hblk hsz hx0
  have HC := Lib.hid hC
  have HK0 := Lib.hid hK0
  have HX0 := Lib.hid hx0
  refine Later.out ?_
  have HS : Hid (∀ x, x < w1.heap.size → x < w1.heap.size) := fun x hx => hx
  clear hC hK0 hblk hsz hx0
  repeat (refine laterStep (fun K hK => ?_); first | (refine lexN rfl ?_; try go_simp; refine hK _ _ ?_; clear hK K) | (refine lexF rfl rfl ?_; unfold floatAt; go_simp; refine hK _ _ ?_; clear hK K))
  refine laterStep (fun K hK => ?_)
  refine lexE rfl rfl ?_
  go_simp
  refine effAt_call ((HLE.out _ HK0.out.below).mono ?_)
  rintro e w' ⟨rfl, hw⟩
  replace hw := hw.symm
  subst hw
  have hk1 := HK0.out
  refine ⟨_, rfl, (HC.out _).2 hk1, hK _ _ ?_⟩
  have HK1 := Lib.hid hk1
  clear hK K hk1
  repeat (refine laterStep (fun K hK => ?_); first | (refine lexN rfl ?_; try go_simp; refine hK _ _ ?_; clear hK K) | (refine lexF rfl rfl ?_; unfold floatAt; go_simp; refine hK _ _ ?_; clear hK K) | (refine lexE rfl rfl ?_; go_simp; refine ⟨(HC.out _).2 HK0.out, hK _ _ ?_⟩; clear hK K))
  refine laterStep (fun K hK => ?_)
  refine lexE rfl rfl ?_
  go_simp
  refine effAt_call ((HCL.out _ HK0.out.below).mono ?_)
  rintro e w' ⟨rfl, hw⟩
  replace hw := hw.symm
  subst hw
  have hk2 := HK0.out
  refine ⟨_, rfl, (HC.out _).2 hk2, hK _ _ ?_⟩
  have HK2 := Lib.hid hk2
  clear hK K hk2
  refine laterStep (fun K hK => ?_)
  refine lexF rfl rfl ⟨.agg (aI f), fun W => floatAt_load 87 (.tmp 5) rfl w.heap.size 0 rfl (aI f) _ (rangeAt_keeps B1.out.range ((HC.out _).1 W.2) B1.out.lt) Try.underlying87 rfl (sizeA87 f), ?_⟩
  go_simp
  refine hK _ _ ?_
  clear hK K
  repeat (refine laterStep (fun K hK => ?_); first | (refine lexN rfl ?_; try go_simp; refine hK _ _ ?_; clear hK K) | (refine lexF rfl rfl ?_; unfold floatAt; go_simp; refine hK _ _ ?_; clear hK K))
  refine laterStep (fun K hK => ?_)
  refine lexE rfl rfl ?_
  go_simp
  refine effAt_call ((HRC.out _).mono ?_)
  rintro e w2 ⟨rfl, hx⟩
  have hk3 := Keeps.stepB HK0.out HS.out hx
  refine ⟨_, rfl, (HC.out _).2 hk3, hK _ _ ?_⟩
  have HK3 := Lib.hid hk3
  clear hK K hk3
  have X2 := Lib.hid (X1.out.trans ((HX0.out.below.trans (hx.mono HX0.out.size)).mono X1.out.size))
  clear hx
  repeat (refine laterStep (fun K hK => ?_); first | (refine lexN rfl ?_; try go_simp; refine hK _ _ ?_; clear hK K) | (refine lexF rfl rfl ?_; unfold floatAt; go_simp; refine hK _ _ ?_; clear hK K))
  refine laterNil ?_
  have A2 := Lib.hid (A1.out.keeps HK3.out (fun k _ h => h))
  have B2 := Lib.hid (B1.out.keeps HK3.out B1.out.lt)
  have U2 := Lib.hid (U1.out.keeps HK3.out (fun b off n cap e => by
    rcases U1.out with ⟨h, h0⟩ | ⟨b', off', cap', hv, hb, _⟩
    · cases e; simp_all
    · cases e; cases hv; exact hb))
  clear HLE HCL HRC HK0 HX0 HC HS
  go_wp2_with fail
  refine (table_any _ base p _ A2.out).mono ?_
  rintro e w3 ⟨rfl, hx⟩
  have A3 := Lib.hid (A2.out.below hx.below)
  have B3 := Lib.hid (B2.out.ext hx)
  have U3 := Lib.hid (U2.out.ext hx)
  have X3 := Lib.hid (X2.out.trans (hx.below.mono X2.out.size))
  clear hx
  go_wp2
  go_loopw [39, 10] (fun i u wr => ∃ d : Nat, d ≤ 256 ∧ i = .int .i64 d ∧ u = .int .i64 (leastsTo f d).length ∧ Ext w3 wr) (fun i _ _ => 256 - (intOf i).toNat)
  case atStart => exact ⟨0, by omega, rfl, rfl, Ext.refl _⟩
  case round =>
    obtain ⟨d, hd, rfl, rfl, hx⟩ := hrel
    obtain ⟨wo, rfl⟩ : ∃ wo : World, wo = wr := ⟨_, rfl⟩
    have HX := Lib.hid hx
    by_cases hlt : d < 256
    · obtain ⟨m, hfm, hmd, hmi⟩ := HA.out.byte d hlt
      have htab := tabArr_get p hlt
      have hix := fun W => run_index_tab p hlt W
      have c3 := (B3.out.ext hx).aI hlt
      rw [hfm] at c3
      obtain ⟨g, o, rfl, hg, hcx⟩ := (U3.out.ext hx).elem hmi
      have d1 : wo.cell? ⟨g, o + cls p d, none⟩ = some (.int .i64 m) := hcx
      have hT := leastsTo_succ f d
      have hn := leastsTo_idx (k := d + 1) hmi (by omega) (by omega)
      have hcz : cls p d < z := by have := (List.getElem?_eq_some_iff.1 hmi).1; have := HZ.out; omega
      obtain ⟨x, hxe⟩ : ∃ x, x = cls p d := ⟨_, rfl⟩
      rw [← hxe] at htab hix d1 hn hcz
      have hxi : (x : Int) < z := by omega
      have hdi : (d : Int) < 256 := by omega
      have HM := Lib.hid hmi
      clear hx hcx hxe hmi
      by_cases hfk : f d = d
      · rw [if_pos hfk] at hT
        rw [hT, List.length_append] at hn
        obtain rfl : m = d := by omega
        have HT := Lib.hid hT
        clear hT hfk
        obtain ⟨y, hy⟩ : ∃ y, y = (leastsTo f m).length := ⟨_, rfl⟩
        rw [← hy] at hn ⊢
        have hge : decide ((y : Int) + 1 ≤ (x : Int)) = false := decide_eq_false (by simp at hn; omega)
        have HY := Lib.hid hy
        have hyl : y ≤ m := by rw [hy]; exact leastsTo_len f m
        have hw1 : IntKind.i64.wrap ((y : Int) + 1) = (y : Int) + 1 := IntWalk.i64_in _ (by omega)
        clear hy hn
        go_wp2
        go_quiet (fail)
        go_wp2
        exact ⟨⟨m + 1, by omega, by go_num, by rw [HT.out, List.length_append, ← HY.out]; go_num, ext_drewN HX.out _⟩, by simp [intOf]; omega⟩
      · rw [if_neg hfk] at hT
        rw [hT] at hn
        have hne : ((m : Int) == (d : Int)) = false := by
          rw [beq_eq_false_iff_ne]; rw [hfm] at hfk; exact hfk
        have HT := Lib.hid hT
        clear hT hfk
        obtain ⟨y, hy⟩ : ∃ y, y = (leastsTo f d).length := ⟨_, rfl⟩
        rw [← hy] at hn ⊢
        have hge : decide ((y : Int) ≤ (x : Int)) = false := decide_eq_false (by omega)
        have hge' : decide (y ≤ x) = false := decide_eq_false (by omega)
        have HY := Lib.hid hy
        clear hy hn
        go_wp2
        go_quiet (fail)
        go_wp2
        exact ⟨⟨d + 1, by omega, by go_num, by rw [HT.out, ← HY.out], ext_drewN HX.out _⟩, by simp [intOf]; omega⟩
    · obtain rfl : d = 256 := by omega
      have A4 := Lib.hid (A3.out.below hx.below)
      have B4 := Lib.hid (B3.out.ext hx)
      have U4 := Lib.hid (U3.out.ext hx)
      have X4 := Lib.hid (X3.out.trans (hx.below.mono X3.out.size))
      have HST := Lib.hid fun W (hk : Below wo.heap.size wo W) => set_any _ base p k W (A4.out.below hk)
      have HLT := Lib.hid fun W (hk : Below wo.heap.size wo W) => least_any _ base p k W (A4.out.below hk)
      have HIS := Lib.hid fun W => refIs_any f k W
      have HZE := Lib.hid HZ.out
      rw [← HZ.out] at HIS
      clear hx
      rcases setOf_ex p k with ⟨hs, hrange⟩ | ⟨n, s, rfl, hnl, hn, hs⟩
      · have hl : leastOf p k = (0, false) := by unfold leastOf; rw [hs]
        have his : (decide (0 ≤ k) && decide (k < (z : Int))) = false := by
          rw [HPL.out] at hrange
          rcases hrange with h | h
          · rw [decide_eq_false (by omega)]; rfl
          · rw [decide_eq_false (show ¬ k < (z : Int) by omega), Bool.and_false]
        rw [his] at HIS
        have HST' : Hid (∀ W, Below wo.heap.size wo W → Calls Try.prog 19 #[.pointer (some ⟨b, 0, none⟩), .int .i64 k] W fun e w' => e = .returned (.tuple #[.agg #[.int .u64 0, .int .u64 0, .int .u64 0, .int .u64 0], .bool false]) ∧ Ext W w') := fun W h => by
          have := HST.out W h; rw [hs] at this; rw [← encS_zero]; exact this
        have HLT' : Hid (∀ W, Below wo.heap.size wo W → Calls Try.prog 36 #[.pointer (some ⟨b, 0, none⟩), .int .i64 k] W fun e w' => e = .returned (.tuple #[.int .u8 0, .bool false]) ∧ Ext W w') := fun W h => by
          have := HLT.out W h; rw [hl] at this; exact this
        clear hs hl his hrange HST HLT
        go_wp2_with fail
        refine (HST'.out _ (Below.refl _ _)).mono ?_
        rintro e w4 ⟨rfl, hx⟩
        have Y4 := Lib.hid hx.below
        clear hx
        go_wp2_with fail
        refine (HLT'.out _ (Y4.out.alloc Y4.out.size _)).mono ?_
        rintro e w5 ⟨rfl, hx⟩
        have S5 := Lib.hid ((Blk.new w4 #[.int .u64 0, .int .u64 0, .int .u64 0, .int .u64 0] 25).ext hx)
        have Y5 := Lib.hid ((Y4.out.alloc Y4.out.size (.cells #[.int .u64 0, .int .u64 0, .int .u64 0, .int .u64 0] 25 (0, 0))).trans (hx.below.mono (by have := Y4.out.size; simp; omega)))
        have B5 := Lib.hid (B4.out.below Y5.out B4.out.lt)
        clear hx
        go_wp2_with (first | (refine wpList_load_w rfl 87 (.tmp 5) rfl w.heap.size rfl (aI f) _ B5.out.range Try.underlying87 rfl (sizeA87 f) ?_))
        refine (HIS.out _).mono ?_
        rintro e w6 ⟨rfl, hx⟩
        have z := S5.out.below hx S5.out.lt
        have q0 : w6.cell? ⟨w4.heap.size, 0, none⟩ = some (.int .u64 0) := z.cell 0
        have q1 : w6.cell? ⟨w4.heap.size, 1, none⟩ = some (.int .u64 0) := z.cell 1
        have q2 : w6.cell? ⟨w4.heap.size, 2, none⟩ = some (.int .u64 0) := z.cell 2
        have q3 : w6.cell? ⟨w4.heap.size, 3, none⟩ = some (.int .u64 0) := z.cell 3
        have Y6 := Lib.hid (X4.out.trans ((Y5.out.trans (hx.mono Y5.out.size)).mono X4.out.size))
        have heq := set_equal_zero
        clear hx z
        go_wp2
        go_ret
        exact ⟨rfl, Y6.out⟩
      · obtain ⟨m, hm⟩ : ∃ m, (leastsTo f 256)[n]? = some m := ⟨_, List.getElem?_eq_getElem (by have := HZ.out; have := HPL.out; omega)⟩
        obtain ⟨s', hs', hbk, hl⟩ := HA.out.cls n m hm
        rw [hn] at hs'
        cases hs'
        have his : (decide ((0 : Int) ≤ n) && decide ((n : Int) < (z : Int))) = true := by
          rw [decide_eq_true (by omega), decide_eq_true (by have := HPL.out; omega)]; rfl
        rw [his] at HIS
        have HST' : Hid (∀ W, Below wo.heap.size wo W → Calls Try.prog 19 #[.pointer (some ⟨b, 0, none⟩), .int .i64 n] W fun e w' => e = .returned (.tuple #[.agg (encS s), .bool true]) ∧ Ext W w') := fun W h => by
          have := HST.out W h; rw [hs] at this; exact this
        have HLT' : Hid (∀ W, Below wo.heap.size wo W → Calls Try.prog 36 #[.pointer (some ⟨b, 0, none⟩), .int .i64 n] W fun e w' => e = .returned (.tuple #[.int .u8 m, .bool true]) ∧ Ext W w') := fun W h => by
          have := HLT.out W h; rw [hl] at this; exact this
        have HRS := Lib.hid (refSet_any f n m hm)
        have HLW : Hid (∀ W, Calls Try.prog 31 #[.agg (aI (refSetOf f m))] W fun e w' => e = .returned (.agg (encS s)) ∧ Ext W w') := fun W => by
          have := lawWords_any (refSetOf f m) W; rw [hbk] at this; exact this
        have HM := Lib.hid hm
        have hm256 : m < 256 := leastsTo_lt' hm
        have hnz : (n : Int) < z := by have := HPL.out; omega
        have hc5 := fun W (hk : Below wo.heap.size wo W) => (U4.out.below hk).elem hm
        have HC5 := Lib.hid hc5
        clear hs hl his hn hnl hm hbk hc5 HST HLT
        generalize refSetOf f m = sm at *
        go_wp2_with fail
        refine (HST'.out _ (Below.refl _ _)).mono ?_
        rintro e w4 ⟨rfl, hx⟩
        have Y4 := Lib.hid hx.below
        clear hx
        go_wp2_with fail
        refine (HLT'.out _ (Y4.out.alloc Y4.out.size _)).mono ?_
        rintro e w5 ⟨rfl, hx⟩
        have S5 := Lib.hid ((Blk.new w4 (encS s) 25).ext hx)
        have Y5 := Lib.hid ((Y4.out.alloc Y4.out.size (.cells (encS s) 25 (0, 0))).trans (hx.below.mono (by have := Y4.out.size; simp; omega)))
        have B5 := Lib.hid (B4.out.below Y5.out B4.out.lt)
        clear hx
        go_wp2_with (first | (refine wpList_load_w rfl 87 (.tmp 5) rfl w.heap.size rfl (aI f) _ B5.out.range Try.underlying87 rfl (sizeA87 f) ?_))
        refine (HIS.out _).mono ?_
        rintro e w6 ⟨rfl, hx⟩
        have S6 := Lib.hid (S5.out.below hx S5.out.lt)
        have B6 := Lib.hid (B5.out.below hx B5.out.lt)
        have Z6 := Lib.hid (Y5.out.trans (hx.mono Y5.out.size))
        have Y6 := Lib.hid (X4.out.trans (Z6.out.mono X4.out.size))
        obtain ⟨g, o, rfl, hg, d1'⟩ := HC5.out _ Z6.out
        have d1 : w6.cell? ⟨g, o + n, none⟩ = some (.int .i64 m) := d1'
        clear d1'
        have hg6 := hg
        clear hx
        go_wp2
        refine wp_region_lexK (fun x => x < w6.heap.size) (by kernel_rfl) (fun i => i == 8 || i == 9) (by kernel_rfl) ?_
        intro C hC hne W0 hK0 hblk hsz hx0
        have HC := Lib.hid hC
        have HK0 := Lib.hid hK0
        have HX0 := Lib.hid hx0
        refine Later.out ?_
        obtain ⟨q0, q1, q2, q3⟩ := lexSet hC S6.out.lt S6.out
        have f1 := lexCell hC (p := ⟨g, o + n, none⟩) hg6 d1
        have HS : Hid (∀ x, x < w6.heap.size → x < w6.heap.size) := fun x hx => hx
        clear hC hK0 hblk hsz hx0
        repeat (refine laterStep (fun K hK => ?_); first | (refine lexN rfl ?_; try go_simp; refine hK _ _ ?_; clear hK K) | (refine lexF rfl rfl ?_; unfold floatAt; go_simp; refine hK _ _ ?_; clear hK K))
        refine laterStep (fun K hK => ?_)
        refine lexF rfl rfl ⟨.agg (aI f), fun W => floatAt_load 87 (.tmp 5) rfl w.heap.size 0 rfl (aI f) _ (rangeAt_keeps B6.out.range ((HC.out _).1 W.2) B6.out.lt) Try.underlying87 rfl (sizeA87 f), ?_⟩
        go_simp
        refine hK _ _ ?_
        clear hK K
        repeat (refine laterStep (fun K hK => ?_); first | (refine lexN rfl ?_; try go_simp; refine hK _ _ ?_; clear hK K) | (refine lexF rfl rfl ?_; unfold floatAt; go_simp; refine hK _ _ ?_; clear hK K))
        refine laterStep (fun K hK => ?_)
        refine lexE rfl rfl ?_
        go_simp
        refine effAt_call ((HRS.out _).mono ?_)
        rintro e w7 ⟨rfl, hx⟩
        have hk1 := Keeps.stepB HK0.out HS.out hx
        refine ⟨_, rfl, (HC.out _).2 hk1, hK _ _ ?_⟩
        have HK1 := Lib.hid hk1
        clear hK K hk1
        have Y7 := Lib.hid (Y6.out.trans ((HX0.out.below.trans (hx.mono HX0.out.size)).mono Y6.out.size))
        clear hx
        repeat (refine laterStep (fun K hK => ?_); first | (refine lexN rfl ?_; try go_simp; refine hK _ _ ?_; clear hK K) | (refine lexF rfl rfl ?_; unfold floatAt; go_simp; refine hK _ _ ?_; clear hK K))
        refine laterStep (fun K hK => ?_)
        refine lexE rfl rfl ?_
        go_simp
        refine effAt_call ((HLW.out _).mono ?_)
        rintro e w8 ⟨rfl, hx⟩
        have hk2 := Keeps.step HK1.out HS.out hx
        refine ⟨_, rfl, (HC.out _).2 hk2, hK _ _ ?_⟩
        have HK2 := Lib.hid hk2
        clear hK K hk2
        have Y8 := Lib.hid (Y7.out.trans (hx.below.mono Y7.out.size))
        clear hx
        have heq := set_equal_self s
        have hwm : IntKind.i64.wrap (m : Int) = (m : Int) := IntWalk.i64_in _ (by omega)
        repeat (refine laterStep (fun K hK => ?_); first | (refine lexN rfl ?_; try go_simp; refine hK _ _ ?_; clear hK K) | (refine lexF rfl rfl ?_; unfold floatAt; go_simp; refine hK _ _ ?_; clear hK K))
        refine laterNil ?_
        go_wp2
        go_ret
        exact ⟨rfl, Y8.out⟩
end Go.Proofs.Ytokkgbcjjaiaeaa
