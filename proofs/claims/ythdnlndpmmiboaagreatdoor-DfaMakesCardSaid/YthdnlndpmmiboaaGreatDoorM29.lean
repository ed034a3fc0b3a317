/-
  The reference's Size, count and Count.
  The reference's Accepts and Right of an automaton of positions. Printed by wip/gen/racc.py.
  The reference's Right of an automaton of positions.
-/
import Derived.Test.YthdnlndpmmiboaaGreatDoorM17
import Derived.Test.YthdnlndpmmiboaaGreatDoorM14
import Derived.Test.YthdnlndpmmiboaaGreatDoorM28
import Derived.Test.YthdnlndpmmiboaaGreatDoorM20
namespace Go.Proofs.YthdnlndpmmiboaaGreatDoor
open Go Go.RowKit Go.Shelf Go.Maps
attribute [local go_sem] encS

set_option maxRecDepth 100000 in
set_option maxHeartbeats 4000000 in
theorem rsize_any (s : BS) (w : World) : Calls Tryz.prog 68 #[.agg (aI (refS s))] w fun e w' => e = .returned (.int .i64 (sizeS s)) ∧ Ext w w' := by
  go_enter Tryz.func68, Tryz.ntmps68
  go_wp2
  go_loopw [3, 4] (fun nv i wr => ∃ c : Nat, c ≤ 256 ∧ i = .int .i64 c ∧ nv = .int .i64 (bytesTo s c).length ∧ Blk wr w.heap.size (aI (refS s)) 91 ∧ Ext w wr) (fun _ i _ => 256 - (intOf i).toNat)
  case atStart => exact ⟨0, by omega, rfl, rfl, Blk.new _ _ _, (Ext.refl w).alloc _⟩
  case round =>
    obtain ⟨c, hc, rfl, rfl, hb, hx⟩ := hrel
    obtain ⟨wo, rfl⟩ : ∃ wo : World, wo = wr := ⟨_, rfl⟩
    have HB := Lib.hid hb
    have HX := Lib.hid hx
    have hl := bytesTo_len s c
    by_cases hlt : c < 256
    · have q := hb.aI hlt
      have hci : (c : Int) < 256 := by omega
      have hs := bytesTo_succ s c
      clear hb hx
      unfold refS at q
      obtain ⟨m, hm⟩ : ∃ m, m = (bytesTo s c).length := ⟨_, rfl⟩
      rw [← hm] at hl ⊢
      cases hbit : s.getLsbD c with
      | true =>
        rw [hbit] at q hs
        replace q : wo.cell? ⟨w.heap.size, c, none⟩ = some (.int .i64 1) := q
        have HS := Lib.hid hs
        have HM := Lib.hid hm
        clear hs hm hbit
        go_wp2
        go_roundw
        case rel =>
          refine ⟨c + 1, by omega, by go_num, ?_, HB.out, HX.out⟩
          rw [HS.out, List.length_append, ← HM.out]
          go_num
        case measure => simp [intOf]; omega
      | false =>
        rw [hbit] at q hs
        replace q : wo.cell? ⟨w.heap.size, c, none⟩ = some (.int .i64 0) := q
        have HS := Lib.hid hs
        have HM := Lib.hid hm
        clear hs hm hbit
        go_wp2
        go_roundw
        case rel =>
          refine ⟨c + 1, by omega, by go_num, ?_, HB.out, HX.out⟩
          rw [HS.out, List.length_append, ← HM.out]
          go_num
        case measure => simp [intOf]; omega
    · obtain rfl : c = 256 := by omega
      clear hb hx
      go_wp2
      exact bodyPost_ret (v := .int .i64 (bytesTo s 256).length) (by simp [results, Tryz.results68, go_sem]) rfl ⟨rfl, HX.out⟩


end Go.Proofs.YthdnlndpmmiboaaGreatDoor
namespace Go.Proofs.YthdnlndpmmiboaaGreatDoor
open Go Go.RowKit Go.Shelf Go.Maps

set_option maxRecDepth 100000 in
set_option maxHeartbeats 8000000 in
theorem rnAcc_any (v u : Value) (a : NF) (rt : Nt a) (l : List Int) (hst : a.st l = true) (w : World) (h : IsRn w v a) (hu : IsSl encZ w u l) (hl : l.length ≤ 1000000) :
    Calls Tryz.prog 72 #[v, u] w fun e w' => e = .returned (.bool (a.acc l)) ∧ Below w.heap.size w w' := by
  obtain ⟨v0, v1, v2, v3, rfl, h0, h1, h2, h3⟩ := h
  obtain ⟨a0, c0, rfl⟩ := h0.form
  obtain ⟨a1, c1, rfl⟩ := h1.form
  obtain ⟨a2, c2, rfl⟩ := h2.form
  obtain ⟨a3, c3, rfl⟩ := h3.form
  obtain ⟨ua, uc, rfl⟩ := hu.form
  obtain ⟨n0, hn0⟩ : ∃ z, z = (a.sets.map refS).length := ⟨_, rfl⟩
  obtain ⟨n1, hn1⟩ : ∃ z, z = a.fol.length := ⟨_, rfl⟩
  obtain ⟨n2, hn2⟩ : ∃ z, z = a.fst.length := ⟨_, rfl⟩
  obtain ⟨n3, hn3⟩ : ∃ z, z = a.lst.length := ⟨_, rfl⟩
  obtain ⟨m, hm⟩ : ∃ z, z = l.length := ⟨_, rfl⟩
  have hn34 : n3 ≤ 1000000 := by
    have h5 := st_len (a := a) rt (risG_low (by omega) rt.lst)
    omega
  rw [← hn3] at h3
  rw [← hm] at hu hl
  rw [← hn0, ← hn1, ← hn2, ← hn3, ← hm]
  have H3 := Lib.hid h3
  have HU := Lib.hid hu
  have HM := Lib.hid hm
  have HN3 := Lib.hid hn3
  have HST := Lib.hid hst
  obtain ⟨r, hr⟩ : ∃ r, r = a.acc l := ⟨_, rfl⟩
  rw [← hr]
  have HR := Lib.hid hr
  obtain ⟨em, hem⟩ : ∃ z, z = a.emp := ⟨_, rfl⟩
  rw [← hem]
  have HEM := Lib.hid hem
  clear h0 h1 h2 h3 hu hm hn0 hn1 hn2 hn3 rt hst hr hem
  go_enter Tryz.func72, Tryz.ntmps72
  go_wp2
  go_loopw [5] (fun iv wr => ∃ k : Nat, k ≤ m ∧ iv = .int .i64 k ∧ (∀ y ∈ l.take k, a.accP y = false) ∧ Blk wr w.heap.size #[.slice a0 n0 c0, .slice a1 n1 c1, .slice a2 n2 c2, .slice a3 n3 c3, .bool em] 42 ∧ Below w.heap.size w wr) (fun iv _ => m - (intOf iv).toNat)
  case atStart => exact ⟨0, Nat.zero_le _, rfl, by simp, Blk.new _ _ _, ((Ext.refl w).alloc _).below⟩
  case round =>
    obtain ⟨k, hk, rfl, ha, hb, hx⟩ := hrel
    obtain ⟨wo, rfl⟩ : ∃ wo : World, wo = wr := ⟨_, rfl⟩
    have HA := Lib.hid ha
    have HX := Lib.hid hx
    have BX := Lib.hid hb
    clear ha hb hx
    by_cases hlt : k < m
    · have hki : (k : Int) < m := by omega
      obtain ⟨p, hp⟩ : ∃ p, l[k]? = some p := ⟨_, List.getElem?_eq_getElem (by have := HM.out; omega)⟩
      obtain ⟨ub, uo, rfl, hub, cp⟩ := (HU.out.below HX.out).elem hp
      replace cp : wo.cell? ⟨ub, uo + k, none⟩ = some (.int .i64 p) := cp
      obtain ⟨b0, b1, b2, b3, b4⟩ := BX.out.five
      have HXL := Lib.hid hp
      have hpm := List.mem_of_getElem? hp
      have hpr := (risG_pair HST.out).2 p hpm
      have YES : Hid (a.accP p = true → r = true) := Lib.hid fun h => by rw [HR.out]; exact List.any_eq_true.2 ⟨p, hpm, h⟩
      have hp1 : -1 ≤ p := hpr.1
      clear hp hpm hpr
      by_cases h0p : p < 0
      · obtain rfl : p = -1 := by omega
        cases em with
        | true =>
          have HRR := Lib.hid (YES.out (by unfold NF.accP; rw [if_pos rfl]; exact HEM.out.symm))
          go_wp2
          refine wp_region_reg false (fun _ => False) (by kernel_rfl) 22 [0, 0, 3, 7, 15, 31, 63, 127, 255, 511, 1023, 1023, 4095, 8191, 16383, 32767, 65535, 131071, 65535, 65535, 851967, 1900543, 4194303, 8388607, 16777215] (fun i => i == 22) (by kernel_rfl) (fun i => Eff.any _) ?_
          intro C hC hne
          have HC := Lib.hid hC
          have f0 := regCell hC (p := ⟨w.heap.size, 4, none⟩) BX.out.lt (fun h => h) b4
          have f1 := regCell hC (p := ⟨ub, uo + k, none⟩) hub (fun h => h) cp
          have f3 := regCell hC (p := ⟨w.heap.size, 3, none⟩) BX.out.lt (fun h => h) b3
          clear hC
          repeat (refine regStep (fun K hK => ?_); first | (refine regN rfl ?_; try go_simp; refine hK _ _ ?_; clear hK K) | (refine regF rfl rfl ?_; unfold floatAt; go_simp; refine hK _ _ ?_; clear hK K))
          refine regNil (fun W hW hH => ?_)
          have XW := Lib.hid (((HC.out W).1 hW).below)
          clear hW hH HC hne f0 f1 f3 cp b0 b1 b2 b3 b4
          go_wp2
          go_ret
          exact ⟨by rw [HRR.out]; rfl, HX.out.trans (XW.out.mono HX.out.size)⟩
        | false =>
          have HNA : Hid (a.accP (-1) = false) := Lib.hid (by unfold NF.accP; rw [if_pos rfl]; exact HEM.out.symm)
          go_wp2
          refine wp_region_reg false (fun _ => False) (by kernel_rfl) 22 [0, 0, 3, 7, 15, 31, 63, 127, 255, 511, 1023, 1023, 4095, 8191, 16383, 32767, 65535, 131071, 65535, 65535, 851967, 1900543, 4194303, 8388607, 16777215] (fun i => i == 22) (by kernel_rfl) (fun i => Eff.any _) ?_
          intro C hC hne
          have HC := Lib.hid hC
          have f0 := regCell hC (p := ⟨w.heap.size, 4, none⟩) BX.out.lt (fun h => h) b4
          have f1 := regCell hC (p := ⟨ub, uo + k, none⟩) hub (fun h => h) cp
          have f3 := regCell hC (p := ⟨w.heap.size, 3, none⟩) BX.out.lt (fun h => h) b3
          clear hC
          repeat (refine regStep (fun K hK => ?_); first | (refine regN rfl ?_; try go_simp; refine hK _ _ ?_; clear hK K) | (refine regF rfl rfl ?_; unfold floatAt; go_simp; refine hK _ _ ?_; clear hK K))
          refine regNil (fun W hW hH => ?_)
          have XW := Lib.hid (((HC.out W).1 hW).below)
          clear hW hH HC hne f0 f1 f3 cp b0 b1 b2 b3 b4
          have B7 := Lib.hid (BX.out.below XW.out BX.out.lt)
          go_wp2
          go_roundw
          case rel => exact ⟨k + 1, by omega, by go_num, fun y hy => by
            rw [List.take_add_one, HXL.out] at hy
            rcases List.mem_append.1 hy with hy | hy
            · exact HA.out y hy
            · simp at hy; subst hy; exact HNA.out, B7.out, HX.out.trans (XW.out.mono HX.out.size)⟩
          case measure => simp [intOf]; omega
      · have d1 : decide (p < 0) = false := decide_eq_false h0p
        have d2 : decide (0 ≤ p) = true := decide_eq_true (by omega)
        have HCT : Hid (a.accP p = a.lst.contains p) := Lib.hid (by unfold NF.accP; rw [if_neg (by omega)])
        go_wp2
        refine wp_region_reg false (fun _ => False) (by kernel_rfl) 22 [0, 0, 3, 7, 15, 31, 63, 127, 255, 511, 1023, 1023, 4095, 8191, 16383, 32767, 65535, 131071, 65535, 65535, 851967, 1900543, 4194303, 8388607, 16777215] (fun i => i == 22) (by kernel_rfl) (fun i => Eff.any _) ?_
        intro C hC hne
        have HC := Lib.hid hC
        have f0 := regCell hC (p := ⟨w.heap.size, 4, none⟩) BX.out.lt (fun h => h) b4
        have f1 := regCell hC (p := ⟨ub, uo + k, none⟩) hub (fun h => h) cp
        have f3 := regCell hC (p := ⟨w.heap.size, 3, none⟩) BX.out.lt (fun h => h) b3
        clear hC
        repeat (refine regStep (fun K hK => ?_); first | (refine regN rfl ?_; try go_simp; refine hK _ _ ?_; clear hK K) | (refine regF rfl rfl ?_; unfold floatAt; go_simp; refine hK _ _ ?_; clear hK K))
        refine regNil (fun W hW hH => ?_)
        have XW := Lib.hid (((HC.out W).1 hW).below)
        clear hW hH HC hne f0 f1 f3 cp b0 b1 b2 b3 b4
        have CH := Lib.hid (refHas_any (.slice a3 n3 c3) a.lst p W ((H3.out.below HX.out).below XW.out) (by rw [← HN3.out]; exact hn34))
        have B7 := Lib.hid (BX.out.below XW.out BX.out.lt)
        go_wp2_with fail
        refine CH.out.mono ?_
        rintro e w' ⟨rfl, hw⟩
        replace hw := hw.symm
        subst hw
        cases hct : a.lst.contains p with
        | true =>
          have HRR := Lib.hid (YES.out (by rw [HCT.out, hct]))
          go_wp2
          go_ret
          exact ⟨by rw [HRR.out]; rfl, HX.out.trans (XW.out.mono HX.out.size)⟩
        | false =>
          have HNA : Hid (a.accP p = false) := Lib.hid (by rw [HCT.out, hct])
          go_wp2
          go_roundw
          case rel => exact ⟨k + 1, by omega, by go_num, fun y hy => by
            rw [List.take_add_one, HXL.out] at hy
            rcases List.mem_append.1 hy with hy | hy
            · exact HA.out y hy
            · simp at hy; subst hy; exact HNA.out, B7.out, HX.out.trans (XW.out.mono HX.out.size)⟩
          case measure => simp [intOf]; omega
    · obtain rfl : k = m := by omega
      have hki : ¬ ((k : Int) < k) := by omega
      have HRR : Hid (r = false) := Lib.hid (by
        rw [HR.out]
        unfold NF.acc
        rw [List.any_eq_false]
        intro y hy
        rw [HA.out y (by rw [HM.out, List.take_length]; exact hy)]
        decide)
      clear hlt
      go_wp2
      go_ret
      exact ⟨by rw [HRR.out]; rfl, HX.out⟩
end Go.Proofs.YthdnlndpmmiboaaGreatDoor
namespace Go.Proofs.YthdnlndpmmiboaaGreatDoor
open Go Go.RowKit Go.Shelf Go.Maps

def NF.rowB (a : NF) (p : Nat) : Bool := risG 0 ((a.sets.length : Int) - 1) (a.fol.getD p []) && (a.sets.getD p 0 != 0)
theorem nfRight_no {a : NF} {p : Nat} (hp : p < a.sets.length) (h : a.rowB p = false) : a.right = false := by
  have h1 : ((List.range a.sets.length).all fun p => risG 0 ((a.sets.length : Int) - 1) (a.fol.getD p []) && (a.sets.getD p 0 != 0)) = false := by
    rw [List.all_eq_false]
    exact ⟨p, List.mem_range.2 hp, by unfold NF.rowB at h; rw [h]; decide⟩
  unfold NF.right
  rw [h1, Bool.and_false]
theorem nfRight_yes {a : NF} (h1 : a.sets.length ≤ 400) (h2 : a.fol.length = a.sets.length) (h3 : risG 0 ((a.sets.length : Int) - 1) a.fst = true) (h4 : risG 0 ((a.sets.length : Int) - 1) a.lst = true) (h : ∀ p, p < a.sets.length → a.rowB p = true) : a.right = true := by
  unfold NF.right
  rw [decide_eq_true h1, decide_eq_true h2, h3, h4, Bool.true_and, Bool.true_and, Bool.true_and, Bool.true_and, List.all_eq_true]
  exact fun p hp => h p (List.mem_range.1 hp)
theorem sizeS_zero (s : BS) : ((sizeS s : Int) == 0) = (s == 0) := by
  have h : sizeS s = 0 ↔ s = 0 := by
    unfold sizeS
    rw [List.length_eq_zero_iff]
    constructor
    · intro h
      apply BitVec.eq_of_getLsbD_eq
      intro i hi
      cases hb : s.getLsbD i with
      | false => simp
      | true =>
        have : i ∈ bytesTo s 256 := List.mem_filter.2 ⟨List.mem_range.2 hi, hb⟩
        rw [h] at this
        cases this
    · rintro rfl
      unfold bytesTo
      simp
  rw [Bool.eq_iff_iff, beq_iff_eq, beq_iff_eq, ← h]
  omega
set_option maxRecDepth 100000 in
set_option maxHeartbeats 8000000 in
theorem rnRight_any (v : Value) (a : NF) (sm : SmN a) (w : World) (h : IsRn w v a) :
    Calls Tryz.prog 46 #[v] w fun e w' => e = .returned (.bool a.right) ∧ Below w.heap.size w w' := by
  obtain ⟨v0, v1, v2, v3, rfl, h0, h1, h2, h3⟩ := h
  obtain ⟨a0, c0, rfl⟩ := h0.form
  obtain ⟨a1, c1, rfl⟩ := h1.form
  obtain ⟨a2, c2, rfl⟩ := h2.form
  obtain ⟨a3, c3, rfl⟩ := h3.form
  rw [List.length_map]
  have hsl : (a.sets.map refS).length = a.sets.length := List.length_map _
  rw [hsl] at h0
  obtain ⟨n, hn⟩ : ∃ z, z = a.sets.length := ⟨_, rfl⟩
  obtain ⟨n1, hn1⟩ : ∃ z, z = a.fol.length := ⟨_, rfl⟩
  obtain ⟨r, hr⟩ : ∃ r, r = a.right := ⟨_, rfl⟩
  have C2 : Hid (∀ W, Below w.heap.size w W → Calls Tryz.prog 64 #[.slice a2 a.fst.length c2, .int .i64 0, .int .i64 n] W fun e w' => e = .returned (.bool (risG 0 ((n : Int) - 1) a.fst)) ∧ Below W.heap.size W w') := Lib.hid fun W hW => risingG_any _ a.fst 0 n W (h2.below hW) sm.fst
  have C3 : Hid (∀ W, Below w.heap.size w W → Calls Tryz.prog 64 #[.slice a3 a.lst.length c3, .int .i64 0, .int .i64 n] W fun e w' => e = .returned (.bool (risG 0 ((n : Int) - 1) a.lst)) ∧ Below W.heap.size W w') := Lib.hid fun W hW => risingG_any _ a.lst 0 n W (h3.below hW) sm.lst
  obtain ⟨n2, hn2⟩ : ∃ z, z = a.fst.length := ⟨_, rfl⟩
  obtain ⟨n3, hn3⟩ : ∃ z, z = a.lst.length := ⟨_, rfl⟩
  obtain ⟨r2, hr2⟩ : ∃ z, z = risG 0 ((n : Int) - 1) a.fst := ⟨_, rfl⟩
  obtain ⟨r3, hr3⟩ : ∃ z, z = risG 0 ((n : Int) - 1) a.lst := ⟨_, rfl⟩
  rw [← hn2, ← hr2] at C2
  rw [← hn3, ← hr3] at C3
  rw [← hn] at h0
  rw [← hn1] at h1
  rw [← hn, ← hn1, ← hn2, ← hn3, ← hr]
  have H0 := Lib.hid h0
  have H1 := Lib.hid h1
  have HN := Lib.hid hn
  have HN1 := Lib.hid hn1
  have HR2 := Lib.hid hr2
  have HR3 := Lib.hid hr3
  have HR := Lib.hid hr
  have SM := Lib.hid sm
  clear h0 h1 h2 h3 hn hn1 hn2 hn3 hr hr2 hr3 hsl sm
  go_enter Tryz.func46, Tryz.ntmps46
  by_cases hbig : 400 < n
  · have d1 : decide ((400 : Int) < n) = true := decide_eq_true (by omega)
    have HRR : Hid (r = false) := Lib.hid (by rw [HR.out]; unfold NF.right; rw [decide_eq_false (by have := HN.out; omega)]; rfl)
    go_wp2
    refine post_named ?_
    intro W9 hW9
    have X9 : Hid (Below w.heap.size w W9) := by rw [hW9]; exact Lib.hid ((Ext.refl w).alloc _).below
    clear hW9
    go_ret
    exact ⟨by rw [HRR.out]; rfl, X9.out⟩
  · have d1 : decide ((400 : Int) < n) = false := decide_eq_false (by omega)
    by_cases hne : n1 = n
    · subst hne
      have d2 : ((n1 : Int) != n1) = false := by simp
      go_wp2_with fail
      refine calls_named ?_
      intro V hV
      have B1 : Hid (Blk V w.heap.size #[.slice a0 n1 c0, .slice a1 n1 c1, .slice a2 n2 c2, .slice a3 n3 c3, .bool a.emp] 42) := by rw [hV]; exact Lib.hid (Blk.new _ _ _)
      have X1 : Hid (Below w.heap.size w V) := by rw [hV]; exact Lib.hid ((Ext.refl w).alloc _).below
      clear hV
      refine (C2.out V X1.out).mono ?_
      rintro e w2 ⟨rfl, hx⟩
      have B2 := Lib.hid (B1.out.below hx B1.out.lt)
      have X2 := Lib.hid (X1.out.trans (hx.mono X1.out.size))
      clear hx B1 X1
      obtain ⟨b0, b1, b2, b3, b4⟩ := B2.out.five
      cases r2 with
      | false =>
        have HRR : Hid (r = false) := Lib.hid (by rw [HR.out]; unfold NF.right; rw [← HN.out, ← HR2.out, Bool.and_false]; rfl)
        go_wp2
        go_ret
        exact ⟨by rw [HRR.out]; rfl, X2.out⟩
      | true =>
        go_wp2_with fail
        refine (C3.out w2 X2.out).mono ?_
        rintro e w3 ⟨rfl, hx⟩
        have B3 := Lib.hid (B2.out.below hx B2.out.lt)
        have X3 := Lib.hid (X2.out.trans (hx.mono X2.out.size))
        clear hx B2 X2 b0 b1 b2 b3 b4
        cases r3 with
        | false =>
          have HRR : Hid (r = false) := Lib.hid (by rw [HR.out]; unfold NF.right; rw [← HN.out, ← HR3.out, Bool.and_false]; rfl)
          go_wp2
          go_ret
          exact ⟨by rw [HRR.out]; rfl, X3.out⟩
        | true =>
          go_wp2
          go_loopw [4] (fun iv wr => ∃ k : Nat, k ≤ n1 ∧ iv = .int .i64 k ∧ (∀ p, p < k → a.rowB p = true) ∧ Blk wr w.heap.size #[.slice a0 n1 c0, .slice a1 n1 c1, .slice a2 n2 c2, .slice a3 n3 c3, .bool a.emp] 42 ∧ Below w.heap.size w wr) (fun iv _ => n1 - (intOf iv).toNat)
          case atStart => exact ⟨0, Nat.zero_le _, rfl, fun p hp => absurd hp (Nat.not_lt_zero _), B3.out, X3.out⟩
          case round =>
            obtain ⟨k, hk, rfl, ha, hb, hx⟩ := hrel
            obtain ⟨wo, rfl⟩ : ∃ wo : World, wo = wr := ⟨_, rfl⟩
            have HA := Lib.hid ha
            have HX := Lib.hid hx
            have BX := Lib.hid hb
            clear ha hb hx
            by_cases hlt : k < n1
            · have hki : (k : Int) < n1 := by omega
              have hki2 : (0 : Int) ≤ k ∧ (k : Int) < n1 := by omega
              obtain ⟨s, hs⟩ : ∃ s, a.sets[k]? = some s := ⟨_, List.getElem?_eq_getElem (by have := HN.out; omega)⟩
              obtain ⟨l, hl⟩ : ∃ l, a.fol[k]? = some l := ⟨_, List.getElem?_eq_getElem (by have := HN1.out; omega)⟩
              obtain ⟨g1, o1, rfl, hg1, r1⟩ := (H0.out.below HX.out).rangeE (i := k) (f := refS s) (by rw [List.getElem?_map, hs]; rfl)
              obtain ⟨rb, ro, fa, fc, e2, hrb, crow, hsl⟩ := H1.out.elem hl
              cases e2
              have R1 := Lib.hid r1
              have HB : Hid (a.rowB k = (risG 0 ((n1 : Int) - 1) l && !(s == 0))) := Lib.hid (by unfold NF.rowB; rw [getD_some hs, getD_some hl, HN.out]; rfl)
              have CC : Hid (∀ W, Below w.heap.size w W → Calls Tryz.prog 64 #[.slice fa l.length fc, .int .i64 0, .int .i64 n1] W fun e w' => e = .returned (.bool (risG 0 ((n1 : Int) - 1) l)) ∧ Below W.heap.size W w') := Lib.hid fun W hW => risingG_any _ l 0 n1 W (hsl.below hW) (SM.out.row l (List.mem_of_getElem? hl))
              have hrl : l.length ≤ 1000000 := SM.out.row l (List.mem_of_getElem? hl)
              obtain ⟨ln, hln⟩ : ∃ z, z = l.length := ⟨_, rfl⟩
              rw [← hln] at CC crow
              obtain ⟨sz, hsz⟩ : ∃ z, z = sizeS s := ⟨_, rfl⟩
              obtain ⟨rk, hrk⟩ : ∃ z, z = risG 0 ((n1 : Int) - 1) l := ⟨_, rfl⟩
              rw [← hrk] at CC HB
              have CZ : Hid (∀ W, Calls Tryz.prog 68 #[.agg (aI (refS s))] W fun e w' => e = .returned (.int .i64 sz) ∧ Ext W w') := Lib.hid fun W => by rw [hsz]; exact rsize_any s W
              have dz : ((sz : Int) == 0) = (s == 0) := by rw [hsz]; exact sizeS_zero s
              obtain ⟨b0, b1, b2, b3, b4⟩ := BX.out.five
              clear hs hl hln hsl r1 hsz hrk
              go_wp2_with (refine wpList_load_mid rfl 91 (.tmp 39) rfl g1 (o1 + k * 256) rfl (aI (refS s)).toList _ R1.out Tryz.underlying91 rfl (by rw [Array.length_toList]; exact sizeA56 _) ?_; rw [Array.toArray_toList])
              refine (CZ.out wo).mono ?_
              rintro e w5 ⟨rfl, hx5⟩
              have B5 := Lib.hid (BX.out.ext hx5)
              have X5 := Lib.hid (HX.out.trans (hx5.below.mono HX.out.size))
              have cr5 : w5.cell? ⟨rb, ro + k, none⟩ = some (.slice fa ln fc) := ((Keeps.of_below X5.out fun _ h => h : Keeps (· < w.heap.size) w w5).cell (p := ⟨rb, ro + k, none⟩) hrb).trans crow
              clear hx5 b0 b1 b2 b3 b4 crow
              obtain ⟨b0, b1, b2, b3, b4⟩ := B5.out.five
              cases hsz : (s == 0) with
              | true =>
                rw [hsz] at dz HB
                have HRR := Lib.hid (HR.out.trans (nfRight_no (p := k) (by have := HN.out; omega) (by rw [HB.out]; simp)))
                go_wp2
                go_ret
                exact ⟨by rw [HRR.out]; rfl, X5.out⟩
              | false =>
                rw [hsz] at dz HB
                go_wp2_with fail
                refine (CC.out w5 X5.out).mono ?_
                rintro e w6 ⟨rfl, hx6⟩
                have B6 := Lib.hid (B5.out.below hx6 B5.out.lt)
                have X6 := Lib.hid (X5.out.trans (hx6.mono X5.out.size))
                clear hx6 b0 b1 b2 b3 b4 cr5
                cases rk with
                | false =>
                  have HRR := Lib.hid (HR.out.trans (nfRight_no (p := k) (by have := HN.out; omega) (by rw [HB.out]; rfl)))
                  go_wp2
                  go_ret
                  exact ⟨by rw [HRR.out]; rfl, X6.out⟩
                | true =>
                  go_wp2
                  go_roundw
                  case rel => exact ⟨k + 1, by omega, by go_num, fun p hp => by
                    by_cases e : p < k
                    · exact HA.out p e
                    · obtain rfl : p = k := by omega
                      rw [HB.out]; rfl, B6.out, X6.out⟩
                  case measure => simp [intOf]; omega
            · obtain rfl : k = n1 := by omega
              have hki : ¬ ((k : Int) < k) := by omega
              have HRR : Hid (r = true) := Lib.hid (by
                rw [HR.out]
                exact nfRight_yes (by have := HN.out; omega) (by rw [← HN1.out, ← HN.out]) (by rw [← HN.out, ← HR2.out]) (by rw [← HN.out, ← HR3.out]) (fun p hp => HA.out p (by have := HN.out; omega)))
              clear hlt
              go_wp2
              go_ret
              exact ⟨by rw [HRR.out]; rfl, HX.out⟩
    · have d2 : ((n1 : Int) != n) = true := by simp; omega
      have HRR : Hid (r = false) := Lib.hid (by rw [HR.out]; unfold NF.right; rw [decide_eq_false (by have := HN.out; have := HN1.out; omega : ¬ a.fol.length = a.sets.length), Bool.and_false]; rfl)
      go_wp2
      refine post_named ?_
      intro W9 hW9
      have X9 : Hid (Below w.heap.size w W9) := by rw [hW9]; exact Lib.hid ((Ext.refl w).alloc _).below
      clear hW9
      go_ret
      exact ⟨by rw [HRR.out]; rfl, X9.out⟩
end Go.Proofs.YthdnlndpmmiboaaGreatDoor
