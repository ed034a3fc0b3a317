/-
  The reference's Step of an automaton of positions. Printed by wip/gen/rstep.py.
-/
import Derived.Test.YthdnlndpmmiboaaGreatDoorM27
namespace Go.Proofs.YthdnlndpmmiboaaGreatDoor
open Go Go.RowKit Go.Shelf Go.Maps

set_option maxRecDepth 100000 in
set_option maxHeartbeats 8000000 in
theorem rnStep_any (v u : Value) (a : NF) (rt : Nt a) (l : List Int) (hst : a.st l = true) (c : Nat) (hc : c < 256) (w : World) (h : IsRn w v a) (hu : IsSl encZ w u l) (hl : l.length ≤ 1000000) :
    Calls Tryz.prog 71 #[v, u, .int .u8 c] w fun e w' => ∃ r, e = .returned r ∧ w'.ownsRow w.heap.size 3 1 r (a.step l c).length ((a.step l c).map encZ) ∧ Below w.heap.size w w' := by
  obtain ⟨iI, hiI, hzI0, hzI1, hzI2⟩ := info_parts Tryz.infoI
  obtain ⟨v0, v1, v2, v3, rfl, h0, h1, h2, h3⟩ := h
  obtain ⟨a0, c0, rfl⟩ := h0.form
  obtain ⟨a1, c1, rfl⟩ := h1.form
  obtain ⟨a2, c2, rfl⟩ := h2.form
  obtain ⟨a3, c3, rfl⟩ := h3.form
  obtain ⟨ua, uc, rfl⟩ := hu.form
  rw [List.length_map]
  have hfo := rt.fol
  rw [hfo] at h1 ⊢
  obtain ⟨n, hn⟩ : ∃ z, z = a.sets.length := ⟨_, rfl⟩
  obtain ⟨m, hm⟩ : ∃ z, z = l.length := ⟨_, rfl⟩
  have hn4 : n ≤ 400 := by rw [hn]; exact rt.le
  have hsl : (a.sets.map refS).length = n := by rw [List.length_map, hn]
  rw [hsl] at h0
  rw [← hn] at h1 ⊢
  rw [← hm] at hu hl ⊢
  have H0 := Lib.hid h0
  have H1 := Lib.hid h1
  have H2 := Lib.hid h2
  have HU := Lib.hid hu
  have HN := Lib.hid hn
  have HM := Lib.hid hm
  have HFO := Lib.hid hfo
  have RT := Lib.hid rt
  have HST := Lib.hid hst
  obtain ⟨n2, hn2⟩ : ∃ z, z = a.fst.length := ⟨_, rfl⟩
  rw [← hn2] at H2 ⊢
  have HN2 := Lib.hid hn2
  obtain ⟨n3, hn3⟩ : ∃ z, z = a.lst.length := ⟨_, rfl⟩
  rw [← hn3]
  clear h0 h1 h2 h3 hu hn hm hfo rt hst hsl hn2 hn3
  go_enter Tryz.func71, Tryz.ntmps71
  go_wp2_with (at_make; refine wpList_named ?_; intro V hV; refine Hid.out ?_)
  refine Lib.hid ?_
  have B1 : Hid (Blk V w.heap.size #[.slice a0 n c0, .slice a1 n c1, .slice a2 n2 c2, .slice a3 n3 c3, .bool a.emp] 42) := by rw [hV]; exact Blk.new w _ _
  have X1 : Hid (Below w.heap.size w V) := by rw [hV]; exact ((Ext.refl w).alloc _).below
  clear hV
  have hwV : w.heap.size < V.heap.size := B1.out.lt
  go_wp2_with (at_make; refine wpList_make_full _ rfl (.tmp 13) (.tmp 13) 33 rfl w.heap.size 3 iI (.int .i64 0) 1 Tryz.underlying33 hiI hzI0 hzI1 .i64 .i64 _ _ n rfl rfl rfl rfl (by rw [hzI2]; omega) (by unfold maxLen; omega) (by omega) ?_; intro w3 hr hg; refine Hid.out ?_)
  refine Lib.hid ?_
  have hs3 : V.heap.size < w3.heap.size := by
    rcases hr.2 with ⟨h5, _⟩ | ⟨g, c, cur, h5, _, h6, _⟩
    · cases h5
    · cases h5; exact (Array.getElem?_eq_some_iff.1 h6).1
  have hb3 : Below V.heap.size V w3 := (Keeps.of_grown hg fun x hx => ⟨hx, fun e => by cases e⟩ : Keeps (· < V.heap.size) V w3).below
  rw [made_ints] at hr
  have R3 := Lib.hid hr
  have C1 := Lib.hid (B1.out.below hb3 B1.out.lt)
  have X3 := Lib.hid (X1.out.trans (hb3.mono X1.out.size))
  clear hr hg hb3 B1 X1
  obtain ⟨g, hg5⟩ : ∃ g, g = V.heap.size := ⟨_, rfl⟩
  rw [← hg5] at R3 hs3 hwV ⊢
  clear hg5
  have KK : Hid (∀ wr : World, Keeps (fun x => x < w3.heap.size ∧ x ≠ g) w3 wr → Hid (Blk wr w.heap.size #[.slice a0 n c0, .slice a1 n c1, .slice a2 n2 c2, .slice a3 n3 c3, .bool a.emp] 42 ∧ Below w.heap.size w wr)) := Lib.hid fun wr hx => Lib.hid ⟨C1.out.keeps hx ⟨by omega, by omega⟩, X3.out.trans (hx.mono fun x h5 => by have : x < w.heap.size := h5; exact ⟨by omega, by omega⟩ : Keeps (· < w.heap.size) w3 wr).below⟩
  go_wp2
  go_loopw [8] (fun iv wr => ∃ k : Nat, k ≤ m ∧ iv = .int .i64 k ∧ wr.ownsRow w.heap.size 3 1 (.slice (some ⟨g, 0, none⟩) n n) n ((mkAll a c (l.take k)).map encZ) ∧ Keeps (fun x => x < w3.heap.size ∧ x ≠ g) w3 wr) (fun iv _ => m - (intOf iv).toNat)
  case atStart => exact ⟨0, Nat.zero_le _, rfl, by show w3.ownsRow _ _ _ _ _ ((List.replicate a.sets.length 0).map encZ); rw [← HN.out]; exact R3.out, Keeps.refl _ _⟩
  case round =>
    obtain ⟨k, hk, rfl, ho, hx⟩ := hrel
    obtain ⟨wo, rfl⟩ : ∃ wo : World, wo = wr := ⟨_, rfl⟩
    have HO := Lib.hid ho
    have HX := Lib.hid hx
    have BX := KK.out wo hx
    clear ho hx
    by_cases hlt : k < m
    · have hki : (k : Int) < m := by omega
      obtain ⟨p, hp⟩ : ∃ p, l[k]? = some p := ⟨_, List.getElem?_eq_getElem (by have := HM.out; omega)⟩
      obtain ⟨ub, uo, rfl, hub, cp⟩ := (HU.out.below BX.out.2).elem hp
      replace cp : wo.cell? ⟨ub, uo + k, none⟩ = some (.int .i64 p) := cp
      obtain ⟨b0, b1, b2, b3, b4⟩ := BX.out.1.five
      have HXL := Lib.hid hp
      have hpm := List.mem_of_getElem? hp
      have hpr := (risG_pair HST.out).2 p hpm
      obtain ⟨fl, hfl⟩ : ∃ z, z = a.frm p := ⟨_, rfl⟩
      have FR : Hid (∀ q ∈ fl, 0 ≤ q ∧ q < n) := Lib.hid fun q hq => by
        rw [hfl] at hq
        have h5 := (risG_pair (RT.out.frm_in HST.out hpm)).2 q hq
        have := HN.out
        omega
      have HFL := Lib.hid hfl
      have hpn : p < n := by have := HN.out; omega
      have hp1 : -1 ≤ p := hpr.1
      obtain ⟨fn, hfn⟩ : ∃ z, z = fl.length := ⟨_, rfl⟩
      have FN := Lib.hid hfn
      have hfn4 : fn ≤ 401 := by rw [hfn, hfl]; exact st_len RT.out (risG_low (by omega) (RT.out.frm_in HST.out hpm))
      clear hp hpm hpr hfl
      by_cases h0p : 0 ≤ p
      · have d1 : decide (0 ≤ p) = true := decide_eq_true h0p
        obtain ⟨pn, rfl⟩ : ∃ pn : Nat, p = pn := ⟨p.toNat, by omega⟩
        have hpi : (0 : Int) ≤ pn ∧ (pn : Int) < n := by omega
        have hrow : a.fol[pn]? = some fl := by
          rw [HFL.out]
          unfold NF.frm
          rw [if_neg (by omega), Int.toNat_natCast]
          exact some_getD [] (by have := HFO.out; have := HN.out; omega)
        obtain ⟨rb, ro, fa, fc, e2, hrb, crow, hsl⟩ := H1.out.elem hrow
        cases e2
        have KB := Lib.hid (Keeps.of_below BX.out.2 fun _ h => h : Keeps (· < w.heap.size) w wo)
        have FF : Hid (∀ W, Keeps (fun x => x < w3.heap.size ∧ x ≠ g) w3 W → IsSl encZ W (.slice fa fn fc) fl) := Lib.hid fun W hW => by
          have h5 := hsl.below (KK.out W hW).out.2
          rw [← hfn] at h5
          exact h5
        rw [← hfn] at crow
        have hrbo : rb < wo.heap.size := Nat.lt_of_lt_of_le hrb BX.out.2.size
        have cr : wo.cell? ⟨rb, ro + pn, none⟩ = some (.slice fa fn fc) := (KB.out.cell (p := ⟨rb, ro + pn, none⟩) hrb).trans crow
        clear hfn hrow hsl crow
        go_wp2
        refine wp_region_reg false (fun _ => False) (by kernel_rfl) 9 [0, 1, 0, 0, 12, 28, 63, 127, 255] (fun i => false) (by kernel_rfl) (fun i => Eff.any _) ?_
        intro C hC hne
        have HC := Lib.hid hC
        have f0 := regCell hC (p := ⟨w.heap.size, 1, none⟩) BX.out.1.lt (fun h => h) b1
        have f1 := regCell hC (p := ⟨ub, uo + k, none⟩) hub (fun h => h) cp
        have f2 := regCell hC (p := ⟨rb, ro + pn, none⟩) hrbo (fun h => h) cr
        clear hC
        repeat (refine regStep (fun K hK => ?_); first | (refine regN rfl ?_; try go_simp; refine hK _ _ ?_; clear hK K) | (refine regF rfl rfl ?_; unfold floatAt; go_simp; refine hK _ _ ?_; clear hK K))
        refine regNil (fun W7 hW hH => ?_)
        have hM7 := ((HC.out W7).1 hW).below
        have HO7 := Lib.hid (ownsRow_below HO.out hM7)
        have HX7 := Lib.hid (HX.out.tr (Keeps.of_below hM7 fun x hx => Nat.lt_of_lt_of_le hx.1 HX.out.size))
        clear hM7 hW hH HC hne f0 f1 f2 cr cp b0 b1 b2 b3 b4 HO HX
        have HO := HO7
        have HX := HX7
        clear HO7 HX7
        go_wp2
        go_loopw [10] (fun iv wr => ∃ j : Nat, j ≤ fn ∧ iv = .int .i64 j ∧ wr.ownsRow w.heap.size 3 1 (.slice (some ⟨g, 0, none⟩) n n) n ((mkRow a c (fl.take j) (mkAll a c (l.take k))).map encZ) ∧ Keeps (fun x => x < w3.heap.size ∧ x ≠ g) w3 wr) (fun iv _ => fn - (intOf iv).toNat)
        case atStart => exact ⟨0, Nat.zero_le _, rfl, HO.out, HX.out⟩
        case round =>
          obtain ⟨j, hj, rfl, ho2, hx2⟩ := hrel
          obtain ⟨wi, rfl⟩ : ∃ wi : World, wi = wr := ⟨_, rfl⟩
          have HO2 := Lib.hid ho2
          have HX2 := Lib.hid hx2
          clear ho2 hx2
          by_cases hlt2 : j < fn
          · have hji : (j : Int) < fn := by omega
            obtain ⟨q, hq⟩ : ∃ q, fl[j]? = some q := ⟨_, List.getElem?_eq_getElem (by have := FN.out; omega)⟩
            obtain ⟨fb, fo, e2, hfb, cq⟩ := (FF.out wi HX2.out).elem hq
            cases e2
            replace cq : wi.cell? ⟨fb, fo + j, none⟩ = some (.int .i64 q) := cq
            have hqr := FR.out q (List.mem_of_getElem? hq)
            obtain ⟨t, rfl⟩ : ∃ t : Nat, q = t := ⟨q.toNat, by omega⟩
            have htn : t < n := by omega
            have hti : (0 : Int) ≤ t ∧ (t : Int) < n := by omega
            have hci : (0 : Int) ≤ c ∧ (c : Int) < 256 := by omega
            obtain ⟨s, hs⟩ : ∃ s, a.sets[t]? = some s := ⟨_, List.getElem?_eq_getElem (by have := HN.out; omega)⟩
            have hKK := (KK.out wi HX2.out)
            obtain ⟨sb, so, e3, hsb, cs⟩ := (H0.out.below hKK.out.2).elem (show (a.sets.map refS)[t]? = some (refS s) by rw [List.getElem?_map, hs]; rfl)
            cases e3
            have cs2 := cs c hc
            have HSN := Lib.hid (mkRow_snoc (a := a) (c := c) (nl := mkAll a c (l.take k)) hq)
            have HSG : Hid (a.sets.getD t 0 = s) := Lib.hid (getD_some hs)
            obtain ⟨b0, b1, b2, b3, b4⟩ := hKK.out.1.five
            obtain ⟨_, ff⟩ := intCell HO2.out htn
            obtain ⟨⟨gcell, _⟩⟩ := (⟨intCell HO2.out htn⟩ : Nonempty _)
            have HB := Lib.hid hKK.out.1
            clear hq hs cs hKK
            cases hbit : s.getLsbD c with
            | true =>
              have e4 : refS s c = 1 := by unfold refS; rw [hbit]; rfl
              rw [e4] at cs2
              have HE : Hid (mkRow a c (fl.take (j + 1)) (mkAll a c (l.take k)) = (mkRow a c (fl.take j) (mkAll a c (l.take k))).set t 1) := Lib.hid (by
                rw [HSN.out]; unfold mkOne; rw [Int.toNat_natCast, HSG.out, hbit, if_pos rfl])
              clear e4 hbit
              go_wp2
              refine wp_region_reg false (fun _ => False) (by kernel_rfl) 11 [0, 1, 0, 0, 12, 28, 0, 63, 255, 511, 1023] (fun i => false) (by kernel_rfl) (fun i => Eff.any _) ?_
              intro C hC hne
              have HC := Lib.hid hC
              have f0 := regCell hC (p := ⟨w.heap.size, 0, none⟩) HB.out.lt (fun h => h) b0
              have f1 := regCell hC (p := ⟨fb, fo + j, none⟩) hfb (fun h => h) cq
              have f2 := regCell hC (p := ⟨sb, so + t * 256 + c, none⟩) hsb (fun h => h) cs2
              clear hC
              repeat (refine regStep (fun K hK => ?_); first | (refine regN rfl ?_; try go_simp; refine hK _ _ ?_; clear hK K) | (refine regF rfl rfl ?_; unfold floatAt; go_simp; refine hK _ _ ?_; clear hK K))
              refine regNil (fun W hW hH => ?_)
              have hM := ((HC.out W).1 hW).below
              have O7 := Lib.hid (ownsRow_below HO2.out hM)
              have K7 := Lib.hid (HX2.out.tr (Keeps.of_below hM fun x hx => Nat.lt_of_lt_of_le hx.1 HX2.out.size))
              have d1 : W.cell? ⟨fb, fo + j, none⟩ = some (.int .i64 t) := ((Keeps.of_below hM fun _ h => h : Keeps (· < wi.heap.size) wi W).cell (p := ⟨fb, fo + j, none⟩) hfb).trans cq
              obtain ⟨_, fz⟩ := intCell O7.out htn
              obtain ⟨⟨gc7, _⟩⟩ := (⟨intCell O7.out htn⟩ : Nonempty _)
              clear hM hW hH HC hne f0 f1 f2 cq cs2 ff gcell b0 b1 b2 b3 b4
              go_wp2
              go_roundw
              case rel =>
                refine ⟨j + 1, by omega, by go_num, ?_, K7.out.tr ((Keeps.refl _ _).setCell (p := ⟨g, t, none⟩) (fun h => h.2 rfl) _)⟩
                rw [HE.out, List.map_set]
                exact (O7.out.stored t _).1
              case measure => simp [intOf]; omega
            | false =>
              have e4 : refS s c = 0 := by unfold refS; rw [hbit]; rfl
              rw [e4] at cs2
              have HE : Hid (mkRow a c (fl.take (j + 1)) (mkAll a c (l.take k)) = mkRow a c (fl.take j) (mkAll a c (l.take k))) := Lib.hid (by
                rw [HSN.out]; unfold mkOne; rw [Int.toNat_natCast, HSG.out, hbit]; rfl)
              clear e4 hbit
              go_wp2
              refine wp_region_reg false (fun _ => False) (by kernel_rfl) 11 [0, 1, 0, 0, 12, 28, 0, 63, 255, 511, 1023] (fun i => false) (by kernel_rfl) (fun i => Eff.any _) ?_
              intro C hC hne
              have HC := Lib.hid hC
              have f0 := regCell hC (p := ⟨w.heap.size, 0, none⟩) HB.out.lt (fun h => h) b0
              have f1 := regCell hC (p := ⟨fb, fo + j, none⟩) hfb (fun h => h) cq
              have f2 := regCell hC (p := ⟨sb, so + t * 256 + c, none⟩) hsb (fun h => h) cs2
              clear hC
              repeat (refine regStep (fun K hK => ?_); first | (refine regN rfl ?_; try go_simp; refine hK _ _ ?_; clear hK K) | (refine regF rfl rfl ?_; unfold floatAt; go_simp; refine hK _ _ ?_; clear hK K))
              refine regNil (fun W hW hH => ?_)
              have hM := ((HC.out W).1 hW).below
              have O7 := Lib.hid (ownsRow_below HO2.out hM)
              have K7 := Lib.hid (HX2.out.tr (Keeps.of_below hM fun x hx => Nat.lt_of_lt_of_le hx.1 HX2.out.size))
              clear hM hW hH HC hne f0 f1 f2 cq cs2 ff gcell b0 b1 b2 b3 b4
              go_wp2
              go_roundw
              case rel =>
                refine ⟨j + 1, by omega, by go_num, ?_, K7.out⟩
                rw [HE.out]
                exact O7.out
              case measure => simp [intOf]; omega
          · obtain rfl : j = fn := by omega
            clear hlt2 hj
            have hji : ¬ ((j : Int) < j) := by omega
            have HD : Hid (mkAll a c (l.take (k + 1)) = mkRow a c (fl.take j) (mkAll a c (l.take k))) := Lib.hid (by
              rw [mkAll_snoc HXL.out, ← HFL.out, FN.out, List.take_length])
            go_wp2
            go_roundw
            case rel => exact ⟨k + 1, by omega, by go_num, by rw [HD.out]; exact HO2.out, HX2.out⟩
            case measure => simp [intOf]; omega
      · have d1 : decide (0 ≤ p) = false := decide_eq_false h0p
        obtain rfl : p = -1 := by omega
        have hfr : fl = a.fst := HFL.out
        have hn2 : fn = n2 := by rw [HN2.out, ← hfr]; exact hfn
        have FF : Hid (∀ W, Keeps (fun x => x < w3.heap.size ∧ x ≠ g) w3 W → IsSl encZ W (.slice a2 fn c2) fl) := Lib.hid fun W hW => by
          have h5 := H2.out.below (KK.out W hW).out.2
          rw [hfr, hn2]
          exact h5
        rw [← hn2] at b2
        clear hfn hfr
        subst hn2
        go_wp2
        go_loopw [10] (fun iv wr => ∃ j : Nat, j ≤ fn ∧ iv = .int .i64 j ∧ wr.ownsRow w.heap.size 3 1 (.slice (some ⟨g, 0, none⟩) n n) n ((mkRow a c (fl.take j) (mkAll a c (l.take k))).map encZ) ∧ Keeps (fun x => x < w3.heap.size ∧ x ≠ g) w3 wr) (fun iv _ => fn - (intOf iv).toNat)
        case atStart => exact ⟨0, Nat.zero_le _, rfl, HO.out, HX.out⟩
        case round =>
          obtain ⟨j, hj, rfl, ho2, hx2⟩ := hrel
          obtain ⟨wi, rfl⟩ : ∃ wi : World, wi = wr := ⟨_, rfl⟩
          have HO2 := Lib.hid ho2
          have HX2 := Lib.hid hx2
          clear ho2 hx2
          by_cases hlt2 : j < fn
          · have hji : (j : Int) < fn := by omega
            obtain ⟨q, hq⟩ : ∃ q, fl[j]? = some q := ⟨_, List.getElem?_eq_getElem (by have := FN.out; omega)⟩
            obtain ⟨fb, fo, e2, hfb, cq⟩ := (FF.out wi HX2.out).elem hq
            cases e2
            replace cq : wi.cell? ⟨fb, fo + j, none⟩ = some (.int .i64 q) := cq
            have hqr := FR.out q (List.mem_of_getElem? hq)
            obtain ⟨t, rfl⟩ : ∃ t : Nat, q = t := ⟨q.toNat, by omega⟩
            have htn : t < n := by omega
            have hti : (0 : Int) ≤ t ∧ (t : Int) < n := by omega
            have hci : (0 : Int) ≤ c ∧ (c : Int) < 256 := by omega
            obtain ⟨s, hs⟩ : ∃ s, a.sets[t]? = some s := ⟨_, List.getElem?_eq_getElem (by have := HN.out; omega)⟩
            have hKK := (KK.out wi HX2.out)
            obtain ⟨sb, so, e3, hsb, cs⟩ := (H0.out.below hKK.out.2).elem (show (a.sets.map refS)[t]? = some (refS s) by rw [List.getElem?_map, hs]; rfl)
            cases e3
            have cs2 := cs c hc
            have HSN := Lib.hid (mkRow_snoc (a := a) (c := c) (nl := mkAll a c (l.take k)) hq)
            have HSG : Hid (a.sets.getD t 0 = s) := Lib.hid (getD_some hs)
            obtain ⟨b0, b1, b2, b3, b4⟩ := hKK.out.1.five
            obtain ⟨_, ff⟩ := intCell HO2.out htn
            obtain ⟨⟨gcell, _⟩⟩ := (⟨intCell HO2.out htn⟩ : Nonempty _)
            have HB := Lib.hid hKK.out.1
            clear hq hs cs hKK
            cases hbit : s.getLsbD c with
            | true =>
              have e4 : refS s c = 1 := by unfold refS; rw [hbit]; rfl
              rw [e4] at cs2
              have HE : Hid (mkRow a c (fl.take (j + 1)) (mkAll a c (l.take k)) = (mkRow a c (fl.take j) (mkAll a c (l.take k))).set t 1) := Lib.hid (by
                rw [HSN.out]; unfold mkOne; rw [Int.toNat_natCast, HSG.out, hbit, if_pos rfl])
              clear e4 hbit
              go_wp2
              refine wp_region_reg false (fun _ => False) (by kernel_rfl) 11 [0, 1, 0, 0, 12, 28, 0, 63, 255, 511, 1023] (fun i => false) (by kernel_rfl) (fun i => Eff.any _) ?_
              intro C hC hne
              have HC := Lib.hid hC
              have f0 := regCell hC (p := ⟨w.heap.size, 0, none⟩) HB.out.lt (fun h => h) b0
              have f1 := regCell hC (p := ⟨fb, fo + j, none⟩) hfb (fun h => h) cq
              have f2 := regCell hC (p := ⟨sb, so + t * 256 + c, none⟩) hsb (fun h => h) cs2
              clear hC
              repeat (refine regStep (fun K hK => ?_); first | (refine regN rfl ?_; try go_simp; refine hK _ _ ?_; clear hK K) | (refine regF rfl rfl ?_; unfold floatAt; go_simp; refine hK _ _ ?_; clear hK K))
              refine regNil (fun W hW hH => ?_)
              have hM := ((HC.out W).1 hW).below
              have O7 := Lib.hid (ownsRow_below HO2.out hM)
              have K7 := Lib.hid (HX2.out.tr (Keeps.of_below hM fun x hx => Nat.lt_of_lt_of_le hx.1 HX2.out.size))
              have d1 : W.cell? ⟨fb, fo + j, none⟩ = some (.int .i64 t) := ((Keeps.of_below hM fun _ h => h : Keeps (· < wi.heap.size) wi W).cell (p := ⟨fb, fo + j, none⟩) hfb).trans cq
              obtain ⟨_, fz⟩ := intCell O7.out htn
              obtain ⟨⟨gc7, _⟩⟩ := (⟨intCell O7.out htn⟩ : Nonempty _)
              clear hM hW hH HC hne f0 f1 f2 cq cs2 ff gcell b0 b1 b2 b3 b4
              go_wp2
              go_roundw
              case rel =>
                refine ⟨j + 1, by omega, by go_num, ?_, K7.out.tr ((Keeps.refl _ _).setCell (p := ⟨g, t, none⟩) (fun h => h.2 rfl) _)⟩
                rw [HE.out, List.map_set]
                exact (O7.out.stored t _).1
              case measure => simp [intOf]; omega
            | false =>
              have e4 : refS s c = 0 := by unfold refS; rw [hbit]; rfl
              rw [e4] at cs2
              have HE : Hid (mkRow a c (fl.take (j + 1)) (mkAll a c (l.take k)) = mkRow a c (fl.take j) (mkAll a c (l.take k))) := Lib.hid (by
                rw [HSN.out]; unfold mkOne; rw [Int.toNat_natCast, HSG.out, hbit]; rfl)
              clear e4 hbit
              go_wp2
              refine wp_region_reg false (fun _ => False) (by kernel_rfl) 11 [0, 1, 0, 0, 12, 28, 0, 63, 255, 511, 1023] (fun i => false) (by kernel_rfl) (fun i => Eff.any _) ?_
              intro C hC hne
              have HC := Lib.hid hC
              have f0 := regCell hC (p := ⟨w.heap.size, 0, none⟩) HB.out.lt (fun h => h) b0
              have f1 := regCell hC (p := ⟨fb, fo + j, none⟩) hfb (fun h => h) cq
              have f2 := regCell hC (p := ⟨sb, so + t * 256 + c, none⟩) hsb (fun h => h) cs2
              clear hC
              repeat (refine regStep (fun K hK => ?_); first | (refine regN rfl ?_; try go_simp; refine hK _ _ ?_; clear hK K) | (refine regF rfl rfl ?_; unfold floatAt; go_simp; refine hK _ _ ?_; clear hK K))
              refine regNil (fun W hW hH => ?_)
              have hM := ((HC.out W).1 hW).below
              have O7 := Lib.hid (ownsRow_below HO2.out hM)
              have K7 := Lib.hid (HX2.out.tr (Keeps.of_below hM fun x hx => Nat.lt_of_lt_of_le hx.1 HX2.out.size))
              clear hM hW hH HC hne f0 f1 f2 cq cs2 ff gcell b0 b1 b2 b3 b4
              go_wp2
              go_roundw
              case rel =>
                refine ⟨j + 1, by omega, by go_num, ?_, K7.out⟩
                rw [HE.out]
                exact O7.out
              case measure => simp [intOf]; omega
          · obtain rfl : j = fn := by omega
            clear hlt2 hj
            have hji : ¬ ((j : Int) < j) := by omega
            have HD : Hid (mkAll a c (l.take (k + 1)) = mkRow a c (fl.take j) (mkAll a c (l.take k))) := Lib.hid (by
              rw [mkAll_snoc HXL.out, ← HFL.out, FN.out, List.take_length])
            go_wp2
            go_roundw
            case rel => exact ⟨k + 1, by omega, by go_num, by rw [HD.out]; exact HO2.out, HX2.out⟩
            case measure => simp [intOf]; omega
    · obtain rfl : k = m := by omega
      clear hlt hk
      have hki : ¬ ((k : Int) < k) := by omega
      have htk : l.take k = l := by rw [HM.out]; exact List.take_length
      rw [htk] at HO
      have hlm := mkAll_len a c l
      rw [← HN.out] at hlm
      have HR := Lib.hid (refList_any (.slice (some ⟨g, 0, none⟩) n n) (mkAll a c l) wo (ownsRow_sl HO.out hlm.symm) (by rw [hlm]; omega))
      have HZ := Lib.hid (mkAll_step RT.out HST.out c)
      clear htk hlm
      go_wp2_with fail
      refine HR.out.mono ?_
      rintro e w9 ⟨u9, rfl, ho9, hx9⟩
      have HO9 := Lib.hid ho9
      have X9 := Lib.hid (BX.out.2.trans (hx9.mono BX.out.2.size))
      clear ho9 hx9
      go_wp2
      go_ret
      refine ⟨_, rfl, ?_, X9.out⟩
      rw [← HZ.out]
      exact ownsRow_base HO9.out BX.out.2.size
end Go.Proofs.YthdnlndpmmiboaaGreatDoor
