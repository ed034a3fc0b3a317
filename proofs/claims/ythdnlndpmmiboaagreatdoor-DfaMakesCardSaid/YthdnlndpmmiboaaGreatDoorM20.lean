/-
  The program's rising, the reference's Rising and has.
  Automata of positions in memory; nfa.Right.
-/
import Derived.Test.YthdnlndpmmiboaaGreatDoorM18
import Derived.Test.YthdnlndpmmiboaaGreatDoorM12
import Derived.Test.YthdnlndpmmiboaaGreatDoorM06
namespace Go.Proofs.YthdnlndpmmiboaaGreatDoor
open Go Go.RowKit Go.Shelf Go.Maps

set_option maxRecDepth 100000 in
set_option maxHeartbeats 4000000 in
theorem nrising_any (v : Value) (l : List Int) (low high : Int) (hlow : low = 0 ∨ low = -1) (w : World) (h : IsSl encZ w v l) (hn : l.length ≤ 1000000) :
    Calls Tryz.prog 73 #[v, .int .i64 low, .int .i64 high] w fun e w' => e = .returned (.bool (risG low high l)) ∧ w' = w := by
  obtain ⟨a, cap, rfl⟩ := h.form
  obtain ⟨n, hnn⟩ : ∃ n, n = l.length := ⟨_, rfl⟩
  obtain ⟨r, hr⟩ : ∃ r, r = risG low high l := ⟨_, rfl⟩
  rw [← hnn] at h hn ⊢
  rw [← hr]
  have H := Lib.hid h
  have HN := Lib.hid hnn
  have HR := Lib.hid hr
  have w0 : IntKind.i64.wrap (low - 1) = low - 1 := IntWalk.i64_in _ (by omega)
  clear h hnn hr
  go_enter Tryz.func73, Tryz.ntmps73
  go_wp2
  clear w0
  go_loopw [7, 14] (fun lv iv wr => ∃ k : Nat, k ≤ n ∧ iv = .int .i64 k ∧ lv = .int .i64 (prevG low l k) ∧ (∀ i, i < k → risGAt low high l i = true) ∧ wr = w) (fun _ iv _ => n - (intOf iv).toNat)
  case atStart => exact ⟨0, by omega, rfl, by simp [prevG], fun i hi => by omega, rfl⟩
  case round =>
    obtain ⟨k, hk, rfl, rfl, ha, rfl⟩ := hrel
    have HA := Lib.hid ha
    clear ha
    obtain ⟨q, hq⟩ : ∃ q, q = prevG low l k := ⟨_, rfl⟩
    rw [← hq]
    have HQ := Lib.hid hq
    clear hq
    by_cases hlt : k < n
    · obtain ⟨x, hxl⟩ : ∃ x, l[k]? = some x := ⟨_, List.getElem?_eq_getElem (by have := HN.out; omega)⟩
      obtain ⟨g, off, rfl, hg, c1⟩ := H.out.elem hxl
      replace c1 : wr.cell? ⟨g, off + k, none⟩ = some (.int .i64 x) := c1
      have hki : (k : Int) < n := by omega
      have HXL := Lib.hid hxl
      have HRA : Hid (risGAt low high l k = (decide (q < x) && decide (x ≤ high))) := Lib.hid (by rw [risGAt_eq hxl, HQ.out])
      clear hxl
      by_cases h1 : x ≤ q
      · have d1 : decide (x ≤ q) = true := decide_eq_true h1
        have HRR := Lib.hid (HR.out.trans (risG_no (by rw [← HN.out]; exact hlt) (by rw [HRA.out, show decide (q < x) = false from decide_eq_false (by omega)]; rfl)))
        go_wp2
        go_ret
        exact ⟨by rw [HRR.out]; rfl, rfl⟩
      · have d1 : decide (x ≤ q) = false := decide_eq_false h1
        by_cases h2 : high < x
        · have d2 : decide (high < x) = true := decide_eq_true h2
          have d3 : decide (x > high) = true := d2
          have HRR := Lib.hid (HR.out.trans (risG_no (by rw [← HN.out]; exact hlt) (by rw [HRA.out, show decide (x ≤ high) = false from decide_eq_false (by omega)]; simp)))
          go_wp2
          go_ret
          exact ⟨by rw [HRR.out]; rfl, rfl⟩
        · have d2 : decide (high < x) = false := decide_eq_false h2
          have d3 : decide (x > high) = false := d2
          go_wp2
          exact ⟨⟨k + 1, by omega, by go_num, by rw [prevG_succ HXL.out], fun i hi => by
            rcases Nat.lt_or_ge i k with h3 | h3
            · exact HA.out i h3
            · obtain rfl : i = k := by omega
              rw [HRA.out]
              simp only [Bool.and_eq_true, decide_eq_true_eq]
              omega, by trivial⟩, by simp [intOf]; omega⟩
    · have hk' : k = n := by omega
      have HRR := Lib.hid (HR.out.trans (risG_yes fun i hi => HA.out i (by rw [hk', HN.out]; exact hi)))
      have hkn : ¬ ((k : Int) < n) := by omega
      go_wp2
      go_ret
      exact ⟨by rw [HRR.out]; rfl, rfl⟩
set_option maxRecDepth 100000 in
set_option maxHeartbeats 4000000 in
theorem refHas_any (v : Value) (l : List Int) (x : Int) (w : World) (h : IsSl encZ w v l) (hn : l.length ≤ 1000000) :
    Calls Tryz.prog 90 #[v, .int .i64 x] w fun e w' => e = .returned (.bool (l.contains x)) ∧ w' = w := by
  obtain ⟨a, cap, rfl⟩ := h.form
  obtain ⟨n, hnn⟩ : ∃ n, n = l.length := ⟨_, rfl⟩
  obtain ⟨r, hr⟩ : ∃ r, r = l.contains x := ⟨_, rfl⟩
  rw [← hnn] at h hn ⊢
  rw [← hr]
  have H := Lib.hid h
  have HN := Lib.hid hnn
  have HR := Lib.hid hr
  clear h hnn hr
  go_enter Tryz.func90, Tryz.ntmps90
  go_wp2
  go_loopw [5] (fun iv wr => ∃ k : Nat, k ≤ n ∧ iv = .int .i64 k ∧ (∀ y ∈ l.take k, y ≠ x) ∧ wr = w) (fun iv _ => n - (intOf iv).toNat)
  case atStart => exact ⟨0, by omega, rfl, by simp, rfl⟩
  case round =>
    obtain ⟨k, hk, rfl, ha, rfl⟩ := hrel
    have HA := Lib.hid ha
    clear ha
    by_cases hlt : k < n
    · obtain ⟨y, hy⟩ : ∃ y, l[k]? = some y := ⟨_, List.getElem?_eq_getElem (by have := HN.out; omega)⟩
      obtain ⟨g, off, rfl, hg, c1⟩ := H.out.elem hy
      replace c1 : wr.cell? ⟨g, off + k, none⟩ = some (.int .i64 y) := c1
      have hki : (k : Int) < n := by omega
      have HY := Lib.hid hy
      clear hy
      by_cases h1 : y = x
      · have d1 : (y == x) = true := by rw [h1]; simp
        have HRR := Lib.hid (HR.out.trans (List.contains_iff_mem.2 (h1 ▸ List.mem_of_getElem? HY.out)))
        clear h1
        go_wp2
        go_ret
        exact ⟨by rw [HRR.out]; rfl, rfl⟩
      · have d1 : (y == x) = false := by rw [beq_eq_false_iff_ne]; exact h1
        have H1 := Lib.hid h1
        clear h1
        go_wp2
        exact ⟨⟨k + 1, by omega, by go_num, fun z hz => by
          rw [List.take_add_one, HY.out] at hz
          rcases List.mem_append.1 hz with hz | hz
          · exact HA.out z hz
          · simp at hz; subst hz; exact H1.out, by trivial⟩, by simp [intOf]; omega⟩
    · have hk' : k = n := by omega
      have hkn : ¬ ((k : Int) < n) := by omega
      have HRR : Hid (r = false) := Lib.hid (by
        rw [HR.out, Bool.eq_false_iff]
        intro hc
        have := HA.out x (by rw [hk', HN.out, List.take_length]; exact List.contains_iff_mem.1 hc)
        exact this rfl)
      go_wp2
      go_ret
      exact ⟨by rw [HRR.out]; rfl, rfl⟩
theorem risRAt_eq {low up : Int} {l : List Int} {k : Nat} {x : Int} (hx : l[k]? = some x) : risRAt low up l k = (decide (low ≤ x) && decide (x < up) && (decide (k = 0) || decide (l.getD (k - 1) 0 < x))) := by
  unfold risRAt
  rw [getD_some hx]
theorem risR_no {low up : Int} {l : List Int} {k : Nat} (hk : k < l.length) (h : risRAt low up l k = false) : risG low (up - 1) l = false := by
  rw [← risR_eq, List.all_eq_false]
  exact ⟨k, by simpa using hk, by simp [h]⟩
theorem risR_yes {low up : Int} {l : List Int} (h : ∀ k, k < l.length → risRAt low up l k = true) : risG low (up - 1) l = true := by
  rw [← risR_eq, List.all_eq_true]
  intro k hk
  exact h k (by simpa using hk)
set_option maxRecDepth 100000 in
set_option maxHeartbeats 4000000 in
theorem risingG_any (v : Value) (l : List Int) (low up : Int) (w : World) (h : IsSl encZ w v l) (hn : l.length ≤ 1000000) :
    Calls Tryz.prog 64 #[v, .int .i64 low, .int .i64 up] w fun e w' => e = .returned (.bool (risG low (up - 1) l)) ∧ Below w.heap.size w w' := by
  obtain ⟨a, cap, rfl⟩ := h.form
  obtain ⟨n, hnn⟩ : ∃ n, n = l.length := ⟨_, rfl⟩
  obtain ⟨r, hr⟩ : ∃ r, r = risG low (up - 1) l := ⟨_, rfl⟩
  rw [← hnn] at h hn ⊢
  rw [← hr]
  have H := Lib.hid h
  have HN := Lib.hid hnn
  have HR := Lib.hid hr
  clear h hnn hr
  go_enter Tryz.func64, Tryz.ntmps64
  go_wp2
  go_loopw [7] (fun i wr => ∃ k : Nat, k ≤ n ∧ i = .int .i64 k ∧ (∀ i, i < k → risRAt low up l i = true) ∧ Below w.heap.size w wr) (fun i _ => n - (intOf i).toNat)
  case atStart => exact ⟨0, by omega, rfl, fun i hi => by omega, Below.refl _ _⟩
  case round =>
    obtain ⟨k, hk, rfl, ha, hx⟩ := hrel
    obtain ⟨wo, rfl⟩ : ∃ wo : World, wo = wr := ⟨_, rfl⟩
    have HX := Lib.hid hx
    have HA := Lib.hid ha
    clear ha
    by_cases hlt : k < n
    · obtain ⟨x, hxl⟩ : ∃ x, l[k]? = some x := ⟨_, List.getElem?_eq_getElem (by have := HN.out; omega)⟩
      obtain ⟨g, off, rfl, hg, c1⟩ := (H.out.below hx).elem hxl
      replace c1 : wo.cell? ⟨g, off + k, none⟩ = some (.int .i64 x) := c1
      have hki : (k : Int) < n := by omega
      have HXL := Lib.hid hxl
      have HRA := Lib.hid (risRAt_eq (low := low) (up := up) hxl)
      clear hxl hx
      by_cases h1 : x < low
      · have d1 : decide (x < low) = true := decide_eq_true h1
        have HRR := Lib.hid (HR.out.trans (risR_no (by rw [← HN.out]; exact hlt) (by rw [HRA.out, show decide (low ≤ x) = false from decide_eq_false (by omega)]; rfl)))
        go_wp2
        refine wp_region_reg false (fun _ => False) (by kernel_rfl) 30 [0, 0, 3, 7, 0, 31, 63, 127, 127, 511, 1023, 127, 4095, 8191, 16383, 32767, 65535, 131071, 262143, 262143, 1048575, 2097151, 262143, 262143, 8650751, 29622271, 63176703, 134217727, 268435455, 536870911] (fun i => false) (by kernel_rfl) (fun i => Eff.any _) ?_
        intro C hC hne
        have HC := Lib.hid hC
        have f1 := regCell hC (p := ⟨g, off + k, none⟩) hg (fun h => h) c1
        clear hC c1
        repeat (refine regStep (fun K hK => ?_); first | (refine regN rfl ?_; try go_simp; refine hK _ _ ?_; clear hK K) | (refine regF rfl rfl ?_; unfold floatAt; go_simp; refine hK _ _ ?_; clear hK K))
        refine regNil (fun W hW hH => ?_)
        have hM := (HC.out W).1 hW
        have XX := Lib.hid (HX.out.trans (hM.below.mono HX.out.size))
        clear hM hW hH HC HX f1
        go_wp2
        go_ret
        exact ⟨by rw [HRR.out]; rfl, XX.out⟩
      · have d1 : decide (x < low) = false := decide_eq_false h1
        by_cases h2 : up ≤ x
        · have d2 : decide (up ≤ x) = true := decide_eq_true h2
          have HRR := Lib.hid (HR.out.trans (risR_no (by rw [← HN.out]; exact hlt) (by rw [HRA.out, show decide (x < up) = false from decide_eq_false (by omega), Bool.and_false]; rfl)))
          go_wp2
          refine wp_region_reg false (fun _ => False) (by kernel_rfl) 30 [0, 0, 3, 7, 0, 31, 63, 127, 127, 511, 1023, 127, 4095, 8191, 16383, 32767, 65535, 131071, 262143, 262143, 1048575, 2097151, 262143, 262143, 8650751, 29622271, 63176703, 134217727, 268435455, 536870911] (fun i => false) (by kernel_rfl) (fun i => Eff.any _) ?_
          intro C hC hne
          have HC := Lib.hid hC
          have f1 := regCell hC (p := ⟨g, off + k, none⟩) hg (fun h => h) c1
          clear hC c1
          repeat (refine regStep (fun K hK => ?_); first | (refine regN rfl ?_; try go_simp; refine hK _ _ ?_; clear hK K) | (refine regF rfl rfl ?_; unfold floatAt; go_simp; refine hK _ _ ?_; clear hK K))
          refine regNil (fun W hW hH => ?_)
          have hM := (HC.out W).1 hW
          have XX := Lib.hid (HX.out.trans (hM.below.mono HX.out.size))
          clear hM hW hH HC HX f1
          go_wp2
          go_ret
          exact ⟨by rw [HRR.out]; rfl, XX.out⟩
        · have d2 : decide (up ≤ x) = false := decide_eq_false h2
          have e1 : decide (low ≤ x) = true := decide_eq_true (by omega)
          have e2 : decide (x < up) = true := decide_eq_true (by omega)
          have E1 := Lib.hid e1
          have E2 := Lib.hid e2
          clear e1 e2
          rcases Nat.eq_zero_or_pos k with hk0 | hk0
          · subst hk0
            go_wp2
            refine wp_region_reg false (fun _ => False) (by kernel_rfl) 30 [0, 0, 3, 7, 0, 31, 63, 127, 127, 511, 1023, 127, 4095, 8191, 16383, 32767, 65535, 131071, 262143, 262143, 1048575, 2097151, 262143, 262143, 8650751, 29622271, 63176703, 134217727, 268435455, 536870911] (fun i => false) (by kernel_rfl) (fun i => Eff.any _) ?_
            intro C hC hne
            have HC := Lib.hid hC
            have f1 := regCell hC (p := ⟨g, off, none⟩) hg (fun h => h) c1
            clear hC c1
            repeat (refine regStep (fun K hK => ?_); first | (refine regN rfl ?_; try go_simp; refine hK _ _ ?_; clear hK K) | (refine regF rfl rfl ?_; unfold floatAt; go_simp; refine hK _ _ ?_; clear hK K))
            refine regNil (fun W hW hH => ?_)
            have hM := (HC.out W).1 hW
            have XX := Lib.hid (HX.out.trans (hM.below.mono HX.out.size))
            clear hM hW hH HC HX f1
            go_wp2
            go_roundw
            case rel => exact ⟨1, by omega, by go_num, fun i hi => by
              obtain rfl : i = 0 := by omega
              rw [HRA.out, E1.out, E2.out]; rfl, XX.out⟩
            case measure => simp [intOf]; omega
          · obtain ⟨kp, hkp⟩ : ∃ kp, k = kp + 1 := ⟨k - 1, by omega⟩
            obtain ⟨y, hyl⟩ : ∃ y, l[kp]? = some y := ⟨_, List.getElem?_eq_getElem (by have := HN.out; omega)⟩
            have c0 : wo.cell? ⟨g, off + kp, none⟩ = some (.int .i64 y) := by
              obtain ⟨g', off', e, _, c⟩ := (H.out.below HX.out).elem hyl
              cases e
              exact c
            have HGY : Hid (l.getD (k - 1) 0 = y) := Lib.hid (by rw [hkp, Nat.add_sub_cancel]; exact getD_some hyl)
            have hki2 : (kp : Int) < n := by omega
            have d5 : decide ((0 : Int) < k) = true := decide_eq_true (by omega)
            have d5' : decide (0 < k) = true := decide_eq_true hk0
            have e5 : IntKind.i64.wrap ((k : Int) - 1) = (kp : Int) := by rw [IntWalk.i64_in _ (by omega)]; omega
            have HKP := Lib.hid hkp
            clear hyl hkp
            by_cases h3 : x ≤ y
            · have d3 : decide (x ≤ y) = true := decide_eq_true h3
              have HRR := Lib.hid (HR.out.trans (risR_no (by rw [← HN.out]; exact hlt) (by rw [HRA.out, HGY.out, show decide (y < x) = false from decide_eq_false (by omega), show decide (k = 0) = false from decide_eq_false (by omega)]; simp)))
              go_wp2
              refine wp_region_reg false (fun _ => False) (by kernel_rfl) 30 [0, 0, 3, 7, 0, 31, 63, 127, 127, 511, 1023, 127, 4095, 8191, 16383, 32767, 65535, 131071, 262143, 262143, 1048575, 2097151, 262143, 262143, 8650751, 29622271, 63176703, 134217727, 268435455, 536870911] (fun i => false) (by kernel_rfl) (fun i => Eff.any _) ?_
              intro C hC hne
              have HC := Lib.hid hC
              have f1 := regCell hC (p := ⟨g, off + k, none⟩) hg (fun h => h) c1
              have f0 := regCell hC (p := ⟨g, off + kp, none⟩) hg (fun h => h) c0
              clear hC c1 c0
              repeat (refine regStep (fun K hK => ?_); first | (refine regN rfl ?_; try go_simp; refine hK _ _ ?_; clear hK K) | (refine regF rfl rfl ?_; unfold floatAt; go_simp; refine hK _ _ ?_; clear hK K))
              refine regNil (fun W hW hH => ?_)
              have hM := (HC.out W).1 hW
              have XX := Lib.hid (HX.out.trans (hM.below.mono HX.out.size))
              clear hM hW hH HC HX f1 f0
              go_wp2
              go_ret
              exact ⟨by rw [HRR.out]; rfl, XX.out⟩
            · have d3 : decide (x ≤ y) = false := decide_eq_false h3
              go_wp2
              refine wp_region_reg false (fun _ => False) (by kernel_rfl) 30 [0, 0, 3, 7, 0, 31, 63, 127, 127, 511, 1023, 127, 4095, 8191, 16383, 32767, 65535, 131071, 262143, 262143, 1048575, 2097151, 262143, 262143, 8650751, 29622271, 63176703, 134217727, 268435455, 536870911] (fun i => false) (by kernel_rfl) (fun i => Eff.any _) ?_
              intro C hC hne
              have HC := Lib.hid hC
              have f1 := regCell hC (p := ⟨g, off + k, none⟩) hg (fun h => h) c1
              have f0 := regCell hC (p := ⟨g, off + kp, none⟩) hg (fun h => h) c0
              clear hC c1 c0
              repeat (refine regStep (fun K hK => ?_); first | (refine regN rfl ?_; try go_simp; refine hK _ _ ?_; clear hK K) | (refine regF rfl rfl ?_; unfold floatAt; go_simp; refine hK _ _ ?_; clear hK K))
              refine regNil (fun W hW hH => ?_)
              have hM := (HC.out W).1 hW
              have XX := Lib.hid (HX.out.trans (hM.below.mono HX.out.size))
              clear hM hW hH HC HX f1 f0
              go_wp2
              go_roundw
              case rel => exact ⟨k + 1, by omega, by go_num, fun i hi => by
                by_cases e : i = k
                · subst e
                  rw [HRA.out, E1.out, E2.out, HGY.out, decide_eq_true (show y < x by omega)]; simp
                · exact HA.out i (by omega), XX.out⟩
              case measure => simp [intOf]; omega
    · obtain rfl : k = n := by omega
      have HRR := Lib.hid (HR.out.trans (risR_yes fun i hi => HA.out i (by rw [HN.out]; exact hi)))
      clear hx
      go_wp2
      go_ret
      exact ⟨by rw [HRR.out]; rfl, HX.out⟩
end Go.Proofs.YthdnlndpmmiboaaGreatDoor
namespace Go.Proofs.YthdnlndpmmiboaaGreatDoor
open Go Go.RowKit Go.Shelf Go.Maps
attribute [local go_sem] encS

/-- An automaton of positions, to be read. -/
def IsNf (w : World) (v : Value) (a : NF) : Prop := ∃ v0 v1 v2 v3, v = .agg #[v0, v1, v2, v3, .bool a.emp] ∧ IsSetsC w v0 a.sets ∧ IsLL w v1 a.fol ∧ IsSl encZ w v2 a.fst ∧ IsSl encZ w v3 a.lst
theorem IsNf.below {w w' : World} {v : Value} {a : NF} (h : IsNf w v a) (hk : Below w.heap.size w w') : IsNf w' v a := by
  obtain ⟨v0, v1, v2, v3, e, h0, h1, h2, h3⟩ := h
  exact ⟨v0, v1, v2, v3, e, ⟨h0.1.below hk, h0.2⟩, h1.below hk, h2.below hk, h3.below hk⟩
/-- No list is longer than a million. -/
structure SmN (a : NF) : Prop where
  sets : a.sets.length ≤ 1000000
  fol : a.fol.length ≤ 1000000
  fst : a.fst.length ≤ 1000000
  lst : a.lst.length ≤ 1000000
  row : ∀ l ∈ a.fol, l.length ≤ 1000000
theorem Blk.five {w : World} {b : Nat} {x y z u t : Value} {ty : TypeId} (h : Blk w b #[x, y, z, u, t] ty) : w.cell? ⟨b, 0, none⟩ = some x ∧ w.cell? ⟨b, 1, none⟩ = some y ∧ w.cell? ⟨b, 2, none⟩ = some z ∧ w.cell? ⟨b, 3, none⟩ = some u ∧ w.cell? ⟨b, 4, none⟩ = some t :=
  ⟨h.cell 0, h.cell 1, h.cell 2, h.cell 3, h.cell 4⟩
theorem nright_no {a : NF} (h : 400 < a.sets.length ∨ a.fol.length ≠ a.sets.length ∨ risG 0 ((a.sets.length : Int) - 1) a.fst = false ∨ risG 0 ((a.sets.length : Int) - 1) a.lst = false) : a.right = false := by
  rw [Bool.eq_false_iff]
  intro hr
  have h1 := (nright_iff a).1 hr
  rcases h with h | h | h | h
  · have := h1.le; omega
  · exact h h1.fol
  · rw [h1.fst] at h; cases h
  · rw [h1.lst] at h; cases h
theorem nright_row {a : NF} {p : Nat} (hp : p < a.sets.length) (h : risG 0 ((a.sets.length : Int) - 1) (a.fol.getD p []) = false ∨ a.sets.getD p 0 = 0) : a.right = false := by
  rw [Bool.eq_false_iff]
  intro hr
  have h1 := (nright_iff a).1 hr
  rcases h with h | h
  · rw [h1.row p hp] at h; cases h
  · exact h1.ne p hp h
theorem nright_yes {a : NF} (h1 : a.sets.length ≤ 400) (h2 : a.fol.length = a.sets.length) (h3 : risG 0 ((a.sets.length : Int) - 1) a.fst = true) (h4 : risG 0 ((a.sets.length : Int) - 1) a.lst = true)
    (h5 : ∀ p, p < a.sets.length → risG 0 ((a.sets.length : Int) - 1) (a.fol.getD p []) = true ∧ a.sets.getD p 0 ≠ 0) : a.right = true := (nright_iff a).2 ⟨h1, h2, h3, h4, fun p hp => (h5 p hp).1, fun p hp => (h5 p hp).2⟩

set_option maxRecDepth 100000 in
set_option maxHeartbeats 4000000 in
theorem nright_any (v : Value) (a : NF) (w : World) (h : IsNf w v a) (sm : SmN a) :
    Calls Tryz.prog 53 #[v] w fun e w' => e = .returned (.bool a.right) ∧ Below w.heap.size w w' := by
  obtain ⟨v0, v1, v2, v3, rfl, h0, h1, h2, h3⟩ := h
  obtain ⟨a0, c0, rfl⟩ := h0.1.form
  obtain ⟨a1, c1, rfl⟩ := h1.form
  obtain ⟨a2, c2, rfl⟩ := h2.form
  obtain ⟨a3, c3, rfl⟩ := h3.form
  have CN : Hid (∀ (W : World) (v : Value) (l : List Int) (high : Int), IsSl encZ W v l → l.length ≤ 1000000 → Calls Tryz.prog 73 #[v, .int .i64 0, .int .i64 high] W fun e w' => e = .returned (.bool (risG 0 high l)) ∧ w' = W) := Lib.hid fun W v l high h hn => nrising_any v l 0 high (.inl rfl) W h hn
  obtain ⟨n0, hn0⟩ : ∃ n, n = a.sets.length := ⟨_, rfl⟩
  obtain ⟨n1, hn1⟩ : ∃ n, n = a.fol.length := ⟨_, rfl⟩
  obtain ⟨n2, hn2⟩ : ∃ n, n = a.fst.length := ⟨_, rfl⟩
  obtain ⟨n3, hn3⟩ : ∃ n, n = a.lst.length := ⟨_, rfl⟩
  obtain ⟨R, hR⟩ : ∃ R, R = a.right := ⟨_, rfl⟩
  have SM := Lib.hid sm
  have m0 : n0 ≤ 1000000 := by rw [hn0]; exact sm.sets
  have m1 : n1 ≤ 1000000 := by rw [hn1]; exact sm.fol
  rw [← hn0] at h0 ⊢
  rw [← hn1] at h1 ⊢
  rw [← hn2] at h2 ⊢
  rw [← hn3] at h3 ⊢
  rw [← hR]
  have HR := Lib.hid hR
  have HN0 := Lib.hid hn0
  have HN1 := Lib.hid hn1
  have HN2 := Lib.hid hn2
  have HN3 := Lib.hid hn3
  have H0 := Lib.hid h0
  have H1 := Lib.hid h1
  have H2 := Lib.hid h2
  have H3 := Lib.hid h3
  clear h0 h1 h2 h3 hn0 hn1 hn2 hn3 hR sm
  by_cases g1 : 400 < n0
  · have RR := Lib.hid (HR.out.trans (nright_no (.inl (by rw [← HN0.out]; exact g1))))
    have g1i : (400 : Int) < n0 := by omega
    go_enter Tryz.func53, Tryz.ntmps53
    go_wp2
    go_ret
    exact ⟨by rw [RR.out]; rfl, ((Ext.refl _).alloc _).below⟩
  by_cases g2 : n1 ≠ n0
  · have RR := Lib.hid (HR.out.trans (nright_no (.inr (.inl (by rw [← HN0.out, ← HN1.out]; exact g2)))))
    have g1i : ¬ ((400 : Int) < n0) := by omega
    have g2i : ((n1 : Int) != (n0 : Int)) = true := by rw [bne_iff_ne]; omega
    go_enter Tryz.func53, Tryz.ntmps53
    go_wp2
    go_ret
    exact ⟨by rw [RR.out]; rfl, ((Ext.refl _).alloc _).below⟩
  replace g2 : n1 = n0 := Decidable.not_not.1 g2
  subst g2
  have g1i : ¬ ((400 : Int) < n1) := by omega
  have wn : IntKind.i64.wrap ((n1 : Int) - 1) = (n1 : Int) - 1 := IntWalk.i64_in _ (by omega)
  go_enter Tryz.func53, Tryz.ntmps53
  go_wp2_with fail
  skip --M1
  refine calls_named ?_
  intro V hV
  have B1 : Hid (Blk V w.heap.size #[.slice a0 n1 c0, .slice a1 n1 c1, .slice a2 n2 c2, .slice a3 n3 c3, .bool a.emp] 35) := Lib.hid (by rw [hV]; exact Blk.new w _ _)
  have X1 : Hid (Below w.heap.size w V) := Lib.hid (by rw [hV]; exact ((Ext.refl w).alloc _).below)
  clear hV
  refine (CN.out V _ a.fst _ (H2.out.below X1.out) SM.out.fst).mono ?_
  rintro e w1 ⟨rfl, hw⟩
  replace hw := hw.symm
  subst hw
  cases r1 : risG 0 ((n1 : Int) - 1) a.fst
  · have RR := Lib.hid (HR.out.trans (nright_no (.inr (.inr (.inl (by rw [← HN0.out]; exact r1))))))
    clear r1
    go_wp2
    go_ret
    exact ⟨by rw [RR.out]; rfl, X1.out⟩
  have R1 := Lib.hid r1
  clear r1
  obtain ⟨i0, i1, i2, i3, i4⟩ := B1.out.five
  go_wp2_with fail
  clear i0 i1 i2 i3 i4
  refine (CN.out V _ a.lst _ (H3.out.below X1.out) SM.out.lst).mono ?_
  rintro e w2 ⟨rfl, hw⟩
  replace hw := hw.symm
  subst hw
  cases r2 : risG 0 ((n1 : Int) - 1) a.lst
  · have RR := Lib.hid (HR.out.trans (nright_no (.inr (.inr (.inr (by rw [← HN0.out]; exact r2))))))
    clear r2
    go_wp2
    go_ret
    exact ⟨by rw [RR.out]; rfl, X1.out⟩
  have R2 := Lib.hid r2
  clear r2
  obtain ⟨i0, i1, i2, i3, i4⟩ := B1.out.five
  go_wp2
  clear i0 i1 i2 i3 i4
  skip --M2
  go_loopw [37] (fun iv wr => ∃ k : Nat, k ≤ n1 ∧ iv = .int .i64 k ∧ (∀ p, p < k → risG 0 ((n1 : Int) - 1) (a.fol.getD p []) = true ∧ a.sets.getD p 0 ≠ 0) ∧ wr = V) (fun iv _ => n1 - (intOf iv).toNat)
  case atStart => exact ⟨0, by omega, rfl, fun p hp => by omega, rfl⟩
  case round =>
    obtain ⟨k, hk, rfl, ha, rfl⟩ := hrel
    have HA := Lib.hid ha
    clear ha
    by_cases hlt : k < n1
    · have hki : (k : Int) < n1 := by omega
      obtain ⟨l, hl⟩ : ∃ l, a.fol[k]? = some l := ⟨_, List.getElem?_eq_getElem (by have := HN1.out; omega)⟩
      obtain ⟨s, hs⟩ : ∃ s, a.sets[k]? = some s := ⟨_, List.getElem?_eq_getElem (by have := HN0.out; omega)⟩
      obtain ⟨b, off, a', c', rfl, hb, cl, hsl⟩ := (H1.out.below X1.out).elem hl
      have HSL := Lib.hid hsl
      have HL := Lib.hid hl
      have HS := Lib.hid hs
      have hln : l.length ≤ 1000000 := SM.out.row l (List.mem_of_getElem? hl)
      clear hsl hl hs
      go_wp2_with fail
      clear cl
      refine (CN.out wr _ l _ HSL.out hln).mono ?_
      rintro e w3 ⟨rfl, hw⟩
      replace hw := hw.symm
      subst hw
      cases r3 : risG 0 ((n1 : Int) - 1) l
      · have RR := Lib.hid (HR.out.trans (nright_row (p := k) (by rw [← HN0.out]; exact hlt) (.inl (by rw [getD_some HL.out, ← HN0.out]; exact r3))))
        clear r3
        go_wp2
        go_ret
        exact ⟨by rw [RR.out]; rfl, X1.out⟩
      have R3 := Lib.hid r3
      clear r3
      obtain ⟨i0, i1, i2, i3, i4⟩ := B1.out.five
      obtain ⟨b2, off2, rfl, hb2, d0, d1, d2, d3⟩ := (H0.out.1.below X1.out).elem HS.out
      skip --M3
      by_cases hz : s = 0#256
      · have he : ∀ W, (Op.equalIn 10000 65 (.agg #[.int .u64 (wd s 0).toNat, .int .u64 (wd s 1).toNat, .int .u64 (wd s 2).toNat, .int .u64 (wd s 3).toNat]) (.agg #[.int .u64 0, .int .u64 0, .int .u64 0, .int .u64 0])).run Tryz.prog W = .ok true W := fun W => by
          have h1 := set_equal s 0 W
          rw [encS_zero, hz] at h1
          rw [hz]
          exact h1
        have RR := Lib.hid (HR.out.trans (nright_row (p := k) (by rw [← HN0.out]; exact hlt) (.inr (by rw [getD_some HS.out]; exact hz))))
        clear hz
        go_wp2
        go_ret
        exact ⟨by rw [RR.out]; rfl, X1.out⟩
      · have he : ∀ W, (Op.equalIn 10000 65 (.agg #[.int .u64 (wd s 0).toNat, .int .u64 (wd s 1).toNat, .int .u64 (wd s 2).toNat, .int .u64 (wd s 3).toNat]) (.agg #[.int .u64 0, .int .u64 0, .int .u64 0, .int .u64 0])).run Tryz.prog W = .ok false W := fun W => by
          have h1 := set_equal s 0 W
          rw [encS_zero, show (s == 0) = false from by simpa using hz] at h1
          exact h1
        have HZ := Lib.hid hz
        clear hz
        go_wp2
        exact ⟨⟨k + 1, by omega, by go_num, fun p hp => by
          rcases Nat.lt_or_ge p k with h3 | h3
          · exact HA.out p h3
          · obtain rfl : p = k := by omega
            rw [getD_some HL.out, getD_some HS.out]
            exact ⟨R3.out, HZ.out⟩, by trivial⟩, by simp [intOf]; omega⟩
    · have hk' : k = n1 := by omega
      have RR := Lib.hid (HR.out.trans (nright_yes (by rw [← HN0.out]; omega) (by rw [← HN0.out, ← HN1.out]) (by rw [← HN0.out]; exact R1.out) (by rw [← HN0.out]; exact R2.out) (by rw [← HN0.out]; exact fun p hp => HA.out p (by omega))))
      go_wp2
      go_ret
      exact ⟨by rw [RR.out]; rfl, X1.out⟩
end Go.Proofs.YthdnlndpmmiboaaGreatDoor
