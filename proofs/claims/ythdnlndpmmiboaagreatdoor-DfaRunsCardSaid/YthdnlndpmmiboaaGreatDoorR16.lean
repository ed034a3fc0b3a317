/-
  The reference's Rising and classes.
-/
import Derived.Test.YthdnlndpmmiboaaGreatDoorR15
namespace Go.Proofs.YthdnlndpmmiboaaGreatDoor
open Go Go.RowKit Go.Shelf Go.Maps

theorem risRefAt_eq {l : List Int} {k : Nat} {x : Int} (hx : l[k]? = some x) : risRefAt l k = (decide (0 ≤ x) && decide (x < 256) && (decide (k = 0) || decide (l.getD (k - 1) 0 < x))) := by
  unfold risRefAt
  rw [getD_some hx]
theorem risRef_no {l : List Int} {k : Nat} (hk : k < l.length) (h : risRefAt l k = false) : risB l = false := by
  rw [← risRef_eq, List.all_eq_false]
  exact ⟨k, by simpa using hk, by rw [h]; decide⟩
theorem risRef_yes {l : List Int} (h : ∀ k, k < l.length → risRefAt l k = true) : risB l = true := by
  rw [← risRef_eq, List.all_eq_true]
  intro k hk
  exact h k (by simpa using hk)

set_option maxRecDepth 100000 in
set_option maxHeartbeats 4000000 in
theorem rising_any (v : Value) (l : List Int) (w : World) (h : IsSl encZ w v l) (hn : l.length ≤ 1000000) :
    Calls Tryz.prog 64 #[v, .int .i64 0, .int .i64 256] w fun e w' => e = .returned (.bool (risB l)) ∧ Below w.heap.size w w' := by
  obtain ⟨a, cap, rfl⟩ := h.form
  obtain ⟨n, hnn⟩ : ∃ n, n = l.length := ⟨_, rfl⟩
  obtain ⟨r, hr⟩ : ∃ r, r = risB l := ⟨_, rfl⟩
  rw [← hnn] at h hn ⊢
  rw [← hr]
  have H := Lib.hid h
  have HN := Lib.hid hnn
  have HR := Lib.hid hr
  clear h hnn hr
  go_enter Tryz.func64, Tryz.ntmps64
  go_wp2
  go_loopw [7] (fun i wr => ∃ k : Nat, k ≤ n ∧ i = .int .i64 k ∧ (∀ i, i < k → risRefAt l i = true) ∧ Below w.heap.size w wr) (fun i _ => n - (intOf i).toNat)
  case atStart => exact ⟨0, by omega, rfl, fun i hi => by omega, Below.refl _ _⟩
  case round =>
    obtain ⟨k, hk, rfl, ha, hx⟩ := hrel
    obtain ⟨wo, rfl⟩ : ∃ wo : World, wo = wr := ⟨_, rfl⟩
    have HX := Lib.hid hx
    have HA := Lib.hid ha
    clear ha
    by_cases hlt : k < n
    · obtain ⟨x, hxl⟩ : ∃ x, l[k]? = some x := ⟨_, List.getElem?_eq_getElem (by have := HN.out; omega)⟩
      obtain ⟨g, off, rfl, hg, c1⟩ := (H.out.below hx).elem hxl
      replace c1 : wo.cell? ⟨g, off + k, none⟩ = some (.int .i64 x) := c1
      have hki : (k : Int) < n := by omega
      have HXL := Lib.hid hxl
      have HRA := Lib.hid (risRefAt_eq hxl)
      clear hxl hx
      by_cases h1 : x < 0
      · have d1 : decide (x < 0) = true := decide_eq_true h1
        have HRR := Lib.hid (HR.out.trans (risRef_no (by rw [← HN.out]; exact hlt) (by rw [HRA.out, show decide (0 ≤ x) = false from decide_eq_false (by omega)]; rfl)))
        go_wp2
        refine wp_region_reg false (fun _ => False) (by kernel_rfl) 30 [0, 0, 3, 7, 0, 31, 63, 127, 127, 511, 1023, 127, 4095, 8191, 16383, 32767, 65535, 131071, 262143, 262143, 1048575, 2097151, 262143, 262143, 8650751, 29622271, 63176703, 134217727, 268435455, 536870911] (fun i => false) (by kernel_rfl) (fun i => Eff.any _) ?_
        intro C hC hne
        have HC := Lib.hid hC
        have f1 := regCell hC (p := ⟨g, off + k, none⟩) hg (fun h => h) c1
        clear hC c1
        repeat (refine regStep (fun K hK => ?_); first | (refine regN rfl ?_; try go_simp; refine hK _ _ ?_; clear hK K) | (refine regF rfl rfl ?_; unfold floatAt; go_simp; refine hK _ _ ?_; clear hK K))
        refine regNil (fun W hW hH => ?_)
        have hM := (HC.out W).1 hW
        have XX := Lib.hid (HX.out.trans (hM.below.mono HX.out.size))
        clear hM hW hH HC HX f1
        go_wp2
        go_ret
        exact ⟨by rw [HRR.out]; rfl, XX.out⟩
      · have d1 : decide (x < 0) = false := decide_eq_false h1
        by_cases h2 : 256 ≤ x
        · have d2 : decide (256 ≤ x) = true := decide_eq_true h2
          have HRR := Lib.hid (HR.out.trans (risRef_no (by rw [← HN.out]; exact hlt) (by rw [HRA.out, show decide (x < 256) = false from decide_eq_false (by omega), Bool.and_false]; rfl)))
          go_wp2
          refine wp_region_reg false (fun _ => False) (by kernel_rfl) 30 [0, 0, 3, 7, 0, 31, 63, 127, 127, 511, 1023, 127, 4095, 8191, 16383, 32767, 65535, 131071, 262143, 262143, 1048575, 2097151, 262143, 262143, 8650751, 29622271, 63176703, 134217727, 268435455, 536870911] (fun i => false) (by kernel_rfl) (fun i => Eff.any _) ?_
          intro C hC hne
          have HC := Lib.hid hC
          have f1 := regCell hC (p := ⟨g, off + k, none⟩) hg (fun h => h) c1
          clear hC c1
          repeat (refine regStep (fun K hK => ?_); first | (refine regN rfl ?_; try go_simp; refine hK _ _ ?_; clear hK K) | (refine regF rfl rfl ?_; unfold floatAt; go_simp; refine hK _ _ ?_; clear hK K))
          refine regNil (fun W hW hH => ?_)
          have hM := (HC.out W).1 hW
          have XX := Lib.hid (HX.out.trans (hM.below.mono HX.out.size))
          clear hM hW hH HC HX f1
          go_wp2
          go_ret
          exact ⟨by rw [HRR.out]; rfl, XX.out⟩
        · have d2 : decide (256 ≤ x) = false := decide_eq_false h2
          have e1 : decide (0 ≤ x) = true := decide_eq_true (by omega)
          have e2 : decide (x < 256) = true := decide_eq_true (by omega)
          have E1 := Lib.hid e1
          have E2 := Lib.hid e2
          clear e1 e2
          rcases Nat.eq_zero_or_pos k with hk0 | hk0
          · subst hk0
            go_wp2
            refine wp_region_reg false (fun _ => False) (by kernel_rfl) 30 [0, 0, 3, 7, 0, 31, 63, 127, 127, 511, 1023, 127, 4095, 8191, 16383, 32767, 65535, 131071, 262143, 262143, 1048575, 2097151, 262143, 262143, 8650751, 29622271, 63176703, 134217727, 268435455, 536870911] (fun i => false) (by kernel_rfl) (fun i => Eff.any _) ?_
            intro C hC hne
            have HC := Lib.hid hC
            have f1 := regCell hC (p := ⟨g, off, none⟩) hg (fun h => h) c1
            clear hC c1
            repeat (refine regStep (fun K hK => ?_); first | (refine regN rfl ?_; try go_simp; refine hK _ _ ?_; clear hK K) | (refine regF rfl rfl ?_; unfold floatAt; go_simp; refine hK _ _ ?_; clear hK K))
            refine regNil (fun W hW hH => ?_)
            have hM := (HC.out W).1 hW
            have XX := Lib.hid (HX.out.trans (hM.below.mono HX.out.size))
            clear hM hW hH HC HX f1
            go_wp2
            go_roundw
            case rel => exact ⟨1, by omega, by go_num, fun i hi => by
              obtain rfl : i = 0 := by omega
              rw [HRA.out, E1.out, E2.out]; rfl, XX.out⟩
            case measure => simp [intOf]; omega
          · obtain ⟨kp, hkp⟩ : ∃ kp, k = kp + 1 := ⟨k - 1, by omega⟩
            obtain ⟨y, hyl⟩ : ∃ y, l[kp]? = some y := ⟨_, List.getElem?_eq_getElem (by have := HN.out; omega)⟩
            have c0 : wo.cell? ⟨g, off + kp, none⟩ = some (.int .i64 y) := by
              obtain ⟨g', off', e, _, c⟩ := (H.out.below HX.out).elem hyl
              cases e
              exact c
            have HGY : Hid (l.getD (k - 1) 0 = y) := Lib.hid (by rw [hkp, Nat.add_sub_cancel]; exact getD_some hyl)
            have hki2 : (kp : Int) < n := by omega
            have d5 : decide ((0 : Int) < k) = true := decide_eq_true (by omega)
            have d5' : decide (0 < k) = true := decide_eq_true hk0
            have e5 : IntKind.i64.wrap ((k : Int) - 1) = (kp : Int) := by rw [IntWalk.i64_in _ (by omega)]; omega
            have HKP := Lib.hid hkp
            clear hyl hkp
            by_cases h3 : x ≤ y
            · have d3 : decide (x ≤ y) = true := decide_eq_true h3
              have HRR := Lib.hid (HR.out.trans (risRef_no (by rw [← HN.out]; exact hlt) (by rw [HRA.out, HGY.out, show decide (y < x) = false from decide_eq_false (by omega), show decide (k = 0) = false from decide_eq_false (by omega)]; simp)))
              go_wp2
              refine wp_region_reg false (fun _ => False) (by kernel_rfl) 30 [0, 0, 3, 7, 0, 31, 63, 127, 127, 511, 1023, 127, 4095, 8191, 16383, 32767, 65535, 131071, 262143, 262143, 1048575, 2097151, 262143, 262143, 8650751, 29622271, 63176703, 134217727, 268435455, 536870911] (fun i => false) (by kernel_rfl) (fun i => Eff.any _) ?_
              intro C hC hne
              have HC := Lib.hid hC
              have f1 := regCell hC (p := ⟨g, off + k, none⟩) hg (fun h => h) c1
              have f0 := regCell hC (p := ⟨g, off + kp, none⟩) hg (fun h => h) c0
              clear hC c1 c0
              repeat (refine regStep (fun K hK => ?_); first | (refine regN rfl ?_; try go_simp; refine hK _ _ ?_; clear hK K) | (refine regF rfl rfl ?_; unfold floatAt; go_simp; refine hK _ _ ?_; clear hK K))
              refine regNil (fun W hW hH => ?_)
              have hM := (HC.out W).1 hW
              have XX := Lib.hid (HX.out.trans (hM.below.mono HX.out.size))
              clear hM hW hH HC HX f1 f0
              go_wp2
              go_ret
              exact ⟨by rw [HRR.out]; rfl, XX.out⟩
            · have d3 : decide (x ≤ y) = false := decide_eq_false h3
              go_wp2
              refine wp_region_reg false (fun _ => False) (by kernel_rfl) 30 [0, 0, 3, 7, 0, 31, 63, 127, 127, 511, 1023, 127, 4095, 8191, 16383, 32767, 65535, 131071, 262143, 262143, 1048575, 2097151, 262143, 262143, 8650751, 29622271, 63176703, 134217727, 268435455, 536870911] (fun i => false) (by kernel_rfl) (fun i => Eff.any _) ?_
              intro C hC hne
              have HC := Lib.hid hC
              have f1 := regCell hC (p := ⟨g, off + k, none⟩) hg (fun h => h) c1
              have f0 := regCell hC (p := ⟨g, off + kp, none⟩) hg (fun h => h) c0
              clear hC c1 c0
              repeat (refine regStep (fun K hK => ?_); first | (refine regN rfl ?_; try go_simp; refine hK _ _ ?_; clear hK K) | (refine regF rfl rfl ?_; unfold floatAt; go_simp; refine hK _ _ ?_; clear hK K))
              refine regNil (fun W hW hH => ?_)
              have hM := (HC.out W).1 hW
              have XX := Lib.hid (HX.out.trans (hM.below.mono HX.out.size))
              clear hM hW hH HC HX f1 f0
              go_wp2
              go_roundw
              case rel => exact ⟨k + 1, by omega, by go_num, fun i hi => by
                by_cases e : i = k
                · subst e
                  rw [HRA.out, E1.out, E2.out, HGY.out, decide_eq_true (show y < x by omega)]; simp
                · exact HA.out i (by omega), XX.out⟩
              case measure => simp [intOf]; omega
    · obtain rfl : k = n := by omega
      have HRR := Lib.hid (HR.out.trans (risRef_yes fun i hi => HA.out i (by rw [HN.out]; exact hi)))
      clear hx
      go_wp2
      go_ret
      exact ⟨by rw [HRR.out]; rfl, HX.out⟩

theorem refS_backS {g : Nat → Int} (h : ∀ c, g c = 0 ∨ g c = 1) {c : Nat} (hc : c < 256) : refS (backS g) c = g c := by
  unfold refS
  rw [backS_bit g hc]
  rcases h c with e | e <;> rw [e] <;> rfl
theorem aI_set_of {p : List BS} {f : Nat → Int} (h : Agrees p f) {n m : Nat} (hn : (leastsTo f 256)[n]? = some m) {s : BS} (hs : p[n]? = some s) : aI (refSetOf f m) = aI (refS s) := by
  obtain ⟨t, h1, h2, _⟩ := h.cls n m hn
  rw [hs] at h1
  cases h1
  refine aI_congr fun c hc => ?_
  rw [← h2, refS_backS (fun c => ?_) hc]
  unfold refSetOf
  split
  · exact .inr rfl
  · exact .inl rfl

set_option maxRecDepth 100000 in
set_option maxHeartbeats 4000000 in
theorem refClassesD_any (p : List BS) (f : Nat → Int) (ha : Agrees p f) (w : World) :
    Calls Tryz.prog 49 #[.agg (aI f)] w fun e w' => ∃ u, e = .returned u ∧ w'.ownsRow w.heap.size 91 256 u (p.map refS).length (flatA (p.map refS)) ∧ Below w.heap.size w w' := by
  obtain ⟨i0, hi, hz0, hz1, hz2⟩ := info_parts Tryz.infoA
  obtain ⟨n, hnn⟩ : ∃ n, n = p.length := ⟨_, rfl⟩
  have hn2 : (leastsTo f 256).length = n := by rw [hnn]; exact ha.len.symm
  have hn256 : n ≤ 256 := by rw [← hn2]; exact leastsTo_len f 256
  have HA := Lib.hid ha
  have HN := Lib.hid hnn
  have HN2 := Lib.hid hn2
  have HLE : Hid (∀ W, Calls Tryz.prog 48 #[.agg (aI f)] W fun e w' => ∃ a c, e = .returned (.slice a n c) ∧ Below W.heap.size W w') := fun W => (leasts_any f W).mono fun e w' ⟨u, he, ho, hx⟩ => by
    rw [hn2] at ho
    obtain ⟨a, c, rfl⟩ := ownsRow_form ho
    exact ⟨a, c, he, hx⟩
  clear ha hnn hn2
  go_enter Tryz.func49, Tryz.ntmps49
  go_wp2
  go_loopw [4, 3] (fun i u wr => ∃ k : Nat, k ≤ n ∧ i = .int .i64 k ∧ wr.ownsRow (w.heap.size + 1) 91 256 u ((p.take k).map refS).length (flatA ((p.take k).map refS)) ∧ Blk wr w.heap.size (aI f) 95 ∧ Below w.heap.size w wr) (fun i _ _ => n - (intOf i).toNat)
  case atStart => exact ⟨0, by omega, rfl, World.ownsRow_nil _ _ _ _, Blk.new _ _ _, (Below.refl _ _).alloc (Nat.le_refl _) _⟩
  case round =>
    obtain ⟨k, hk, rfl, ho, hb, hx⟩ := hrel
    obtain ⟨wo, rfl⟩ : ∃ wo : World, wo = wr := ⟨_, rfl⟩
    obtain ⟨ml, hml⟩ : ∃ m, m = ((p.take k).map refS).length := ⟨_, rfl⟩
    have hmk : ml ≤ 1000000 := by rw [hml, List.length_map, List.length_take]; omega
    rw [← hml] at ho
    have HML := Lib.hid hml
    obtain ⟨ua, uc, rfl⟩ := ownsRow_form ho
    have HO := Lib.hid ho
    have HB := Lib.hid hb
    have HX := Lib.hid hx
    clear ho hb hx hml
    go_wp2_with (refine wpList_load_w rfl 95 (.tmp 1) rfl w.heap.size rfl (aI f) _ HB.out.range Tryz.underlying95 rfl (sizeA87 f) ?_)
    refine (HLE.out _).mono ?_
    rintro e w1 ⟨a1, c1, rfl, hx⟩
    have O1 := Lib.hid (ownsRow_below HO.out hx)
    have B1 := Lib.hid (HB.out.below hx HB.out.lt)
    have X1 := Lib.hid (HX.out.trans (hx.mono HX.out.size))
    clear hx HO HB HX
    by_cases hlt : k < n
    · obtain ⟨s, hs⟩ : ∃ s, p[k]? = some s := ⟨_, List.getElem?_eq_getElem (by have := HN.out; omega)⟩
      obtain ⟨m, hm⟩ : ∃ m, (leastsTo f 256)[k]? = some m := ⟨_, List.getElem?_eq_getElem (by have := HN2.out; omega)⟩
      have hki : (k : Int) < n := by omega
      have HSet : Hid (∀ W, Calls Tryz.prog 70 #[.agg (aI f), .int .i64 k] W fun e w' => e = .returned (.agg (aI (refS s))) ∧ Below W.heap.size W w') := fun W => by
        have := refSet_any f k m hm W
        rwa [aI_set_of HA.out hm hs] at this
      have HT := Lib.hid (show (p.take (k + 1)).map refS = (p.take k).map refS ++ [refS s] by rw [List.take_add_one, hs]; simp)
      clear hs hm
      generalize (p.take k).map refS = xs at O1 HML HT
      go_wp2_with (refine wpList_load_w rfl 95 (.tmp 1) rfl w.heap.size rfl (aI f) _ B1.out.range Tryz.underlying95 rfl (sizeA87 f) ?_)
      refine (HSet.out _).mono ?_
      rintro e w2 ⟨rfl, hx⟩
      have O2 := Lib.hid (ownsRow_below O1.out hx)
      have B2 := Lib.hid (B1.out.below hx B1.out.lt)
      have X2 := Lib.hid (X1.out.trans (hx.mono X1.out.size))
      have hsz := aI_size (refS s)
      have hlt1 : w.heap.size < w2.heap.size := B2.out.lt
      clear hx O1 B1 X1
      go_wp2_with (first | (refine wpList_build1 rfl 40 91 (.tmp 15) rfl (some 16) rfl Tryz.underlying40 hi hz0 hz1 (by decide) (by decide) (aI (refS s)) rfl hsz ?_) | (at_builtin; refine wpList_append_own_at _ rfl (.tmp 12) (.tmp 16) 40 rfl (w.heap.size + 1) 91 i0 (.agg (aI fun _ => 0)) 256 2048 Tryz.underlying40 hi hz0 hz1 hz2 (aI_size _) (by decide) _ _ _ rfl (O2.out.alloc _) ⟨w2.heap.size, 0, none⟩ 1 1 (aI (refS s)).toList rfl (by rw [Array.length_toList, aI_size]) (news_blk (Blk.new _ (aI (refS s)) 91)) (by intro u hu; exact Array.all_eq_true_iff_forall_mem.1 (aI_one _) u (by simpa using hu)) (by unfold maxLen; omega) (by omega) (by simp; omega) ?_; intro v' w3 hown' hgrow hh hat; have HO2 := Lib.hid hown'; have HG := Lib.hid hgrow; clear hown' hgrow hh hat))
      go_roundw
      case rel =>
        refine ⟨k + 1, by omega, by go_num, ?_, ?_, ?_⟩
        · rw [HT.out, List.length_append, flatA_append, flatA_one, ← HML.out]; exact HO2.out
        · exact (B2.out.alloc _).grown HG.out (fun e => by have := (O2.out.lt _ e.symm).1; omega)
        · exact (X2.out.alloc X2.out.size _).grown HG.out (by have := X2.out.size; simp; omega) (fun c e => by have := (O2.out.lt c e).1; omega)
      case measure => simp [intOf]; omega
    · obtain rfl : k = n := by omega
      have htk : p.take k = p := by rw [HN.out]; exact List.take_length
      rw [htk] at O1 HML
      go_wp2
      go_ret
      refine ⟨_, rfl, ?_, X1.out⟩
      rw [← HML.out]
      exact ownsRow_base O1.out (by omega)
end Go.Proofs.YthdnlndpmmiboaaGreatDoor
