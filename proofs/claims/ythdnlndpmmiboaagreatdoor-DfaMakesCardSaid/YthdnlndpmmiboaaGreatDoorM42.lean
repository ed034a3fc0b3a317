/-
  The reference's marks of a row of state sets.
-/
import Derived.Test.YthdnlndpmmiboaaGreatDoorM30
namespace Go.Proofs.YthdnlndpmmiboaaGreatDoor
open Go Go.RowKit Go.Shelf Go.Maps

def hasB (ps : List PT) (row : List (List Int)) (k m : Nat) : Bool := ((List.zip ps row).take k).any fun y => y.1.nf.acc y.2 && (y.1.mark == (m : Int))
def hasF (ps : List PT) (row : List (List Int)) (k : Nat) (m : Nat) : Int := if hasB ps row k m then 1 else 0
theorem zip_get {ps : List PT} {row : List (List Int)} {k : Nat} {x : PT} {l : List Int} (hx : ps[k]? = some x) (hl : row[k]? = some l) : (List.zip ps row)[k]? = some (x, l) := by
  rw [List.zip, List.getElem?_zipWith, hx, hl]
theorem hasB_no {ps : List PT} {row : List (List Int)} {k m : Nat} {x : PT} {l : List Int} (hx : ps[k]? = some x) (hl : row[k]? = some l) (ha : x.nf.acc l = false) : hasB ps row (k + 1) m = hasB ps row k m := by
  unfold hasB
  rw [List.take_add_one, zip_get hx hl, Option.toList_some, List.any_append]
  simp [ha]
theorem hasB_yes {ps : List PT} {row : List (List Int)} {k m mn : Nat} {x : PT} {l : List Int} (hx : ps[k]? = some x) (hl : row[k]? = some l) (ha : x.nf.acc l = true) (hm : x.mark = mn) : hasB ps row (k + 1) m = (hasB ps row k m || decide (m = mn)) := by
  unfold hasB
  rw [List.take_add_one, zip_get hx hl, Option.toList_some, List.any_append]
  simp only [List.any_cons, List.any_nil, ha, hm, Bool.true_and, Bool.or_false]
  congr 1
  rw [Bool.eq_iff_iff, beq_iff_eq, decide_eq_true_eq]
  omega
theorem aI_hasF {ps : List PT} {row : List (List Int)} {k mn : Nat} {x : PT} {l : List Int} (hx : ps[k]? = some x) (hl : row[k]? = some l) (ha : x.nf.acc l = true) (hm : x.mark = mn) (hmn : mn < 256) : (aI (hasF ps row k)).setIfInBounds mn (.int .i64 1) = aI (hasF ps row (k + 1)) := by
  rw [aI_set _ hmn]
  refine aI_congr fun c _ => ?_
  unfold hasF
  rw [hasB_yes hx hl ha hm]
  by_cases e : c = mn
  · rw [if_pos e, decide_eq_true e, Bool.or_true, if_pos rfl]
  · rw [if_neg e, decide_eq_false e, Bool.or_false]
theorem aI_hasF_no {ps : List PT} {row : List (List Int)} {k : Nat} {x : PT} {l : List Int} (hx : ps[k]? = some x) (hl : row[k]? = some l) (ha : x.nf.acc l = false) : aI (hasF ps row (k + 1)) = aI (hasF ps row k) :=
  aI_congr fun c _ => by unfold hasF; rw [hasB_no hx hl ha]
/-- The marks below a number. -/
def mrTo (ps : List PT) (row : List (List Int)) (j : Nat) : List Int := ((List.range j).filter fun m => hasB ps row ps.length m).map Int.ofNat
theorem mrTo_len (ps : List PT) (row : List (List Int)) (j : Nat) : (mrTo ps row j).length ≤ j := by
  unfold mrTo
  rw [List.length_map]
  exact Nat.le_trans (List.length_filter_le _ _) (by simp)
theorem mrTo_yes {ps : List PT} {row : List (List Int)} {j : Nat} (h : hasB ps row ps.length j = true) : mrTo ps row (j + 1) = mrTo ps row j ++ [(j : Int)] := by
  unfold mrTo
  rw [List.range_succ, List.filter_append, List.map_append]
  simp [h]
theorem mrTo_no {ps : List PT} {row : List (List Int)} {j : Nat} (h : hasB ps row ps.length j = false) : mrTo ps row (j + 1) = mrTo ps row j := by
  unfold mrTo
  rw [List.range_succ, List.filter_append, List.map_append]
  simp [h]
theorem mrTo_all {ps : List PT} {row : List (List Int)} (h : row.length = ps.length) : mrTo ps row 256 = marksR ps row := by
  unfold mrTo marksR hasB
  have : (List.zip ps row).take ps.length = List.zip ps row := List.take_of_length_le (by simp [h])
  rw [this]
set_option maxRecDepth 100000 in
set_option maxHeartbeats 4000000 in
theorem rpMarks_any (pv lv : Value) (ps : List PT) (ok : PsOk ps) (row : List (List Int)) (hr : RowIn ps row) (w : World) (h : IsRps w pv ps) (hl : IsLL w lv row) :
    Calls Tryz.prog 52 #[pv, lv] w fun e w' => ∃ u, e = .returned u ∧ w'.ownsRow w.heap.size 3 1 u (marksR ps row).length ((marksR ps row).map encZ) ∧ Below w.heap.size w w' := by
  have hz := zeroA55
  obtain ⟨iI, hiI, hzI0, hzI1, hzI2⟩ := info_parts Tryz.infoI
  obtain ⟨pa, pc, rfl⟩ := h.form
  obtain ⟨la, lc, rfl⟩ := hl.form
  obtain ⟨n, hn⟩ : ∃ n, n = ps.length := ⟨_, rfl⟩
  have hrl := hr.1
  rw [← hn] at h hrl ⊢
  rw [hrl] at hl ⊢
  have hn64 : n ≤ 64 := by rw [hn]; exact ok.1
  have CS : Hid (∀ (i : Nat) (x : PT) (l : List Int) (v u : Value) (W : World), ps[i]? = some x → row[i]? = some l → IsRn W v x.nf → IsSl encZ W u l → Calls Tryz.prog 72 #[v, u] W fun e w' => e = .returned (.bool (x.nf.acc l)) ∧ Below W.heap.size W w') := Lib.hid fun i x l v u W hx hl hv hu => by
    have h2 := ok.2 x (List.mem_of_getElem? hx)
    have hst := hr.2 i x l hx hl
    exact rnAcc_any v u x.nf h2.1 l hst W hv hu (Nat.le_trans (st_len h2.1 hst) (by decide))
  have OK := Lib.hid ok
  have H := Lib.hid h
  have HL := Lib.hid hl
  have HN := Lib.hid hn
  have HRL := Lib.hid hrl
  have HALL := Lib.hid (mrTo_all (ps := ps) (row := row) (by rw [hrl, hn]))
  clear h hl hr hn hrl ok
  go_enter Tryz.func52, Tryz.ntmps52
  go_wp2
  clear hz
  go_loopw [6] (fun iv wr => ∃ k : Nat, k ≤ n ∧ iv = .int .i64 k ∧ Blk wr w.heap.size (aI (hasF ps row k)) 90 ∧ Below w.heap.size w wr) (fun iv _ => n - (intOf iv).toNat)
  case atStart => exact ⟨0, by omega, rfl, (by show Blk _ _ (aI fun _ => 0) _; exact Blk.new _ _ _), ((Ext.refl w).alloc _).below⟩
  case round =>
    obtain ⟨k, hk, rfl, hb, hx⟩ := hrel
    obtain ⟨wo, rfl⟩ : ∃ wo : World, wo = wr := ⟨_, rfl⟩
    have HB := Lib.hid hb
    have HX := Lib.hid hx
    clear hb hx
    by_cases hlt : k < n
    · have hki : (k : Int) < n := by omega
      obtain ⟨x, hx⟩ : ∃ x, ps[k]? = some x := ⟨_, List.getElem?_eq_getElem (by have := HN.out; omega)⟩
      obtain ⟨l, hl⟩ : ∃ l, row[k]? = some l := ⟨_, List.getElem?_eq_getElem (by have := HRL.out; omega)⟩
      obtain ⟨b, off, v0, v1, v2, v3, rfl, hb, hnf, q0, q1, q2, q3, q4, q5, q6⟩ := (H.out.below HX.out).elem hx
      obtain ⟨b2, off2, a', c', rfl, hb2, cl, hsl⟩ := (HL.out.below HX.out).elem hl
      obtain ⟨x0, n0, c0, x1, n1, c1, x2, n2, c2, x3, n3, c3, rfl, rfl, rfl, rfl⟩ := hnf.form4
      have hmk := OK.out.2 x (List.mem_of_getElem? hx)
      obtain ⟨mn, hmn⟩ : ∃ mn : Nat, x.mark = mn := ⟨x.mark.toNat, by have := hmk.2.2.1; omega⟩
      have hm256 : mn < 256 := by have := hmk.2.2.2; omega
      have hmi : (0 : Int) ≤ mn ∧ (mn : Int) < 256 := by omega
      rw [hmn] at q6
      have CS1 : Hid (∀ (v u : Value) (W : World), IsRn W v x.nf → IsSl encZ W u l → Calls Tryz.prog 72 #[v, u] W fun e w' => e = .returned (.bool (x.nf.acc l)) ∧ Below W.heap.size W w') := Lib.hid fun v u W hv hu => CS.out k x l v u W hx hl hv hu
      obtain ⟨ac, hac⟩ : ∃ z, z = x.nf.acc l := ⟨_, rfl⟩
      rw [← hac] at CS1
      have HY : Hid (ac = true → (aI (hasF ps row k)).setIfInBounds mn (.int .i64 1) = aI (hasF ps row (k + 1))) := Lib.hid fun h => aI_hasF hx hl (hac.symm.trans h) hmn hm256
      have HNO : Hid (ac = false → aI (hasF ps row (k + 1)) = aI (hasF ps row k)) := Lib.hid fun h => aI_hasF_no hx hl (hac.symm.trans h)
      have HNF := Lib.hid hnf
      have HSL := Lib.hid hsl
      obtain ⟨ln, hln⟩ : ∃ z, z = l.length := ⟨_, rfl⟩
      rw [← hln] at cl HSL
      clear hx hl hnf hsl hmn hmk hac hln
      go_wp2
      refine wp_region_reg false (fun _ => False) (by kernel_rfl) 9 [0, 0, 3, 7, 15, 0, 0, 96, 224, 511] (fun i => i == 9) (by kernel_rfl) (fun i => Eff.any _) ?_
      intro C hC hne
      have HC := Lib.hid hC
      have f0 := regCell hC (p := ⟨b, off + k * 7, none⟩) hb (fun h => h) q0
      have f1 := regCell hC (p := ⟨b, off + k * 7 + 1, none⟩) hb (fun h => h) q1
      have f2 := regCell hC (p := ⟨b, off + k * 7 + 2, none⟩) hb (fun h => h) q2
      have f3 := regCell hC (p := ⟨b, off + k * 7 + 3, none⟩) hb (fun h => h) q3
      have f4 := regCell hC (p := ⟨b, off + k * 7 + 4, none⟩) hb (fun h => h) q4
      have f5 := regCell hC (p := ⟨b2, off2 + k, none⟩) hb2 (fun h => h) cl
      clear hC cl q0 q1 q2 q3 q4
      repeat (refine regStep (fun K hK => ?_); first | (refine regN rfl ?_; try go_simp; refine hK _ _ ?_; clear hK K) | (refine regF rfl rfl ?_; unfold floatAt; go_simp; refine hK _ _ ?_; clear hK K))
      refine regNil (fun V hW hH => ?_)
      have XV := Lib.hid (((HC.out V).1 hW).below)
      clear hW hH HC hne f0 f1 f2 f3 f4 f5
      go_wp2_with fail
      refine (CS1.out _ _ V (HNF.out.below XV.out) (HSL.out.below XV.out)).mono ?_
      rintro e W ⟨rfl, hx⟩
      have XW := Lib.hid (XV.out.trans (hx.mono XV.out.size))
      have BW := Lib.hid (HB.out.below XW.out HB.out.lt)
      have i6 : W.cell? ⟨b, off + k * 7 + 6, none⟩ = some (.int .i64 mn) := ((Keeps.of_below XW.out fun _ h => h : Keeps (· < wo.heap.size) wo W).cell (p := ⟨b, off + k * 7 + 6, none⟩) hb).trans q6
      clear hx CS1 q5 q6
      cases ac with
      | true =>
        have gc := BW.out.aI hm256
        have gz := BW.out.frozen mn
        go_wp2
        go_roundw
        case rel =>
          refine ⟨k + 1, by omega, by go_num, ?_, (HX.out.trans (XW.out.mono HX.out.size)).setCell (Nat.le_refl _) _⟩
          rw [← HY.out (by trivial)]
          exact BW.out.set mn _
        case measure => simp [intOf]; omega
      | false =>
        go_wp2
        go_roundw
        case rel => exact ⟨k + 1, by omega, by go_num, by rw [HNO.out (by trivial)]; exact BW.out, HX.out.trans (XW.out.mono HX.out.size)⟩
        case measure => simp [intOf]; omega
    · obtain rfl : k = n := by omega
      have hki : ¬ ((k : Int) < k) := by omega
      clear hlt hk
      go_wp2
      go_loopw [7, 8] (fun ov iv wr => ∃ j : Nat, j ≤ 256 ∧ iv = .int .i64 j ∧ wr.ownsRow (w.heap.size + 1) 3 1 ov (mrTo ps row j).length ((mrTo ps row j).map encZ) ∧ Blk wr w.heap.size (aI (hasF ps row k)) 90 ∧ Below w.heap.size w wr) (fun _ iv _ => 256 - (intOf iv).toNat)
      case atStart => exact ⟨0, by omega, rfl, World.ownsRow_nil _ _ _ _, HB.out, HX.out⟩
      case round =>
        obtain ⟨j, hj, rfl, ho, hb, hx⟩ := hrel
        obtain ⟨wi, rfl⟩ : ∃ wo : World, wo = wr := ⟨_, rfl⟩
        obtain ⟨m, hm⟩ : ∃ z, z = (mrTo ps row j).length := ⟨_, rfl⟩
        have hmj : m ≤ j := by rw [hm]; exact mrTo_len _ _ _
        rw [← hm] at ho
        have HM := Lib.hid hm
        have HO := Lib.hid ho
        have HB2 := Lib.hid hb
        have HX2 := Lib.hid hx
        have hsz : w.heap.size < wi.heap.size := hb.lt
        clear ho hb hx hm
        by_cases hlt : j < 256
        · have hji : (j : Int) < 256 := by omega
          have hji2 : (0 : Int) ≤ j ∧ (j : Int) < 256 := by omega
          have gc := HB2.out.aI hlt
          cases hbit : hasB ps row k j with
          | true =>
            have e4 : hasF ps row k j = 1 := by unfold hasF; rw [hbit]; rfl
            rw [e4] at gc
            have HT : Hid (mrTo ps row (j + 1) = mrTo ps row j ++ [(j : Int)]) := Lib.hid (mrTo_yes (by rw [← HN.out]; exact hbit))
            clear e4 hbit
            go_wp2_with (at_builtin; refine Hid.out ?_)
            refine Lib.hid ?_
            refine wpList_append_own_at _ rfl (.tmp 39) (.tmp 41) 33 rfl (w.heap.size + 1) 3 iI (.int .i64 0) 1 8 Tryz.underlying33 hiI hzI0 hzI1 hzI2 rfl (by decide) u7 m _ rfl (HO.out.alloc _) ⟨wi.heap.size, 0, none⟩ 1 1 [.int .i64 j] rfl rfl (cell_one _ _ _) (by simp [Value.oneCell']) (by unfold maxLen; omega) (by omega) (by simp; omega) ?_
            intro v' w5 hown' hgrow hh hat
            have HO5 := Lib.hid hown'
            have X5 : Hid (Below (w.heap.size + 1) wi w5) := Lib.hid (((Below.refl _ wi).alloc (by omega) _).grown hgrow (by simp; omega) (fun c e => (HO.out.lt c e).1))
            clear hown' hgrow hh hat gc
            go_wp2
            go_roundw
            case rel =>
              refine ⟨j + 1, by omega, by go_num, ?_, HB2.out.below X5.out (by omega), HX2.out.trans (X5.out.mono (by omega))⟩
              rw [HT.out, List.length_append, List.map_append, ← HM.out]
              exact HO5.out
            case measure => simp [intOf]; omega
          | false =>
            have e4 : hasF ps row k j = 0 := by unfold hasF; rw [hbit]; rfl
            rw [e4] at gc
            have HT : Hid (mrTo ps row (j + 1) = mrTo ps row j) := Lib.hid (mrTo_no (by rw [← HN.out]; exact hbit))
            clear e4 hbit
            go_wp2
            go_roundw
            case rel =>
              refine ⟨j + 1, by omega, by go_num, ?_, HB2.out, HX2.out⟩
              rw [HT.out, ← HM.out]
              exact HO.out
            case measure => simp [intOf]; omega
        · obtain rfl : j = 256 := by omega
          go_wp2
          go_ret
          refine ⟨_, rfl, ?_, HX2.out⟩
          rw [← HALL.out, ← HM.out]
          exact ownsRow_base HO.out (by omega)
end Go.Proofs.YthdnlndpmmiboaaGreatDoor
