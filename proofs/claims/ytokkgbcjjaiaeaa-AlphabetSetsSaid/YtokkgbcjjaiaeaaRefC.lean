/-
  Walks of the reference of layer 16: Bytes.
-/
import Derived.Test.YtokkgbcjjaiaeaaRefA
namespace Go.Proofs.Ytokkgbcjjaiaeaa
open Go Go.RowKit Go.Shelf Go.Maps

def leastAt (f : Nat → Int) (x : Int) : Nat := (leastsTo f 256)[x.toNat]?.getD 0
def bytR (f : Nat → Int) (l : List Int) : List Nat × Int := if l.all (inR f) then (l.map (leastAt f), 0) else ([], 2)

/-- A list that is read, with some element, as what an effect leaves. -/
def Eff.sl {α : Type} (enc : α → Value) (l : List α) : Eff (Move false (fun _ => False)) where
  P := fun v => ∃ b off cap, v = .slice (some ⟨b, off, none⟩) l.length cap
  H := fun v W => IsSl enc W v l
  wit := .slice (some ⟨0, 0, none⟩) l.length 0
  pw := ⟨0, 0, 0, rfl⟩
  st := fun _ _ _ hm _ h => h.below hm.below
theorem IsSl.some_form {α : Type} {enc : α → Value} {w : World} {v : Value} {l : List α} (h : IsSl enc w v l) (hl : 0 < l.length) : ∃ b off cap, v = .slice (some ⟨b, off, none⟩) l.length cap := by
  rcases h with ⟨_, rfl⟩ | ⟨b, off, cap, hv, _⟩
  · simp at hl
  · exact ⟨b, off, cap, hv⟩
/-- A new box of some cells. -/
def Eff.box (n : Nat) (cs : Array Value) (t : TypeId) : Eff (Move false (fun _ => False)) where
  P := fun v => ∃ b, v = .slice (some ⟨b, 0, none⟩) n n
  H := fun v W => ∀ b, v = .slice (some ⟨b, 0, none⟩) n n → Blk W b cs t
  wit := .slice (some ⟨0, 0, none⟩) n n
  pw := ⟨0, rfl⟩
  st := fun _ _ _ hm _ h b hb => (h b hb).below hm.below (h b hb).lt

set_option maxRecDepth 100000 in
set_option maxHeartbeats 4000000 in
theorem refBytes_any (f : Nat → Int) (lv : Value) (l : List Int) (w : World) (hl : IsSl encZ w lv l) (hn : l.length ≤ 1000000) :
    Calls Try.prog 63 #[.agg (aI f), lv] w fun e w' => ∃ u, e = .returned (.tuple #[u, .int .i64 (bytR f l).2]) ∧ w'.ownsRow (w.heap.size + 1) 5 1 u (bytR f l).1.length ((bytR f l).1.map encB) ∧ Below w.heap.size w w' := by
  obtain ⟨i0, hi, hz0, hz1, hz2⟩ := info_parts Try.infoU8
  obtain ⟨sa, cap, rfl⟩ := hl.form
  have HI := Lib.hid fun (x : Int) W => refIs_any f x W
  have HLE := Lib.hid fun W => leasts_any f W
  have HB := Lib.hid hl
  obtain ⟨n, hnn⟩ : ∃ n, n = l.length := ⟨_, rfl⟩
  rw [← hnn] at hn HB ⊢
  have HNN := Lib.hid hnn
  obtain ⟨r, hr⟩ : ∃ r, r = bytR f l := ⟨_, rfl⟩
  rw [← hr]
  unfold bytR at hr
  have HR := Lib.hid hr
  clear hl hnn hr
  go_enter Try.func63, Try.ntmps63
  go_wp2
  go_loopw [7, 6] (fun i u wr => ∃ k : Nat, k ≤ n ∧ i = .int .i64 k ∧ (l.take k).all (inR f) = true ∧ wr.ownsRow (w.heap.size + 1) 5 1 u k (((l.take k).map (leastAt f)).map encB) ∧ Blk wr w.heap.size (aI f) 87 ∧ Below w.heap.size w wr) (fun i _ _ => n - (intOf i).toNat)
  case atStart =>
    exact ⟨0, by omega, rfl, rfl, World.ownsRow_nil _ _ _ _, Blk.new _ _ _, (Below.refl _ _).alloc (Nat.le_refl _) _⟩
  case round =>
    obtain ⟨k, hk, rfl, ha, ho, hb, hx⟩ := hrel
    obtain ⟨wo, rfl⟩ : ∃ wo : World, wo = wr := ⟨_, rfl⟩
    obtain ⟨ua, uc, rfl⟩ := ownsRow_form ho
    have H1 := Lib.hid hb
    have HO := Lib.hid ho
    have HX := Lib.hid hx
    have HA := Lib.hid ha
    by_cases hlt : k < n
    · obtain ⟨z, hzl⟩ : ∃ z, l[k]? = some z := ⟨_, List.getElem?_eq_getElem (by have := HNN.out; omega)⟩
      obtain ⟨g, off, rfl, hg, hcell⟩ := (HB.out.below hx).elem hzl
      have c0 : wo.cell? ⟨g, off + k, none⟩ = some (.int .i64 z) := hcell
      have hgw : g < w.heap.size := by
        obtain ⟨g', off', e', h, _⟩ := HB.out.elem (i := k) hzl
        cases e'; exact h
      have hgo : g < wo.heap.size := hg
      have HTA := Lib.hid (show (l.take (k + 1)).all (inR f) = ((l.take k).all (inR f) && inR f z) by rw [List.take_add_one, hzl]; simp)
      have HT := Lib.hid (show (l.take (k + 1)).map (leastAt f) = (l.take k).map (leastAt f) ++ [leastAt f z] by rw [List.take_add_one, hzl]; simp)
      have HZL := Lib.hid hzl
      obtain ⟨bz, hbz⟩ : ∃ b, b = inR f z := ⟨_, rfl⟩
      have HI1 : Hid (∀ W, Calls Try.prog 90 #[.agg (aI f), .int .i64 z] W fun e w' => e = .returned (.bool bz) ∧ Below W.heap.size W w') := fun W => by rw [hbz]; exact HI.out z W
      have HBZ := Lib.hid hbz
      have hki : (k : Int) < n := by omega
      clear ha ho hb hx hzl hcell hbz hg
      go_wp2
      refine wp_region_reg false (fun _ => False) (by kernel_rfl) 7 [0, 0, 0, 6, 14, 31, 63] (fun i => i == 5) (by kernel_rfl) (fun i => if i = 5 then Eff.det _ (.bool bz) else Eff.any _) ?_
      intro C hC hne
      have HC := Lib.hid hC
      have f1 := regCell hC (p := ⟨g, off + k, none⟩) hgo (fun h => h) c0
      clear hC c0
      refine regStep (fun K hK => ?_)
      refine regL rfl rfl (.agg (aI f)) (fun W hW hN => have hM := (HC.out W).1 hW; floatAt_load 87 (.tmp 2) rfl (w.heap.size) 0 rfl (aI f) _ (rangeAt_keeps H1.out.range hM.keeps ⟨H1.out.lt, fun h => h⟩) Try.underlying87 rfl (sizeA87 f)) ?_
      go_simp
      refine hK _ _ ?_
      clear hK K
      repeat (refine regStep (fun K hK => ?_); first | (refine regN rfl ?_; try go_simp; refine hK _ _ ?_; clear hK K) | (refine regF rfl rfl ?_; unfold floatAt; go_simp; refine hK _ _ ?_; clear hK K))
      refine regStep (fun K hK => ?_)
      refine regE rfl rfl (Eff.det _ (.bool bz)) rfl (fun W hW hN => ?_) (fun v hv => ?_)
      · have hM := (HC.out W).1 hW
        clear hW
        go_simp
        refine effT_call ((HI1.out _).mono ?_)
        rintro e w1 ⟨rfl, hx⟩
        exact ⟨_, rfl, Move.of_below hx, rfl, trivial⟩
      replace hv : v = _ := hv
      subst hv
      go_simp
      refine hK _ _ ?_
      clear hK K
      repeat (refine regStep (fun K hK => ?_); first | (refine regN rfl ?_; try go_simp; refine hK _ _ ?_; clear hK K) | (refine regF rfl rfl ?_; unfold floatAt; go_simp; refine hK _ _ ?_; clear hK K))
      refine regNil (fun w1 hW hH => ?_)
      have hM := (HC.out w1).1 hW
      have H1' := Lib.hid (H1.out.below hM.below H1.out.lt)
      have HO1 := Lib.hid (ownsRow_keeps HO.out hM.keeps (fun k e => ⟨(HO.out.lt k e).2, fun h => h⟩))
      have X1 := Lib.hid (HX.out.trans (hM.below.mono HX.out.size))
      have HB1 := Lib.hid (HB.out.below X1.out)
      have hs1 : wo.heap.size ≤ w1.heap.size := hM.size
      clear hM hW hH f1 HC hne H1 HO HX
      cases bz with
      | false =>
        have hall : l.all (inR f) = false := by
          rw [List.all_eq_false]
          exact ⟨z, List.mem_of_getElem? HZL.out, by rw [← HBZ.out]; simp⟩
        have hr := HR.out
        rw [hall, if_neg (by decide)] at hr
        have HRR := Lib.hid hr
        clear hr HR hall
        go_wp2
        go_ret2
        exact ⟨_, by rw [HRR.out]; rfl, by rw [HRR.out]; exact World.ownsRow_nil _ _ _ _, X1.out⟩
      | true =>
        obtain ⟨zn, m, rfl, hzm⟩ := inR_some HBZ.out.symm
        have hla : leastAt f (zn : Int) = m := by unfold leastAt; rw [Int.toNat_natCast, hzm]; rfl
        rw [hla] at HT
        have HTA' := Lib.hid (show (l.take (k + 1)).all (inR f) = true by rw [HTA.out, HA.out, ← HBZ.out]; rfl)
        have hm256 := leastsTo_lt hzm
        obtain ⟨q, hq⟩ : ∃ q, q = (leastsTo f 256).length := ⟨_, rfl⟩
        have hzq : zn < q := by rw [hq]; exact (List.getElem?_eq_some_iff.1 hzm).1
        have HQ := Lib.hid hq
        have HZM := Lib.hid hzm
        obtain ⟨g', off', e', hg', hcell'⟩ := HB1.out.elem (i := k) HZL.out
        cases e'
        have c1 : w1.cell? ⟨g, off + k, none⟩ = some (.int .i64 zn) := hcell'
        have hgo1 : g < w1.heap.size := hg'
        have hzqi : (zn : Int) < q := by omega
        have hwm : IntKind.u8.wrap (m : Int) = (m : Int) := IntWalk.u8_in _ (by omega)
        have hsb := H1'.out.lt
        clear hla hzm hq hg' hcell' HR HI HI1 HTA HA HBZ hgo
        go_wp2
        refine wp_region_reg false (fun _ => False) (by kernel_rfl) 11 [0, 0, 2, 0, 0, 24, 56, 126, 254, 510, 1022, 2047, 4095] (fun i => i == 2 || i == 10) (by kernel_rfl) (fun i => if i = 2 then Eff.sl encN (leastsTo f 256) else if i = 10 then Eff.box 1 #[encB m] 5 else Eff.any _) ?_
        intro C hC hne
        have HC := Lib.hid hC
        have f1 := regCell hC (p := ⟨g, off + k, none⟩) hgo1 (fun h => h) c1
        clear hC c1
        repeat (refine regStep (fun K hK => ?_); first | (refine regN rfl ?_; try go_simp; refine hK _ _ ?_; clear hK K) | (refine regF rfl rfl ?_; unfold floatAt; go_simp; refine hK _ _ ?_; clear hK K))
        refine regStep (fun K hK => ?_)
        refine regL rfl rfl (.agg (aI f)) (fun W hW hN => have hM := (HC.out W).1 hW; floatAt_load 87 (.tmp 2) rfl (w.heap.size) 0 rfl (aI f) _ (rangeAt_keeps H1'.out.range hM.keeps ⟨H1'.out.lt, fun h => h⟩) Try.underlying87 rfl (sizeA87 f)) ?_
        go_simp
        refine hK _ _ ?_
        clear hK K
        refine regStep (fun K hK => ?_)
        refine regE rfl rfl (Eff.sl encN (leastsTo f 256)) rfl (fun W hW hN => ?_) (fun v hv => ?_)
        · have hM := (HC.out W).1 hW
          clear hW
          go_simp
          refine effT_call ((HLE.out _).mono ?_)
          rintro e w2 ⟨u, rfl, ho, hx⟩
          exact ⟨_, rfl, Move.of_below hx, (ownsRow_sl ho rfl).some_form (by rw [← HQ.out]; omega), ownsRow_sl ho rfl⟩
        obtain ⟨lb, lo, lc, rfl⟩ := hv; rw [← HQ.out]
        go_simp
        refine hK _ _ ?_
        clear hK K
        repeat (refine regStep (fun K hK => ?_); first | (refine regN rfl ?_; try go_simp; refine hK _ _ ?_; clear hK K) | (refine regF rfl rfl ?_; unfold floatAt; go_simp; refine hK _ _ ?_; clear hK K))
        refine regStep (fun K hK => ?_)
        refine regL rfl rfl (.int .i64 (m : Int)) (fun W hW hN => ?_) ?_
        · have hsl : IsSl encN W (.slice (some ⟨lb, lo, none⟩) (leastsTo f 256).length lc) (leastsTo f 256) := by rw [HQ.out.symm]; exact hN.at 0 rfl (by kernel_rfl)
          obtain ⟨b', o', e', _, hc'⟩ := hsl.elem HZM.out
          cases e'
          have d1 : W.cell? ⟨lb, lo + zn, none⟩ = some (.int .i64 m) := hc'
          clear hsl hc' hN hW hK K
          unfold floatAt
          go_simp
        go_simp
        refine hK _ _ ?_
        clear hK K
        repeat (refine regStep (fun K hK => ?_); first | (refine regN rfl ?_; try go_simp; refine hK _ _ ?_; clear hK K) | (refine regF rfl rfl ?_; unfold floatAt; go_simp; refine hK _ _ ?_; clear hK K))
        refine regStep (fun K hK => ?_)
        refine regE rfl rfl (Eff.box 1 #[encB m] 5) rfl (fun W hW hN => ?_) (fun v hv => ?_)
        · clear hW hN hK K
          go_simp
          exact ⟨Move.ext ((Ext.refl _).alloc _), ⟨_, rfl⟩, fun b hb => by cases hb; exact Blk.new _ _ _⟩
        obtain ⟨bb, rfl⟩ := hv
        go_simp
        refine hK _ _ ?_
        clear hK K
        refine regNil (fun w2 hW hH => ?_)
        have hM := (HC.out w2).1 hW
        have hbx : Blk w2 bb #[encB m] 5 := hH _ (List.mem_cons_self ..) bb rfl
        have HBX := Lib.hid hbx
        have H2 := Lib.hid (H1'.out.below hM.below H1'.out.lt)
        have HO2 := Lib.hid (ownsRow_keeps HO1.out hM.keeps (fun k e => ⟨(HO1.out.lt k e).2, fun h => h⟩))
        have X2 := Lib.hid (X1.out.trans (hM.below.mono X1.out.size))
        have hs2 : w1.heap.size ≤ w2.heap.size := hM.size
        have hkl := HO1.out.1
        clear hM hW hH f1 HC hne H1' HO1 X1 hbx HB1 hwm
        go_wp2_with (at_builtin; refine wpList_append_own_at _ rfl _ _ 27 rfl (w.heap.size + 1) 5 i0 (.int .u8 0) 1 1 Try.underlying27 hi hz0 hz1 hz2 rfl (by decide) _ _ _ rfl HO2.out ⟨bb, 0, none⟩ 1 1 [encB m] rfl rfl (news_blk HBX.out) (by simp [Value.oneCell', encB]) (by unfold maxLen; omega) (by omega) (by omega) ?_; intro v' w3 hown' hgrow hh hat; have HO3 := Lib.hid hown'; have HG := Lib.hid hgrow; clear hown' hgrow hh hat)
        go_roundw
        case rel =>
          refine ⟨k + 1, by omega, by go_num, HTA'.out, ?_, ?_, ?_⟩
          · rw [HT.out, List.map_append]; exact HO3.out
          · exact H2.out.grown HG.out (fun e => by have := (HO2.out.lt _ e.symm).1; omega)
          · exact X2.out.grown HG.out X2.out.size (fun c e => by have := (HO2.out.lt c e).1; omega)
        case measure => simp [intOf]; omega
    · obtain rfl : k = n := by omega
      have htk : l.take k = l := by rw [HNN.out]; exact List.take_length
      rw [htk] at HO HA
      have hr := HR.out
      rw [HA.out, if_pos rfl] at hr
      have HRR := Lib.hid hr
      clear ha ho hb hx hr HR htk
      go_wp2
      go_ret2
      exact ⟨_, by rw [HRR.out]; rfl, by rw [HRR.out]; simpa [HNN.out] using HO.out, HX.out⟩
end Go.Proofs.Ytokkgbcjjaiaeaa
