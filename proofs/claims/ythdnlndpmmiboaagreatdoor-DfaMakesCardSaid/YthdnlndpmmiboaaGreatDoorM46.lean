/-
  The law's makes of automata of parts. Printed by wip/gen/makes18.py.
-/
import Derived.Test.YthdnlndpmmiboaaGreatDoorM33
import Derived.Test.YthdnlndpmmiboaaGreatDoorM34
import Derived.Test.YthdnlndpmmiboaaGreatDoorM41
import Derived.Test.YthdnlndpmmiboaaGreatDoorM44
import Derived.Test.YthdnlndpmmiboaaGreatDoorM45
import Derived.Test.YthdnlndpmmiboaaGreatDoorM10
import Derived.Deep.CutRange
namespace Go.Proofs.YthdnlndpmmiboaaGreatDoor
open Go Go.RowKit Go.Shelf Go.Maps
attribute [local go_sem] encS

def Eff.rnE (base : Nat) (a : NF) : Eff (Move false (fun _ => False)) where
  P := fun v => ∃ a0 n0 c0 a1 n1 c1 a2 n2 c2 a3 n3 c3, v = .agg #[.slice a0 n0 c0, .slice a1 n1 c1, .slice a2 n2 c2, .slice a3 n3 c3, .bool a.emp]
  H := fun v W => OwnRn base W v a
  wit := .agg #[.slice none 0 0, .slice none 0 0, .slice none 0 0, .slice none 0 0, .bool a.emp]
  pw := ⟨none, 0, 0, none, 0, 0, none, 0, 0, none, 0, 0, rfl⟩
  st := fun _ _ _ hm _ h => h.below hm.below
/-- A box with one part of the reference. -/
def Eff.boxP (base : Nat) (x : PT) : Eff (Move false (fun _ => False)) where
  P := fun v => ∃ b, v = .slice (some ⟨b, 0, none⟩) 1 1
  H := fun v W => ∀ b, v = .slice (some ⟨b, 0, none⟩) 1 1 → ∃ y0 y1 y2 y3, Blk W b #[y0, y1, y2, y3, .bool x.nf.emp, .bool x.beg, .int .i64 x.mark] 45 ∧ OwnRn base W (.agg #[y0, y1, y2, y3, .bool x.nf.emp]) x.nf
  wit := .slice (some ⟨0, 0, none⟩) 1 1
  pw := ⟨_, rfl⟩
  st := fun _ _ _ hm _ h b e => by
    obtain ⟨y0, y1, y2, y3, h1, h2⟩ := h b e
    exact ⟨y0, y1, y2, y3, h1.below hm.below h1.lt, h2.below hm.below⟩
theorem IsNfe.of4 {w : World} {v0 v1 v2 v3 : Value} {a : NF} (h : IsNfe w (.agg #[v0, v1, v2, v3, .bool a.emp]) a) : ∃ a0 n0 c0 a1 n1 c1 a2 n2 c2 a3 n3 c3, v0 = .slice a0 n0 c0 ∧ v1 = .slice a1 n1 c1 ∧ v2 = .slice a2 n2 c2 ∧ v3 = .slice a3 n3 c3 := by
  obtain ⟨a0, c0, a1, c1, a2, c2, a3, c3, h0, h1, h2, h3⟩ := h.form4
  exact ⟨_, _, _, _, _, _, _, _, _, _, _, _, h0, h1, h2, h3⟩
theorem row_at {w : World} {base size n cap g m : Nat} {e : TypeId} {xs : List Value} (h : w.ownsRow base e size (.slice (some ⟨g, 0, none⟩) n cap) m xs) (hn : n = m) {j : Nat} (hj : j < n * size) : (∃ u, w.cell? ⟨g, j, none⟩ = some u) ∧ w.frozen? ⟨g, j, none⟩ = false := by
  subst hn
  have hl := h.1
  have hu : xs[j]? = some (xs[j]'(by omega)) := List.getElem?_eq_getElem (by omega)
  exact ⟨⟨_, by have := h.cells (g := g) rfl _ _ hu; rw [Addr.add_mid] at this; simpa using this⟩, h.frozenAt _⟩
set_option maxRecDepth 100000 in
set_option maxHeartbeats 16000000 in
theorem makes18_any (v : Value) (ps : List PT) (hl80 : ps.length ≤ 80) (sm : ∀ x ∈ ps, SmN x.nf) (f : Int) (w : World) (h : IsPtse w v ps) (hT : ∀ W, Below w.heap.size w W → TabW W) :
    Calls Tryz.prog 6 #[v, .int .i64 f] w fun e w' => e = .returned (.bool true) ∧ Below w.heap.size w w' := by
  obtain ⟨iR, hiR, hzR0, hzR1, hzR2⟩ := info_parts Tryz.infoRP
  obtain ⟨a, cap, rfl⟩ := h.form
  obtain ⟨n, hnn⟩ : ∃ n, n = ps.length := ⟨_, rfl⟩
  rw [← hnn] at h ⊢
  have hn80 : n ≤ 80 := by omega
  have H := Lib.hid h
  have HN := Lib.hid hnn
  have SM := Lib.hid sm
  have HT := Lib.hid hT
  have CC : Hid (∀ W, Below w.heap.size w W → Calls Tryz.prog 10 #[.slice a n cap] W fun e w' => ∃ u cs, e = .returned u ∧ w'.ownsRow W.heap.size 37 7 u ps.length cs ∧ (∀ (i : Nat) (x : PT), ps[i]? = some x → cs[i * 7 + 5]? = some (.bool x.beg) ∧ cs[i * 7 + 6]? = some (.int .i64 x.mark)) ∧ Below W.heap.size W w') := Lib.hid fun W hW => clonePts_any _ ps W (h.below hW) (by omega)
  clear h hnn sm hT
  go_enter Tryz.func6, Tryz.ntmps6
  go_wp2_with fail
  refine (CC.out w (Below.refl _ _)).mono ?_
  rintro e w1 ⟨u, cs0, rfl, ho, hr, hx⟩
  have I0 := Lib.hid (MkI.start ho hr hx)
  rw [← HN.out] at ho
  obtain ⟨oa, oc, rfl⟩ := ownsRow_form ho
  clear ho hr hx CC
  go_wp2
  go_loopw [5, 20] (fun pv iv wr => ∃ (k : Nat) (xs cs : List Value), k ≤ n ∧ iv = .int .i64 k ∧ MkI w wr ps k k pv (.slice oa n oc) xs cs) (fun _ iv _ => n - (intOf iv).toNat)
  case atStart => exact ⟨0, _, _, Nat.zero_le _, rfl, I0.out⟩
  case round =>
    obtain ⟨k, xs, cs, hk, rfl, hI⟩ := hrel
    obtain ⟨wo, rfl⟩ : ∃ wo : World, wo = wr := ⟨_, rfl⟩
    have HI := Lib.hid hI
    by_cases hlt : k < n
    · have hki : (k : Int) < n := by omega
      obtain ⟨x, hxk⟩ : ∃ x, ps[k]? = some x := ⟨_, List.getElem?_eq_getElem (by have := HN.out; omega)⟩
      obtain ⟨b, off, rfl, hb, v0, v1, v2, v3, hnf, q0, q1, q2, q3, q4, q5, q6⟩ := H.out.elem hxk
      have hcell : ∀ j, wo.cell? ⟨b, j, none⟩ = w.cell? ⟨b, j, none⟩ := fun j => (Keeps.of_below hI.below fun _ h => h : Keeps (· < w.heap.size) w wo).cell (p := ⟨b, j, none⟩) hb
      replace q0 := (hcell _).trans q0
      replace q1 := (hcell _).trans q1
      replace q2 := (hcell _).trans q2
      replace q3 := (hcell _).trans q3
      replace q4 := (hcell _).trans q4
      replace q5 := (hcell _).trans q5
      replace q6 := (hcell _).trans q6
      obtain ⟨xa0, xn0, xc0, xa1, xn1, xc1, xa2, xn2, xc2, xa3, xn3, xc3, rfl, rfl, rfl, rfl⟩ := hnf.of4
      have HX := Lib.hid hxk
      have HNF := Lib.hid hnf
      have SX := Lib.hid (SM.out x (List.mem_of_getElem? hxk))
      obtain ⟨pa, pc, rfl⟩ := ownsRow_form hI.prow
      obtain ⟨g, gcap, ge, hg1, hg2⟩ : ∃ g gcap, Value.slice oa n oc = .slice (some ⟨g, 0, none⟩) n gcap ∧ w.heap.size ≤ g ∧ g < wo.heap.size := by
        obtain ⟨g, gcap, e1, e2, _⟩ := row_cells hI.orow (by have := HN.out; omega)
        have e3 : Value.slice oa n oc = .slice (some ⟨g, 0, none⟩) n gcap := by rw [e1, ← HN.out]
        exact ⟨g, gcap, e3, (hI.orow.lt g (by rw [e1]; rfl)).1, e2⟩
      cases ge
      have hwo : w.heap.size ≤ wo.heap.size := hI.below.size
      have XO := Lib.hid hI.below
      clear hxk hnf hI hcell
      simp only [Nat.add_zero] at q0
      go_wp2
      refine wp_named ?_
      intro V hV
      have BX : Hid (Blk V wo.heap.size #[.slice xa0 xn0 xc0, .slice xa1 xn1 xc1, .slice xa2 xn2 xc2, .slice xa3 xn3 xc3, .bool x.nf.emp, .bool x.beg, .int .i64 x.mark] 37) := Lib.hid (by rw [hV]; exact Blk.new wo _ _)
      have XV : Hid (Below wo.heap.size wo V) := Lib.hid (by rw [hV]; exact ((Ext.refl wo).alloc _).below)
      clear hV q0 q1 q2 q3 q4 q5 q6
      have CM : Hid (∀ W, Below V.heap.size V W → Calls Tryz.prog 11 #[.agg #[.slice xa0 xn0 xc0, .slice xa1 xn1 xc1, .slice xa2 xn2 xc2, .slice xa3 xn3 xc3, .bool x.nf.emp]] W fun e w' => ∃ u, e = .returned u ∧ OwnRn W.heap.size w' u x.nf ∧ Below W.heap.size W w') := Lib.hid fun W hW => machine_any _ x.nf W (HNF.out.below (XO.out.trans ((XV.out.trans (hW.mono XV.out.size)).mono hwo))) SX.out
      skip --M1
      refine wp_region_reg false (fun _ => False) (by kernel_rfl) 10 [0, 0, 2, 6, 0, 16, 0, 64, 254, 510, 1023, 2047] (fun i => i == 3 || i == 9) (by kernel_rfl) (fun i => if i = 3 then Eff.rnE V.heap.size x.nf else if i = 9 then Eff.boxP V.heap.size x else Eff.any _) ?_
      intro C hC hne
      have HC := Lib.hid hC
      obtain ⟨r0, r1, r2, r3, r4, r5, r6⟩ := BX.out.seven
      have f0 := regCell hC (p := ⟨wo.heap.size, 0, none⟩) BX.out.lt (fun h => h) r0
      have f1 := regCell hC (p := ⟨wo.heap.size, 1, none⟩) BX.out.lt (fun h => h) r1
      have f2 := regCell hC (p := ⟨wo.heap.size, 2, none⟩) BX.out.lt (fun h => h) r2
      have f3 := regCell hC (p := ⟨wo.heap.size, 3, none⟩) BX.out.lt (fun h => h) r3
      have f4 := regCell hC (p := ⟨wo.heap.size, 4, none⟩) BX.out.lt (fun h => h) r4
      have f5 := regCell hC (p := ⟨wo.heap.size, 5, none⟩) BX.out.lt (fun h => h) r5
      have f6 := regCell hC (p := ⟨wo.heap.size, 6, none⟩) BX.out.lt (fun h => h) r6
      clear hC r0 r1 r2 r3 r4 r5 r6
      skip --M2
      repeat (refine regStep (fun K hK => ?_); first | (refine regN rfl ?_; try go_simp; refine hK _ _ ?_; clear hK K) | (refine regF rfl rfl ?_; unfold floatAt; go_simp; refine hK _ _ ?_; clear hK K))
      refine regStep (fun K hK => ?_)
      refine regE rfl rfl (Eff.rnE V.heap.size x.nf) rfl (fun W hW hN => ?_) (fun v hv => ?_)
      · have hM := (HC.out W).1 hW
        clear hW
        go_simp
        refine effT_call ((CM.out W hM.below).mono ?_)
        rintro e w2 ⟨u, rfl, ho, hx⟩
        exact ⟨_, rfl, Move.of_below hx, ho.form, ho.base hM.size⟩
      obtain ⟨ya0, yn0, yc0, ya1, yn1, yc1, ya2, yn2, yc2, ya3, yn3, yc3, rfl⟩ := hv
      go_simp
      refine hK _ _ ?_
      clear hK K
      skip --M3
      repeat (refine regStep (fun K hK => ?_); first | (refine regN rfl ?_; try go_simp; refine hK _ _ ?_; clear hK K) | (refine regF rfl rfl ?_; unfold floatAt; go_simp; refine hK _ _ ?_; clear hK K))
      skip --M4
      refine regStep (fun K0 hK => ?_)
      refine regE rfl rfl (Eff.boxP V.heap.size x) rfl (fun W hW hN => ?_) (fun v hv => ?_)
      · have hM := (HC.out W).1 hW
        have hy : OwnRn V.heap.size W (.agg #[.slice ya0 yn0 yc0, .slice ya1 yn1 yc1, .slice ya2 yn2 yc2, .slice ya3 yn3 yc3, .bool x.nf.emp]) x.nf := hN.at 0 rfl (by kernel_rfl)
        clear hW hN hK K0
        exact effT_build1 38 45 _ rfl Tryz.underlying38 hiR hzR0 hzR1 (by decide) (by decide) #[.slice ya0 yn0 yc0, .slice ya1 yn1 yc1, .slice ya2 yn2 yc2, .slice ya3 yn3 yc3, .bool x.nf.emp, .bool x.beg, .int .i64 x.mark] rfl rfl ⟨Move.of_below ((Ext.refl _).alloc _).below, ⟨_, rfl⟩, fun b hb => by cases hb; exact ⟨_, _, _, _, Blk.new _ _ _, hy.below ((Ext.refl _).alloc _).below⟩⟩
      obtain ⟨bz, rfl⟩ := hv
      go_simp
      refine hK _ _ ?_
      clear hK K0
      skip --M5
      refine regNil (fun W hW hH => ?_)
      have hM := (HC.out W).1 hW
      have hb9 : (Eff.boxP V.heap.size x).H (.slice (some ⟨bz, 0, none⟩) 1 1) W := hH _ (List.mem_of_getElem? (show _ = some _ from rfl : _[0]? = some _))
      obtain ⟨y0, y1, y2, y3, hbz, hrn⟩ := hb9 bz rfl
      have XW := Lib.hid (XV.out.trans (hM.below.mono XV.out.size))
      have IW := Lib.hid (HI.out.next XW.out)
      have BW := Lib.hid (BX.out.below hM.below BX.out.lt)
      have HBZ := Lib.hid hbz
      have hsV : w.heap.size ≤ V.heap.size := Nat.le_trans HI.out.below.size XV.out.size
      have HRN := Lib.hid (hrn.base hsV)
      have hsW : V.heap.size ≤ W.heap.size := hM.size
      clear hM hW hH HC hne f0 f1 f2 f3 f4 f5 f6 hb9 hbz hrn CM XV BX HI
      go_wp2_with (at_builtin; refine Hid.out ?_)
      refine Lib.hid ?_
      refine wpList_append_own_at _ rfl (.tmp 25) (.tmp 34) 38 rfl w.heap.size 45 iR (.agg #[.slice none 0 0, .slice none 0 0, .slice none 0 0, .slice none 0 0, .bool false, .bool false, .int .i64 0]) 7 120 Tryz.underlying38 hiR hzR0 hzR1 hzR2 rfl (by decide) _ _ _ rfl IW.out.prow ⟨bz, 0, none⟩ 1 1 (cells7 y0 y1 y2 y3 x) rfl rfl (news_blk HBZ.out) (by
        obtain ⟨_, _, _, _, _, _, _, _, _, _, _, _, e⟩ := HRN.out.form
        cases e
        intro u hu
        simp only [cells7, List.mem_cons, List.not_mem_nil, or_false] at hu
        rcases hu with rfl | rfl | rfl | rfl | rfl | rfl | rfl <;> rfl) (by unfold maxLen; omega) (by omega) (Nat.le_trans hsV hsW) ?_
      intro v' w3 hown' hgrow hh hat
      obtain ⟨pa3, pc3, rfl⟩ := ownsRow_form hown'
      have IM := Lib.hid (IW.out.more HX.out HRN.out hgrow hown')
      have XM : Hid (Keeps (fun y => y < W.heap.size ∧ (Value.slice pa k pc).ownBlock ≠ some y) W w3) := Lib.hid (Keeps.of_grown hgrow fun y hy => ⟨hy.1, fun e => hy.2 e.symm⟩)
      have B3 := Lib.hid (BW.out.keeps XM.out ⟨BW.out.lt, fun e => row_ne BW.out IW.out.prow (by decide) _ e rfl⟩)
      have X3 := Lib.hid ((hgrow).size)
      clear hown' hgrow hh hat IW BW HBZ HRN XM
      obtain ⟨r0, r1, r2, r3, r4, r5, r6⟩ := B3.out.seven
      skip --M6
      go_wp2_with fail
      refine (ncopy_any _ x.nf w3 (HNF.out.below IM.out.below) SX.out).mono ?_
      rintro e w4 ⟨u, rfl, ho, hx⟩
      obtain ⟨za0, zn0, zc0, za1, zn1, zc1, za2, zn2, zc2, za3, zn3, zc3, rfl⟩ := ho.form
      have I4 := Lib.hid (IM.out.next hx)
      have ON := Lib.hid (ho.base (base' := w.heap.size) IM.out.below.size)
      clear ho hx IM B3
      have hg4 : g < w4.heap.size := (I4.out.orow.lt g rfl).2
      have hkl : k * 7 + 6 < n * 7 := by omega
      obtain ⟨⟨t0, s0⟩, u0⟩ := row_at I4.out.orow HN.out (j := k * 7) (by omega)
      obtain ⟨⟨t1, s1⟩, u1⟩ := row_at I4.out.orow HN.out (j := k * 7 + 1) (by omega)
      obtain ⟨⟨t2, s2⟩, u2⟩ := row_at I4.out.orow HN.out (j := k * 7 + 2) (by omega)
      obtain ⟨⟨t3, s3⟩, u3⟩ := row_at I4.out.orow HN.out (j := k * 7 + 3) (by omega)
      obtain ⟨⟨t4, s4⟩, u4⟩ := row_at I4.out.orow HN.out (j := k * 7 + 4) (by omega)
      skip --M7
      go_wp2
      skip --M8
      go_roundw
      case rel => exact ⟨k + 1, _, _, by omega, by go_num, I4.out.put HN.out HX.out ON.out⟩
      case measure => simp [intOf]; omega
    · obtain rfl : k = n := by omega
      skip --E1
      have hki : ¬ ((k : Int) < k) := by omega
      obtain ⟨pa, pc, rfl⟩ := ownsRow_form hI.prow
      have I1 : Hid (MkI w wo ps ps.length ps.length (.slice pa k pc) (.slice oa k oc) xs cs) := Lib.hid (by rw [← HN.out]; exact hI)
      have RP := Lib.hid I1.out.rps
      have PP := Lib.hid I1.out.pts
      have XO := Lib.hid hI.below
      clear hI HI I1 I0 hlt hk
      obtain ⟨mo, hmo⟩ : ∃ m, m = mostF f := ⟨_, rfl⟩
      have HMO := Lib.hid hmo
      clear hmo
      skip --E2
      skip --R0
      go_upto_region 10 with fail
      go_cut [50] from 45 to 50 (fun b wx => b = .bool (decide (250 < f ∧ f ≤ 4000)) ∧ wx = wo)
      case first =>
        by_cases e1 : 250 < f
        · by_cases e2 : f ≤ 4000
          · go_wp2_with fail
            go_meet
            exact ⟨by rw [decide_eq_true (by omega : 250 < f ∧ f ≤ 4000)], rfl⟩
          · go_wp2_with fail
            go_meet
            exact ⟨by rw [decide_eq_false (by omega : ¬ (250 < f ∧ f ≤ 4000))], rfl⟩
        · go_wp2_with fail
          go_meet
          exact ⟨by rw [decide_eq_false (by omega : ¬ (250 < f ∧ f ≤ 4000))], rfl⟩
      case rest =>
      obtain ⟨rfl, hwc⟩ := hcut
      replace hwc := hwc.symm
      subst hwc
      skip --R1
      go_upto_if 50 with fail
      go_cut [9] from 50 to 50 (fun m wx => m = .int .i64 mo ∧ wx = wo)
      case first =>
        by_cases e : 250 < f ∧ f ≤ 4000
        · have d := decide_eq_true e
          go_wp2_with fail
          go_meet
          exact ⟨by rw [HMO.out, mostF, if_pos e], rfl⟩
        · have d := decide_eq_false e
          go_wp2_with fail
          go_meet
          exact ⟨by rw [HMO.out, mostF, if_neg e], rfl⟩
      case rest =>
      obtain ⟨rfl, hwc⟩ := hcut
      replace hwc := hwc.symm
      subst hwc
      skip --R2
      go_wp2_with fail
      refine (rpOf_any (.slice pa k pc) ps mo wo RP.out SM.out).mono ?_
      rintro e w2 ⟨u, rfl, ho, hx⟩
      skip --R2a
      obtain ⟨D, hD⟩ : ∃ D, D = (ofE ps mo).1 := ⟨_, rfl⟩
      obtain ⟨cd, hcd⟩ : ∃ c, c = (ofE ps mo).2 := ⟨_, rfl⟩
      rw [← hD] at ho
      rw [← hcd]
      have SD : Hid (Sm D) := Lib.hid (by rw [hD]; exact ofE_sm _ _)
      obtain ⟨wa0, wc0, wa1, wc1, wa2, wc2, rfl⟩ := ho.form
      have RF2 := Lib.hid ho.rf
      have PP2 := Lib.hid (PP.out.below hx)
      have X2 := Lib.hid (XO.out.trans (hx.mono XO.out.size))
      have HD := Lib.hid hD
      have HCD := Lib.hid hcd
      clear ho hx hD hcd RP PP
      obtain ⟨l0, hl0⟩ : ∃ n, n = D.cl.length := ⟨_, rfl⟩
      obtain ⟨l1, hl1⟩ : ∃ n, n = D.nx.length := ⟨_, rfl⟩
      obtain ⟨l2, hl2⟩ : ∃ n, n = D.mr.length := ⟨_, rfl⟩
      rw [← hl0, ← hl1, ← hl2] at RF2 ⊢
      have HL0 := Lib.hid hl0
      have HL1 := Lib.hid hl1
      have HL2 := Lib.hid hl2
      clear hl0 hl1 hl2
      skip --R2b
      go_upto_region 13 with fail
      skip --R2c
      refine wp_named ?_
      intro V2 hV2
      have BW : Hid (Blk V2 w2.heap.size #[.slice wa0 l0 wc0, .slice wa1 l1 wc1, .slice wa2 l2 wc2] 48) := Lib.hid (by rw [hV2]; exact Blk.new _ _ _)
      have XA : Hid (Below w2.heap.size w2 V2) := Lib.hid (by rw [hV2]; exact ((Ext.refl _).alloc _).below)
      clear hV2
      have RFV := Lib.hid (RF2.out.below XA.out)
      have PPV := Lib.hid (PP2.out.below XA.out)
      have X3 := Lib.hid (X2.out.trans (XA.out.mono X2.out.size))
      have hs3 := XA.out.size
      have hs2 := X2.out.size
      clear RF2 PP2 X2 XA
      skip --R3
      go_cut [63] from 57 to 63 (fun b wx => b = .bool (decide (cd = 181 ∧ mo ≠ f)) ∧ wx = V2)
      case first =>
        by_cases e1 : cd = 181
        · have d1 : (cd == 181) = true := by rw [e1]; rfl
          by_cases e2 : mo = f
          · have d2 : (mo == f) = true := by rw [e2]; simp
            have d3 : (mo != f) = false := by rw [e2]; simp
            go_wp2_with fail
            go_meet
            exact ⟨by rw [decide_eq_false (by omega : ¬ (cd = 181 ∧ mo ≠ f))], rfl⟩
          · have d2 : (mo == f) = false := by simpa using e2
            have d3 : (mo != f) = true := by simpa using e2
            go_wp2_with fail
            go_meet
            exact ⟨by rw [decide_eq_true (by omega : cd = 181 ∧ mo ≠ f)], rfl⟩
        · have d1 : (cd == 181) = false := by simpa using e1
          go_wp2_with fail
          go_meet
          exact ⟨by rw [decide_eq_false (by omega : ¬ (cd = 181 ∧ mo ≠ f))], rfl⟩
      case rest =>
      obtain ⟨rfl, hwc⟩ := hcut
      replace hwc := hwc.symm
      subst hwc
      skip --R4
      by_cases hE : cd = 181 ∧ mo ≠ f
      · have d := decide_eq_true hE
        go_wp2
        go_ret
        exact ⟨rfl, X3.out⟩
      · have d := decide_eq_false hE
        rw [d]
        have EQ : Hid (ofE ps f = ofE ps mo) := Lib.hid (by
          rw [HMO.out]
          refine ofE_most ?_
          rw [← HMO.out, ← HCD.out]
          by_cases h1 : cd = 181
          · exact .inr (Classical.byContradiction fun h2 => hE ⟨h1, h2⟩)
          · exact .inl h1)
        go_wp2
        clear d hE
        skip --L2
        go_loopw [64] (fun iv wr => ∃ r : Nat, r ≤ 2 ∧ iv = .int .i64 r ∧ Below V2.heap.size V2 wr) (fun iv _ => 2 - (intOf iv).toNat)
        case atStart => exact ⟨0, by omega, rfl, Below.refl _ _⟩
        case round =>
          obtain ⟨r, hr, rfl, hx⟩ := hrel
          obtain ⟨wp, rfl⟩ : ∃ wp : World, wp = wr := ⟨_, rfl⟩
          have HX := Lib.hid hx
          clear hx
          by_cases hlt : r < 2
          · have hri : (r : Int) < 2 := by omega
            go_wp2_with fail
            refine (dfaOf_any (.slice oa k oc) ps f wp (PPV.out.below HX.out) SM.out (fun W hW => HT.out W (X3.out.trans ((HX.out.trans (hW.mono HX.out.size)).mono X3.out.size)))).mono ?_
            rintro e w5 ⟨u, rfl, ho, hx⟩
            rw [EQ.out, ← HD.out] at ho
            rw [EQ.out, ← HCD.out]
            obtain ⟨da0, dc0, da1, dc1, da2, dc2, rfl⟩ := ho.form
            have OD := Lib.hid ho
            have X5 := Lib.hid hx
            clear ho hx
            rw [← HL0.out, ← HL1.out, ← HL2.out] at OD ⊢
            have d1 : (cd == cd) = true := by simp
            have d2 : (cd != cd) = false := by simp
            have bw := (BW.out.below HX.out BW.out.lt).below X5.out (Nat.lt_of_lt_of_le BW.out.lt HX.out.size)
            obtain ⟨⟨b0, b1, b2⟩, _⟩ := bw.three
            have bo : ∀ o, Blk (w5.alloc o) w2.heap.size #[.slice wa0 l0 wc0, .slice wa1 l1 wc1, .slice wa2 l2 wc2] 48 := fun o => bw.alloc o
            have c0 : ∀ o, (w5.alloc o).cell? ⟨w2.heap.size, 0, none⟩ = some (.slice wa0 l0 wc0) := fun o => (bo o).cell 0
            have c1 : ∀ o, (w5.alloc o).cell? ⟨w2.heap.size, 1, none⟩ = some (.slice wa1 l1 wc1) := fun o => (bo o).cell 1
            have c2 : ∀ o, (w5.alloc o).cell? ⟨w2.heap.size, 2, none⟩ = some (.slice wa2 l2 wc2) := fun o => (bo o).cell 2
            clear bw bo b0 b1 b2
            skip --L3
            go_wp2_with fail
            refine calls_named ?_
            intro V5 hV5
            have BD : Hid (Blk V5 w5.heap.size #[.slice da0 l0 dc0, .slice da1 l1 dc1, .slice da2 l2 dc2] 29) := Lib.hid (by rw [hV5]; exact Blk.new _ _ _)
            have XB : Hid (Below w5.heap.size w5 V5) := Lib.hid (by rw [hV5]; exact ((Ext.refl _).alloc _).below)
            clear hV5 c0 c1 c2
            have OD5 := Lib.hid (OD.out.below XB.out)
            have X6 := Lib.hid (X5.out.trans (XB.out.mono X5.out.size))
            clear OD XB X5
            refine (same18_any _ _ D V5 OD5.out.df (RFV.out.below (HX.out.trans (X6.out.mono HX.out.size))) SD.out).mono ?_
            rintro e w7 ⟨rfl, hx7⟩
            have OD7 := Lib.hid (OD5.out.below hx7)
            have X7 := Lib.hid (X6.out.trans (hx7.mono X6.out.size))
            have BD7 := Lib.hid (BD.out.below hx7 BD.out.lt)
            clear hx7 OD5 X6 BD
            obtain ⟨⟨b0, b1, b2⟩, _⟩ := BD7.out.three
            skip --L4
            go_wp2_with fail
            refine (spoil18_any wp.heap.size _ D w7 OD7.out SD.out X7.out.size).mono ?_
            rintro e w8 ⟨⟨sp8, rfl⟩, hx8⟩
            have X8 := Lib.hid (HX.out.trans ((X7.out.trans hx8).mono HX.out.size))
            clear hx8 OD7 X7 BD7 b0 b1 b2
            skip --L5
            go_wp2
            go_roundw
            case rel => exact ⟨r + 1, by omega, by go_num, X8.out⟩
            case measure => simp [intOf]; omega
          · obtain rfl : r = 2 := by omega
            have hri : ¬ (((2 : Nat) : Int) < 2) := by omega
            clear RFV BW SD EQ HD HCD HL0 HL1 HL2
            skip --L6
            go_wp2
            go_loopw [86] (fun iv wr => ∃ q : Nat, q ≤ k ∧ iv = .int .i64 q ∧ Below V2.heap.size V2 wr) (fun iv _ => k - (intOf iv).toNat)
            case atStart => exact ⟨0, by omega, rfl, HX.out⟩
            case round =>
              obtain ⟨q, hq, rfl, hx⟩ := hrel
              obtain ⟨wt, rfl⟩ : ∃ wt : World, wt = wr := ⟨_, rfl⟩
              have XT := Lib.hid hx
              clear hx
              by_cases hlq : q < k
              · have hqi : (q : Int) < k := by omega
                obtain ⟨x, hxk⟩ : ∃ x, ps[q]? = some x := ⟨_, List.getElem?_eq_getElem (by have := HN.out; omega)⟩
                have XW9 := Lib.hid (X3.out.trans (XT.out.mono X3.out.size))
                obtain ⟨b, off, rfl, hb, v0, v1, v2, v3, hnf, q0, q1, q2, q3, q4, q5, q6⟩ := (H.out.below XW9.out).elem hxk
                obtain ⟨xa0, xn0, xc0, xa1, xn1, xc1, xa2, xn2, xc2, xa3, xn3, xc3, rfl, rfl, rfl, rfl⟩ := hnf.of4
                obtain ⟨g, go, o0, o1, o2, o3, rfl, hg, hno, p0, p1, p2, p3, p4, p5, p6⟩ := (PPV.out.below XT.out).elem hxk
                obtain ⟨ya0, yn0, yc0, ya1, yn1, yc1, ya2, yn2, yc2, ya3, yn3, yc3, rfl, rfl, rfl, rfl⟩ := hno.form4
                have SX := Lib.hid (SM.out x (List.mem_of_getElem? hxk))
                have HNF := Lib.hid hnf
                have HNO := Lib.hid hno.e
                clear hxk hnf hno
                simp only [Nat.add_zero] at q0
                skip --L7
                go_wp2
                refine wp_named ?_
                intro V hV
                have BX : Hid (Blk V wt.heap.size #[.slice xa0 xn0 xc0, .slice xa1 xn1 xc1, .slice xa2 xn2 xc2, .slice xa3 xn3 xc3, .bool x.nf.emp, .bool x.beg, .int .i64 x.mark] 37) := Lib.hid (by rw [hV]; exact Blk.new wt _ _)
                have XV : Hid (Below wt.heap.size wt V) := Lib.hid (by rw [hV]; exact ((Ext.refl wt).alloc _).below)
                have hkc : ∀ j, V.cell? ⟨g, j, none⟩ = wt.cell? ⟨g, j, none⟩ := fun j => (Keeps.of_below XV.out fun _ h => h : Keeps (· < wt.heap.size) wt V).cell (p := ⟨g, j, none⟩) hg
                clear hV q0 q1 q2 q3 q4 q5 q6
                have CS : Hid (∀ W, Below V.heap.size V W → Calls Tryz.prog 17 #[.agg #[.slice ya0 yn0 yc0, .slice ya1 yn1 yc1, .slice ya2 yn2 yc2, .slice ya3 yn3 yc3, .bool x.nf.emp], .agg #[.slice xa0 xn0 xc0, .slice xa1 xn1 xc1, .slice xa2 xn2 xc2, .slice xa3 xn3 xc3, .bool x.nf.emp]] W fun e w' => e = .returned (.bool true) ∧ Below W.heap.size W w') := Lib.hid fun W hW => nsame_any _ _ x.nf SX.out W (HNO.out.below (XV.out.trans (hW.mono XV.out.size))) (HNF.out.below (XV.out.trans (hW.mono XV.out.size)))
                have hgV : g < V.heap.size := Nat.lt_of_lt_of_le hg XV.out.size
                have e1 : (x.beg == x.beg) = true := by simp
                have e2 : (x.beg != x.beg) = false := by simp
                have e3 : (x.mark == x.mark) = true := by simp
                have e4 : (x.mark != x.mark) = false := by simp
                skip --L8
                refine wp_region_reg false (fun _ => False) (by kernel_rfl) 29 [0, 0, 3, 7, 15, 0, 32, 127, 255, 511, 1023, 1023, 4095, 8191, 16383, 1023, 33791, 131071, 262143, 524287, 1048575, 1048575, 4194303, 8388607, 16777215, 1048575, 34603007, 134217727, 268435455] (fun i => i == 7) (by kernel_rfl) (fun i => if i = 7 then Eff.det _ (.bool true) else Eff.any _) ?_
                intro C hC hne
                have HC := Lib.hid hC
                obtain ⟨r0, r1, r2, r3, r4, r5, r6⟩ := BX.out.seven
                have f0 := regCell hC (p := ⟨wt.heap.size, 0, none⟩) BX.out.lt (fun h => h) r0
                have f1 := regCell hC (p := ⟨wt.heap.size, 1, none⟩) BX.out.lt (fun h => h) r1
                have f2 := regCell hC (p := ⟨wt.heap.size, 2, none⟩) BX.out.lt (fun h => h) r2
                have f3 := regCell hC (p := ⟨wt.heap.size, 3, none⟩) BX.out.lt (fun h => h) r3
                have f4 := regCell hC (p := ⟨wt.heap.size, 4, none⟩) BX.out.lt (fun h => h) r4
                have f5 := regCell hC (p := ⟨wt.heap.size, 5, none⟩) BX.out.lt (fun h => h) r5
                have f6 := regCell hC (p := ⟨wt.heap.size, 6, none⟩) BX.out.lt (fun h => h) r6
                have g0 := regCell hC (p := ⟨g, go + q * 7, none⟩) hgV (fun h => h) ((hkc _).trans p0)
                have g1 := regCell hC (p := ⟨g, go + q * 7 + 1, none⟩) hgV (fun h => h) ((hkc _).trans p1)
                have g2 := regCell hC (p := ⟨g, go + q * 7 + 2, none⟩) hgV (fun h => h) ((hkc _).trans p2)
                have g3 := regCell hC (p := ⟨g, go + q * 7 + 3, none⟩) hgV (fun h => h) ((hkc _).trans p3)
                have g4 := regCell hC (p := ⟨g, go + q * 7 + 4, none⟩) hgV (fun h => h) ((hkc _).trans p4)
                have g5 := regCell hC (p := ⟨g, go + q * 7 + 5, none⟩) hgV (fun h => h) ((hkc _).trans p5)
                have g6 := regCell hC (p := ⟨g, go + q * 7 + 6, none⟩) hgV (fun h => h) ((hkc _).trans p6)
                clear hC r0 r1 r2 r3 r4 r5 r6 hkc p0 p1 p2 p3 p4 p5 p6
                skip --L9
                repeat (refine regStep (fun K hK => ?_); first | (refine regN rfl ?_; try go_simp; refine hK _ _ ?_; clear hK K) | (refine regF rfl rfl ?_; unfold floatAt; go_simp; refine hK _ _ ?_; clear hK K))
                skip --La
                refine regStep (fun K hK => ?_)
                refine regE rfl rfl (Eff.det _ (.bool true)) rfl (fun W hW hN => ?_) (fun v hv => ?_)
                · have hM := (HC.out W).1 hW
                  clear hW
                  go_simp
                  refine effT_call ((CS.out W hM.below).mono ?_)
                  rintro e w2 ⟨rfl, hx⟩
                  exact ⟨_, rfl, Move.of_below hx, rfl, trivial⟩
                replace hv : v = _ := hv
                subst hv
                go_simp
                refine hK _ _ ?_
                clear hK K
                skip --Lb
                repeat (refine regStep (fun K hK => ?_); first | (refine regN rfl ?_; try go_simp; refine hK _ _ ?_; clear hK K) | (refine regF rfl rfl ?_; unfold floatAt; go_simp; refine hK _ _ ?_; clear hK K))
                refine regNil (fun W hW hH => ?_)
                have hM := (HC.out W).1 hW
                have XZ := Lib.hid (XT.out.trans ((XV.out.trans (hM.below.mono XV.out.size)).mono XT.out.size))
                clear hM hW hH HC hne f0 f1 f2 f3 f4 f5 f6 g0 g1 g2 g3 g4 g5 g6
                skip --Lc
                go_wp2
                go_roundw
                case rel => exact ⟨q + 1, by omega, by go_num, XZ.out⟩
                case measure => simp [intOf]; omega
              · obtain rfl : q = k := by omega
                have hqi : ¬ ((q : Int) < q) := by omega
                go_wp2
                go_ret
                exact ⟨rfl, X3.out.trans (XT.out.mono X3.out.size)⟩
end Go.Proofs.YthdnlndpmmiboaaGreatDoor
