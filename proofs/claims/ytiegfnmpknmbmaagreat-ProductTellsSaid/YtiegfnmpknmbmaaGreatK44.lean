/-
  The reference's First: the way down, by the least byte each time.
-/
import Derived.Test.YtiegfnmpknmbmaaGreatK37
import Derived.Test.YtiegfnmpknmbmaaGreatK22
namespace Go.Proofs.YtiegfnmpknmbmaaGreat
open Go Go.RowKit Go.Shelf Go.Maps
attribute [local go_sem] encS

set_option maxRecDepth 100000 in
set_option maxHeartbeats 8000000 in
theorem rfirst_any (v : Value) (d : DF) (rt : Rt d) (w : World) (h : IsRf w v d) :
    Calls Tryz.prog 31 #[v] w fun e w' => ∃ u, e = .returned (.tuple #[u, .bool (firstR d).isSome]) ∧ w'.ownsRow w.heap.size 5 1 u ((firstR d).getD []).length (((firstR d).getD []).map encB) ∧ Below w.heap.size w w' := by
  obtain ⟨iB, hiB, hzB0, hzB1, hzB2⟩ := info_parts Tryz.infoU8
  have CN : Hid (∀ W, Below w.heap.size w W → Calls Tryz.prog 58 #[v] W fun e w' => ∃ g, e = .returned (.slice (some ⟨g, 0, none⟩) d.nx.length d.nx.length) ∧ w'.ownsRow W.heap.size 3 1 (.slice (some ⟨g, 0, none⟩) d.nx.length d.nx.length) d.nx.length ((farOf d).map encZ) ∧ Below W.heap.size W w') := fun W hW => near_any v d rt W (h.below hW)
  have CC : Hid (∀ c : Nat, c < 256 → ∀ W, Below w.heap.size w W → Calls Tryz.prog 44 #[v, .int .u8 c] W fun e w' => e = .returned (.int .i64 (cls d.cl c)) ∧ Below W.heap.size W w') := fun c hc W hW => refClassD_any v d rt c hc W (h.below hW)
  obtain ⟨v0, v1, v2, rfl, h0, h1, h2⟩ := h
  obtain ⟨a0, c0, rfl⟩ := h0.form
  obtain ⟨a1, c1, rfl⟩ := h1.form
  obtain ⟨a2, c2, rfl⟩ := h2.form
  obtain ⟨N, hN⟩ : ∃ n, n = d.nx.length := ⟨_, rfl⟩
  have hn4 : N ≤ 4000 := by have := rt.le; omega
  have hn1 : 0 < N := by have := rt.pos; omega
  rw [← hN] at h1 CN CC ⊢
  generalize (d.cl.map refS).length = K at *
  generalize d.mr.length = M at *
  have H1 := Lib.hid h1
  have HN := Lib.hid hN
  have RT := Lib.hid rt
  obtain ⟨z, hz⟩ : ∃ z, z = farAt d 0 := ⟨_, rfl⟩
  have hzl := far_lo rt (s := 0) (by omega)
  rw [← hz, ← hN] at hzl
  obtain ⟨hz0, hz1⟩ := hzl
  have HZ := Lib.hid hz
  clear h0 h1 h2 hN hz rt
  go_enter Tryz.func31, Tryz.ntmps31
  go_wp2_with fail
  refine calls_named ?_
  intro V hV
  have B1 : Hid (Blk V w.heap.size #[.slice a0 K c0, .slice a1 N c1, .slice a2 M c2] 42) := by rw [hV]; exact Blk.new w _ _
  have X1 : Hid (Below w.heap.size w V) := by rw [hV]; exact ((Ext.refl w).alloc _).below
  clear hV
  have hwV : w.heap.size < V.heap.size := B1.out.lt
  refine (CN.out V X1.out).mono ?_
  rintro e w2 ⟨g5, rfl, hr, hx⟩
  have hg5 := hr.lt g5 rfl
  have R2 := Lib.hid hr
  have C1 := Lib.hid (B1.out.below hx B1.out.lt)
  have X2 := Lib.hid (X1.out.trans (hx.mono X1.out.size))
  have hs2 : V.heap.size ≤ w2.heap.size := hx.size
  clear hr hx B1 X1 CN
  have kk : ∀ wr : World, Keeps (fun x => x < w2.heap.size) w2 wr → Hid (Blk wr w.heap.size #[.slice a0 K c0, .slice a1 N c1, .slice a2 M c2] 42 ∧ Below w.heap.size w wr ∧ ∀ s, s < N → wr.cell? ⟨g5, s, none⟩ = some (.int .i64 (farAt d s))) := fun wr hx => Lib.hid ⟨C1.out.keeps hx (by omega), X2.out.trans (hx.mono fun x h5 => by have : x < w.heap.size := h5; omega : Keeps (· < w.heap.size) w2 wr).below, fun s hs => (hx.cell (p := ⟨g5, s, none⟩) hg5.2).trans (intCell R2.out hs).1⟩
  have KK := Lib.hid kk
  clear kk
  have B2 := KK.out w2 (Keeps.refl _ _)
  obtain ⟨⟨b0, b1, b2⟩, _⟩ := B2.out.1.three
  have q0 := B2.out.2.2 0 hn1
  rw [← HZ.out] at q0
  by_cases hzN : z = N
  · have hfr : firstR d = none := by unfold firstR; rw [if_pos (by rw [← HZ.out, ← HN.out]; exact hzN)]
    have HF := Lib.hid hfr
    clear hfr
    have hzb : (z == (N : Int)) = true := by rw [beq_iff_eq]; exact hzN
    have HZN := Lib.hid hzN
    clear hzN
    go_wp2_with fail
    go_quiet (fail)
    go_wp2
    rw [HF.out]
    exact bodyPost_ret (v := .tuple #[.slice none 0 0, .bool false]) (by simp [results, Tryz.results31, go_sem]) rfl ⟨_, rfl, World.ownsRow_nil _ _ _ _, B2.out.2.1.trans ((ext_drewN (Ext.refl _) nq).below.mono B2.out.2.1.size)⟩
  · have hzb : (z == (N : Int)) = false := by rw [beq_eq_false_iff_ne]; exact hzN
    have hlt : farAt d 0 < d.nx.length := by rw [← HZ.out, ← HN.out]; omega
    have hfr : firstR d = some (descTo d z.toNat).2 := by unfold firstR; rw [if_neg (by rw [← HZ.out, ← HN.out]; exact hzN), HZ.out]
    have HF := Lib.hid hfr
    have DA : Hid (∀ j : Nat, (j : Int) ≤ z → (descTo d j).1 < N ∧ farAt d (descTo d j).1 = z - j ∧ (descTo d j).2.length = j ∧ ∀ c ∈ (descTo d j).2, c < 256) := Lib.hid fun j hj => by
      have := desc_at RT.out hlt j (by rw [← HZ.out]; exact hj)
      rw [← HN.out, ← HZ.out] at this
      exact this
    have hzlt : z < N := by omega
    clear hfr hlt hzN
    go_wp2_with fail
    go_quiet (fail)
    go_wp2
    clear b0 b1 b2 q0 hzb
    skip --M1
    go_loopw [5, 6] (fun ov sv wr => ∃ j : Nat, (j : Int) ≤ z ∧ sv = .int .i64 (descTo d j).1 ∧ wr.ownsRow w2.heap.size 5 1 ov j ((descTo d j).2.map encB) ∧ Keeps (fun x => x < w2.heap.size) w2 wr) (fun ov _ _ => N - lenV ov)
    case atStart => exact ⟨0, hz0, rfl, World.ownsRow_nil _ _ _ _, (Keeps.refl _ _).drewN nq⟩
    case round =>
      obtain ⟨j, hj, rfl, hov, hx⟩ := hrel
      obtain ⟨wo, rfl⟩ : ∃ wo : World, wo = wr := ⟨_, rfl⟩
      obtain ⟨hs, hfs, hlen, _⟩ := DA.out j hj
      obtain ⟨s, hse⟩ : ∃ s, s = (descTo d j).1 := ⟨_, rfl⟩
      rw [← hse] at hs hfs ⊢
      have OV := Lib.hid hov
      have HX := Lib.hid hx
      have BX := KK.out wo hx
      have hsz : w2.heap.size ≤ wo.heap.size := hx.size
      obtain ⟨oa, oc, rfl⟩ := ownsRow_form hov
      have HSE := Lib.hid hse
      have qs := BX.out.2.2 s hs
      obtain ⟨y, hy⟩ : ∃ y, y = farAt d s := ⟨_, rfl⟩
      rw [← hy] at hfs qs
      have HY := Lib.hid hy
      have hsi : (s : Int) < N := by omega
      have HFS := Lib.hid hfs
      clear hov hx hlen hse hy hfs
      by_cases hy0 : 0 < y
      · have hjz : (j : Int) < z := by have := HFS.out; omega
        have hyN : y < N := by have := HFS.out; omega
        have hsd : s < d.nx.length := by rw [← HN.out]; exact hs
        obtain ⟨hc0, hnear, hbefore⟩ := desc_near RT.out hsd (by rw [← HY.out]; exact hy0) (by rw [← HY.out, ← HN.out]; exact hyN)
        obtain ⟨cm, hcm⟩ : ∃ c, c = stepB d s := ⟨_, rfl⟩
        rw [← hcm] at hc0 hnear hbefore
        have HCM := Lib.hid hcm
        have HNE := Lib.hid hnear
        have HBE := Lib.hid hbefore
        obtain ⟨l, hl⟩ : ∃ l, d.nx[s]? = some l := ⟨_, List.getElem?_eq_getElem hsd⟩
        have HL := Lib.hid hl
        clear hcm hnear hbefore hl
        go_wp2
        skip --M2
        go_loopw [5, 6, 7] (fun ov sv cv wr => ov = .slice oa j oc ∧ sv = .int .i64 s ∧ ∃ c : Nat, c ≤ cm ∧ cv = .int .i64 c ∧ Keeps (fun x => x < wo.heap.size) wo wr) (fun _ _ cv _ => 256 - (intOf cv).toNat)
        case atStart => exact ⟨rfl, rfl, 0, Nat.zero_le _, rfl, Keeps.refl _ _⟩
        case round =>
          obtain ⟨rfl, rfl, c, hc, rfl, hx⟩ := hrel
          obtain ⟨wi, rfl⟩ : ∃ wi : World, wi = wr := ⟨_, rfl⟩
          have hx2 := HX.out.tr (hx.mono fun x (h : x < w2.heap.size) => Nat.lt_of_lt_of_le h hsz)
          have BI := KK.out wi hx2
          have HXI := Lib.hid hx
          have HX2 := Lib.hid hx2
          clear hx hx2
          obtain ⟨⟨b0, b1, b2⟩, _⟩ := BI.out.1.three
          have hcl : c < 256 := by omega
          have hci : (c : Int) < 256 := by omega
          obtain ⟨q, hq⟩ : ∃ q, q = cls d.cl c := ⟨_, rfl⟩
          have hqd : q < d.cl.length := by rw [hq]; exact RT.out.part.cls_lt hcl
          obtain ⟨t, ht⟩ : ∃ t, t = nxt d s q := ⟨_, rfl⟩
          have htn : t < N := by rw [ht, HN.out]; exact RT.out.nxt_lt hsd hqd
          have hlq : l[q]? = some (t : Int) := by have := RT.out.nxt_cell hsd hqd; rw [getD_some HL.out, ← ht] at this; exact this
          obtain ⟨bl, ol, al, cl, e1, hbl, cll, hsl⟩ := H1.out.elem HL.out
          cases e1
          obtain ⟨bz, oz, e9, hbz, cz⟩ := hsl.elem hlq
          cases e9
          replace cz : w.cell? ⟨bz, oz + q, none⟩ = some (.int .i64 t) := cz
          have hql : q < l.length := (List.getElem?_eq_some_iff.1 hlq).1
          have hqi : (q : Int) < l.length := by omega
          have hti : (t : Int) < N := by omega
          have hwr : IntKind.u8.wrap (c : Int) = c := IntWalk.u8_in _ ⟨by omega, by omega⟩
          have hnq : nearer d s c = (farAt d t == y - 1) := by unfold nearer; rw [← hq, ← ht, HY.out]
          have HNQ := Lib.hid hnq
          have HQ := Lib.hid hq
          have HT := Lib.hid ht
          have hszi : w2.heap.size ≤ wi.heap.size := HX2.out.size
          have wkeep : ∀ p : Addr, p.block < w.heap.size → wi.cell? p = w.cell? p := fun p hp => (Keeps.of_below BI.out.2.1 (R := (· < w.heap.size)) fun _ h => h).cell hp
          have qt : ∀ wr : World, Below wi.heap.size wi wr → wr.cell? ⟨g5, t, none⟩ = some (.int .i64 (farAt d t)) ∧ wr.cell? ⟨g5, s, none⟩ = some (.int .i64 y) := fun wr hb => by
            have k2 : Keeps (fun x => x < wi.heap.size) wi wr := Keeps.of_below hb fun _ h => h
            refine ⟨(k2.cell (p := ⟨g5, t, none⟩) (show g5 < wi.heap.size by omega)).trans (BI.out.2.2 t htn), (k2.cell (p := ⟨g5, s, none⟩) (show g5 < wi.heap.size by omega)).trans ?_⟩
            rw [HY.out]
            exact BI.out.2.2 s hs
          have QT := Lib.hid qt
          clear qt
          generalize l.length = ln at *
          clear hsl hlq hqd hq ht hnq qs
          go_wp2
          skip --M3
          refine wp_region_reg false (fun _ => False) (by kernel_rfl) 12 [0, 1, 0, 7, 15, 0, 0, 64, 224, 511, 1023, 2047] (fun i => i == 8) (by kernel_rfl) (fun i => if i = 8 then Eff.det _ (.int .i64 q) else Eff.any _) ?_
          intro C hC hne
          have HC := Lib.hid hC
          have hlw : w.heap.size < wi.heap.size := by omega
          have f0 := regCell hC (p := ⟨w.heap.size, 0, none⟩) hlw (fun h => h) b0
          have f1 := regCell hC (p := ⟨w.heap.size, 1, none⟩) hlw (fun h => h) b1
          have f2 := regCell hC (p := ⟨w.heap.size, 2, none⟩) hlw (fun h => h) b2
          have t1 := regCell hC (p := ⟨bl, ol + s, none⟩) (show bl < wi.heap.size by omega) (fun h => h) ((wkeep ⟨bl, ol + s, none⟩ hbl).trans cll)
          have t2 := regCell hC (p := ⟨bz, oz + q, none⟩) (show bz < wi.heap.size by omega) (fun h => h) ((wkeep ⟨bz, oz + q, none⟩ hbz).trans cz)
          clear hC b0 b1 b2 cll cz wkeep
          repeat (refine regStep (fun K hK => ?_); first | (refine regN rfl ?_; try go_simp; refine hK _ _ ?_; clear hK K) | (refine regF rfl rfl ?_; unfold floatAt; go_simp; refine hK _ _ ?_; clear hK K))
          have CQ : Hid (∀ W, Below w.heap.size w W → Calls Tryz.prog 44 #[.agg #[.slice a0 K c0, .slice (some ⟨bl, ol, none⟩) N c1, .slice a2 M c2], .int .u8 c] W fun e w' => e = .returned (.int .i64 q) ∧ Below W.heap.size W w') := Lib.hid fun W hW => by rw [HQ.out]; exact CC.out c hcl W hW
          refine regStep (fun K hK => ?_)
          refine regE rfl rfl (Eff.det _ (.int .i64 q)) rfl (fun W hW hN => ?_) (fun v hv => ?_)
          · have hM := (HC.out W).1 hW
            clear hW
            go_simp
            refine effT_call ((CQ.out _ (BI.out.2.1.trans (hM.below.mono BI.out.2.1.size))).mono ?_)
            rintro e w9 ⟨rfl, hx⟩
            exact ⟨_, rfl, Move.of_below hx, rfl, trivial⟩
          replace hv : v = _ := hv
          subst hv
          go_simp
          refine hK _ _ ?_
          clear hK K
          repeat (refine regStep (fun K hK => ?_); first | (refine regN rfl ?_; try go_simp; refine hK _ _ ?_; clear hK K) | (refine regF rfl rfl ?_; unfold floatAt; go_simp; refine hK _ _ ?_; clear hK K))
          skip --M4
          refine regNil (fun W hW hH => ?_)
          have hM := (HC.out W).1 hW
          have hb := hM.below
          obtain ⟨q1, q2⟩ := QT.out W hb
          have KW : Hid (Keeps (fun x => x < wi.heap.size) wi W) := Lib.hid (Keeps.of_below hb fun _ h => h)
          clear hM hb hW hH HC f0 f1 f2 t1 t2 QT CQ
          obtain ⟨x, hx⟩ : ∃ x, x = farAt d t := ⟨_, rfl⟩
          rw [← hx] at q1
          have HX' := Lib.hid hx
          have hxl := far_lo RT.out (s := t) (by rw [← HN.out]; exact htn)
          rw [← hx, ← HN.out] at hxl
          obtain ⟨hx0, hx1⟩ := hxl
          clear hx
          have hsW : wi.heap.size ≤ W.heap.size := KW.out.size
          go_wp2_with fail
          by_cases hcc : c = cm
          · subst hcc
            have hxy : (x == y - 1) = true := by rw [HX'.out, ← HNQ.out]; exact HNE.out
            have hxy' : x = y - 1 := by simpa using hxy
            go_quiet (fail)
            have OW := Lib.hid (ownsRow_keeps (ownsRow_keeps OV.out HXI.out fun x e => (OV.out.lt x e).2) KW.out fun x e => Nat.lt_of_lt_of_le (OV.out.lt x e).2 HXI.out.size)
            have XW : Hid (Keeps (fun x => x < w2.heap.size) w2 W) := Lib.hid (HX2.out.tr (KW.out.mono fun x (hx : x < w2.heap.size) => by omega))
            have hjb : j ≤ 4000 := by omega
            have hszW : w2.heap.size ≤ W.heap.size := XW.out.size
            have OWd : Hid ((W.drewN nq).ownsRow w2.heap.size 5 1 (.slice oa j oc) j ((descTo d j).2.map encB)) := Lib.hid OW.out
            go_wp2_with (at_builtin; refine wpList_append_own_at _ rfl (.tmp 48) (.tmp 51) 47 rfl w2.heap.size 5 iB (.int .u8 0) 1 1 Tryz.underlying47 hiB hzB0 hzB1 hzB2 rfl (by decide) _ _ _ rfl (OWd.out.alloc _) ⟨_, 0, none⟩ 1 1 [.int .u8 c] rfl rfl (news_blk (Blk.new _ _ _)) (by intro u hu; simp at hu; rw [hu]; rfl) (by unfold maxLen; omega) (by omega) (by simp; omega) ?_; intro v' w9 hown' hgrow hh hat; refine Hid.out ?_)
            refine Lib.hid ?_
            have HG := Lib.hid hgrow
            have HO9 := Lib.hid hown'
            obtain ⟨va, vc, rfl⟩ := ownsRow_form hown'
            have K9 : Hid (Keeps (fun x => x < w2.heap.size) w2 w9) := Lib.hid (((XW.out.drewN nq).alloc (fun x (hx : x < w2.heap.size) => by show x < W.heap.size; omega) _).tr (Keeps.of_grown HG.out fun x hx => ⟨by have : x < w2.heap.size := hx; simp; omega, fun e => by have := (OWd.out.lt x e.symm).1; have : x < w2.heap.size := hx; omega⟩))
            clear hgrow hown' hh hat
            go_wp2
            go_roundw
            case rel =>
              have hst : stepB d (descTo d j).1 = c := by rw [← HSE.out]; exact HCM.out.symm
              refine ⟨j + 1, by omega, ?_, ?_, K9.out⟩
              · show _ = Value.int .i64 (nxt d (descTo d j).1 (cls d.cl (stepB d (descTo d j).1)) : Nat)
                rw [hst, ← HSE.out, ← HQ.out, ← HT.out]
              · show w9.ownsRow _ _ _ _ _ (((descTo d j).2 ++ [stepB d (descTo d j).1]).map encB)
                rw [hst, List.map_append]
                exact HO9.out
            case measure => simp [lenV]; omega
          · have hxy : (x == y - 1) = false := by rw [HX'.out, ← HNQ.out]; exact HBE.out c (by omega)
            have hxy' : ¬ x = y - 1 := by simpa using hxy
            go_quiet (fail)
            go_wp2
            go_roundw
            case rel => exact ⟨rfl, rfl, c + 1, by omega, by go_num, (HXI.out.tr (KW.out.mono fun x (hx : x < wo.heap.size) => Nat.lt_of_lt_of_le hx HXI.out.size)).drewN nq⟩
            case measure => simp [intOf]; omega
      · have hjz : (j : Int) = z := by have := HFS.out; omega
        have hyz : y = 0 := by have := HFS.out; omega
        subst hyz
        have hj2 : z.toNat = j := by omega
        rw [hj2] at HF
        go_wp2
        refine bodyPost_ret (v := .tuple #[.slice oa j oc, .bool true]) (by simp [results, Tryz.results31, go_sem]) rfl ?_
        rw [HF.out]
        obtain ⟨_, _, hlen, _⟩ := DA.out j hj
        refine ⟨_, rfl, ?_, BX.out.2.1⟩
        show wo.ownsRow _ _ _ _ (descTo d j).2.length ((descTo d j).2.map encB)
        rw [hlen]
        exact ownsRow_base OV.out (by omega)
end Go.Proofs.YtiegfnmpknmbmaaGreat
