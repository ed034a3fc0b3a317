/-
  The reference's Trim. Printed by wip/gen/rtrim.py.
-/
import Derived.Test.YthdnlndpmmiboaaGreatDoorR34
import Derived.Test.YthdnlndpmmiboaaGreatDoorR35
import Derived.Test.YthdnlndpmmiboaaGreatDoorR11
namespace Go.Proofs.YthdnlndpmmiboaaGreatDoor
open Go Go.RowKit Go.Shelf Go.Maps
attribute [local go_sem] encS

/-- Heads of rows that lie where they lay. -/
def Heads (w : World) (ms : List Value) (ll : List (List Int)) : Prop := ∀ (j : Nat) (u : Value) (l : List Int), ms[j]? = some u → ll[j]? = some l → IsSl encZ w u l
theorem Heads.more {w : World} {ms : List Value} {ll : List (List Int)} {u : Value} {l : List Int} (h : Heads w ms ll) (hl : ms.length = ll.length) (hu : IsSl encZ w u l) : Heads w (ms ++ [u]) (ll ++ [l]) := fun j x y hx hy => by
  by_cases e : j < ms.length
  · rw [List.getElem?_append_left e] at hx
    rw [List.getElem?_append_left (by omega)] at hy
    exact h j x y hx hy
  · rw [List.getElem?_append_right (by omega)] at hx
    rw [List.getElem?_append_right (by omega)] at hy
    rw [hl] at hx
    cases hj : j - ll.length with
    | zero => rw [hj] at hx hy; cases hx; cases hy; exact hu
    | succ k => rw [hj] at hx; simp at hx
set_option maxRecDepth 100000 in
set_option maxHeartbeats 16000000 in
theorem refTrim18_any (v : Value) (d : DF) (rt : Rt d) (w : World) (h : IsRf w v d) :
    Calls Tryz.prog 40 #[v] w fun e w' => ∃ u, e = .returned u ∧ IsRf w' u (trimR d) ∧ Below w.heap.size w w' := by
  obtain ⟨iI, hiI, hzI0, hzI1, hzI2⟩ := info_parts Tryz.infoI
  obtain ⟨iL, hiL, hzL0, hzL1, hzL2⟩ := info_parts Tryz.infoL
  have CR : Hid (∀ W, Below w.heap.size w W → Calls Tryz.prog 39 #[v] W fun e w' => ∃ u, e = .returned u ∧ w'.ownsRow W.heap.size 3 1 u (reachD d).length ((reachD d).map encN) ∧ Below W.heap.size W w') := Lib.hid fun W hW => refReached18_any v d rt W (h.below hW)
  obtain ⟨v0, v1, v2, rfl, h0, h1, h2⟩ := h
  obtain ⟨a0, c0, rfl⟩ := h0.form
  obtain ⟨a1, c1, rfl⟩ := h1.form
  obtain ⟨a2, c2, rfl⟩ := h2.form
  have hmr := rt.mr
  rw [hmr] at h2 CR ⊢
  rw [List.length_map] at h0 CR ⊢
  obtain ⟨n, hn⟩ : ∃ n, n = d.nx.length := ⟨_, rfl⟩
  obtain ⟨K, hK⟩ : ∃ n, n = d.cl.length := ⟨_, rfl⟩
  obtain ⟨L, hL⟩ : ∃ L, L = reachD d := ⟨_, rfl⟩
  obtain ⟨m, hm⟩ : ∃ m, m = L.length := ⟨_, rfl⟩
  rw [← hL, ← hm] at CR
  have IL : Hid (InN n L) := Lib.hid (by rw [hL, hn]; exact reachD_in rt)
  have hn4 : n ≤ 4000 := by have := rt.le; omega
  have hn1 : 1 ≤ n := by have := rt.pos; omega
  have hK2 : K ≤ 256 := by have := rt.clle; omega
  have hmn : m ≤ n := by rw [hm]; exact IL.out.len
  rw [← hn] at h1 h2 CR ⊢
  rw [← hK] at h0 CR ⊢
  have HMK : Hid (∀ s, s < n → ∃ (b : Nat) (off : Nat) (ad : Option Addr) (cp : Nat), a2 = some ⟨b, off, none⟩ ∧ b < w.heap.size ∧ w.cell? ⟨b, off + s, none⟩ = some (.slice ad (d.mr.getD s []).length cp) ∧ IsSl encZ w (.slice ad (d.mr.getD s []).length cp) (d.mr.getD s [])) := Lib.hid fun s hs => by
    have hrow : d.mr[s]? = some (d.mr.getD s []) := by
      rw [List.getD_eq_getElem?_getD, List.getElem?_eq_getElem (by rw [hmr, ← hn]; exact hs)]; rfl
    obtain ⟨b, off, a', c', e1, e2, e3, e4⟩ := h2.elem hrow
    exact ⟨b, off, a', c', e1, e2, e3, e4⟩
  have HNX : Hid (∀ s, s < n → ∃ (b : Nat) (off : Nat) (ad : Option Addr) (cp : Nat), a1 = some ⟨b, off, none⟩ ∧ b < w.heap.size ∧ w.cell? ⟨b, off + s, none⟩ = some (.slice ad K cp) ∧ IsSl encZ w (.slice ad K cp) (d.nx.getD s [])) := Lib.hid fun s hs => by
    have hrow : d.nx[s]? = some (d.nx.getD s []) := by
      rw [List.getD_eq_getElem?_getD, List.getElem?_eq_getElem (by rw [← hn]; exact hs)]; rfl
    obtain ⟨b, off, a', c', e1, e2, e3, e4⟩ := h1.elem hrow
    rw [rt.len s (by rw [← hn]; exact hs), ← hK] at e3 e4
    exact ⟨b, off, a', c', e1, e2, e3, e4⟩
  have H0 := Lib.hid h0
  have HN := Lib.hid hn
  have HK := Lib.hid hK
  have HL := Lib.hid hL
  have HM := Lib.hid hm
  have RT := Lib.hid rt
  have HZ : Hid (∀ s, s ∈ L → ∀ j, j < K → ∃ t : Nat, t < n ∧ t ∈ L ∧ (d.nx.getD s [])[j]? = some (t : Int) ∧ (nxL d s)[j]? = some t) := Lib.hid fun s hs j hj => by
    have hsn := IL.out.lt s hs
    obtain ⟨t, e1, e2, e3⟩ := nxL_at rt (s := s) (k := j) (by rw [← hn]; exact hsn) (by rw [← hK]; exact hj)
    exact ⟨t, by rw [hn]; exact e1, by rw [hL] at hs ⊢; exact reach_closed rt hs (List.mem_of_getElem? e3), e2, e3⟩
  have HNL : Hid (∀ s, s < n → (nxL d s).length = K) := Lib.hid fun s hs => by rw [hK]; exact nxL_len rt (by rw [← hn]; exact hs)
  clear h0 h1 h2 hn hK hmr rt hL hm
  go_enter Tryz.func40, Tryz.ntmps40
  go_wp2_with fail
  refine calls_named ?_
  intro V hV
  have B1 : Hid (Blk V w.heap.size #[.slice a0 K c0, .slice a1 n c1, .slice a2 n c2] 48) := Lib.hid (by rw [hV]; exact (Blk.new w _ _).alloc _)
  have R1 : Hid (Blk V (w.heap.size + 1) #[.slice none 0 0, .slice none 0 0, .slice none 0 0] 48) := Lib.hid (by rw [hV]; exact (Blk.new (w.alloc _) _ _).at (by simp))
  have X1 : Hid (Below w.heap.size w V) := Lib.hid (by rw [hV]; exact (((Ext.refl w).alloc _).alloc _).below)
  clear hV
  have hsV : w.heap.size + 1 < V.heap.size := R1.out.lt
  refine (CR.out V X1.out).mono ?_
  rintro e w2 ⟨u, rfl, ho, hx⟩
  obtain ⟨la, lc, rfl⟩ := ownsRow_form ho
  have LR := Lib.hid ho
  have B2 := Lib.hid (B1.out.below hx B1.out.lt)
  have R2 := Lib.hid (R1.out.below hx R1.out.lt)
  have X2 := Lib.hid (X1.out.trans (hx.mono X1.out.size))
  have hs2 : V.heap.size ≤ w2.heap.size := hx.size
  have L1 : Hid (∀ x, (Value.slice la m lc).ownBlock = some x → x < w2.heap.size ∧ V.heap.size ≤ x) := Lib.hid fun x e => ⟨(ho.lt x e).2, (ho.lt x e).1⟩
  clear ho hx CR B1 R1 X1
  obtain ⟨⟨k0, k1, k2⟩, _⟩ := B2.out.three
  skip --A1
  go_wp2
  refine wp_named ?_
  intro V6 hV6
  have D6 : Hid (Blk V6 w2.heap.size #[.slice a0 K c0, .slice none 0 0, .slice none 0 0] 48) := Lib.hid (by rw [hV6]; exact Blk.new _ _ _)
  have hb6 : Below w2.heap.size w2 V6 := by rw [hV6]; exact ((Ext.refl _).alloc _).below
  clear hV6 k0 k1 k2
  have hs6 : w2.heap.size < V6.heap.size := D6.out.lt
  have B6 := Lib.hid (B2.out.below hb6 B2.out.lt)
  have R6 := Lib.hid (R2.out.below hb6 R2.out.lt)
  have X6 := Lib.hid (X2.out.trans (hb6.mono X2.out.size))
  have L6 := Lib.hid (ownsRow_below LR.out hb6)
  clear hb6 B2 R2 X2 LR
  skip --C3
  go_loopw [5] (fun kv wr => ∃ (k : Nat) (nx mk : Value) (ms : List Value), k ≤ m ∧ kv = .int .i64 k ∧ Blk wr w2.heap.size #[.slice a0 K c0, nx, mk] 48 ∧ OwnLL V6.heap.size wr nx ((L.take k).map (rowR d)) ∧ wr.ownsRow V6.heap.size 33 1 mk k ms ∧ Heads w ms ((L.take k).map fun s => d.mr.getD s []) ∧ Far nx mk ∧ Keeps (fun x => x < V6.heap.size ∧ x ≠ w2.heap.size) V6 wr) (fun kv _ => m - (intOf kv).toNat)
  case atStart => exact ⟨0, _, _, [], Nat.zero_le _, rfl, D6.out, OwnLL.nil _ _, World.ownsRow_nil _ _ _ _, fun j u l h => by simp at h, .inl rfl, Keeps.refl _ _⟩
  case round =>
    obtain ⟨k, nx, mk, ms, hk, rfl, hb, hnx, hmk, hhd, hfar, hx⟩ := hrel
    obtain ⟨wo2, rfl⟩ : ∃ wo2 : World, wo2 = wr := ⟨_, rfl⟩
    have HB9 := Lib.hid hb
    have HNXL := Lib.hid hnx
    have HMKL := Lib.hid hmk
    have HHD := Lib.hid hhd
    have FAR := Lib.hid hfar
    have HX := Lib.hid hx
    have LO := Lib.hid (ownsRow_keeps L6.out hx fun x e => by have := L1.out x e; exact ⟨by omega, by omega⟩)
    have BO := Lib.hid (B6.out.keeps hx ⟨by omega, by omega⟩)
    have RO := Lib.hid (R6.out.keeps hx ⟨by omega, by omega⟩)
    have XO : Hid (Below w.heap.size w wo2) := Lib.hid (X6.out.trans (hx.mono fun x (hx : x < w.heap.size) => ⟨by omega, by omega⟩ : Keeps (· < w.heap.size) V6 wo2).below)
    have hso2 : V6.heap.size ≤ wo2.heap.size := hx.size
    clear hb hnx hmk hhd hfar hx
    by_cases hlt : k < m
    · obtain ⟨s, hs⟩ : ∃ s, L[k]? = some s := ⟨_, List.getElem?_eq_getElem (by have := HM.out; omega)⟩
      have hsL := List.mem_of_getElem? hs
      have hsn : s < n := IL.out.lt s hsL
      obtain ⟨b1, off1, ad1, cp1, rfl, hb1, hc1, hsl1⟩ := HNX.out s hsn
      have HC1 := Lib.hid hc1
      have HSL := Lib.hid hsl1
      have htk : L.take (k + 1) = L.take k ++ [s] := by rw [List.take_add_one, hs]; rfl
      have HTK := Lib.hid htk
      have HSM := Lib.hid hsL
      have HSK := Lib.hid hs
      have hki : (k : Int) < m := by omega
      have hsi : (s : Int) < n := by omega
      clear hs hsl1 htk hsL hc1
      skip --D1
      go_wp2
      skip --D2
      go_loopw [6, 7] (fun tv jv wr => ∃ j : Nat, j ≤ K ∧ jv = .int .i64 j ∧ wr.ownsRow wo2.heap.size 3 1 tv j (((nxL d s).take j).map fun t => encN (L.idxOf t)) ∧ Keeps (fun x => x < wo2.heap.size) wo2 wr) (fun _ jv _ => K - (intOf jv).toNat)
      case atStart => exact ⟨0, Nat.zero_le _, rfl, World.ownsRow_nil _ _ _ _, Keeps.refl _ _⟩
      case round =>
        obtain ⟨j, hj, rfl, ht, hx⟩ := hrel
        obtain ⟨wi, rfl⟩ : ∃ wi : World, wi = wr := ⟨_, rfl⟩
        have HT := Lib.hid ht
        have KI := Lib.hid hx
        have XI : Hid (Below w.heap.size w wi) := Lib.hid (XO.out.trans (hx.mono fun x (hx : x < w.heap.size) => by show x < wo2.heap.size; omega : Keeps (· < w.heap.size) wo2 wi).below)
        have hsi2 : wo2.heap.size ≤ wi.heap.size := hx.size
        have BI := Lib.hid (BO.out.keeps hx (by show w.heap.size < wo2.heap.size; omega))
        clear ht hx
        obtain ⟨ta, tc, rfl⟩ := ownsRow_form HT.out
        obtain ⟨⟨y0, y1, y2⟩, _⟩ := BI.out.three
        by_cases hjl : j < K
        · obtain ⟨t, htn, htL, hz, htl⟩ := HZ.out s HSM.out j hjl
          have LI := Lib.hid (ownsRow_keeps LO.out KI.out fun x e => (LO.out.lt x e).2)
          have hji : (j : Int) < K := by omega
          have hti : (t : Int) < n := by omega
          have htk2 : (((nxL d s).take (j + 1)).map fun t => encN (L.idxOf t)) = (((nxL d s).take j).map fun t => encN (L.idxOf t)) ++ [encN (L.idxOf t)] := by rw [List.take_add_one, htl]; simp
          have HT2 := Lib.hid htk2
          obtain ⟨ix, hix⟩ : ∃ ix, ix = L.idxOf t := ⟨_, rfl⟩
          have hixm : ix < m := by rw [hix, HM.out]; exact List.idxOf_lt_length_of_mem htL
          have HIX : Hid (∀ p y, L[p]? = some y → (y = t ↔ p = ix)) := Lib.hid fun p y hy => by
            constructor
            · intro e
              rw [hix, ← e, idxOf_at8 IL.out.nodup hy]
            · intro e
              have := idxOf_get8 htL
              rw [← hix, ← e, hy] at this
              exact Option.some.inj this
          rw [← hix] at HT2
          have HZT := Lib.hid hz
          clear hz htl htk2 hix
          skip --D3
          go_wp2
          go_loopw [8] (fun pv wr => ∃ p : Nat, p ≤ ix ∧ pv = .int .i64 p ∧ Below wi.heap.size wi wr) (fun pv _ => ix - (intOf pv).toNat)
          case atStart => exact ⟨0, Nat.zero_le _, rfl, Below.refl _ _⟩
          case round =>
            obtain ⟨p, hp, rfl, hx⟩ := hrel
            obtain ⟨wj, rfl⟩ : ∃ wj : World, wj = wr := ⟨_, rfl⟩
            have HJ := Lib.hid hx
            have LJ := Lib.hid (ownsRow_below LI.out hx)
            have XJ := Lib.hid (XI.out.trans (hx.mono XI.out.size))
            have BJ := Lib.hid (BI.out.below hx BI.out.lt)
            clear hx
            obtain ⟨y, hyp⟩ : ∃ y, L[p]? = some y := ⟨_, List.getElem?_eq_getElem (by have := HM.out; omega)⟩
            obtain ⟨lg, lu, e1, hlg1, hlg2, hou, hoc, _⟩ := rowCell LJ.out (show p < m by omega)
            subst e1
            rw [List.getElem?_map, hyp] at hou
            cases hou
            replace hoc : wj.cell? ⟨lg, p, none⟩ = some (.int .i64 y) := hoc
            obtain ⟨lg', lu, e1, _, _, hou, hok, _⟩ := rowCell LJ.out hlt
            cases e1
            rw [List.getElem?_map, HSK.out] at hou
            cases hou
            replace hok : wj.cell? ⟨lg, k, none⟩ = some (.int .i64 s) := hok
            obtain ⟨b', off', rfl, hb', hc'⟩ := (HSL.out.below XJ.out).elem HZT.out
            replace hc' : wj.cell? ⟨b', off' + j, none⟩ = some (.int .i64 (t : Int)) := hc'
            have hc1 : wj.cell? ⟨b1, off1 + s, none⟩ = some (.slice (some ⟨b', off', none⟩) K cp1) := ((Keeps.of_below XJ.out fun _ h => h : Keeps (· < w.heap.size) w wj).cell (p := ⟨b1, off1 + s, none⟩) hb1).trans HC1.out
            have hb1j : b1 < wj.heap.size := Nat.lt_of_lt_of_le hb1 XJ.out.size
            have hyt := HIX.out p y hyp
            have hpi : (p : Int) < m := by omega
            have z1 := BJ.out.cell 1
            simp only [List.getElem?_toArray, List.getElem?_cons_zero, List.getElem?_cons_succ] at z1
            obtain ⟨q, hq⟩ : ∃ q, q = decide (p = ix) := ⟨_, rfl⟩
            have hq1 : ((y : Int) == (t : Int)) = q := by
              rw [hq]
              by_cases e : p = ix
              · rw [decide_eq_true e, hyt.2 e]; simp
              · rw [decide_eq_false e, beq_eq_false_iff_ne]
                intro e2
                exact e (hyt.1 (by omega))
            have hq2 : ((y : Int) != (t : Int)) = !q := by rw [← hq1]; rfl
            have HQ := Lib.hid hq
            clear hq hyp hyt y0 y1 y2
            go_upto_region 11 with fail
            skip --D4
            refine wp_region_reg false (fun _ => False) (by kernel_rfl) 16 [0, 0, 3, 7, 0, 16, 0, 0, 192, 448, 1008, 2032, 0, 8176, 16368, 32767] (fun i => false) (by kernel_rfl) (fun i => Eff.any _) ?_
            intro C hC hne
            have HC := Lib.hid hC
            have f1 := regCell hC (p := ⟨lg, p, none⟩) hlg2 (fun h => h) hoc
            have f2 := regCell hC (p := ⟨lg, k, none⟩) hlg2 (fun h => h) hok
            have f3 := regCell hC (p := ⟨b', off' + j, none⟩) hb' (fun h => h) hc'
            have f4 := regCell hC (p := ⟨b1, off1 + s, none⟩) hb1j (fun h => h) hc1
            have f5 := regCell hC (p := ⟨w.heap.size, 1, none⟩) BJ.out.lt (fun h => h) z1
            clear hC
            repeat (refine regStep (fun K hK => ?_); first | (refine regN rfl ?_; try go_simp; refine hK _ _ ?_; clear hK K) | (refine regF rfl rfl ?_; unfold floatAt; go_simp; refine hK _ _ ?_; clear hK K))
            refine regNil (fun W hW hH => ?_)
            have hM := (HC.out W).1 hW
            have XW := Lib.hid (HJ.out.trans (hM.below.mono HJ.out.size))
            clear hM hW hH HC hne f1 f2 f3 f4 f5 z1 hoc hok hc' hc1 LJ BJ
            skip --D5
            cases q with
            | false =>
              have hne2 : ¬ p = ix := by have := HQ.out; simpa using this.symm
              go_wp2
              go_roundw
              case rel => exact ⟨p + 1, by omega, by go_num, XW.out⟩
              case measure => simp [intOf]; omega
            | true =>
              have hpx : p = ix := by have := HQ.out; simpa using this.symm
              subst hpx
              have HTW := Lib.hid (ownsRow_below HT.out XW.out)
              have hsw2 : wi.heap.size ≤ W.heap.size := XW.out.size
              skip --D6
              go_wp2_with (at_builtin; refine wpList_append_own_at _ rfl (.tmp 45) (.tmp 47) 33 rfl wo2.heap.size 3 iI (.int .i64 0) 1 8 Tryz.underlying33 hiI hzI0 hzI1 hzI2 rfl (by decide) _ _ _ rfl (HTW.out.alloc _) ⟨W.heap.size, 0, none⟩ 1 1 [encN p] rfl rfl (cell_one _ _ _) (by simp [Value.oneCell', encN]) (by unfold maxLen; omega) (by omega) (by simp; omega) ?_; intro v' w6 hown' hgrow hh hat; have HO2 := Lib.hid hown'; have HG := Lib.hid hgrow; clear hown' hgrow hh hat)
              go_roundw
              case rel =>
                have hlo : ∀ x, (Value.slice ta j tc).ownBlock = some x → wo2.heap.size ≤ x := fun x hx => (HTW.out.lt x hx).1
                refine ⟨j + 1, by omega, by go_num, by rw [HT2.out]; exact HO2.out, ?_⟩
                have KW : Keeps (fun x => x < wo2.heap.size) wo2 W := KI.out.tr (Keeps.of_below XW.out fun x (hx : x < wo2.heap.size) => by show x < wi.heap.size; omega)
                exact (KW.tr (Keeps.of_below ((Ext.refl _).alloc _).below fun x (hx : x < wo2.heap.size) => by show x < W.heap.size; omega)).tr (Keeps.of_grown HG.out fun x (hx : x < wo2.heap.size) => ⟨by simp; omega, fun e => by have := hlo x e.symm; omega⟩)
              case measure => simp [intOf]; omega
        · obtain rfl : j = K := by omega
          have hji : ¬ ((j : Int) < j) := by omega
          have TV : Hid (wi.ownsRow wo2.heap.size 3 1 (.slice ta j tc) j ((rowR d s).map encZ)) := Lib.hid (by
            have h5 := HT.out
            rw [List.take_of_length_le (by rw [HNL.out s hsn]; exact Nat.le_refl _)] at h5
            have e : (rowR d s).map encZ = (nxL d s).map fun t => encN (L.idxOf t) := by
              unfold rowR; rw [List.map_map, ← HL.out]; rfl
            rw [e]; exact h5)
          have HRL : Hid ((rowR d s).length = j) := Lib.hid (by unfold rowR; rw [List.length_map, HNL.out s hsn])
          clear HT
          have hkl : (L.take k).length = k := by rw [List.length_take]; have := HM.out; omega
          obtain ⟨us, u1, u2, u3⟩ := HNXL.out.keeps KI.out fun x _ h2 => h2
          have hus : us.length = k := by rw [u1, List.length_map, hkl]
          rw [hus] at u2
          obtain ⟨na, nc, rfl⟩ := ownsRow_form u2
          have U1 := Lib.hid u1
          have U2 := Lib.hid u2
          have U3 := Lib.hid u3
          have HUS := Lib.hid hus
          have MI := Lib.hid (ownsRow_keeps HMKL.out KI.out fun x e => (HMKL.out.lt x e).2)
          obtain ⟨ma, mc, rfl⟩ := ownsRow_form MI.out
          have BI9 := Lib.hid (HB9.out.keeps KI.out (by show w2.heap.size < wo2.heap.size; omega))
          obtain ⟨⟨x0, x1, x2⟩, z0, z1, z2⟩ := BI9.out.three
          have x1' : ∀ o, (wi.alloc o).cell? ⟨w2.heap.size, 1, none⟩ = some (.slice na k nc) := fun o => (BI9.out.alloc o).cell 1
          have HKL := Lib.hid hkl
          clear u1 u2 u3 hus HNXL hkl
          skip --E1
          go_wp2_with (at_builtin; refine Hid.out ?_)
          refine Lib.hid ?_
          refine wpList_append_own_at _ rfl (.tmp 50) (.tmp 52) 27 rfl V6.heap.size 33 iL (.slice none 0 0) 1 24 Tryz.underlying27 hiL hzL0 hzL1 hzL2 rfl (by decide) _ _ _ rfl (U2.out.alloc _) ⟨wi.heap.size, 0, none⟩ 1 1 [.slice ta j tc] rfl rfl (cell_one _ _ _) (by simp [Value.oneCell']) (by unfold maxLen; omega) (by omega) (by simp; omega) ?_
          intro v' w6 hown' hgrow hh hat
          obtain ⟨na3, nc3, rfl⟩ := ownsRow_form hown'
          have HO2 := Lib.hid hown'
          have HG := Lib.hid hgrow
          have HAT := Lib.hid hat
          have x6 := Lib.hid ((BI9.out.alloc _).grown hgrow (fun e => row_ne BI9.out U2.out (by decide) _ e.symm rfl))
          obtain ⟨⟨g0, g1, g2⟩, q0, q1, q2⟩ := x6.out.three
          clear hown' hgrow hh hat x0 x1 x2 z0 z1 z2 x1'
          skip --E2
          go_upto_region 15 with fail
          refine wp_named ?_
          intro W7 hW7
          have kg : Keeps (· ≠ w2.heap.size) w6 W7 := by rw [hW7]; exact (Keeps.refl _ _).setCell (p := ⟨w2.heap.size, 1, none⟩) (fun h => h rfl) _
          have B9 : Hid (Blk W7 w2.heap.size #[.slice a0 j c0, .slice na3 (k + 1) nc3, .slice ma k mc] 48) := Lib.hid (by rw [hW7]; exact x6.out.set 1 _)
          clear hW7 g0 g1 g2 q0 q1 q2
          have hsa : (wi.alloc (.cells #[.slice ta j tc] 33)).heap.size = wi.heap.size + 1 := by simp
          have hsw6 : wi.heap.size < w6.heap.size := by have := HG.out.size; omega
          have O7 : Hid (OwnLL V6.heap.size W7 (.slice na3 (k + 1) nc3) ((L.take (k + 1)).map (rowR d))) := Lib.hid (by
            rw [HTK.out, List.map_append]
            have hu : (wi.alloc (.cells #[.slice ta j tc] 33)).ownsRow V6.heap.size 3 1 (.slice ta j tc) (rowR d s).length ((rowR d s).map encZ) := by
              rw [HRL.out]; exact (ownsRow_base TV.out hso2).alloc _
            exact (OwnLL.snoc (w := wi.alloc (.cells #[.slice ta j tc] 33)) (v := .slice na k nc) U1.out (by rw [HUS.out]; exact U2.out.alloc _) (fun i u l hu hl => (U3.out i u l hu hl).alloc _) hu HG.out (by rw [HUS.out]; exact HO2.out)).keeps kg fun x h1 _ => by show x ≠ w2.heap.size; omega)
          have M7 : Hid (W7.ownsRow V6.heap.size 33 1 (.slice ma k mc) k ms) := Lib.hid (ownsRow_keeps ((MI.out.alloc _).kept HG.out FAR.out.symm) kg fun x e => by have := (MI.out.lt x e).1; show x ≠ w2.heap.size; omega)
          have F7 : Hid (Far (.slice na3 (k + 1) nc3) (.slice ma k mc)) := Lib.hid (by
            rcases HAT.out with h5 | h5
            · rcases FAR.out with h6 | h6
              · exact .inl (h5.trans h6)
              · exact .inr (by rw [h5]; exact h6)
            · right
              rw [h5]
              intro e
              have := (MI.out.lt _ e.symm).2
              omega)
          have K7 : Hid (Keeps (fun x => x < V6.heap.size ∧ x ≠ w2.heap.size) V6 W7) := Lib.hid ((((HX.out.tr (KI.out.mono fun x hx => by have := hx.1; show x < wo2.heap.size; omega)).tr (Keeps.of_below ((Ext.refl wi).alloc _).below fun x hx => by have := hx.1; omega)).tr (Keeps.of_grown HG.out fun x hx => ⟨by have := hx.1; omega, fun e => by have := (U2.out.lt x e.symm).1; have := hx.1; omega⟩)).tr (kg.mono fun x hx => hx.2))
          have hsW7 : w6.heap.size ≤ W7.heap.size := kg.size
          clear kg HO2 HG HAT x6 TV HRL U1 U2 U3 HUS MI BI9 HB9 HX FAR KI
          have XW7 : Hid (Below w.heap.size w W7) := Lib.hid (X6.out.trans (K7.out.mono fun x (hx : x < w.heap.size) => ⟨by omega, by omega⟩ : Keeps (· < w.heap.size) V6 W7).below)
          have B7 := Lib.hid (B6.out.keeps K7.out ⟨by omega, by omega⟩)
          have L7 := Lib.hid (ownsRow_keeps L6.out K7.out fun x e => by have := L1.out x e; exact ⟨by omega, by omega⟩)
          obtain ⟨lg, lu, e1, hlg1, hlg2, hou, hok, _⟩ := rowCell L7.out hlt
          subst e1
          rw [List.getElem?_map, HSK.out] at hou
          cases hou
          replace hok : W7.cell? ⟨lg, k, none⟩ = some (.int .i64 s) := hok
          obtain ⟨b2, off2, ad2, cp2, rfl, hb2, hc2, hsl2⟩ := HMK.out s hsn
          obtain ⟨ml, hml⟩ : ∃ x, x = (d.mr.getD s []).length := ⟨_, rfl⟩
          rw [← hml] at hc2 hsl2
          have HS2 := Lib.hid hsl2
          have hcm : W7.cell? ⟨b2, off2 + s, none⟩ = some (.slice ad2 ml cp2) := ((Keeps.of_below XW7.out fun _ h => h : Keeps (· < w.heap.size) w W7).cell (p := ⟨b2, off2 + s, none⟩) hb2).trans hc2
          have hb2w : b2 < W7.heap.size := Nat.lt_of_lt_of_le hb2 XW7.out.size
          have z2 := B7.out.cell 2
          have z9 := B9.out.cell 2
          simp only [List.getElem?_toArray, List.getElem?_cons_zero, List.getElem?_cons_succ] at z2 z9
          clear hc2 hsl2 hml
          skip --E3
          refine wp_region_reg false (fun _ => False) (by kernel_rfl) 11 [0, 1, 0, 4, 0, 0, 48, 112, 252, 508, 1020, 2047, 4095, 8191] (fun i => i == 10) (by kernel_rfl) (fun i => if i = 10 then Eff.box 1 #[.slice ad2 ml cp2] 33 else Eff.any _) ?_
          intro C hC hne
          have HC := Lib.hid hC
          have f1 := regCell hC (p := ⟨lg, k, none⟩) hlg2 (fun h => h) hok
          have f2 := regCell hC (p := ⟨b2, off2 + s, none⟩) hb2w (fun h => h) hcm
          have f3 := regCell hC (p := ⟨w.heap.size, 2, none⟩) B7.out.lt (fun h => h) z2
          have f4 := regCell hC (p := ⟨w2.heap.size, 2, none⟩) B9.out.lt (fun h => h) z9
          clear hC
          repeat (refine regStep (fun K hK => ?_); first | (refine regN rfl ?_; try go_simp; refine hK _ _ ?_; clear hK K) | (refine regF rfl rfl ?_; unfold floatAt; go_simp; refine hK _ _ ?_; clear hK K))
          refine regStep (fun K0 hK => ?_)
          refine regE rfl rfl (Eff.box 1 #[.slice ad2 ml cp2] 33) rfl (fun W hW hN => ?_) (fun v hv => ?_)
          · have hM := (HC.out W).1 hW
            clear hW hN hK K0
            go_simp
            exact ⟨Move.of_below ((Ext.refl _).alloc _).below, ⟨_, rfl⟩, fun b hb => by cases hb; exact Blk.new _ _ _⟩
          obtain ⟨bz, rfl⟩ := hv
          go_simp
          refine hK _ _ ?_
          clear hK K0
          refine regNil (fun W8 hW hH => ?_)
          have hM := (HC.out W8).1 hW
          have hbz : Blk W8 bz #[.slice ad2 ml cp2] 33 := hH _ (List.mem_of_getElem? (show _ = some _ from rfl : _[0]? = some _)) bz rfl
          have HBZ := Lib.hid hbz
          have X8 := Lib.hid hM.below
          have M8 := Lib.hid (ownsRow_below M7.out X8.out)
          have O8 := Lib.hid (O7.out.below X8.out)
          have B8 := Lib.hid (B9.out.below X8.out B9.out.lt)
          have hs8 : W7.heap.size ≤ W8.heap.size := X8.out.size
          clear hM hW hH HC hne f1 f2 f3 f4 hbz z2 z9 hok hcm
          skip --E4
          go_wp2_with (at_builtin; refine Hid.out ?_)
          refine Lib.hid ?_
          refine wpList_append_own_at _ rfl (.tmp 56) (.tmp 65) 27 rfl V6.heap.size 33 iL (.slice none 0 0) 1 24 Tryz.underlying27 hiL hzL0 hzL1 hzL2 rfl (by decide) _ _ _ rfl M8.out ⟨bz, 0, none⟩ 1 1 [.slice ad2 ml cp2] rfl rfl (news_blk HBZ.out) (by simp [Value.oneCell']) (by unfold maxLen; omega) (by omega) (by omega) ?_
          intro v' w9 hown' hgrow hh hat
          obtain ⟨ma3, mc3, rfl⟩ := ownsRow_form hown'
          have HO9 := Lib.hid hown'
          have HG := Lib.hid hgrow
          have HAT := Lib.hid hat
          have C9 := Lib.hid (B8.out.grown hgrow (fun e => row_ne B8.out M8.out (by decide) _ e.symm rfl))
          obtain ⟨⟨g0, g1, g2⟩, q0, q1, q2⟩ := C9.out.three
          clear hown' hgrow hh hat
          skip --E5
          go_wp2
          go_roundw
          case rel =>
            have kg : Keeps (· ≠ w2.heap.size) w9 (w9.setCell ⟨w2.heap.size, 2, none⟩ (.slice ma3 (k + 1) mc3)) := (Keeps.refl _ _).setCell (p := ⟨w2.heap.size, 2, none⟩) (fun h => h rfl) _
            refine ⟨k + 1, _, _, ms ++ [.slice ad2 ml cp2], by omega, by go_num, C9.out.set 2 _, ?_, ?_, ?_, ?_, ?_⟩
            · have h5 : OwnLL V6.heap.size w9 (.slice na3 (k + 1) nc3) ((L.take (k + 1)).map (rowR d)) := by
                obtain ⟨us', e, o1, o2⟩ := O8.out
                exact ⟨us', e, o1.kept HG.out F7.out, fun i u l hu hl => (o2 i u l hu hl).kept HG.out (ownBlock_ne (by decide) (o2 i u l hu hl) M8.out)⟩
              exact h5.keeps kg fun x h1 _ => by show x ≠ w2.heap.size; omega
            · exact ownsRow_keeps HO9.out kg fun x e => by have := (HO9.out.lt x e).1; show x ≠ w2.heap.size; omega
            · rw [HTK.out, List.map_append]
              refine HHD.out.more (by rw [List.length_map, HKL.out]; exact by have := HMKL.out.1; simpa using this) ?_
              exact HS2.out
            · rcases HAT.out with h5 | h5
              · rcases F7.out with h6 | h6
                · exact .inl h6
                · exact .inr (by rw [h5]; exact h6)
              · by_cases e : (Value.slice na3 (k + 1) nc3).ownBlock = none
                · exact .inl e
                · right
                  rw [h5]
                  intro e2
                  obtain ⟨us', e3, o1, _⟩ := O8.out
                  have := (o1.lt _ e2).2
                  omega
            · exact ((K7.out.tr (Keeps.of_below X8.out fun x hx => by have := hx.1; omega)).tr (Keeps.of_grown HG.out fun x hx => ⟨by have := hx.1; omega, fun e => by have := (M8.out.lt x e.symm).1; have := hx.1; omega⟩)).tr (kg.mono fun x hx => hx.2)
          case measure => simp [intOf]; omega
    · obtain rfl : k = m := by omega
      have hki : ¬ ((k : Int) < k) := by omega
      have htk : L.take k = L := List.take_of_length_le (by rw [← HM.out]; exact Nat.le_refl _)
      have NXF := Lib.hid HNXL.out
      have HDF := Lib.hid HHD.out
      rw [htk] at NXF HDF
      have hms : ms.length = k := by have := HMKL.out.1; simpa using this
      obtain ⟨na, nc, rfl⟩ := NXF.out.form
      obtain ⟨ma, mc, rfl⟩ := ownsRow_form HMKL.out
      obtain ⟨⟨k0, k1, k2⟩, _⟩ := HB9.out.three
      obtain ⟨⟨l0, l1, l2⟩, z0, z1, z2⟩ := RO.out.three
      have HMS := Lib.hid hms
      obtain ⟨q1, hq1⟩ : ∃ q, q = (L.map (rowR d)).length := ⟨_, rfl⟩
      rw [← hq1] at k1 NXF HB9
      clear htk hms hq1
      skip --G1
      go_wp2
      refine post_named ?_
      intro W9 hW9
      have E9 : Hid (Blk W9 (w.heap.size + 1) #[.slice a0 K c0, .slice na q1 nc, .slice ma k mc] 48 ∧ Keeps (· ≠ w.heap.size + 1) wo2 W9) := by
        rw [hW9]
        exact Lib.hid ⟨RO.out.set3, keeps3t _ _ _ _ _⟩
      clear hW9 z0 z1 z2 k0 k1 k2 l0 l1 l2
      obtain ⟨⟨m0, m1, m2⟩, _⟩ := E9.out.1.three
      have XF : Below w.heap.size w W9 := XO.out.trans (E9.out.2.mono fun x (hx : x < w.heap.size) => by show x ≠ w.heap.size + 1; omega : Keeps (· < w.heap.size) wo2 W9).below
      refine bodyPost_ret (v := .agg #[.slice a0 K c0, .slice na q1 nc, .slice ma k mc]) (by simp [results, Tryz.results40, go_sem, m0, m1, m2]) rfl ⟨_, rfl, ⟨_, _, _, rfl, ?_, ?_, ?_⟩, XF⟩
      · exact H0.out.below XF
      · show IsLL W9 _ ((reachD d).map (rowR d))
        rw [← HL.out]
        exact (NXF.out.keeps E9.out.2 fun x h1 _ => by show x ≠ _; omega).ll
      · show IsLL W9 _ ((reachD d).map fun s => d.mr.getD s [])
        rw [← HL.out]
        have h5 := ownsRow_keeps HMKL.out E9.out.2 fun x e => by have := (HMKL.out.lt x e).1; show x ≠ _; omega
        refine ⟨ms, by rw [HMS.out, List.length_map, HM.out], ownsRow_sl (e := 33) (base := V6.heap.size) (n := k) (by simpa using h5) HMS.out.symm, fun i u l hu hl => (HDF.out i u l hu hl).below XF⟩
end Go.Proofs.YthdnlndpmmiboaaGreatDoor
