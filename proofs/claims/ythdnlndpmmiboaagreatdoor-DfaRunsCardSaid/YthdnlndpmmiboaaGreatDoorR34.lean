/-
  dfa.Trim. Printed by wip/gen/trim.py.
-/
import Derived.Test.YthdnlndpmmiboaaGreatDoorR33
import Derived.Test.YthdnlndpmmiboaaGreatDoorR19
import Derived.Test.YthdnlndpmmiboaaGreatDoorR20
namespace Go.Proofs.YthdnlndpmmiboaaGreatDoor
open Go Go.RowKit Go.Shelf Go.Maps
attribute [local go_sem] encS

theorem keeps3t (W : World) (b : Nat) (x y z : Value) : Keeps (· ≠ b) W (((W.setCell ⟨b, 0, none⟩ x).setCell ⟨b, 1, none⟩ y).setCell ⟨b, 2, none⟩ z) :=
  (((Keeps.refl _ _).setCell (p := ⟨b, 0, none⟩) (fun h => h rfl) _).setCell (p := ⟨b, 1, none⟩) (fun h => h rfl) _).setCell (p := ⟨b, 2, none⟩) (fun h => h rfl) _
set_option maxRecDepth 100000 in
set_option maxHeartbeats 16000000 in
theorem trim_any (v : Value) (d : DF) (rt : Rt d) (sm : Sm d) (w : World) (h : IsDf w v d) :
    Calls Tryz.prog 34 #[v] w fun e w' => ∃ u, e = .returned (.tuple #[u, .int .i64 0]) ∧ OwnDf w.heap.size w' u (trimR d) ∧ Below w.heap.size w w' := by
  obtain ⟨iI, hiI, hzI0, hzI1, hzI2⟩ := info_parts Tryz.infoI
  obtain ⟨iL, hiL, hzL0, hzL1, hzL2⟩ := info_parts Tryz.infoL
  have CR : Hid (∀ W, Below w.heap.size w W → Calls Tryz.prog 33 #[v] W fun e w' => ∃ u, e = .returned (.tuple #[u, .int .i64 0]) ∧ w'.ownsRow W.heap.size 3 1 u (reachD d).length ((reachD d).map encN) ∧ Below W.heap.size W w') := Lib.hid fun W hW => reached_any v d rt sm W (h.below hW)
  obtain ⟨v0, v1, v2, rfl, h0, h1, h2⟩ := h
  obtain ⟨a0, c0, rfl⟩ := h0.1.form
  obtain ⟨a1, c1, rfl⟩ := h1.form
  obtain ⟨a2, c2, rfl⟩ := h2.form
  have hmr := rt.mr
  rw [hmr] at h2 CR ⊢
  obtain ⟨n, hn⟩ : ∃ n, n = d.nx.length := ⟨_, rfl⟩
  obtain ⟨K, hK⟩ : ∃ n, n = d.cl.length := ⟨_, rfl⟩
  obtain ⟨L, hL⟩ : ∃ L, L = reachD d := ⟨_, rfl⟩
  obtain ⟨m, hm⟩ : ∃ m, m = L.length := ⟨_, rfl⟩
  rw [← hL, ← hm] at CR
  have IL : Hid (InN n L) := Lib.hid (by rw [hL, hn]; exact reachD_in rt)
  have hn4 : n ≤ 4000 := by have := rt.le; omega
  have hn1 : 1 ≤ n := by have := rt.pos; omega
  have hK2 : K ≤ 256 := by have := rt.clle; omega
  have hmn : m ≤ n := by rw [hm]; exact IL.out.len
  rw [← hn] at h1 h2 CR ⊢
  rw [← hK] at h0 CR ⊢
  have HMK : Hid (∀ s, s < n → ∃ (b : Nat) (off : Nat) (ad : Option Addr) (cp : Nat), a2 = some ⟨b, off, none⟩ ∧ b < w.heap.size ∧ w.cell? ⟨b, off + s, none⟩ = some (.slice ad (d.mr.getD s []).length cp) ∧ IsSl encZ w (.slice ad (d.mr.getD s []).length cp) (d.mr.getD s [])) := Lib.hid fun s hs => by
    have hrow : d.mr[s]? = some (d.mr.getD s []) := by
      rw [List.getD_eq_getElem?_getD, List.getElem?_eq_getElem (by rw [hmr, ← hn]; exact hs)]; rfl
    obtain ⟨b, off, a', c', e1, e2, e3, e4⟩ := h2.elem hrow
    exact ⟨b, off, a', c', e1, e2, e3, e4⟩
  have HNX : Hid (∀ s, s < n → ∃ (b : Nat) (off : Nat) (ad : Option Addr) (cp : Nat), a1 = some ⟨b, off, none⟩ ∧ b < w.heap.size ∧ w.cell? ⟨b, off + s, none⟩ = some (.slice ad K cp) ∧ IsSl encZ w (.slice ad K cp) (d.nx.getD s [])) := Lib.hid fun s hs => by
    have hrow : d.nx[s]? = some (d.nx.getD s []) := by
      rw [List.getD_eq_getElem?_getD, List.getElem?_eq_getElem (by rw [← hn]; exact hs)]; rfl
    obtain ⟨b, off, a', c', e1, e2, e3, e4⟩ := h1.elem hrow
    rw [rt.len s (by rw [← hn]; exact hs), ← hK] at e3 e4
    exact ⟨b, off, a', c', e1, e2, e3, e4⟩
  have H0 := Lib.hid h0
  have HN := Lib.hid hn
  have HK := Lib.hid hK
  have HL := Lib.hid hL
  have HM := Lib.hid hm
  have RT := Lib.hid rt
  have SM := Lib.hid sm
  have HZ : Hid (∀ s, s ∈ L → ∀ j, j < K → ∃ t : Nat, t < n ∧ t ∈ L ∧ (d.nx.getD s [])[j]? = some (t : Int) ∧ (nxL d s)[j]? = some t) := Lib.hid fun s hs j hj => by
    have hsn := IL.out.lt s hs
    obtain ⟨t, e1, e2, e3⟩ := nxL_at rt (s := s) (k := j) (by rw [← hn]; exact hsn) (by rw [← hK]; exact hj)
    exact ⟨t, by rw [hn]; exact e1, by rw [hL] at hs ⊢; exact reach_closed rt hs (List.mem_of_getElem? e3), e2, e3⟩
  have HNL : Hid (∀ s, s < n → (nxL d s).length = K) := Lib.hid fun s hs => by rw [hK]; exact nxL_len rt (by rw [← hn]; exact hs)
  clear h0 h1 h2 hn hK hmr rt sm hL hm
  go_enter Tryz.func34, Tryz.ntmps34
  go_wp2_with fail
  refine calls_named ?_
  intro V hV
  have B1 : Hid (Blk V w.heap.size #[.slice a0 K c0, .slice a1 n c1, .slice a2 n c2] 29) := Lib.hid (by rw [hV]; exact (Blk.new w _ _).alloc _)
  have R1 : Hid (Blk V (w.heap.size + 1) #[.slice none 0 0, .slice none 0 0, .slice none 0 0] 29) := Lib.hid (by rw [hV]; exact (Blk.new (w.alloc _) _ _).at (by simp))
  have X1 : Hid (Below w.heap.size w V) := Lib.hid (by rw [hV]; exact (((Ext.refl w).alloc _).alloc _).below)
  clear hV
  have hsV : w.heap.size + 1 < V.heap.size := R1.out.lt
  refine (CR.out V X1.out).mono ?_
  rintro e w2 ⟨u, rfl, ho, hx⟩
  obtain ⟨la, lc, rfl⟩ := ownsRow_form ho
  have LR := Lib.hid ho
  have B2 := Lib.hid (B1.out.below hx B1.out.lt)
  have R2 := Lib.hid (R1.out.below hx R1.out.lt)
  have X2 := Lib.hid (X1.out.trans (hx.mono X1.out.size))
  have hs2 : V.heap.size ≤ w2.heap.size := hx.size
  have L1 : Hid (∀ x, (Value.slice la m lc).ownBlock = some x → x < w2.heap.size ∧ V.heap.size ≤ x) := Lib.hid fun x e => ⟨(ho.lt x e).2, (ho.lt x e).1⟩
  clear ho hx CR B1 R1 X1
  obtain ⟨⟨k0, k1, k2⟩, _⟩ := B2.out.three
  skip --A1
  go_wp2_with (at_make; refine wpList_make_full _ rfl (.tmp 26) (.tmp 26) 33 rfl w2.heap.size 3 iI (.int .i64 0) 1 Tryz.underlying33 hiI hzI0 hzI1 .i64 .i64 _ _ n rfl rfl rfl rfl (by rw [hzI2]; omega) (by unfold maxLen; omega) (Nat.le_refl _) ?_; intro w3 hr hg; refine Hid.out ?_)
  refine Lib.hid ?_
  have hs4 : w2.heap.size < w3.heap.size := by
    rcases hr.2 with ⟨h5, _⟩ | ⟨g, c, cur, h5, _, h6, _⟩
    · cases h5
    · cases h5; exact (Array.getElem?_eq_some_iff.1 h6).1
  have hb3 : Below w2.heap.size w2 w3 := (Keeps.of_grown hg fun x hx => ⟨hx, fun e => by cases e⟩ : Keeps (· < w2.heap.size) w2 w3).below
  rw [made_ints] at hr
  have N3 := Lib.hid hr
  have L3 := Lib.hid (ownsRow_below LR.out hb3)
  have B3 := Lib.hid (B2.out.below hb3 B2.out.lt)
  have R3 := Lib.hid (R2.out.below hb3 R2.out.lt)
  have X3 := Lib.hid (X2.out.trans (hb3.mono X2.out.size))
  clear hr hg hb3 k0 k1 k2 LR B2 R2 X2
  obtain ⟨g5, hg5⟩ : ∃ g, g = w2.heap.size := ⟨_, rfl⟩
  rw [← hg5] at N3 hs4 hs2 L1 ⊢
  clear hg5
  skip --A2
  go_wp2
  skip --A3
  go_loopw [30] (fun iv wr => ∃ i : Nat, i ≤ m ∧ iv = .int .i64 i ∧ wr.ownsRow g5 3 1 (.slice (some ⟨g5, 0, none⟩) n n) n ((numL n L i).map encZ) ∧ Keeps (· ≠ g5) w3 wr) (fun iv _ => m - (intOf iv).toNat)
  case atStart => exact ⟨0, Nat.zero_le _, rfl, by rw [← numL_zero]; exact N3.out, Keeps.refl _ _⟩
  case round =>
    obtain ⟨i, hi, rfl, hnu, hx⟩ := hrel
    obtain ⟨wo, rfl⟩ : ∃ wo : World, wo = wr := ⟨_, rfl⟩
    have HX := Lib.hid hx
    have NU := Lib.hid hnu
    have LO := Lib.hid (ownsRow_keeps L3.out hx fun x e => by have := L1.out x e; show x ≠ g5; omega)
    clear hx hnu
    by_cases hlt : i < m
    · obtain ⟨s, hs⟩ : ∃ s, L[i]? = some s := ⟨_, List.getElem?_eq_getElem (by have := HM.out; omega)⟩
      have hsn : s < n := IL.out.lt s (List.mem_of_getElem? hs)
      obtain ⟨lg, lu, rfl, _, _, hou, hoc, _⟩ := rowCell LO.out hlt
      rw [List.getElem?_map, hs] at hou
      cases hou
      replace hoc : wo.cell? ⟨lg, i, none⟩ = some (.int .i64 s) := hoc
      obtain ⟨sg, su, se, _, hsg, hsu, hsc, hsf⟩ := rowCell NU.out hsn
      cases se
      have hset := numL_set (N := n) IL.out.nodup hs hsn
      have HSET := Lib.hid hset
      have hii : (i : Int) < m := by omega
      have hsi : (s : Int) < n := by omega
      clear hs hset hsu
      go_wp2
      go_roundw
      case rel =>
        refine ⟨i + 1, by omega, by go_num, ?_, HX.out.setCell (p := ⟨g5, s, none⟩) (fun h => h rfl) _⟩
        rw [← HSET.out, List.map_set]
        exact (NU.out.stored s _).1
      case measure => simp [intOf]; omega
    · obtain rfl : i = m := by omega
      have hii : ¬ ((i : Int) < i) := by omega
      have BO := Lib.hid (B3.out.keeps HX.out (by show w.heap.size ≠ g5; omega))
      have RO := Lib.hid (R3.out.keeps HX.out (by show w.heap.size + 1 ≠ g5; omega))
      have XO : Hid (Below w.heap.size w wo) := Lib.hid (X3.out.trans (HX.out.mono fun x (hx : x < w.heap.size) => by show x ≠ g5; omega : Keeps (· < w.heap.size) w3 wo).below)
      have hso : w3.heap.size ≤ wo.heap.size := HX.out.size
      clear HX L3 B3 R3 X3 N3 hi hlt
      obtain ⟨⟨k0, k1, k2⟩, _⟩ := BO.out.three
      skip --C1
      go_wp2_with fail
      refine (cloneSets_any (.slice a0 K c0) d.cl wo ⟨H0.out.1.below XO.out, H0.out.2⟩ SM.out.cl).mono ?_
      rintro e w5 ⟨u, rfl, ho, hx⟩
      rw [← HK.out] at ho
      obtain ⟨ca, cc, rfl⟩ := ownsRow_form ho
      have C5 := Lib.hid ho
      have B5 := Lib.hid (BO.out.below hx BO.out.lt)
      have R5 := Lib.hid (RO.out.below hx RO.out.lt)
      have X5 := Lib.hid (XO.out.trans (hx.mono XO.out.size))
      have N5 := Lib.hid (ownsRow_below NU.out hx)
      have L5 := Lib.hid (ownsRow_below LO.out hx)
      have hs5 : wo.heap.size ≤ w5.heap.size := hx.size
      clear ho hx BO RO XO NU LO k0 k1 k2
      skip --C2
      go_wp2
      refine wp_named ?_
      intro V6 hV6
      have D6 : Hid (Blk V6 w5.heap.size #[.slice ca K cc, .slice none 0 0, .slice none 0 0] 29) := Lib.hid (by rw [hV6]; exact Blk.new _ _ _)
      have hb6 : Below w5.heap.size w5 V6 := by rw [hV6]; exact ((Ext.refl _).alloc _).below
      clear hV6
      have hs6 : w5.heap.size < V6.heap.size := D6.out.lt
      have B6 := Lib.hid (B5.out.below hb6 B5.out.lt)
      have R6 := Lib.hid (R5.out.below hb6 R5.out.lt)
      have X6 := Lib.hid (X5.out.trans (hb6.mono X5.out.size))
      have N6 := Lib.hid (ownsRow_below N5.out hb6)
      have L6 := Lib.hid (ownsRow_below L5.out hb6)
      have C6 := Lib.hid (ownsRow_below C5.out hb6)
      clear hb6 B5 R5 X5 N5 L5 C5
      skip --C3
      go_loopw [46] (fun kv wr => ∃ (k : Nat) (nx mk : Value), k ≤ i ∧ kv = .int .i64 k ∧ Blk wr w5.heap.size #[.slice ca K cc, nx, mk] 29 ∧ OwnLL V6.heap.size wr nx ((L.take k).map (rowR d)) ∧ OwnLL V6.heap.size wr mk ((L.take k).map fun s => d.mr.getD s []) ∧ Far nx mk ∧ Keeps (fun x => x < V6.heap.size ∧ x ≠ w5.heap.size) V6 wr) (fun kv _ => i - (intOf kv).toNat)
      case atStart => exact ⟨0, _, _, Nat.zero_le _, rfl, D6.out, OwnLL.nil _ _, OwnLL.nil _ _, .inl rfl, Keeps.refl _ _⟩
      case round =>
        obtain ⟨k, nx, mk, hk, rfl, hb, hnx, hmk, hfar, hx⟩ := hrel
        obtain ⟨wo2, rfl⟩ : ∃ wo2 : World, wo2 = wr := ⟨_, rfl⟩
        have HB9 := Lib.hid hb
        have HNXL := Lib.hid hnx
        have HMKL := Lib.hid hmk
        have FAR := Lib.hid hfar
        have HX := Lib.hid hx
        have LO := Lib.hid (ownsRow_keeps L6.out hx fun x e => by have := L1.out x e; exact ⟨by omega, by omega⟩)
        have NU := Lib.hid (ownsRow_keeps N6.out hx fun x e => by
          have e2 : g5 = x := by simpa [Value.ownBlock] using e
          exact ⟨by omega, by omega⟩)
        have CO := Lib.hid (ownsRow_keeps C6.out hx fun x e => by
          have h5 := C6.out.lt x e
          exact ⟨h5.2, fun e2 => row_ne D6.out C6.out (by decide) x e e2⟩)
        have BO := Lib.hid (B6.out.keeps hx ⟨by omega, by omega⟩)
        have RO := Lib.hid (R6.out.keeps hx ⟨by omega, by omega⟩)
        have XO : Hid (Below w.heap.size w wo2) := Lib.hid (X6.out.trans (hx.mono fun x (hx : x < w.heap.size) => ⟨by omega, by omega⟩ : Keeps (· < w.heap.size) V6 wo2).below)
        have hso2 : V6.heap.size ≤ wo2.heap.size := hx.size
        clear hb hnx hmk hfar hx
        by_cases hlt : k < i
        · obtain ⟨s, hs⟩ : ∃ s, L[k]? = some s := ⟨_, List.getElem?_eq_getElem (by have := HM.out; omega)⟩
          have hsL := List.mem_of_getElem? hs
          have hsn : s < n := IL.out.lt s hsL
          obtain ⟨lg, lu, rfl, _, _, hou, hoc, _⟩ := rowCell LO.out hlt
          rw [List.getElem?_map, hs] at hou
          cases hou
          replace hoc : wo2.cell? ⟨lg, k, none⟩ = some (.int .i64 s) := hoc
          obtain ⟨b1, off1, ad1, cp1, rfl, hb1, hc1, hsl1⟩ := HNX.out s hsn
          replace hc1 : wo2.cell? ⟨b1, off1 + s, none⟩ = some (.slice ad1 K cp1) := ((Keeps.of_below XO.out fun _ h => h : Keeps (· < w.heap.size) w wo2).cell (p := ⟨b1, off1 + s, none⟩) hb1).trans hc1
          have HSL := Lib.hid hsl1
          have htk : L.take (k + 1) = L.take k ++ [s] := by rw [List.take_add_one, hs]; rfl
          have HTK := Lib.hid htk
          have HSM := Lib.hid hsL
          have hki : (k : Int) < i := by omega
          have hsi : (s : Int) < n := by omega
          have hbk := BO.out.cell 1
          simp only [List.getElem?_toArray, List.getElem?_cons_zero, List.getElem?_cons_succ] at hbk
          clear hs hsl1 htk hsL
          skip --D1
          go_wp2
          clear hbk hc1 hoc
          skip --D2
          go_loopw [12, 56] (fun tv jv wr => ∃ j : Nat, j ≤ K ∧ jv = .int .i64 j ∧ wr.ownsRow wo2.heap.size 3 1 tv j (((nxL d s).take j).map fun t => encN (L.idxOf t)) ∧ Keeps (fun x => x < wo2.heap.size) wo2 wr) (fun _ jv _ => K - (intOf jv).toNat)
          case atStart => exact ⟨0, Nat.zero_le _, rfl, World.ownsRow_nil _ _ _ _, Keeps.refl _ _⟩
          case round =>
            obtain ⟨j, hj, rfl, ht, hx⟩ := hrel
            obtain ⟨wi, rfl⟩ : ∃ wi : World, wi = wr := ⟨_, rfl⟩
            have HT := Lib.hid ht
            have KI := Lib.hid hx
            have XI : Hid (Below w.heap.size w wi) := Lib.hid (XO.out.trans (hx.mono fun x (hx : x < w.heap.size) => by show x < wo2.heap.size; omega : Keeps (· < w.heap.size) wo2 wi).below)
            have hsi2 : wo2.heap.size ≤ wi.heap.size := hx.size
            clear ht hx
            obtain ⟨ta, tc, rfl⟩ := ownsRow_form HT.out
            by_cases hjl : j < K
            · obtain ⟨t, htn, htL, hz, htl⟩ := HZ.out s HSM.out j hjl
              obtain ⟨b', off', rfl, hb', hc'⟩ := (HSL.out.below XI.out).elem hz
              replace hc' : wi.cell? ⟨b', off' + j, none⟩ = some (.int .i64 (t : Int)) := hc'
              have NUI := ownsRow_keeps NU.out KI.out fun x e => (NU.out.lt x e).2
              obtain ⟨sg, su, se, _, hsg, hsu, hsc, hsf⟩ := rowCell NUI htn
              cases se
              rw [List.getElem?_map, show numL n L i = numL n L L.length by rw [HM.out], numL_mem htL htn] at hsu
              cases hsu
              replace hsc : wi.cell? ⟨g5, t, none⟩ = some (.int .i64 (L.idxOf t : Int)) := hsc
              have hji : (j : Int) < K := by omega
              have hti : (t : Int) < n := by omega
              have htk2 : (((nxL d s).take (j + 1)).map fun t => encN (L.idxOf t)) = (((nxL d s).take j).map fun t => encN (L.idxOf t)) ++ [encN (L.idxOf t)] := by rw [List.take_add_one, htl]; simp
              have HT2 := Lib.hid htk2
              obtain ⟨ix, hix⟩ : ∃ ix, ix = L.idxOf t := ⟨_, rfl⟩
              rw [← hix] at hsc HT2
              clear hz htl htk2 NUI hix
              skip --D3
              go_wp2_with (at_builtin; refine wpList_append_own_at _ rfl (.tmp 60) (.tmp 65) 33 rfl wo2.heap.size 3 iI (.int .i64 0) 1 8 Tryz.underlying33 hiI hzI0 hzI1 hzI2 rfl (by decide) _ _ _ rfl (HT.out.alloc _) ⟨wi.heap.size, 0, none⟩ 1 1 [encN ix] rfl rfl (cell_one _ _ _) (by simp [Value.oneCell', encN]) (by unfold maxLen; omega) (by omega) (by simp; omega) ?_; intro v' w6 hown' hgrow hh hat; have HO2 := Lib.hid hown'; have HG := Lib.hid hgrow; clear hown' hgrow hh hat)
              go_roundw
              case rel =>
                have hlo : ∀ x, (Value.slice ta j tc).ownBlock = some x → wo2.heap.size ≤ x := fun x hx => (HT.out.lt x hx).1
                refine ⟨j + 1, by omega, by go_num, by rw [HT2.out]; exact HO2.out, ?_⟩
                exact (KI.out.tr (Keeps.of_below ((Ext.refl _).alloc _).below fun x (hx : x < wo2.heap.size) => by show x < wi.heap.size; omega)).tr (Keeps.of_grown HG.out fun x (hx : x < wo2.heap.size) => ⟨by simp; omega, fun e => by have := hlo x e.symm; omega⟩)
              case measure => simp [intOf]; omega
            · obtain rfl : j = K := by omega
              have hji : ¬ ((j : Int) < j) := by omega
              have TV : Hid (wi.ownsRow wo2.heap.size 3 1 (.slice ta j tc) j ((rowR d s).map encZ)) := Lib.hid (by
                have h5 := HT.out
                rw [List.take_of_length_le (by rw [HNL.out s hsn]; exact Nat.le_refl _)] at h5
                have e : (rowR d s).map encZ = (nxL d s).map fun t => encN (L.idxOf t) := by
                  unfold rowR; rw [List.map_map, ← HL.out]; rfl
                rw [e]; exact h5)
              have hrl : (rowR d s).length = j := by unfold rowR; rw [List.length_map, HNL.out s hsn]
              have HRL := Lib.hid hrl
              clear hrl HT
              obtain ⟨b2, off2, ad2, cp2, rfl, hb2, hc2, hsl2⟩ := HMK.out s hsn
              have hcw : wi.cell? ⟨b2, off2 + s, none⟩ = some (.slice ad2 (d.mr.getD s []).length cp2) := ((Keeps.of_below XI.out fun _ h => h : Keeps (· < w.heap.size) w wi).cell (p := ⟨b2, off2 + s, none⟩) hb2).trans hc2
              have hml2 : (d.mr.getD s []).length ≤ 1000000 := by
                by_cases h5 : s < d.mr.length
                · exact SM.out.mks _ (List.mem_of_getElem? (by rw [List.getD_eq_getElem?_getD, List.getElem?_eq_getElem h5]; rfl : d.mr[s]? = some _))
                · rw [List.getD_eq_getElem?_getD, List.getElem?_eq_none (by omega)]; exact Nat.zero_le _
              obtain ⟨ml, hml⟩ : ∃ x, x = (d.mr.getD s []).length := ⟨_, rfl⟩
              obtain ⟨mx, hmx⟩ : ∃ x, x = (d.mr.getD s []).map encZ := ⟨_, rfl⟩
              have CM1 : Hid (∀ W, Below w.heap.size w W → Calls Tryz.prog 42 #[.slice ad2 ml cp2] W fun e w' => ∃ u, e = .returned u ∧ w'.ownsRow W.heap.size 3 1 u ml mx ∧ Below W.heap.size W w') := Lib.hid fun W hW => by
                rw [hml, hmx]; exact cloneInts_any _ (d.mr.getD s []) W (hsl2.below hW) hml2
              rw [← hml] at hcw
              have NXI := HNXL.out.keeps KI.out fun x _ h2 => h2
              have MKI := HMKL.out.keeps KI.out fun x _ h2 => h2
              obtain ⟨us, u1, u2, u3⟩ := NXI
              obtain ⟨ms, m1, m2, m3⟩ := MKI
              have hkl : (L.take k).length = k := by rw [List.length_take]; have := HM.out; omega
              have hus : us.length = k := by rw [u1, List.length_map, hkl]
              have hms : ms.length = k := by rw [m1, List.length_map, hkl]
              rw [hus] at u2
              rw [hms] at m2
              obtain ⟨na, nc, rfl⟩ := ownsRow_form u2
              obtain ⟨ma, mc, rfl⟩ := ownsRow_form m2
              have BOI := Lib.hid (HB9.out.keeps KI.out (by show w5.heap.size < wo2.heap.size; omega))
              have BI := Lib.hid (BO.out.keeps KI.out (by show w.heap.size < wo2.heap.size; omega))
              have L1' : Hid (∀ x, (Value.slice na k nc).ownBlock = some x → x < wo2.heap.size ∧ V6.heap.size ≤ x) := Lib.hid (by obtain ⟨us', h0, h2, _⟩ := HNXL.out; exact fun x e => ⟨(h2.lt x e).2, (h2.lt x e).1⟩)
              have L2' : Hid (∀ x, (Value.slice ma k mc).ownBlock = some x → x < wo2.heap.size ∧ V6.heap.size ≤ x) := Lib.hid (by obtain ⟨us', h0, h2, _⟩ := HMKL.out; exact fun x e => ⟨(h2.lt x e).2, (h2.lt x e).1⟩)
              have U1 := Lib.hid u1
              have U2 := Lib.hid u2
              have U3 := Lib.hid u3
              have M1 := Lib.hid m1
              have M2 := Lib.hid m2
              have M3 := Lib.hid m3
              have HUS := Lib.hid hus
              have HMS := Lib.hid hms
              have HML := Lib.hid hml
              have HMX := Lib.hid hmx
              have HCW := Lib.hid hcw
              clear u1 u2 u3 m1 m2 m3 hus hms hml hmx HNXL HMKL hc2 hsl2 hkl hcw hml2
              obtain ⟨PL, hPL⟩ : ∃ PL : List Ap3.App, PL = [(nxApp wi.heap.size (.slice na k nc) k us (.slice ta j tc)), (mkApp wi.heap.size (.slice ma k mc) k ms ml mx)] := ⟨_, rfl⟩
              have hp0 : PL[0]? = some (nxApp wi.heap.size (.slice na k nc) k us (.slice ta j tc)) := by rw [hPL]; rfl
              have hp1 : PL[1]? = some (mkApp wi.heap.size (.slice ma k mc) k ms ml mx) := by rw [hPL]; rfl
              have hall : ∀ q ∈ PL, q = (nxApp wi.heap.size (.slice na k nc) k us (.slice ta j tc)) ∨ q = (mkApp wi.heap.size (.slice ma k mc) k ms ml mx) := fun q hq => by rw [hPL] at hq; simpa using hq
              have OKA : Hid (Ap3.AppOk wi PL) := Lib.hid ⟨fun q hq => by rcases hall q hq with rfl | rfl <;> exact Nat.le_refl _, fun q hq x e => by
                rcases hall q hq with rfl | rfl
                · have := L1'.out x e; omega
                · have := L2'.out x e; omega, fun i j q q' hi hj hij => by
                have hl : PL.length = 2 := by rw [hPL]; rfl
                have h1 := (List.getElem?_eq_some_iff.1 hi).1
                have h2 := (List.getElem?_eq_some_iff.1 hj).1
                rcases (show i = 0 ∨ i = 1 by omega) with rfl | rfl <;> rcases (show j = 0 ∨ j = 1 by omega) with rfl | rfl <;> (first | (exact absurd rfl hij) | skip) <;> (first | rw [hp0] at hi | rw [hp1] at hi) <;> (first | rw [hp0] at hj | rw [hp1] at hj) <;> cases hi <;> cases hj
                · exact FAR.out
                · exact FAR.out.symm⟩
              have hnp : ∀ x, (x < V6.heap.size ∨ wo2.heap.size ≤ x) → ¬ ∃ q ∈ PL, q.v.ownBlock = some x := fun x hx ⟨q, hq, e⟩ => by
                rcases hall q hq with rfl | rfl
                · have := L1'.out x e; omega
                · have := L2'.out x e; omega
              have HALL := Lib.hid hall
              have HNP := Lib.hid hnp
              have HKW : Hid (∀ W', Ap3.MoveA V6.heap.size wi PL wi W' → Below w.heap.size w W') := Lib.hid fun W' h => XI.out.trans (h.keeps.mono fun x hx => ⟨by have : x < w.heap.size := hx; omega, hnp x (by have : x < w.heap.size := hx; omega)⟩ : Keeps (· < w.heap.size) wi W').below
              clear hPL hall hnp
              skip --F0
              go_upto_region 20 with fail
              have HST : Hid (∀ W W' u, Ap3.MoveA V6.heap.size wi PL W W' → (u.oneCell' = true ∧ W.ownsRow wi.heap.size 3 1 u ml mx) → (u.oneCell' = true ∧ W'.ownsRow wi.heap.size 3 1 u ml mx)) := Lib.hid fun W W' u hm h => ⟨h.1, ownsRow_keeps h.2 hm.keeps fun x hx => ⟨(h.2.lt x hx).2, HNP.out x (.inr (by have := (h.2.lt x hx).1; omega))⟩⟩
              refine RegG.wp_region_regM (Ap3.MoveA V6.heap.size wi PL) (Ap3.MoveA.drew) (fun _ _ _ h k => h.trans k) (by kernel_rfl) 16 [0, 1, 0, 4, 15, 0, 32, 0, 128, 0, 896, 1920, 3999, 8095, 16383, 127, 65535, 131071, 262143] (fun i => i == 3 || i == 4 || i == 12 || i == 13 || i == 14) (by kernel_rfl) (fun j => if j = 14 then some 72 else none) (fun j hj => (by first | rfl | (have hj2 : 19 ≤ j := hj; first | exact if_neg (by omega) | (split <;> first | omega | rfl)))) (by kernel_rfl) (fun i => if i = 3 then Ap3.EffA.boxA V6.heap.size wi PL 1 #[.slice ta j tc] 33 else if i = 4 then Ap3.EffA.app V6.heap.size wi PL (nxApp wi.heap.size (.slice na k nc) k us (.slice ta j tc)) (List.mem_of_getElem? hp0) else if i = 12 then Ap3.EffA.row V6.heap.size wi PL OKA.out wi.heap.size (Nat.le_refl _) 3 1 ml mx else if i = 13 then Ap3.EffA.boxH V6.heap.size wi PL 33 (fun W u => u.oneCell' = true ∧ W.ownsRow wi.heap.size 3 1 u ml mx) HST.out else if i = 14 then Ap3.EffA.appFar V6.heap.size wi PL (mkApp wi.heap.size (.slice ma k mc) k ms ml mx) (List.mem_of_getElem? hp1) else RegG.Eff.any _) ?_
              intro C hC hne
              have HC := Lib.hid hC
              have hin : ∀ {x : Nat}, x < wi.heap.size → (¬ ∃ q ∈ PL, q.v.ownBlock = some x) → ∀ W : { W // C W }, W.1.heap[x]? = wi.heap[x]? := fun {x} h1 h2 W => ((hC W.1).1 W.2).keeps.keep x ⟨h1, h2⟩
              have o1 : ∀ W : { W // C W }, W.1.cell? ⟨w5.heap.size, 1, none⟩ = some (.slice na k nc) := fun W => (BOI.out.same (hin BOI.out.lt (HNP.out _ (by omega)) W)).cell 1
              have o2 : ∀ W : { W // C W }, W.1.cell? ⟨w5.heap.size, 2, none⟩ = some (.slice ma k mc) := fun W => (BOI.out.same (hin BOI.out.lt (HNP.out _ (by omega)) W)).cell 2
              have o3 : ∀ W : { W // C W }, W.1.cell? ⟨w.heap.size, 2, none⟩ = some (.slice (some ⟨b2, off2, none⟩) n c2) := fun W => (BI.out.same (hin BI.out.lt (HNP.out _ (by omega)) W)).cell 2
              have o4 : ∀ W : { W // C W }, W.1.cell? ⟨b2, off2 + s, none⟩ = some (.slice ad2 ml cp2) := fun W => by
                have e : W.1.cell? ⟨b2, off2 + s, none⟩ = wi.cell? ⟨b2, off2 + s, none⟩ := by
                  unfold World.cell?
                  rw [hin (x := b2) (by have := XI.out.size; omega) (HNP.out b2 (by omega)) W]
                exact e.trans HCW.out
              clear hC hin
              skip --F1
              repeat (refine RegG.regStep (fun K hK => ?_); first | (refine RegG.regN rfl ?_; try go_simp; refine hK _ _ ?_; clear hK K) | (refine RegG.regF rfl rfl ?_; unfold floatAt; go_simp; refine hK _ _ ?_; clear hK K))
              skip --F2
              refine RegG.regStep (fun K hK => ?_)
              refine RegG.regE rfl rfl (Ap3.EffA.boxA V6.heap.size wi PL 1 #[.slice ta j tc] 33) rfl (fun W hW hN => ?_) (fun v hv => ?_)
              · have hM := (HC.out W).1 hW
                clear hW hK K
                (go_simp; exact ⟨.below ((Ext.refl _).alloc _).below, ⟨_, rfl⟩, fun b hb => by cases hb; exact ⟨Blk.new _ _ _, OKA.out.fresh hM.size⟩⟩)
              obtain ⟨x3, rfl⟩ := hv
              go_simp
              refine hK _ _ ?_
              clear hK K
              refine RegG.regStep (fun K hK => ?_)
              refine RegG.regE rfl rfl (Ap3.EffA.app V6.heap.size wi PL (nxApp wi.heap.size (.slice na k nc) k us (.slice ta j tc)) (List.mem_of_getElem? hp0)) rfl (fun W hW hN => ?_) (fun v hv => ?_)
              · have hM := (HC.out W).1 hW
                clear hW hK K
                refine Ap3.effT_appendA (w0 := wi) (PL := PL) (p := (nxApp wi.heap.size (.slice na k nc) k us (.slice ta j tc))) (.tmp 69) (.tmp 71) 27 rfl iL (.slice none 0 0) 24 Tryz.underlying27 hiL hzL0 hzL1 hzL2 rfl (show (0 : Nat) < 1 from by decide) OKA.out hp0 rfl (hM.old _ (List.mem_of_getElem? hp0) U2.out) ⟨x3, 0, none⟩ 1 rfl [.slice ta j tc] rfl rfl (news_blk (hN.at 0 rfl (by kernel_rfl) x3 rfl).1) (by intro u hu; simp at hu; rw [hu]; rfl) (by show k + 1 ≤ maxLen; unfold maxLen; omega) (by show (k + 1) * 24 ≤ _; omega) (Nat.le_trans (by omega) hM.size) (show (0 : Nat) < 1 from by decide) hM.size (fun v W2 g1 g2 g3 _ => ⟨g1, g2, g3⟩)
              obtain ⟨na3, nc3, hv2⟩ := hv; replace hv2 : v = .slice na3 (k + 1) nc3 := hv2; subst hv2
              go_simp
              refine hK _ _ ?_
              clear hK K
              skip --F3
              repeat (refine RegG.regStep (fun K hK => ?_); first | (refine RegG.regN rfl ?_; try go_simp; refine hK _ _ ?_; clear hK K) | (refine RegG.regF rfl rfl ?_; unfold floatAt; go_simp; refine hK _ _ ?_; clear hK K))
              refine RegG.regStep (fun K hK => ?_)
              refine RegG.regE rfl rfl (Ap3.EffA.row V6.heap.size wi PL OKA.out wi.heap.size (Nat.le_refl _) 3 1 ml mx) rfl (fun W hW hN => ?_) (fun v hv => ?_)
              · have hM := (HC.out W).1 hW
                clear hW hK K
                (go_simp; refine effT_call ((CM1.out W (HKW.out _ hM)).mono ?_); rintro e w2 ⟨um, rfl, ho, hx⟩; exact ⟨_, rfl, .below hx, ownsRow_form ho, ownsRow_base ho hM.size⟩)
              obtain ⟨a9, c9, rfl⟩ := hv
              go_simp
              refine hK _ _ ?_
              clear hK K
              skip --F4
              refine RegG.regStep (fun K hK => ?_)
              refine RegG.regE rfl rfl (Ap3.EffA.boxH V6.heap.size wi PL 33 (fun W u => u.oneCell' = true ∧ W.ownsRow wi.heap.size 3 1 u ml mx) HST.out) rfl (fun W hW hN => ?_) (fun v hv => ?_)
              · have hM := (HC.out W).1 hW
                clear hW hK K
                (go_simp; exact ⟨.below ((Ext.refl _).alloc _).below, ⟨_, rfl⟩, fun b hb => by cases hb; exact ⟨⟨_, Blk.new _ _ _, rfl, (show W.ownsRow wi.heap.size 3 1 (.slice a9 ml c9) ml mx from hN.at 0 rfl (by kernel_rfl)).alloc _⟩, OKA.out.fresh hM.size⟩⟩)
              obtain ⟨x10, rfl⟩ := hv
              go_simp
              refine hK _ _ ?_
              clear hK K
              refine RegG.regStep (fun K hK => ?_)
              refine RegG.regE rfl rfl (Ap3.EffA.appFar V6.heap.size wi PL (mkApp wi.heap.size (.slice ma k mc) k ms ml mx) (List.mem_of_getElem? hp1)) rfl (fun W hW hN => ?_) (fun v hv => ?_)
              · have hM := (HC.out W).1 hW
                have hq : Ap3.After V6.heap.size wi (nxApp wi.heap.size (.slice na k nc) k us (.slice ta j tc)) W (.slice na3 (k + 1) nc3) := hN.at 2 rfl (by kernel_rfl)
                obtain ⟨⟨ub, hb1, hb2, hb3⟩, _⟩ := hN.at 0 rfl (by kernel_rfl) x10 rfl
                clear hW hK K
                refine Ap3.effT_appendA (w0 := wi) (PL := PL) (p := (mkApp wi.heap.size (.slice ma k mc) k ms ml mx)) (.tmp 74) (.tmp 81) 27 rfl iL (.slice none 0 0) 24 Tryz.underlying27 hiL hzL0 hzL1 hzL2 rfl (show (0 : Nat) < 1 from by decide) OKA.out hp1 rfl (hM.old _ (List.mem_of_getElem? hp1) M2.out) ⟨x10, 0, none⟩ 1 rfl [ub] ⟨ub, rfl, hb2, hb3⟩ rfl (news_blk hb1) (by intro u hu; simp at hu; rw [hu]; exact hb2) (by show k + 1 ≤ maxLen; unfold maxLen; omega) (by show (k + 1) * 24 ≤ _; omega) (Nat.le_trans (by omega) hM.size) (show (0 : Nat) < 1 from by decide) hM.size (fun v W2 g1 g2 g3 g4 => ⟨g1, g2, g3, ?_⟩)
                rcases g4 with g4 | g4
                · exact .inl g4
                · refine .inr (.inr fun e => ?_)
                  rw [g4] at e
                  obtain ⟨⟨ns, h5, _⟩, _⟩ := hq
                  have := (h5.lt _ e.symm).2
                  omega
              obtain ⟨ma3, mc3, hv2⟩ := hv
              replace hv2 : v = .slice ma3 (k + 1) mc3 := hv2
              subst hv2
              go_simp
              refine hK _ _ ?_
              clear hK K
              skip --F5
              repeat (refine RegG.regStep (fun K hK => ?_); first | (refine RegG.regN rfl ?_; try go_simp; refine hK _ _ ?_; clear hK K) | (refine RegG.regF rfl rfl ?_; unfold floatAt; go_simp; refine hK _ _ ?_; clear hK K))
              refine RegG.regNil (fun W7 hW hH => ?_)
              have hM := (HC.out W7).1 hW
              have Q0 : Hid (Ap3.After V6.heap.size wi (nxApp wi.heap.size (.slice na k nc) k us (.slice ta j tc)) W7 (.slice na3 (k + 1) nc3)) := Lib.hid (hH _ (List.mem_of_getElem? (show _ = some _ from rfl : _[3]? = some _)))
              have Q1 : Hid (Ap3.After V6.heap.size wi (mkApp wi.heap.size (.slice ma k mc) k ms ml mx) W7 (.slice ma3 (k + 1) mc3) ∧ ((Value.slice ma3 (k + 1) mc3).ownBlock = (Value.slice ma k mc).ownBlock ∨ Far (.slice ma3 (k + 1) mc3) (.slice na3 (k + 1) nc3))) := Lib.hid (hH _ (List.mem_of_getElem? (show _ = some _ from rfl : _[0]? = some _)))
              have K7 : Hid (Keeps (fun x => x < wi.heap.size ∧ ¬ ∃ q ∈ PL, q.v.ownBlock = some x) wi W7) := Lib.hid hM.keeps
              have KR : Hid (∀ (e : TypeId) (bs sz m : Nat) (u : Value) (ys : List Value), e ≠ 33 → wi.ownsRow bs e sz u m ys → W7.ownsRow bs e sz u m ys) := Lib.hid (by
                intro e bs sz m u ys he ho
                refine ownsRow_keeps ho K7.out fun x hx => ⟨(ho.lt x hx).2, ?_⟩
                rintro ⟨q, hq, hqb⟩
                rcases HALL.out q hq with rfl | rfl
                · rcases ownBlock_ne he ho U2.out with h5 | h5
                  · rw [h5] at hx; cases hx
                  · exact h5 (hx.trans hqb.symm)
                · rcases ownBlock_ne he ho M2.out with h5 | h5
                  · rw [h5] at hx; cases hx
                  · exact h5 (hx.trans hqb.symm))
              have B7 := Lib.hid (BOI.out.keeps K7.out ⟨BOI.out.lt, HNP.out _ (.inl (by omega))⟩)
              have K8 : Hid (Keeps (fun x => x < V6.heap.size ∧ x ≠ w5.heap.size) V6 W7) := Lib.hid ((HX.out.tr (KI.out.mono fun x hx => by have := hx.1; show x < wo2.heap.size; omega)).tr (K7.out.mono fun x hx => ⟨by have := hx.1; omega, HNP.out x (.inl hx.1)⟩))
              have O7 : Hid (OwnLL V6.heap.size W7 (.slice na3 (k + 1) nc3) ((L.take (k + 1)).map (rowR d))) := Lib.hid (by
                obtain ⟨⟨ns, h5, h6⟩, _⟩ := Q0.out
                have h6 : ns = [.slice ta j tc] := h6
                subst h6
                rw [HTK.out, List.map_append]
                refine OwnLL.more U1.out HUS.out h5 (fun i u l hu hl => KR.out _ _ _ _ _ _ (by decide) (U3.out i u l hu hl)) ?_
                rw [HRL.out]
                exact ownsRow_base (KR.out _ _ _ _ _ _ (by decide) TV.out) (by omega))
              have P7 : Hid (OwnLL V6.heap.size W7 (.slice ma3 (k + 1) mc3) ((L.take (k + 1)).map fun s => d.mr.getD s [])) := Lib.hid (by
                obtain ⟨⟨⟨ns, h5, u, h6, _, h7⟩, _⟩, _⟩ := Q1.out
                have h6 : ns = [u] := h6
                subst h6
                rw [HTK.out, List.map_append]
                refine OwnLL.more M1.out HMS.out h5 (fun i u l hu hl => KR.out _ _ _ _ _ _ (by decide) (M3.out i u l hu hl)) ?_
                rw [← HML.out, ← HMX.out]
                exact ownsRow_base h7 (by omega))
              have FR : Hid (Far (.slice na3 (k + 1) nc3) (.slice ma3 (k + 1) mc3)) := Lib.hid (by
                rcases Q1.out.2 with h | h
                · rcases Q0.out.2 with h' | h'
                  · rcases FAR.out with h3 | h3
                    · exact .inl (h'.trans h3)
                    · exact .inr (by rw [h', h]; exact h3)
                  · by_cases e : (Value.slice na3 (k + 1) nc3).ownBlock = none
                    · exact .inl e
                    · right
                      intro e2
                      rw [h] at e2
                      cases e3 : (Value.slice ma k mc).ownBlock with
                      | none => rw [e3] at e2; exact e e2
                      | some x => rw [e3] at e2; have := h' x e2; have := (L2'.out x e3).1; omega
                · exact h.symm)
              clear hM hW hH HC o1 o2 o3 o4 hp0 hp1 OKA HALL HNP HKW HST K7 KR BOI BI TV Q0 Q1 L1' L2' U1 U2 U3 M1 M2 M3 HUS HMS HML HMX CM1 HTK hne
              obtain ⟨⟨k0, k1, k2⟩, z0, z1, z2⟩ := B7.out.three
              skip --F6
              go_wp2
              go_roundw
              case rel =>
                have kg : Keeps (· ≠ w5.heap.size) W7 ((W7.setCell ⟨w5.heap.size, 1, none⟩ (.slice na3 (k + 1) nc3)).setCell ⟨w5.heap.size, 2, none⟩ (.slice ma3 (k + 1) mc3)) :=
                  ((Keeps.refl _ _).setCell (p := ⟨w5.heap.size, 1, none⟩) (fun h => h rfl) _).setCell (p := ⟨w5.heap.size, 2, none⟩) (fun h => h rfl) _
                exact ⟨k + 1, _, _, by omega, by go_num, (B7.out.set 1 _).set 2 _, O7.out.keeps kg (fun x h1 _ e => by omega), P7.out.keeps kg (fun x h1 _ e => by omega), FR.out, K8.out.tr (kg.mono fun x hx => hx.2)⟩
              case measure => simp [intOf]; omega
        · obtain rfl : k = i := by omega
          have hki : ¬ ((k : Int) < k) := by omega
          have htk : L.take k = L := List.take_of_length_le (by rw [← HM.out]; exact Nat.le_refl _)
          have NXF := Lib.hid HNXL.out
          have MKF := Lib.hid HMKL.out
          rw [htk, HL.out] at NXF MKF
          obtain ⟨na, nc, rfl⟩ := NXF.out.form
          obtain ⟨ma, mc, rfl⟩ := MKF.out.form
          obtain ⟨⟨k0, k1, k2⟩, _⟩ := HB9.out.three
          obtain ⟨⟨l0, l1, l2⟩, z0, z1, z2⟩ := RO.out.three
          clear htk
          obtain ⟨q1, hq1⟩ : ∃ q, q = ((reachD d).map (rowR d)).length := ⟨_, rfl⟩
          obtain ⟨q2, hq2⟩ : ∃ q, q = ((reachD d).map fun s => d.mr.getD s []).length := ⟨_, rfl⟩
          rw [← hq1] at k1 NXF
          rw [← hq2] at k2 MKF
          rw [← hq1, ← hq2] at HB9
          clear hq1 hq2
          skip --G1
          go_wp2
          refine post_named ?_
          intro W9 hW9
          have E9 : Hid (Blk W9 (w.heap.size + 1) #[.slice ca K cc, .slice na q1 nc, .slice ma q2 mc] 29 ∧ Keeps (· ≠ w.heap.size + 1) wo2 W9) := by
            rw [hW9]
            exact Lib.hid ⟨RO.out.set3, keeps3t _ _ _ _ _⟩
          clear hW9 z0 z1 z2 k0 k1 k2 l0 l1 l2
          obtain ⟨⟨m0, m1, m2⟩, _⟩ := E9.out.1.three
          refine bodyPost_ret (v := .tuple #[.agg #[.slice ca K cc, .slice na q1 nc, .slice ma q2 mc], .int .i64 0]) (by simp [results, Tryz.results34, go_sem, m0, m1, m2]) rfl ⟨_, rfl, ⟨_, _, _, rfl, ?_, ?_, ?_⟩, XO.out.trans (E9.out.2.mono fun x (hx : x < w.heap.size) => by show x ≠ w.heap.size + 1; omega : Keeps (· < w.heap.size) wo2 W9).below⟩
          · have h5 := ownsRow_base (base' := w.heap.size) (ownsRow_keeps CO.out E9.out.2 fun x e => by have := (CO.out.lt x e).1; show x ≠ _; omega) (by omega)
            show W9.ownsRow w.heap.size 65 4 _ d.cl.length _
            rw [← HK.out]; exact h5
          · exact (NXF.out.keeps E9.out.2 fun x h1 _ => by show x ≠ _; omega).base (by omega)
          · exact (MKF.out.keeps E9.out.2 fun x h1 _ => by show x ≠ _; omega).base (by omega)
end Go.Proofs.YthdnlndpmmiboaaGreatDoor
