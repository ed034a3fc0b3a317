/-
  dfa.Reached and dfa.Trim of automata that are not right.
  The reference's Reached.
-/
import Derived.Test.YthdnlndpmmiboaaGreatDoorR33
import Derived.Test.YthdnlndpmmiboaaGreatDoorR34
import Derived.Test.YthdnlndpmmiboaaGreatDoorR11
namespace Go.Proofs.YthdnlndpmmiboaaGreatDoor
open Go Go.RowKit Go.Shelf Go.Maps

set_option maxRecDepth 100000 in
set_option maxHeartbeats 4000000 in
theorem reachedNo_any (v : Value) (d : DF) (sm : Sm d) (hr : d.right = false) (w : World) (h : IsDf w v d) :
    Calls Tryz.prog 33 #[v] w fun e w' => e = .returned (.tuple #[.slice none 0 0, .int .i64 182]) ∧ Below w.heap.size w w' := by
  have CR : Hid (∀ W, Below w.heap.size w W → Calls Tryz.prog 28 #[v] W fun e w' => e = .returned (.bool false) ∧ Below W.heap.size W w') := fun W hW => by
    have := right_any v d W (h.below hW) sm
    rwa [hr] at this
  obtain ⟨v0, v1, v2, rfl, h0, h1, h2⟩ := h
  obtain ⟨a0, c0, rfl⟩ := h0.1.form
  obtain ⟨a1, c1, rfl⟩ := h1.form
  obtain ⟨a2, c2, rfl⟩ := h2.form
  generalize d.cl.length = n0 at *
  generalize d.nx.length = n1 at *
  generalize d.mr.length = n2 at *
  clear h0 h1 h2 sm hr
  go_enter Tryz.func33, Tryz.ntmps33
  go_wp2_with fail
  refine calls_named ?_
  intro V hV
  have X1 : Hid (Below w.heap.size w V) := by rw [hV]; exact Lib.hid ((Ext.refl w).alloc _).below
  clear hV
  refine (CR.out _ X1.out).mono ?_
  rintro e w2 ⟨rfl, hx⟩
  have X2 := Lib.hid (X1.out.trans (hx.mono X1.out.size))
  clear hx X1
  go_wp2
  refine bodyPost_ret (v := .tuple #[.slice none 0 0, .int .i64 182]) (by simp [results, Tryz.results33, go_sem]) rfl ⟨rfl, X2.out⟩
set_option maxRecDepth 100000 in
set_option maxHeartbeats 4000000 in
theorem trimNo_any (v : Value) (d : DF) (sm : Sm d) (hr : d.right = false) (w : World) (h : IsDf w v d) :
    Calls Tryz.prog 34 #[v] w fun e w' => e = .returned (.tuple #[.agg #[.slice none 0 0, .slice none 0 0, .slice none 0 0], .int .i64 182]) ∧ Below w.heap.size w w' := by
  have CR : Hid (∀ W, Below w.heap.size w W → Calls Tryz.prog 33 #[v] W fun e w' => e = .returned (.tuple #[.slice none 0 0, .int .i64 182]) ∧ Below W.heap.size W w') := fun W hW => reachedNo_any v d sm hr W (h.below hW)
  obtain ⟨v0, v1, v2, rfl, h0, h1, h2⟩ := h
  obtain ⟨a0, c0, rfl⟩ := h0.1.form
  obtain ⟨a1, c1, rfl⟩ := h1.form
  obtain ⟨a2, c2, rfl⟩ := h2.form
  generalize d.cl.length = n0 at *
  generalize d.nx.length = n1 at *
  generalize d.mr.length = n2 at *
  clear h0 h1 h2 sm hr
  go_enter Tryz.func34, Tryz.ntmps34
  go_wp2_with fail
  refine calls_named ?_
  intro V hV
  have X1 : Hid (Below w.heap.size w V) := by rw [hV]; exact Lib.hid (((Ext.refl w).alloc _).alloc _).below
  have B1 : Hid (Blk V (w.heap.size + 1) #[.slice none 0 0, .slice none 0 0, .slice none 0 0] 29) := by rw [hV]; exact Lib.hid ((Blk.new (w.alloc _) _ _).at (by simp))
  clear hV
  refine (CR.out _ X1.out).mono ?_
  rintro e w2 ⟨rfl, hx⟩
  have X2 := Lib.hid (X1.out.trans (hx.mono X1.out.size))
  have B2 := Lib.hid (B1.out.below hx B1.out.lt)
  clear hx X1 B1
  obtain ⟨⟨l0, l1, l2⟩, z0, z1, z2⟩ := B2.out.three
  go_wp2
  refine post_named ?_
  intro W9 hW9
  have E9 : Hid (Blk W9 (w.heap.size + 1) #[.slice none 0 0, .slice none 0 0, .slice none 0 0] 29 ∧ Keeps (· ≠ w.heap.size + 1) w2 W9) := by
    rw [hW9]
    exact Lib.hid ⟨B2.out.set3, keeps3t _ _ _ _ _⟩
  clear hW9 z0 z1 z2 l0 l1 l2
  obtain ⟨⟨m0, m1, m2⟩, _⟩ := E9.out.1.three
  refine bodyPost_ret (v := .tuple #[.agg #[.slice none 0 0, .slice none 0 0, .slice none 0 0], .int .i64 182]) (by simp [results, Tryz.results34, go_sem, m0, m1, m2]) rfl ⟨rfl, X2.out.trans (E9.out.2.mono fun x (hx : x < w.heap.size) => by show x ≠ w.heap.size + 1; omega : Keeps (· < w.heap.size) w2 W9).below⟩
end Go.Proofs.YthdnlndpmmiboaaGreatDoor
namespace Go.Proofs.YthdnlndpmmiboaaGreatDoor
open Go Go.RowKit Go.Shelf Go.Maps

theorem mem_take_more {L : List Nat} {j x t : Nat} (h : L[j]? = some x) : (t ∈ L.take (j + 1)) ↔ (t ∈ L.take j ∨ x = t) := by
  rw [List.take_add_one, h]
  simp [eq_comm]
set_option maxRecDepth 100000 in
set_option maxHeartbeats 8000000 in
theorem refReached18_any (v : Value) (d : DF) (rt : Rt d) (w : World) (h : IsRf w v d) :
    Calls Tryz.prog 39 #[v] w fun e w' => ∃ u, e = .returned u ∧ w'.ownsRow w.heap.size 3 1 u (reachD d).length ((reachD d).map encN) ∧ Below w.heap.size w w' := by
  obtain ⟨iI, hiI, hzI0, hzI1, hzI2⟩ := info_parts Tryz.infoI
  obtain ⟨v0, v1, v2, rfl, h0, h1, h2⟩ := h
  obtain ⟨a0, c0, rfl⟩ := h0.form
  obtain ⟨a1, c1, rfl⟩ := h1.form
  obtain ⟨a2, c2, rfl⟩ := h2.form
  rw [List.length_map] at h0 ⊢
  generalize d.mr.length = n2 at *
  obtain ⟨n, hn⟩ : ∃ n, n = d.nx.length := ⟨_, rfl⟩
  obtain ⟨K, hK⟩ : ∃ n, n = d.cl.length := ⟨_, rfl⟩
  have hn4 : n ≤ 4000 := by have := rt.le; omega
  have hn1 : 1 ≤ n := by have := rt.pos; omega
  have hK2 : K ≤ 256 := by have := rt.clle; omega
  rw [← hn] at h1 ⊢
  rw [← hK] at h0 ⊢
  have H1 := Lib.hid h1
  have HN := Lib.hid hn
  have HK := Lib.hid hK
  have RT := Lib.hid rt
  clear h0 h1 h2 hn hK rt
  go_enter Tryz.func39, Tryz.ntmps39
  go_wp2
  refine wp_named ?_
  intro V hV
  have B1 : Hid (Blk V w.heap.size #[.slice a0 K c0, .slice a1 n c1, .slice a2 n2 c2] 48) := Lib.hid (by rw [hV]; exact (Blk.new w _ _).alloc _)
  have O1 : Hid (Blk V (w.heap.size + 1) #[.int .i64 0] 3) := Lib.hid (by rw [hV]; exact (Blk.new (w.alloc _) _ _).at (by simp))
  have X1 : Hid (Below w.heap.size w V) := Lib.hid (by rw [hV]; exact (((Ext.refl w).alloc _).alloc _).below)
  clear hV
  have hsV : w.heap.size + 1 < V.heap.size := O1.out.lt
  have XB : Hid (∀ W, Keeps (fun x => x < w.heap.size + 1) V W → Below w.heap.size w W) := Lib.hid fun W k => X1.out.trans (k.mono fun x (hx : x < w.heap.size) => by show x < w.heap.size + 1; omega : Keeps (· < w.heap.size) V W).below
  skip --A3
  go_loopw [3, 4] (fun ov iv wr => ∃ (i : Nat) (L : List Nat), iv = .int .i64 i ∧ L = bfs d i ∧ i ≤ L.length ∧ wr.ownsRow (w.heap.size + 1) 3 1 ov L.length (L.map encN) ∧ Keeps (fun x => x < w.heap.size + 1) V wr) (fun _ iv _ => n - (intOf iv).toNat)
  case atStart =>
    exact ⟨0, [0], rfl, rfl, Nat.zero_le _, ⟨rfl, .inr ⟨w.heap.size + 1, 1, #[.int .i64 0], rfl, Nat.le_refl _, O1.out, Nat.le_refl _, by unfold maxLen; omega, rfl, rfl⟩⟩, Keeps.refl _ _⟩
  case round =>
    obtain ⟨i, L, rfl, hL, hiL, ho, hx⟩ := hrel
    obtain ⟨wo, rfl⟩ : ∃ wo : World, wo = wr := ⟨_, rfl⟩
    have IL : Hid (InN n L) := Lib.hid (by rw [hL, HN.out]; exact bfs_in RT.out i)
    have hLn := IL.out.len
    have HX := Lib.hid hx
    have HO := Lib.hid ho
    have HL := Lib.hid hL
    clear hx ho hL
    obtain ⟨m, hm⟩ : ∃ m, m = L.length := ⟨_, rfl⟩
    rw [← hm] at HO hiL hLn
    have HM := Lib.hid hm
    clear hm
    obtain ⟨oa, oc, rfl⟩ := ownsRow_form HO.out
    by_cases hlt : i < m
    · obtain ⟨s, hs⟩ : ∃ s, L[i]? = some s := ⟨_, List.getElem?_eq_getElem (by have := HM.out; omega)⟩
      have hsn : s < n := IL.out.lt s (List.mem_of_getElem? hs)
      have hrow : d.nx[s]? = some (d.nx.getD s []) := by
        rw [List.getD_eq_getElem?_getD, List.getElem?_eq_getElem (by rw [← HN.out]; exact hsn)]; rfl
      obtain ⟨b, off, a', c', rfl, hb, hc, hsl⟩ := H1.out.elem hrow
      have hrl : (d.nx.getD s []).length = K := by rw [HK.out]; exact RT.out.len s (by rw [← HN.out]; exact hsn)
      rw [hrl] at hc hsl
      have HSL := Lib.hid hsl
      have HCC := Lib.hid hc
      have HNX : Hid (∀ k, k < K → ∃ t : Nat, t < n ∧ (d.nx.getD s [])[k]? = some (t : Int) ∧ (nxL d s)[k]? = some t) := Lib.hid fun k hk => by
        obtain ⟨t, e1, e2, e3⟩ := nxL_at RT.out (s := s) (k := k) (by rw [← HN.out]; exact hsn) (by rw [← HK.out]; exact hk)
        exact ⟨t, by rw [HN.out]; exact e1, e2, e3⟩
      have HNL : Hid (bfs d (i + 1) = (nxL d s).foldl addN L ∧ (nxL d s).length = K) := Lib.hid ⟨by rw [bfs_next (by rw [← HL.out]; exact hs), ← HL.out], by rw [HK.out]; exact nxL_len RT.out (by rw [← HN.out]; exact hsn)⟩
      have hii : (i : Int) < m := by omega
      have hsi : (s : Int) < n := by omega
      have HLI := Lib.hid hs
      clear hs hsl hrow hrl hc
      go_wp2
      skip --B2
      go_loopw [3, 5] (fun ov jv wr => ∃ (j : Nat) (L' : List Nat), j ≤ K ∧ jv = .int .i64 j ∧ L' = ((nxL d s).take j).foldl addN L ∧ wr.ownsRow (w.heap.size + 1) 3 1 ov L'.length (L'.map encN) ∧ Keeps (fun x => x < w.heap.size + 1) V wr) (fun _ jv _ => K - (intOf jv).toNat)
      case atStart => exact ⟨0, L, Nat.zero_le _, rfl, rfl, by rw [← HM.out]; exact HO.out, HX.out⟩
      case round =>
        obtain ⟨j, L', hj, rfl, hL', ho, hx⟩ := hrel
        obtain ⟨wi, rfl⟩ : ∃ wi : World, wi = wr := ⟨_, rfl⟩
        have IL' : Hid (InN n L') := Lib.hid (by
          rw [hL']
          refine IL.out.fold _ fun t ht => ?_
          have := nxL_lt RT.out (s := s) (by rw [← HN.out]; exact hsn) t (List.mem_of_mem_take ht)
          rw [HN.out]; exact this)
        have hLn' := IL'.out.len
        have HO' := Lib.hid ho
        have HX' := Lib.hid hx
        have hpre : L'[i]? = some s := by rw [hL']; exact fold_pre _ _ HLI.out
        have hmm : m ≤ L'.length := by rw [HM.out, hL']; exact fold_len _ _
        have HL' := Lib.hid hL'
        clear ho hx hL'
        obtain ⟨m', hm'⟩ : ∃ m, m = L'.length := ⟨_, rfl⟩
        rw [← hm'] at HO' hLn' hmm
        have HM' := Lib.hid hm'
        clear hm'
        obtain ⟨oa, oc', rfl⟩ := ownsRow_form HO'.out
        have BW := Lib.hid (B1.out.keeps HX'.out (by show w.heap.size < w.heap.size + 1; omega))
        have hbk0 := BW.out.cell 0
        have hbk1 := BW.out.cell 1
        simp only [List.getElem?_toArray, List.getElem?_cons_zero, List.getElem?_cons_succ] at hbk0 hbk1
        by_cases hjl : j < K
        · obtain ⟨t, htn, hz, htl⟩ := HNX.out j hjl
          have XW := Lib.hid (XB.out wi HX'.out)
          obtain ⟨b', off', rfl, hb', hc'⟩ := (HSL.out.below XW.out).elem hz
          replace hc' : wi.cell? ⟨b', off' + j, none⟩ = some (.int .i64 (t : Int)) := hc'
          have hcn : wi.cell? ⟨b, off + s, none⟩ = some (.slice (some ⟨b', off', none⟩) K c') := ((Keeps.of_below XW.out fun _ h => h : Keeps (· < w.heap.size) w wi).cell (p := ⟨b, off + s, none⟩) hb).trans HCC.out
          have hbi : b < wi.heap.size := Nat.lt_of_lt_of_le hb XW.out.size
          obtain ⟨og, ou, rfl, hog1, hog2, hou, hoc, _⟩ := rowCell HO'.out (show i < m' by omega)
          rw [List.getElem?_map, hpre] at hou
          cases hou
          replace hoc : wi.cell? ⟨og, i, none⟩ = some (.int .i64 s) := hoc
          have hji : (j : Int) < K := by omega
          have hii' : (i : Int) < m' := by omega
          have hti : (t : Int) < n := by omega
          have hstep : ((nxL d s).take (j + 1)).foldl addN L = addN L' t := by rw [fold_take L htl, HL'.out]
          have HST := Lib.hid hstep
          clear hstep hz htl hpre
          go_upto_region 8 with fail
          refine wp_region_reg false (fun _ => False) (by kernel_rfl) 12 [0, 1, 0, 0, 12, 28, 63, 127, 0, 511, 1023, 2047] (fun i => false) (by kernel_rfl) (fun i => Eff.any _) ?_
          intro C hC hne
          have HC := Lib.hid hC
          have q1 := regCell hC (p := ⟨w.heap.size, 1, none⟩) BW.out.lt (fun h => h) hbk1
          have q2 := regCell hC (p := ⟨og, i, none⟩) hog2 (fun h => h) hoc
          have q3 := regCell hC (p := ⟨b, off + s, none⟩) hbi (fun h => h) hcn
          have q4 := regCell hC (p := ⟨b', off' + j, none⟩) hb' (fun h => h) hc'
          clear hC
          skip --B3
          repeat (refine regStep (fun K hK => ?_); first | (refine regN rfl ?_; try go_simp; refine hK _ _ ?_; clear hK K) | (refine regF rfl rfl ?_; unfold floatAt; go_simp; refine hK _ _ ?_; clear hK K))
          refine regNil (fun W hW hH => ?_)
          have hM := (HC.out W).1 hW
          have hbw := hM.below
          have WO := Lib.hid (ownsRow_below HO'.out hbw)
          have WX : Hid (Keeps (fun x => x < w.heap.size + 1) V W) := Lib.hid (HX'.out.tr (Keeps.of_below hbw fun x (hx : x < w.heap.size + 1) => by have := HX'.out.size; omega))
          clear hM hbw hW hH HC q1 q2 q3 q4 hne hbk0 hbk1 hoc hcn hc' HO' HX' XW BW
          skip --B4
          go_wp2
          go_loopw [7, 8] (fun tv pv wr => ∃ p : Nat, p ≤ m' ∧ pv = .int .i64 p ∧ tv = .bool (decide (t ∈ L'.take p)) ∧ wr = W) (fun _ pv _ => m' - (intOf pv).toNat)
          case atStart => exact ⟨0, Nat.zero_le _, rfl, by simp, rfl⟩
          case round =>
            obtain ⟨p, hp, rfl, rfl, rfl⟩ := hrel
            by_cases hpl : p < m'
            · obtain ⟨x, hxp⟩ : ∃ x, L'[p]? = some x := ⟨_, List.getElem?_eq_getElem (by have := HM'.out; omega)⟩
              obtain ⟨og', ou, e1, _, _, hou, hoc, _⟩ := rowCell WO.out hpl
              cases e1
              rw [List.getElem?_map, hxp] at hou
              cases hou
              replace hoc : wr.cell? ⟨og, p, none⟩ = some (.int .i64 x) := hoc
              have hpi : (p : Int) < m' := by omega
              have hmt := mem_take_more (t := t) hxp
              have HMT := Lib.hid hmt
              clear hxp hmt
              by_cases h1 : t ∈ L'.take p
              · have d1 : decide (t ∈ L'.take p) = true := decide_eq_true h1
                have d2 : decide (t ∈ L'.take (p + 1)) = true := decide_eq_true (HMT.out.2 (.inl h1))
                have D2 := Lib.hid d2
                clear d2
                rw [d1]
                clear h1
                go_wp2
                go_roundw
                case rel => exact ⟨p + 1, by omega, by go_num, by rw [D2.out], trivial⟩
                case measure => simp [intOf]; omega
              · have d1 : decide (t ∈ L'.take p) = false := decide_eq_false h1
                rw [d1]
                by_cases h2 : x = t
                · have D2 : Hid (decide (t ∈ L'.take (p + 1)) = true) := Lib.hid (decide_eq_true (HMT.out.2 (.inr h2)))
                  have e2 : ((x : Int) == (t : Int)) = true := by rw [h2]; simp
                  clear h1
                  go_wp2
                  go_roundw
                  case rel => exact ⟨p + 1, by omega, by go_num, by rw [D2.out], trivial⟩
                  case measure => simp [intOf]; omega
                · have D2 : Hid (decide (t ∈ L'.take (p + 1)) = false) := Lib.hid (decide_eq_false fun h => (HMT.out.1 h).elim h1 h2)
                  have e2 : ((x : Int) == (t : Int)) = false := by rw [beq_eq_false_iff_ne]; omega
                  clear h1
                  go_wp2
                  go_roundw
                  case rel => exact ⟨p + 1, by omega, by go_num, by rw [D2.out], trivial⟩
                  case measure => simp [intOf]; omega
            · obtain rfl : p = m' := by omega
              have hpi : ¬ ((p : Int) < p) := by omega
              have htk : L'.take p = L' := List.take_of_length_le (by rw [HM'.out]; exact Nat.le_refl _)
              rw [htk]
              clear htk
              skip --C0
              by_cases hin : t ∈ L'
              · have d1 : decide (t ∈ L') = true := decide_eq_true hin
                rw [d1]
                have hst : addN L' t = L' := by unfold addN; rw [if_pos hin]
                have HST2 : Hid (((nxL d s).take (j + 1)).foldl addN L = L') := Lib.hid (HST.out.trans hst)
                clear hst hin
                go_wp2
                go_roundw
                case rel => exact ⟨j + 1, L', by omega, by go_num, HST2.out.symm, by rw [← HM'.out]; exact WO.out, WX.out⟩
                case measure => simp [intOf]; omega
              · have d1 : decide (t ∈ L') = false := decide_eq_false hin
                rw [d1]
                have hst : addN L' t = L' ++ [t] := by unfold addN; rw [if_neg hin]
                have HST2 : Hid (((nxL d s).take (j + 1)).foldl addN L = L' ++ [t]) := Lib.hid (HST.out.trans hst)
                have hlen2 : p + 1 ≤ n := by
                  have := (IL'.out.add htn).len
                  rw [hst, List.length_append] at this
                  have := HM'.out
                  simp at *
                  omega
                clear hst hin
                skip --C1
                go_wp2_with (at_builtin; refine wpList_append_own_at _ rfl (.tmp 51) (.tmp 53) 33 rfl (w.heap.size + 1) 3 iI (.int .i64 0) 1 8 Tryz.underlying33 hiI hzI0 hzI1 hzI2 rfl (by decide) _ _ _ rfl (WO.out.alloc _) ⟨wr.heap.size, 0, none⟩ 1 1 [encN t] rfl rfl (cell_one _ _ _) (by simp [Value.oneCell', encN]) (by unfold maxLen; omega) (by omega) (by have := WX.out.size; simp; omega) ?_; intro v' w6 hown' hgrow hh hat; have HO2 := Lib.hid hown'; have HG := Lib.hid hgrow; clear hown' hgrow hh hat)
                go_roundw
                case rel =>
                  have hlo : ∀ x, (Value.slice (some ⟨og, 0, none⟩) p oc').ownBlock = some x → w.heap.size + 1 ≤ x := fun x hx => (WO.out.lt x hx).1
                  have hsw : V.heap.size ≤ wr.heap.size := WX.out.size
                  refine ⟨j + 1, L' ++ [t], by omega, by go_num, HST2.out.symm, ?_, ?_⟩
                  · rw [List.length_append, ← HM'.out, List.map_append]
                    exact HO2.out
                  · exact (WX.out.tr (Keeps.of_below ((Ext.refl _).alloc _).below fun x (hx : x < w.heap.size + 1) => by show x < wr.heap.size; omega)).tr (Keeps.of_grown HG.out fun x (hx : x < w.heap.size + 1) => ⟨by simp; omega, fun e => by have := hlo x e.symm; omega⟩)
                case measure => simp [intOf]; omega
        · obtain rfl : j = K := by omega
          have hji : ¬ ((j : Int) < j) := by omega
          have hfin : L' = bfs d (i + 1) := by rw [HL'.out, HNL.out.1, List.take_of_length_le (by rw [HNL.out.2]; exact Nat.le_refl _)]
          have HF := Lib.hid hfin
          clear hfin hpre
          skip --D1
          go_wp2
          go_roundw
          case rel => exact ⟨i + 1, L', by go_num, HF.out, by have := HM'.out; omega, by rw [← HM'.out]; exact HO'.out, HX'.out⟩
          case measure => simp [intOf]; omega
    · obtain rfl : i = m := by omega
      have hii : ¬ ((i : Int) < i) := by omega
      have hfin : reachD d = L := by rw [HL.out]; exact reach_at (by rw [← HL.out, ← HM.out]; exact Nat.le_refl _) (by rw [← HN.out]; exact hLn)
      have HF := Lib.hid hfin
      clear hfin
      skip --E1
      go_wp2
      go_ret
      exact ⟨_, rfl, by rw [HF.out, ← HM.out]; exact ownsRow_base HO.out (Nat.le_succ _), XB.out _ HX.out⟩
end Go.Proofs.YthdnlndpmmiboaaGreatDoor
