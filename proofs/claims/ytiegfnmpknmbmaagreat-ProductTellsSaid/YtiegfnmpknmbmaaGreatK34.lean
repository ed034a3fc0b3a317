/-
  product.First.
-/
import Derived.Test.YtiegfnmpknmbmaaGreatK33
import Derived.WalkMore
namespace Go.Proofs.YtiegfnmpknmbmaaGreat
open Go Go.RowKit Go.Shelf Go.Maps
attribute [local go_sem] encS

theorem made_ints (n : Nat) : (madeCells (Value.int .i64 0).cells (n * 1)).toList = (List.replicate n (0 : Int)).map encZ := by
  apply List.ext_getElem?
  intro k
  simp only [madeCells, Value.cells, Nat.mul_one, Array.toList_map, Array.toList_range, List.map_replicate, List.getElem?_map, List.getElem?_replicate]
  by_cases h : k < n
  · rw [List.getElem?_range h, if_pos h]; simp [encZ, Nat.mod_one]
  · rw [List.getElem?_eq_none (by simpa using h), if_neg h]; rfl
theorem made_bytes (n : Nat) : (madeCells (Value.int .u8 0).cells (n * 1)).toList = (List.replicate n (0 : Nat)).map encB := by
  apply List.ext_getElem?
  intro k
  simp only [madeCells, Value.cells, Nat.mul_one, Array.toList_map, Array.toList_range, List.map_replicate, List.getElem?_map, List.getElem?_replicate]
  by_cases h : k < n
  · rw [List.getElem?_range h, if_pos h]; simp [encB, Nat.mod_one]
  · rw [List.getElem?_eq_none (by simpa using h), if_neg h]; rfl
theorem vis_at {d : DF} {st : Bst} {i s k : Nat} (hs : st.todo[i]? = some s) (hk : k < d.cl.length) : vis d st (i * d.cl.length + k) = if st.fr.getD (nxt d s k) 0 = 0 then ⟨st.todo ++ [nxt d s k], st.keys ++ [i * d.cl.length + k], st.fr.set (nxt d s k) (s + 1), st.by'.set (nxt d s k) (lb d.cl k)⟩ else st := by
  have h1 : (i * d.cl.length + k) / d.cl.length = i := by rw [Nat.mul_comm, Nat.mul_add_div (by omega), Nat.div_eq_of_lt hk, Nat.add_zero]
  have h2 : (i * d.cl.length + k) % d.cl.length = k := by rw [Nat.mul_comm, Nat.mul_add_mod, Nat.mod_eq_of_lt hk]
  unfold vis
  rw [h1, h2, hs]
def lenV : Value → Nat
  | .slice _ n _ => n
  | _ => 0
set_option maxRecDepth 100000 in
set_option maxHeartbeats 8000000 in
theorem pfirst_main (v : Value) (d : DF) (rt : Rt d) (sm : Sm d) (w : World) (h : IsDf w v d) :
    Calls Tryz.prog 26 #[v] w fun e w' => ∃ u, e = .returned (.tuple #[u, .bool (firstR d).isSome, .int .i64 0]) ∧ w'.ownsRow w.heap.size 5 1 u ((firstR d).getD []).length (((firstR d).getD []).map encB) ∧ Below w.heap.size w w' := by
  obtain ⟨iI, hiI, hzI0, hzI1, hzI2⟩ := info_parts Tryz.infoI
  obtain ⟨iB, hiB, hzB0, hzB1, hzB2⟩ := info_parts Tryz.infoU8
  have CR : Hid (∀ W, Below w.heap.size w W → Calls Tryz.prog 47 #[v] W fun e w' => e = .returned (.bool true) ∧ Below W.heap.size W w') := fun W hW => by
    have := right_any v d W (h.below hW) sm
    rwa [(right_iff d).2 rt] at this
  obtain ⟨v0, v1, v2, rfl, h0, h1, h2⟩ := h
  obtain ⟨a0, c0, rfl⟩ := h0.1.form
  obtain ⟨a1, c1, rfl⟩ := h1.form
  obtain ⟨a2, c2, rfl⟩ := h2.form
  have hmr := rt.mr
  rw [hmr] at h2 CR ⊢
  obtain ⟨n, hn⟩ : ∃ n, n = d.nx.length := ⟨_, rfl⟩
  obtain ⟨K, hK⟩ : ∃ n, n = d.cl.length := ⟨_, rfl⟩
  have hn4 : n ≤ 4000 := by have := rt.le; omega
  have hn1 : 1 ≤ n := by have := rt.pos; omega
  have hK2 : K ≤ 256 := by have := rt.clle; omega
  have hK1 : 0 < K := by have := rt.clpos; omega
  rw [← hn] at h1 h2 CR ⊢
  rw [← hK] at h0 CR ⊢
  have H0 := Lib.hid h0.1
  have H1 := Lib.hid h1
  have H2 := Lib.hid h2
  have HN := Lib.hid hn
  have HK := Lib.hid hK
  have HMR := Lib.hid hmr
  have RT := Lib.hid rt
  have BO : Hid (∀ x, BOk d x (bst d x)) := Lib.hid fun x => bst_ok rt x
  clear h0 h1 h2 hn hK hmr rt sm
  go_enter Tryz.func26, Tryz.ntmps26
  go_wp2_with fail
  refine wp_named ?_
  intro V hV
  have B1 : Hid (Blk V w.heap.size #[.slice a0 K c0, .slice a1 n c1, .slice a2 n c2] 25) := by rw [hV]; exact Blk.new w _ _
  have X1 : Hid (Below w.heap.size w V) := by rw [hV]; exact ((Ext.refl w).alloc _).below
  clear hV
  obtain ⟨⟨k0, k1, k2⟩, _⟩ := B1.out.three
  refine wp_scope_straight ?_
  go_wp2_with fail
  refine (CR.out V X1.out).mono ?_
  rintro e w2 ⟨rfl, hx⟩
  have C1 := Lib.hid (B1.out.below hx B1.out.lt)
  have hws : w.heap.size < w2.heap.size := C1.out.lt
  have X2 := Lib.hid (X1.out.trans (hx.mono X1.out.size))
  clear hx B1 X1 CR k0 k1 k2
  obtain ⟨⟨k0, k1, k2⟩, _⟩ := C1.out.three
  go_wp2_with (at_make; refine wpList_make_full _ rfl (.tmp 20) (.tmp 20) 36 rfl w2.heap.size 3 iI (.int .i64 0) 1 Tryz.underlying36 hiI hzI0 hzI1 .i64 .i64 _ _ n rfl rfl rfl rfl (by rw [hzI2]; omega) (by unfold maxLen; omega) (Nat.le_refl _) ?_; intro w3 hr hg; refine Hid.out ?_)
  refine Lib.hid ?_
  have hs3 : w2.heap.size < w3.heap.size := by
    rcases hr.2 with ⟨h5, _⟩ | ⟨g, c, cur, h5, _, h6, _⟩
    · cases h5
    · cases h5; exact (Array.getElem?_eq_some_iff.1 h6).1
  have hb3 : Below w2.heap.size w2 w3 := (Keeps.of_grown hg fun x hx => ⟨hx, fun e => by cases e⟩ : Keeps (· < w2.heap.size) w2 w3).below
  rw [made_ints] at hr
  have R3 := Lib.hid hr
  have D1 := Lib.hid (C1.out.below hb3 C1.out.lt)
  have X3 := Lib.hid (X2.out.trans (hb3.mono X2.out.size))
  clear hr hg hb3 k0 k1 k2 C1
  obtain ⟨⟨k0, k1, k2⟩, _⟩ := D1.out.three
  go_wp2_with (at_make; refine wpList_make_full _ rfl (.tmp 24) (.tmp 24) 47 rfl w3.heap.size 5 iB (.int .u8 0) 1 Tryz.underlying47 hiB hzB0 hzB1 .i64 .i64 _ _ n rfl rfl rfl rfl (by rw [hzB2]; omega) (by unfold maxLen; omega) (Nat.le_refl _) ?_; intro w4 hr hg; refine Hid.out ?_)
  refine Lib.hid ?_
  have hs4 : w3.heap.size < w4.heap.size := by
    rcases hr.2 with ⟨h5, _⟩ | ⟨g, c, cur, h5, _, h6, _⟩
    · cases h5
    · cases h5; exact (Array.getElem?_eq_some_iff.1 h6).1
  have hb4 : Below w3.heap.size w3 w4 := (Keeps.of_grown hg fun x hx => ⟨hx, fun e => by cases e⟩ : Keeps (· < w3.heap.size) w3 w4).below
  rw [made_bytes] at hr
  have Y4 := Lib.hid hr
  have R4 := Lib.hid (ownsRow_below R3.out hb4)
  have E1 := Lib.hid (D1.out.below hb4 D1.out.lt)
  have X4 := Lib.hid (X3.out.trans (hb4.mono X3.out.size))
  clear hr hg hb4 k0 k1 k2 D1 R3 X3 X2
  obtain ⟨g5, hg5⟩ : ∃ g, g = w2.heap.size := ⟨_, rfl⟩
  obtain ⟨g6, hg6⟩ : ∃ g, g = w3.heap.size := ⟨_, rfl⟩
  rw [← hg5] at R4 hs3 hws ⊢
  rw [← hg6] at Y4 hs3 hs4 ⊢
  clear hg5 hg6
  have f0 : ∀ o, (w4.alloc o).frozen? ⟨g5, 0, none⟩ = false := fun o => (R4.out.alloc o).frozenAt 0
  have f1 : ∀ o, (w4.alloc o).cell? ⟨g5, 0, none⟩ = some (.int .i64 0) := fun o => by
    rw [(R4.out.alloc o).cellAt 0 (by omega), List.getElem?_map, List.getElem?_replicate, if_pos (by omega)]
    rfl
  have hni : (0 : Int) < n := by omega
  go_wp2
  clear f0 f1
  go_step3
  go_wp2
  go_loopw [7, 8, 9] (fun todo fd iv wr => fd = .int .i64 (-1) ∧ ∃ (i : Nat) (st : Bst), iv = .int .i64 i ∧ st = bst d (i * K) ∧ i ≤ st.todo.length ∧ (∀ (j t : Nat), j < i → st.todo[j]? = some t → acc d t = false) ∧ wr.ownsRow g5 3 1 (.slice (some ⟨g5, 0, none⟩) n n) n (st.fr.map encZ) ∧ wr.ownsRow g6 5 1 (.slice (some ⟨g6, 0, none⟩) n n) n (st.by'.map encB) ∧ wr.ownsRow w4.heap.size 3 1 todo st.todo.length (st.todo.map encN) ∧ Keeps (fun x => x < w4.heap.size ∧ x ≠ g5 ∧ x ≠ g6) w4 wr) (fun _ _ iv _ => n - (intOf iv).toNat)
  case atStart =>
    have hb0 : bst d (0 * K) = ⟨[0], [0], (List.replicate n 0).set 0 (-1), List.replicate n 0⟩ := by rw [Nat.zero_mul, HN.out]; rfl
    have kg : Keeps (· ≠ g5) (w4.alloc (.cells #[.int .i64 0] 3)) ((w4.alloc (.cells #[.int .i64 0] 3)).setCell ⟨g5, 0, none⟩ (.int .i64 (-1))) := (Keeps.refl (· ≠ g5) _).setCell (p := ⟨g5, 0, none⟩) (fun h => h rfl) _
    refine ⟨rfl, 0, ⟨[0], [0], (List.replicate n 0).set 0 (-1), List.replicate n 0⟩, rfl, hb0.symm, Nat.zero_le _, fun j t hj => by omega, ?_, ?_, ?_, ((Keeps.refl _ w4).alloc (fun x hx => hx.1) _).tr (kg.mono fun x hx => hx.2.1)⟩
    · have h5 := ((R4.out.alloc (.cells #[.int .i64 0] 3)).stored 0 (.int .i64 (-1))).1
      rw [show (((List.replicate n (0 : Int)).set 0 (-1)).map encZ) = ((List.replicate n (0 : Int)).map encZ).set 0 (.int .i64 (-1)) by rw [List.map_set]; rfl]
      exact h5
    · exact ownsRow_keepsB (Y4.out.alloc _) kg fun x h1 _ e => by omega
    · refine ownsRow_keepsB (w := w4.alloc (.cells #[.int .i64 0] 3)) (base := w4.heap.size) ⟨rfl, .inr ⟨_, 1, #[.int .i64 0], rfl, Nat.le_refl _, Blk.new _ _ _, Nat.le_refl _, by unfold maxLen; omega, rfl, rfl⟩⟩ kg fun x h1 _ e => by omega
  case round =>
    obtain ⟨rfl, i, st, rfl, hst, hi, ha, hfr, hby, htd, hx⟩ := hrel
    obtain ⟨wo, rfl⟩ : ∃ wo : World, wo = wr := ⟨_, rfl⟩
    have I : Hid (BOk d (i * d.cl.length) st) := Lib.hid (by rw [hst, HK.out]; exact BO.out _)
    obtain ⟨L, hL⟩ : ∃ L, L = st.todo.length := ⟨_, rfl⟩
    have hLn : L ≤ n := by have := I.out.len; have := HN.out; omega
    rw [← hL] at hi htd
    obtain ⟨ta, tc, rfl⟩ := ownsRow_form htd
    have HST := Lib.hid hst
    have HA := Lib.hid ha
    have FR := Lib.hid hfr
    have BY := Lib.hid hby
    have TD := Lib.hid htd
    have HX := Lib.hid hx
    have HL := Lib.hid hL
    have XO := Lib.hid (X4.out.trans (hx.mono fun x hx' => by have : x < w.heap.size := hx'; exact ⟨by omega, by omega, by omega⟩ : Keeps (· < w.heap.size) w4 wo).below)
    have BB := Lib.hid (E1.out.keeps hx ⟨by omega, by omega, by omega⟩)
    have hw4 : w4.heap.size ≤ wo.heap.size := hx.size
    clear hst ha hfr hby htd hx hL
    by_cases hlt : i < L
    · obtain ⟨g7, u7, rfl, hg1, hg2, hu7, c7, _⟩ := rowCell TD.out hlt
      obtain ⟨s, hs⟩ : ∃ s, st.todo[i]? = some s := ⟨_, List.getElem?_eq_getElem (by rw [← HL.out]; exact hlt)⟩
      rw [List.getElem?_map, hs] at hu7
      cases hu7
      replace c7 : wo.cell? ⟨g7, i, none⟩ = some (.int .i64 s) := c7
      have hsn : s < n := by have := I.out.lt s (List.mem_of_getElem? hs); have := HN.out; omega
      have HS := Lib.hid hs
      obtain ⟨m, hm⟩ : ∃ m, d.mr[s]? = some m := ⟨_, List.getElem?_eq_getElem (by have := HMR.out; have := HN.out; omega)⟩
      obtain ⟨l, hl⟩ : ∃ l, d.nx[s]? = some l := ⟨_, List.getElem?_eq_getElem (by have := HN.out; omega)⟩
      obtain ⟨bm, om, am, cm, e2, hbm, cmm, _⟩ := (H2.out.below XO.out).elem hm
      obtain ⟨bl, ol, al, cl, e1, hbl, cll0, hsl⟩ := H1.out.elem hl
      have cll : wo.cell? ⟨bl, ol + s, none⟩ = some (.slice al l.length cl) := ((Keeps.of_below XO.out (R := (· < w.heap.size)) fun _ h => h).cell (p := ⟨bl, ol + s, none⟩) hbl).trans cll0
      clear cll0
      have hacc : acc d s = !m.isEmpty := by unfold acc; rw [getD_some hm]
      have hlK : l.length = K := by have := RT.out.len s (by have := HN.out; omega); rw [getD_some hl] at this; rw [this, HK.out]
      rw [hlK] at cll hsl
      obtain ⟨ml, hml⟩ : ∃ x, x = m.length := ⟨_, rfl⟩
      rw [← hml] at cmm
      cases e2
      cases e1
      obtain ⟨⟨b0, b1, b2⟩, _⟩ := BB.out.three
      have hii : (i : Int) < L := by omega
      have hsi : (s : Int) < n := by omega
      have HM := Lib.hid hm
      have HLL := Lib.hid hl
      have SL := Lib.hid hsl
      have ACC := Lib.hid hacc
      have HML := Lib.hid hml
      clear hm hl hsl hacc hlK hml hs
      by_cases hz : ml = 0
      · subst hz
        have hacc0 : Hid (acc d s = false) := Lib.hid (by rw [ACC.out]; cases m with | nil => rfl | cons _ _ => have := HML.out; simp at this)
        go_wp2
        go_loopw [7, 53] (fun todo kv wr => ∃ (k : Nat) (st' : Bst), k ≤ K ∧ kv = .int .i64 k ∧ st' = bst d (i * K + k) ∧ (∀ (j t : Nat), st.todo[j]? = some t → st'.todo[j]? = some t) ∧ wr.ownsRow g5 3 1 (.slice (some ⟨g5, 0, none⟩) n n) n (st'.fr.map encZ) ∧ wr.ownsRow g6 5 1 (.slice (some ⟨g6, 0, none⟩) n n) n (st'.by'.map encB) ∧ wr.ownsRow w4.heap.size 3 1 todo st'.todo.length (st'.todo.map encN) ∧ Keeps (fun x => x < w4.heap.size ∧ x ≠ g5 ∧ x ≠ g6) w4 wr) (fun _ kv _ => K - (intOf kv).toNat)
        case atStart => exact ⟨0, st, Nat.zero_le _, rfl, HST.out, fun _ _ h => h, FR.out, BY.out, by rw [← HL.out]; exact TD.out, HX.out⟩
        case round =>
          obtain ⟨k, st', hk, rfl, hst', hpre, hfr', hby', htd', hx'⟩ := hrel
          obtain ⟨wi, rfl⟩ : ∃ wi : World, wi = wr := ⟨_, rfl⟩
          have XI := Lib.hid (X4.out.trans (hx'.mono fun x hx' => by have : x < w.heap.size := hx'; exact ⟨by omega, by omega, by omega⟩ : Keeps (· < w.heap.size) w4 wi).below)
          have I' : Hid (BOk d (i * d.cl.length + k) st') := Lib.hid (by rw [hst', HK.out]; exact BO.out _)
          obtain ⟨L', hL'⟩ : ∃ L, L = st'.todo.length := ⟨_, rfl⟩
          have hLn' : L' ≤ n := by have := I'.out.len; have := HN.out; omega
          rw [← hL'] at htd'
          have hs' := hpre i s HS.out
          have HPRE := Lib.hid hpre
          have HST' := Lib.hid hst'
          have FR' := Lib.hid hfr'
          have BY' := Lib.hid hby'
          have TD' := Lib.hid htd'
          have HX' := Lib.hid hx'
          have HL' := Lib.hid hL'
          have HS' := Lib.hid hs'
          have hw4i : w4.heap.size ≤ wi.heap.size := hx'.size
          clear hst' hpre hfr' hby' htd' hx' hL' hs' b0 b1 b2 c7 cmm cll
          by_cases hkK : k < K
          · obtain ⟨t, ht⟩ : ∃ t, t = nxt d s k := ⟨_, rfl⟩
            have hkd : k < d.cl.length := by rw [← HK.out]; exact hkK
            have hsd : s < d.nx.length := by rw [← HN.out]; exact hsn
            have htn : t < n := by rw [ht, HN.out]; exact RT.out.nxt_lt hsd hkd
            have hlk : l[k]? = some (t : Int) := by have := RT.out.nxt_cell hsd hkd; rw [getD_some HLL.out, ← ht] at this; exact this
            obtain ⟨bz, oz, e9, hbz, cz⟩ := ((SL.out.below XI.out).elem hlk)
            cases e9
            replace cz : wi.cell? ⟨bz, oz + k, none⟩ = some (.int .i64 t) := cz
            obtain ⟨_, uf, e5, _, _, huf, cf, ff⟩ := rowCell FR'.out htn
            cases e5
            rw [List.getElem?_map, some_getD 0 (by rw [I'.out.fr, ← HN.out]; exact htn)] at huf
            cases huf
            have hti : (t : Int) < n := by omega
            have hki : (k : Int) < K := by omega
            have HT := Lib.hid ht
            have hvis := vis_at HS'.out hkd
            rw [← HT.out] at hvis
            by_cases hz0 : st'.fr.getD t 0 = 0
            · rw [if_pos hz0] at hvis
              replace cf : wi.cell? ⟨g5, t, none⟩ = some (.int .i64 0) := by rw [cf, hz0]; rfl
              obtain ⟨c, hc⟩ : ∃ c, d.cl[k]? = some c := ⟨_, List.getElem?_eq_getElem hkd⟩
              obtain ⟨bc, oc, e8, hbc, q0, q1, q2, q3⟩ := (H0.out.below XI.out).elem hc
              cases e8
              have hbw : bc < w.heap.size := by
                obtain ⟨bw, ow, e7, hbw, _⟩ := H0.out.elem hc
                cases e7
                exact hbw
              have kset : ∀ u, Keeps (· ≠ g5) wi (wi.setCell ⟨g5, t, none⟩ u) := fun u => (Keeps.refl (· ≠ g5) wi).setCell (p := ⟨g5, t, none⟩) (fun h => h rfl) u
              have BBi := Lib.hid (E1.out.keeps HX'.out ⟨by omega, by omega, by omega⟩)
              have hbc2 : bc < w.heap.size := hbw
              have b0s : ∀ u, (wi.setCell ⟨g5, t, none⟩ u).cell? ⟨w.heap.size, 0, none⟩ = some (.slice (some ⟨bc, oc, none⟩) K c0) := fun u => ((BBi.out.keeps (kset u) (by show w.heap.size ≠ g5; omega)).cell 0)
              have q0s : ∀ u, (wi.setCell ⟨g5, t, none⟩ u).cell? ⟨bc, oc + k * 4, none⟩ = some (.int .u64 (wd c 0).toNat) := fun u => ((kset u).cell (p := ⟨bc, oc + k * 4, none⟩) (by show bc ≠ g5; omega)).trans q0
              have q1s : ∀ u, (wi.setCell ⟨g5, t, none⟩ u).cell? ⟨bc, oc + k * 4 + 1, none⟩ = some (.int .u64 (wd c 1).toNat) := fun u => ((kset u).cell (p := ⟨bc, oc + k * 4 + 1, none⟩) (by show bc ≠ g5; omega)).trans q1
              have q2s : ∀ u, (wi.setCell ⟨g5, t, none⟩ u).cell? ⟨bc, oc + k * 4 + 2, none⟩ = some (.int .u64 (wd c 2).toNat) := fun u => ((kset u).cell (p := ⟨bc, oc + k * 4 + 2, none⟩) (by show bc ≠ g5; omega)).trans q2
              have q3s : ∀ u, (wi.setCell ⟨g5, t, none⟩ u).cell? ⟨bc, oc + k * 4 + 3, none⟩ = some (.int .u64 (wd c 3).toNat) := fun u => ((kset u).cell (p := ⟨bc, oc + k * 4 + 3, none⟩) (by show bc ≠ g5; omega)).trans q3
              have HVIS := Lib.hid hvis
              have HCC := Lib.hid hc
              clear q0 q1 q2 q3 hc ht hlk hvis
              go_wp2_with fail
              refine calls_named ?_
              intro W1 hW1
              have KW : Hid (Keeps (· ≠ g5) wi W1) := by rw [hW1]; exact Lib.hid (kset _)
              have F1 : Hid (W1.ownsRow g5 3 1 (.slice (some ⟨g5, 0, none⟩) n n) n ((st'.fr.set t (s + 1)).map encZ)) := by
                rw [hW1, List.map_set]
                exact Lib.hid (FR'.out.stored t _).1
              clear hW1 kset b0s q0s q1s q2s q3s cf ff
              refine (first_any c W1).mono ?_
              rintro e w6 ⟨rfl, hx⟩
              obtain ⟨cb, hcb⟩ : ∃ x, x = (firstOf c).1 := ⟨_, rfl⟩
              have hcb2 : lb d.cl k = cb := by rw [hcb]; unfold lb; rw [getD_some HCC.out]
              rw [← hcb]
              have HCB := Lib.hid hcb2
              have F6 := Lib.hid (ownsRow_below F1.out hx.below)
              have hsw1 : wi.heap.size ≤ W1.heap.size := KW.out.size
              have B6 := Lib.hid (ownsRow_below (ownsRow_keepsB BY'.out KW.out fun x h1 _ => by show x ≠ g5; omega) hx.below)
              have T6 := Lib.hid (ownsRow_below (ownsRow_keepsB TD'.out KW.out fun x h1 _ => by show x ≠ g5; omega) hx.below)
              have K6 : Hid (Keeps (fun x => x < w4.heap.size ∧ x ≠ g5 ∧ x ≠ g6) w4 w6) := Lib.hid ((HX'.out.tr (KW.out.mono fun x hx => hx.2.1)).tr (Keeps.of_below hx.below fun x hx' => by have := hx'.1; omega))
              have hsw6 : W1.heap.size ≤ w6.heap.size := hx.size
              clear hcb hcb2 hx F1 KW
              obtain ⟨ta2, tc2, rfl⟩ := ownsRow_form T6.out
              obtain ⟨_, ub, e5, _, _, _, cb6, fb6⟩ := rowCell B6.out htn
              cases e5
              have T7 := Lib.hid (ownsRow_keepsB T6.out ((Keeps.refl (· ≠ g6) w6).setCell (p := ⟨g6, t, none⟩) (fun h => h rfl) (.int .u8 cb)) fun x h1 _ => by show x ≠ g6; omega)
              go_wp2_with (at_builtin; refine wpList_append_own_at _ rfl (.tmp 80) (.tmp 82) 36 rfl w4.heap.size 3 iI (.int .i64 0) 1 8 Tryz.underlying36 hiI hzI0 hzI1 hzI2 rfl (by decide) _ _ _ rfl (T7.out.alloc _) ⟨_, 0, none⟩ 1 1 [.int .i64 t] rfl rfl (news_blk ((Blk.new (w6.setCell ⟨g6, t, none⟩ (.int .u8 cb)) #[.int .i64 t] 3).at (by simp))) (by intro u hu; simp at hu; rw [hu]; rfl) (by unfold maxLen; omega) (by omega) (by simp; omega) ?_; intro v' w9 hown' hgrow hh hat; refine Hid.out ?_)
              refine Lib.hid ?_
              have HO9 := Lib.hid hown'
              have HG := Lib.hid hgrow
              obtain ⟨va, vc, rfl⟩ := ownsRow_form hown'
              have K7 : Keeps (fun x => x < w4.heap.size ∧ x ≠ g6) w6 w9 := (((Keeps.refl _ w6).setCell (p := ⟨g6, t, none⟩) (fun h => h.2 rfl) (.int .u8 cb)).alloc (fun x hx => by have := hx.1; simp; omega) (.cells #[.int .i64 t] 3)).tr (Keeps.of_grown HG.out fun x hx => ⟨by have := hx.1; simp; omega, fun e => by have := (T7.out.lt x e.symm).1; have := hx.1; omega⟩)
              have K8 : Keeps (fun x => x < w4.heap.size) (w6.setCell ⟨g6, t, none⟩ (.int .u8 cb)) w9 := ((Keeps.refl _ _).alloc (fun x hx => by have : x < w4.heap.size := hx; simp; omega) (.cells #[.int .i64 t] 3)).tr (Keeps.of_grown HG.out fun x hx => ⟨by have : x < w4.heap.size := hx; simp; omega, fun e => by have := (T7.out.lt x e.symm).1; have : x < w4.heap.size := hx; omega⟩)
              clear hown' hgrow hh hat cb6 fb6
              go_wp2
              go_roundw
              case rel =>
                refine ⟨k + 1, ⟨st'.todo ++ [t], st'.keys ++ [i * d.cl.length + k], st'.fr.set t (s + 1), st'.by'.set t cb⟩, by omega, by go_num, ?_, ?_, ?_, ?_, ?_, K6.out.tr (K7.mono fun x hx => ⟨hx.1, hx.2.2⟩)⟩
                · rw [HST'.out]
                  show _ = vis d (bst d (i * K + k)) (i * K + k)
                  rw [← HST'.out, HK.out, HVIS.out, HCB.out]
                · intro j u hu
                  have h5 := HPRE.out j u hu
                  show (st'.todo ++ [t])[j]? = some u
                  rw [List.getElem?_append_left (List.getElem?_eq_some_iff.1 h5).1]
                  exact h5
                · exact ownsRow_keeps F6.out K7 fun x e => by cases e; exact ⟨show g5 < w4.heap.size by omega, show g5 ≠ g6 by omega⟩
                · show w9.ownsRow g6 _ 1 _ n ((st'.by'.set t cb).map encB)
                  rw [List.map_set]
                  exact ownsRow_keeps ((B6.out.stored t (.int .u8 cb)).1) K8 fun x e => by cases e; show g6 < w4.heap.size; omega
                · show w9.ownsRow w4.heap.size _ 1 _ (st'.todo ++ [t]).length ((st'.todo ++ [t]).map encN)
                  rw [List.map_append, List.length_append, ← HL'.out]
                  exact HO9.out
              case measure => simp [intOf]; omega
            · rw [if_neg hz0] at hvis
              have hb9 : ((st'.fr.getD t 0 : Int) == 0) = false := by rw [beq_eq_false_iff_ne]; exact hz0
              obtain ⟨z, hz⟩ : ∃ z, z = st'.fr.getD t 0 := ⟨_, rfl⟩
              rw [← hz] at hb9
              replace cf : wi.cell? ⟨g5, t, none⟩ = some (.int .i64 z) := by rw [cf, ← hz]; rfl
              have HVIS := Lib.hid hvis
              obtain ⟨ta2, tc2, rfl⟩ := ownsRow_form TD'.out
              clear hz hz0 hvis ht hlk
              go_wp2
              go_roundw
              case rel =>
                refine ⟨k + 1, st', by omega, by go_num, ?_, HPRE.out, FR'.out, BY'.out, by rw [← HL'.out]; exact TD'.out, HX'.out⟩
                rw [HST'.out]
                show _ = vis d (bst d (i * K + k)) (i * K + k)
                rw [← HST'.out, HK.out]
                exact HVIS.out.symm
              case measure => simp [intOf]; omega
          · obtain rfl : k = K := by omega
            obtain ⟨ta2, tc2, rfl⟩ := ownsRow_form TD'.out
            clear hkK
            go_wp2
            go_roundw
            case rel =>
              have hlt2 : i < st.todo.length := by rw [← HL.out]; exact hlt
              refine ⟨rfl, i + 1, st', by go_num, ?_, ?_, ?_, FR'.out, BY'.out, by rw [← HL'.out]; exact TD'.out, HX'.out⟩
              · rw [HST'.out, Nat.succ_mul]
              · exact (List.getElem?_eq_some_iff.1 HS'.out).1
              · intro j t hj ht
                by_cases e : j = i
                · subst e
                  rw [HS'.out] at ht
                  cases ht
                  exact hacc0.out
                · have h5 : j < st.todo.length := by omega
                  have h6 := HPRE.out j _ (List.getElem?_eq_getElem h5)
                  rw [h6] at ht
                  cases ht
                  exact HA.out j _ (by omega) (List.getElem?_eq_getElem h5)
            case measure => simp [intOf]; omega
      · have hmp : (0 : Int) < ml := by omega
        have hmd : decide ((0 : Int) < ml) = true := decide_eq_true hmp
        have hmq : 0 < ml := by omega
        have hmd2 : decide (0 < ml) = true := decide_eq_true hmq
        have hacc1 : Hid (acc d s = true) := Lib.hid (by rw [ACC.out]; cases m with | nil => have := HML.out; simp at this; omega | cons _ _ => rfl)
        go_wp2
        obtain ⟨m2, ss, bs, hss0, hssm, hchain, hssn, hmn, hfirst⟩ := first_some RT.out I.out HS.out HA.out hacc1.out
        have hm4 : m2 ≤ 4000 := by have := HN.out; omega
        have HC := Lib.hid hchain
        have HSS := Lib.hid hssn
        have HF := Lib.hid hfirst
        have HS0 := Lib.hid hss0
        have HSM := Lib.hid hssm
        clear hchain hssn hfirst hss0 hssm b0 b1 b2 c7 cmm cll
        go_loopw [13, 14] (fun ov sv wr => ∃ lq : Nat, lq ≤ m2 ∧ sv = .int .i64 (ss lq) ∧ wr.ownsRow wo.heap.size 5 1 ov (m2 - lq) (((((List.range m2).drop lq).map bs).reverse).map encB) ∧ Keeps (fun x => x < wo.heap.size) wo wr) (fun ov _ _ => m2 - lenV ov)
        case atStart =>
          refine ⟨m2, Nat.le_refl _, by rw [HSM.out], ?_, Keeps.refl _ _⟩
          rw [Nat.sub_self, List.drop_eq_nil_of_le (by simp)]
          exact World.ownsRow_nil _ _ _ _
        case round =>
          obtain ⟨lq, hlq, rfl, hov, hxr⟩ := hrel
          obtain ⟨wi, rfl⟩ : ∃ wi : World, wi = wr := ⟨_, rfl⟩
          have FRi := Lib.hid (ownsRow_keeps FR.out hxr fun x e => (FR.out.lt x e).2)
          have BYi := Lib.hid (ownsRow_keeps BY.out hxr fun x e => (BY.out.lt x e).2)
          have hwoi : wo.heap.size ≤ wi.heap.size := hxr.size
          have OV := Lib.hid hov
          have HXR := Lib.hid hxr
          obtain ⟨oa, oc, rfl⟩ := ownsRow_form hov
          clear hov hxr
          have hsl := HSS.out lq hlq
          obtain ⟨sq, hsq⟩ : ∃ x, x = ss lq := ⟨_, rfl⟩
          rw [← hsq] at hsl ⊢
          have hsqn : sq < n := by rw [HN.out]; exact hsl
          obtain ⟨_, uz, e5, _, _, huz, cz, _⟩ := rowCell FRi.out hsqn
          cases e5
          obtain ⟨_, uy, e6, _, _, huy, cy, _⟩ := rowCell BYi.out hsqn
          cases e6
          rw [List.getElem?_map, some_getD 0 (by rw [I.out.fr, ← HN.out]; exact hsqn)] at huz
          rw [List.getElem?_map, some_getD 0 (by rw [I.out.by', ← HN.out]; exact hsqn)] at huy
          cases huz
          cases huy
          have hsqi : (sq : Int) < n := by omega
          cases lq with
          | zero =>
            have hz0 : st.fr.getD sq 0 = -1 := by rw [hsq, HS0.out]; exact I.out.root
            replace cz : wi.cell? ⟨g5, sq, none⟩ = some (.int .i64 (-1)) := by rw [cz, hz0]; rfl
            have HQ := Lib.hid hsq
            clear hsq hz0 cy
            obtain ⟨lr, hlr⟩ : ∃ l, l = ((List.range m2).map bs).reverse := ⟨_, rfl⟩
            have hlrl : lr.length = m2 := by rw [hlr]; simp
            have OV2 : Hid (wi.ownsRow wo.heap.size 5 1 (.slice oa m2 oc) lr.length (lr.map encB)) := Lib.hid (by rw [hlrl, hlr]; exact OV.out)
            have HLR := Lib.hid hlr
            clear OV hlr
            go_wp2_with fail
            refine (rev_any wo.heap.size _ lr (by omega) _ OV2.out).mono ?_
            rintro e w6 ⟨rfl, hr, hx⟩
            have hr6 := ownsRow_base hr (show w.heap.size ≤ wo.heap.size by omega)
            have RR := Lib.hid hr6
            have HX6 : Hid (Below w.heap.size w w6) := Lib.hid ((XO.out.trans (HXR.out.mono fun x hx => by have : x < w.heap.size := hx; omega : Keeps (· < w.heap.size) wo wi).below).trans (hx.mono fun x hx => by
              intro e
              have := (OV2.out.lt x e).1
              have : x < w.heap.size := hx
              omega : Keeps (· < w.heap.size) wi w6).below)
            clear hr hx hr6
            go_wp2
            rw [Exit.noGoto_ret]
            refine bodyPost_ret (v := .tuple #[.slice oa m2 oc, .bool true, .int .i64 0]) (by simp [results, Tryz.results26, go_sem]) rfl ?_
            rw [HF.out]
            refine ⟨_, rfl, ?_, HX6.out⟩
            have e7 : lr.reverse = (List.range m2).map bs := by rw [HLR.out, List.reverse_reverse]
            have h9 := RR.out
            rw [e7, hlrl] at h9
            show w6.ownsRow w.heap.size 5 1 _ ((List.range m2).map bs).length (((List.range m2).map bs).map encB)
            rw [List.length_map, List.length_range]
            exact h9
          | succ lp =>
            obtain ⟨c1, c2, c3⟩ := HC.out lp (by omega)
            rw [← hsq] at c1 c2
            replace cz : wi.cell? ⟨g5, sq, none⟩ = some (.int .i64 (ss lp + 1 : Nat)) := by rw [cz, c1]; rfl
            replace cy : wi.cell? ⟨g6, sq, none⟩ = some (.int .u8 (bs lp)) := by rw [cy, c2]; rfl
            have HQ := Lib.hid hsq
            have hp9 : (0 : Int) < (ss lp + 1 : Nat) := by omega
            have hp8 : ss lp ≤ 4000 := by have := HSS.out lp (by omega); have := HN.out; omega
            clear hsq c1 c2
            go_wp2_with (at_builtin; refine wpList_append_own_at _ rfl (.tmp 98) (.tmp 103) 47 rfl wo.heap.size 5 iB (.int .u8 0) 1 1 Tryz.underlying47 hiB hzB0 hzB1 hzB2 rfl (by decide) _ _ _ rfl (OV.out.alloc _) ⟨_, 0, none⟩ 1 1 [.int .u8 (bs lp)] rfl rfl (news_blk (Blk.new _ _ _)) (by intro u hu; simp at hu; rw [hu]; rfl) (by unfold maxLen; omega) (by omega) (by simp; omega) ?_; intro v' w9 hown' hgrow hh hat; refine Hid.out ?_)
            refine Lib.hid ?_
            have HG := Lib.hid hgrow
            have HO9 := Lib.hid hown'
            obtain ⟨va, vc, rfl⟩ := ownsRow_form hown'
            have K9 : Keeps (fun x => x < wo.heap.size) wi w9 := ((Keeps.refl _ wi).alloc (fun x hx => by have : x < wo.heap.size := hx; omega) _).tr (Keeps.of_grown HG.out fun x hx => ⟨by have : x < wo.heap.size := hx; simp; omega, fun e => by have := (OV.out.lt x e.symm).1; have : x < wo.heap.size := hx; omega⟩)
            have cz9 := (K9.cell (p := ⟨g5, sq, none⟩) (by show g5 < wo.heap.size; omega)).trans cz
            clear hgrow hown' hh hat cz cy
            go_wp2
            go_roundw
            case rel =>
              refine ⟨lp, by omega, by go_num, ?_, HXR.out.tr K9⟩
              have e8 : m2 - lp = m2 - (lp + 1) + 1 := by omega
              have e9 : (List.range m2).drop lp = lp :: (List.range m2).drop (lp + 1) := by
                rw [List.drop_eq_getElem_cons (by simp; omega)]
                simp
              rw [e8, e9, List.map_cons, List.reverse_cons, List.map_append]
              exact HO9.out
            case measure => simp [lenV]; omega
    · have hn1 := first_none RT.out I.out (by rw [← HL.out]; omega) (fun j t ht => HA.out j t (by have := (List.getElem?_eq_some_iff.1 ht).1; have := HL.out; omega) ht)
      have HF := Lib.hid hn1
      clear hn1
      go_wp2
      rw [Exit.noGoto_ret]
      refine bodyPost_ret (v := .tuple #[.slice none 0 0, .bool false, .int .i64 0]) (by simp [results, Tryz.results26, go_sem]) rfl ?_
      rw [HF.out]
      exact ⟨_, rfl, World.ownsRow_nil _ _ _ _, XO.out⟩
end Go.Proofs.YtiegfnmpknmbmaaGreat
