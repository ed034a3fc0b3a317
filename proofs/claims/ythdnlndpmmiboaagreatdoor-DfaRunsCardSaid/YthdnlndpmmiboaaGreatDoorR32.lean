/-
  dfa.First, of right automata.
  dfa.Class; dfa.Run and dfa.Step where they refuse.
  dfa.Run, of any automaton and any state; dfa.Step.
-/
import Derived.Test.YthdnlndpmmiboaaGreatDoorR31
namespace Go.Proofs.YthdnlndpmmiboaaGreatDoor
open Go Go.RowKit Go.Shelf Go.Maps
attribute [local go_sem] encS

def marksAt (d : DF) (b : List Nat) (n : Nat) : List Int := d.mr.getD (runD d 0 (b.take n)) []
/-- The first prefix with marks, and its least mark. -/
def FirstIs (d : DF) (b : List Nat) (r : Int × Int × Bool) : Prop :=
  (∃ (n : Nat) (x : Int) (l : List Int), n ≤ b.length ∧ (∀ m, m < n → marksAt d b m = []) ∧ marksAt d b n = x :: l ∧ r = ((n : Int), x, true)) ∨ ((∀ m, m ≤ b.length → marksAt d b m = []) ∧ r = (0, 0, false))
theorem FirstIs.uniq {d : DF} {b : List Nat} {r r' : Int × Int × Bool} (h : FirstIs d b r) (h' : FirstIs d b r') : r = r' := by
  rcases h with ⟨n, x, l, h1, h2, h3, rfl⟩ | ⟨h1, rfl⟩ <;> rcases h' with ⟨n', x', l', g1, g2, g3, rfl⟩ | ⟨g1, rfl⟩
  · obtain rfl : n = n' := by
      rcases Nat.lt_trichotomy n n' with h | h | h
      · rw [g2 n h] at h3; cases h3
      · exact h
      · rw [h2 n' h] at g3; cases g3
    rw [h3] at g3
    cases g3
    rfl
  · rw [g1 n h1] at h3; cases h3
  · rw [h1 n' g1] at g3; cases g3
  · rfl
set_option maxRecDepth 100000 in
set_option maxHeartbeats 4000000 in
theorem dfaFirst_any (v bv : Value) (d : DF) (rt : Rt d) (sm : Sm d) (b : List Nat) (hb : ∀ c ∈ b, c < 256) (hbn : b.length ≤ 1000000) (w : World) (h : IsDf w v d) (hbv : IsSl encB w bv b) :
    Calls Tryz.prog 20 #[v, bv] w fun e w' => ∃ r, FirstIs d b r ∧ e = .returned (.tuple #[.int .i64 r.1, .int .i64 r.2.1, .bool r.2.2, .int .i64 0]) ∧ Below w.heap.size w w' := by
  have CR : Hid (∀ W, Below w.heap.size w W → Calls Tryz.prog 28 #[v] W fun e w' => e = .returned (.bool true) ∧ Below W.heap.size W w') := fun W hW => by
    have := right_any v d W (h.below hW) sm
    rwa [(right_iff d).2 rt] at this
  have CT : Hid (∀ W, Below w.heap.size w W → Calls Tryz.prog 62 #[v] W fun e w' => e = .returned (.agg (tabArr d.cl)) ∧ Below W.heap.size W w') := fun W hW => dfaTable_any v d rt W (h.below hW)
  obtain ⟨v0, v1, v2, rfl, h0, h1, h2⟩ := h
  obtain ⟨a0, c0, rfl⟩ := h0.1.form
  obtain ⟨a1, c1, rfl⟩ := h1.form
  obtain ⟨a2, c2, rfl⟩ := h2.form
  obtain ⟨ab, cb, rfl⟩ := hbv.form
  have hmr := rt.mr
  rw [hmr] at h2 CR CT ⊢
  obtain ⟨n1, hn1⟩ : ∃ n, n = d.nx.length := ⟨_, rfl⟩
  obtain ⟨nb, hnb⟩ : ∃ n, n = b.length := ⟨_, rfl⟩
  have HN1 := Lib.hid hn1
  have HNB := Lib.hid hnb
  have hn4 : n1 ≤ 4000 := by rw [hn1]; exact rt.le
  rw [← hn1] at h1 h2 CR CT ⊢
  rw [← hnb] at hbv hbn ⊢
  have H1 := Lib.hid h1
  have H2 := Lib.hid h2
  have HBV := Lib.hid hbv
  have HB := Lib.hid hb
  have RT := Lib.hid rt
  have HMR := Lib.hid hmr
  have hsz := size_tab
  have hz := tabArr_nil
  clear h0 h1 h2 hbv hn1 hnb hb hmr
  go_enter Tryz.func20, Tryz.ntmps20
  go_wp2_with fail
  refine calls_named ?_
  intro V hV
  have B1 : Hid (Blk V w.heap.size #[.slice a0 d.cl.length c0, .slice a1 n1 c1, .slice a2 n1 c2] 29) := by rw [hV]; exact Blk.new w _ _
  have X1 : Hid (Below w.heap.size w V) := by rw [hV]; exact ((Ext.refl w).alloc _).below
  clear hV
  refine (CR.out _ X1.out).mono ?_
  rintro e w2 ⟨rfl, hx⟩
  have B2 := Lib.hid (B1.out.below hx B1.out.lt)
  have X2 := Lib.hid (X1.out.trans (hx.mono X1.out.size))
  clear hx B1 X1
  obtain ⟨⟨k0, k1, k2⟩, _⟩ := B2.out.three
  go_wp2_with fail
  refine (CT.out _ X2.out).mono ?_
  rintro e w3 ⟨rfl, hx⟩
  have B3 := Lib.hid (B2.out.below hx B2.out.lt)
  have X3 := Lib.hid (X2.out.trans (hx.mono X2.out.size))
  clear hx B2 X2 k0 k1 k2 CR CT
  have hst := run_storeCells_new (P := Tryz.prog) w3 119 (tabArr []) (tabArr d.cl) (by rw [tabArr_size]; exact hsz) (by rw [tabArr_size, tabArr_size]) (tabArr_one _)
  have hs0 := tabArr_size d.cl
  go_wp2
  refine wp_named ?_
  intro V2 hV2
  have B4 : Hid (Blk V2 w.heap.size #[.slice a0 d.cl.length c0, .slice a1 n1 c1, .slice a2 n1 c2] 29) := by rw [hV2]; exact B3.out.alloc _
  have T4 : Hid (Blk V2 w3.heap.size (tabArr d.cl) 119) := by rw [hV2]; exact Blk.new _ _ _
  have X4 : Hid (Below w.heap.size w V2) := by rw [hV2]; exact X3.out.alloc X3.out.size _
  clear hV2 hst hs0 hz hsz B3 X3
  go_loopw [9, 10] (fun sv i wr => ∃ k : Nat, k ≤ nb ∧ i = .int .i64 k ∧ sv = .int .i64 (runD d 0 (b.take k)) ∧ (∀ m, m < k → marksAt d b m = []) ∧ Below V2.heap.size V2 wr) (fun _ i _ => nb + 1 - (intOf i).toNat)
  case atStart => exact ⟨0, by omega, rfl, rfl, fun m hm => absurd hm (Nat.not_lt_zero _), Below.refl _ _⟩
  case round =>
    obtain ⟨k, hk, rfl, rfl, hno, hx⟩ := hrel
    obtain ⟨wo, rfl⟩ : ∃ wo : World, wo = wr := ⟨_, rfl⟩
    have HX := Lib.hid hx
    have HNO := Lib.hid hno
    have B5 := Lib.hid (B4.out.below hx B4.out.lt)
    have T5 := Lib.hid (T4.out.below hx T4.out.lt)
    have X5 := Lib.hid (X4.out.trans (hx.mono X4.out.size))
    clear hx hno
    have hsl := runD_lt RT.out (s := 0) RT.out.pos (b.take k) (fun x hx => HB.out x (List.mem_of_mem_take hx))
    have HMA : Hid (marksAt d b k = d.mr.getD (runD d 0 (b.take k)) []) := Lib.hid rfl
    have HTK : Hid (∀ c, b[k]? = some c → runD d 0 (b.take (k + 1)) = nxt d (runD d 0 (b.take k)) (cls d.cl c)) := Lib.hid fun c hc => runD_take hc
    generalize runD d 0 (b.take k) = sv at HMA HTK hsl ⊢
    obtain ⟨mk, hmk⟩ : ∃ l, d.mr[sv]? = some l := ⟨_, List.getElem?_eq_getElem (by have := HMR.out; omega)⟩
    obtain ⟨gm, om, em, km, e9, hgm, xm, ym⟩ := (H2.out.below X5.out).elem hmk
    have HMK : Hid (marksAt d b k = mk) := Lib.hid (by rw [HMA.out, getD_some hmk])
    have hsn : sv < n1 := by rw [HN1.out]; exact hsl
    have hsi : (sv : Int) < n1 := by omega
    cases e9
    obtain ⟨⟨b0, b1, b2⟩, _⟩ := B5.out.three
    cases mk with
    | cons x l =>
      obtain ⟨g2, o2, rfl, hg2, x2⟩ := ym.elem (i := 0) (x := x) rfl
      replace x2 : wo.cell? ⟨g2, o2 + 0, none⟩ = some (.int .i64 x) := x2
      rw [Nat.add_zero] at x2
      obtain ⟨j, hj⟩ : ∃ j, j = (x :: l).length := ⟨_, rfl⟩
      rw [← hj] at xm
      have hj0 : 0 < j := by rw [hj]; simp
      have hj1 : (0 : Int) < j := by omega
      have HF : Hid (FirstIs d b ((k : Int), x, true)) := Lib.hid (.inl ⟨k, x, l, by rw [← HNB.out]; exact hk, HNO.out, HMK.out, rfl⟩)
      clear hmk ym hsl hj
      go_wp2
      refine wp_region_reg false (fun _ => False) (by kernel_rfl) 12 [0, 0, 2, 0, 14, 30, 62, 126, 1, 511, 1023, 2047] (fun i => false) (by kernel_rfl) (fun i => Eff.any _) ?_
      intro C hC hne
      have HC := Lib.hid hC
      have f0 := regCell hC (p := ⟨w.heap.size, 2, none⟩) (by have := B5.out.lt; exact this) (fun h => h) b2
      have f1 := regCell hC (p := ⟨gm, om + sv, none⟩) hgm (fun h => h) xm
      have f2 := regCell hC (p := ⟨g2, o2, none⟩) hg2 (fun h => h) x2
      clear hC b0 b1 b2 xm x2
      repeat (refine regStep (fun K hK => ?_); first | (refine regN rfl ?_; try go_simp; refine hK _ _ ?_; clear hK K) | (refine regF rfl rfl ?_; unfold floatAt; go_simp; refine hK _ _ ?_; clear hK K))
      refine regNil (fun W hW hH => ?_)
      have XX := Lib.hid (X5.out.trans (((HC.out W).1 hW).below.mono X5.out.size))
      clear hW hH HC hne f0 f1 f2
      go_wp2
      refine bodyPost_ret (v := .tuple #[.int .i64 k, .int .i64 x, .bool true, .int .i64 0]) (by simp [results, Tryz.results20, go_sem]) rfl ⟨((k : Int), x, true), HF.out, rfl, XX.out⟩
    | nil =>
      replace xm : wo.cell? ⟨gm, om + sv, none⟩ = some (.slice em 0 km) := xm
      by_cases hkn : k = nb
      · subst hkn
        have HF : Hid (FirstIs d b (0, 0, false)) := Lib.hid (.inr ⟨fun m hm => by
          by_cases e : m < k
          · exact HNO.out m e
          · obtain rfl : m = k := by have := HNB.out; omega
            exact HMK.out, rfl⟩)
        have d1 : ((k : Int) == k) = true := by simp
        clear hmk ym hsl
        go_wp2
        refine bodyPost_ret (v := .tuple #[.int .i64 0, .int .i64 0, .bool false, .int .i64 0]) (by simp [results, Tryz.results20, go_sem]) rfl ⟨(0, 0, false), HF.out, rfl, X5.out⟩
      · have hlt : k < nb := by omega
        have d1 : ((k : Int) == nb) = false := by rw [beq_eq_false_iff_ne]; omega
        obtain ⟨c, hc⟩ : ∃ c, b[k]? = some c := ⟨_, List.getElem?_eq_getElem (by have := HNB.out; omega)⟩
        have hc256 := HB.out c (List.mem_of_getElem? hc)
        have HT := Lib.hid (HTK.out c hc)
        obtain ⟨g0, o0, rfl, hg0, x0⟩ := (HBV.out.below X5.out).elem hc
        replace x0 : wo.cell? ⟨g0, o0 + k, none⟩ = some (.int .u8 c) := x0
        obtain ⟨l, hl⟩ : ∃ l, d.nx[sv]? = some l := ⟨_, List.getElem?_eq_getElem hsl⟩
        obtain ⟨g1, o1, e1, k1, e9, hg1, x1, y1⟩ := (H1.out.below X5.out).elem hl
        cases e9
        obtain ⟨q, hq⟩ : ∃ q, q = cls d.cl c := ⟨_, rfl⟩
        have hql : q < d.cl.length := by rw [hq]; exact RT.out.part.cls_lt hc256
        have hll : l.length = d.cl.length := by have := RT.out.len sv hsl; rwa [getD_some hl] at this
        obtain ⟨r, hr⟩ : ∃ r, r = nxt d sv q := ⟨_, rfl⟩
        have hlr : l[q]? = some (r : Int) := by have := RT.out.nxt_cell hsl hql; rwa [getD_some hl, ← hr] at this
        obtain ⟨g2, o2, rfl, hg2, x2⟩ := y1.elem hlr
        replace x2 : wo.cell? ⟨g2, o2 + q, none⟩ = some (.int .i64 r) := x2
        have x3 : wo.cell? ⟨w3.heap.size, c, none⟩ = some (.int .u8 q) := by rw [hq]; exact (T5.out.cell c).trans (tabArr_get _ hc256)
        have hci : (c : Int) < 256 := by omega
        obtain ⟨j, hj⟩ : ∃ j, j = l.length := ⟨_, rfl⟩
        have hqj : q < j := by omega
        have hqi : (q : Int) < j := by omega
        rw [← hj] at x1
        have hki : (k : Int) < nb := by omega
        have HRQ := Lib.hid hr
        have HQ := Lib.hid hq
        clear hc hl y1 hlr hll hql hq hr hj hsl hmk ym
        go_wp2
        refine wp_region_reg false (fun _ => False) (by kernel_rfl) 14 [0, 1, 0, 7, 15, 0, 0, 96, 224, 480, 992, 2047, 4095, 8191] (fun i => false) (by kernel_rfl) (fun i => Eff.any _) ?_
        intro C hC hne
        have HC := Lib.hid hC
        have f0 := regCell hC (p := ⟨w.heap.size, 1, none⟩) (by have := B5.out.lt; exact this) (fun h => h) b1
        have f1 := regCell hC (p := ⟨g1, o1 + sv, none⟩) hg1 (fun h => h) x1
        have f2 := regCell hC (p := ⟨g2, o2 + q, none⟩) hg2 (fun h => h) x2
        have f3 := regCell hC (p := ⟨w3.heap.size, c, none⟩) (by have := T5.out.lt; exact this) (fun h => h) x3
        have f4 := regCell hC (p := ⟨g0, o0 + k, none⟩) hg0 (fun h => h) x0
        clear hC b0 b1 b2 x1 x2 x3 x0 xm
        repeat (refine regStep (fun K hK => ?_); first | (refine regN rfl ?_; try go_simp; refine hK _ _ ?_; clear hK K) | (refine regF rfl rfl ?_; unfold floatAt; go_simp; refine hK _ _ ?_; clear hK K))
        refine regNil (fun W hW hH => ?_)
        have hM := (HC.out W).1 hW
        have XX := Lib.hid (HX.out.trans (hM.below.mono HX.out.size))
        clear hM hW hH HC HX f0 f1 f2 f3 f4
        go_wp2
        go_roundw
        case rel => exact ⟨k + 1, by omega, by go_num, by rw [HT.out, ← HQ.out, ← HRQ.out], fun m hm => by
          by_cases e : m < k
          · exact HNO.out m e
          · obtain rfl : m = k := by omega
            exact HMK.out, XX.out⟩
        case measure => simp [intOf]; omega
end Go.Proofs.YthdnlndpmmiboaaGreatDoor
namespace Go.Proofs.YthdnlndpmmiboaaGreatDoor
open Go Go.RowKit Go.Shelf Go.Maps
attribute [local go_sem] encS

theorem tab_index (p : List BS) {c : Nat} (hc : c < 256) (W : World) : (Instr.index 119 (.agg (tabArr p)) (.int .u8 c)).run Tryz.prog W = .ok (.int .u8 (cls p c)) W := by
  have h1 := tabArr_get p hc
  have h2 : (c : Int) < 256 := by omega
  simp [Instr.index, asIntOf, run_underlying Tryz.underlying119, part, Tryz.isAgg5, Tryz.sizeOf5, h1, go_sem]
  intro h; omega
set_option maxRecDepth 100000 in
set_option maxHeartbeats 4000000 in
theorem dfaClass_any (v : Value) (d : DF) (sm : Sm d) (c : Nat) (hc : c < 256) (w : World) (h : IsDf w v d) :
    Calls Tryz.prog 30 #[v, .int .u8 c] w fun e w' => e = .returned (if d.right then .tuple #[.int .i64 (cls d.cl c), .int .i64 0] else .tuple #[.int .i64 0, .int .i64 182]) ∧ Below w.heap.size w w' := by
  have CR : Hid (∀ W, Below w.heap.size w W → Calls Tryz.prog 28 #[v] W fun e w' => e = .returned (.bool d.right) ∧ Below W.heap.size W w') := fun W hW => right_any v d W (h.below hW) sm
  have CT : Hid (d.right = true → ∀ W, Below w.heap.size w W → Calls Tryz.prog 62 #[v] W fun e w' => e = .returned (.agg (tabArr d.cl)) ∧ Below W.heap.size W w') := fun hr W hW => dfaTable_any v d ((right_iff d).1 hr) W (h.below hW)
  have HC256 : Hid (d.right = true → cls d.cl c < 256) := fun hr => by
    have rt := (right_iff d).1 hr
    have := rt.part.cls_lt hc
    have := rt.clle
    omega
  obtain ⟨v0, v1, v2, rfl, h0, h1, h2⟩ := h
  obtain ⟨a0, c0, rfl⟩ := h0.1.form
  obtain ⟨a1, c1, rfl⟩ := h1.form
  obtain ⟨a2, c2, rfl⟩ := h2.form
  generalize d.cl.length = n0 at *
  generalize d.nx.length = n1 at *
  generalize d.mr.length = n2 at *
  clear h0 h1 h2 sm
  obtain ⟨r, hr⟩ : ∃ r, r = d.right := ⟨_, rfl⟩
  rw [← hr] at CR CT HC256 ⊢
  have hix := fun W => tab_index d.cl hc W
  obtain ⟨q, hqq⟩ : ∃ q, q = cls d.cl c := ⟨_, rfl⟩
  rw [← hqq] at hix HC256 ⊢
  clear hqq
  go_enter Tryz.func30, Tryz.ntmps30
  go_wp2_with fail
  refine calls_named ?_
  intro V hV
  have B1 : Hid (Blk V w.heap.size #[.slice a0 n0 c0, .slice a1 n1 c1, .slice a2 n2 c2] 29) := by rw [hV]; exact Blk.new w _ _
  have X1 : Hid (Below w.heap.size w V) := by rw [hV]; exact ((Ext.refl w).alloc _).below
  clear hV
  refine (CR.out _ X1.out).mono ?_
  rintro e w2 ⟨rfl, hx⟩
  have B2 := Lib.hid (B1.out.below hx B1.out.lt)
  have X2 := Lib.hid (X1.out.trans (hx.mono X1.out.size))
  clear hx B1 X1
  obtain ⟨⟨k0, k1, k2⟩, _⟩ := B2.out.three
  clear hr
  cases r with
  | false =>
    go_wp2
    refine bodyPost_ret (v := .tuple #[.int .i64 0, .int .i64 182]) (by simp [results, Tryz.results30, go_sem]) rfl ⟨rfl, X2.out⟩
  | true =>
    have hq := HC256.out (by trivial)
    have cv := IntWalk.i64_in (q : Int) (by omega)
    go_wp2_with fail
    refine (CT.out (by trivial) _ X2.out).mono ?_
    rintro e w3 ⟨rfl, hx⟩
    have X3 := Lib.hid (X2.out.trans (hx.mono X2.out.size))
    clear hx
    go_wp2
    refine bodyPost_ret (v := .tuple #[.int .i64 q, .int .i64 0]) (by simp [results, Tryz.results30, go_sem]) rfl ⟨rfl, X3.out⟩
end Go.Proofs.YthdnlndpmmiboaaGreatDoor
namespace Go.Proofs.YthdnlndpmmiboaaGreatDoor
open Go Go.RowKit Go.Shelf Go.Maps
attribute [local go_sem] encS

/-- P18.2: the state behind bytes, and the number of the error. -/
def runE (d : DF) (s : Int) (b : List Nat) : Int × Int := if d.right = false then (0, 182) else if s < 0 ∨ (d.nx.length : Int) ≤ s then (0, 2) else (((runD d s.toNat b : Nat) : Int), 0)
set_option maxRecDepth 100000 in
set_option maxHeartbeats 4000000 in
theorem dfaRunE_any (v bv : Value) (d : DF) (sm : Sm d) (s : Int) (b : List Nat) (hb : ∀ c ∈ b, c < 256) (hbn : b.length ≤ 1000000) (w : World) (h : IsDf w v d) (hbv : IsSl encB w bv b) :
    Calls Tryz.prog 32 #[v, .int .i64 s, bv] w fun e w' => e = .returned (.tuple #[.int .i64 (runE d s b).1, .int .i64 (runE d s b).2]) ∧ Below w.heap.size w w' := by
  by_cases hgo : d.right = true ∧ 0 ≤ s ∧ s < d.nx.length
  · obtain ⟨n, rfl⟩ : ∃ n : Nat, s = n := ⟨s.toNat, by omega⟩
    have e1 : runE d n b = (((runD d n b : Nat) : Int), 0) := by
      unfold runE
      rw [hgo.1, if_neg (by decide), if_neg (by omega), Int.toNat_natCast]
    rw [e1]
    exact dfaRun_any v bv d ((right_iff d).1 hgo.1) sm n (by omega) b hb hbn w h hbv
  · have CR : Hid (∀ W, Below w.heap.size w W → Calls Tryz.prog 28 #[v] W fun e w' => e = .returned (.bool d.right) ∧ Below W.heap.size W w') := fun W hW => right_any v d W (h.below hW) sm
    obtain ⟨v0, v1, v2, rfl, h0, h1, h2⟩ := h
    obtain ⟨a0, c0, rfl⟩ := h0.1.form
    obtain ⟨a1, c1, rfl⟩ := h1.form
    obtain ⟨a2, c2, rfl⟩ := h2.form
    obtain ⟨ab, cb, rfl⟩ := hbv.form
    obtain ⟨R, hR⟩ : ∃ z, z = runE d s b := ⟨_, rfl⟩
    rw [← hR]
    have HR := Lib.hid hR
    have HG := Lib.hid hgo
    obtain ⟨r, hr⟩ : ∃ r, r = d.right := ⟨_, rfl⟩
    have Hr := Lib.hid hr
    rw [← hr] at CR
    obtain ⟨n1, hn1⟩ : ∃ n, n = d.nx.length := ⟨_, rfl⟩
    have HN := Lib.hid hn1
    rw [← hn1] at CR ⊢
    have hn4 : r = true → n1 ≤ 4000 := fun h => by rw [hn1]; exact ((right_iff d).1 (hr.symm.trans h)).le
    have HN4 := Lib.hid hn4
    clear h0 h1 h2 hbv hgo hR hr hn1 hn4 sm
    generalize d.cl.length = n0 at *
    generalize d.mr.length = n2 at *
    generalize b.length = nb at *
    go_enter Tryz.func32, Tryz.ntmps32
    go_wp2_with fail
    refine calls_named ?_
    intro V hV
    have B1 : Hid (Blk V w.heap.size #[.slice a0 n0 c0, .slice a1 n1 c1, .slice a2 n2 c2] 29) := by rw [hV]; exact Blk.new w _ _
    have X1 : Hid (Below w.heap.size w V) := by rw [hV]; exact ((Ext.refl w).alloc _).below
    clear hV
    refine (CR.out _ X1.out).mono ?_
    rintro e w2 ⟨rfl, hx⟩
    have B2 := Lib.hid (B1.out.below hx B1.out.lt)
    have X2 := Lib.hid (X1.out.trans (hx.mono X1.out.size))
    clear hx B1 X1
    obtain ⟨⟨k0, k1, k2⟩, _⟩ := B2.out.three
    cases r with
    | false =>
      have HRR : Hid (R = (0, 182)) := Lib.hid (by rw [HR.out]; unfold runE; rw [← Hr.out, if_pos rfl])
      go_wp2
      refine bodyPost_ret (v := .tuple #[.int .i64 0, .int .i64 182]) (by simp [results, Tryz.results32, go_sem]) rfl ⟨by rw [HRR.out], X2.out⟩
    | true =>
      have hn4 := HN4.out rfl
      have hbad : s < 0 ∨ (n1 : Int) ≤ s := by
        by_cases h : s < 0
        · exact .inl h
        · right
          by_cases h2 : (n1 : Int) ≤ s
          · exact h2
          · exact absurd ⟨Hr.out.symm, by omega, by have := HN.out; omega⟩ HG.out
      have HRR : Hid (R = (0, 2)) := Lib.hid (by rw [HR.out]; unfold runE; rw [← Hr.out, ← HN.out, if_neg (by decide), if_pos hbad])
      by_cases hneg : s < 0
      · have d1 : decide (s < 0) = true := decide_eq_true hneg
        clear hbad
        go_wp2
        refine bodyPost_ret (v := .tuple #[.int .i64 0, .int .i64 2]) (by simp [results, Tryz.results32, go_sem]) rfl ⟨by rw [HRR.out], X2.out⟩
      · have d1 : decide (s < 0) = false := decide_eq_false hneg
        have d2 : decide ((n1 : Int) ≤ s) = true := decide_eq_true (by omega)
        clear hbad
        go_wp2
        refine bodyPost_ret (v := .tuple #[.int .i64 0, .int .i64 2]) (by simp [results, Tryz.results32, go_sem]) rfl ⟨by rw [HRR.out], X2.out⟩
set_option maxRecDepth 100000 in
set_option maxHeartbeats 4000000 in
theorem dfaStep_any (v : Value) (d : DF) (sm : Sm d) (s : Int) (c : Nat) (hc : c < 256) (w : World) (h : IsDf w v d) :
    Calls Tryz.prog 31 #[v, .int .i64 s, .int .u8 c] w fun e w' => e = .returned (.tuple #[.int .i64 (runE d s [c]).1, .int .i64 (runE d s [c]).2]) ∧ Below w.heap.size w w' := by
  have CR : Hid (∀ W bv, Below w.heap.size w W → IsSl encB W bv [c] → Calls Tryz.prog 32 #[v, .int .i64 s, bv] W fun e w' => e = .returned (.tuple #[.int .i64 (runE d s [c]).1, .int .i64 (runE d s [c]).2]) ∧ Below W.heap.size W w') := fun W bv hW hb => dfaRunE_any v bv d sm s [c] (by simpa using hc) (by simp) W (h.below hW) hb
  obtain ⟨v0, v1, v2, rfl, h0, h1, h2⟩ := h
  obtain ⟨a0, c0, rfl⟩ := h0.1.form
  obtain ⟨a1, c1, rfl⟩ := h1.form
  obtain ⟨a2, c2, rfl⟩ := h2.form
  obtain ⟨R, hR⟩ : ∃ z, z = runE d s [c] := ⟨_, rfl⟩
  rw [← hR] at CR ⊢
  clear h0 h1 h2 sm hR
  generalize d.cl.length = n0 at *
  generalize d.nx.length = n1 at *
  generalize d.mr.length = n2 at *
  go_enter Tryz.func31, Tryz.ntmps31
  go_wp2_with fail
  refine calls_named ?_
  intro V hV
  have X1 : Hid (Below w.heap.size w V) := by rw [hV]; exact Lib.hid (((Ext.refl w).alloc _).alloc _).below
  have S1 : Hid (IsSl encB V (.slice (some ⟨w.heap.size + 1, 0, none⟩) 1 1) [c]) := Lib.hid (by
    have hB : Blk V (w.heap.size + 1) #[.int .u8 c] 5 := by rw [hV]; exact (Blk.new (w.alloc _) _ _).at (by simp)
    refine .inr ⟨w.heap.size + 1, 0, 1, rfl, hB.lt, by simp, fun i x hi => ?_⟩
    cases i with
    | zero => cases hi; exact hB.cell 0
    | succ i => simp at hi)
  clear hV
  refine (CR.out V _ X1.out S1.out).mono ?_
  rintro e w2 ⟨rfl, hx⟩
  have X2 := Lib.hid (X1.out.trans (hx.mono X1.out.size))
  clear hx
  go_wp2
  refine bodyPost_ret (v := .tuple #[.int .i64 R.1, .int .i64 R.2]) (by simp [results, Tryz.results31, go_sem]) rfl ⟨rfl, X2.out⟩
end Go.Proofs.YthdnlndpmmiboaaGreatDoor
