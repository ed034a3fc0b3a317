/-
  What the reference's product refuses; and Parts.
-/
import Derived.Test.YtiegfnmpknmbmaaGreatK50
import Derived.Test.YtiegfnmpknmbmaaGreatK44
import Derived.Test.YtiegfnmpknmbmaaGreatK35
namespace Go.Proofs.YtiegfnmpknmbmaaGreat
open Go Go.RowKit Go.Shelf Go.Maps
attribute [local go_sem] encS

set_option maxRecDepth 100000 in
set_option maxHeartbeats 4000000 in
theorem rof_refuse (v v' : Value) (a b : DF) (sa : Sm a) (sb : Sm b) (op : Nat) (f : Int) (hbad : (a.right && b.right) = false ∨ (op < 1 ∨ 4 < op) ∨ (f < 0 ∨ 4000 < f) ∨ f = 0) (w : World) (h : IsRf w v a) (h' : IsRf w v' b) :
    Calls Tryz.prog 17 #[v, v', .int .i64 op, .int .i64 f] w fun e w' => ∃ u, e = .returned (.tuple #[u, .int .i64 (prodE a b op f).2]) ∧ IsRf w' u (prodE a b op f).1 ∧ Below w.heap.size w w' := by
  have CR : Hid (∀ W, Below w.heap.size w W → Calls Tryz.prog 30 #[v] W fun e w' => e = .returned (.bool a.right) ∧ Below W.heap.size W w') := fun W hW => refRight_any v a W (h.below hW) sa
  have CR' : Hid (∀ W, Below w.heap.size w W → Calls Tryz.prog 30 #[v'] W fun e w' => e = .returned (.bool b.right) ∧ Below W.heap.size W w') := fun W hW => refRight_any v' b W (h'.below hW) sb
  obtain ⟨v0, v1, v2, rfl, h0, h1, h2⟩ := h
  obtain ⟨u0, u1, u2, rfl, g0, g1, g2⟩ := h'
  obtain ⟨PE, hPE⟩ : ∃ x, x = prodE a b op f := ⟨_, rfl⟩
  rw [← hPE]
  have HPE := Lib.hid hPE
  obtain ⟨ar, har⟩ : ∃ x, x = a.right := ⟨_, rfl⟩
  obtain ⟨br, hbr⟩ : ∃ x, x = b.right := ⟨_, rfl⟩
  rw [← har] at CR hbad
  rw [← hbr] at CR' hbad
  have HAR := Lib.hid har
  have HBR := Lib.hid hbr
  have HBAD := Lib.hid hbad
  clear h0 h1 h2 g0 g1 g2 hPE har hbr hbad
  have fin : Hid (∀ (W : World) (c : Int), PE = (dfZ, c) → Below w.heap.size w W → ∀ e, e = Ending.returned (.tuple #[.agg #[.slice none 0 0, .slice none 0 0, .slice none 0 0], .int .i64 c]) → ∃ u, e = .returned (.tuple #[u, .int .i64 PE.2]) ∧ IsRf W u PE.1 ∧ Below w.heap.size w W) := Lib.hid fun W c h hx e he => by rw [h]; exact ⟨_, he, ⟨_, _, _, rfl, .inl ⟨rfl, rfl⟩, IsLL.nil _, IsLL.nil _⟩, hx⟩
  go_enter Tryz.func17, Tryz.ntmps17
  go_wp2_with fail
  refine calls_named ?_
  intro V hV
  have B4 : Hid (Blk V w.heap.size #[v0, v1, v2] 42) := by rw [hV]; exact (((Blk.new w _ _).alloc _).alloc _).alloc _
  have B5 : Hid (Blk V (w.heap.size + 1) #[u0, u1, u2] 42) := by rw [hV]; exact (((Blk.new (w.alloc _) _ _).at (by simp)).alloc _).alloc _
  have B8 : Hid (Blk V (w.heap.size + 2) #[.slice none 0 0, .slice none 0 0, .slice none 0 0] 42) := by rw [hV]; exact ((Blk.new ((w.alloc _).alloc _) _ _).at (by simp)).alloc _
  have B10 : Hid (Blk V (w.heap.size + 3) #[.slice none 0 0, .slice none 0 0, .slice none 0 0] 42) := by rw [hV]; exact (Blk.new (((w.alloc _).alloc _).alloc _) _ _).at (by simp)
  have X1 : Hid (Below w.heap.size w V) := by rw [hV]; exact (((((Ext.refl w).alloc _).alloc _).alloc _).alloc _).below
  clear hV
  refine (CR.out V X1.out).mono ?_
  rintro e w2 ⟨rfl, hx⟩
  have C5 := Lib.hid (B5.out.below hx B5.out.lt)
  have C8 := Lib.hid (B8.out.below hx B8.out.lt)
  have C10 := Lib.hid (B10.out.below hx B10.out.lt)
  have X2 := Lib.hid (X1.out.trans (hx.mono X1.out.size))
  clear hx B4 B5 B8 B10 X1 CR
  cases ar with
  | false =>
    obtain ⟨⟨k0, k1, k2⟩, z0, z1, z2⟩ := C8.out.three
    obtain ⟨⟨l0, l1, l2⟩, _⟩ := C10.out.three
    have fin2 : Hid (∀ (W9 : World), W9 = (((w2.setCell ⟨w.heap.size + 2, 0, none⟩ (.slice none 0 0)).setCell ⟨w.heap.size + 2, 1, none⟩ (.slice none 0 0)).setCell ⟨w.heap.size + 2, 2, none⟩ (.slice none 0 0)) → Blk W9 (w.heap.size + 2) #[.slice none 0 0, .slice none 0 0, .slice none 0 0] 42 ∧ Below w.heap.size w W9) := Lib.hid fun W9 hW9 => by rw [hW9]; exact ⟨C8.out.set3, below_set3 X2.out (by omega)⟩
    go_wp2
    refine post_named ?_
    intro W9 hW9
    have E9 := Lib.hid (fin2.out W9 hW9)
    clear hW9
    obtain ⟨⟨m0, m1, m2⟩, _⟩ := E9.out.1.three
    refine bodyPost_ret (v := .tuple #[.agg #[.slice none 0 0, .slice none 0 0, .slice none 0 0], .int .i64 182]) (by simp [results, Tryz.results17, go_sem, m0, m1, m2]) rfl (fin.out W9 182 (HPE.out.trans (prodE_right (by rw [← HAR.out]; rfl) _ _)) E9.out.2 _ rfl)
  | true =>
    obtain ⟨⟨k0, k1, k2⟩, _⟩ := C5.out.three
    go_wp2_with fail
    refine (CR'.out w2 X2.out).mono ?_
    rintro e w3 ⟨rfl, hx⟩
    have D8 := Lib.hid (C8.out.below hx C8.out.lt)
    have D10 := Lib.hid (C10.out.below hx C10.out.lt)
    have X3 := Lib.hid (X2.out.trans (hx.mono X2.out.size))
    clear hx k0 k1 k2 C5 C8 C10 X2 CR'
    obtain ⟨⟨k0, k1, k2⟩, z0, z1, z2⟩ := D8.out.three
    obtain ⟨⟨l0, l1, l2⟩, _⟩ := D10.out.three
    have fin2 : Hid (∀ (W9 : World), W9 = (((w3.setCell ⟨w.heap.size + 2, 0, none⟩ (.slice none 0 0)).setCell ⟨w.heap.size + 2, 1, none⟩ (.slice none 0 0)).setCell ⟨w.heap.size + 2, 2, none⟩ (.slice none 0 0)) → Blk W9 (w.heap.size + 2) #[.slice none 0 0, .slice none 0 0, .slice none 0 0] 42 ∧ Below w.heap.size w W9) := Lib.hid fun W9 hW9 => by rw [hW9]; exact ⟨D8.out.set3, below_set3 X3.out (by omega)⟩
    cases br with
    | false =>
      go_wp2
      refine post_named ?_
      intro W9 hW9
      have E9 := Lib.hid (fin2.out W9 hW9)
      clear hW9
      obtain ⟨⟨m0, m1, m2⟩, _⟩ := E9.out.1.three
      refine bodyPost_ret (v := .tuple #[.agg #[.slice none 0 0, .slice none 0 0, .slice none 0 0], .int .i64 182]) (by simp [results, Tryz.results17, go_sem, m0, m1, m2]) rfl (fin.out W9 182 (HPE.out.trans (prodE_right (by rw [← HAR.out, ← HBR.out]; rfl) _ _)) E9.out.2 _ rfl)
    | true =>
      have hr : ¬ (a.right && b.right) = false := by rw [← HAR.out, ← HBR.out]; decide
      by_cases ho1 : (op : Int) < 1
      · have d1 : decide ((op : Int) < 1) = true := decide_eq_true ho1
        have HPP : Hid (PE = (dfZ, 190)) := Lib.hid (by rw [HPE.out]; unfold prodE; rw [if_neg hr, if_pos (by omega)])
        clear hr
        go_wp2
        refine post_named ?_
        intro W9 hW9
        have E9 := Lib.hid (fin2.out W9 hW9)
        clear hW9
        obtain ⟨⟨m0, m1, m2⟩, _⟩ := E9.out.1.three
        refine bodyPost_ret (v := .tuple #[.agg #[.slice none 0 0, .slice none 0 0, .slice none 0 0], .int .i64 190]) (by simp [results, Tryz.results17, go_sem, m0, m1, m2]) rfl (fin.out W9 190 (HPP.out) E9.out.2 _ rfl)
      · have d1 : decide ((op : Int) < 1) = false := decide_eq_false ho1
        by_cases ho4 : (4 : Int) < op
        · have d2 : decide ((4 : Int) < op) = true := decide_eq_true ho4
          have HPP : Hid (PE = (dfZ, 190)) := Lib.hid (by rw [HPE.out]; unfold prodE; rw [if_neg hr, if_pos (by omega)])
          clear hr
          go_wp2
          refine post_named ?_
          intro W9 hW9
          have E9 := Lib.hid (fin2.out W9 hW9)
          clear hW9
          obtain ⟨⟨m0, m1, m2⟩, _⟩ := E9.out.1.three
          refine bodyPost_ret (v := .tuple #[.agg #[.slice none 0 0, .slice none 0 0, .slice none 0 0], .int .i64 190]) (by simp [results, Tryz.results17, go_sem, m0, m1, m2]) rfl (fin.out W9 190 (HPP.out) E9.out.2 _ rfl)
        · have d2 : decide ((4 : Int) < op) = false := decide_eq_false ho4
          by_cases hf0 : f < 0
          · have d3 : decide (f < 0) = true := decide_eq_true hf0
            have HPP : Hid (PE = (dfZ, 2)) := Lib.hid (by rw [HPE.out]; unfold prodE; rw [if_neg hr, if_neg (by omega), if_pos (by omega)])
            clear hr
            go_wp2
            refine post_named ?_
            intro W9 hW9
            have E9 := Lib.hid (fin2.out W9 hW9)
            clear hW9
            obtain ⟨⟨m0, m1, m2⟩, _⟩ := E9.out.1.three
            refine bodyPost_ret (v := .tuple #[.agg #[.slice none 0 0, .slice none 0 0, .slice none 0 0], .int .i64 2]) (by simp [results, Tryz.results17, go_sem, m0, m1, m2]) rfl (fin.out W9 2 (HPP.out) E9.out.2 _ rfl)
          · have d3 : decide (f < 0) = false := decide_eq_false hf0
            by_cases hf4 : 4000 < f
            · have d4 : decide (4000 < f) = true := decide_eq_true hf4
              have HPP : Hid (PE = (dfZ, 2)) := Lib.hid (by rw [HPE.out]; unfold prodE; rw [if_neg hr, if_neg (by omega), if_pos (by omega)])
              clear hr
              go_wp2
              refine post_named ?_
              intro W9 hW9
              have E9 := Lib.hid (fin2.out W9 hW9)
              clear hW9
              obtain ⟨⟨m0, m1, m2⟩, _⟩ := E9.out.1.three
              refine bodyPost_ret (v := .tuple #[.agg #[.slice none 0 0, .slice none 0 0, .slice none 0 0], .int .i64 2]) (by simp [results, Tryz.results17, go_sem, m0, m1, m2]) rfl (fin.out W9 2 (HPP.out) E9.out.2 _ rfl)
            · have d4 : decide (4000 < f) = false := decide_eq_false hf4
              obtain rfl : f = 0 := by
                rcases HBAD.out with h | h | h | h
                · cases h
                · omega
                · omega
                · exact h
              have HPP : Hid (PE = (dfZ, 181)) := Lib.hid (by rw [HPE.out]; unfold prodE; rw [if_neg hr, if_neg (by omega), if_neg (by omega), if_pos rfl])
              clear hr hf0 hf4
              go_wp2
              refine post_named ?_
              intro W9 hW9
              have E9 := Lib.hid (fin2.out W9 hW9)
              clear hW9
              obtain ⟨⟨m0, m1, m2⟩, _⟩ := E9.out.1.three
              refine bodyPost_ret (v := .tuple #[.agg #[.slice none 0 0, .slice none 0 0, .slice none 0 0], .int .i64 181]) (by simp [results, Tryz.results17, go_sem, m0, m1, m2]) rfl (fin.out W9 181 (HPP.out) E9.out.2 _ rfl)
theorem rof_any (v v' : Value) (a b : DF) (sa : Sm a) (sb : Sm b) (op : Nat) (f : Int) (w : World) (h : IsRf w v a) (h' : IsRf w v' b) :
    Calls Tryz.prog 17 #[v, v', .int .i64 op, .int .i64 f] w fun e w' => ∃ u, e = .returned (.tuple #[u, .int .i64 (prodE a b op f).2]) ∧ IsRf w' u (prodE a b op f).1 ∧ Below w.heap.size w w' := by
  by_cases hbad : (a.right && b.right) = false ∨ (op < 1 ∨ 4 < op) ∨ (f < 0 ∨ 4000 < f) ∨ f = 0
  · exact rof_refuse v v' a b sa sb op f hbad w h h'
  · obtain ⟨n, rfl⟩ : ∃ n : Nat, f = n := ⟨f.toNat, by omega⟩
    have hr : a.right = true ∧ b.right = true := by
      cases ha : a.right <;> cases hb : b.right <;> simp [ha, hb] at hbad <;> simp
    exact rof_main v v' a b ((right_iff a).1 hr.1) ((right_iff b).1 hr.2) sa sb op (by omega) (by omega) n (by omega) (by omega) w h h'
set_option maxRecDepth 100000 in
set_option maxHeartbeats 4000000 in
theorem rparts_any (v v' : Value) (a b : DF) (sa : Sm a) (sb : Sm b) (op : Nat) (f : Int) (w : World) (h : IsRf w v a) (h' : IsRf w v' b) :
    Calls Tryz.prog 18 #[v, v', .int .i64 op, .int .i64 f] w fun e w' => ∃ u, e = .returned (.tuple #[u, .bool (partsE a b op f).2.1, .int .i64 (partsE a b op f).2.2]) ∧ w'.ownsRow w.heap.size 5 1 u (partsE a b op f).1.length ((partsE a b op f).1.map encB) ∧ Below w.heap.size w w' := by
  have CO : Hid (∀ W, Below w.heap.size w W → Calls Tryz.prog 17 #[v, v', .int .i64 op, .int .i64 f] W fun e w' => ∃ u, e = .returned (.tuple #[u, .int .i64 (prodE a b op f).2]) ∧ IsRf w' u (prodE a b op f).1 ∧ Below W.heap.size W w') := fun W hW => rof_any v v' a b sa sb op f W (h.below hW) (h'.below hW)
  have hsm := prodE_sm a b op f
  obtain ⟨qe, hqe⟩ : ∃ q, q = partsE a b op f := ⟨_, rfl⟩
  have hpe : ((prodE a b op f).2 = 0 ∧ qe = ((firstR (prodE a b op f).1).getD [], !(firstR (prodE a b op f).1).isSome, 0)) ∨ ((prodE a b op f).2 ≠ 0 ∧ qe = ([], false, (prodE a b op f).2)) := by
    rw [hqe]
    unfold partsE
    by_cases h0 : (prodE a b op f).2 = 0
    · exact .inl ⟨h0, if_pos h0⟩
    · exact .inr ⟨h0, if_neg h0⟩
  rw [← hqe]
  generalize prodE a b op f = pe at *
  obtain ⟨pd, pc⟩ := pe
  obtain ⟨ql, qb, qc⟩ := qe
  obtain ⟨v0, v1, v2, rfl, h0, h1, h2⟩ := h
  obtain ⟨u0, u1, u2, rfl, g0, g1, g2⟩ := h'
  have SM := Lib.hid hsm
  have HPE := Lib.hid hpe
  clear h0 h1 h2 g0 g1 g2 sa sb hsm hpe hqe
  simp only at CO ⊢
  go_enter Tryz.func18, Tryz.ntmps18
  go_wp2_with fail
  refine calls_named ?_
  intro V hV
  have X1 : Hid (Below w.heap.size w V) := by rw [hV]; exact (((Ext.refl w).alloc _).alloc _).below
  clear hV
  refine (CO.out V X1.out).mono ?_
  rintro e w2 ⟨u, rfl, ho, hx⟩
  obtain ⟨x0, x1, x2, rfl, o0, o1, o2⟩ := ho
  obtain ⟨xa0, xc0, rfl⟩ := o0.form
  obtain ⟨xa1, xc1, rfl⟩ := o1.form
  obtain ⟨xa2, xc2, rfl⟩ := o2.form
  have RF2 : Hid (IsRf w2 (.agg #[.slice xa0 (pd.cl.map refS).length xc0, .slice xa1 pd.nx.length xc1, .slice xa2 pd.mr.length xc2]) pd) := Lib.hid ⟨_, _, _, rfl, o0, o1, o2⟩
  obtain ⟨l0, hl0⟩ : ∃ k, k = (pd.cl.map refS).length := ⟨_, rfl⟩
  obtain ⟨l1, hl1⟩ : ∃ k, k = pd.nx.length := ⟨_, rfl⟩
  obtain ⟨l2, hl2⟩ : ∃ k, k = pd.mr.length := ⟨_, rfl⟩
  rw [← hl0, ← hl1, ← hl2] at RF2 ⊢
  clear hl0 hl1 hl2
  have X2 := Lib.hid (X1.out.trans (hx.mono X1.out.size))
  clear o0 o1 o2 hx X1 CO
  rcases HPE.out with ⟨hp0, hq⟩ | ⟨hp0, hq⟩
  · have hp0 : pc = 0 := hp0
    subst hp0
    have HQ := Lib.hid hq
    have hright : pd.right = true := SM.out.2 rfl
    have CF : Hid (∀ W, IsRf W (.agg #[.slice xa0 l0 xc0, .slice xa1 l1 xc1, .slice xa2 l2 xc2]) pd → Calls Tryz.prog 31 #[.agg #[.slice xa0 l0 xc0, .slice xa1 l1 xc1, .slice xa2 l2 xc2]] W fun e w' => ∃ u, e = .returned (.tuple #[u, .bool (firstR pd).isSome]) ∧ w'.ownsRow W.heap.size 5 1 u ((firstR pd).getD []).length (((firstR pd).getD []).map encB) ∧ Below W.heap.size W w') := Lib.hid fun W h => rfirst_any _ pd ((right_iff pd).1 hright) W h
    clear hq hright
    go_wp2_with fail
    refine calls_named ?_
    intro V3 hV3
    have X3 : Hid (Below w2.heap.size w2 V3) := by rw [hV3]; exact ((Ext.refl w2).alloc _).below
    clear hV3
    refine (CF.out V3 (RF2.out.below X3.out)).mono ?_
    rintro e w4 ⟨u, rfl, hr, hx⟩
    have hr := ownsRow_base hr (show w.heap.size ≤ V3.heap.size by have := X2.out.size; have := X3.out.size; omega)
    have X4 := Lib.hid ((X2.out.trans (X3.out.mono X2.out.size)).trans (hx.mono (Nat.le_trans X2.out.size X3.out.size)))
    have e1 : ql = (firstR pd).getD [] := congrArg (·.1) HQ.out
    have e2 : qb = !(firstR pd).isSome := congrArg (·.2.1) HQ.out
    have e3 : qc = 0 := congrArg (·.2.2) HQ.out
    rw [← e1] at hr
    have RR := Lib.hid hr
    obtain ⟨ua, uc, rfl⟩ := ownsRow_form hr
    obtain ⟨fb, hfb⟩ : ∃ x, x = (firstR pd).isSome := ⟨_, rfl⟩
    rw [← hfb] at e2 ⊢
    have E2 := Lib.hid e2
    subst e3
    clear hr hx e1 e2 hfb RF2 SM HPE HQ CF X3 X2
    cases fb
    · go_wp2
      exact bodyPost_ret (v := .tuple #[.slice ua ql.length uc, .bool true, .int .i64 0]) (by simp [results, Tryz.results18, go_sem]) rfl ⟨_, by rw [show qb = true from E2.out], RR.out, X4.out⟩
    · go_wp2
      exact bodyPost_ret (v := .tuple #[.slice ua ql.length uc, .bool false, .int .i64 0]) (by simp [results, Tryz.results18, go_sem]) rfl ⟨_, by rw [show qb = false from E2.out], RR.out, X4.out⟩
  · have e1 : ql = [] := congrArg (·.1) hq
    have e2 : qb = false := congrArg (·.2.1) hq
    have e3 : qc = pc := congrArg (·.2.2) hq
    subst e1
    subst e2
    subst e3
    have hb : ((qc : Int) == 0) = false := by rw [beq_eq_false_iff_ne]; exact hp0
    have X3 : Hid (∀ o, Below w.heap.size w (w2.alloc o)) := Lib.hid fun o => X2.out.alloc X2.out.size o
    clear hp0 RF2 SM HPE hq
    go_wp2
    exact bodyPost_ret (v := .tuple #[.slice none 0 0, .bool false, .int .i64 qc]) (by simp [results, Tryz.results18, go_sem]) rfl ⟨_, rfl, World.ownsRow_nil _ _ _ _, X3.out _⟩
end Go.Proofs.YtiegfnmpknmbmaaGreat
