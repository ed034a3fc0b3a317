/-
  product.First in all; Empty.
  product.Empty, parts, Within, Equal.
  The number of a set's bytes.
  Lists of numbers that are filled one by one.
-/
import Derived.Test.YtiegfnmpknmbmaaGreatK34
import Derived.Test.YtiegfnmpknmbmaaGreatK02
namespace Go.Proofs.YtiegfnmpknmbmaaGreat
open Go Go.RowKit Go.Shelf Go.Maps
attribute [local go_sem] encS

/-- P19.3: what First answers. -/
def firstE (d : DF) : List Nat × Bool × Int := if d.right then ((firstR d).getD [], (firstR d).isSome, 0) else ([], false, 182)
set_option maxRecDepth 100000 in
set_option maxHeartbeats 4000000 in
theorem pfirst_any (v : Value) (d : DF) (sm : Sm d) (w : World) (h : IsDf w v d) :
    Calls Tryz.prog 26 #[v] w fun e w' => ∃ u, e = .returned (.tuple #[u, .bool (firstE d).2.1, .int .i64 (firstE d).2.2]) ∧ w'.ownsRow w.heap.size 5 1 u (firstE d).1.length ((firstE d).1.map encB) ∧ Below w.heap.size w w' := by
  unfold firstE
  cases hr : d.right with
  | true => exact pfirst_main v d ((right_iff d).1 hr) sm w h
  | false =>
    have CR : Hid (∀ W, Below w.heap.size w W → Calls Tryz.prog 47 #[v] W fun e w' => e = .returned (.bool false) ∧ Below W.heap.size W w') := fun W hW => by
      have := right_any v d W (h.below hW) sm
      rwa [hr] at this
    obtain ⟨v0, v1, v2, rfl, h0, h1, h2⟩ := h
    clear h0 h1 h2 hr sm
    go_enter Tryz.func26, Tryz.ntmps26
    go_wp2_with fail
    refine wp_named ?_
    intro V hV
    have B1 : Hid (Blk V w.heap.size #[v0, v1, v2] 25) := by rw [hV]; exact Blk.new w _ _
    have X1 : Hid (Below w.heap.size w V) := by rw [hV]; exact ((Ext.refl w).alloc _).below
    clear hV
    obtain ⟨⟨k0, k1, k2⟩, _⟩ := B1.out.three
    refine wp_scope_straight ?_
    go_wp2_with fail
    refine (CR.out V X1.out).mono ?_
    rintro e w2 ⟨rfl, hx⟩
    have X2 := Lib.hid (X1.out.trans (hx.mono X1.out.size))
    clear hx k0 k1 k2 B1 X1
    go_wp2
    rw [Exit.noGoto_ret]
    exact bodyPost_ret (v := .tuple #[.slice none 0 0, .bool false, .int .i64 182]) (by simp [results, Tryz.results26, go_sem]) rfl ⟨_, rfl, World.ownsRow_nil _ _ _ _, X2.out⟩
end Go.Proofs.YtiegfnmpknmbmaaGreat
namespace Go.Proofs.YtiegfnmpknmbmaaGreat
open Go Go.RowKit Go.Shelf Go.Maps
attribute [local go_sem] encS

theorem risB_ge {l : List Int} (h : risB l = true) : ∀ k, k < l.length → (k : Int) ≤ l.getD k 0 ∧ l.getD k 0 ≤ 255 := by
  unfold risB at h
  rw [List.all_eq_true] at h
  intro k
  induction k with
  | zero =>
    intro hk
    have := h 0 (by simpa using hk)
    unfold risAt prevOf at this
    simp at this
    refine ⟨?_, ?_⟩ <;> simp [List.getD_eq_getElem?_getD] at * <;> omega
  | succ k ih =>
    intro hk
    have h1 := ih (by omega)
    have := h (k + 1) (by simpa using hk)
    unfold risAt prevOf at this
    rw [if_neg (by omega), Bool.and_eq_true, decide_eq_true_eq, decide_eq_true_eq, Nat.add_sub_cancel] at this
    push_cast
    omega
theorem Rt.sm {d : DF} (h : Rt d) : Sm d := by
  have hn := h.le
  have hk := h.clle
  have idx : ∀ (ll : List (List Int)) (l : List Int), l ∈ ll → ∃ i, i < ll.length ∧ ll.getD i [] = l := fun ll l hl => by
    obtain ⟨i, hi⟩ := List.getElem?_of_mem hl
    exact ⟨i, (List.getElem?_eq_some_iff.1 hi).1, getD_some hi⟩
  refine ⟨by omega, by omega, by have := h.mr; omega, fun l hl => ?_, fun l hl => ?_⟩
  · obtain ⟨i, h1, h2⟩ := idx _ _ hl
    have := h.len i h1
    rw [h2] at this
    omega
  · obtain ⟨i, h1, h2⟩ := idx _ _ hl
    have hr := h.ris i (by have := h.mr; omega)
    rw [h2] at hr
    by_cases h0 : l.length = 0
    · omega
    · have := risB_ge hr (l.length - 1) (by omega)
      omega
theorem dfZ_sm : Sm dfZ := ⟨by decide, by decide, by decide, fun _ h => (by cases h), fun _ h => (by cases h)⟩
theorem prodE_sm (a b : DF) (op f : Int) : Sm (prodE a b op f).1 ∧ ((prodE a b op f).2 = 0 → (prodE a b op f).1.right = true) := by
  unfold prodE
  split
  · exact ⟨dfZ_sm, fun h => by cases h⟩
  · rename_i hr
    split
    · exact ⟨dfZ_sm, fun h => by cases h⟩
    · split
      · exact ⟨dfZ_sm, fun h => by cases h⟩
      · split
        · exact ⟨dfZ_sm, fun h => by cases h⟩
        · have hab : a.right = true ∧ b.right = true := by
            cases ha : a.right <;> cases hb : b.right <;> simp [ha, hb] at hr <;> simp
          split
          · rename_i d hd
            have := prod_right ((right_iff a).1 hab.1) ((right_iff b).1 hab.2) (fuel := f.toNat) (by omega) (by omega) hd
            exact ⟨this.sm, fun _ => (right_iff d).2 this⟩
          · exact ⟨dfZ_sm, fun h => by cases h⟩
/-- P19.4: what Within and Equal answer. -/
def partsE (a b : DF) (op f : Int) : List Nat × Bool × Int := if (prodE a b op f).2 = 0 then ((firstR (prodE a b op f).1).getD [], !(firstR (prodE a b op f).1).isSome, 0) else ([], false, (prodE a b op f).2)
set_option maxRecDepth 100000 in
set_option maxHeartbeats 4000000 in
theorem pempty_any (v : Value) (d : DF) (sm : Sm d) (w : World) (h : IsDf w v d) :
    Calls Tryz.prog 29 #[v] w fun e w' => e = .returned (.tuple #[.bool (d.right && !(firstR d).isSome), .int .i64 (firstE d).2.2]) ∧ Below w.heap.size w w' := by
  have CF : Hid (∀ W, Below w.heap.size w W → Calls Tryz.prog 26 #[v] W fun e w' => ∃ u, e = .returned (.tuple #[u, .bool (firstE d).2.1, .int .i64 (firstE d).2.2]) ∧ w'.ownsRow W.heap.size 5 1 u (firstE d).1.length ((firstE d).1.map encB) ∧ Below W.heap.size W w') := fun W hW => pfirst_any v d sm W (h.below hW)
  obtain ⟨v0, v1, v2, rfl, h0, h1, h2⟩ := h
  clear h0 h1 h2 sm
  have hE : (d.right = true ∧ (firstE d).2.1 = (firstR d).isSome ∧ (firstE d).2.2 = 0) ∨ (d.right = false ∧ (firstE d).2.1 = false ∧ (firstE d).2.2 = 182) := by
    unfold firstE
    cases d.right
    · exact .inr ⟨rfl, rfl, rfl⟩
    · exact .inl ⟨rfl, rfl, rfl⟩
  generalize hl : (firstE d).1 = fl at *
  generalize (firstE d).2.1 = fb at *
  generalize (firstE d).2.2 = fe at *
  generalize (firstR d).isSome = fs at *
  generalize d.right = r at *
  clear hl
  go_enter Tryz.func29, Tryz.ntmps29
  go_wp2_with fail
  refine calls_named ?_
  intro V hV
  have X1 : Hid (Below w.heap.size w V) := by rw [hV]; exact ((Ext.refl w).alloc _).below
  clear hV
  refine (CF.out V X1.out).mono ?_
  rintro e w2 ⟨u, rfl, _, hx⟩
  have X2 := Lib.hid (X1.out.trans (hx.mono X1.out.size))
  clear hx X1 CF
  rcases hE with ⟨rfl, rfl, rfl⟩ | ⟨rfl, rfl, rfl⟩
  · cases fb
    · go_wp2
      exact bodyPost_ret (v := .tuple #[.bool true, .int .i64 0]) (by simp [results, Tryz.results29, go_sem]) rfl ⟨rfl, X2.out⟩
    · go_wp2
      exact bodyPost_ret (v := .tuple #[.bool false, .int .i64 0]) (by simp [results, Tryz.results29, go_sem]) rfl ⟨rfl, X2.out⟩
  · go_wp2
    exact bodyPost_ret (v := .tuple #[.bool false, .int .i64 182]) (by simp [results, Tryz.results29, go_sem]) rfl ⟨rfl, X2.out⟩
set_option maxRecDepth 100000 in
set_option maxHeartbeats 4000000 in
theorem pparts_any (v v' : Value) (a b : DF) (sa : Sm a) (sb : Sm b) (op : Nat) (f : Int) (w : World) (h : IsDf w v a) (h' : IsDf w v' b) :
    Calls Tryz.prog 51 #[v, v', .int .u8 op, .int .i64 f] w fun e w' => ∃ u, e = .returned (.tuple #[u, .bool (partsE a b op f).2.1, .int .i64 (partsE a b op f).2.2]) ∧ w'.ownsRow w.heap.size 5 1 u (partsE a b op f).1.length ((partsE a b op f).1.map encB) ∧ Below w.heap.size w w' := by
  have CO : Hid (∀ W, Below w.heap.size w W → Calls Tryz.prog 19 #[v, v', .int .u8 op, .int .i64 f] W fun e w' => ∃ u, e = .returned (.tuple #[u, .int .i64 (prodE a b op f).2]) ∧ OwnDf W.heap.size w' u (prodE a b op f).1 ∧ Below W.heap.size W w') := fun W hW => prod_any v v' a b sa sb op f W (h.below hW) (h'.below hW)
  have hsm := prodE_sm a b op f
  have hpe : ((prodE a b op f).2 = 0 ∧ partsE a b op f = ((firstR (prodE a b op f).1).getD [], !(firstR (prodE a b op f).1).isSome, 0)) ∨ ((prodE a b op f).2 ≠ 0 ∧ partsE a b op f = ([], false, (prodE a b op f).2)) := by
    unfold partsE
    by_cases h0 : (prodE a b op f).2 = 0
    · exact .inl ⟨h0, if_pos h0⟩
    · exact .inr ⟨h0, if_neg h0⟩
  generalize prodE a b op f = pe at *
  generalize partsE a b op f = qe at *
  obtain ⟨pd, pc⟩ := pe
  obtain ⟨v0, v1, v2, rfl, h0, h1, h2⟩ := h
  obtain ⟨u0, u1, u2, rfl, g0, g1, g2⟩ := h'
  have SM := Lib.hid hsm
  have HPE := Lib.hid hpe
  clear h0 h1 h2 g0 g1 g2 sa sb hsm hpe
  replace CO : Hid (∀ W, Below w.heap.size w W → Calls Tryz.prog 19 #[.agg #[v0, v1, v2], .agg #[u0, u1, u2], .int .u8 op, .int .i64 f] W fun e w' => ∃ u, e = .returned (.tuple #[u, .int .i64 pc]) ∧ OwnDf W.heap.size w' u pd ∧ Below W.heap.size W w') := CO
  go_enter Tryz.func51, Tryz.ntmps51
  go_wp2_with fail
  refine calls_named ?_
  intro V hV
  have X1 : Hid (Below w.heap.size w V) := by rw [hV]; exact (((Ext.refl w).alloc _).alloc _).below
  clear hV
  refine (CO.out V X1.out).mono ?_
  rintro e w2 ⟨u, rfl, ho, hx⟩
  obtain ⟨x0, x1, x2, rfl, o0, o1, o2⟩ := ho
  obtain ⟨a0, c0, rfl⟩ := ownsRow_form o0
  obtain ⟨a1, c1, rfl⟩ := o1.form
  obtain ⟨a2, c2, rfl⟩ := o2.form
  have OD : Hid (OwnDf V.heap.size w2 (.agg #[.slice a0 pd.cl.length c0, .slice a1 pd.nx.length c1, .slice a2 pd.mr.length c2]) pd) := Lib.hid ⟨_, _, _, rfl, o0, o1, o2⟩
  have X2 := Lib.hid (X1.out.trans (hx.mono X1.out.size))
  clear o0 o1 o2 hx X1 CO
  generalize pd.cl.length = n0 at *
  generalize pd.nx.length = n1 at *
  generalize pd.mr.length = n2 at *
  rcases HPE.out with ⟨hp0, hq⟩ | ⟨hp0, hq⟩
  · have hp0 : pc = 0 := hp0
    subst hp0
    have HQ := Lib.hid hq
    clear hq
    go_wp2_with fail
    refine calls_named ?_
    intro V3 hV3
    have X3 : Hid (Below w2.heap.size w2 V3) := by rw [hV3]; exact ((Ext.refl w2).alloc _).below
    clear hV3
    refine (pfirst_any _ pd SM.out.1 V3 (OD.out.df.below X3.out)).mono ?_
    rintro e w4 ⟨u, rfl, hr, hx⟩
    have hright : pd.right = true := SM.out.2 trivial
    have hfe : firstE pd = ((firstR pd).getD [], (firstR pd).isSome, 0) := by unfold firstE; rw [if_pos hright]
    rw [hfe] at hr ⊢
    have hr := ownsRow_base hr (show w.heap.size ≤ V3.heap.size by have := X2.out.size; have := X3.out.size; omega)
    have RR := Lib.hid hr
    have X4 := Lib.hid ((X2.out.trans (X3.out.mono X2.out.size)).trans (hx.mono (Nat.le_trans X2.out.size X3.out.size)))
    have hq : qe = ((firstR pd).getD [], !(firstR pd).isSome, 0) := HQ.out
    subst hq
    obtain ⟨ua, uc, rfl⟩ := ownsRow_form RR.out
    obtain ⟨fb, hfb⟩ : ∃ x, x = (firstR pd).isSome := ⟨_, rfl⟩
    obtain ⟨fl, hfl⟩ : ∃ x, x = (firstR pd).getD [] := ⟨_, rfl⟩
    replace RR : Hid (w4.ownsRow w.heap.size 5 1 (.slice ua fl.length uc) fl.length (fl.map encB)) := Lib.hid (by rw [hfl]; exact RR.out)
    obtain ⟨nf, hnf⟩ : ∃ n, n = fl.length := ⟨_, rfl⟩
    rw [← hfb, ← hfl, ← hnf]
    rw [← hnf] at RR
    have HFB : Hid ((firstR pd).isNone = !fb) := Lib.hid (by rw [hfb]; cases firstR pd <;> rfl)
    have RF : Hid (w4.ownsRow w.heap.size 5 1 (.slice ua nf uc) ((firstR pd).getD []).length (((firstR pd).getD []).map encB)) := Lib.hid (by rw [← hfl, ← hnf]; exact RR.out)
    clear hr hx hfe hright hfl hfb hnf OD SM HPE HQ
    cases fb
    · go_wp2
      exact bodyPost_ret (v := .tuple #[.slice ua nf uc, .bool true, .int .i64 0]) (by simp [results, Tryz.results51, go_sem]) rfl ⟨_, by first | rfl | (rw [show (firstR pd).isNone = _ from HFB.out]; rfl), by first | exact RF.out | exact RR.out, X4.out⟩
    · go_wp2
      exact bodyPost_ret (v := .tuple #[.slice ua nf uc, .bool false, .int .i64 0]) (by simp [results, Tryz.results51, go_sem]) rfl ⟨_, by first | rfl | (rw [show (firstR pd).isNone = _ from HFB.out]; rfl), by first | exact RF.out | exact RR.out, X4.out⟩
  · have hq : qe = ([], false, pc) := hq
    subst hq
    have hb : ((pc : Int) == 0) = false := by rw [beq_eq_false_iff_ne]; exact hp0
    have X3 : Hid (∀ o, Below w.heap.size w (w2.alloc o)) := Lib.hid fun o => X2.out.alloc X2.out.size o
    clear hp0 OD SM HPE
    go_wp2
    exact bodyPost_ret (v := .tuple #[.slice none 0 0, .bool false, .int .i64 pc]) (by simp [results, Tryz.results51, go_sem]) rfl ⟨_, rfl, World.ownsRow_nil _ _ _ _, X3.out _⟩
end Go.Proofs.YtiegfnmpknmbmaaGreat
namespace Go.Proofs.YtiegfnmpknmbmaaGreat
open Go Go.RowKit Go.Shelf Go.Maps
attribute [local go_sem] encS Oper.semAt_some wide_fn wide_depth

theorem bytesTo_len (s : BS) : ∀ n, (bytesTo s n).length ≤ n
  | 0 => by simp [bytesTo]
  | n + 1 => by
    rw [bytesTo_succ, List.length_append]
    have := bytesTo_len s n
    split <;> simp <;> omega

set_option maxRecDepth 100000 in
set_option maxHeartbeats 1000000 in
theorem size_any (s : BS) (w : World) : Calls Tryz.prog 55 #[.agg (encS s)] w fun e w' => e = .returned (.int .i64 (bytesTo s 256).length) ∧ Ext w w' := by
  have h256 := bytesTo_len s 256
  refine calls_of_wp_marks Tryz.func55 rfl ?_
  simp only [Tryz.ntmps55, List.size_toArray, List.length_cons, List.length_nil, Nat.reduceAdd, Nat.reduceSub, Array.replicate_succ, Array.replicate_zero, List.push_toArray, List.append_toArray, List.nil_append, List.cons_append]
  have hB0 : Blk ((w.alloc (.cells (encS s) 33)).alloc (.cells #[.int .i64 0] 3)) w.heap.size (encS s) 33 := (Blk.new w (encS s) 33).alloc _
  have c0 := hB0.cell 0
  have c1 := hB0.cell 1
  have c2 := hB0.cell 2
  have c3 := hB0.cell 3
  replace c0 : _ = some (Value.int .u64 (wd s 0).toNat) := c0
  replace c1 : _ = some (Value.int .u64 (wd s 1).toNat) := c1
  replace c2 : _ = some (Value.int .u64 (wd s 2).toNat) := c2
  replace c3 : _ = some (Value.int .u64 (wd s 3).toNat) := c3
  clear hB0
  go_wp2_with (go_at_call 76; refine (all_call s _).mono ?_; rintro e w1 ⟨rfl, rfl⟩)
  clear c0 c1 c2 c3
  refine wp_named ?_
  intro W0 hW0
  have h1 : Blk W0 (w.heap.size + 1) #[.int .i64 0] 3 := by rw [hW0]; repeat (first | (refine (Blk.new _ _ _).at ?_; simp; done) | refine Blk.alloc ?_ _)
  have h3 : Blk W0 (w.heap.size + 1 + 1) (encS s) 33 := by rw [hW0]; exact (Blk.new _ _ _).at (by simp)
  have hx : Ext w W0 := by rw [hW0]; exact (((Ext.refl w).alloc _).alloc _).alloc _
  have hsz : W0.heap.size = w.heap.size + 1 + 1 + 1 := by rw [hW0]; simp
  have eg : ∀ args w, (callFunc 88 args).run Tryz.prog w = .ok (.enter 88 args) w := enters_of Tryz.func88 (by kernel_rfl) rfl
  refine wp_range1 (w := W0) (all_seq s _ W0 h3) (by rfl) eg (by intro _; rfl) (by intro k hk; rw [show k = _ from hk, hsz]; omega)
    (fun xs _ W => Blk W (w.heap.size + 1) #[.int .i64 xs.length] 3 ∧ Ext w W)
    (fun _ _ _ _ => False)
    (fun xs T T' W W' ⟨h1, h3⟩ hT _ _ _ hk => ⟨h1.stab hT hk (by omega), h3.stab hT hk (by omega)⟩)
    (fun c xs T T' W W' h => h.elim)
    ⟨h1, hx⟩
    (fun x => ⟨#[.agg (encS s), .pointer (some ⟨w.heap.size, 0, none⟩), .int .i64 0, .pointer (some ⟨w.heap.size + 1, 0, none⟩), .agg (encS s), .func (.func 88) #[] #[.pointer (some ⟨w.heap.size + 1 + 1, 0, none⟩)], .int .u8 x, undef, undef, undef], []⟩) ?assign ?body ?done ?stop
  case assign =>
    intro l x W K hK
    gi_wp2
    simpa [encS] using hK
  case body =>
    rintro l pre x T W hpre hT hR hTl hl ⟨h1, hx⟩
    have hlen : pre.length < 256 := by
      have hle := hpre.length_le
      rw [List.length_append] at hle
      simp only [List.length_cons, List.length_nil] at hle
      omega
    have c1 : W.cell? ⟨w.heap.size + 1, 0, none⟩ = some (.int .i64 pre.length) := h1.cell 0
    have f1 := h1.frozen 0
    have e1 : IntKind.i64.wrap ((pre.length : Int) + 1) = (pre.length : Int) + 1 := IntWalk.i64_in _ (by omega)
    have H1 := Lib.hid h1
    have HX := Lib.hid hx
    have HS := Lib.hid hsz
    have HT := Lib.hid hT
    clear h1 hx hR hl hTl hsz hW0 hT
    gi_wp2
    refine ⟨((Keeps.refl _ _).setCell (fun h => ?_) _), (by rw [show ((pre ++ [x]).length : Int) = (pre.length : Int) + 1 by rw [List.length_append]; rfl]; exact H1.out.set 0 _), (HX.out.setCell (by simp <;> omega) _)⟩
    have h2 := HS.out
    rcases h with h | h
    · dsimp only at h; omega
    · have h1 := (HT.out _ h).1; dsimp only at h1; omega
  case done =>
    rintro D T W hD hTD hT ⟨h1, hx⟩ hDD
    have c1 : W.cell? ⟨w.heap.size + 1, 0, none⟩ = some (.int .i64 (bytesTo s 256).length) := h1.cell 0
    have HX := Lib.hid hx
    have HS := Lib.hid hsz
    have HD := Lib.hid hD
    have HDD := Lib.hid hDD
    clear h1 hx hTD hsz hW0 hT hDD hD
    dsimp only
    go_wp2
    refine markPost_ret rfl HDD.out (results_tmp rfl _ _ _) ⟨rfl, HX.out.putObj (by have h1 := HD.out; have h2 := HS.out; omega) _⟩
  case stop => rintro D c pre T W _ _ _ _ h _; exact h.elim
end Go.Proofs.YtiegfnmpknmbmaaGreat
namespace Go.Proofs.YtiegfnmpknmbmaaGreat
open Go Go.RowKit Go.Shelf Go.Maps
attribute [local go_sem] encS

/-- A list whose first k numbers are told by f, and the others are 0. -/
def UpTo (f : Nat → Int) (k n : Nat) (l : List Int) : Prop := l.length = n ∧ ∀ j, j < n → l.getD j 0 = if j < k then f j else 0
theorem UpTo.zero (f : Nat → Int) (n : Nat) : UpTo f 0 n (List.replicate n 0) := ⟨List.length_replicate, fun j _ => by rw [getD_rep, if_neg (by omega)]⟩
theorem UpTo.set {f : Nat → Int} {k n : Nat} {l : List Int} (h : UpTo f k n l) (hk : k < n) : UpTo f (k + 1) n (l.set k (f k)) := ⟨by rw [List.length_set, h.1], fun j hj => by
  rw [getD_set l k j (f k) (by rw [h.1]; exact hk)]
  by_cases e : j = k
  · rw [if_pos e, e, if_pos (by omega)]
  · rw [if_neg e, h.2 j hj]
    by_cases e2 : j < k
    · rw [if_pos e2, if_pos (by omega)]
    · rw [if_neg e2, if_neg (by omega)]⟩
theorem UpTo.full {f : Nat → Int} {n : Nat} {l : List Int} (h : UpTo f n n l) : l = (List.range n).map f := by
  apply List.ext_getElem?
  intro j
  by_cases hj : j < n
  · rw [some_getD 0 (by rw [h.1]; exact hj), h.2 j hj, if_pos hj, List.getElem?_map, List.getElem?_range hj]; rfl
  · rw [List.getElem?_eq_none (by rw [h.1]; omega), List.getElem?_eq_none (by simp; omega)]
theorem intCell {w : World} {base g n cap : Nat} {l : List Int} (h : w.ownsRow base 3 1 (.slice (some ⟨g, 0, none⟩) n cap) n (l.map encZ)) {i : Nat} (hi : i < n) : w.cell? ⟨g, i, none⟩ = some (.int .i64 (l.getD i 0)) ∧ w.frozen? ⟨g, i, none⟩ = false := by
  have hl : l.length = n := by simpa using h.1
  obtain ⟨g', u, e, _, _, hu, c, f⟩ := rowCell h hi
  cases e
  rw [List.getElem?_map, some_getD 0 (by omega)] at hu
  cases hu
  exact ⟨c, f⟩
theorem set_self {x : Int} (l : List Int) (s : Nat) (h : l.getD s 0 = x) : l.set s x = l := by
  apply List.ext_getElem?
  intro j
  rw [List.getElem?_set]
  by_cases e : s = j
  · subst e
    rw [if_pos rfl]
    by_cases hs : s < l.length
    · rw [if_pos hs, some_getD 0 hs, h]
    · rw [if_neg hs, List.getElem?_eq_none (by omega)]
  · rw [if_neg e]
theorem wpList_named {P : Program} {l : List Oper} {ops : Array Oper} {Q : Exit → Act → World → Prop} {a : Act} {w : World} (h : ∀ W, W = w → wpList P ops Q l a W) : wpList P ops Q l a w := h w rfl
theorem acc_eq (d : DF) {s : Nat} {m : List Int} (h : d.mr[s]? = some m) : (if acc d s then (1 : Int) else 0) = min (m.length : Int) 1 := by
  unfold acc
  rw [getD_some h]
  cases m with
  | nil => rfl
  | cons x l => simp; omega
end Go.Proofs.YtiegfnmpknmbmaaGreat
