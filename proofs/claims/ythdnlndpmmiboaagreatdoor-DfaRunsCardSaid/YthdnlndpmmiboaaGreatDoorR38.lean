/-
  Equal where empty rows may lie anywhere; nfa.Same, where it holds. Printed by wip/gen/nsame.py.
  slices.Equal and EqualFunc: what they say of any two lists. Printed by wip/gen/geq.py.
  The law's same and dfa.Same, of any two automata. Printed by wip/gen/smg.py.
-/
import Derived.Test.YthdnlndpmmiboaaGreatDoorR15
import Derived.Test.YthdnlndpmmiboaaGreatDoorR23
import Derived.Test.YthdnlndpmmiboaaGreatDoorR13
import Derived.Test.YthdnlndpmmiboaaGreatDoorR17
import Derived.Test.YthdnlndpmmiboaaGreatDoorR21
namespace Go.Proofs.YthdnlndpmmiboaaGreatDoor
open Go Go.RowKit Go.Shelf Go.Maps

set_option maxRecDepth 100000 in
set_option maxHeartbeats 2000000 in
theorem slEq_nil (a1 a2 : Option Addr) (c1 c2 : Nat) (w : World) : Calls Tryz.prog 21 #[.slice a1 0 c1, .slice a2 0 c2] w fun e w' => e = .returned (.bool true) ∧ Ext w w' := by
  go_enter Tryz.func21, Tryz.ntmps21
  go_wp2
  go_loopw [13] (fun i wr => i = .int .i64 0 ∧ Ext w wr) (fun _ _ => 0)
  case atStart => exact ⟨rfl, Ext.refl _⟩
  case round =>
    obtain ⟨rfl, hx⟩ := hrel
    obtain ⟨wo, rfl⟩ : ∃ wo : World, wo = wr := ⟨_, rfl⟩
    have HX := Lib.hid hx
    clear hx
    go_wp2
    go_ret
    exact ⟨rfl, HX.out⟩
end Go.Proofs.YthdnlndpmmiboaaGreatDoor
namespace Go.Proofs.YthdnlndpmmiboaaGreatDoor
open Go Go.RowKit Go.Shelf Go.Maps

theorem take_eq_all {α : Type} {l1 l2 : List α} {n : Nat} (h1 : n = l1.length) (h2 : n = l2.length) (h : l1.take n = l2.take n) : l1 = l2 := by
  rw [List.take_of_length_le (by omega), List.take_of_length_le (by omega)] at h; exact h
theorem take_more {α : Type} {l1 l2 : List α} {k : Nat} {x : α} (h : l1.take k = l2.take k) (h1 : l1[k]? = some x) (h2 : l2[k]? = some x) : l1.take (k + 1) = l2.take (k + 1) := by
  rw [List.take_add_one, List.take_add_one, h, h1, h2]
theorem beq_len {α : Type} [BEq α] [LawfulBEq α] {l1 l2 : List α} (h : l1.length ≠ l2.length) : (l1 == l2) = false := by
  rw [beq_eq_false_iff_ne]; intro e; exact h (by rw [e])
theorem beq_at {α : Type} [BEq α] [LawfulBEq α] {l1 l2 : List α} {k : Nat} {x y : α} (h1 : l1[k]? = some x) (h2 : l2[k]? = some y) (h : x ≠ y) : (l1 == l2) = false := by
  rw [beq_eq_false_iff_ne]; intro e; rw [e, h2] at h1; exact h (Option.some.inj h1).symm
set_option maxRecDepth 100000 in
set_option maxHeartbeats 4000000 in
theorem eqSetsR_any (v1 v2 : Value) (l1 l2 : List BS) (w : World) (h1 : IsArrs w v1 (l1.map refS)) (h2 : IsArrs w v2 (l2.map refS)) (hn : l1.length ≤ 1000000) :
    Calls Tryz.prog 59 #[v1, v2] w fun e w' => e = .returned (.bool (l1 == l2)) ∧ Below w.heap.size w w' := by
  obtain ⟨a1, c1, rfl⟩ := h1.form
  obtain ⟨a2, c2, rfl⟩ := h2.form
  rw [List.length_map] at h1 h2 ⊢
  obtain ⟨n, hnn⟩ : ∃ n, n = l1.length := ⟨_, rfl⟩
  obtain ⟨m, hmm⟩ : ∃ m, m = l2.length := ⟨_, rfl⟩
  rw [List.length_map] at *
  rw [← hnn] at h1 hn ⊢
  rw [← hmm] at h2 ⊢
  obtain ⟨r, hr⟩ : ∃ r, r = (l1 == l2) := ⟨_, rfl⟩
  rw [← hr]
  have HN := Lib.hid hnn
  have HM := Lib.hid hmm
  have HR := Lib.hid hr
  have H1 := Lib.hid h1
  have H2 := Lib.hid h2
  clear h1 h2 hnn hmm hr
  by_cases hnm : n = m
  · subst hnm
    go_enter Tryz.func59, Tryz.ntmps59
    go_wp2
    go_loopw [13] (fun i wr => ∃ k : Nat, k ≤ n ∧ i = .int .i64 k ∧ l1.take k = l2.take k ∧ Below w.heap.size w wr) (fun i _ => n - (intOf i).toNat)
    case atStart => exact ⟨0, by omega, rfl, rfl, Below.refl _ _⟩
    case round =>
      obtain ⟨k, hk, rfl, ht, hx⟩ := hrel
      obtain ⟨wo, rfl⟩ : ∃ wo : World, wo = wr := ⟨_, rfl⟩
      have HX := Lib.hid hx
      have HT := Lib.hid ht
      by_cases hlt : k < n
      · obtain ⟨x, hxl⟩ : ∃ x, l1[k]? = some x := ⟨_, List.getElem?_eq_getElem (by have := HN.out; omega)⟩
        obtain ⟨y, hyl⟩ : ∃ y, l2[k]? = some y := ⟨_, List.getElem?_eq_getElem (by have := HM.out; omega)⟩
        obtain ⟨b, off, rfl, hb, r1⟩ := (H1.out.below hx).rangeE (i := k) (f := refS x) (by rw [List.getElem?_map, hxl]; rfl)
        obtain ⟨b', off', rfl, hb', r2⟩ := (H2.out.below hx).rangeE (i := k) (f := refS y) (by rw [List.getElem?_map, hyl]; rfl)
        have hki : (k : Int) < n := by omega
        have R1 := Lib.hid r1
        have R2 := Lib.hid r2
        have HE := Lib.hid fun W => a56_equal (refS x) (refS y) W
        rw [eqA_refS] at HE
        obtain ⟨q, hq⟩ : ∃ q, q = (x == y) := ⟨_, rfl⟩
        rw [← hq] at HE
        have HQ := Lib.hid hq
        have HXL := Lib.hid hxl
        have HYL := Lib.hid hyl
        clear hxl hyl hx ht r1 r2 hq
        go_wp2
        refine wp_region_reg false (fun _ => False) (by kernel_rfl) 9 [0, 0, 3, 7, 0, 0, 48, 112, 255] (fun i => false) (by kernel_rfl) (fun i => Eff.any _) ?_
        intro C hC hne
        have HC := Lib.hid hC
        clear hC
        refine regStep (fun K hK => ?_)
        refine regF rfl rfl ?_
        unfold floatAt
        go_simp
        refine hK _ _ ?_
        clear hK K
        refine regStep (fun K hK => ?_)
        refine regF rfl rfl ?_
        unfold floatAt
        go_simp
        refine hK _ _ ?_
        clear hK K
        refine regStep (fun K hK => ?_)
        refine regF rfl rfl ?_
        unfold floatAt
        go_simp
        refine hK _ _ ?_
        clear hK K
        refine regStep (fun K hK => ?_)
        refine regL rfl rfl (.agg (aI (refS x))) (fun W hW hN => have hM := (HC.out W).1 hW; floatAt_load 91 (.tmp 18) rfl (b) (off + k * 256) rfl (aI (refS x)) _ (rangeAt_keeps R1.out hM.keeps ⟨hb, fun h => h⟩) Tryz.underlying91 rfl (sizeA56 (refS x))) ?_
        go_simp
        refine hK _ _ ?_
        clear hK K
        refine regStep (fun K hK => ?_)
        refine regF rfl rfl ?_
        unfold floatAt
        go_simp
        refine hK _ _ ?_
        clear hK K
        refine regStep (fun K hK => ?_)
        refine regF rfl rfl ?_
        unfold floatAt
        go_simp
        refine hK _ _ ?_
        clear hK K
        refine regStep (fun K hK => ?_)
        refine regF rfl rfl ?_
        unfold floatAt
        go_simp
        refine hK _ _ ?_
        clear hK K
        refine regStep (fun K hK => ?_)
        refine regL rfl rfl (.agg (aI (refS y))) (fun W hW hN => have hM := (HC.out W).1 hW; floatAt_load 91 (.tmp 22) rfl (b') (off' + k * 256) rfl (aI (refS y)) _ (rangeAt_keeps R2.out hM.keeps ⟨hb', fun h => h⟩) Tryz.underlying91 rfl (sizeA56 (refS y))) ?_
        go_simp
        refine hK _ _ ?_
        clear hK K
        have he := HE.out
        repeat (refine regStep (fun K hK => ?_); first | (refine regN rfl ?_; try go_simp; refine hK _ _ ?_; clear hK K) | (refine regF rfl rfl ?_; unfold floatAt; go_simp; refine hK _ _ ?_; clear hK K))
        refine regNil (fun W hW hH => ?_)
        have hM := (HC.out W).1 hW
        have XX := Lib.hid (HX.out.trans (hM.below.mono HX.out.size))
        clear hM hW hH HC HX he hne
        cases q with
        | true =>
          go_wp2
          go_roundw
          case rel => exact ⟨k + 1, by omega, by go_num, take_more HT.out HXL.out (by rw [HYL.out, eq_of_beq HQ.out.symm]), XX.out⟩
          case measure => simp [intOf]; omega
        | false =>
          have hf : r = false := by
            rw [HR.out]
            exact beq_at HXL.out HYL.out (by intro e; have := HQ.out; rw [e] at this; simp at this)
          go_wp2
          go_ret
          exact ⟨by rw [hf]; rfl, XX.out⟩
      · obtain rfl : k = n := by omega
        have hf : r = true := by
          rw [HR.out, take_eq_all HN.out HM.out HT.out]; simp
        clear hx ht
        go_wp2
        go_ret
        exact ⟨by rw [hf]; rfl, HX.out⟩
  · have hf : r = false := by
      rw [HR.out]; exact beq_len (by have := HN.out; have := HM.out; omega)
    have d1 : ((n : Int) == m) = false := by rw [beq_eq_false_iff_ne]; omega
    have d2 : ((n : Int) != m) = true := by rw [bne_iff_ne]; omega
    have d3 : ¬ (n : Int) = m := by omega
    go_enter Tryz.func59, Tryz.ntmps59
    go_wp2
    go_ret
    exact ⟨by rw [hf]; rfl, Below.refl _ _⟩
theorem slEq_len (a1 a2 : Option Addr) (n m c1 c2 : Nat) (h : n ≠ m) (w : World) : Calls Tryz.prog 21 #[.slice a1 n c1, .slice a2 m c2] w fun e w' => e = .returned (.bool false) ∧ Ext w w' := by
  have d1 : ((n : Int) == m) = false := by rw [beq_eq_false_iff_ne]; omega
  have d2 : ((n : Int) != m) = true := by rw [bne_iff_ne]; omega
  have d3 : ¬ (n : Int) = m := by omega
  go_enter Tryz.func21, Tryz.ntmps21
  go_wp2
  go_ret
  exact ⟨rfl, Ext.refl _⟩
theorem slEqG_any (v1 v2 : Value) (l1 l2 : List Int) (w : World) (h1 : IsSlE encZ w v1 l1) (h2 : IsSlE encZ w v2 l2) (hn : l1.length ≤ 1000000) :
    Calls Tryz.prog 21 #[v1, v2] w fun e w' => e = .returned (.bool (l1 == l2)) ∧ Ext w w' := by
  by_cases hl : l1.length = l2.length
  · rcases Nat.eq_zero_or_pos l1.length with h0 | h0
    · have e1 := List.eq_nil_of_length_eq_zero h0
      have e2 := List.eq_nil_of_length_eq_zero (hl ▸ h0)
      subst e1 e2
      obtain ⟨a1, c1, rfl⟩ := h1.form
      obtain ⟨a2, c2, rfl⟩ := h2.form
      exact slEq_nil a1 a2 c1 c2 w
    · have g1 : IsSl encZ w v1 l1 := by
        rcases h1 with h | ⟨h, _⟩
        · exact h
        · rw [h] at h0; exact absurd h0 (by simp)
      have g2 : IsSl encZ w v2 l2 := by
        rcases h2 with h | ⟨h, _⟩
        · exact h
        · rw [h] at hl; simp at hl; rw [hl] at h0; exact absurd h0 (by simp)
      exact slEqual_any v1 v2 l1 l2 w g1 g2 hn
  · rw [beq_len hl]
    obtain ⟨a1, c1, rfl⟩ := h1.form
    obtain ⟨a2, c2, rfl⟩ := h2.form
    exact slEq_len _ _ _ _ _ _ hl w
set_option maxRecDepth 100000 in
set_option maxHeartbeats 4000000 in
theorem eqLLG_any (v1 v2 : Value) (l1 l2 : List (List Int)) (w : World) (h1 : IsLLE w v1 l1) (h2 : IsLLE w v2 l2) (hn : l1.length ≤ 1000000) (hs : ∀ l ∈ l1, l.length ≤ 1000000) :
    Calls Tryz.prog 60 #[v1, v2, .func (.func 21) #[] #[]] w fun e w' => e = .returned (.bool (l1 == l2)) ∧ Below w.heap.size w w' := by
  obtain ⟨a1, c1, rfl⟩ := h1.form
  obtain ⟨a2, c2, rfl⟩ := h2.form
  obtain ⟨n, hnn⟩ : ∃ n, n = l1.length := ⟨_, rfl⟩
  obtain ⟨m, hmm⟩ : ∃ m, m = l2.length := ⟨_, rfl⟩
  rw [← hnn] at h1 hn ⊢
  rw [← hmm] at h2 ⊢
  obtain ⟨r, hr⟩ : ∃ r, r = (l1 == l2) := ⟨_, rfl⟩
  rw [← hr]
  have HN := Lib.hid hnn
  have HM := Lib.hid hmm
  have HR := Lib.hid hr
  have H1 := Lib.hid h1
  have H2 := Lib.hid h2
  have HS := Lib.hid hs
  have eg := eg_eqI
  clear h1 h2 hnn hmm hr hs
  by_cases hnm : n = m
  · subst hnm
    go_enter Tryz.func60, Tryz.ntmps60
    go_wp2
    go_loopw [17] (fun i wr => ∃ k : Nat, k ≤ n ∧ i = .int .i64 k ∧ l1.take k = l2.take k ∧ Below w.heap.size w wr) (fun i _ => n - (intOf i).toNat)
    case atStart => exact ⟨0, by omega, rfl, rfl, Below.refl _ _⟩
    case round =>
      obtain ⟨k, hk, rfl, ht, hx⟩ := hrel
      obtain ⟨wo, rfl⟩ : ∃ wo : World, wo = wr := ⟨_, rfl⟩
      have HX := Lib.hid hx
      have HT := Lib.hid ht
      by_cases hlt : k < n
      · obtain ⟨l, hl⟩ : ∃ l, l1[k]? = some l := ⟨_, List.getElem?_eq_getElem (by have := HN.out; omega)⟩
        obtain ⟨l', hl'⟩ : ∃ l, l2[k]? = some l := ⟨_, List.getElem?_eq_getElem (by have := HM.out; omega)⟩
        obtain ⟨b, off, e1, k1, rfl, hb, x1, y1⟩ := (H1.out.below hx).elem hl
        obtain ⟨b', off', e2, k2, rfl, hb', x2, y2⟩ := (H2.out.below hx).elem hl'
        have hki : (k : Int) < n := by omega
        obtain ⟨q, hq⟩ : ∃ q, q = (l == l') := ⟨_, rfl⟩
        have CE : Hid (Calls Tryz.prog 21 #[.slice e1 l.length k1, .slice e2 l'.length k2] wo fun e w' => e = .returned (.bool q) ∧ Ext wo w') := Lib.hid (by
          rw [hq]; exact slEqG_any _ _ l l' wo y1 y2 (HS.out l (List.mem_of_getElem? hl)))
        obtain ⟨j, hj⟩ : ∃ j, j = l.length := ⟨_, rfl⟩
        obtain ⟨j', hj'⟩ : ∃ j, j = l'.length := ⟨_, rfl⟩
        rw [← hj] at x1 CE
        rw [← hj'] at x2 CE
        have HQ := Lib.hid hq
        have HXL := Lib.hid hl
        have HYL := Lib.hid hl'
        clear hl hl' y1 y2 hx hj hj' ht hq
        go_wp2_with fail
        refine (CE.out).mono ?_
        rintro e w2 ⟨rfl, hx⟩
        have XX := Lib.hid (HX.out.trans (hx.below.mono HX.out.size))
        clear hx x1 x2
        cases q with
        | true =>
          go_wp2
          go_roundw
          case rel => exact ⟨k + 1, by omega, by go_num, take_more HT.out HXL.out (by rw [HYL.out, eq_of_beq HQ.out.symm]), XX.out⟩
          case measure => simp [intOf]; omega
        | false =>
          have hf : r = false := by
            rw [HR.out]
            exact beq_at HXL.out HYL.out (by intro e; have := HQ.out; rw [e] at this; simp at this)
          go_wp2
          go_ret
          exact ⟨by rw [hf]; rfl, XX.out⟩
      · obtain rfl : k = n := by omega
        have hf : r = true := by
          rw [HR.out, take_eq_all HN.out HM.out HT.out]; simp
        clear hx ht
        go_wp2
        go_ret
        exact ⟨by rw [hf]; rfl, HX.out⟩
  · have hf : r = false := by
      rw [HR.out]; exact beq_len (by have := HN.out; have := HM.out; omega)
    have d1 : ((n : Int) == m) = false := by rw [beq_eq_false_iff_ne]; omega
    have d2 : ((n : Int) != m) = true := by rw [bne_iff_ne]; omega
    have d3 : ¬ (n : Int) = m := by omega
    go_enter Tryz.func60, Tryz.ntmps60
    go_wp2
    go_ret
    exact ⟨by rw [hf]; rfl, Below.refl _ _⟩
end Go.Proofs.YthdnlndpmmiboaaGreatDoor
namespace Go.Proofs.YthdnlndpmmiboaaGreatDoor
open Go Go.RowKit Go.Shelf Go.Maps

/-- The same lists. -/
def eqD (a b : DF) : Bool := a.cl == b.cl && a.nx == b.nx && a.mr == b.mr
theorem eqD_iff {a b : DF} : eqD a b = true ↔ a = b := by
  obtain ⟨a0, a1, a2⟩ := a
  obtain ⟨b0, b1, b2⟩ := b
  unfold eqD
  simp [and_assoc]
set_option maxRecDepth 100000 in
set_option maxHeartbeats 4000000 in
theorem same18G_any (v v' : Value) (d x : DF) (w : World) (h : IsDfe w v d) (h' : IsRf w v' x) (sm : Sm d) :
    Calls Tryz.prog 15 #[v, v'] w fun e w' => e = .returned (.bool (eqD d x)) ∧ Below w.heap.size w w' := by
  have CT : Hid (∀ W, Below w.heap.size w W → Calls Tryz.prog 24 #[v] W fun e w' => ∃ u, e = .returned u ∧ IsRf w' u d ∧ Below W.heap.size W w') := fun W hW => (theirs18_any v d W (h.below hW) sm).mono fun e w' ⟨u, h1, h2, h3⟩ => ⟨u, h1, h2.rf, h3⟩
  obtain ⟨v0, v1, v2, rfl, h0, h1, h2⟩ := h
  obtain ⟨a0, c0, rfl⟩ := h0.1.form
  obtain ⟨a1, c1, rfl⟩ := h1.form
  obtain ⟨a2, c2, rfl⟩ := h2.form
  obtain ⟨u0, u1, u2, rfl, g0, g1, g2⟩ := h'
  obtain ⟨b0, e0, rfl⟩ := g0.form
  obtain ⟨b1, e1, rfl⟩ := g1.form
  obtain ⟨b2, e2, rfl⟩ := g2.form
  have SM := Lib.hid sm
  have eg := eg_eqI
  rw [List.length_map] at g0 ⊢
  obtain ⟨n0, hn0⟩ : ∃ n, n = d.cl.length := ⟨_, rfl⟩
  obtain ⟨n1, hn1⟩ : ∃ n, n = d.nx.length := ⟨_, rfl⟩
  obtain ⟨n2, hn2⟩ : ∃ n, n = d.mr.length := ⟨_, rfl⟩
  have HN0 := Lib.hid hn0
  have HN1 := Lib.hid hn1
  have HN2 := Lib.hid hn2
  rw [← hn0, ← hn1, ← hn2] at CT ⊢
  have G0 := Lib.hid g0
  have G1 := Lib.hid g1
  have G2 := Lib.hid g2
  clear h0 h1 h2 g0 g1 g2 hn0 hn1 hn2 sm
  obtain ⟨r, hr⟩ : ∃ r, r = eqD d x := ⟨_, rfl⟩
  rw [← hr]
  have HR : Hid (r = (d.cl == x.cl && d.nx == x.nx && d.mr == x.mr)) := Lib.hid hr
  clear hr
  generalize x.cl.length = m0 at *
  generalize x.nx.length = m1 at *
  generalize x.mr.length = m2 at *
  go_enter Tryz.func15, Tryz.ntmps15
  go_wp2_with fail
  refine calls_named ?_
  intro V hV
  have B3 : Hid (Blk V (w.heap.size + 1) #[.slice b0 m0 e0, .slice b1 m1 e1, .slice b2 m2 e2] 48) := by rw [hV]; exact (Blk.new (w.alloc _) _ _).at (by simp)
  have HX : Hid (Below w.heap.size w V) := by rw [hV]; exact (((Ext.refl w).alloc _).alloc _).below
  clear hV
  refine (CT.out V HX.out).mono ?_
  rintro e w1 ⟨u, rfl, ⟨q0, q1, q2, rfl, r0, r1, r2⟩, hx⟩
  obtain ⟨s0, f0, rfl⟩ := r0.form
  obtain ⟨s1, f1, rfl⟩ := r1.form
  obtain ⟨s2, f2, rfl⟩ := r2.form
  rw [List.length_map] at r0 ⊢
  rw [← HN0.out] at r0 ⊢
  rw [← HN1.out] at r1 ⊢
  rw [← HN2.out] at r2 ⊢
  have R0 := Lib.hid r0
  have R1 := Lib.hid r1
  have R2 := Lib.hid r2
  have C3 := Lib.hid (B3.out.below hx B3.out.lt)
  have XX := Lib.hid (HX.out.trans (hx.mono HX.out.size))
  clear r0 r1 r2 hx B3 HX
  have k0 := fun o => (C3.out.alloc o).three.1.1
  go_wp2_with fail
  refine calls_named ?_
  intro V2 hV2
  have X2 : Hid (Ext w1 V2) := by rw [hV2]; exact (Ext.refl _).alloc _
  have B5 : Hid (Blk V2 w1.heap.size #[.slice s0 n0 f0, .slice s1 n1 f1, .slice s2 n2 f2] 48) := by rw [hV2]; exact Blk.new _ _ _
  clear hV2 k0
  refine (eqSetsR_any _ _ d.cl x.cl V2 (R0.out.below X2.out.below) ((G0.out.below XX.out).below X2.out.below) SM.out.cl).mono ?_
  rintro e w3 ⟨rfl, hx⟩
  have X3 := Lib.hid (X2.out.below.trans (hx.mono X2.out.size))
  have D3 := Lib.hid (C3.out.below X3.out C3.out.lt)
  have D5 := Lib.hid (B5.out.below hx B5.out.lt)
  clear hx
  obtain ⟨⟨k0, k1, k2⟩, _⟩ := D3.out.three
  obtain ⟨⟨l0, l1, l2⟩, _⟩ := D5.out.three
  obtain ⟨q, hq⟩ : ∃ q, q = (d.cl == x.cl) := ⟨_, rfl⟩
  rw [← hq] at HR ⊢
  clear hq
  cases q with
  | false =>
    go_wp2
    go_ret
    exact ⟨by rw [HR.out]; rfl, XX.out.trans (X3.out.mono XX.out.size)⟩
  | true =>
    go_wp2_with fail
    refine (eqLLG_any _ _ d.nx x.nx _ (.inl (R1.out.below X3.out).e) (.inl ((G1.out.below XX.out).below X3.out).e) SM.out.nx SM.out.nxs).mono ?_
    rintro e w4 ⟨rfl, hx⟩
    have X4 := Lib.hid (X3.out.trans (hx.mono X3.out.size))
    have E3 := Lib.hid (D3.out.below hx D3.out.lt)
    have E5 := Lib.hid (D5.out.below hx D5.out.lt)
    clear hx k0 k1 k2 l0 l1 l2
    obtain ⟨⟨k0, k1, k2⟩, _⟩ := E3.out.three
    obtain ⟨⟨l0, l1, l2⟩, _⟩ := E5.out.three
    obtain ⟨q, hq⟩ : ∃ q, q = (d.nx == x.nx) := ⟨_, rfl⟩
    rw [← hq] at HR ⊢
    clear hq
    cases q with
    | false =>
      go_wp2
      go_ret
      exact ⟨by rw [HR.out]; rfl, XX.out.trans (X4.out.mono XX.out.size)⟩
    | true =>
      go_wp2_with fail
      refine (eqLLG_any _ _ d.mr x.mr _ (.inl (R2.out.below X4.out).e) (.inl ((G2.out.below XX.out).below X4.out).e) SM.out.mr SM.out.mks).mono ?_
      rintro e w5 ⟨rfl, hx⟩
      have X5 := Lib.hid (X4.out.trans (hx.mono X4.out.size))
      clear hx k0 k1 k2 l0 l1 l2
      rw [show (d.mr == x.mr) = r from HR.out.symm]
      go_wp2
      go_ret
      exact ⟨rfl, XX.out.trans (X5.out.mono XX.out.size)⟩
set_option maxRecDepth 100000 in
set_option maxHeartbeats 4000000 in
theorem dfaSame_any (v v' : Value) (d x : DF) (w : World) (h : IsDfe w v d) (h' : IsDfe w v' x) (sm : Sm d) :
    Calls Tryz.prog 29 #[v, v'] w fun e w' => e = .returned (.bool (eqD d x)) ∧ Below w.heap.size w w' := by
  obtain ⟨v0, v1, v2, rfl, h0, h1, h2⟩ := h
  obtain ⟨a0, c0, rfl⟩ := h0.1.form
  obtain ⟨a1, c1, rfl⟩ := h1.form
  obtain ⟨a2, c2, rfl⟩ := h2.form
  obtain ⟨u0, u1, u2, rfl, g0, g1, g2⟩ := h'
  obtain ⟨b0, e0, rfl⟩ := g0.1.form
  obtain ⟨b1, e1, rfl⟩ := g1.form
  obtain ⟨b2, e2, rfl⟩ := g2.form
  have SM := Lib.hid sm
  have eg := eg_eqI
  have H0 := Lib.hid h0.1
  have H1 := Lib.hid h1
  have H2 := Lib.hid h2
  have G0 := Lib.hid g0.1
  have G1 := Lib.hid g1
  have G2 := Lib.hid g2
  clear h0 h1 h2 g0 g1 g2 sm
  obtain ⟨r, hr⟩ : ∃ r, r = eqD d x := ⟨_, rfl⟩
  rw [← hr]
  have HR : Hid (r = (d.cl == x.cl && d.nx == x.nx && d.mr == x.mr)) := Lib.hid hr
  clear hr
  generalize d.cl.length = n0 at *
  generalize d.nx.length = n1 at *
  generalize d.mr.length = n2 at *
  generalize x.cl.length = m0 at *
  generalize x.nx.length = m1 at *
  generalize x.mr.length = m2 at *
  go_enter Tryz.func29, Tryz.ntmps29
  go_wp2_with fail
  refine calls_named ?_
  intro V hV
  have B3 : Hid (Blk V w.heap.size #[.slice a0 n0 c0, .slice a1 n1 c1, .slice a2 n2 c2] 29) := by rw [hV]; exact (Blk.new _ _ _).alloc _
  have B4 : Hid (Blk V (w.heap.size + 1) #[.slice b0 m0 e0, .slice b1 m1 e1, .slice b2 m2 e2] 29) := by rw [hV]; exact (Blk.new (w.alloc _) _ _).at (by simp)
  have HX : Hid (Below w.heap.size w V) := by rw [hV]; exact (((Ext.refl w).alloc _).alloc _).below
  clear hV
  refine (setsEq_any _ _ d.cl x.cl V (H0.out.below HX.out) (G0.out.below HX.out) SM.out.cl).mono ?_
  rintro e w3 ⟨rfl, hx⟩
  have X3 := Lib.hid (HX.out.trans (hx.below.mono HX.out.size))
  have D3 := Lib.hid (B3.out.ext hx)
  have D5 := Lib.hid (B4.out.ext hx)
  clear hx B3 B4 HX
  obtain ⟨⟨k0, k1, k2⟩, _⟩ := D3.out.three
  obtain ⟨⟨l0, l1, l2⟩, _⟩ := D5.out.three
  obtain ⟨q, hq⟩ : ∃ q, q = (d.cl == x.cl) := ⟨_, rfl⟩
  rw [← hq] at HR ⊢
  clear hq
  cases q with
  | false =>
    go_wp2
    go_ret
    exact ⟨by rw [HR.out]; rfl, X3.out⟩
  | true =>
    go_wp2_with fail
    refine (eqLLG_any _ _ d.nx x.nx _ (.inl (H1.out.below X3.out)) (.inl (G1.out.below X3.out)) SM.out.nx SM.out.nxs).mono ?_
    rintro e w4 ⟨rfl, hx⟩
    have X4 := Lib.hid (X3.out.trans (hx.mono X3.out.size))
    have E3 := Lib.hid (D3.out.below hx D3.out.lt)
    have E5 := Lib.hid (D5.out.below hx D5.out.lt)
    clear hx k0 k1 k2 l0 l1 l2
    obtain ⟨⟨k0, k1, k2⟩, _⟩ := E3.out.three
    obtain ⟨⟨l0, l1, l2⟩, _⟩ := E5.out.three
    obtain ⟨q, hq⟩ : ∃ q, q = (d.nx == x.nx) := ⟨_, rfl⟩
    rw [← hq] at HR ⊢
    clear hq
    cases q with
    | false =>
      go_wp2
      go_ret
      exact ⟨by rw [HR.out]; rfl, X4.out⟩
    | true =>
      go_wp2_with fail
      refine (eqLLG_any _ _ d.mr x.mr _ (.inl (H2.out.below X4.out)) (.inl (G2.out.below X4.out)) SM.out.mr SM.out.mks).mono ?_
      rintro e w5 ⟨rfl, hx⟩
      have X5 := Lib.hid (X4.out.trans (hx.mono X4.out.size))
      clear hx k0 k1 k2 l0 l1 l2
      rw [show (d.mr == x.mr) = r from HR.out.symm]
      go_wp2
      go_ret
      exact ⟨rfl, X5.out⟩
end Go.Proofs.YthdnlndpmmiboaaGreatDoor
