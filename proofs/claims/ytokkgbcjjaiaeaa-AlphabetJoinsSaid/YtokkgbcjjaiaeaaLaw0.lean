/-
  Walks for the laws on alphabets: few; slices.Equal at ints.
-/
import Derived.Test.YtokkgbcjjaiaeaaAlph6
namespace Go.Proofs.Ytokkgbcjjaiaeaa
open Go Go.RowKit Go.Shelf Go.Maps
attribute [local go_sem] encS

/-- A slice that reads as a list of sets, its capacity with it. -/
def IsSetsC (w : World) (v : Value) (l : List BS) : Prop := IsSets w v l ∧ ∀ a n cap, v = .slice a n cap → n ≤ cap

theorem IsSets.form {w : World} {v : Value} {l : List BS} (h : IsSets w v l) : ∃ a cap, v = .slice a l.length cap := by
  rcases h with ⟨h, rfl⟩ | ⟨b, off, cap, hv, _⟩
  · exact ⟨_, _, h⟩
  · exact ⟨_, _, hv⟩
theorem IsSets.take {w : World} {a : Option Addr} {n cap : Nat} {l : List BS} (h : IsSets w (.slice a n cap) l) (k : Nat) (hk : k ≤ n) (hc : n ≤ cap) : IsSets w (.slice a k cap) (l.take k) ∧ k ≤ cap := by
  refine ⟨?_, by omega⟩
  rcases h with ⟨h, rfl⟩ | ⟨b, off, cap', hv, hb, h⟩
  · cases h
    obtain rfl : k = 0 := by omega
    exact .inl ⟨rfl, rfl⟩
  · cases hv
    refine .inr ⟨b, off, cap, ?_, hb, fun i s hi j hj => h i s ?_ j hj⟩
    · rw [List.length_take, Nat.min_eq_left hk]
    · rw [List.getElem?_take] at hi
      split at hi
      · exact hi
      · cases hi

set_option maxRecDepth 100000 in
theorem few_any (v : Value) (l : List BS) (w : World) (h : IsSetsC w v l) (hn : l.length ≤ 9223372036854775807) :
    Calls Try.prog 13 #[v] w fun e w' => ∃ u, e = .returned u ∧ IsSetsC w u (l.take 6) ∧ w' = w := by
  obtain ⟨a, cap, rfl⟩ := h.1.form
  have hcap := h.2 a _ cap rfl
  have HT := Lib.hid h.1.take
  obtain ⟨n, hnn⟩ : ∃ n, n = l.length := ⟨_, rfl⟩
  rw [← hnn] at hcap hn HT ⊢
  have HN := Lib.hid hnn
  clear h hnn
  go_enter Try.func13, Try.ntmps13
  go_wp2
  have hmin : (min (n : Int) 6).toNat = min n 6 := by omega
  rw [hmin]
  have hnn := HN.out
  have ht : l.take 6 = l.take (min n 6) := by
    by_cases h6 : n ≤ 6
    · rw [Nat.min_eq_left h6, List.take_of_length_le (by omega), List.take_of_length_le (by omega)]
    · rw [Nat.min_eq_right (by omega)]
  have h1 := HT.out (min n 6) (by omega) hcap
  rw [← ht] at h1
  refine bodyPost_ret (results_tmp rfl _ _ _) rfl ?_
  refine ⟨_, rfl, ⟨h1.1, fun a' n' cap' e => ?_⟩, rfl⟩
  have e' : Value.slice a (min n 6) cap = .slice a' n' cap' := e
  cases e'
  exact h1.2

set_option maxRecDepth 100000 in
set_option maxHeartbeats 1000000 in
theorem slEqual_any (v1 v2 : Value) (l1 l2 : List Int) (w : World) (h1 : IsSl encZ w v1 l1) (h2 : IsSl encZ w v2 l2) (hn : l1.length ≤ 1000000) :
    Calls Try.prog 17 #[v1, v2] w fun e w' => e = .returned (.bool (l1 == l2)) ∧ Ext w w' := by
  obtain ⟨a1, c1, rfl⟩ := h1.form
  obtain ⟨a2, c2, rfl⟩ := h2.form
  obtain ⟨n, hnn⟩ : ∃ n, n = l1.length := ⟨_, rfl⟩
  obtain ⟨m, hmm⟩ : ∃ m, m = l2.length := ⟨_, rfl⟩
  rw [← hnn] at hn h1 ⊢
  rw [← hmm] at h2 ⊢
  obtain ⟨r, hr⟩ : ∃ r, r = (l1 == l2) := ⟨_, rfl⟩
  rw [← hr]
  have H1 := Lib.hid h1
  have H2 := Lib.hid h2
  have HN := Lib.hid hnn
  have HM := Lib.hid hmm
  have HR := Lib.hid hr
  clear h1 h2 hnn hmm hr
  by_cases hnm : n = m
  · subst hnm
    go_enter Try.func17, Try.ntmps17
    go_wp2
    go_loopw [13] (fun i wr => ∃ k : Nat, k ≤ n ∧ i = .int .i64 k ∧ l1.take k = l2.take k ∧ Ext w wr) (fun i _ => n - (intOf i).toNat)
    case atStart => exact ⟨0, by omega, rfl, rfl, Ext.refl _⟩
    case round =>
      obtain ⟨k, hk, rfl, ht, hx⟩ := hrel
      obtain ⟨wo, rfl⟩ : ∃ wo : World, wo = wr := ⟨_, rfl⟩
      by_cases hlt : k < n
      · obtain ⟨x, hxl⟩ : ∃ x, l1[k]? = some x := ⟨_, List.getElem?_eq_getElem (by have := HN.out; omega)⟩
        obtain ⟨y, hyl⟩ : ∃ y, l2[k]? = some y := ⟨_, List.getElem?_eq_getElem (by have := HM.out; omega)⟩
        obtain ⟨g1, o1, rfl, hg1, hc1⟩ := H1.out.elem hxl
        obtain ⟨g2, o2, rfl, hg2, hc2⟩ := H2.out.elem hyl
        have d1 : wo.cell? ⟨g1, o1 + k, none⟩ = some (.int .i64 x) := (hx.cell (p := ⟨g1, o1 + k, none⟩) hg1).trans hc1
        have d2 : wo.cell? ⟨g2, o2 + k, none⟩ = some (.int .i64 y) := (hx.cell (p := ⟨g2, o2 + k, none⟩) hg2).trans hc2
        have HXL := Lib.hid hxl
        have HYL := Lib.hid hyl
        have HT := Lib.hid ht
        have HX := Lib.hid hx
        clear hxl hyl ht hx hc1 hc2
        go_wp2
        refine wp_region_lexK (fun b => b = g1 ∨ b = g2) (by kernel_rfl) (fun i => false) (by kernel_rfl) ?_
        intro C hC hne W0 hK0 hblk hsz hx0
        have f1 := lexCell hC (.inl rfl) d1
        have f2 := lexCell hC (.inr rfl) d2
        have HX0 := Lib.hid hx0
        clear hC hK0 hblk hsz hx0 d1 d2
        repeat (refine wpLex_step (fun K hK => ?_); refine lexOp_float rfl ?_; unfold floatAt; go_simp; refine hK _ _ ?_; clear hK K)
        refine wpLex_nil ?_
        by_cases hxy : x = y
        · subst hxy
          go_wp2
          go_roundw
          case rel =>
            refine ⟨k + 1, by omega, by go_num, ?_, HX.out.trans HX0.out⟩
            rw [List.take_add_one, List.take_add_one, HXL.out, HYL.out, HT.out]
          case measure => simp [intOf]; omega
        · have hr : r = false := by
            rw [HR.out, beq_eq_false_iff_ne]
            intro e
            have h1 := HXL.out
            rw [e, HYL.out] at h1
            exact hxy (Option.some.inj h1).symm
          have HRR := Lib.hid hr
          clear hr
          go_wp2
          go_ret
          exact ⟨by rw [HRR.out]; rfl, HX.out.trans HX0.out⟩
      · obtain rfl : k = n := by omega
        have hr : r = true := by
          rw [HR.out, beq_iff_eq, ← List.take_of_length_le (l := l1) (i := k) (by have := HN.out; omega), ht, List.take_of_length_le (by have := HM.out; omega)]
        have HRR := Lib.hid hr
        have HX := Lib.hid hx
        clear ht hr hx
        go_wp2
        go_ret
        exact ⟨by rw [HRR.out]; rfl, HX.out⟩
  · have hr : r = false := by
      rw [HR.out, beq_eq_false_iff_ne]
      intro e
      have h1 := HN.out; have h2 := HM.out
      rw [e] at h1; omega
    have HRR := Lib.hid hr
    clear hr
    go_enter Try.func17, Try.ntmps17
    go_wp2
    go_ret
    exact ⟨by rw [HRR.out]; rfl, Ext.refl _⟩
end Go.Proofs.Ytokkgbcjjaiaeaa
