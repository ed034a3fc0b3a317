/-
  Walks for the laws on alphabets: few; slices.Equal at ints.
  Walks for the laws on alphabets: cmp.Less, slices.IsSorted at ints.
  Walks for the laws on alphabets: bytes.Equal.
-/
import Derived.Test.YtokkgbcjjaiaeaaAlph
import Derived.Deep.QuietTactic
import Derived.BigQuiet
import Derived.Test.YtokkgbcjjaiaeaaBytesEq
namespace Go.Proofs.Ytokkgbcjjaiaeaa
open Go Go.RowKit Go.Shelf Go.Maps
attribute [local go_sem] encS

/-- A slice that reads as a list of sets, its capacity with it. -/
def IsSetsC (w : World) (v : Value) (l : List BS) : Prop := IsSets w v l ∧ ∀ a n cap, v = .slice a n cap → n ≤ cap

theorem IsSets.form {w : World} {v : Value} {l : List BS} (h : IsSets w v l) : ∃ a cap, v = .slice a l.length cap := by
  rcases h with ⟨h, rfl⟩ | ⟨b, off, cap, hv, _⟩
  · exact ⟨_, _, h⟩
  · exact ⟨_, _, hv⟩
theorem IsSets.take {w : World} {a : Option Addr} {n cap : Nat} {l : List BS} (h : IsSets w (.slice a n cap) l) (k : Nat) (hk : k ≤ n) (hc : n ≤ cap) : IsSets w (.slice a k cap) (l.take k) ∧ k ≤ cap := by
  refine ⟨?_, by omega⟩
  rcases h with ⟨h, rfl⟩ | ⟨b, off, cap', hv, hb, h⟩
  · cases h
    obtain rfl : k = 0 := by omega
    exact .inl ⟨rfl, rfl⟩
  · cases hv
    refine .inr ⟨b, off, cap, ?_, hb, fun i s hi j hj => h i s ?_ j hj⟩
    · rw [List.length_take, Nat.min_eq_left hk]
    · rw [List.getElem?_take] at hi
      split at hi
      · exact hi
      · cases hi

set_option maxRecDepth 100000 in
theorem few_any (v : Value) (l : List BS) (w : World) (h : IsSetsC w v l) (hn : l.length ≤ 9223372036854775807) :
    Calls Try.prog 13 #[v] w fun e w' => ∃ u, e = .returned u ∧ IsSetsC w u (l.take 6) ∧ w' = w := by
  obtain ⟨a, cap, rfl⟩ := h.1.form
  have hcap := h.2 a _ cap rfl
  have HT := Lib.hid h.1.take
  obtain ⟨n, hnn⟩ : ∃ n, n = l.length := ⟨_, rfl⟩
  rw [← hnn] at hcap hn HT ⊢
  have HN := Lib.hid hnn
  clear h hnn
  go_enter Try.func13, Try.ntmps13
  go_wp2
  have hmin : (min (n : Int) 6).toNat = min n 6 := by omega
  rw [hmin]
  have hnn := HN.out
  have ht : l.take 6 = l.take (min n 6) := by
    by_cases h6 : n ≤ 6
    · rw [Nat.min_eq_left h6, List.take_of_length_le (by omega), List.take_of_length_le (by omega)]
    · rw [Nat.min_eq_right (by omega)]
  have h1 := HT.out (min n 6) (by omega) hcap
  rw [← ht] at h1
  refine bodyPost_ret (results_tmp rfl _ _ _) rfl ?_
  refine ⟨_, rfl, ⟨h1.1, fun a' n' cap' e => ?_⟩, rfl⟩
  have e' : Value.slice a (min n 6) cap = .slice a' n' cap' := e
  cases e'
  exact h1.2

set_option maxRecDepth 100000 in
set_option maxHeartbeats 1000000 in
theorem slEqual_any (v1 v2 : Value) (l1 l2 : List Int) (w : World) (h1 : IsSl encZ w v1 l1) (h2 : IsSl encZ w v2 l2) (hn : l1.length ≤ 1000000) :
    Calls Try.prog 17 #[v1, v2] w fun e w' => e = .returned (.bool (l1 == l2)) ∧ Ext w w' := by
  obtain ⟨a1, c1, rfl⟩ := h1.form
  obtain ⟨a2, c2, rfl⟩ := h2.form
  obtain ⟨n, hnn⟩ : ∃ n, n = l1.length := ⟨_, rfl⟩
  obtain ⟨m, hmm⟩ : ∃ m, m = l2.length := ⟨_, rfl⟩
  rw [← hnn] at hn h1 ⊢
  rw [← hmm] at h2 ⊢
  obtain ⟨r, hr⟩ : ∃ r, r = (l1 == l2) := ⟨_, rfl⟩
  rw [← hr]
  have H1 := Lib.hid h1
  have H2 := Lib.hid h2
  have HN := Lib.hid hnn
  have HM := Lib.hid hmm
  have HR := Lib.hid hr
  clear h1 h2 hnn hmm hr
  by_cases hnm : n = m
  · subst hnm
    go_enter Try.func17, Try.ntmps17
    go_wp2
    go_loopw [13] (fun i wr => ∃ k : Nat, k ≤ n ∧ i = .int .i64 k ∧ l1.take k = l2.take k ∧ Ext w wr) (fun i _ => n - (intOf i).toNat)
    case atStart => exact ⟨0, by omega, rfl, rfl, Ext.refl _⟩
    case round =>
      obtain ⟨k, hk, rfl, ht, hx⟩ := hrel
      obtain ⟨wo, rfl⟩ : ∃ wo : World, wo = wr := ⟨_, rfl⟩
      by_cases hlt : k < n
      · obtain ⟨x, hxl⟩ : ∃ x, l1[k]? = some x := ⟨_, List.getElem?_eq_getElem (by have := HN.out; omega)⟩
        obtain ⟨y, hyl⟩ : ∃ y, l2[k]? = some y := ⟨_, List.getElem?_eq_getElem (by have := HM.out; omega)⟩
        obtain ⟨g1, o1, rfl, hg1, hc1⟩ := H1.out.elem hxl
        obtain ⟨g2, o2, rfl, hg2, hc2⟩ := H2.out.elem hyl
        have d1 : wo.cell? ⟨g1, o1 + k, none⟩ = some (.int .i64 x) := (hx.cell (p := ⟨g1, o1 + k, none⟩) hg1).trans hc1
        have d2 : wo.cell? ⟨g2, o2 + k, none⟩ = some (.int .i64 y) := (hx.cell (p := ⟨g2, o2 + k, none⟩) hg2).trans hc2
        have HXL := Lib.hid hxl
        have HYL := Lib.hid hyl
        have HT := Lib.hid ht
        have HX := Lib.hid hx
        clear hxl hyl ht hx hc1 hc2
        go_wp2
        refine wp_region_lexK (fun b => b = g1 ∨ b = g2) (by kernel_rfl) (fun i => false) (by kernel_rfl) ?_
        intro C hC hne W0 hK0 hblk hsz hx0
        have f1 := lexCell hC (.inl rfl) d1
        have f2 := lexCell hC (.inr rfl) d2
        have HX0 := Lib.hid hx0
        clear hC hK0 hblk hsz hx0 d1 d2
        repeat (refine wpLex_step (fun K hK => ?_); refine lexOp_float rfl ?_; unfold floatAt; go_simp; refine hK _ _ ?_; clear hK K)
        refine wpLex_nil ?_
        by_cases hxy : x = y
        · subst hxy
          go_wp2
          go_roundw
          case rel =>
            refine ⟨k + 1, by omega, by go_num, ?_, HX.out.trans HX0.out⟩
            rw [List.take_add_one, List.take_add_one, HXL.out, HYL.out, HT.out]
          case measure => simp [intOf]; omega
        · have hr : r = false := by
            rw [HR.out, beq_eq_false_iff_ne]
            intro e
            have h1 := HXL.out
            rw [e, HYL.out] at h1
            exact hxy (Option.some.inj h1).symm
          have HRR := Lib.hid hr
          clear hr
          go_wp2
          go_ret
          exact ⟨by rw [HRR.out]; rfl, HX.out.trans HX0.out⟩
      · obtain rfl : k = n := by omega
        have hr : r = true := by
          rw [HR.out, beq_iff_eq, ← List.take_of_length_le (l := l1) (i := k) (by have := HN.out; omega), ht, List.take_of_length_le (by have := HM.out; omega)]
        have HRR := Lib.hid hr
        have HX := Lib.hid hx
        clear ht hr hx
        go_wp2
        go_ret
        exact ⟨by rw [HRR.out]; rfl, HX.out⟩
  · have hr : r = false := by
      rw [HR.out, beq_eq_false_iff_ne]
      intro e
      have h1 := HN.out; have h2 := HM.out
      rw [e] at h1; omega
    have HRR := Lib.hid hr
    clear hr
    go_enter Try.func17, Try.ntmps17
    go_wp2
    go_ret
    exact ⟨by rw [HRR.out]; rfl, Ext.refl _⟩
end Go.Proofs.Ytokkgbcjjaiaeaa

namespace Go.Proofs.Ytokkgbcjjaiaeaa
open Go Go.RowKit Go.Shelf Go.Maps

theorem isNaN_any (k : Int) (w : World) : Calls Try.prog 98 #[.int .i64 k] w fun e w' => e = .returned (.bool false) ∧ w' = w := by
  go_enter Try.func98, Try.ntmps98
  go_wp2
  go_ret
  exact ⟨by simp, rfl⟩
theorem cmpLess_any (j k : Int) (w : World) : Calls Try.prog 79 #[.int .i64 j, .int .i64 k] w fun e w' => e = .returned (.bool (decide (j < k))) ∧ w' = w := by
  have HN := Lib.hid fun k => isNaN_any k w
  go_enter Try.func79, Try.ntmps79
  go_wp2_with (go_at_call 98; refine (HN.out _).mono ?_; rintro e w1 ⟨rfl, hw⟩; replace hw := hw.symm; subst hw)
  go_ret
  exact ⟨rfl, rfl⟩

theorem ext_drewN {A B : World} (h : Ext A B) (n : Nat) : Ext A (B.drewN n) := ⟨h.os, h.tape, h.output, Nat.le_add_right_of_le h.drawn, h.size, h.keep⟩
set_option maxRecDepth 100000 in
set_option maxHeartbeats 1000000 in
/-- Of a list in order, no element twice. -/
theorem isSorted_any (v : Value) (l : List Int) (w : World) (h : IsSl encZ w v l) (hn : l.length ≤ 1000000) (hs : l.Pairwise (· < ·)) :
    Calls Try.prog 44 #[v] w fun e w' => e = .returned (.bool true) ∧ Ext w w' := by
  obtain ⟨a, cap, rfl⟩ := h.form
  obtain ⟨n, hnn⟩ : ∃ n, n = l.length := ⟨_, rfl⟩
  rw [← hnn] at h hn ⊢
  have H := Lib.hid h
  have HN := Lib.hid hnn
  have HS := Lib.hid hs
  clear h hnn hs
  go_enter Try.func44, Try.ntmps44
  go_wp2
  go_loopw [3] (fun i wr => ∃ k : Int, -1 ≤ k ∧ k < n ∧ i = .int .i64 k ∧ Ext w wr) (fun i _ => (intOf i + 1).toNat)
  case atStart => exact ⟨(n : Int) - 1, by omega, by omega, by go_num, Ext.refl _⟩
  case round =>
    obtain ⟨k, hk0, hk, rfl, hx⟩ := hrel
    obtain ⟨wo, rfl⟩ : ∃ wo : World, wo = wr := ⟨_, rfl⟩
    have HX := Lib.hid hx
    clear hx
    by_cases hlt : 0 < k
    · obtain ⟨q, rfl⟩ : ∃ q : Nat, k = q := ⟨k.toNat, by omega⟩
      obtain ⟨m, hm⟩ : ∃ m : Nat, q = m + 1 := ⟨q - 1, by omega⟩
      obtain ⟨x, hxl⟩ : ∃ x, l[m]? = some x := ⟨_, List.getElem?_eq_getElem (by have := HN.out; omega)⟩
      obtain ⟨y, hyl⟩ : ∃ y, l[q]? = some y := ⟨_, List.getElem?_eq_getElem (by have := HN.out; omega)⟩
      obtain ⟨g, o, rfl, hg, hc1⟩ := H.out.elem hxl
      obtain ⟨g', o', e', _, hc2⟩ := H.out.elem hyl
      cases e'
      have hxy : x < y := by
        obtain ⟨q1, rfl⟩ := List.getElem?_eq_some_iff.1 hxl
        obtain ⟨q2, rfl⟩ := List.getElem?_eq_some_iff.1 hyl
        exact List.pairwise_iff_getElem.1 HS.out m q q1 q2 (by omega)
      obtain ⟨z, hz⟩ : ∃ z : Int, (q : Int) - 1 = z := ⟨_, rfl⟩
      have hz0 : 0 ≤ z := by omega
      have hzn : z < n := by omega
      have hqm : z.toNat = m := by omega
      have d1 : wo.cell? ⟨g, o + z.toNat, none⟩ = some (.int .i64 x) := by rw [hqm]; exact (HX.out.cell (p := ⟨g, o + m, none⟩) hg).trans hc1
      clear hqm
      have d2 : wo.cell? ⟨g, o + q, none⟩ = some (.int .i64 y) := (HX.out.cell (p := ⟨g, o + q, none⟩) hg).trans hc2
      have HM := Lib.hid hm
      have HZ := Lib.hid hz
      have hlt2 : decide (y < x) = false := decide_eq_false (by omega)
      clear hxl hyl hc1 hc2 hm
      go_wp2
      go_quiet ((go_at_call 79; exact Calls.quiet_of_same (cmpLess_any _ _ _)))
      go_wp2
      exact ⟨⟨z, by omega, hzn, rfl, ext_drewN HX.out _⟩, by have := HZ.out; simp [intOf]; omega⟩
    · go_wp2
      go_ret
      exact ⟨rfl, HX.out⟩
end Go.Proofs.Ytokkgbcjjaiaeaa

namespace Go.Proofs.Ytokkgbcjjaiaeaa
open Go Go.RowKit Go.Shelf Go.Maps

theorem bytesIn_sl {w : World} {a : Option Addr} {n cap : Nat} {l : List Nat} (h : IsSl encB w (.slice a n cap) l) (hn : n = l.length) : Lib.BytesIn w a n (l.map Int.ofNat) := by
  intro h0
  obtain ⟨x, hx⟩ : ∃ x, l[0]? = some x := ⟨_, List.getElem?_eq_getElem (by omega)⟩
  obtain ⟨b, off, rfl, _, _⟩ := h.elem hx
  refine ⟨b, off, rfl, fun i hi => ?_⟩
  obtain ⟨y, hy⟩ : ∃ y, l[i]? = some y := ⟨_, List.getElem?_eq_getElem (by omega)⟩
  obtain ⟨b', off', h1, _, h2⟩ := h.elem hy
  cases h1
  rw [h2]
  simp [encB, hy]
theorem bytesOf_nat (l : List Nat) : Lib.bytesOf (l.map Int.ofNat) = l.map fun n => UInt8.ofNat n := by
  unfold Lib.bytesOf; rw [List.map_map]; rfl
theorem bytesOf_beq (l1 l2 : List Nat) (h1 : ∀ c ∈ l1, c < 256) (h2 : ∀ c ∈ l2, c < 256) : (Lib.bytesOf (l1.map Int.ofNat) == Lib.bytesOf (l2.map Int.ofNat)) = (l1 == l2) := by
  rw [bytesOf_nat, bytesOf_nat, Bool.eq_iff_iff, beq_iff_eq, beq_iff_eq]
  refine ⟨fun h => ?_, fun h => by rw [h]⟩
  have back : ∀ l : List Nat, (∀ c ∈ l, c < 256) → (l.map fun n => UInt8.ofNat n).map UInt8.toNat = l := fun l hl => by
    rw [List.map_map]
    conv => rhs; rw [← List.map_id l]
    refine List.map_congr_left fun c hc => ?_
    have := hl c hc
    simp [UInt8.toNat_ofNat']
    omega
  rw [← back l1 h1, ← back l2 h2, h]
theorem bytesEq_any (v1 v2 : Value) (l1 l2 : List Nat) (w : World) (h1 : IsSl encB w v1 l1) (h2 : IsSl encB w v2 l2) (hb1 : ∀ c ∈ l1, c < 256) (hb2 : ∀ c ∈ l2, c < 256) :
    Calls Try.prog 47 #[v1, v2] w fun e w' => e = .returned (.bool (l1 == l2)) ∧ w' = w := by
  obtain ⟨a1, c1, rfl⟩ := h1.form
  obtain ⟨a2, c2, rfl⟩ := h2.form
  rw [← bytesOf_beq l1 l2 hb1 hb2]
  exact Any.bytes_Equal_all Try.bytesEq a1 a2 l1.length c1 l2.length c2 _ _ w (by simp) (by simp) (bytesIn_sl h1 rfl) (bytesIn_sl h2 rfl)
end Go.Proofs.Ytokkgbcjjaiaeaa
