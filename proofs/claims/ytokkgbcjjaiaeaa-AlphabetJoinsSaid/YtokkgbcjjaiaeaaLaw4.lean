/-
  Walks for the laws on alphabets: cmp.Less, slices.IsSorted at ints.
-/
import Derived.Test.YtokkgbcjjaiaeaaLaw0
import Derived.Deep.QuietTactic
import Derived.BigQuiet
namespace Go.Proofs.Ytokkgbcjjaiaeaa
open Go Go.RowKit Go.Shelf Go.Maps

theorem isNaN_any (k : Int) (w : World) : Calls Try.prog 98 #[.int .i64 k] w fun e w' => e = .returned (.bool false) ∧ w' = w := by
  go_enter Try.func98, Try.ntmps98
  go_wp2
  go_ret
  exact ⟨by simp, rfl⟩
theorem cmpLess_any (j k : Int) (w : World) : Calls Try.prog 79 #[.int .i64 j, .int .i64 k] w fun e w' => e = .returned (.bool (decide (j < k))) ∧ w' = w := by
  have HN := Lib.hid fun k => isNaN_any k w
  go_enter Try.func79, Try.ntmps79
  go_wp2_with (go_at_call 98; refine (HN.out _).mono ?_; rintro e w1 ⟨rfl, hw⟩; replace hw := hw.symm; subst hw)
  go_ret
  exact ⟨rfl, rfl⟩

theorem ext_drewN {A B : World} (h : Ext A B) (n : Nat) : Ext A (B.drewN n) := ⟨h.os, h.tape, h.output, Nat.le_add_right_of_le h.drawn, h.size, h.keep⟩
set_option maxRecDepth 100000 in
set_option maxHeartbeats 1000000 in
/-- Of a list in order, no element twice. -/
theorem isSorted_any (v : Value) (l : List Int) (w : World) (h : IsSl encZ w v l) (hn : l.length ≤ 1000000) (hs : l.Pairwise (· < ·)) :
    Calls Try.prog 44 #[v] w fun e w' => e = .returned (.bool true) ∧ Ext w w' := by
  obtain ⟨a, cap, rfl⟩ := h.form
  obtain ⟨n, hnn⟩ : ∃ n, n = l.length := ⟨_, rfl⟩
  rw [← hnn] at h hn ⊢
  have H := Lib.hid h
  have HN := Lib.hid hnn
  have HS := Lib.hid hs
  clear h hnn hs
  go_enter Try.func44, Try.ntmps44
  go_wp2
  go_loopw [3] (fun i wr => ∃ k : Int, -1 ≤ k ∧ k < n ∧ i = .int .i64 k ∧ Ext w wr) (fun i _ => (intOf i + 1).toNat)
  case atStart => exact ⟨(n : Int) - 1, by omega, by omega, by go_num, Ext.refl _⟩
  case round =>
    obtain ⟨k, hk0, hk, rfl, hx⟩ := hrel
    obtain ⟨wo, rfl⟩ : ∃ wo : World, wo = wr := ⟨_, rfl⟩
    have HX := Lib.hid hx
    clear hx
    by_cases hlt : 0 < k
    · obtain ⟨q, rfl⟩ : ∃ q : Nat, k = q := ⟨k.toNat, by omega⟩
      obtain ⟨m, hm⟩ : ∃ m : Nat, q = m + 1 := ⟨q - 1, by omega⟩
      obtain ⟨x, hxl⟩ : ∃ x, l[m]? = some x := ⟨_, List.getElem?_eq_getElem (by have := HN.out; omega)⟩
      obtain ⟨y, hyl⟩ : ∃ y, l[q]? = some y := ⟨_, List.getElem?_eq_getElem (by have := HN.out; omega)⟩
      obtain ⟨g, o, rfl, hg, hc1⟩ := H.out.elem hxl
      obtain ⟨g', o', e', _, hc2⟩ := H.out.elem hyl
      cases e'
      have hxy : x < y := by
        obtain ⟨q1, rfl⟩ := List.getElem?_eq_some_iff.1 hxl
        obtain ⟨q2, rfl⟩ := List.getElem?_eq_some_iff.1 hyl
        exact List.pairwise_iff_getElem.1 HS.out m q q1 q2 (by omega)
      obtain ⟨z, hz⟩ : ∃ z : Int, (q : Int) - 1 = z := ⟨_, rfl⟩
      have hz0 : 0 ≤ z := by omega
      have hzn : z < n := by omega
      have hqm : z.toNat = m := by omega
      have d1 : wo.cell? ⟨g, o + z.toNat, none⟩ = some (.int .i64 x) := by rw [hqm]; exact (HX.out.cell (p := ⟨g, o + m, none⟩) hg).trans hc1
      clear hqm
      have d2 : wo.cell? ⟨g, o + q, none⟩ = some (.int .i64 y) := (HX.out.cell (p := ⟨g, o + q, none⟩) hg).trans hc2
      have HM := Lib.hid hm
      have HZ := Lib.hid hz
      have hlt2 : decide (y < x) = false := decide_eq_false (by omega)
      clear hxl hyl hc1 hc2 hm
      go_wp2
      go_quiet ((go_at_call 79; exact Calls.quiet_of_same (cmpLess_any _ _ _)))
      go_wp2
      exact ⟨⟨z, by omega, hzn, rfl, ext_drewN HX.out _⟩, by have := HZ.out; simp [intOf]; omega⟩
    · go_wp2
      go_ret
      exact ⟨rfl, HX.out⟩
end Go.Proofs.Ytokkgbcjjaiaeaa
