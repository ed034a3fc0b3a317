/-
  The walk of AlphabetTells.
-/
import Derived.Test.YtokkgbcjjaiaeaaTells
import Derived.Test.YtokkgbcjjaiaeaaAwake
namespace Go.Proofs.Ytokkgbcjjaiaeaa
open Go Go.RowKit Go.Shelf Go.Maps
attribute [local go_sem] encS

set_option maxRecDepth 100000 in
set_option maxHeartbeats 1000000 in
theorem alphabetTells_any (v0 v2 v3 : Value) (l : List BS) (s : BS) (ls : List Int) (bs : List Nat) (w : World) (h0 : IsSetsC w v0 l) (h2 : IsSl encZ w v2 ls) (h3 : IsSl encB w v3 bs) (hb : ∀ c ∈ bs, c < 256) (n0 : l.length ≤ 9223372036854775807) (n2 : ls.length ≤ 9223372036854775807) (n3 : bs.length ≤ 9223372036854775807) :
    Calls Try.prog 3 #[v0, .agg (encS s), v2, v3] w fun e w' => e = .returned (.bool true) ∧ Below w.heap.size w w' := by
  obtain ⟨a0, c0, rfl⟩ := h0.1.form
  obtain ⟨a2, c2, rfl⟩ := h2.form
  obtain ⟨a3, c3, rfl⟩ := h3.form
  obtain ⟨w1, hw1⟩ : ∃ w1, w1 = w.alloc (.cells (encS s) 25) := ⟨_, rfl⟩
  have hx : Below w.heap.size w w1 := by rw [hw1]; exact (Below.refl _ _).alloc (Nat.le_refl _) _
  have HX := Lib.hid hx
  have HS : Hid (Blk w1 w.heap.size (encS s) 25) := by rw [hw1]; exact Blk.new _ _ _
  have HM : Hid (l.length ≤ 8 → ls.length ≤ 100 → bs.length ≤ 100 → Calls Try.prog 11 #[.slice a0 l.length c0, .agg (encS s), .slice a2 ls.length c2, .slice a3 bs.length c3] w1 fun e w' => e = .returned (.bool true) ∧ Below w1.heap.size w1 w') := fun k1 k2 k3 =>
    tells_any _ _ _ l s ls bs w1 (h0.1.below hx) (h2.below hx) (h3.below hx) k1 k2 k3 hb
  have HW1 := Lib.hid hw1
  clear h0 h2 h3 hb hx hw1
  generalize l.length = m at *
  generalize ls.length = j at *
  generalize bs.length = i at *
  by_cases h1 : 8 < m
  · have d1 : decide (8 < m) = true := decide_eq_true h1
    have d1' : decide ((8 : Int) < m) = true := decide_eq_true (by omega)
    go_enter Try.func3, Try.ntmps3
    go_wp2_with fail
    refine (awake_any _).mono ?_
    rintro e w2 ⟨rfl, hx⟩
    have HY := Lib.hid hx
    clear hx
    go_wp2
    go_ret
    exact ⟨rfl, ((Below.refl _ _).alloc (Nat.le_refl _) _).trans (HY.out.mono (by simp))⟩
  · have d1 : decide (8 < m) = false := decide_eq_false h1
    have d1' : decide ((8 : Int) < m) = false := decide_eq_false (by omega)
    by_cases h2 : 100 < j
    · have d2 : decide (100 < j) = true := decide_eq_true h2
      have d2' : decide ((100 : Int) < j) = true := decide_eq_true (by omega)
      go_enter Try.func3, Try.ntmps3
      go_wp2_with fail
      refine (awake_any _).mono ?_
      rintro e w2 ⟨rfl, hx⟩
      have HY := Lib.hid hx
      clear hx
      go_wp2
      go_ret
      exact ⟨rfl, ((Below.refl _ _).alloc (Nat.le_refl _) _).trans (HY.out.mono (by simp))⟩
    · have d2 : decide (100 < j) = false := decide_eq_false h2
      have d2' : decide ((100 : Int) < j) = false := decide_eq_false (by omega)
      by_cases h3 : 100 < i
      · have d3 : decide (100 < i) = true := decide_eq_true h3
        have d3' : decide ((100 : Int) < i) = true := decide_eq_true (by omega)
        go_enter Try.func3, Try.ntmps3
        go_wp2_with fail
        refine (awake_any _).mono ?_
        rintro e w2 ⟨rfl, hx⟩
        have HY := Lib.hid hx
        clear hx
        go_wp2
        go_ret
        exact ⟨rfl, ((Below.refl _ _).alloc (Nat.le_refl _) _).trans (HY.out.mono (by simp))⟩
      · have d3 : decide (100 < i) = false := decide_eq_false h3
        have d3' : decide ((100 : Int) < i) = false := decide_eq_false (by omega)
        have HM' := Lib.hid (HM.out (by omega) (by omega) (by omega))
        obtain ⟨q0, q1, q2, q3⟩ := HS.out.set4
        rw [HW1.out] at q0 q1 q2 q3
        clear HM
        go_enter Try.func3, Try.ntmps3
        go_wp2_with fail
        clear q0 q1 q2 q3
        refine calls_named ?_
        intro V hV
        have hVw : V = w1 := by rw [hV]; exact HW1.out.symm
        subst hVw
        clear hV
        refine HM'.out.mono ?_
        rintro e w3 ⟨rfl, hx1⟩
        have HX1 := Lib.hid hx1
        clear hx1
        go_wp2_with fail
        refine (awake_any _).mono ?_
        rintro e w2 ⟨rfl, hx⟩
        have HY := Lib.hid hx
        clear hx
        go_wp2
        go_ret
        exact ⟨rfl, HX.out.trans ((HX1.out.trans (HY.out.mono HX1.out.size)).mono HX.out.size)⟩
end Go.Proofs.Ytokkgbcjjaiaeaa
