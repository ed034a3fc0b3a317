/-
  The walk of AlphabetMakes.
-/
import Derived.Test.YtokkgbcjjaiaeaaMakes
import Derived.Test.YtokkgbcjjaiaeaaAwake
namespace Go.Proofs.Ytokkgbcjjaiaeaa
open Go Go.RowKit Go.Shelf Go.Maps

set_option maxRecDepth 100000 in
set_option maxHeartbeats 1000000 in
theorem alphabetMakes_any (v0 v1 : Value) (k l : List BS) (n : Int) (c : Nat) (w : World) (h0 : IsSetsC w v0 k) (h1 : IsSetsC w v1 l) (hkn : k.length ≤ 9223372036854775807) (hln : l.length ≤ 9223372036854775807) (hc : c < 256) :
    Calls Try.prog 6 #[v0, v1, .int .i64 n, .int .u8 c] w fun e w' => e = .returned (.bool true) ∧ Below w.heap.size w w' := by
  obtain ⟨a0, c0, rfl⟩ := h0.1.form
  obtain ⟨a1, c1, rfl⟩ := h1.1.form
  have HM : Hid (k.length ≤ 8 → l.length ≤ 8 → Calls Try.prog 30 #[.slice a0 k.length c0, .slice a1 l.length c1, .int .i64 n, .int .u8 c] w fun e w' => e = .returned (.bool true) ∧ Below w.heap.size w w') := fun hk hl => makes_any _ _ k l n c w h0 h1.1 hk hl hc
  clear h0 h1 hc
  generalize k.length = m at *
  generalize l.length = j at *
  by_cases hk : 8 < m
  · have d1 : decide (8 < m) = true := decide_eq_true hk
    have d1' : decide ((8 : Int) < m) = true := decide_eq_true (by omega)
    go_enter Try.func6, Try.ntmps6
    go_wp2_with fail
    refine (awake_any _).mono ?_
    rintro e w1 ⟨rfl, hx⟩
    have HX := Lib.hid hx
    clear hx
    go_wp2
    go_ret
    exact ⟨rfl, HX.out⟩
  · have d1 : decide (8 < m) = false := decide_eq_false hk
    have d1' : decide ((8 : Int) < m) = false := decide_eq_false (by omega)
    by_cases hl : 8 < j
    · have d2 : decide (8 < j) = true := decide_eq_true hl
      have d2' : decide ((8 : Int) < j) = true := decide_eq_true (by omega)
      go_enter Try.func6, Try.ntmps6
      go_wp2_with fail
      refine (awake_any _).mono ?_
      rintro e w1 ⟨rfl, hx⟩
      have HX := Lib.hid hx
      clear hx
      go_wp2
      go_ret
      exact ⟨rfl, HX.out⟩
    · have d2 : decide (8 < j) = false := decide_eq_false hl
      have d2' : decide ((8 : Int) < j) = false := decide_eq_false (by omega)
      have HM' := Lib.hid (HM.out (by omega) (by omega))
      clear HM
      go_enter Try.func6, Try.ntmps6
      go_wp2_with fail
      refine (HM'.out).mono ?_
      rintro e w1 ⟨rfl, hx1⟩
      have HX1 := Lib.hid hx1
      clear hx1
      go_wp2_with fail
      refine (awake_any _).mono ?_
      rintro e w2 ⟨rfl, hx⟩
      have HX := Lib.hid hx
      clear hx
      go_wp2
      go_ret
      exact ⟨rfl, HX1.out.trans (HX.out.mono HX1.out.size)⟩
end Go.Proofs.Ytokkgbcjjaiaeaa
