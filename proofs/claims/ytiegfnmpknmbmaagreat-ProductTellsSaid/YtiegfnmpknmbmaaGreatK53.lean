/-
  The laws ProductMakes and ProductTells, walked.
-/
import Derived.Test.YtiegfnmpknmbmaaGreatK49
import Derived.Test.YtiegfnmpknmbmaaGreatK30
import Derived.Test.YtiegfnmpknmbmaaGreatK52
import Derived.Test.YtiegfnmpknmbmaaGreatK45
namespace Go.Proofs.YtiegfnmpknmbmaaGreat
open Go Go.RowKit Go.Shelf Go.Maps

theorem IsDfe.form3 {w : World} {v : Value} {d : DF} (h : IsDfe w v d) : ∃ a0 n0 c0 a1 n1 c1 a2 n2 c2, v = .agg #[.slice a0 n0 c0, .slice a1 n1 c1, .slice a2 n2 c2] := by
  obtain ⟨v0, v1, v2, rfl, h0, h1, h2⟩ := h
  obtain ⟨a0, c0, rfl⟩ := h0.1.form
  obtain ⟨a1, c1, rfl⟩ := h1.form
  obtain ⟨a2, c2, rfl⟩ := h2.form
  exact ⟨_, _, _, _, _, _, _, _, _, rfl⟩
set_option maxRecDepth 100000 in
set_option maxHeartbeats 2000000 in
theorem productMakes_any (v v' : Value) (a b : DF) (ba : Big a) (bb : Big b) (op : Nat) (hop : op < 256) (f : Int) (w : World) (h : IsDfe w v a) (h' : IsDfe w v' b) :
    Calls Tryz.prog 3 #[v, v', .int .u8 op, .int .i64 f] w fun e w' => e = .returned (.bool true) ∧ Below w.heap.size w w' := by
  have SA : Hid (∀ W, Below w.heap.size w W → Calls Tryz.prog 6 #[v] W fun e w' => e = .returned (.bool (smallB a)) ∧ Below W.heap.size W w') := Lib.hid fun W hW => small_any v a ba W (h.below hW)
  have SB : Hid (∀ W, Below w.heap.size w W → Calls Tryz.prog 6 #[v'] W fun e w' => e = .returned (.bool (smallB b)) ∧ Below W.heap.size W w') := Lib.hid fun W hW => small_any v' b bb W (h'.below hW)
  have MK : Hid (smallB a = true → smallB b = true → ∀ W, Below w.heap.size w W → Calls Tryz.prog 7 #[v, v', .int .u8 op, .int .i64 f] W fun e w' => e = .returned (.bool true) ∧ Below W.heap.size W w') := Lib.hid fun ha hb W hW => makes_any v v' a b (small_sm ha) (small_sm hb) op hop f W (h.below hW) (h'.below hW)
  have AW : Hid (∀ W, Calls Tryz.prog 8 #[] W fun e w' => e = .returned (.bool true) ∧ Below W.heap.size W w') := Lib.hid fun W => awakeP_any W
  obtain ⟨pa0, pn0, pc0, pa1, pn1, pc1, pa2, pn2, pc2, rfl⟩ := h.form3
  obtain ⟨qa0, qn0, qc0, qa1, qn1, qc1, qa2, qn2, qc2, rfl⟩ := h'.form3
  obtain ⟨sa, hsa⟩ : ∃ s, s = smallB a := ⟨_, rfl⟩
  obtain ⟨sb, hsb⟩ : ∃ s, s = smallB b := ⟨_, rfl⟩
  rw [← hsa] at SA MK
  rw [← hsb] at SB MK
  clear h h' ba bb hop hsa hsb
  go_enter Tryz.func3, Tryz.ntmps3
  go_wp2_with fail
  refine calls_named ?_
  intro V hV
  have X : Hid (Below w.heap.size w V) := Lib.hid (by rw [hV]; exact ((Ext.refl w).alloc _ |>.alloc _).below)
  have B1 : Hid (Blk V w.heap.size #[.slice pa0 pn0 pc0, .slice pa1 pn1 pc1, .slice pa2 pn2 pc2] 25) := Lib.hid (by rw [hV]; exact (Blk.new _ _ _).alloc _)
  have B2 : Hid (Blk V (w.heap.size + 1) #[.slice qa0 qn0 qc0, .slice qa1 qn1 qc1, .slice qa2 qn2 qc2] 25) := Lib.hid (by rw [hV]; exact (Blk.new _ _ _).at (by simp))
  clear hV
  refine (SA.out V X.out).mono ?_
  rintro e w1 ⟨rfl, hx⟩
  replace B1 := Lib.hid (B1.out.below hx B1.out.lt)
  replace B2 := Lib.hid (B2.out.below hx B2.out.lt)
  replace X := Lib.hid (X.out.trans (hx.mono X.out.size))
  clear hx SA
  skip --L1
  cases sa
  · clear B1 B2 SB MK
    go_wp2_with fail
    refine (AW.out w1).mono ?_
    rintro e w2 ⟨rfl, hx⟩
    go_wp2
    go_ret
    exact ⟨rfl, X.out.trans (hx.mono X.out.size)⟩
  · obtain ⟨⟨i0, i1, i2⟩, _⟩ := B2.out.three
    go_wp2_with fail
    refine (SB.out w1 X.out).mono ?_
    rintro e w2 ⟨rfl, hx⟩
    replace B1 := Lib.hid (B1.out.below hx B1.out.lt)
    replace B2 := Lib.hid (B2.out.below hx B2.out.lt)
    replace X := Lib.hid (X.out.trans (hx.mono X.out.size))
    clear hx SB i0 i1 i2
    cases sb
    · clear B1 B2 MK
      go_wp2_with fail
      refine (AW.out w2).mono ?_
      rintro e w3 ⟨rfl, hx⟩
      go_wp2
      go_ret
      exact ⟨rfl, X.out.trans (hx.mono X.out.size)⟩
    · obtain ⟨⟨i0, i1, i2⟩, _⟩ := B1.out.three
      obtain ⟨⟨j0, j1, j2⟩, _⟩ := B2.out.three
      go_wp2_with fail
      refine (MK.out (by trivial) (by trivial) w2 X.out).mono ?_
      rintro e w3 ⟨rfl, hx⟩
      replace X := Lib.hid (X.out.trans (hx.mono X.out.size))
      clear hx MK i0 i1 i2 j0 j1 j2 B1 B2
      go_wp2_with fail
      refine (AW.out w3).mono ?_
      rintro e w4 ⟨rfl, hx⟩
      go_wp2
      go_ret
      exact ⟨rfl, X.out.trans (hx.mono X.out.size)⟩
set_option maxRecDepth 100000 in
set_option maxHeartbeats 2000000 in
theorem productTells_any (v : Value) (a : DF) (ba : Big a) (n most : Int) (w : World) (h : IsDfe w v a) :
    Calls Tryz.prog 4 #[v, .int .i64 n, .int .i64 most] w fun e w' => e = .returned (.bool true) ∧ Below w.heap.size w w' := by
  have SA : Hid (∀ W, Below w.heap.size w W → Calls Tryz.prog 6 #[v] W fun e w' => e = .returned (.bool (smallB a)) ∧ Below W.heap.size W w') := Lib.hid fun W hW => small_any v a ba W (h.below hW)
  have MK : Hid (smallB a = true → ∀ W, Below w.heap.size w W → Calls Tryz.prog 9 #[v, .int .i64 n, .int .i64 most] W fun e w' => e = .returned (.bool true) ∧ Below W.heap.size W w') := Lib.hid fun ha W hW => tells_any v a (small_sm ha) n most W (h.below hW)
  have AW : Hid (∀ W, Calls Tryz.prog 8 #[] W fun e w' => e = .returned (.bool true) ∧ Below W.heap.size W w') := Lib.hid fun W => awakeP_any W
  obtain ⟨pa0, pn0, pc0, pa1, pn1, pc1, pa2, pn2, pc2, rfl⟩ := h.form3
  obtain ⟨sa, hsa⟩ : ∃ s, s = smallB a := ⟨_, rfl⟩
  rw [← hsa] at SA MK
  clear h ba hsa
  go_enter Tryz.func4, Tryz.ntmps4
  go_wp2_with fail
  refine calls_named ?_
  intro V hV
  have X : Hid (Below w.heap.size w V) := Lib.hid (by rw [hV]; exact ((Ext.refl w).alloc _).below)
  have B1 : Hid (Blk V w.heap.size #[.slice pa0 pn0 pc0, .slice pa1 pn1 pc1, .slice pa2 pn2 pc2] 25) := Lib.hid (by rw [hV]; exact Blk.new _ _ _)
  clear hV
  refine (SA.out V X.out).mono ?_
  rintro e w1 ⟨rfl, hx⟩
  replace B1 := Lib.hid (B1.out.below hx B1.out.lt)
  replace X := Lib.hid (X.out.trans (hx.mono X.out.size))
  clear hx SA
  cases sa
  · clear B1 MK
    go_wp2_with fail
    refine (AW.out w1).mono ?_
    rintro e w2 ⟨rfl, hx⟩
    go_wp2
    go_ret
    exact ⟨rfl, X.out.trans (hx.mono X.out.size)⟩
  · obtain ⟨⟨i0, i1, i2⟩, _⟩ := B1.out.three
    go_wp2_with fail
    refine (MK.out (by trivial) w1 X.out).mono ?_
    rintro e w2 ⟨rfl, hx⟩
    replace X := Lib.hid (X.out.trans (hx.mono X.out.size))
    clear hx MK i0 i1 i2 B1
    go_wp2_with fail
    refine (AW.out w2).mono ?_
    rintro e w3 ⟨rfl, hx⟩
    go_wp2
    go_ret
    exact ⟨rfl, X.out.trans (hx.mono X.out.size)⟩
end Go.Proofs.YtiegfnmpknmbmaaGreat
