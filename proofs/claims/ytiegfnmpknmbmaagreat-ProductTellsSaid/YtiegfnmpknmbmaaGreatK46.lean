/-
  product.Within and Equal.
-/
import Derived.Test.YtiegfnmpknmbmaaGreatK35
namespace Go.Proofs.YtiegfnmpknmbmaaGreat
open Go Go.RowKit Go.Shelf Go.Maps
attribute [local go_sem] encS

set_option maxRecDepth 100000 in
set_option maxHeartbeats 4000000 in
theorem pwithin_any (v v' : Value) (a b : DF) (sa : Sm a) (sb : Sm b) (f : Int) (w : World) (h : IsDf w v a) (h' : IsDf w v' b) :
    Calls Tryz.prog 20 #[v, v', .int .i64 f] w fun e w' => ∃ u, e = .returned (.tuple #[u, .bool (partsE a b 3 f).2.1, .int .i64 (partsE a b 3 f).2.2]) ∧ w'.ownsRow w.heap.size 5 1 u (partsE a b 3 f).1.length ((partsE a b 3 f).1.map encB) ∧ Below w.heap.size w w' := by
  have CP : Hid (∀ W, Below w.heap.size w W → Calls Tryz.prog 51 #[v, v', .int .u8 3, .int .i64 f] W fun e w' => ∃ u, e = .returned (.tuple #[u, .bool (partsE a b 3 f).2.1, .int .i64 (partsE a b 3 f).2.2]) ∧ w'.ownsRow W.heap.size 5 1 u (partsE a b 3 f).1.length ((partsE a b 3 f).1.map encB) ∧ Below W.heap.size W w') := fun W hW => pparts_any v v' a b sa sb 3 f W (h.below hW) (h'.below hW)
  generalize partsE a b 3 f = q at *
  obtain ⟨l, bo, er⟩ := q
  obtain ⟨v0, v1, v2, rfl, h0, h1, h2⟩ := h
  obtain ⟨u0, u1, u2, rfl, g0, g1, g2⟩ := h'
  clear h0 h1 h2 g0 g1 g2 sa sb
  simp only at CP ⊢
  go_enter Tryz.func20, Tryz.ntmps20
  go_wp2_with fail
  refine calls_named ?_
  intro V hV
  have X1 : Hid (Below w.heap.size w V) := by rw [hV]; exact (((Ext.refl w).alloc _).alloc _).below
  clear hV
  refine (CP.out V X1.out).mono ?_
  rintro e w2 ⟨u, rfl, hr, hx⟩
  have X2 := Lib.hid (X1.out.trans (hx.mono X1.out.size))
  have R2 := Lib.hid (ownsRow_base hr X1.out.size)
  obtain ⟨ua, uc, rfl⟩ := ownsRow_form hr
  clear hx hr X1 CP
  go_wp2
  exact bodyPost_ret (v := .tuple #[.slice ua l.length uc, .bool bo, .int .i64 er]) (by simp [results, Tryz.results20, go_sem]) rfl ⟨_, rfl, R2.out, X2.out⟩
set_option maxRecDepth 100000 in
set_option maxHeartbeats 4000000 in
theorem pequal_any (v v' : Value) (a b : DF) (sa : Sm a) (sb : Sm b) (f : Int) (w : World) (h : IsDf w v a) (h' : IsDf w v' b) :
    Calls Tryz.prog 21 #[v, v', .int .i64 f] w fun e w' => ∃ u, e = .returned (.tuple #[u, .bool (partsE a b 4 f).2.1, .int .i64 (partsE a b 4 f).2.2]) ∧ w'.ownsRow w.heap.size 5 1 u (partsE a b 4 f).1.length ((partsE a b 4 f).1.map encB) ∧ Below w.heap.size w w' := by
  have CP : Hid (∀ W, Below w.heap.size w W → Calls Tryz.prog 51 #[v, v', .int .u8 4, .int .i64 f] W fun e w' => ∃ u, e = .returned (.tuple #[u, .bool (partsE a b 4 f).2.1, .int .i64 (partsE a b 4 f).2.2]) ∧ w'.ownsRow W.heap.size 5 1 u (partsE a b 4 f).1.length ((partsE a b 4 f).1.map encB) ∧ Below W.heap.size W w') := fun W hW => pparts_any v v' a b sa sb 4 f W (h.below hW) (h'.below hW)
  generalize partsE a b 4 f = q at *
  obtain ⟨l, bo, er⟩ := q
  obtain ⟨v0, v1, v2, rfl, h0, h1, h2⟩ := h
  obtain ⟨u0, u1, u2, rfl, g0, g1, g2⟩ := h'
  clear h0 h1 h2 g0 g1 g2 sa sb
  simp only at CP ⊢
  go_enter Tryz.func21, Tryz.ntmps21
  go_wp2_with fail
  refine calls_named ?_
  intro V hV
  have X1 : Hid (Below w.heap.size w V) := by rw [hV]; exact (((Ext.refl w).alloc _).alloc _).below
  clear hV
  refine (CP.out V X1.out).mono ?_
  rintro e w2 ⟨u, rfl, hr, hx⟩
  have X2 := Lib.hid (X1.out.trans (hx.mono X1.out.size))
  have R2 := Lib.hid (ownsRow_base hr X1.out.size)
  obtain ⟨ua, uc, rfl⟩ := ownsRow_form hr
  clear hx hr X1 CP
  go_wp2
  exact bodyPost_ret (v := .tuple #[.slice ua l.length uc, .bool bo, .int .i64 er]) (by simp [results, Tryz.results21, go_sem]) rfl ⟨_, rfl, R2.out, X2.out⟩
end Go.Proofs.YtiegfnmpknmbmaaGreat
