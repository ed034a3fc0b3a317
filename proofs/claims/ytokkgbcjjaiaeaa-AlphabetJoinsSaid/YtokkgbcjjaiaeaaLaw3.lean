/-
  Walks for the laws on alphabets: the closures that look at two sets.
-/
import Derived.Test.YtokkgbcjjaiaeaaLaw2
namespace Go.Proofs.Ytokkgbcjjaiaeaa
open Go Go.RowKit Go.Shelf Go.Maps
attribute [local go_sem] encS

set_option maxRecDepth 100000 in
set_option maxHeartbeats 1000000 in
theorem apartS_any (s t x : BS) (B1 B2 : Nat) (W : World) (h1 : Blk W B1 (encS s) 25) (h2 : Blk W B2 (encS t) 25) :
    Calls Try.prog 41 #[.agg (encS x), .pointer (some ⟨B1, 0, none⟩), .pointer (some ⟨B2, 0, none⟩)] W fun e w' => e = .returned (.bool ((s &&& ~~~x == 0) != (t &&& ~~~x == 0))) ∧ Ext W w' := by
  have HA := Lib.hid fun W => within_any s x W
  have HB := Lib.hid fun W => within_any t x W
  generalize (s &&& ~~~x == 0) = b1 at HA ⊢
  generalize (t &&& ~~~x == 0) = b2 at HB ⊢
  have H1 := Lib.hid h1
  have H2 := Lib.hid h2
  clear h1 h2
  go_enter Try.func41, Try.ntmps41
  go_wp2
  refine wp_named ?_
  intro W1 hW1
  have hx1 : Ext W W1 := by rw [hW1]; exact (Ext.refl W).alloc _
  have hb : Blk W1 W.heap.size (encS x) 25 := by rw [hW1]; exact Blk.new _ _ _
  have hs := H1.out.ext hx1
  have ht := H2.out.ext hx1
  have HX1 := Lib.hid hx1
  have l1 := hs.lt
  have l2 := ht.lt
  have l3 := hb.lt
  have HS : Hid (∀ b, (b = B1 ∨ b = B2 ∨ b = W.heap.size) → b < W1.heap.size) := fun b hb => by omega
  clear hW1 hx1 l1 l2 l3
  refine wp_region_lexK (fun b => b = B1 ∨ b = B2 ∨ b = W.heap.size) (by kernel_rfl) (fun i => i == 2 || i == 5) (by kernel_rfl) ?_
  intro C hC hne W0 hK0 hblk hsz hx0
  obtain ⟨a0, a1, a2, a3⟩ := lexSet hC (.inl rfl) hs
  obtain ⟨b0, b1', b2', b3⟩ := lexSet hC (.inr (.inl rfl)) ht
  obtain ⟨c0, c1, c2, c3⟩ := lexSet hC (.inr (.inr rfl)) hb
  have HC := Lib.hid hC
  have HK0 := Lib.hid hK0
  have HX0 := Lib.hid hx0
  clear hC hK0 hblk hsz hx0 hs ht hb
  repeat (refine wpLex_step (fun K hK => ?_); refine lexOp_float rfl ?_; unfold floatAt; go_simp; refine hK _ _ ?_; clear hK K)
  refine wpLex_step (fun K hK => ?_)
  refine lexOp_eff rfl ?_
  go_simp
  refine effAt_call ((HA.out _).mono ?_)
  rintro e w1 ⟨rfl, hx⟩
  have hk1 := Keeps.step HK0.out HS hx
  refine ⟨_, rfl, (HC.out _).2 hk1, hK _ _ ?_⟩
  have HK1 := Lib.hid hk1
  have HX2 := Lib.hid hx
  clear hK K hk1 hx
  repeat (refine wpLex_step (fun K hK => ?_); refine lexOp_float rfl ?_; unfold floatAt; go_simp; refine hK _ _ ?_; clear hK K)
  refine wpLex_step (fun K hK => ?_)
  refine lexOp_eff rfl ?_
  go_simp
  refine effAt_call ((HB.out _).mono ?_)
  rintro e w2 ⟨rfl, hx⟩
  have hk2 := Keeps.step HK1.out HS hx
  refine ⟨_, rfl, (HC.out _).2 hk2, hK _ _ ?_⟩
  have HX3 := Lib.hid hx
  clear hK K hk2 hx
  repeat (refine wpLex_step (fun K hK => ?_); refine lexOp_float rfl ?_; unfold floatAt; go_simp; refine hK _ _ ?_; clear hK K)
  refine wpLex_nil ?_
  go_wp2
  go_ret
  exact ⟨rfl, ((HX1.out.trans HX0.out).trans HX2.out).trans HX3.out⟩
set_option maxRecDepth 100000 in
set_option maxHeartbeats 1000000 in
theorem apartB_any (s : BS) (x y : Nat) (hx256 : x < 256) (hy256 : y < 256) (B1 B2 : Nat) (W : World) (h1 : Blk W B1 #[.int .u8 x] 5) (h2 : Blk W B2 #[.int .u8 y] 5) :
    Calls Try.prog 23 #[.agg (encS s), .pointer (some ⟨B1, 0, none⟩), .pointer (some ⟨B2, 0, none⟩)] W fun e w' => e = .returned (.bool (s.getLsbD x != s.getLsbD y)) ∧ Ext W w' := by
  have HA := Lib.hid fun W => has_any s x hx256 W
  have HB := Lib.hid fun W => has_any s y hy256 W
  generalize s.getLsbD x = b1 at HA ⊢
  generalize s.getLsbD y = b2 at HB ⊢
  have H1 := Lib.hid h1
  have H2 := Lib.hid h2
  clear h1 h2
  go_enter Try.func23, Try.ntmps23
  go_wp2
  refine wp_named ?_
  intro W1 hW1
  have hx1 : Ext W W1 := by rw [hW1]; exact (Ext.refl W).alloc _
  have hb : Blk W1 W.heap.size (encS s) 25 := by rw [hW1]; exact Blk.new _ _ _
  have hs := H1.out.ext hx1
  have ht := H2.out.ext hx1
  have HX1 := Lib.hid hx1
  have l1 := hs.lt
  have l2 := ht.lt
  have l3 := hb.lt
  have HS : Hid (∀ b, (b = B1 ∨ b = B2 ∨ b = W.heap.size) → b < W1.heap.size) := fun b hb => by omega
  clear hW1 hx1 l1 l2 l3
  refine wp_region_lexK (fun b => b = B1 ∨ b = B2 ∨ b = W.heap.size) (by kernel_rfl) (fun i => i == 2 || i == 5) (by kernel_rfl) ?_
  intro C hC hne W0 hK0 hblk hsz hx0
  have a0 := lexCell hC (p := ⟨B1, 0, none⟩) (.inl rfl) (hs.cell 0)
  have b0 := lexCell hC (p := ⟨B2, 0, none⟩) (.inr (.inl rfl)) (ht.cell 0)
  obtain ⟨c0, c1, c2, c3⟩ := lexSet hC (.inr (.inr rfl)) hb
  have HC := Lib.hid hC
  have HK0 := Lib.hid hK0
  have HX0 := Lib.hid hx0
  clear hC hK0 hblk hsz hx0 hs ht hb
  repeat (refine wpLex_step (fun K hK => ?_); refine lexOp_float rfl ?_; unfold floatAt; go_simp; refine hK _ _ ?_; clear hK K)
  refine wpLex_step (fun K hK => ?_)
  refine lexOp_eff rfl ?_
  go_simp
  refine effAt_call ((HA.out _).mono ?_)
  rintro e w1 ⟨rfl, hx⟩
  have hk1 := Keeps.step HK0.out HS hx
  refine ⟨_, rfl, (HC.out _).2 hk1, hK _ _ ?_⟩
  have HK1 := Lib.hid hk1
  have HX2 := Lib.hid hx
  clear hK K hk1 hx
  repeat (refine wpLex_step (fun K hK => ?_); refine lexOp_float rfl ?_; unfold floatAt; go_simp; refine hK _ _ ?_; clear hK K)
  refine wpLex_step (fun K hK => ?_)
  refine lexOp_eff rfl ?_
  go_simp
  refine effAt_call ((HB.out _).mono ?_)
  rintro e w2 ⟨rfl, hx⟩
  have hk2 := Keeps.step HK1.out HS hx
  refine ⟨_, rfl, (HC.out _).2 hk2, hK _ _ ?_⟩
  have HX3 := Lib.hid hx
  clear hK K hk2 hx
  repeat (refine wpLex_step (fun K hK => ?_); refine lexOp_float rfl ?_; unfold floatAt; go_simp; refine hK _ _ ?_; clear hK K)
  refine wpLex_nil ?_
  go_wp2
  go_ret
  exact ⟨rfl, ((HX1.out.trans HX0.out).trans HX2.out).trans HX3.out⟩
end Go.Proofs.Ytokkgbcjjaiaeaa
