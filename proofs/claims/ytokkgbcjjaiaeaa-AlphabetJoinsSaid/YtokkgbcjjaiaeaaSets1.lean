/-
  Walks of package sets: Or, And, Less, Not (each by 'each' and its closure), Has.
-/
import Derived.Test.YtokkgbcjjaiaeaaProg
import Derived.Test.YtokkgbcjjaiaeaaSets0
import Derived.WalkSpells
import Derived.WalkLawsBesides
import Derived.Deep.QuietTactic
import Derived.BigQuiet
import Derived.Shelf.Abstract
namespace Go.Proofs.Ytokkgbcjjaiaeaa
open Go Go.RowKit

theorem has_any (s : BS) (c : Nat) (hc : c < 256) (w : World) :
    Calls Try.prog 20 #[.agg (encS s), .int .u8 c] w fun e w' => e = .returned (.bool (s.getLsbD c)) ∧ Ext w w' := by
  have hcell := encS_get s (show c / 64 < 4 by omega)
  go_enter Try.func20, Try.ntmps20
  go_wp2
  go_ret
  exact ⟨congrArg (fun b => Ending.returned (.bool b)) (bit_test s c), (Ext.refl w).alloc _⟩

theorem orW_any (x y : BitVec 64) (w : World) : Calls Try.prog 78 #[.int .u64 x.toNat, .int .u64 y.toNat] w fun e w' => e = .returned (.int .u64 (x ||| y).toNat) ∧ w' = w := by
  have h := bits_or x y
  go_enter Try.func78, Try.ntmps78
  go_wp2
  go_ret
  exact ⟨rfl, rfl⟩
theorem andW_any (x y : BitVec 64) (w : World) : Calls Try.prog 84 #[.int .u64 x.toNat, .int .u64 y.toNat] w fun e w' => e = .returned (.int .u64 (x &&& y).toNat) ∧ w' = w := by
  have h := bits_and x y
  go_enter Try.func84, Try.ntmps84
  go_wp2
  go_ret
  exact ⟨rfl, rfl⟩
theorem lessW_any (x y : BitVec 64) (w : World) : Calls Try.prog 87 #[.int .u64 x.toNat, .int .u64 y.toNat] w fun e w' => e = .returned (.int .u64 (x &&& ~~~y).toNat) ∧ w' = w := by
  go_enter Try.func87, Try.ntmps87
  go_wp2
  go_ret
  exact ⟨congrArg (fun z => Ending.returned (.int .u64 z)) (bits_less x y), rfl⟩
theorem notW_any (x y : BitVec 64) (w : World) : Calls Try.prog 85 #[.int .u64 x.toNat, .int .u64 y.toNat] w fun e w' => e = .returned (.int .u64 (~~~x).toNat) ∧ w' = w := by
  have hsg : IntKind.u64.signed = false := rfl
  go_enter Try.func85, Try.ntmps85
  go_wp2
  go_ret
  exact ⟨congrArg (fun z => Ending.returned (.int .u64 z)) (bits_not x), rfl⟩

/-- The four words of the result so far. -/
def eachTo (u : BS) (k : Nat) : Array Value := #[.int .u64 (if 0 < k then wd u 0 else 0).toNat, .int .u64 (if 1 < k then wd u 1 else 0).toNat, .int .u64 (if 2 < k then wd u 2 else 0).toNat, .int .u64 (if 3 < k then wd u 3 else 0).toNat]
theorem eachTo_set (u : BS) {k : Nat} (hk : k < 4) : (eachTo u k).setIfInBounds k (.int .u64 (wd u k).toNat) = eachTo u (k + 1) := by
  match k, hk with
  | 0, _ => rfl
  | 1, _ => rfl
  | 2, _ => rfl
  | 3, _ => rfl
theorem eachTo_get (u : BS) {k j : Nat} (hj : j < 4) : ∃ z : Nat, (eachTo u k)[j]? = some (.int .u64 z) := by
  match j, hj with
  | 0, _ => exact ⟨_, rfl⟩
  | 1, _ => exact ⟨_, rfl⟩
  | 2, _ => exact ⟨_, rfl⟩
  | 3, _ => exact ⟨_, rfl⟩

set_option maxRecDepth 100000 in
set_option maxHeartbeats 400000 in
/-- 'each': word by word. -/
theorem each_any (s t u : BS) (f : BitVec 64 → BitVec 64 → BitVec 64) (g : Nat) (w : World) (hu : ∀ i, i < 4 → f (wd s i) (wd t i) = wd u i)
   (eg : ∀ args w, (callFunc g args).run Try.prog w = .ok (.enter g args) w)
   (hg : ∀ (x y : BitVec 64) W, Calls Try.prog g #[.int .u64 x.toNat, .int .u64 y.toNat] W fun e w' => e = .returned (.int .u64 (f x y).toNat) ∧ w' = W) :
    Calls Try.prog 77 #[.agg (encS s), .agg (encS t), .func (.func g) #[] #[]] w fun e w' => e = .returned (.agg (encS u)) ∧ Ext w w' := by
  have HG := Lib.hid hg
  have HU := Lib.hid hu
  clear hg hu
  go_enter Try.func77, Try.ntmps77
  go_wp2
  go_loopw [9, 8] (fun i _ wr => ∃ k : Nat, k ≤ 4 ∧ i = .int .i64 k ∧ Blk wr w.heap.size (encS s) 25 ∧ Blk wr (w.heap.size + 1) (encS t) 25 ∧ Blk wr (w.heap.size + 1 + 1 + 1) (eachTo u k) 25 ∧
     Blk wr (w.heap.size + 1 + 1) #[.int .u64 0, .int .u64 0, .int .u64 0, .int .u64 0] 25 ∧ Ext w wr)
     (fun i _ _ => 4 - (intOf i).toNat)
  case atStart =>
    refine ⟨0, by omega, rfl, ?_, ?_, ?_, ?_, (((((Ext.refl w).alloc _).alloc _).alloc _).alloc _)⟩ <;> (repeat (first | (refine (Blk.new _ _ _).at ?_; simp; done) | refine Blk.alloc ?_ _))
  case round =>
    obtain ⟨k, hk, rfl, hA, hB, hO, hR, hx⟩ := hrel
    by_cases hlt : k < 4
    · have ca := (hA.cell k).trans (encS_get s hlt)
      have cb := (hB.cell k).trans (encS_get t hlt)
      obtain ⟨z, hz⟩ := eachTo_get u (k := k) hlt
      have HA := Lib.hid hA
      have HB := Lib.hid hB
      have HO := Lib.hid hO
      have HR := Lib.hid hR
      have HX := Lib.hid hx
      have HF := Lib.hid (HU.out k hlt)
      clear hA hB hO hR hx
      go_wp2
      refine wp_region_lexK (fun b => b = w.heap.size ∨ b = w.heap.size + 1) (by kernel_rfl) (fun i => i == 8 || i == 10) (by kernel_rfl) ?_
      intro C hC hne W0 hK0 hblk hsz hx0
      have HX0 := Lib.hid hx0
      clear hx0
      have fa := lexCell hC (.inl rfl) ca
      have fb := lexCell hC (.inr rfl) cb
      have HO' := Lib.hid (HO.out.same (hblk _))
      have co := (HO'.out.cell k).trans hz
      have cf := HO'.out.frozen k
      have HC := Lib.hid hC
      have HBl := Lib.hid hblk
      have HK := Lib.hid hK0
      have HZ := Lib.hid hz
      clear hC ca cb hblk hK0 hz
      repeat (refine wpLex_step (fun K hK => ?_); refine lexOp_float rfl ?_; unfold floatAt; go_simp; refine hK _ _ ?_; clear hK K)
      refine wpLex_step (fun K hK => ?_)
      refine lexOp_eff rfl ?_
      go_simp
      refine effAt_call ((HG.out _ _ _).mono ?_)
      rintro e w' ⟨rfl, rfl⟩
      refine ⟨_, rfl, (HC.out _).2 HK.out, hK _ _ ?_⟩
      clear hK K
      repeat (refine wpLex_step (fun K hK => ?_); refine lexOp_float rfl ?_; unfold floatAt; go_simp; refine hK _ _ ?_; clear hK K)
      refine wpLex_step (fun K hK => ?_)
      refine lexOp_eff rfl ?_
      go_simp
      refine ⟨(HC.out _).2 (HK.out.setCell (by simp; omega) _), hK _ _ ?_⟩
      clear hK K
      refine wpLex_nil ?_
      go_wp2
      go_roundw
      case rel =>
        refine ⟨k + 1, by omega, by go_num, ?_, ?_, ?_, ?_, ?_⟩
        · exact (HA.out.same (HBl.out _)).other (by simp <;> omega) _
        · exact (HB.out.same (HBl.out _)).other (by simp <;> omega) _
        · rw [← eachTo_set u hlt, ← HF.out]; exact HO'.out.set k _
        · exact (HR.out.same (HBl.out _)).other (by simp <;> omega) _
        · exact Ext.setCell (HX.out.trans HX0.out) (by simp; omega) _
      case measure => simp [intOf]; omega
    · obtain rfl : k = 4 := by omega
      have c0 : wr.cell? ⟨w.heap.size + 1 + 1 + 1, 0, none⟩ = some (.int .u64 (wd u 0).toNat) := hO.cell 0
      have c1 : wr.cell? ⟨w.heap.size + 1 + 1 + 1, 1, none⟩ = some (.int .u64 (wd u 1).toNat) := hO.cell 1
      have c2 : wr.cell? ⟨w.heap.size + 1 + 1 + 1, 2, none⟩ = some (.int .u64 (wd u 2).toNat) := hO.cell 2
      have c3 : wr.cell? ⟨w.heap.size + 1 + 1 + 1, 3, none⟩ = some (.int .u64 (wd u 3).toNat) := hO.cell 3
      have r0 : wr.cell? ⟨w.heap.size + 1 + 1, 0, none⟩ = some (.int .u64 0) := hR.cell 0
      have r1 : wr.cell? ⟨w.heap.size + 1 + 1, 1, none⟩ = some (.int .u64 0) := hR.cell 1
      have r2 : wr.cell? ⟨w.heap.size + 1 + 1, 2, none⟩ = some (.int .u64 0) := hR.cell 2
      have r3 : wr.cell? ⟨w.heap.size + 1 + 1, 3, none⟩ = some (.int .u64 0) := hR.cell 3
      have rf := hR.frozen
      clear hO hA hB hR
      go_wp2
      refine bodyPost_ret (v := .agg (encS u)) ?_ rfl ⟨rfl, ?_⟩
      · simp [results, Try.results77, go_sem, r0, r1, r2, r3, encS]
      · exact (((hx.setCell (by simp; omega) _).setCell (by simp; omega) _).setCell (by simp; omega) _).setCell (by simp; omega) _
end Go.Proofs.Ytokkgbcjjaiaeaa
