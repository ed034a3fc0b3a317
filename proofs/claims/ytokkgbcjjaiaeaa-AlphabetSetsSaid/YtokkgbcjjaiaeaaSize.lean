/-
  The number of a set's bytes.
-/
import Derived.Test.YtokkgbcjjaiaeaaSets
namespace Go.Proofs.Ytokkgbcjjaiaeaa
open Go Go.RowKit Go.Shelf Go.Maps
attribute [local go_sem] encS Oper.semAt_some wide_fn wide_depth

theorem bytesTo_len (s : BS) : ∀ n, (bytesTo s n).length ≤ n
  | 0 => by simp [bytesTo]
  | n + 1 => by
    rw [bytesTo_succ, List.length_append]
    have := bytesTo_len s n
    split <;> simp <;> omega

set_option maxRecDepth 100000 in
set_option maxHeartbeats 1000000 in
theorem size_any (s : BS) (w : World) : Calls Try.prog 57 #[.agg (encS s)] w fun e w' => e = .returned (.int .i64 (bytesTo s 256).length) ∧ Ext w w' := by
  have h256 := bytesTo_len s 256
  refine calls_of_wp_marks Try.func57 rfl ?_
  simp only [Try.ntmps57, List.size_toArray, List.length_cons, List.length_nil, Nat.reduceAdd, Nat.reduceSub, Array.replicate_succ, Array.replicate_zero, List.push_toArray, List.append_toArray, List.nil_append, List.cons_append]
  have hB0 : Blk ((w.alloc (.cells (encS s) 25)).alloc (.cells #[.int .i64 0] 3)) w.heap.size (encS s) 25 := (Blk.new w (encS s) 25).alloc _
  have c0 := hB0.cell 0
  have c1 := hB0.cell 1
  have c2 := hB0.cell 2
  have c3 := hB0.cell 3
  replace c0 : _ = some (Value.int .u64 (wd s 0).toNat) := c0
  replace c1 : _ = some (Value.int .u64 (wd s 1).toNat) := c1
  replace c2 : _ = some (Value.int .u64 (wd s 2).toNat) := c2
  replace c3 : _ = some (Value.int .u64 (wd s 3).toNat) := c3
  clear hB0
  go_wp2_with (go_at_call 76; refine (all_call s _).mono ?_; rintro e w1 ⟨rfl, rfl⟩)
  clear c0 c1 c2 c3
  refine wp_named ?_
  intro W0 hW0
  have h1 : Blk W0 (w.heap.size + 1) #[.int .i64 0] 3 := by rw [hW0]; repeat (first | (refine (Blk.new _ _ _).at ?_; simp; done) | refine Blk.alloc ?_ _)
  have h3 : Blk W0 (w.heap.size + 1 + 1) (encS s) 25 := by rw [hW0]; exact (Blk.new _ _ _).at (by simp)
  have hx : Ext w W0 := by rw [hW0]; exact (((Ext.refl w).alloc _).alloc _).alloc _
  have hsz : W0.heap.size = w.heap.size + 1 + 1 + 1 := by rw [hW0]; simp
  have eg : ∀ args w, (callFunc 97 args).run Try.prog w = .ok (.enter 97 args) w := enters_of Try.func97 (by kernel_rfl) rfl
  refine wp_range1 (w := W0) (all_seq s _ W0 h3) (by rfl) eg (by intro _; rfl) (by intro k hk; rw [show k = _ from hk, hsz]; omega)
    (fun xs _ W => Blk W (w.heap.size + 1) #[.int .i64 xs.length] 3 ∧ Ext w W)
    (fun _ _ _ _ => False)
    (fun xs T T' W W' ⟨h1, h3⟩ hT _ _ _ hk => ⟨h1.stab hT hk (by omega), h3.stab hT hk (by omega)⟩)
    (fun c xs T T' W W' h => h.elim)
    ⟨h1, hx⟩
    (fun x => ⟨#[.agg (encS s), .pointer (some ⟨w.heap.size, 0, none⟩), .int .i64 0, .pointer (some ⟨w.heap.size + 1, 0, none⟩), .agg (encS s), .func (.func 97) #[] #[.pointer (some ⟨w.heap.size + 1 + 1, 0, none⟩)], .int .u8 x, undef, undef, undef], []⟩) ?assign ?body ?done ?stop
  case assign =>
    intro l x W K hK
    gi_wp2
    simpa [encS] using hK
  case body =>
    rintro l pre x T W hpre hT hR hTl hl ⟨h1, hx⟩
    have hlen : pre.length < 256 := by
      have hle := hpre.length_le
      rw [List.length_append] at hle
      simp only [List.length_cons, List.length_nil] at hle
      omega
    have c1 : W.cell? ⟨w.heap.size + 1, 0, none⟩ = some (.int .i64 pre.length) := h1.cell 0
    have f1 := h1.frozen 0
    have e1 : IntKind.i64.wrap ((pre.length : Int) + 1) = (pre.length : Int) + 1 := IntWalk.i64_in _ (by omega)
    have H1 := Lib.hid h1
    have HX := Lib.hid hx
    have HS := Lib.hid hsz
    have HT := Lib.hid hT
    clear h1 hx hR hl hTl hsz hW0 hT
    gi_wp2
    refine ⟨((Keeps.refl _ _).setCell (fun h => ?_) _), (by rw [show ((pre ++ [x]).length : Int) = (pre.length : Int) + 1 by rw [List.length_append]; rfl]; exact H1.out.set 0 _), (HX.out.setCell (by simp <;> omega) _)⟩
    have h2 := HS.out
    rcases h with h | h
    · dsimp only at h; omega
    · have h1 := (HT.out _ h).1; dsimp only at h1; omega
  case done =>
    rintro D T W hD hTD hT ⟨h1, hx⟩ hDD
    have c1 : W.cell? ⟨w.heap.size + 1, 0, none⟩ = some (.int .i64 (bytesTo s 256).length) := h1.cell 0
    have HX := Lib.hid hx
    have HS := Lib.hid hsz
    have HD := Lib.hid hD
    have HDD := Lib.hid hDD
    clear h1 hx hTD hsz hW0 hT hDD hD
    dsimp only
    go_wp2
    refine markPost_ret rfl HDD.out (results_tmp rfl _ _ _) ⟨rfl, HX.out.putObj (by have h1 := HD.out; have h2 := HS.out; omega) _⟩
  case stop => rintro D c pre T W _ _ _ _ h _; exact h.elim
end Go.Proofs.Ytokkgbcjjaiaeaa
