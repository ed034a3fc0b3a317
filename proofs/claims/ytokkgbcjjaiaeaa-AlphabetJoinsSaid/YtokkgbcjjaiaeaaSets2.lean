/-
  Walks of package sets: Or, And, Less, Not, All, Within, Meets.
-/
import Derived.Test.YtokkgbcjjaiaeaaSets1
namespace Go.Proofs.Ytokkgbcjjaiaeaa
open Go Go.RowKit Go.Shelf
attribute [local go_sem] encS

set_option maxHeartbeats 400000 in
theorem or_any (s t : BS) (w : World) : Calls Try.prog 40 #[.agg (encS s), .agg (encS t)] w fun e w' => e = .returned (.agg (encS (s ||| t))) ∧ Ext w w' := by
  have eg : ∀ args w, (callFunc 78 args).run Try.prog w = .ok (.enter 78 args) w := enters_of Try.func78 (by kernel_rfl) rfl
  have H := Lib.hid fun W => each_any s t (s ||| t) (· ||| ·) 78 W (fun i _ => (wd_or s t i).symm) eg orW_any
  clear eg
  obtain ⟨u, hu⟩ : ∃ u, u = s ||| t := ⟨_, rfl⟩
  rw [← hu] at H ⊢
  clear hu
  go_enter Try.func40, Try.ntmps40
  go_wp2_with (go_at_call 77; refine (H.out _).mono ?_; rintro e w1 ⟨rfl, hx⟩; have HX := Lib.hid hx; obtain ⟨hc, hf⟩ := hx.cells; clear hx)
  refine bodyPost_ret (v := .agg (encS u)) ?_ rfl ⟨rfl, ?_⟩
  · simp [results, Try.results40, go_sem, hc]
  · exact (((((((Ext.refl w).alloc _).alloc _).alloc _).trans HX.out).setCell (by simp <;> omega) _ |>.setCell (by simp <;> omega) _).setCell (by simp <;> omega) _).setCell (by simp <;> omega) _

set_option maxHeartbeats 400000 in
theorem and_any (s t : BS) (w : World) : Calls Try.prog 52 #[.agg (encS s), .agg (encS t)] w fun e w' => e = .returned (.agg (encS (s &&& t))) ∧ Ext w w' := by
  have eg : ∀ args w, (callFunc 84 args).run Try.prog w = .ok (.enter 84 args) w := enters_of Try.func84 (by kernel_rfl) rfl
  have H := Lib.hid fun W => each_any s t (s &&& t) (· &&& ·) 84 W (fun i _ => (wd_and s t i).symm) eg andW_any
  clear eg
  obtain ⟨u, hu⟩ : ∃ u, u = s &&& t := ⟨_, rfl⟩
  rw [← hu] at H ⊢
  clear hu
  go_enter Try.func52, Try.ntmps52
  go_wp2_with (go_at_call 77; refine (H.out _).mono ?_; rintro e w1 ⟨rfl, hx⟩; have HX := Lib.hid hx; obtain ⟨hc, hf⟩ := hx.cells; clear hx)
  refine bodyPost_ret (v := .agg (encS u)) ?_ rfl ⟨rfl, ?_⟩
  · simp [results, Try.results52, go_sem, hc]
  · exact (((((((Ext.refl w).alloc _).alloc _).alloc _).trans HX.out).setCell (by simp <;> omega) _ |>.setCell (by simp <;> omega) _).setCell (by simp <;> omega) _).setCell (by simp <;> omega) _

set_option maxHeartbeats 400000 in
theorem less_any (s t : BS) (w : World) : Calls Try.prog 55 #[.agg (encS s), .agg (encS t)] w fun e w' => e = .returned (.agg (encS (s &&& ~~~t))) ∧ Ext w w' := by
  have eg : ∀ args w, (callFunc 87 args).run Try.prog w = .ok (.enter 87 args) w := enters_of Try.func87 (by kernel_rfl) rfl
  have H := Lib.hid fun W => each_any s t (s &&& ~~~t) (fun x y => x &&& ~~~y) 87 W (fun i hi => by rw [wd_and, wd_not t hi]) eg lessW_any
  clear eg
  obtain ⟨u, hu⟩ : ∃ u, u = s &&& ~~~t := ⟨_, rfl⟩
  rw [← hu] at H ⊢
  clear hu
  go_enter Try.func55, Try.ntmps55
  go_wp2_with (go_at_call 77; refine (H.out _).mono ?_; rintro e w1 ⟨rfl, hx⟩; have HX := Lib.hid hx; obtain ⟨hc, hf⟩ := hx.cells; clear hx)
  refine bodyPost_ret (v := .agg (encS u)) ?_ rfl ⟨rfl, ?_⟩
  · simp [results, Try.results55, go_sem, hc]
  · exact (((((((Ext.refl w).alloc _).alloc _).alloc _).trans HX.out).setCell (by simp <;> omega) _ |>.setCell (by simp <;> omega) _).setCell (by simp <;> omega) _).setCell (by simp <;> omega) _

set_option maxHeartbeats 400000 in
theorem not_any (s : BS) (w : World) : Calls Try.prog 53 #[.agg (encS s)] w fun e w' => e = .returned (.agg (encS (~~~s))) ∧ Ext w w' := by
  have eg : ∀ args w, (callFunc 85 args).run Try.prog w = .ok (.enter 85 args) w := enters_of Try.func85 (by kernel_rfl) rfl
  have H := Lib.hid fun W => each_any s s (~~~s) (fun x _ => ~~~x) 85 W (fun i hi => by rw [wd_not s hi]) eg notW_any
  clear eg
  obtain ⟨u, hu⟩ : ∃ u, u = ~~~s := ⟨_, rfl⟩
  rw [← hu] at H ⊢
  clear hu
  go_enter Try.func53, Try.ntmps53
  go_wp2_with (go_at_call 77; refine (H.out _).mono ?_; rintro e w1 ⟨rfl, hx⟩; have HX := Lib.hid hx; obtain ⟨hc, hf⟩ := hx.cells; clear hx)
  refine bodyPost_ret (v := .agg (encS u)) ?_ rfl ⟨rfl, ?_⟩
  · simp [results, Try.results53, go_sem, hc]
  · exact ((((((Ext.refl w).alloc _).alloc _).trans HX.out).setCell (by simp <;> omega) _ |>.setCell (by simp <;> omega) _).setCell (by simp <;> omega) _).setCell (by simp <;> omega) _

theorem encS_zero : encS 0 = #[.int .u64 0, .int .u64 0, .int .u64 0, .int .u64 0] := rfl

theorem set_equal (s t : BS) (w : World) : (Op.equalIn 10000 25 (.agg (encS s)) (.agg (encS t))).run Try.prog w = .ok (s == t) w := by
  rw [← encS_beq]
  exact run_equalIn_array w 9998 (encS s) (encS t) (fun i => (wd s i).toNat) (fun i => (wd t i).toNat) Try.underlying25 Try.underlying23 Try.isAgg23 Try.sizeOf23 (fun i hi => encS_get s hi) (fun i hi => encS_get t hi)

set_option maxHeartbeats 400000 in
theorem all_any (w : World) : Calls Try.prog 43 #[] w fun e w' => e = .returned (.agg (encS (~~~(0 : BS)))) ∧ Ext w w' := by
  have H := Lib.hid fun W => not_any 0 W
  obtain ⟨u, hu⟩ : ∃ u, u = ~~~(0 : BS) := ⟨_, rfl⟩
  rw [← hu] at H ⊢
  clear hu
  rw [encS_zero] at H
  go_enter Try.func43, Try.ntmps43
  go_wp2_with (go_at_call 53; refine (H.out _).mono ?_; rintro e w1 ⟨rfl, hx⟩; have HX := Lib.hid hx; obtain ⟨hc, hf⟩ := hx.cells; clear hx)
  refine bodyPost_ret (v := .agg (encS u)) ?_ rfl ⟨rfl, ?_⟩
  · simp [results, Try.results43, go_sem, hc]
  · exact (((((Ext.refl w).alloc _).trans HX.out).setCell (by simp <;> omega) _ |>.setCell (by simp <;> omega) _).setCell (by simp <;> omega) _).setCell (by simp <;> omega) _

set_option maxHeartbeats 400000 in
theorem within_any (s t : BS) (w : World) : Calls Try.prog 42 #[.agg (encS s), .agg (encS t)] w fun e w' => e = .returned (.bool (s &&& ~~~t == 0)) ∧ Ext w w' := by
  have H := Lib.hid fun W => less_any s t W
  obtain ⟨u, hu⟩ : ∃ u, u = s &&& ~~~t := ⟨_, rfl⟩
  rw [← hu] at H ⊢
  clear hu
  have he := fun W => set_equal u 0 W
  rw [encS_zero] at he
  simp only [encS] at he
  go_enter Try.func42, Try.ntmps42
  go_wp2_with (go_at_call 55; refine (H.out _).mono ?_; rintro e w1 ⟨rfl, hx⟩; have HX := Lib.hid hx; obtain ⟨hc, hf⟩ := hx.cells; clear hx)
  go_ret
  exact ⟨rfl, (((Ext.refl w).alloc _).alloc _).trans HX.out⟩

set_option maxHeartbeats 400000 in
theorem meets_any (s t : BS) (w : World) : Calls Try.prog 39 #[.agg (encS s), .agg (encS t)] w fun e w' => e = .returned (.bool (!(s &&& t == 0))) ∧ Ext w w' := by
  have H := Lib.hid fun W => and_any s t W
  obtain ⟨u, hu⟩ : ∃ u, u = s &&& t := ⟨_, rfl⟩
  rw [← hu] at H ⊢
  clear hu
  have he := fun W => set_equal u 0 W
  rw [encS_zero] at he
  simp only [encS] at he
  go_enter Try.func39, Try.ntmps39
  go_wp2_with (go_at_call 52; refine (H.out _).mono ?_; rintro e w1 ⟨rfl, hx⟩; have HX := Lib.hid hx; obtain ⟨hc, hf⟩ := hx.cells; clear hx)
  go_ret
  exact ⟨rfl, (((Ext.refl w).alloc _).alloc _).trans HX.out⟩
end Go.Proofs.Ytokkgbcjjaiaeaa
