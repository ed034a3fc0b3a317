/-
  Walks of package sets: Compare.
-/
import Derived.Test.YtokkgbcjjaiaeaaSets3
namespace Go.Proofs.Ytokkgbcjjaiaeaa
open Go Go.RowKit Go.Shelf
attribute [local go_sem] encS

/-- The order of sets: by the least byte that one of both has alone. -/
def compareOf (s t : BS) : Int := if (firstOf ((s &&& ~~~t) ||| (t &&& ~~~s))).2 then (if s.getLsbD (firstOf ((s &&& ~~~t) ||| (t &&& ~~~s))).1 then -1 else 1) else 0

theorem firstOf_lt (s : BS) : (firstOf s).1 < 256 := by
  unfold firstOf
  split
  · decide
  · rename_i c l h
    have : c ∈ bytesTo s 256 := by rw [h]; simp
    simp [bytesTo] at this
    exact this.1

set_option maxRecDepth 100000 in
set_option maxHeartbeats 1000000 in
theorem compare_any (s t : BS) (w : World) : Calls Try.prog 96 #[.agg (encS s), .agg (encS t)] w fun e w' => e = .returned (.int .i64 (compareOf s t)) ∧ Ext w w' := by
  have HL1 := Lib.hid fun W => less_any s t W
  have HL2 := Lib.hid fun W => less_any t s W
  have HO := Lib.hid fun W => or_any (s &&& ~~~t) (t &&& ~~~s) W
  have HF := Lib.hid fun W => first_any ((s &&& ~~~t) ||| (t &&& ~~~s)) W
  have hv : compareOf s t = if (firstOf ((s &&& ~~~t) ||| (t &&& ~~~s))).2 then (if s.getLsbD (firstOf ((s &&& ~~~t) ||| (t &&& ~~~s))).1 then -1 else 1) else 0 := rfl
  have hlt := firstOf_lt ((s &&& ~~~t) ||| (t &&& ~~~s))
  generalize compareOf s t = z at hv ⊢
  generalize firstOf ((s &&& ~~~t) ||| (t &&& ~~~s)) = fo at HF hv hlt
  obtain ⟨c, b⟩ := fo
  dsimp only at hv hlt
  generalize (s &&& ~~~t) ||| (t &&& ~~~s) = u3 at HO HF
  generalize (s &&& ~~~t) = u1 at HO HL1
  generalize (t &&& ~~~s) = u2 at HO HL2
  have HV := Lib.hid hv
  have HH := Lib.hid fun W => has_any s c hlt W
  clear hv
  go_enter Try.func96, Try.ntmps96
  go_wp2
  refine wp_region_lexK (fun b => b = w.heap.size ∨ b = w.heap.size + 1) (by kernel_rfl) (fun i => i == 2 || i == 5 || i == 6 || i == 7) (by kernel_rfl) ?_
  intro C hC hne W0 hK0 hblk hsz hx0
  have hA : Blk ((w.alloc (.cells (encS s) 25 (0, 0))).alloc (.cells (encS t) 25 (0, 0))) w.heap.size (encS s) 25 := (Blk.new w _ _).alloc _
  have hB : Blk ((w.alloc (.cells (encS s) 25 (0, 0))).alloc (.cells (encS t) 25 (0, 0))) (w.heap.size + 1) (encS t) 25 := (Blk.new _ _ _).at (by simp)
  obtain ⟨a0, a1, a2, a3⟩ := lexSet hC (.inl rfl) hA
  obtain ⟨b0, b1, b2, b3⟩ := lexSet hC (.inr rfl) hB
  have HC := Lib.hid hC
  have HK0 := Lib.hid hK0
  have HX0 := Lib.hid ((((Ext.refl w).alloc _).alloc _).trans hx0)
  have HA := Lib.hid (hA.same (hblk _))
  have HS : Hid (∀ k, (k = w.heap.size ∨ k = w.heap.size + 1) → k < ((w.alloc (.cells (encS s) 25 (0, 0))).alloc (.cells (encS t) 25 (0, 0))).heap.size) := fun k hk => by simp; omega
  clear hC hK0 hblk hsz hA hB hx0
  repeat (refine wpLex_step (fun K hK => ?_); refine lexOp_float rfl ?_; unfold floatAt; go_simp; refine hK _ _ ?_; clear hK K)
  refine wpLex_step (fun K hK => ?_)
  refine lexOp_eff rfl ?_
  go_simp
  refine effAt_call ((HL1.out _).mono ?_)
  rintro e w1 ⟨rfl, hx⟩
  have hk1 := Keeps.step HK0.out HS hx
  refine ⟨_, rfl, (HC.out _).2 hk1, hK _ _ ?_⟩
  have HK1 := Lib.hid hk1
  have HX1 := Lib.hid hx
  clear hK K hk1 hx
  repeat (refine wpLex_step (fun K hK => ?_); refine lexOp_float rfl ?_; unfold floatAt; go_simp; refine hK _ _ ?_; clear hK K)
  refine wpLex_step (fun K hK => ?_)
  refine lexOp_eff rfl ?_
  go_simp
  refine effAt_call ((HL2.out _).mono ?_)
  rintro e w2 ⟨rfl, hx⟩
  have hk2 := Keeps.step HK1.out HS hx
  refine ⟨_, rfl, (HC.out _).2 hk2, hK _ _ ?_⟩
  have HK2 := Lib.hid hk2
  have HX2 := Lib.hid hx
  clear hK K hk2 hx
  refine wpLex_step (fun K hK => ?_)
  refine lexOp_eff rfl ?_
  go_simp
  refine effAt_call ((HO.out _).mono ?_)
  rintro e w3 ⟨rfl, hx⟩
  have hk3 := Keeps.step HK2.out HS hx
  refine ⟨_, rfl, (HC.out _).2 hk3, hK _ _ ?_⟩
  have HK3 := Lib.hid hk3
  have HX3 := Lib.hid hx
  clear hK K hk3 hx
  refine wpLex_step (fun K hK => ?_)
  refine lexOp_eff rfl ?_
  go_simp
  refine effAt_call ((HF.out _).mono ?_)
  rintro e w4 ⟨rfl, hx⟩
  have hk4 := Keeps.step HK3.out HS hx
  refine ⟨_, rfl, (HC.out _).2 hk4, hK _ _ ?_⟩
  have HK4 := Lib.hid hk4
  have HX4 := Lib.hid hx
  clear hK K hk4 hx
  repeat (refine wpLex_step (fun K hK => ?_); refine lexOp_float rfl ?_; unfold floatAt; go_simp; refine hK _ _ ?_; clear hK K)
  refine wpLex_nil ?_
  have HX5 := Lib.hid ((((HX0.out.trans HX1.out).trans HX2.out).trans HX3.out).trans HX4.out)
  have HA4 := Lib.hid (HA.out.ext ((((HX1.out.trans HX2.out).trans HX3.out).trans HX4.out)))
  clear a0 a1 a2 a3 b0 b1 b2 b3 HK0 HK1 HK2 HK3 HK4 HC HS HX0 HX1 HX2 HX3 HX4 HL1 HL2 HO HF HA
  cases b with
  | false =>
    go_wp2
    go_ret
    exact ⟨congrArg (fun z => Ending.returned (.int .i64 z)) HV.out.symm, HX5.out⟩
  | true =>
    obtain ⟨a0, a1, a2, a3⟩ := HA4.out.set4
    by_cases hb : s.getLsbD c = true
    · have H1 : Hid (∀ W, Calls Try.prog 20 #[.agg (encS s), .int .u8 c] W fun e w' => e = .returned (.bool true) ∧ Ext W w') := fun W => by have := HH.out W; rwa [hb] at this
      have HV' := Lib.hid (show z = -1 from by have := HV.out; simpa [hb] using this)
      clear hb HV
      go_wp2_with (go_at_call 20; refine (H1.out _).mono ?_; rintro e w5 ⟨rfl, hx⟩; have HX6 := Lib.hid hx; clear hx)
      go_ret
      exact ⟨congrArg (fun z => Ending.returned (.int .i64 z)) HV'.out.symm, HX5.out.trans HX6.out⟩
    · have hb' : s.getLsbD c = false := by simpa using hb
      have H1 : Hid (∀ W, Calls Try.prog 20 #[.agg (encS s), .int .u8 c] W fun e w' => e = .returned (.bool false) ∧ Ext W w') := fun W => by have := HH.out W; rwa [hb'] at this
      have HV' := Lib.hid (show z = 1 from by have := HV.out; simpa [hb'] using this)
      clear hb hb' HV
      go_wp2_with (go_at_call 20; refine (H1.out _).mono ?_; rintro e w5 ⟨rfl, hx⟩; have HX6 := Lib.hid hx; clear hx)
      go_ret
      exact ⟨congrArg (fun z => Ending.returned (.int .i64 z)) HV'.out.symm, HX5.out.trans HX6.out⟩
end Go.Proofs.Ytokkgbcjjaiaeaa
