/-
  ProductMakes returns true for any two automata, any operation and any fuel, where what it reads is of bulk at most 1048576; the arguments read behind the call as they did. No other condition.
-/
import Derived.Test.YtiegfnmpknmbmaaGreatRows
import Derived.Test.YtiegfnmpknmbmaaGreatK31
import Derived.Test.YtiegfnmpknmbmaaGreatK53
namespace Go.Proofs.YtiegfnmpknmbmaaGreat
open Go Go.ChangeShapes Go.WideShapes Go.ChangeAt Go.RowKit

set_option maxRecDepth 100000 in
theorem pmakes_lifted (os : Os) (started : os.Started) (H : Type) (enc : TypeId × Value → H) (F : Stop.Interp) :
    ReturnsInHanded {} Tryz.checked os 3 .any ((Rows.OpenSpec.upto Rows.productMakesSpec).pre6 enc Tryz.prog Tryz.f3 Rows.productMakesUptoRow.domain false) (((Rows.OpenSpec.upto Rows.productMakesSpec).at F).post enc Tryz.prog Tryz.f3 false true false false) := by
  refine returnsInHanded_of_cond (C := Tryz.checked) (s := Rows.OpenSpec.upto Rows.productMakesSpec) (k := Rows.uptoSmall) rfl Tryz.own started (by kernel_rfl) Tryz.func3
    (OpenSpec.witness (enc := enc) (C := Tryz.checked) (s := Rows.OpenSpec.upto Rows.productMakesSpec) (k := Rows.uptoSmall) rfl false ⟨#[], #[.agg #[.slice none 0 0, .slice none 0 0, .slice none 0 0], .agg #[.slice none 0 0, .slice none 0 0, .slice none 0 0], .int .u8 0, .int .i64 0], []⟩ 8 (by kernel_rfl) (by kernel_rfl) (by kernel_rfl)
      (x := ([.agg [.nil, .nil, .nil], .agg [.nil, .nil, .nil], .lit (.int .u8 0), .lit (.int .i64 0)], [], [])) (by kernel_rfl) rfl (by kernel_rfl)) ?_
  intro W base args ds gs before hval0 hW _ hk _
  have hval : ∀ (j : Nat) t v, Tryz.f3.params[j]? = some t → args[j]? = some v → Value.okWide Tryz.prog W .any base t v := hval0
  have hW' := hW
  obtain ⟨p, q, hA0, hV, rfl, hfz, hnd⟩ := hW
  have hA : DataW.TrodAll enc Tryz.prog W 0 (fun _ => true) true Tryz.f3.params.toList args.toList ds p := hA0
  rw [Tryz.params3] at hA hval
  obtain ⟨v0, v1, v2, v3, d0, d1, d2, d3, p0, p1, p2, p3, rfl, rfl, rfl, h0, h1, h2, h3⟩ := trodAll_four hA
  have hbulk : Rows.uptoBulkAll _ ≤ 1048576 := of_decide_eq_true hk
  obtain ⟨l0, s0, g0⟩ := open_dfa (hval 0 _ v0 rfl rfl) h0 (Nat.le_trans (bulk_mem (by simp)) hbulk)
  obtain ⟨l1, s1, g1⟩ := open_dfa (hval 1 _ v1 rfl rfl) h1 (Nat.le_trans (bulk_mem (by simp)) hbulk)
  obtain ⟨z2, rfl, _, _, y2⟩ := open_int Tryz.underlying26 (hval 2 _ v2 rfl rfl) h2
  obtain ⟨x2, rfl⟩ : ∃ x : Nat, z2 = x := ⟨z2.toNat, (Int.toNat_of_nonneg (u8_of_wf y2).1).symm⟩
  have r2 : x2 < 256 := by have := (u8_of_wf y2).2; omega
  obtain ⟨x3, rfl, _, _, r3⟩ := open_int Tryz.underlying3 (hval 3 _ v3 rfl rfl) h3
  refine (productMakes_any v0 v1 l0 l1 g0 g1 x2 r2 x3 W s0 s1).mono fun e W' ⟨he, hw⟩ => ⟨_, he, ?_⟩
  exact law_post (s := Rows.productMakesSpec) Tryz.laidOut rfl (by rw [Tryz.params3]; exact of_decide_eq_true (by kernel_rfl)) rfl Tryz.underlying4 rfl hW' hw

theorem pmakes_holds : Rows.ProductMakesUptoSaid :=
  OpenClaim.holds_of_cond 3 Tryz.f3 rfl rfl rfl rfl rfl rfl rfl ⟨rfl, rfl, rfl, rfl, rfl⟩ rfl rfl rfl rfl rfl (by kernel_rfl) Tryz.func3 (by kernel_rfl)
    (of_decide_eq_true (by kernel_rfl)) (by unfold Func.isWrapper; first | (rw [if_pos (by decide +kernel)]; kernel_rfl) | (rw [if_neg (by decide +kernel)]; exact ⟨rfl, rfl⟩))
    (fun os started H enc _ F => pmakes_lifted os started H enc F)
end Go.Proofs.YtiegfnmpknmbmaaGreat
