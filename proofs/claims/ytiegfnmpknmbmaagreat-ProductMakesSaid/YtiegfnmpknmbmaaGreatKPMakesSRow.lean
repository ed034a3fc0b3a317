/-
  ProductMakes returns true for any two automata, any operation and any fuel; the arguments read behind the call as they did. No condition.
-/
import Derived.Test.YtiegfnmpknmbmaaGreatRows
import Derived.Test.YtiegfnmpknmbmaaGreatK31
import Derived.Test.YtiegfnmpknmbmaaGreatK53
namespace Go.Proofs.YtiegfnmpknmbmaaGreat
open Go Go.ChangeShapes Go.WideShapes Go.ChangeAt Go.RowKit

set_option maxRecDepth 100000 in
theorem pmakess_lifted (os : Os) (started : os.Started) (H : Type) (enc : TypeId × Value → H) :
    ReturnsInHanded {} Tryz.checked os 3 .any (Rows.productMakesSpec.pre6 enc Tryz.prog Tryz.f3 Rows.productMakesRow.domain false) (Rows.productMakesSpec.post enc Tryz.prog Tryz.f3 false true false false) := by
  refine returnsInHanded_of_change_sized (C := Tryz.checked) Tryz.own started (by kernel_rfl) Tryz.func3
    (ChangeSpec.witness6 (enc := enc) (C := Tryz.checked) false ⟨#[], #[.agg #[.slice none 0 0, .slice none 0 0, .slice none 0 0], .agg #[.slice none 0 0, .slice none 0 0, .slice none 0 0], .int .u8 0, .int .i64 0], []⟩ 8 (by kernel_rfl) (by kernel_rfl) (by kernel_rfl) (by kernel_rfl)) ?_
  intro W base args ds gs before hval0 hW hcnd hsz _
  have hval : ∀ (j : Nat) t v, Tryz.f3.params[j]? = some t → args[j]? = some v → Value.okWide Tryz.prog W .any base t v := hval0
  have hW' := hW
  obtain ⟨p, q, hA0, hV, rfl, hfz, hnd⟩ := hW
  have hA : DataW.TrodAll enc Tryz.prog W 0 (fun _ => true) true Tryz.f3.params.toList args.toList ds p := hA0
  have hsz0 : (DataW.weightsEach Tryz.prog (Tryz.f3.params.toList ++ Rows.productMakesSpec.plain.varTypes Tryz.prog) (ds ++ gs)).all (· ≤ reachBytes) = true := hsz
  clear hsz
  have hsz := hsz0
  rw [Tryz.params3] at hA hval hsz
  obtain ⟨v0, v1, v2, v3, d0, d1, d2, d3, p0, p1, p2, p3, rfl, rfl, rfl, h0, h1, h2, h3⟩ := trodAll_four hA
  obtain ⟨l0, s0, g0⟩ := open_dfaS (hval 0 _ v0 rfl rfl) h0 (sized_arg hsz (j := 0) rfl rfl)
  obtain ⟨l1, s1, g1⟩ := open_dfaS (hval 1 _ v1 rfl rfl) h1 (sized_arg hsz (j := 1) rfl rfl)
  obtain ⟨z2, rfl, _, _, y2⟩ := open_int Tryz.underlying26 (hval 2 _ v2 rfl rfl) h2
  obtain ⟨x2, rfl⟩ : ∃ x : Nat, z2 = x := ⟨z2.toNat, (Int.toNat_of_nonneg (u8_of_wf y2).1).symm⟩
  have r2 : x2 < 256 := by have := (u8_of_wf y2).2; omega
  obtain ⟨x3, rfl, _, _, r3⟩ := open_int Tryz.underlying3 (hval 3 _ v3 rfl rfl) h3
  refine (productMakes_any v0 v1 l0 l1 g0 g1 x2 r2 x3 W s0 s1).mono fun e W' ⟨he, hw⟩ => ⟨_, he, ?_⟩
  exact law_post (s := Rows.productMakesSpec) Tryz.laidOut rfl (by rw [Tryz.params3]; exact of_decide_eq_true (by kernel_rfl)) rfl Tryz.underlying4 rfl hW' hw

theorem pmakess_holds : Rows.ProductMakesSaid :=
  OpenClaim.holds_of_wide 3 Tryz.f3 rfl rfl rfl rfl rfl rfl rfl ⟨rfl, rfl, rfl, rfl, rfl⟩ rfl rfl rfl rfl rfl (by kernel_rfl) Tryz.func3 (by kernel_rfl)
    (of_decide_eq_true (by kernel_rfl)) (by unfold Func.isWrapper; first | (rw [if_pos (by decide +kernel)]; kernel_rfl) | (rw [if_neg (by decide +kernel)]; exact ⟨rfl, rfl⟩))
    (fun os started H enc _ => pmakess_lifted os started H enc)
end Go.Proofs.YtiegfnmpknmbmaaGreat
