/-
  ProductTells returns true for any automaton and any two numbers; the arguments read behind the call as they did. No condition.
-/
import Derived.Test.YtiegfnmpknmbmaaGreatRows
import Derived.Test.YtiegfnmpknmbmaaGreatK31
import Derived.Test.YtiegfnmpknmbmaaGreatK53
namespace Go.Proofs.YtiegfnmpknmbmaaGreat
open Go Go.ChangeShapes Go.WideShapes Go.ChangeAt Go.RowKit

set_option maxRecDepth 100000 in
theorem ptellss_lifted (os : Os) (started : os.Started) (H : Type) (enc : TypeId × Value → H) :
    ReturnsInHanded {} Tryz.checked os 4 .any (Rows.productTellsSpec.pre6 enc Tryz.prog Tryz.f4 Rows.productTellsRow.domain false) (Rows.productTellsSpec.post enc Tryz.prog Tryz.f4 false true false false) := by
  refine returnsInHanded_of_change_sized (C := Tryz.checked) Tryz.own started (by kernel_rfl) Tryz.func4
    (ChangeSpec.witness6 (enc := enc) (C := Tryz.checked) false ⟨#[], #[.agg #[.slice none 0 0, .slice none 0 0, .slice none 0 0], .int .i64 0, .int .i64 0], []⟩ 8 (by kernel_rfl) (by kernel_rfl) (by kernel_rfl) (by kernel_rfl)) ?_
  intro W base args ds gs before hval0 hW hcnd hsz _
  have hval : ∀ (j : Nat) t v, Tryz.f4.params[j]? = some t → args[j]? = some v → Value.okWide Tryz.prog W .any base t v := hval0
  have hW' := hW
  obtain ⟨p, q, hA0, hV, rfl, hfz, hnd⟩ := hW
  have hA : DataW.TrodAll enc Tryz.prog W 0 (fun _ => true) true Tryz.f4.params.toList args.toList ds p := hA0
  have hsz0 : (DataW.weightsEach Tryz.prog (Tryz.f4.params.toList ++ Rows.productTellsSpec.plain.varTypes Tryz.prog) (ds ++ gs)).all (· ≤ reachBytes) = true := hsz
  clear hsz
  have hsz := hsz0
  rw [Tryz.params4] at hA hval hsz
  obtain ⟨v0, v1, v2, d0, d1, d2, p0, p1, p2, rfl, rfl, rfl, h0, h1, h2⟩ := trodAll_three hA
  obtain ⟨l0, s0, g0⟩ := open_dfaS (hval 0 _ v0 rfl rfl) h0 (sized_arg hsz (j := 0) rfl rfl)
  obtain ⟨x1, rfl, _, _, r1⟩ := open_int Tryz.underlying3 (hval 1 _ v1 rfl rfl) h1
  obtain ⟨x2, rfl, _, _, r2⟩ := open_int Tryz.underlying3 (hval 2 _ v2 rfl rfl) h2
  refine (productTells_any v0 l0 g0 x1 x2 W s0).mono fun e W' ⟨he, hw⟩ => ⟨_, he, ?_⟩
  exact law_post (s := Rows.productTellsSpec) Tryz.laidOut rfl (by rw [Tryz.params4]; exact of_decide_eq_true (by kernel_rfl)) rfl Tryz.underlying4 rfl hW' hw

theorem ptellss_holds : Rows.ProductTellsSaid :=
  OpenClaim.holds_of_wide 4 Tryz.f4 rfl rfl rfl rfl rfl rfl rfl ⟨rfl, rfl, rfl, rfl, rfl⟩ rfl rfl rfl rfl rfl (by kernel_rfl) Tryz.func4 (by kernel_rfl)
    (of_decide_eq_true (by kernel_rfl)) (by unfold Func.isWrapper; first | (rw [if_pos (by decide +kernel)]; kernel_rfl) | (rw [if_neg (by decide +kernel)]; exact ⟨rfl, rfl⟩))
    (fun os started H enc _ => ptellss_lifted os started H enc)
end Go.Proofs.YtiegfnmpknmbmaaGreat
