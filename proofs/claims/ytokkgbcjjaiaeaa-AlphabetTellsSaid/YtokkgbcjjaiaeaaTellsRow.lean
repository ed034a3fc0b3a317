/-
  AlphabetTells returns true for every list of sets, any set, any numbers and any bytes; the arguments read behind the call as they did. No condition.
-/
import Derived.Test.YtokkgbcjjaiaeaaRows
import Derived.Test.YtokkgbcjjaiaeaaOpen2
import Derived.Test.YtokkgbcjjaiaeaaTells1
namespace Go.Proofs.Ytokkgbcjjaiaeaa
open Go Go.ChangeShapes Go.WideShapes Go.ChangeAt Go.RowKit

set_option maxRecDepth 100000 in
theorem tells_lifted (os : Os) (started : os.Started) (H : Type) (enc : TypeId × Value → H) :
    ReturnsInHanded {} Try.checked os 3 .any (Rows.alphabetTellsSpec.pre6 enc Try.prog Try.f3 Rows.alphabetTellsRow.domain false) (Rows.alphabetTellsSpec.post enc Try.prog Try.f3 false true false false) := by
  refine returnsInHanded_of_change (C := Try.checked) Try.own started (by kernel_rfl) Try.func3
    (ChangeSpec.witness6 (enc := enc) (C := Try.checked) false ⟨#[], #[.slice none 0 0, .agg #[.int .u64 0, .int .u64 0, .int .u64 0, .int .u64 0], .slice none 0 0, .slice none 0 0], []⟩ 8 (by kernel_rfl) (by kernel_rfl) (by kernel_rfl) (by kernel_rfl)) ?_
  intro W base args ds gs before hval0 hW hcnd _
  have hval : ∀ (j : Nat) t v, Try.f3.params[j]? = some t → args[j]? = some v → Value.okWide Try.prog W .any base t v := hval0
  have hW' := hW
  obtain ⟨p, q, hA0, hV, rfl, hfz, hnd⟩ := hW
  have hA : DataW.TrodAll enc Try.prog W 0 (fun _ => true) true Try.f3.params.toList args.toList ds p := hA0
  rw [Try.params3] at hA hval
  obtain ⟨v0, v1, v2, v3, d0, d1, d2, d3, p0, p1, p2, p3, rfl, rfl, rfl, h0, h1, h2, h3⟩ := trodAll_four hA
  obtain ⟨l0, m0, s0⟩ := open_setsC (hval 0 _ v0 rfl rfl) h0
  have n0 : l0.length ≤ 9223372036854775807 := by unfold maxLen at m0; exact m0
  obtain ⟨x1, rfl⟩ := open_setV (hval 1 _ v1 rfl rfl) h1
  obtain ⟨l2, m2, b2, s2⟩ := open_intsZ (hval 2 _ v2 rfl rfl) h2
  have n2 : l2.length ≤ 9223372036854775807 := by unfold maxLen at m2; exact m2
  obtain ⟨l3, m3, b3, s3⟩ := open_bytesB (hval 3 _ v3 rfl rfl) h3
  have n3 : l3.length ≤ 9223372036854775807 := by unfold maxLen at m3; exact m3
  refine (alphabetTells_any v0 v2 v3 l0 x1 l2 l3 W s0 s2 s3 b3 n0 n2 n3).mono fun e W' ⟨he, hw⟩ => ⟨_, he, ?_⟩
  exact law_post (s := Rows.alphabetTellsSpec) Try.laidOut rfl (by rw [Try.params3]; exact of_decide_eq_true (by kernel_rfl)) rfl Try.underlying4 rfl hW' hw

theorem tells_holds : Rows.AlphabetTellsSaid :=
  OpenClaim.holds_of_wide 3 Try.f3 rfl rfl rfl rfl rfl rfl rfl ⟨rfl, rfl, rfl, rfl, rfl⟩ rfl rfl rfl rfl rfl (by kernel_rfl) Try.func3 (by kernel_rfl)
    (of_decide_eq_true (by kernel_rfl)) (by unfold Func.isWrapper; first | (rw [if_pos (by decide +kernel)]; kernel_rfl) | (rw [if_neg (by decide +kernel)]; exact ⟨rfl, rfl⟩))
    (fun os started H enc _ => tells_lifted os started H enc)
end Go.Proofs.Ytokkgbcjjaiaeaa
