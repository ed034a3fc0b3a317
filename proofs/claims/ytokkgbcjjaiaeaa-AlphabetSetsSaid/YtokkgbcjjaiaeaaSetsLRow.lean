/-
  AlphabetSets returns true for every list of sets, any two lists of classes and any byte; the arguments read behind the call as they did. No condition.
-/
import Derived.Test.YtokkgbcjjaiaeaaRows
import Derived.Test.YtokkgbcjjaiaeaaOpen2
import Derived.Test.YtokkgbcjjaiaeaaSetsL1
namespace Go.Proofs.Ytokkgbcjjaiaeaa
open Go Go.ChangeShapes Go.WideShapes Go.ChangeAt Go.RowKit

set_option maxRecDepth 100000 in
theorem setsl_lifted (os : Os) (started : os.Started) (H : Type) (enc : TypeId × Value → H) :
    ReturnsInHanded {} Try.checked os 10 .any (Rows.alphabetSetsSpec.pre6 enc Try.prog Try.f10 Rows.alphabetSetsRow.domain false) (Rows.alphabetSetsSpec.post enc Try.prog Try.f10 false true false false) := by
  refine returnsInHanded_of_change (C := Try.checked) Try.own started (by kernel_rfl) Try.func10
    (ChangeSpec.witness6 (enc := enc) (C := Try.checked) false ⟨#[], #[.slice none 0 0, .slice none 0 0, .slice none 0 0, .int .u8 0], []⟩ 8 (by kernel_rfl) (by kernel_rfl) (by kernel_rfl) (by kernel_rfl)) ?_
  intro W base args ds gs before hval0 hW hcnd _
  have hval : ∀ (j : Nat) t v, Try.f10.params[j]? = some t → args[j]? = some v → Value.okWide Try.prog W .any base t v := hval0
  have hW' := hW
  obtain ⟨p, q, hA0, hV, rfl, hfz, hnd⟩ := hW
  have hA : DataW.TrodAll enc Try.prog W 0 (fun _ => true) true Try.f10.params.toList args.toList ds p := hA0
  rw [Try.params10] at hA hval
  obtain ⟨v0, v1, v2, v3, d0, d1, d2, d3, p0, p1, p2, p3, rfl, rfl, rfl, h0, h1, h2, h3⟩ := trodAll_four hA
  obtain ⟨l0, m0, s0⟩ := open_setsC (hval 0 _ v0 rfl rfl) h0
  have n0 : l0.length ≤ 9223372036854775807 := by unfold maxLen at m0; exact m0
  obtain ⟨l1, m1, b1, s1⟩ := open_bytesB (hval 1 _ v1 rfl rfl) h1
  have n1 : l1.length ≤ 9223372036854775807 := by unfold maxLen at m1; exact m1
  obtain ⟨l2, m2, b2, s2⟩ := open_bytesB (hval 2 _ v2 rfl rfl) h2
  have n2 : l2.length ≤ 9223372036854775807 := by unfold maxLen at m2; exact m2
  obtain ⟨x3, rfl, r3⟩ := open_u8 (hval 3 _ v3 rfl rfl) h3
  refine (RegG.alphabetSets_any v0 v1 v2 l0 l1 l2 x3 W s0 s1 b1 s2 b2 n0 n1 n2 r3).mono fun e W' ⟨he, hw⟩ => ⟨_, he, ?_⟩
  exact law_post (s := Rows.alphabetSetsSpec) Try.laidOut rfl (by rw [Try.params10]; exact of_decide_eq_true (by kernel_rfl)) rfl Try.underlying4 rfl hW' hw

theorem setsl_holds : Rows.AlphabetSetsSaid :=
  OpenClaim.holds_of_wide 10 Try.f10 rfl rfl rfl rfl rfl rfl rfl ⟨rfl, rfl, rfl, rfl, rfl⟩ rfl rfl rfl rfl rfl (by kernel_rfl) Try.func10 (by kernel_rfl)
    (of_decide_eq_true (by kernel_rfl)) (by unfold Func.isWrapper; first | (rw [if_pos (by decide +kernel)]; kernel_rfl) | (rw [if_neg (by decide +kernel)]; exact ⟨rfl, rfl⟩))
    (fun os started H enc _ => setsl_lifted os started H enc)
end Go.Proofs.Ytokkgbcjjaiaeaa
