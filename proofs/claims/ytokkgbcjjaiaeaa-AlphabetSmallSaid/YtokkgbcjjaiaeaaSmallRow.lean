/-
  AlphabetSmall returns true. No condition.
-/
import Derived.Test.YtokkgbcjjaiaeaaRows
import Derived.Test.YtokkgbcjjaiaeaaOpen2
import Derived.Test.YtokkgbcjjaiaeaaSmall
namespace Go.Proofs.Ytokkgbcjjaiaeaa
open Go Go.ChangeShapes Go.WideShapes Go.ChangeAt Go.RowKit

set_option maxRecDepth 100000 in
theorem small_lifted (os : Os) (started : os.Started) (H : Type) (enc : TypeId × Value → H) :
    ReturnsInHanded {} Try.checked os 7 .any (Rows.alphabetSmallSpec.pre6 enc Try.prog Try.f7 Rows.alphabetSmallRow.domain false) (Rows.alphabetSmallSpec.post enc Try.prog Try.f7 false true false false) := by
  refine returnsInHanded_of_change (C := Try.checked) Try.own started (by kernel_rfl) Try.func7
    (ChangeSpec.witness6 (enc := enc) (C := Try.checked) false ⟨#[], #[], []⟩ 8 (by kernel_rfl) (by kernel_rfl) (by kernel_rfl) (by kernel_rfl)) ?_
  intro W base args ds gs before _ hW hcnd _
  have hW' := hW
  obtain ⟨p, q, hA0, hV, rfl, hfz, hnd⟩ := hW
  have hA : DataW.TrodAll enc Try.prog W 0 (fun _ => true) true Try.f7.params.toList args.toList ds p := hA0
  rw [Try.params7] at hA
  obtain ⟨rfl, rfl, rfl⟩ := trodAll_none hA

  refine (alphabetSmall_any W).mono fun e W' ⟨he, hw⟩ => ⟨_, he, ?_⟩
  exact law_post (s := Rows.alphabetSmallSpec) Try.laidOut rfl (by rw [Try.params7]; exact of_decide_eq_true (by kernel_rfl)) rfl Try.underlying4 rfl hW' hw

theorem small_holds : Rows.AlphabetSmallSaid :=
  OpenClaim.holds_of_wide 7 Try.f7 rfl rfl rfl rfl rfl rfl rfl ⟨rfl, rfl, rfl, rfl, rfl⟩ rfl rfl rfl rfl rfl (by kernel_rfl) Try.func7 (by kernel_rfl)
    (of_decide_eq_true (by kernel_rfl)) (by unfold Func.isWrapper; first | (rw [if_pos (by decide +kernel)]; kernel_rfl) | (rw [if_neg (by decide +kernel)]; exact ⟨rfl, rfl⟩))
    (fun os started H enc _ => small_lifted os started H enc)
end Go.Proofs.Ytokkgbcjjaiaeaa
