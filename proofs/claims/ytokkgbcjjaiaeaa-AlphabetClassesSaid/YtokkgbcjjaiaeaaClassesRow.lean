/-
  AlphabetClasses returns true for every list of sets; the list reads behind the call as it did. No condition.
-/
import Derived.Test.YtokkgbcjjaiaeaaRows
import Derived.Test.YtokkgbcjjaiaeaaOpen0
import Derived.Test.YtokkgbcjjaiaeaaClasses
namespace Go.Proofs.Ytokkgbcjjaiaeaa
open Go Go.ChangeShapes Go.WideShapes Go.ChangeAt Go.RowKit

theorem Try.own : ownKnob Try.prog.godebug = none := by kernel_rfl
theorem Try.laidOut : laidOutB Try.prog = true := by kernel_rfl

set_option maxRecDepth 100000 in
theorem classes_lifted (os : Os) (started : os.Started) (H : Type) (enc : TypeId × Value → H) :
    ReturnsInHanded {} Try.checked os 8 .any (Rows.alphabetClassesSpec.pre6 enc Try.prog Try.f8 Rows.alphabetClassesRow.domain false) (Rows.alphabetClassesSpec.post enc Try.prog Try.f8 false true false false) := by
  refine returnsInHanded_of_change (C := Try.checked) Try.own started (by kernel_rfl) Try.func8
    (ChangeSpec.witness6 (enc := enc) (C := Try.checked) false ⟨#[], #[.slice none 0 0], []⟩ 8 (by kernel_rfl) (by kernel_rfl) (by kernel_rfl) (by kernel_rfl)) ?_
  intro W base args ds gs before hval0 hW hcnd _
  have hval : ∀ (j : Nat) t v, Try.f8.params[j]? = some t → args[j]? = some v → Value.okWide Try.prog W .any base t v := hval0
  have hW' := hW
  obtain ⟨p, q, hA0, hV, rfl, hfz, hnd⟩ := hW
  have hA : DataW.TrodAll enc Try.prog W 0 (fun _ => true) true Try.f8.params.toList args.toList ds p := hA0
  rw [Try.params8] at hA hval
  obtain ⟨v0, d0, rfl, rfl, h0⟩ := trodAll_one hA
  obtain ⟨l, hlen, hl⟩ := open_sets (hval 0 _ v0 rfl rfl) h0
  have hs : IsSetsC W v0 l := by
    rcases hl with ⟨rfl, rfl⟩ | ⟨b, off, cap, rfl, hc, hb, hcell⟩
    · exact ⟨.inl ⟨rfl, rfl⟩, fun a n cap e => by cases e; exact Nat.le_refl _⟩
    · exact ⟨.inr ⟨b, off, cap, rfl, hb, hcell⟩, fun a n cap' e => by cases e; exact hc⟩
  refine (alphabetClasses_any v0 l W hs (by unfold maxLen at hlen; exact hlen)).mono fun e W' ⟨he, hw⟩ => ⟨_, he, ?_⟩
  exact law_post (s := Rows.alphabetClassesSpec) Try.laidOut rfl (by rw [Try.params8]; exact of_decide_eq_true (by kernel_rfl)) rfl Try.underlying4 rfl hW' hw

theorem classes_holds : Rows.AlphabetClassesSaid :=
  OpenClaim.holds_of_wide 8 Try.f8 rfl rfl rfl rfl rfl rfl rfl ⟨rfl, rfl, rfl, rfl, rfl⟩ rfl rfl rfl rfl rfl (by kernel_rfl) Try.func8 (by kernel_rfl)
    (of_decide_eq_true (by kernel_rfl)) (by unfold Func.isWrapper; first | (rw [if_pos (by decide +kernel)]; kernel_rfl) | (rw [if_neg (by decide +kernel)]; exact ⟨rfl, rfl⟩))
    (fun os started H enc _ => classes_lifted os started H enc)
end Go.Proofs.Ytokkgbcjjaiaeaa
