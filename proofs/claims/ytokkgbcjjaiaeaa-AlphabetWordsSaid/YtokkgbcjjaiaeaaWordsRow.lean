/-
  AlphabetWords returns true for every list of sets, all bytes, and any two bytes; the arguments read behind the call as they did. No condition.
-/
import Derived.Test.YtokkgbcjjaiaeaaRows
import Derived.Test.YtokkgbcjjaiaeaaOpen1
import Derived.Test.YtokkgbcjjaiaeaaWords
namespace Go.Proofs.Ytokkgbcjjaiaeaa
open Go Go.ChangeShapes Go.WideShapes Go.ChangeAt Go.RowKit

set_option maxRecDepth 100000 in
theorem words_lifted (os : Os) (started : os.Started) (H : Type) (enc : TypeId × Value → H) :
    ReturnsInHanded {} Try.checked os 4 .any (Rows.alphabetWordsSpec.pre6 enc Try.prog Try.f4 Rows.alphabetWordsRow.domain false) (Rows.alphabetWordsSpec.post enc Try.prog Try.f4 false true false false) := by
  refine returnsInHanded_of_change (C := Try.checked) Try.own started (by kernel_rfl) Try.func4
    (ChangeSpec.witness6 (enc := enc) (C := Try.checked) false ⟨#[], #[.slice none 0 0, .slice none 0 0, .int .u8 0, .int .u8 0], []⟩ 8 (by kernel_rfl) (by kernel_rfl) (by kernel_rfl) (by kernel_rfl)) ?_
  intro W base args ds gs before hval0 hW hcnd _
  have hval : ∀ (j : Nat) t v, Try.f4.params[j]? = some t → args[j]? = some v → Value.okWide Try.prog W .any base t v := hval0
  have hW' := hW
  obtain ⟨p, q, hA0, hV, rfl, hfz, hnd⟩ := hW
  have hA : DataW.TrodAll enc Try.prog W 0 (fun _ => true) true Try.f4.params.toList args.toList ds p := hA0
  rw [Try.params4] at hA hval
  obtain ⟨v0, v1, v2, v3, d0, d1, d2, d3, p0, p1, p2, p3, rfl, rfl, rfl, h0, h1, h2, h3⟩ := trodAll_four hA
  obtain ⟨l, hlen, hl⟩ := open_setsC (hval 0 _ v0 rfl rfl) h0
  obtain ⟨b, hblen, hb256, hb⟩ := open_bytesB (hval 1 _ v1 rfl rfl) h1
  obtain ⟨x, rfl, hx⟩ := open_u8 (hval 2 _ v2 rfl rfl) h2
  obtain ⟨y, rfl, hy⟩ := open_u8 (hval 3 _ v3 rfl rfl) h3
  refine (alphabetWords_any v0 v1 l b x y W hl (by unfold maxLen at hlen; exact hlen) hb hb256 (by unfold maxLen at hblen; exact hblen) hx hy).mono fun e W' ⟨he, hw⟩ => ⟨_, he, ?_⟩
  exact law_post (s := Rows.alphabetWordsSpec) Try.laidOut rfl (by rw [Try.params4]; exact of_decide_eq_true (by kernel_rfl)) rfl Try.underlying4 rfl hW' hw

theorem words_holds : Rows.AlphabetWordsSaid :=
  OpenClaim.holds_of_wide 4 Try.f4 rfl rfl rfl rfl rfl rfl rfl ⟨rfl, rfl, rfl, rfl, rfl⟩ rfl rfl rfl rfl rfl (by kernel_rfl) Try.func4 (by kernel_rfl)
    (of_decide_eq_true (by kernel_rfl)) (by unfold Func.isWrapper; first | (rw [if_pos (by decide +kernel)]; kernel_rfl) | (rw [if_neg (by decide +kernel)]; exact ⟨rfl, rfl⟩))
    (fun os started H enc _ => words_lifted os started H enc)
end Go.Proofs.Ytokkgbcjjaiaeaa
