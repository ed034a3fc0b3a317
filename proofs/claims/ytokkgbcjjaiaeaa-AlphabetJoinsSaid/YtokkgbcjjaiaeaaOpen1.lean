/-
  Arguments of the laws on alphabets as the walks take them.
-/
import Derived.Test.YtokkgbcjjaiaeaaOpen0
import Derived.Test.YtokkgbcjjaiaeaaLaw0
namespace Go.Proofs.Ytokkgbcjjaiaeaa
open Go Go.ChangeShapes Go.WideShapes Go.ChangeAt Go.RowKit
section
variable {H : Type} {enc : TypeId × Value → H} {W : World}

set_option maxRecDepth 100000 in
theorem open_setsC {r : Reach} {v : Value} {d : DataW H} {p : List MemPlace} {b0 : Nat} (hok : Value.okWide Try.prog W r b0 22 v) (h : DataW.Trod enc Try.prog W 0 (fun _ => true) true 22 v d p) :
    ∃ l : List BS, l.length ≤ maxLen ∧ IsSetsC W v l := by
  obtain ⟨l, hlen, hl⟩ := open_sets hok h
  refine ⟨l, hlen, ?_⟩
  rcases hl with ⟨rfl, rfl⟩ | ⟨b, off, cap, rfl, hc, hb, hcell⟩
  · exact ⟨.inl ⟨rfl, rfl⟩, fun a n cap e => by cases e; exact Nat.le_refl _⟩
  · exact ⟨.inr ⟨b, off, cap, rfl, hb, hcell⟩, fun a n cap' e => by cases e; exact hc⟩

theorem u8_of_wf {n : Int} (h : (Lit.int .u8 n).wf = true) : 0 ≤ n ∧ n < 256 := by
  simp only [Lit.wf, Bool.and_eq_true, decide_eq_true_eq] at h
  have h1 : IntKind.u8.min = 0 := by decide
  have h2 : IntKind.u8.max = 255 := by decide
  omega

set_option maxRecDepth 100000 in
theorem open_bytesB {r : Reach} {v : Value} {d : DataW H} {p : List MemPlace} {b0 : Nat} (hok : Value.okWide Try.prog W r b0 27 v) (h : DataW.Trod enc Try.prog W 0 (fun _ => true) true 27 v d p) :
    ∃ l : List Nat, l.length ≤ maxLen ∧ (∀ c ∈ l, c < 256) ∧ IsSl encB W v l := by
  obtain ⟨l, hlen, hwf, hl⟩ := open_nums (e := 5) Try.underlying27 Try.underlying5 (by kernel_rfl) hok h
  refine ⟨l.map Int.toNat, by simpa using hlen, fun c hc => ?_, ?_⟩
  · obtain ⟨n, hn, rfl⟩ := List.mem_map.1 hc
    have := u8_of_wf (hwf n hn); omega
  · rcases hl with ⟨rfl, rfl⟩ | ⟨b, off, cap, rfl, hc, hb, hcell⟩
    · exact .inl ⟨rfl, rfl⟩
    · refine .inr ⟨b, off, cap, by rw [List.length_map], hb, by rw [List.length_map]; exact hc, fun i x hi => ?_⟩
      rw [List.getElem?_map] at hi
      obtain ⟨n, hn, rfl⟩ := Option.map_eq_some_iff.1 hi
      rw [hcell i n hn]
      have := u8_of_wf (hwf n (List.mem_of_getElem? hn))
      show some (Value.int .u8 n) = some (Value.int .u8 ((n.toNat : Nat) : Int))
      rw [Int.toNat_of_nonneg this.1]
set_option maxRecDepth 100000 in
theorem open_intsZ {r : Reach} {v : Value} {d : DataW H} {p : List MemPlace} {b0 : Nat} (hok : Value.okWide Try.prog W r b0 26 v) (h : DataW.Trod enc Try.prog W 0 (fun _ => true) true 26 v d p) :
    ∃ l : List Int, l.length ≤ maxLen ∧ (∀ n ∈ l, (Lit.int .i64 n).wf = true) ∧ IsSl encZ W v l := by
  obtain ⟨l, hlen, hwf, hl⟩ := open_nums (e := 3) Try.underlying26 Try.underlying3 (by kernel_rfl) hok h
  refine ⟨l, hlen, hwf, ?_⟩
  rcases hl with ⟨rfl, rfl⟩ | ⟨b, off, cap, rfl, hc, hb, hcell⟩
  · exact .inl ⟨rfl, rfl⟩
  · exact .inr ⟨b, off, cap, rfl, hb, hc, hcell⟩
set_option maxRecDepth 100000 in
theorem open_u8 {r : Reach} {v : Value} {d : DataW H} {p : List MemPlace} {b0 : Nat} (hok : Value.okWide Try.prog W r b0 5 v) (h : DataW.Trod enc Try.prog W 0 (fun _ => true) true 5 v d p) : ∃ n : Nat, v = .int .u8 n ∧ n < 256 := by
  obtain ⟨n, rfl, _, _, hw⟩ := open_int Try.underlying5 hok h
  have := u8_of_wf hw
  exact ⟨n.toNat, by rw [Int.toNat_of_nonneg this.1], by omega⟩
end
theorem Try.own : ownKnob Try.prog.godebug = none := by kernel_rfl
theorem Try.laidOut : laidOutB Try.prog = true := by kernel_rfl
end Go.Proofs.Ytokkgbcjjaiaeaa
