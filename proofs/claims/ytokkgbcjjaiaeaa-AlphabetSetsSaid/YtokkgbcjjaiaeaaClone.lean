/-
  slices.Clone at sets, at ints, at bytes; append of a slice to an owned one, where the slice may be empty.
-/
import Derived.Test.YtokkgbcjjaiaeaaAlph
import Derived.Test.YtokkgbcjjaiaeaaWords
import Derived.Lib.SliceRun
namespace Go.Proofs.Ytokkgbcjjaiaeaa
open Go Go.RowKit Go.Shelf Go.Maps

set_option maxRecDepth 100000 in
set_option maxHeartbeats 1000000 in
theorem cloneSets_any (v : Value) (l : List BS) (w : World) (h : IsSetsC w v l) (hn : l.length ≤ 1000000) :
    Calls Try.prog 29 #[v] w fun e w' => ∃ u, e = .returned u ∧ w'.ownsRow w.heap.size 25 4 u l.length (flatS l) ∧ Below w.heap.size w w' := by
  obtain ⟨i0, hi, hz0, hz1, hz2⟩ := info_parts Try.infoS
  rcases h.1 with ⟨rfl, rfl⟩ | ⟨b, off, cap, rfl, hb, hc⟩
  · have he := fun W => Lib.run_eql_slice_nil (P := Try.prog) W 22 25 none 0 0 0 0 Try.underlying22
    clear h
    go_enter Try.func29, Try.ntmps29
    go_wp2
    go_ret
    exact ⟨_, rfl, World.ownsRow_nil _ _ _ _, Below.refl _ _⟩
  · have hnews : ∀ j u, (flatS l)[j]? = some u → w.cell? ((⟨b, off, none⟩ : Addr).add j) = some u := fun j u hj => by
      have hj4 : j < l.length * 4 := by have := (List.getElem?_eq_some_iff.1 hj).1; rwa [flatS_length] at this
      have hs : l[j / 4]? = some (l[j / 4]'(by omega)) := List.getElem?_eq_getElem (by omega)
      have h1 := flatS_get l hs (Nat.mod_lt j (by decide : 0 < 4))
      rw [show j / 4 * 4 + j % 4 = j by omega, hj] at h1
      rw [Addr.add_mid, show off + j = off + j / 4 * 4 + j % 4 by omega, hc _ _ hs _ (Nat.mod_lt j (by decide))]
      exact h1.symm
    obtain ⟨n, hnn⟩ : ∃ n, n = l.length := ⟨_, rfl⟩
    rw [← hnn] at hn ⊢
    have HN := Lib.hid hnn
    have HNw := Lib.hid hnews
    have he := fun W => Lib.run_eql_slice_nil (P := Try.prog) W 22 25 (some ⟨b, off, none⟩) n cap 0 0 Try.underlying22
    clear h hc hnews hnn
    go_enter Try.func29, Try.ntmps29
    have o1 : (w.alloc (.cells #[] 25 (0, 0))).ownsRow w.heap.size 25 4 (.slice (some ⟨w.heap.size, 0, none⟩) 0 0) 0 [] := ⟨rfl, .inr ⟨w.heap.size, 0, #[], rfl, Nat.le_refl _, World.alloc_heap_new _ _, Nat.le_refl _, by simp, rfl, rfl⟩⟩
    have HO1 := Lib.hid o1
    clear o1
    go_wp2_with (at_builtin; (refine wpList_append_own_at _ rfl (.tmp 5) (.tmp 6) 22 rfl w.heap.size 25 i0 (.agg #[.int .u64 0, .int .u64 0, .int .u64 0, .int .u64 0]) 4 32 Try.underlying22 hi hz0 hz1 hz2 rfl (by decide) _ 0 [] rfl HO1.out ⟨b, off, none⟩ n cap (flatS l) rfl (by rw [flatS_length, HN.out]) (fun j u hj => (((Ext.refl w).alloc _).cell (p := (⟨b, off, none⟩ : Addr).add j) (by rw [Addr.add_mid]; exact hb)).trans (HNw.out j u hj)) (flatS_one_cell l) (by unfold maxLen; omega) (by omega) (by simp) ?_; intro v' w2 ho hg _ _; have HO2 := Lib.hid ho; have HG := Lib.hid hg; obtain ⟨a2, c2, rfl⟩ := ownsRow_form ho; clear ho hg))
    go_ret
    refine ⟨_, rfl, ?_, ?_⟩
    · have := HO2.out
      rwa [Nat.zero_add, List.nil_append] at this
    · exact ((Below.refl _ _).alloc (Nat.le_refl _) _).grown HG.out (by simp) (fun c e => (HO1.out.lt c e).1)
end Go.Proofs.Ytokkgbcjjaiaeaa
