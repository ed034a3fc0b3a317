/-
  slices.Clone at ints and at bytes.
-/
import Derived.Test.YtokkgbcjjaiaeaaClone
namespace Go.Proofs.Ytokkgbcjjaiaeaa
open Go Go.RowKit Go.Shelf Go.Maps


set_option maxRecDepth 100000 in
set_option maxHeartbeats 1000000 in
theorem cloneInts_any (v : Value) (l : List Int) (w : World) (h : IsSl encZ w v l) (hn : l.length ≤ 1000000) :
    Calls Try.prog 46 #[v] w fun e w' => ∃ u, e = .returned u ∧ w'.ownsRow w.heap.size 3 1 u l.length (l.map encZ) ∧ Below w.heap.size w w' := by
  obtain ⟨i0, hi, hz0, hz1, hz2⟩ := info_parts Try.infoI
  rcases h with ⟨rfl, rfl⟩ | ⟨b, off, cap, rfl, hb, _, hc⟩
  · have he := fun W => Lib.run_eql_slice_nil (P := Try.prog) W 26 3 none 0 0 0 0 Try.underlying26
    go_enter Try.func46, Try.ntmps46
    go_wp2
    go_ret
    exact ⟨_, rfl, World.ownsRow_nil _ _ _ _, Below.refl _ _⟩
  · have hnews : ∀ j u, (l.map encZ)[j]? = some u → w.cell? ((⟨b, off, none⟩ : Addr).add j) = some u := fun j u hj => by
      rw [List.getElem?_map] at hj
      cases hx : l[j]? with
      | none => rw [hx] at hj; cases hj
      | some x =>
        rw [hx] at hj
        rw [Addr.add_mid, hc j x hx]; exact hj
    obtain ⟨n, hnn⟩ : ∃ n, n = l.length := ⟨_, rfl⟩
    rw [← hnn] at hn ⊢
    have HN := Lib.hid hnn
    have HNw := Lib.hid hnews
    have he := fun W => Lib.run_eql_slice_nil (P := Try.prog) W 26 3 (some ⟨b, off, none⟩) n cap 0 0 Try.underlying26
    clear hc hnews hnn
    go_enter Try.func46, Try.ntmps46
    have o1 : (w.alloc (.cells #[] 3 (0, 0))).ownsRow w.heap.size 3 1 (.slice (some ⟨w.heap.size, 0, none⟩) 0 0) 0 [] := ⟨rfl, .inr ⟨w.heap.size, 0, #[], rfl, Nat.le_refl _, World.alloc_heap_new _ _, Nat.le_refl _, by simp, rfl, rfl⟩⟩
    have HO1 := Lib.hid o1
    clear o1
    go_wp2_with (at_builtin; (refine wpList_append_own_at _ rfl (.tmp 5) (.tmp 6) 26 rfl w.heap.size 3 i0 (.int .i64 0) 1 8 Try.underlying26 hi hz0 hz1 hz2 rfl (by decide) _ 0 [] rfl HO1.out ⟨b, off, none⟩ n cap (l.map encZ) rfl (by rw [List.length_map, HN.out, Nat.mul_one]) (fun j u hj => (((Ext.refl w).alloc _).cell (p := (⟨b, off, none⟩ : Addr).add j) (by rw [Addr.add_mid]; exact hb)).trans (HNw.out j u hj)) (fun u hu => by obtain ⟨x, _, rfl⟩ := List.mem_map.1 hu; rfl) (by unfold maxLen; omega) (by omega) (by simp) ?_; intro v' w2 ho hg _ _; have HO2 := Lib.hid ho; have HG := Lib.hid hg; obtain ⟨a2, c2, rfl⟩ := ownsRow_form ho; clear ho hg))
    go_ret
    refine ⟨_, rfl, ?_, ?_⟩
    · have := HO2.out
      rwa [Nat.zero_add, List.nil_append] at this
    · exact ((Below.refl _ _).alloc (Nat.le_refl _) _).grown HG.out (by simp) (fun c e => (HO1.out.lt c e).1)

set_option maxRecDepth 100000 in
set_option maxHeartbeats 1000000 in
theorem cloneBytes_any (v : Value) (l : List Nat) (w : World) (h : IsSl encB w v l) (hn : l.length ≤ 1000000) :
    Calls Try.prog 48 #[v] w fun e w' => ∃ u, e = .returned u ∧ w'.ownsRow w.heap.size 5 1 u l.length (l.map encB) ∧ Below w.heap.size w w' := by
  obtain ⟨i0, hi, hz0, hz1, hz2⟩ := info_parts Try.infoU8
  rcases h with ⟨rfl, rfl⟩ | ⟨b, off, cap, rfl, hb, _, hc⟩
  · have he := fun W => Lib.run_eql_slice_nil (P := Try.prog) W 27 5 none 0 0 0 0 Try.underlying27
    go_enter Try.func48, Try.ntmps48
    go_wp2
    go_ret
    exact ⟨_, rfl, World.ownsRow_nil _ _ _ _, Below.refl _ _⟩
  · have hnews : ∀ j u, (l.map encB)[j]? = some u → w.cell? ((⟨b, off, none⟩ : Addr).add j) = some u := fun j u hj => by
      rw [List.getElem?_map] at hj
      cases hx : l[j]? with
      | none => rw [hx] at hj; cases hj
      | some x =>
        rw [hx] at hj
        rw [Addr.add_mid, hc j x hx]; exact hj
    obtain ⟨n, hnn⟩ : ∃ n, n = l.length := ⟨_, rfl⟩
    rw [← hnn] at hn ⊢
    have HN := Lib.hid hnn
    have HNw := Lib.hid hnews
    have he := fun W => Lib.run_eql_slice_nil (P := Try.prog) W 27 5 (some ⟨b, off, none⟩) n cap 0 0 Try.underlying27
    clear hc hnews hnn
    go_enter Try.func48, Try.ntmps48
    have o1 : (w.alloc (.cells #[] 5 (0, 0))).ownsRow w.heap.size 5 1 (.slice (some ⟨w.heap.size, 0, none⟩) 0 0) 0 [] := ⟨rfl, .inr ⟨w.heap.size, 0, #[], rfl, Nat.le_refl _, World.alloc_heap_new _ _, Nat.le_refl _, by simp, rfl, rfl⟩⟩
    have HO1 := Lib.hid o1
    clear o1
    go_wp2_with (at_builtin; (refine wpList_append_own_at _ rfl (.tmp 5) (.tmp 6) 27 rfl w.heap.size 5 i0 (.int .u8 0) 1 1 Try.underlying27 hi hz0 hz1 hz2 rfl (by decide) _ 0 [] rfl HO1.out ⟨b, off, none⟩ n cap (l.map encB) rfl (by rw [List.length_map, HN.out, Nat.mul_one]) (fun j u hj => (((Ext.refl w).alloc _).cell (p := (⟨b, off, none⟩ : Addr).add j) (by rw [Addr.add_mid]; exact hb)).trans (HNw.out j u hj)) (fun u hu => by obtain ⟨x, _, rfl⟩ := List.mem_map.1 hu; rfl) (by unfold maxLen; omega) (by omega) (by simp) ?_; intro v' w2 ho hg _ _; have HO2 := Lib.hid ho; have HG := Lib.hid hg; obtain ⟨a2, c2, rfl⟩ := ownsRow_form ho; clear ho hg))
    go_ret
    refine ⟨_, rfl, ?_, ?_⟩
    · have := HO2.out
      rwa [Nat.zero_add, List.nil_append] at this
    · exact ((Below.refl _ _).alloc (Nat.le_refl _) _).grown HG.out (by simp) (fun c e => (HO1.out.lt c e).1)
end Go.Proofs.Ytokkgbcjjaiaeaa
