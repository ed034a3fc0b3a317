/-
  What an alphabet that is none tells (nil, or the empty one).
-/
import Derived.Test.YtokkgbcjjaiaeaaLaw
namespace Go.Proofs.Ytokkgbcjjaiaeaa
open Go Go.RowKit Go.Shelf Go.Maps

theorem zeroCells_al0 : Try.zeroCells60 = alCells (tabOf []) (.slice none 0 0) := by kernel_rfl
theorem two_allocs (w : World) (c1 c2 : Array Value) (t1 t2 : TypeId) :
    Blk ((w.alloc (.cells c1 t1)).alloc (.cells c2 t2)) w.heap.size c1 t1 ∧ Blk ((w.alloc (.cells c1 t1)).alloc (.cells c2 t2)) (w.heap.size + 1) c2 t2 ∧ Ext w ((w.alloc (.cells c1 t1)).alloc (.cells c2 t2)) :=
  ⟨(Blk.new w c1 t1).alloc _, (Blk.new (w.alloc (.cells c1 t1)) c2 t2).at (by simp), ((Ext.refl w).alloc _).alloc _⟩
section
variable {v : Value} {base : Nat} {W : World}
theorem nil_classes (s : BS) (h : IsAl W base v []) : Calls Try.prog 34 #[v, .agg (encS s)] W fun e w' => ∃ x, e = .returned (.tuple #[x, .int .i64 1]) ∧ Below W.heap.size W w' :=
  (classes_any v base [] s W h).mono fun _ _ ⟨u, he, _, hx⟩ => ⟨u, he, hx⟩
theorem nil_together (h : IsAl W base v []) : Calls Try.prog 35 #[v, .slice none 0 0] W fun e w' => e = .returned (.tuple #[.agg #[.int .u64 0, .int .u64 0, .int .u64 0, .int .u64 0], .int .i64 1]) ∧ Below W.heap.size W w' :=
  (together_any v base [] _ [] W h (.inl ⟨rfl, rfl⟩) (by simp)).mono fun _ _ ⟨he, hx⟩ => ⟨he, hx.below⟩
theorem nil_bytes (h : IsAl W base v []) : Calls Try.prog 16 #[v, .slice none 0 0] W fun e w' => ∃ x, e = .returned (.tuple #[x, .int .i64 1]) ∧ Below W.heap.size W w' :=
  (alphBytes_any v base [] _ [] W h (.inl ⟨rfl, rfl⟩) (by simp)).mono fun _ _ ⟨u, he, _, hx⟩ => ⟨u, he, hx⟩
theorem nil_set (k : Int) (h : IsAl W base v []) : Calls Try.prog 19 #[v, .int .i64 k] W fun e w' => e = .returned (.tuple #[.agg #[.int .u64 0, .int .u64 0, .int .u64 0, .int .u64 0], .bool false]) ∧ Below W.heap.size W w' := by
  have := set_any v base [] k W h
  rw [setOf_nil] at this
  exact this.mono fun _ _ ⟨he, hx⟩ => ⟨he, hx.below⟩
theorem nil_least (k : Int) (h : IsAl W base v []) : Calls Try.prog 36 #[v, .int .i64 k] W fun e w' => e = .returned (.tuple #[.int .u8 0, .bool false]) ∧ Below W.heap.size W w' := by
  have := least_any v base [] k W h
  unfold leastOf at this
  rw [setOf_nil] at this
  exact this.mono fun _ _ ⟨he, hx⟩ => ⟨he, hx.below⟩
theorem nil_len (h : IsAl W base v []) : Calls Try.prog 28 #[v] W fun e w' => e = .returned (.int .i64 0) ∧ Below W.heap.size W w' :=
  (len_any v base [] W h).mono fun _ _ ⟨he, hx⟩ => ⟨he, by rw [hx]; exact Below.refl _ _⟩
theorem nil_class (c : Nat) (hc : c < 256) (h : IsAl W base v []) : Calls Try.prog 21 #[v, .int .u8 c] W fun e w' => e = .returned (.int .i64 0) ∧ Below W.heap.size W w' :=
  (class_any v base [] c hc W h).mono fun _ _ ⟨he, hx⟩ => ⟨by rw [he, cls_nil]; rfl, by rw [hx]; exact Below.refl _ _⟩
theorem nil_fits (s : BS) (h : IsAl W base v []) : Calls Try.prog 37 #[v, .agg (encS s)] W fun e w' => e = .returned (.bool false) ∧ Below W.heap.size W w' := fits_any v base [] s W h
theorem nil_word (bv : Value) (b : List Nat) (hb : IsSl encB W bv b) (hc : ∀ c ∈ b, c < 256) (hn : b.length ≤ 1000000) (h : IsAl W base v []) : Calls Try.prog 15 #[v, bv] W fun e w' => ∃ a c, e = .returned (.slice a 0 c) ∧ Below W.heap.size W w' :=
  (word_any v base [] bv b W h hb hc hn).mono fun _ _ ⟨u, he, ho, hx⟩ => by
    obtain ⟨a, c, rfl⟩ := ownsRow_form ho
    exact ⟨a, c, he, hx⟩
theorem nil_table (h : IsAl W base v []) : Calls Try.prog 18 #[v] W fun e w' => e = .returned (.agg (tabArr [])) ∧ Below W.heap.size W w' :=
  (table_any v base [] W h).mono fun _ _ ⟨he, hx⟩ => ⟨he, hx.below⟩
theorem nil_finer1 {v2 : Value} {base2 : Nat} {q : List BS} (h : IsAl W base v []) (h2 : IsAl W base2 v2 q) : Calls Try.prog 26 #[v, v2] W fun e w' => e = .returned (.bool false) ∧ Below W.heap.size W w' := finer_any v v2 base base2 [] q W h h2
theorem nil_finer2 {v2 : Value} {base2 : Nat} {q : List BS} (h : IsAl W base v []) (h2 : IsAl W base2 v2 q) : Calls Try.prog 26 #[v2, v] W fun e w' => e = .returned (.bool false) ∧ Below W.heap.size W w' := by
  have := finer_any v2 v base2 base q [] W h2 h
  rw [show finerOf q [] = false from by unfold finerOf; simp] at this; exact this
theorem nil_same1 {v2 : Value} {base2 : Nat} {q : List BS} (h : IsAl W base v []) (h2 : IsAl W base2 v2 q) : Calls Try.prog 27 #[v, v2] W fun e w' => e = .returned (.bool false) ∧ Below W.heap.size W w' :=
  (same_any v v2 base base2 [] q W h h2).mono fun _ _ ⟨he, hx⟩ => ⟨he, hx.below⟩
theorem nil_same2 {v2 : Value} {base2 : Nat} {q : List BS} (h : IsAl W base v []) (h2 : IsAl W base2 v2 q) : Calls Try.prog 27 #[v2, v] W fun e w' => e = .returned (.bool false) ∧ Below W.heap.size W w' := by
  have := same_any v2 v base2 base q [] W h2 h
  rw [show sameOf q [] = false from by unfold sameOf; simp] at this
  exact this.mono fun _ _ ⟨he, hx⟩ => ⟨he, hx.below⟩
theorem nil_join1 {v2 : Value} {base2 : Nat} {q : List BS} (h : IsAl W base v []) (h2 : IsAl W base2 v2 q) : Calls Try.prog 24 #[v, v2] W fun e w' => e = .returned (.pointer none) ∧ Below W.heap.size W w' :=
  (join_any v v2 base base2 [] q W h h2).mono fun _ _ hj => by
    unfold JoinTo at hj
    rw [if_pos (by simp)] at hj; exact hj
theorem nil_join2 {v2 : Value} {base2 : Nat} {q : List BS} (h : IsAl W base v []) (h2 : IsAl W base2 v2 q) : Calls Try.prog 24 #[v2, v] W fun e w' => e = .returned (.pointer none) ∧ Below W.heap.size W w' :=
  (join_any v2 v base2 base q [] W h2 h).mono fun _ _ hj => by
    unfold JoinTo at hj
    rw [if_pos (by simp)] at hj; exact hj
theorem tab_self (W : World) : (Op.equalIn 10000 38 (.agg (tabArr [])) (.agg (tabArr []))).run Try.prog W = .ok true W := by
  rw [tab_equal]
  rw [show tabEq [] [] = true from by unfold tabEq; simp]
end
end Go.Proofs.Ytokkgbcjjaiaeaa
