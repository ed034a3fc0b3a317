/-
  The walk of AlphabetClasses.
  The walk of AlphabetWords.
  slices.Clone at sets, at ints, at bytes; append of a slice to an owned one, where the slice may be empty.
  Walks for the laws on alphabets: the reference's Finer; slices.Equal at sets; theirs.
    Walks for the laws on alphabets: theirs.
    Walks of the reference of layer 16: Classes.
  Facts in the worlds of a region walked in any order.
  Walks of the reference of layer 16: Together.
-/
import Derived.Test.YtiegfnmpknmbmaaGreatK08
import Derived.Test.YtiegfnmpknmbmaaGreatK06
import Derived.Test.YtiegfnmpknmbmaaGreatK05
import Derived.Lib.SliceRun
import Derived.Test.YtiegfnmpknmbmaaGreatK07
import Derived.Test.YtiegfnmpknmbmaaGreatK01
import Derived.Test.YtiegfnmpknmbmaaGreatK02
import Derived.Great.BuildSlice
namespace Go.Proofs.YtiegfnmpknmbmaaGreat
open Go Go.RowKit Go.Shelf Go.Maps
attribute [local go_sem] encS

theorem IsSetsC.below {w w' : World} {v : Value} {l : List BS} (h : IsSetsC w v l) (hk : Below w.heap.size w w') : IsSetsC w' v l := ⟨h.1.below hk, h.2⟩
end Go.Proofs.YtiegfnmpknmbmaaGreat
namespace Go.Proofs.YtiegfnmpknmbmaaGreat
open Go Go.RowKit Go.Shelf Go.Maps
attribute [local go_sem] encS

/-- The first elements of a slice. -/
theorem IsSl.take {α : Type} {enc : α → Value} {w : World} {a : Option Addr} {n cap : Nat} {l : List α} (h : IsSl enc w (.slice a n cap) l) (k : Nat) (hk : k ≤ n) : IsSl enc w (.slice a k cap) (l.take k) := by
  rcases h with ⟨h, rfl⟩ | ⟨b, off, cap', hv, hb, hc, h⟩
  · cases h
    obtain rfl : k = 0 := by omega
    exact .inl ⟨rfl, rfl⟩
  · cases hv
    have hl : (l.take k).length = k := by rw [List.length_take]; omega
    refine .inr ⟨b, off, cap, by rw [hl], hb, by omega, fun i x hi => h i x ?_⟩
    rw [List.getElem?_take] at hi
    split at hi
    · exact hi
    · cases hi
theorem IsSl.cap {α : Type} {enc : α → Value} {w : World} {a : Option Addr} {n cap : Nat} {l : List α} (h : IsSl enc w (.slice a n cap) l) : n ≤ cap := by
  rcases h with ⟨h, rfl⟩ | ⟨b, off, cap', hv, hb, hc, h⟩
  · cases h; exact Nat.le_refl _
  · cases hv; omega

end Go.Proofs.YtiegfnmpknmbmaaGreat
namespace Go.Proofs.YtiegfnmpknmbmaaGreat
open Go Go.RowKit Go.Shelf Go.Maps

set_option maxRecDepth 100000 in
set_option maxHeartbeats 1000000 in
theorem cloneSets_any (v : Value) (l : List BS) (w : World) (h : IsSetsC w v l) (hn : l.length ≤ 1000000) :
    Calls Tryz.prog 34 #[v] w fun e w' => ∃ u, e = .returned u ∧ w'.ownsRow w.heap.size 33 4 u l.length (flatS l) ∧ Below w.heap.size w w' := by
  obtain ⟨i0, hi, hz0, hz1, hz2⟩ := info_parts Tryz.infoS
  rcases h.1 with ⟨rfl, rfl⟩ | ⟨b, off, cap, rfl, hb, hc⟩
  · have he := fun W => Lib.run_eql_slice_nil (P := Tryz.prog) W 22 33 none 0 0 0 0 Tryz.underlying22
    clear h
    go_enter Tryz.func34, Tryz.ntmps34
    go_wp2
    go_ret
    exact ⟨_, rfl, World.ownsRow_nil _ _ _ _, Below.refl _ _⟩
  · have hnews : ∀ j u, (flatS l)[j]? = some u → w.cell? ((⟨b, off, none⟩ : Addr).add j) = some u := fun j u hj => by
      have hj4 : j < l.length * 4 := by have := (List.getElem?_eq_some_iff.1 hj).1; rwa [flatS_length] at this
      have hs : l[j / 4]? = some (l[j / 4]'(by omega)) := List.getElem?_eq_getElem (by omega)
      have h1 := flatS_get l hs (Nat.mod_lt j (by decide : 0 < 4))
      rw [show j / 4 * 4 + j % 4 = j by omega, hj] at h1
      rw [Addr.add_mid, show off + j = off + j / 4 * 4 + j % 4 by omega, hc _ _ hs _ (Nat.mod_lt j (by decide))]
      exact h1.symm
    obtain ⟨n, hnn⟩ : ∃ n, n = l.length := ⟨_, rfl⟩
    rw [← hnn] at hn ⊢
    have HN := Lib.hid hnn
    have HNw := Lib.hid hnews
    have he := fun W => Lib.run_eql_slice_nil (P := Tryz.prog) W 22 33 (some ⟨b, off, none⟩) n cap 0 0 Tryz.underlying22
    clear h hc hnews hnn
    go_enter Tryz.func34, Tryz.ntmps34
    have o1 : (w.alloc (.cells #[] 33 (0, 0))).ownsRow w.heap.size 33 4 (.slice (some ⟨w.heap.size, 0, none⟩) 0 0) 0 [] := ⟨rfl, .inr ⟨w.heap.size, 0, #[], rfl, Nat.le_refl _, World.alloc_heap_new _ _, Nat.le_refl _, by simp, rfl, rfl⟩⟩
    have HO1 := Lib.hid o1
    clear o1
    go_wp2_with (at_builtin; (refine wpList_append_own_at _ rfl (.tmp 5) (.tmp 6) 22 rfl w.heap.size 33 i0 (.agg #[.int .u64 0, .int .u64 0, .int .u64 0, .int .u64 0]) 4 32 Tryz.underlying22 hi hz0 hz1 hz2 rfl (by decide) _ 0 [] rfl HO1.out ⟨b, off, none⟩ n cap (flatS l) rfl (by rw [flatS_length, HN.out]) (fun j u hj => (((Ext.refl w).alloc _).cell (p := (⟨b, off, none⟩ : Addr).add j) (by rw [Addr.add_mid]; exact hb)).trans (HNw.out j u hj)) (flatS_one_cell l) (by unfold maxLen; omega) (by omega) (by simp) ?_; intro v' w2 ho hg _ _; have HO2 := Lib.hid ho; have HG := Lib.hid hg; obtain ⟨a2, c2, rfl⟩ := ownsRow_form ho; clear ho hg))
    go_ret
    refine ⟨_, rfl, ?_, ?_⟩
    · have := HO2.out
      rwa [Nat.zero_add, List.nil_append] at this
    · exact ((Below.refl _ _).alloc (Nat.le_refl _) _).grown HG.out (by simp) (fun c e => (HO1.out.lt c e).1)
end Go.Proofs.YtiegfnmpknmbmaaGreat
namespace Go.Proofs.YtiegfnmpknmbmaaGreat
open Go Go.RowKit Go.Shelf Go.Maps

/-- Whether two arrays are alike. -/
def eqA (f g : Nat → Int) : Bool := (List.range 256).all fun c => f c == g c
end Go.Proofs.YtiegfnmpknmbmaaGreat

namespace Go.Proofs.YtiegfnmpknmbmaaGreat
open Go Go.RowKit Go.Shelf Go.Maps

/-- The cells of a slice of arrays. -/
def flatA (fs : List (Nat → Int)) : List Value := fs.flatMap fun f => (aI f).toList
theorem flatA_length (fs : List (Nat → Int)) : (flatA fs).length = fs.length * 256 := by
  unfold flatA
  induction fs with
  | nil => rfl
  | cons f fs ih => rw [List.flatMap_cons, List.length_append, ih, Array.length_toList, aI_size, List.length_cons]; omega
theorem flatA_append (l m : List (Nat → Int)) : flatA (l ++ m) = flatA l ++ flatA m := by simp [flatA]
theorem flatA_one (f : Nat → Int) : flatA [f] = (aI f).toList := by simp [flatA]
theorem flatA_get : ∀ (l : List (Nat → Int)) {i : Nat} {f : Nat → Int}, l[i]? = some f → ∀ {j : Nat}, j < 256 → (flatA l)[i * 256 + j]? = some (.int .i64 (f j)) := by
  intro l
  induction l with
  | nil => intro i f h; simp at h
  | cons g l ih =>
    intro i f h j hj
    have e : flatA (g :: l) = (aI g).toList ++ flatA l := by unfold flatA; rw [List.flatMap_cons]
    cases i with
    | zero =>
      cases h
      rw [e, List.getElem?_append_left (by rw [Array.length_toList, aI_size]; omega), Array.getElem?_toList, Nat.zero_mul, Nat.zero_add, aI_get _ hj]
    | succ i =>
      rw [e, List.getElem?_append_right (by rw [Array.length_toList, aI_size]; omega), Array.length_toList, aI_size, show (i + 1) * 256 + j - 256 = i * 256 + j by omega]
      exact ih (by simpa using h) hj
theorem ownsRow_arrs {w : World} {base : Nat} {v : Value} {l : List (Nat → Int)} (h : w.ownsRow base 75 256 v l.length (flatA l)) : IsArrs w v l := by
  rcases h.2 with ⟨h1, h2⟩ | ⟨g, cap, cur, hv, _, hg, hn, _, hs, ht⟩
  · exact .inl ⟨h1, List.eq_nil_of_length_eq_zero h2⟩
  · refine .inr ⟨g, 0, cap, hv, (Array.getElem?_eq_some_iff.1 hg).1, fun i s hi j hj => ?_⟩
    have hc : w.cell? ⟨g, 0 + i * 256 + j, none⟩ = cur[0 + i * 256 + j]? := by simp [World.cell?, hg]
    rw [hc, Nat.zero_add, ← flatA_get l hi hj, ← ht]
    have hlt : i < l.length := (List.getElem?_eq_some_iff.1 hi).1
    rw [List.getElem?_take, if_pos (by omega)]
    simp
theorem Tryz.infoA : (Tryz.prog.info? 75).map (fun i => (i.zero, i.size, i.bytes)) = some (some (.agg (aI fun _ => 0)), 256, 2048) := by kernel_rfl

end Go.Proofs.YtiegfnmpknmbmaaGreat

namespace Go.Proofs.YtiegfnmpknmbmaaGreat
open Go Go.RowKit Go.Shelf Go.Maps

end Go.Proofs.YtiegfnmpknmbmaaGreat
namespace Go.Proofs.YtiegfnmpknmbmaaGreat
open Go Go.RowKit
theorem regCell {C : World → Prop} {d : Bool} {T : Nat → Prop} {w : World} (hC : ∀ W, C W ↔ Move d T w W) {p : Addr} {v : Option Value} (hs : p.block < w.heap.size) (ht : ¬ T p.block) (h : w.cell? p = v) : ∀ W : { W // C W }, W.1.cell? p = v := fun W =>
  (((hC W.1).1 W.2).keeps.cell ⟨hs, ht⟩).trans h
theorem regSet {C : World → Prop} {w : World} (hC : ∀ W, C W ↔ Move false (fun _ => False) w W) {b : Nat} {s : BS} {t : TypeId} (h : Blk w b (encS s) t) :
    (∀ W : { W // C W }, W.1.cell? ⟨b, 0, none⟩ = some (.int .u64 (wd s 0).toNat)) ∧ (∀ W : { W // C W }, W.1.cell? ⟨b, 1, none⟩ = some (.int .u64 (wd s 1).toNat)) ∧
    (∀ W : { W // C W }, W.1.cell? ⟨b, 2, none⟩ = some (.int .u64 (wd s 2).toNat)) ∧ (∀ W : { W // C W }, W.1.cell? ⟨b, 3, none⟩ = some (.int .u64 (wd s 3).toNat)) := by
  have k := fun (W : { W // C W }) => (h.below ((hC W.1).1 W.2).below h.lt).set4
  exact ⟨fun W => (k W).1, fun W => (k W).2.1, fun W => (k W).2.2.1, fun W => (k W).2.2.2⟩
theorem calls_named {P : Program} {f : FuncId} {args : Array Value} {w : World} {R : Ending → World → Prop} (h : ∀ W, W = w → Calls P f args W R) : Calls P f args w R := h w rfl

end Go.Proofs.YtiegfnmpknmbmaaGreat
namespace Go.Proofs.YtiegfnmpknmbmaaGreat
open Go Go.RowKit Go.Shelf Go.Maps

theorem Keeps.setRow {R : Nat → Prop} {A B : World} (h : Keeps R A B) {g : Nat} (hp : ¬ R g) (c : Array Value) : Keeps R A (B.setRow g c) :=
  ⟨h.os, h.tape, h.output, Nat.le_trans h.size (by simp), fun k hk => (setRow_other B g k c (fun e => hp (e ▸ hk))).trans (h.keep k hk)⟩
def inR (f : Nat → Int) (x : Int) : Bool := decide (0 ≤ x) && decide (x < ((leastsTo f 256).length : Int))
theorem inR_some {f : Nat → Int} {x : Int} (h : inR f x = true) : ∃ n m : Nat, x = n ∧ (leastsTo f 256)[n]? = some m := by
  unfold inR at h
  simp only [Bool.and_eq_true, decide_eq_true_eq] at h
  obtain ⟨n, rfl⟩ := Int.eq_ofNat_of_zero_le h.1
  exact ⟨n, _, rfl, List.getElem?_eq_getElem (by have := h.2; omega)⟩
end Go.Proofs.YtiegfnmpknmbmaaGreat
