/-
  Worlds that keep some blocks ('Keeps'); iterators ('Seq': what a function that is ranged over does, for every loop body that keeps what the iterator reads) and the statement 'for .. := range f { .. }' over them ('wpIn_range', 'wp_range'). Conditions: the rounds do not panic.
-/
import Derived.Test.YtokkgbcjjaiaeaaLex
import Derived.RangeFuncIn
import Derived.RangeFuncLeaves
import Derived.RangeFuncNested
import Derived.RangeFuncSeq
import Derived.Lib.Hide
import Derived.Sort.Grow
import Derived.Deep.Draws
namespace Go.Proofs.Ytokkgbcjjaiaeaa
open Go Go.RowKit

/-- W' is W but for blocks outside R, new blocks and draws. -/
structure Keeps (R : Nat → Prop) (W W' : World) : Prop where
  os : W'.os = W.os
  tape : W'.tape = W.tape
  output : W'.output = W.output
  size : W.heap.size ≤ W'.heap.size
  keep : ∀ k, R k → W'.heap[k]? = W.heap[k]?

/-- W' is W but for new blocks and further draws. -/
structure Ext (W W' : World) : Prop where
  os : W'.os = W.os
  tape : W'.tape = W.tape
  output : W'.output = W.output
  drawn : W.drawn ≤ W'.drawn
  size : W.heap.size ≤ W'.heap.size
  keep : ∀ k, k < W.heap.size → W'.heap[k]? = W.heap[k]?

theorem Keeps.refl (R : Nat → Prop) (W : World) : Keeps R W W := ⟨rfl, rfl, rfl, Nat.le_refl _, fun _ _ => rfl⟩
theorem Keeps.mono {R R' : Nat → Prop} {W W' : World} (h : Keeps R W W') (hr : ∀ k, R' k → R k) : Keeps R' W W' := ⟨h.os, h.tape, h.output, h.size, fun k hk => h.keep k (hr k hk)⟩
theorem Ext.mono {R' : Nat → Prop} {W W' : World} (h : Ext W W') (hr : ∀ k, R' k → k < W.heap.size) : Keeps R' W W' := ⟨h.os, h.tape, h.output, h.size, fun k hk => h.keep k (hr k hk)⟩
theorem Ext.keeps {W W' : World} (h : Ext W W') : Keeps (· < W.heap.size) W W' := h.mono fun _ h => h
theorem Ext.below {W W' : World} (h : Ext W W') : Below W.heap.size W W' := ⟨h.os, h.tape, h.output, h.size, h.keep⟩
theorem Keeps.trans {R R' : Nat → Prop} {A B C : World} (h : Keeps R A B) (k : Keeps R' B C) (hr : ∀ k, R k → R' k) : Keeps R A C :=
  ⟨k.os.trans h.os, k.tape.trans h.tape, k.output.trans h.output, Nat.le_trans h.size k.size, fun i hi => (k.keep i (hr i hi)).trans (h.keep i hi)⟩
theorem Keeps.tr {R : Nat → Prop} {A B C : World} (h : Keeps R A B) (k : Keeps R B C) : Keeps R A C := h.trans k fun _ h => h
theorem Keeps.drew {R : Nat → Prop} {A B : World} (h : Keeps R A B) : Keeps R A B.drew := ⟨h.os, h.tape, h.output, h.size, h.keep⟩
theorem Keeps.drewN {R : Nat → Prop} {A B : World} (h : Keeps R A B) (n : Nat) : Keeps R A (B.drewN n) := ⟨h.os, h.tape, h.output, h.size, h.keep⟩
theorem Keeps.below {B : Nat} {W W' : World} (h : Keeps (· < B) W W') : Below B W W' := ⟨h.os, h.tape, h.output, h.size, h.keep⟩
theorem Keeps.of_below {B : Nat} {W W' : World} (h : Below B W W') {R : Nat → Prop} (hr : ∀ k, R k → k < B) : Keeps R W W' := ⟨h.os, h.tape, h.output, h.size, fun k hk => h.block k (hr k hk)⟩
theorem Keeps.of_grown {row : Option Nat} {W W' : World} (h : W.grownBy W' row) {R : Nat → Prop} (hr : ∀ k, R k → k < W.heap.size ∧ some k ≠ row) : Keeps R W W' := ⟨h.os, h.tape, h.output, h.size, fun k hk => h.block k (hr k hk).1 (hr k hk).2⟩
theorem Keeps.alloc {R : Nat → Prop} {A B : World} (h : Keeps R A B) (hr : ∀ k, R k → k < B.heap.size) (o : Obj) : Keeps R A (B.alloc o) :=
  ⟨h.os, h.tape, h.output, Nat.le_trans h.size (by simp), fun k hk => (Below.heap_alloc _ _ _ (hr k hk)).trans (h.keep k hk)⟩
theorem Keeps.setCell {R : Nat → Prop} {A B : World} (h : Keeps R A B) {p : Addr} (hp : ¬ R p.block) (u : Value) : Keeps R A (B.setCell p u) :=
  ⟨h.os, h.tape, h.output, Nat.le_trans h.size (by simp [World.setCell]), fun k hk => (Below.heap_setCell _ _ _ _ (fun e => hp (e ▸ hk))).trans (h.keep k hk)⟩
theorem Keeps.putObj {R : Nat → Prop} {A B : World} (h : Keeps R A B) {l : Nat} (hl : ¬ R l) (o : Obj) : Keeps R A (B.putObj l o) :=
  ⟨h.os, h.tape, h.output, Nat.le_trans h.size (by simp), fun k hk => (World.putObj_heap_other (by rintro rfl; exact hl hk)).trans (h.keep k hk)⟩
theorem Keeps.cell {R : Nat → Prop} {W W' : World} (h : Keeps R W W') {p : Addr} (hp : R p.block) : W'.cell? p = W.cell? p := World.cell?_of_block (w := W) (h.keep p.block hp)
theorem Keeps.frozen {R : Nat → Prop} {W W' : World} (h : Keeps R W W') {p : Addr} (hp : R p.block) : W'.frozen? p = W.frozen? p := World.frozen?_of_block (w := W) (h.keep p.block hp)
theorem Ext.cell {W W' : World} (h : Ext W W') {p : Addr} (hp : p.block < W.heap.size) : W'.cell? p = W.cell? p := World.cell?_of_block (w := W) (h.keep p.block hp)
theorem Ext.frozen {W W' : World} (h : Ext W W') {p : Addr} (hp : p.block < W.heap.size) : W'.frozen? p = W.frozen? p := World.frozen?_of_block (w := W) (h.keep p.block hp)
theorem Ext.trans {A B C : World} (h : Ext A B) (k : Ext B C) : Ext A C :=
  ⟨k.os.trans h.os, k.tape.trans h.tape, k.output.trans h.output, Nat.le_trans h.drawn k.drawn, Nat.le_trans h.size k.size, fun i hi => (k.keep i (Nat.lt_of_lt_of_le hi h.size)).trans (h.keep i hi)⟩
/-- The two rules that a walk wants of an extension. -/
theorem Ext.cells {A B : World} (h : Ext A B) : (∀ b o, b < A.heap.size → B.cell? ⟨b, o, none⟩ = A.cell? ⟨b, o, none⟩) ∧ (∀ b o, b < A.heap.size → B.frozen? ⟨b, o, none⟩ = A.frozen? ⟨b, o, none⟩) :=
  ⟨fun b o hb => h.cell (p := ⟨b, o, none⟩) hb, fun b o hb => h.frozen (p := ⟨b, o, none⟩) hb⟩
theorem belowCells {A B : World} (h : Below A.heap.size A B) : (∀ b o, b < A.heap.size → B.cell? ⟨b, o, none⟩ = A.cell? ⟨b, o, none⟩) ∧ (∀ b o, b < A.heap.size → B.frozen? ⟨b, o, none⟩ = A.frozen? ⟨b, o, none⟩) :=
  ⟨fun b o hb => h.cell (p := ⟨b, o, none⟩) hb, fun b o hb => h.frozen (p := ⟨b, o, none⟩) hb⟩
theorem Ext.alloc {A B : World} (h : Ext A B) (o : Obj) : Ext A (B.alloc o) :=
  ⟨h.os, h.tape, h.output, h.drawn, Nat.le_trans h.size (by simp), fun k hk => (Below.heap_alloc _ _ _ (Nat.lt_of_lt_of_le hk h.size)).trans (h.keep k hk)⟩
theorem Ext.drew {A B : World} (h : Ext A B) : Ext A B.drew := ⟨h.os, h.tape, h.output, Nat.le_succ_of_le h.drawn, h.size, h.keep⟩
theorem Ext.setCell {A B : World} (h : Ext A B) {p : Addr} (hp : A.heap.size ≤ p.block) (u : Value) : Ext A (B.setCell p u) :=
  ⟨h.os, h.tape, h.output, h.drawn, Nat.le_trans h.size (by simp [World.setCell]), fun k hk => (Below.heap_setCell _ _ _ _ (by omega)).trans (h.keep k hk)⟩
theorem Ext.putObj {A B : World} (h : Ext A B) {l : Nat} (hl : A.heap.size ≤ l) (o : Obj) : Ext A (B.putObj l o) :=
  ⟨h.os, h.tape, h.output, h.drawn, Nat.le_trans h.size (by simp), fun k hk => (World.putObj_heap_other (by omega)).trans (h.keep k hk)⟩
/-- .. with blocks, out of the two facts. -/
theorem Ext.of_keeps {A B : World} (h : Keeps (· < A.heap.size) A B) (hd : A.drawn ≤ B.drawn) : Ext A B := ⟨h.os, h.tape, h.output, hd, h.size, h.keep⟩
theorem Ext.refl (A : World) : Ext A A := ⟨rfl, rfl, rfl, Nat.le_refl _, Nat.le_refl _, fun _ _ => rfl⟩

/-- An extension, as an equation. -/
theorem Ext.grow {W W' : World} (h : Ext W W') : ∃ q os, W' = Sort.grow (W.drewN q) os := by
  refine ⟨W'.drawn - W.drawn, W'.heap.extract W.heap.size W'.heap.size, ?_⟩
  have hh : W'.heap = W.heap ++ W'.heap.extract W.heap.size W'.heap.size := by
    apply Array.ext_getElem?
    intro k
    rw [Array.getElem?_append]
    split
    · exact h.keep k ‹_›
    · rw [Array.getElem?_extract]
      have hs := h.size
      split
      · congr 1; omega
      · rw [Array.getElem?_eq_none]; omega
  have h1 := h.os
  have h2 := h.tape
  have h3 := h.output
  have h4 := h.drawn
  have h5 : W.drawn + (W'.drawn - W.drawn) = W'.drawn := by omega
  cases W with
  | mk a b c d e =>
  cases W' with
  | mk a' b' c' d' e' =>
    simp only [Sort.grow, World.drewN] at *
    subst h1 h2 h3
    rw [h5, ← hh]

/-- What is kept stays kept across an extension. -/
theorem Keeps.step {S : Nat → Prop} {A B C : World} (h : Keeps S A B) (hS : ∀ k, S k → k < A.heap.size) (hx : Ext B C) : Keeps S A C := h.tr (hx.mono fun k hk => Nat.lt_of_lt_of_le (hS k hk) h.size)
theorem Keeps.stepB {S : Nat → Prop} {A B C : World} (h : Keeps S A B) (hS : ∀ k, S k → k < A.heap.size) (hx : Below B.heap.size B C) : Keeps S A C := h.tr (Keeps.of_below hx fun k hk => Nat.lt_of_lt_of_le (hS k hk) h.size)

/-- Block b holds the cells c (of type t), all of them to be written. -/
def Blk (w : World) (b : Nat) (c : Array Value) (t : TypeId) : Prop := w.heap[b]? = some (.cells c t (0, 0))
theorem Blk.cell {w : World} {b : Nat} {c : Array Value} {t : TypeId} (h : Blk w b c t) (k : Nat) : w.cell? ⟨b, k, none⟩ = c[k]? := by unfold Blk at h; simp [World.cell?, h]
theorem Blk.frozen {w : World} {b : Nat} {c : Array Value} {t : TypeId} (h : Blk w b c t) (k : Nat) : w.frozen? ⟨b, k, none⟩ = false := by unfold Blk at h; simp [World.frozen?, h]
theorem Blk.lt {w : World} {b : Nat} {c : Array Value} {t : TypeId} (h : Blk w b c t) : b < w.heap.size := (Array.getElem?_eq_some_iff.1 h).1
theorem Blk.keeps {w w' : World} {b : Nat} {c : Array Value} {t : TypeId} (h : Blk w b c t) {R : Nat → Prop} (hk : Keeps R w w') (hb : R b) : Blk w' b c t := (hk.keep b hb).trans h
theorem Blk.ext {w w' : World} {b : Nat} {c : Array Value} {t : TypeId} (h : Blk w b c t) (hk : Ext w w') : Blk w' b c t := (hk.keep b h.lt).trans h
theorem Blk.below {w w' : World} {b n : Nat} {c : Array Value} {t : TypeId} (h : Blk w b c t) (hk : Below n w w') (hb : b < n) : Blk w' b c t := (hk.block b hb).trans h
theorem Blk.grown {w w' : World} {b : Nat} {c : Array Value} {t : TypeId} {row : Option Nat} (h : Blk w b c t) (hg : w.grownBy w' row) (hb : some b ≠ row) : Blk w' b c t := (hg.block b h.lt hb).trans h
theorem Blk.same {w w' : World} {b : Nat} {c : Array Value} {t : TypeId} (h : Blk w b c t) (hk : w'.heap[b]? = w.heap[b]?) : Blk w' b c t := hk.trans h
theorem Blk.alloc {w : World} {b : Nat} {c : Array Value} {t : TypeId} (h : Blk w b c t) (o : Obj) : Blk (w.alloc o) b c t := h.ext ((Ext.refl w).alloc o)
theorem Blk.new (w : World) (c : Array Value) (t : TypeId) : Blk (w.alloc (.cells c t (0, 0))) w.heap.size c t := World.alloc_heap_new w _
theorem Blk.at {w : World} {b b' : Nat} {c : Array Value} {t : TypeId} (h : Blk w b c t) (e : b = b') : Blk w b' c t := e ▸ h
theorem Blk.drew {w : World} {b : Nat} {c : Array Value} {t : TypeId} (h : Blk w b c t) : Blk w.drew b c t := h
theorem Blk.set {w : World} {b : Nat} {c : Array Value} {t : TypeId} (h : Blk w b c t) (k : Nat) (v : Value) : Blk (w.setCell ⟨b, k, none⟩ v) b (c.setIfInBounds k v) t := by
  unfold Blk at *
  simp [World.setCell, Array.getElem?_modify, h]
theorem Blk.other {w : World} {b : Nat} {c : Array Value} {t : TypeId} (h : Blk w b c t) {p : Addr} (hp : p.block ≠ b) (v : Value) : Blk (w.setCell p v) b c t := h.same (Below.heap_setCell _ _ _ _ (Ne.symm hp))
theorem Blk.put {w : World} {b : Nat} {c : Array Value} {t : TypeId} (h : Blk w b c t) {l : Nat} (hl : l ≠ b) (o : Obj) : Blk (w.putObj l o) b c t := h.same (World.putObj_heap_other (Ne.symm hl))
/-- What a block holds, as the laws on append ask it. -/
theorem news_blk {w : World} {b : Nat} {c : Array Value} {t : TypeId} (h : Blk w b c t) : ∀ j u, c.toList[j]? = some u → w.cell? ((⟨b, 0, none⟩ : Addr).add j) = some u := fun j u hu => by
  have hadd : (⟨b, 0, none⟩ : Addr).add j = ⟨b, j, none⟩ := by unfold Addr.add; split <;> simp_all
  rw [hadd, h.cell j]; simpa using hu
/-- Where new blocks lie. -/
theorem heap_alloc_if (w : World) (o : Obj) (k : Nat) : (w.alloc o).heap[k]? = if k = w.heap.size then some o else w.heap[k]? := by
  split
  · rename_i h; subst h; exact World.alloc_heap_new w o
  · show (w.heap.push o)[k]? = _
    rw [Array.getElem?_push]; split
    · omega
    · rfl
theorem cell_far (w : World) (p a : Addr) (v : Value) (h : p.block ≠ a.block) : (w.setCell p v).cell? a = w.cell? a := World.cell?_setCell_other _ _ _ _ (fun e => h (congrArg Addr.block e))

/-- The class of the worlds that keep some blocks of the world behind the draw. -/
theorem wp_region_lexK {P : Program} {id : Nat} {Q : Exit → Act → World → Prop} {a : Act} {w : World} {l : List Oper} (S : Nat → Prop) (hm : P.follows .mixedOrders = true) (eff : Nat → Bool) (hB : lexX .any l.toArray eff = true)
    (h : ∀ C : World → Prop, (∀ W, C W ↔ Keeps S w W) → Nonempty { W // C W } → ∀ w', Keeps S w w' → (∀ b : Nat, w'.heap[b]? = w.heap[b]?) → w'.heap.size = w.heap.size → Ext w w' → wpLex Fence.wide 0 P C l.toArray eff (fun a' w' => Q .normal a' w') l 0 a w') : (Code.region id l.toArray true).wp P Q a w :=
  have hk : Keeps S w w.drew := (Keeps.refl S w).drew
  wp_region_lex hm eff hB (Keeps S w) hk (h _ (fun _ => Iff.rfl) ⟨⟨_, hk⟩⟩ _ hk (fun _ => rfl) rfl (Ext.refl w).drew)
theorem wpIn_region_lexK {F : Fence} (hF : ∀ f, F.fn f) (hd : F.depth = none) {P : Program} {id : Nat} {Q : Exit → Act → World → Prop} {a : Act} {w : World} {l : List Oper} (S : Nat → Prop) (hm : P.follows .mixedOrders = true) (eff : Nat → Bool) (hB : lexX .any l.toArray eff = true)
    (h : ∀ C : World → Prop, (∀ W, C W ↔ Keeps S w W) → Nonempty { W // C W } → ∀ w', Keeps S w w' → (∀ b : Nat, w'.heap[b]? = w.heap[b]?) → w'.heap.size = w.heap.size → Ext w w' → wpLex F 0 P C l.toArray eff (fun a' w' => Q .normal a' w') l 0 a w') : (Code.region id l.toArray true).wpIn F 0 P Q a w :=
  have hk : Keeps S w w.drew := (Keeps.refl S w).drew
  wpIn_region_lex hF hd hm eff hB (Keeps S w) hk (h _ (fun _ => Iff.rfl) ⟨⟨_, hk⟩⟩ _ hk (fun _ => rfl) rfl (Ext.refl w).drew)
/-- A cell that is kept, in every world of the class. -/
theorem lexCell {C : World → Prop} {S : Nat → Prop} {w : World} (hC : ∀ W, C W ↔ Keeps S w W) {p : Addr} {v : Option Value} (hs : S p.block) (h : w.cell? p = v) : ∀ W : { W // C W }, W.1.cell? p = v := fun W => (((hC W.1).1 W.2).cell hs).trans h
theorem lexHeap {C : World → Prop} {S : Nat → Prop} {w : World} (hC : ∀ W, C W ↔ Keeps S w W) {b : Nat} {v : Option Obj} (hs : S b) (h : w.heap[b]? = v) : ∀ W : { W // C W }, W.1.heap[b]? = v := fun W => (((hC W.1).1 W.2).keep b hs).trans h

theorem wide_fn (f : FuncId) : Fence.wide.fn f = True := rfl
theorem wide_depth : Fence.wide.depth = none := rfl

/-- What the iterator may do between two rounds, T being its own blocks; d: no draw is taken back. -/
def Move (d : Bool) (T : Nat → Prop) (W W' : World) : Prop := Keeps (fun k => k < W.heap.size ∧ ¬ T k) W W' ∧ (d = true → W.drawn ≤ W'.drawn)
theorem Move.put {d : Bool} {T : Nat → Prop} {W : World} {l : Nat} (hl : T l) (o : Obj) : Move d T W (W.putObj l o) := ⟨(Keeps.refl _ _).putObj (fun h => h.2 hl) _, fun _ => Nat.le_refl _⟩
theorem Move.ext {d : Bool} {T : Nat → Prop} {W W' : World} (h : Ext W W') : Move d T W W' := ⟨h.mono fun _ h => h.1, fun _ => h.drawn⟩
theorem Move.refl (d : Bool) (T : Nat → Prop) (W : World) : Move d T W W := .ext (Ext.refl W)
theorem Move.mono {d : Bool} {T T' : Nat → Prop} {W W' : World} (h : Move d T W W') (ht : ∀ k, T k → T' k) : Move d T' W W' := ⟨h.1.mono fun k hk => ⟨hk.1, fun h => hk.2 (ht k h)⟩, h.2⟩

/-- J abides what happens to the blocks that are not its own (T: those that the iterator has laid, from B on), and new blocks. -/
def Stable {β : Type} (d : Bool) (B : Nat) (J : β → (Nat → Prop) → World → Prop) : Prop :=
  ∀ s T T' W W', J s T W → (∀ k, T k → B ≤ k ∧ k < W.heap.size) → (∀ k, T' k → B ≤ k ∧ k < W'.heap.size) → (∀ k, T k → T' k) → (∀ k, T' k → T k ∨ W.heap.size ≤ k) → Move d T W W' → J s T' W'

theorem Stable.and {d : Bool} {β : Type} {B : Nat} {J K : β → (Nat → Prop) → World → Prop} (h : Stable d B J) (k : Stable d B K) : Stable d B (fun s T W => J s T W ∧ K s T W) :=
  fun s T T' W W' hs h1 h2 h3 h4 h5 => ⟨h s T T' W W' hs.1 h1 h2 h3 h4 h5, k s T T' W W' hs.2 h1 h2 h3 h4 h5⟩
theorem Stable.weak {β : Type} {B : Nat} {J : β → (Nat → Prop) → World → Prop} (h : Stable false B J) (d : Bool) : Stable d B J := fun s T T' W W' hs h1 h2 h3 h4 h5 => h s T T' W W' hs h1 h2 h3 h4 ⟨h5.1, fun h => (by cases h)⟩
theorem Stable.ext {d : Bool} {β : Type} {B : Nat} {J : β → (Nat → Prop) → World → Prop} (h : Stable d B J) {s : β} {T : Nat → Prop} {W W' : World} (hj : J s T W) (hT : ∀ k, T k → B ≤ k ∧ k < W.heap.size) (hx : Ext W W') : J s T W' :=
  h s T T W W' hj hT (fun k hk => ⟨(hT k hk).1, Nat.lt_of_lt_of_le (hT k hk).2 hx.size⟩) (fun _ h => h) (fun _ h => .inl h) (.ext hx)
theorem Stable.below {β : Type} {B : Nat} {J : β → (Nat → Prop) → World → Prop} (h : Stable false B J) {s : β} {T : Nat → Prop} {W W' : World} (hj : J s T W) (hT : ∀ k, T k → B ≤ k ∧ k < W.heap.size) (hx : Below W.heap.size W W') : J s T W' :=
  h s T T W W' hj hT (fun k hk => ⟨(hT k hk).1, Nat.lt_of_lt_of_le (hT k hk).2 hx.size⟩) (fun _ h => h) (fun _ h => .inl h) ⟨Keeps.of_below hx fun _ h => h.1, fun h => (by cases h)⟩

theorem Blk.stab {d : Bool} {B : Nat} {T : Nat → Prop} {W W' : World} {b : Nat} {c : Array Value} {t : TypeId} (h : Blk W b c t) (hT : ∀ k, T k → B ≤ k ∧ k < W.heap.size) (hk : Move d T W W') (hb : b < B) : Blk W' b c t :=
  h.keeps hk.1 ⟨h.lt, fun ht => by have := (hT _ ht).1; omega⟩
theorem Blk.stabT {d : Bool} {T : Nat → Prop} {W W' : World} {b : Nat} {c : Array Value} {t : TypeId} (h : Blk W b c t) (hk : Move d T W W') (hb : ¬ T b) : Blk W' b c t := h.keeps hk.1 ⟨h.lt, hb⟩
theorem Ext.stab {B : Nat} {T : Nat → Prop} {A W W' : World} (h : Ext A W) (hT : ∀ k, T k → B ≤ k ∧ k < W.heap.size) (hk : Move true T W W') (hA : A.heap.size ≤ B) : Ext A W' :=
  ⟨hk.1.os.trans h.os, hk.1.tape.trans h.tape, hk.1.output.trans h.output, Nat.le_trans h.drawn (hk.2 rfl), Nat.le_trans h.size hk.1.size,
    fun k hk' => (hk.1.keep k ⟨Nat.lt_of_lt_of_le hk' h.size, fun ht => by have := (hT _ ht).1; omega⟩).trans (h.keep k hk')⟩
theorem belowStab {d : Bool} {B n : Nat} {T : Nat → Prop} {A W W' : World} (h : Below n A W) (hT : ∀ k, T k → B ≤ k ∧ k < W.heap.size) (hk : Move d T W W') (hn : n ≤ A.heap.size) (hB : n ≤ B) : Below n A W' :=
  ⟨hk.1.os.trans h.os, hk.1.tape.trans h.tape, hk.1.output.trans h.output, Nat.le_trans h.size hk.1.size, fun k hk' => (hk.1.keep k ⟨by have := h.size; omega, fun ht => by have := (hT _ ht).1; omega⟩).trans (h.block k hk')⟩
/-- A row of the call's own, that none of the iterator's blocks is. -/
theorem ownsRow_keeps {W W' : World} {base : Nat} {e : TypeId} {size : Nat} {v : Value} {n : Nat} {xs : List Value} (h : W.ownsRow base e size v n xs) {R : Nat → Prop} (hk : Keeps R W W') (hr : ∀ k, v.ownBlock = some k → R k) : W'.ownsRow base e size v n xs := by
  refine ⟨h.1, ?_⟩
  rcases h.2 with hn | ⟨g, cap, cur, rfl, hb, hgg, rest⟩
  · exact .inl hn
  · exact .inr ⟨g, cap, cur, rfl, hb, (hk.keep g (hr g rfl)).trans hgg, rest⟩

theorem ownsRow_form {W : World} {base : Nat} {e : TypeId} {size : Nat} {v : Value} {n : Nat} {xs : List Value} (h : W.ownsRow base e size v n xs) : ∃ a c, v = .slice a n c := by
  rcases h.2 with ⟨rfl, rfl⟩ | ⟨g, cap, cur, rfl, _⟩
  · exact ⟨none, 0, rfl⟩
  · exact ⟨_, cap, rfl⟩
theorem ownsRow_base {W : World} {base base' : Nat} {e : TypeId} {size : Nat} {v : Value} {n : Nat} {xs : List Value} (h : W.ownsRow base e size v n xs) (hb : base' ≤ base) : W.ownsRow base' e size v n xs := by
  refine ⟨h.1, ?_⟩
  rcases h.2 with hn | ⟨g, cap, cur, rfl, h1, rest⟩
  · exact .inl hn
  · exact .inr ⟨g, cap, cur, rfl, Nat.le_trans hb h1, rest⟩

section
variable {P : Program} {d : Bool}

/-- WHAT AN ITERATOR DOES: function g, bound to lb, hands the elements of xs to yield, in order, as 'encs' says, until a round says no; it reads the blocks of R, which the rounds must keep, beside those that it lays itself (T). -/
def Seq {α : Type} (d : Bool) (P : Program) (g : Nat) (lb : Array Value) (encs : α → Array Value) (R : Nat → Prop) (xs : List α) (w : World) : Prop :=
  ∀ (l : Nat) (J Jx : List α → (Nat → Prop) → World → Prop) (W : World), Keeps (· < w.heap.size) w W → Stable d W.heap.size J → Stable d W.heap.size Jx →
    (∀ pre x T W1, (pre ++ [x]) <+: xs → (∀ k, T k → W.heap.size ≤ k ∧ k < W1.heap.size) → Keeps R W W1 → J pre T W1 →
      YieldAt Fence.wide 0 P l (encs x) W1 fun e W' =>
        (e = .returned (.bool true) ∧ J (pre ++ [x]) T W' ∧ Keeps (fun k => R k ∨ T k) W1 W') ∨ (e = .returned (.bool false) ∧ Jx (pre ++ [x]) T W' ∧ Keeps T W1 W')) →
    J [] (fun _ => False) W →
    Calls P g (#[.func (.yield l) #[] #[]] ++ lb) W fun e W' => (∃ v, e = .returned v) ∧ ∃ T, (∀ k, T k → W.heap.size ≤ k ∧ k < W'.heap.size) ∧ (J xs T W' ∨ ∃ pre, pre <+: xs ∧ Jx pre T W')

theorem Seq.weak {α : Type} {P : Program} {g : Nat} {lb : Array Value} {encs : α → Array Value} {R : Nat → Prop} {xs : List α} {w : World} (h : Seq true P g lb encs R xs w) (d : Bool) : Seq d P g lb encs R xs w := by
  cases d with
  | true => exact h
  | false => exact fun l J Jx W hK hJ hJx => h l J Jx W hK (hJ.weak true) (hJx.weak true)

theorem Seq.at {α : Type} {P : Program} {d : Bool} {g : Nat} {lb : Array Value} {encs : α → Array Value} {R : Nat → Prop} {xs : List α} {w w' : World} (h : Seq d P g lb encs R xs w) (hk : Keeps (· < w.heap.size) w w') : Seq d P g lb encs R xs w' :=
  fun l J Jx W hK => h l J Jx W (hk.tr (hK.mono fun _ hk' => Nat.lt_of_lt_of_le hk' hk.size))

/-- How the body of a round may be left. -/
def roundQ {α : Type} (R T : Nat → Prop) (W0 : World) (I : List α → (Nat → Prop) → World → Prop) (Ix : Code → List α → (Nat → Prop) → World → Prop) (xs : List α) : Exit → Act → World → Prop
  | .normal, _, W' => Keeps (fun k => R k ∨ T k) W0 W' ∧ I xs T W'
  | .ret, _, W' => Keeps T W0 W' ∧ Ix .ret xs T W'
  | .exit id, _, W' => Keeps T W0 W' ∧ Ix (.exit id) xs T W'
  | .goto t, _, W' => Keeps T W0 W' ∧ Ix (.goto t) xs T W'
  | .panic _, _, _ => False
  | .outgrown, _, _ => False

variable {F : Fence}

/-- The statement, from the world in which the record l has been laid on. -/
theorem range_core {α : Type} (hF : ∀ f, F.fn f) (hC : ∀ {f args w R}, Calls P f args w R → CallsIn F 0 P f args w R) (hYd : ∀ {l f tmps asg body w R}, RoundIn F 0 P l f tmps asg body w R → RoundIn Fence.wide 0 P l f tmps asg body w R)
    {gf : Nat} {lb : Array Value} {encs : α → Array Value} {R : Nat → Prop} {xs : List α} {w : World} (hseq : Seq d P gf lb encs R xs w)
    {ps : Array Tmp} {assign body : Code} {fn : FuncId} (tmps : Array Value) (dfr : Nat) (hps : ∀ x, (encs x).size = ps.size) (hRw : ∀ k, R k → k < w.heap.size)
    (l : Nat) (T0 : Nat → Prop) (hT0 : ∀ k, T0 k → w.heap.size ≤ k ∧ k < l + 1) (hlT : T0 l) (W1 : World) (hls : W1.heap.size = l + 1)
    (hl : W1.heap[l]? = some (.loop { state := .ready, pending := none, fn, tmps, params := ps, assign, body, defers := dfr })) (hW1 : Ext w W1)
    (I : List α → (Nat → Prop) → World → Prop) (Ix : Code → List α → (Nat → Prop) → World → Prop) (hI : Stable d w.heap.size I) (hIx : ∀ c, Stable d w.heap.size (Ix c)) (h0 : I [] T0 W1)
    (Ia : List α × α × Act → (Nat → Prop) → World → Prop) (hIa : Stable d w.heap.size Ia)
    (hassign : ∀ pre x T W, pre ++ [x] <+: xs → (∀ k, T0 k → T k) → (∀ k, T k → w.heap.size ≤ k ∧ k < W.heap.size) → Keeps R w W → I pre T W →
      assign.wpIn (F.inRound l) 0 P (Exit.then (fun a1 W' => Keeps (fun k => R k ∨ T k) W W' ∧ Ia (pre, x, a1) T W') (fun _ _ _ => False)) { tmps := (ps.zip (encs x)).foldl (fun t (p, v) => t.setIfInBounds p v) tmps, defers := [] } W)
    (hbody : ∀ pre x T a1 W, pre ++ [x] <+: xs → (∀ k, T0 k → T k) → (∀ k, T k → w.heap.size ≤ k ∧ k < W.heap.size) → Keeps R w W → (∃ r : Loop, W.heap[l]? = some (.loop r) ∧ r.defers = dfr) → Ia (pre, x, a1) T W →
      body.wpIn (F.inRound l) 0 P (roundQ R T W I Ix (pre ++ [x])) a1 W) :
    CallsIn F 0 P gf (#[.func (.yield l) #[] #[]] ++ lb) W1 fun e W3 => (∃ v, e = .returned v) ∧ ∃ T W4 jump, (Instr.endLoop l).run P W3 = .ok jump W4 ∧ (∀ k, T0 k → T k) ∧ (∀ k, T k → w.heap.size ≤ k ∧ k < W4.heap.size) ∧
      (∀ k, T0 k → k ≠ l → W4.heap[k]? = W1.heap[k]?) ∧ Keeps (fun k => R k ∨ T0 k) W1 W1 ∧
      match jump with
      | none => I xs T W4
      | some c => ∃ pre, pre <+: xs ∧ Ix c pre T W4 := by
  obtain ⟨rec, hrec⟩ : ∃ rec : LoopState → Option Code → Loop, rec = fun st pe => { state := st, pending := pe, fn, tmps, params := ps, assign, body, defers := dfr } := ⟨_, rfl⟩
  have hl1 : W1.heap[l]? = some (.loop (rec .ready none)) := by rw [hrec]; exact hl
  have hTu : ∀ {T : Nat → Prop} {W : World}, (∀ k, T k → W1.heap.size ≤ k ∧ k < W.heap.size) → l < W.heap.size → ∀ k, (T k ∨ T0 k) → w.heap.size ≤ k ∧ k < W.heap.size := fun hT hlW k hk => by
    have hsz := hW1.size
    rcases hk with hk | hk
    · have := hT k hk; omega
    · have := hT0 k hk; omega
  -- the invariant with the record beside it
  have hstabG : ∀ {β : Type} {G : β → (Nat → Prop) → World → Prop} (rs : β → Loop → Prop), Stable d w.heap.size G →
      Stable d W1.heap.size (fun (s : β) T W => G s (fun k => T k ∨ T0 k) W ∧ (∃ r, rs s r ∧ W.heap[l]? = some (.loop r)) ∧ (∀ k, T0 k → k ≠ l → W.heap[k]? = W1.heap[k]?) ∧ l < W.heap.size) := by
    intro β G rs hG s T T' W W' hs h1 h2 h3 h4 h5
    obtain ⟨hg, ⟨r, hr, hlW⟩, hk, hlt⟩ := hs
    have hkeepl : ∀ k, T0 k → W'.heap[k]? = W.heap[k]? := fun k hk => h5.1.keep k ⟨by have := (hT0 k hk).2; omega, fun ht => by have := (h1 k ht).1; have := (hT0 k hk).2; omega⟩
    refine ⟨hG s _ _ W W' hg (hTu h1 hlt) (hTu h2 (Nat.lt_of_lt_of_le hlt h5.1.size)) (fun k hk => hk.imp (h3 k) id) (fun k hk => ?_) (h5.mono fun k hk => .inl hk), ⟨r, hr, (hkeepl l hlT).trans hlW⟩, fun k hk0 hne => (hkeepl k hk0).trans (hk k hk0 hne), Nat.lt_of_lt_of_le hlt h5.1.size⟩
    rcases hk with hk | hk
    · exact (h4 k hk).imp .inl id
    · exact .inl (.inr hk)
  have hrl : ¬ R l := fun h => by have := hRw l h; have := (hT0 l hlT).1; omega
  refine CallsIn.mono (hC (hseq l (fun pre T W => I pre (fun k => T k ∨ T0 k) W ∧ (∃ r, r = rec .ready none ∧ W.heap[l]? = some (.loop r)) ∧ (∀ k, T0 k → k ≠ l → W.heap[k]? = W1.heap[k]?) ∧ l < W.heap.size)
    (fun pre T W => ∃ c, Ix c pre (fun k => T k ∨ T0 k) W ∧ (∃ r, r = rec .done (some c) ∧ W.heap[l]? = some (.loop r)) ∧ (∀ k, T0 k → k ≠ l → W.heap[k]? = W1.heap[k]?) ∧ l < W.heap.size)
    W1 hW1.keeps (hstabG (fun _ r => r = rec .ready none) hI)
    (fun s T T' W W' ⟨c, hc⟩ h1 h2 h3 h4 h5 => ⟨c, hstabG (fun _ r => r = rec .done (some c)) (hIx c) s T T' W W' hc h1 h2 h3 h4 h5⟩) ?_
    ⟨hI _ _ _ W1 W1 h0 (fun k hk => ⟨(hT0 k hk).1, by have := (hT0 k hk).2; omega⟩) (hTu (fun _ h => h.elim) (by omega)) (fun k hk => .inr hk) (fun k hk => .inl (hk.resolve_left id)) (Move.refl _ _ _), ⟨_, rfl, hl1⟩, fun _ _ _ => rfl, by omega⟩)) ?_
  · -- one round
    rintro pre x T W hpre hT hRW ⟨hi, ⟨r0, hr0, hlW⟩, hkD, hlt⟩
    subst hr0
    have hy := run_yield (P := P) (args := encs x) hlW (by rw [hrec]; exact hps x)
    rw [hrec] at hy
    have hTT := hTu hT hlt
    have hRW' : Keeps R w W := (hW1.mono hRw).tr hRW
    refine ⟨fn, _, assign, body, hy, hYd (roundIn_of_wpIn (hF fn) (wpIn_mono (hassign pre x _ W hpre (fun k hk => .inr hk) hTT hRW' hi) ?_))⟩
    rintro e a1 Wa hp
    cases e with
    | normal =>
      obtain ⟨hka, hia⟩ := hp
      have hla : Wa.heap[l]? = some (.loop (rec .ready none)) := (hka.keep l (.inr (.inr hlT))).trans hlW
      have hlta : l < Wa.heap.size := Nat.lt_of_lt_of_le hlt hka.size
      refine ⟨_, run_beginRound hla (by rw [hrec]), ?_⟩
      obtain ⟨Wb, hWb⟩ : ∃ Wb, Wb = Wa.putObj l (.loop { rec .ready none with state := .busy }) := ⟨_, rfl⟩
      rw [← hWb]
      have hsb : Wb.heap.size = Wa.heap.size := by rw [hWb]; simp
      have hlb : Wb.heap[l]? = some (.loop { rec .ready none with state := .busy }) := by rw [hWb]; exact World.putObj_heap_same hlta
      have hab : ∀ {S : Nat → Prop}, ¬ S l → Keeps S Wa Wb := fun hS => by rw [hWb]; exact (Keeps.refl _ _).putObj hS _
      have hTTa : ∀ k, (T k ∨ T0 k) → w.heap.size ≤ k ∧ k < Wa.heap.size := fun k hk => ⟨(hTT k hk).1, Nat.lt_of_lt_of_le (hTT k hk).2 hka.size⟩
      have hib : Ia (pre, x, a1) (fun k => T k ∨ T0 k) Wb := hIa _ _ _ Wa Wb hia hTTa (fun k hk => by rw [hsb]; exact hTTa k hk) (fun _ h => h) (fun _ h => .inl h) (by rw [hWb]; exact .put (.inr hlT) _)
      have hRWb : Keeps R w Wb := hRW'.tr ((hka.mono fun k hk => .inl hk).tr (hab hrl))
      refine wpIn_mono (hbody pre x _ a1 Wb hpre (fun k hk => .inr hk) (fun k hk => by rw [hsb]; exact hTTa k hk) hRWb ⟨_, hlb, by rw [hrec]⟩ hib) ?_
      -- the round's end
      have fin : ∀ (jump : Option Code) (Wc : World) (G : (Nat → Prop) → World → Prop), (∀ T T' W W', G T W → (∀ k, T k → w.heap.size ≤ k ∧ k < W.heap.size) → (∀ k, T' k → w.heap.size ≤ k ∧ k < W'.heap.size) → (∀ k, T k → T' k) → (∀ k, T' k → T k ∨ W.heap.size ≤ k) → Move d T W W' → G T' W') →
          Keeps (fun k => T k ∨ T0 k) Wb Wc → G (fun k => T k ∨ T0 k) Wc →
          ∃ Wd, (Instr.endRound l jump).run P Wc = .ok (.bool jump.isNone) Wd ∧ G (fun k => T k ∨ T0 k) Wd ∧ Wd.heap[l]? = some (.loop (rec (if jump.isNone then .ready else .done) jump)) ∧ (∀ k, T0 k → k ≠ l → Wd.heap[k]? = W1.heap[k]?) ∧ l < Wd.heap.size ∧ Keeps T W Wd ∧ (∀ S : Nat → Prop, ¬ S l → Keeps S Wb Wc → Keeps S Wa Wd) := by
        intro jump Wc G hG hkc hg
        have hlc : Wc.heap[l]? = some (.loop { rec .ready none with state := .busy }) := (hkc.keep l (.inr hlT)).trans hlb
        have hltc : l < Wc.heap.size := by rw [← hsb] at hlta; exact Nat.lt_of_lt_of_le hlta hkc.size
        have hend := run_endRound (P := P) jump hlc
        rw [hrec] at hend ⊢
        have hTTc : ∀ k, (T k ∨ T0 k) → w.heap.size ≤ k ∧ k < Wc.heap.size := fun k hk => ⟨(hTTa k hk).1, by have := (hTTa k hk).2; rw [← hsb] at this; exact Nat.lt_of_lt_of_le this hkc.size⟩
        have hcd : ∀ {S : Nat → Prop}, ¬ S l → Keeps S Wa (Wc.putObj l (.loop (rec (if jump.isNone then .ready else .done) jump))) ∨ ¬ Keeps S Wb Wc := fun {S} hS => by
          by_cases h : Keeps S Wb Wc
          · exact .inl (((hab hS).tr h).putObj hS _)
          · exact .inr h
        have hTl : ¬ T l := fun h => by have := (hT l h).1; omega
        rw [hrec] at hcd
        refine ⟨_, hend, hG _ _ Wc _ hg hTTc (fun k hk => by simpa using hTTc k hk) (fun _ h => h) (fun _ h => .inl h) (.put (.inr hlT) _), World.putObj_heap_same hltc, fun k hk hne => ?_, by simpa using hltc, ?_, fun S hS hk => (hcd hS).resolve_right (fun h => h hk)⟩
        · rw [World.putObj_heap_other hne, hkc.keep k (.inr hk), hWb, World.putObj_heap_other hne, hka.keep k (.inr (.inr hk))]
          exact hkD k hk hne
        · exact (hka.mono fun k hk => .inr (.inl hk)).tr ((hcd hTl).resolve_right (fun h => h (hkc.mono fun k hk => .inl hk)))
      rintro e a3 Wc hp
      cases e with
      | normal =>
        obtain ⟨hkc, hic⟩ := hp
        obtain ⟨Wd, hend, hg, hlD, hkD', hltD, hTk, hS⟩ := fin none Wc (I (pre ++ [x])) (fun T T' W W' => hI (pre ++ [x]) T T' W W') (hkc.mono fun k hk => .inr hk) hic
        refine ⟨_, Wd, hend, .inl ⟨rfl, ⟨hg, ⟨_, rfl, hlD⟩, hkD', hltD⟩, ?_⟩⟩
        have hTl : ¬ (R l ∨ T l) := fun h => h.elim hrl (fun h => by have := (hT l h).1; omega)
        exact (hka.mono fun k hk => hk.imp id .inl).tr (hS _ hTl (hkc.mono fun k hk => hk.imp id .inl))
      | ret =>
        obtain ⟨hkc, hic⟩ := hp
        obtain ⟨Wd, hend, hg, hlD, hkD', hltD, hTk, hS⟩ := fin (some .ret) Wc (Ix .ret (pre ++ [x])) (fun T T' W W' => hIx .ret (pre ++ [x]) T T' W W') hkc hic
        exact ⟨_, Wd, hend, .inr ⟨rfl, ⟨_, hg, ⟨_, rfl, hlD⟩, hkD', hltD⟩, hTk⟩⟩
      | exit id =>
        obtain ⟨hkc, hic⟩ := hp
        obtain ⟨Wd, hend, hg, hlD, hkD', hltD, hTk, hS⟩ := fin (some (.exit id)) Wc (Ix (.exit id) (pre ++ [x])) (fun T T' W W' => hIx (.exit id) (pre ++ [x]) T T' W W') hkc hic
        exact ⟨_, Wd, hend, .inr ⟨rfl, ⟨_, hg, ⟨_, rfl, hlD⟩, hkD', hltD⟩, hTk⟩⟩
      | goto t =>
        obtain ⟨hkc, hic⟩ := hp
        obtain ⟨Wd, hend, hg, hlD, hkD', hltD, hTk, hS⟩ := fin (some (.goto t)) Wc (Ix (.goto t) (pre ++ [x])) (fun T T' W W' => hIx (.goto t) (pre ++ [x]) T T' W W') hkc hic
        exact ⟨_, Wd, hend, .inr ⟨rfl, ⟨_, hg, ⟨_, rfl, hlD⟩, hkD', hltD⟩, hTk⟩⟩
      | panic ch => exact hp.elim
      | outgrown => exact hp.elim
    | exit id => exact hp.elim
    | goto t => exact hp.elim
    | ret => exact hp.elim
    | panic ch => exact hp.elim
    | outgrown => exact hp.elim
  · -- behind the iterator
    rintro e W2 ⟨hv, T, hT, h⟩
    refine ⟨hv, fun k => T k ∨ T0 k, ?_⟩
    have fin : ∀ (st : LoopState) (jump : Option Code) (G : (Nat → Prop) → World → Prop), st ≠ .busy → (∀ T T' W W', G T W → (∀ k, T k → w.heap.size ≤ k ∧ k < W.heap.size) → (∀ k, T' k → w.heap.size ≤ k ∧ k < W'.heap.size) → (∀ k, T k → T' k) → (∀ k, T' k → T k ∨ W.heap.size ≤ k) → Move d T W W' → G T' W') →
        G (fun k => T k ∨ T0 k) W2 → W2.heap[l]? = some (.loop (rec st jump)) → (∀ k, T0 k → k ≠ l → W2.heap[k]? = W1.heap[k]?) → l < W2.heap.size →
        ∃ W4, (Instr.endLoop l).run P W2 = .ok jump W4 ∧ (∀ k, (T k ∨ T0 k) → w.heap.size ≤ k ∧ k < W4.heap.size) ∧ (∀ k, T0 k → k ≠ l → W4.heap[k]? = W1.heap[k]?) ∧ G (fun k => T k ∨ T0 k) W4 := by
      intro st jump G hst hG hg hl2 hk2 hlt2
      have hend := run_endLoop (P := P) hl2 (by rw [hrec]; exact hst)
      rw [hrec] at hend
      have hTT := hTu hT hlt2
      exact ⟨_, hend, fun k hk => by simpa using hTT k hk, fun k hk hne => (World.putObj_heap_other hne).trans (hk2 k hk hne), hG _ _ W2 _ hg hTT (fun k hk => by simpa using hTT k hk) (fun _ h => h) (fun _ h => .inl h) (.put (.inr hlT) _)⟩
    rcases h with ⟨hi, ⟨r, hr, hl2⟩, hk2, hlt2⟩ | ⟨pre, hpre, c, hi, ⟨r, hr, hl2⟩, hk2, hlt2⟩
    · subst hr
      obtain ⟨W4, h1, h2, h3, h4⟩ := fin .ready none (I xs) (by decide) (fun T T' W W' => hI xs T T' W W') hi hl2 hk2 hlt2
      exact ⟨W4, none, h1, fun k hk => .inr hk, h2, h3, Keeps.refl _ _, h4⟩
    · subst hr
      obtain ⟨W4, h1, h2, h3, h4⟩ := fin .done (some c) (Ix c pre) (by decide) (fun T T' W W' => hIx c pre T T' W W') hi hl2 hk2 hlt2
      exact ⟨W4, some c, h1, fun k hk => .inr hk, h2, h3, Keeps.refl _ _, pre, hpre, h4⟩

/-- The world under a name. -/
theorem wp_named {c : Code} {Q : Exit → Act → World → Prop} {a : Act} {w : World} (h : ∀ W, W = w → c.wp P Q a W) : c.wp P Q a w := h w rfl
theorem wpIn_named {F : Fence} {n : Nat} {c : Code} {Q : Exit → Act → World → Prop} {a : Act} {w : World} (h : ∀ W, W = w → c.wpIn F n P Q a W) : c.wpIn F n P Q a w := h w rfl

/-- **THE STATEMENT 'for .. := range f { .. }'.** -/
theorem wp_range {α : Type} {g : Operand} {ps : Array Tmp} {assign body : Code} {Q : Exit → Act → World → Prop} {a : Act} {w : World} {gf : Nat} {lb : Array Value} {encs : α → Array Value} {R : Nat → Prop} {xs : List α}
    (hseq : Seq d P gf lb encs R xs w) (hg : a.eval g = .func (.func gf) #[] lb) (eg : ∀ args w, (callFunc gf args).run P w = .ok (.enter gf args) w) (hps : ∀ x, (encs x).size = ps.size) (hRw : ∀ k, R k → k < w.heap.size)
    (I : List α → (Nat → Prop) → World → Prop) (Ix : Code → List α → (Nat → Prop) → World → Prop) (hI : Stable d w.heap.size I) (hIx : ∀ c, Stable d w.heap.size (Ix c)) (h0 : I [] (fun _ => False) w)
    (Ia : List α × α × Act → (Nat → Prop) → World → Prop) (hIa : Stable d w.heap.size Ia)
    (hassign : ∀ l pre x T W, pre ++ [x] <+: xs → (∀ k, T k → w.heap.size ≤ k ∧ k < W.heap.size) → Keeps R w W → I pre T W →
      assign.wpIn (Fence.wide.inRound l) 0 P (Exit.then (fun a1 W' => Keeps (fun k => R k ∨ T k) W W' ∧ Ia (pre, x, a1) T W') (fun _ _ _ => False)) { tmps := (ps.zip (encs x)).foldl (fun t (p, v) => t.setIfInBounds p v) a.tmps, defers := [] } W)
    (hbody : ∀ l pre x T a1 W, pre ++ [x] <+: xs → (∀ k, T k → w.heap.size ≤ k ∧ k < W.heap.size) → Keeps R w W → T l → (∃ r : Loop, W.heap[l]? = some (.loop r)) → Ia (pre, x, a1) T W →
      body.wpIn (Fence.wide.inRound l) 0 P (roundQ R T W I Ix (pre ++ [x])) a1 W)
    (hdone : ∀ D T W, w.heap.size ≤ D → T D → (∀ k, T k → w.heap.size ≤ k ∧ k < W.heap.size) → I xs T W → W.heap[D]? = some (.deferred (some [])) → Q .normal { a with defers := { target := .collected D, args := #[] } :: a.defers } W)
    (hstop : ∀ D c pre T W, w.heap.size ≤ D → T D → (∀ k, T k → w.heap.size ≤ k ∧ k < W.heap.size) → pre <+: xs → Ix c pre T W → W.heap[D]? = some (.deferred (some [])) → c.wp P Q { a with defers := { target := .collected D, args := #[] } :: a.defers } W) :
    (Code.rangeFunc g ps assign body).wp P Q a w := by
  refine wpIn_wide.1 (wpIn_rangeFunc (n := 0) ?_)
  intro fn hfn
  obtain ⟨W1, hW1⟩ : ∃ W1, W1 = (w.alloc (.deferred (some []))).alloc (.loop { state := .ready, pending := none, fn, tmps := a.tmps, params := ps, assign, body, defers := w.heap.size }) := ⟨_, rfl⟩
  have hL1 : W1.heap[w.heap.size + 1]? = some (.loop { state := .ready, pending := none, fn, tmps := a.tmps, params := ps, assign, body, defers := w.heap.size }) := by
    rw [hW1]; have := World.alloc_heap_new (w.alloc (.deferred (some []))) (.loop { state := .ready, pending := none, fn, tmps := a.tmps, params := ps, assign, body, defers := w.heap.size }); rwa [World.size_alloc] at this
  have hK1 : W1.heap[w.heap.size]? = some (.deferred (some [])) := by
    rw [hW1]; exact (Below.heap_alloc _ _ _ (by simp)).trans (World.alloc_heap_new w _)
  have hsz : W1.heap.size = w.heap.size + 1 + 1 := by rw [hW1]; simp
  have hx1 : Ext w W1 := by rw [hW1]; exact ((Ext.refl w).alloc _).alloc _
  refine ⟨w.heap.size + 1, [{ target := .collected w.heap.size, args := #[] }], W1, { target := .fn (.func gf) lb, args := #[.func (.yield (w.heap.size + 1)) #[] #[]] }, W1, gf,
    #[.func (.yield (w.heap.size + 1)) #[] #[]] ++ lb, W1, ?_, ?_, ?_, ?_, fun h => (by cases h), ?_⟩
  · rw [hW1]; exact run_enterLoop_outer _ _ _ _ _
  · simp only [resolve, hg]
    simp [go_sem]
  · intro f' _; trivial
  · simp [invoke, go_sem, eg]
  · refine (range_core (F := Fence.wide) (fun _ => trivial) (fun h => callsIn_wide.2 h) (fun h => h) hseq a.tmps w.heap.size hps hRw (w.heap.size + 1) (fun k => k = w.heap.size ∨ k = w.heap.size + 1) (fun k hk => by omega) (.inr rfl) W1 hsz hL1 hx1 I Ix hI hIx
      (hI _ _ _ w W1 h0 (fun _ h => h.elim) (fun k hk => by omega) (fun _ h => h.elim) (fun k hk => .inr (by omega)) (.ext hx1)) Ia hIa
      (fun pre x T W h1 _ h3 h4 h5 => hassign _ pre x T W h1 h3 h4 h5) (fun pre x T a1 W h1 h2 h3 h4 ⟨r, h5, _⟩ h6 => hbody _ pre x T a1 W h1 h3 h4 (h2 _ (.inr rfl)) ⟨r, h5⟩ h6)).mono ?_
    rintro e W3 ⟨⟨v, rfl⟩, T, W4, jump, hend, hT0, hT, hk, _, hj⟩
    refine ⟨jump, W4, hend, ?_⟩
    have hD : W4.heap[w.heap.size]? = some (.deferred (some [])) := (hk _ (.inl rfl) (by omega)).trans hK1
    cases jump with
    | none => exact hdone _ T W4 (Nat.le_refl _) (hT0 _ (.inl rfl)) hT hj hD
    | some c =>
      obtain ⟨pre, hpre, hx⟩ := hj
      exact wpIn_wide.2 (hstop _ c pre T W4 (Nat.le_refl _) (hT0 _ (.inl rfl)) hT hpre hx hD)

/-- .. within a round of the loop l₀. -/
theorem wpIn_range {α : Type} {g : Operand} {ps : Array Tmp} {assign body : Code} {Q : Exit → Act → World → Prop} {a : Act} {w : World} {gf : Nat} {lb : Array Value} {encs : α → Array Value} {R : Nat → Prop} {xs : List α} {l₀ : Nat} (hl₀ : ∃ r₀ : Loop, w.heap[l₀]? = some (.loop r₀))
    (hseq : Seq d P gf lb encs R xs w) (hg : a.eval g = .func (.func gf) #[] lb) (eg : ∀ args w, (callFunc gf args).run P w = .ok (.enter gf args) w) (hps : ∀ x, (encs x).size = ps.size) (hRw : ∀ k, R k → k < w.heap.size)
    (I : List α → (Nat → Prop) → World → Prop) (Ix : Code → List α → (Nat → Prop) → World → Prop) (hI : Stable d w.heap.size I) (hIx : ∀ c, Stable d w.heap.size (Ix c)) (h0 : I [] (fun _ => False) w)
    (Ia : List α × α × Act → (Nat → Prop) → World → Prop) (hIa : Stable d w.heap.size Ia)
    (hassign : ∀ l pre x T W, pre ++ [x] <+: xs → (∀ k, T k → w.heap.size ≤ k ∧ k < W.heap.size) → Keeps R w W → I pre T W →
      assign.wpIn (Fence.wide.inRound l) 0 P (Exit.then (fun a1 W' => Keeps (fun k => R k ∨ T k) W W' ∧ Ia (pre, x, a1) T W') (fun _ _ _ => False)) { tmps := (ps.zip (encs x)).foldl (fun t (p, v) => t.setIfInBounds p v) a.tmps, defers := [] } W)
    (hbody : ∀ l pre x T a1 W, pre ++ [x] <+: xs → (∀ k, T k → w.heap.size ≤ k ∧ k < W.heap.size) → Keeps R w W → T l → (∃ r : Loop, W.heap[l]? = some (.loop r)) → Ia (pre, x, a1) T W →
      body.wpIn (Fence.wide.inRound l) 0 P (roundQ R T W I Ix (pre ++ [x])) a1 W)
    (hdone : ∀ T W, (∀ k, T k → w.heap.size ≤ k ∧ k < W.heap.size) → I xs T W → Q .normal a W)
    (hstop : ∀ c pre T W, (∀ k, T k → w.heap.size ≤ k ∧ k < W.heap.size) → pre <+: xs → Ix c pre T W → c.wpIn (Fence.wide.inRound l₀) 0 P Q a W) :
    (Code.rangeFunc g ps assign body).wpIn (Fence.wide.inRound l₀) 0 P Q a w := by
  obtain ⟨r₀, hl₀⟩ := hl₀
  refine wpIn_rangeFunc (n := 0) ?_
  intro fn hfn
  obtain ⟨W1, hW1⟩ : ∃ W1, W1 = w.alloc (.loop { state := .ready, pending := none, fn, tmps := a.tmps, params := ps, assign, body, defers := r₀.defers }) := ⟨_, rfl⟩
  have hL1 : W1.heap[w.heap.size]? = some (.loop { state := .ready, pending := none, fn, tmps := a.tmps, params := ps, assign, body, defers := r₀.defers }) := by
    rw [hW1]; exact World.alloc_heap_new w _
  have hsz : W1.heap.size = w.heap.size + 1 := by rw [hW1]; simp
  have hx1 : Ext w W1 := by rw [hW1]; exact (Ext.refl w).alloc _
  refine ⟨w.heap.size, [], W1, { target := .fn (.func gf) lb, args := #[.func (.yield w.heap.size) #[] #[]] }, W1, gf,
    #[.func (.yield w.heap.size) #[] #[]] ++ lb, W1, ?_, ?_, ?_, ?_, fun h => (by cases h), ?_⟩
  · rw [hW1]; exact run_enterLoop_inner hl₀ _ _ _ _ _
  · simp only [resolve, hg]
    simp [go_sem]
  · intro f' _; trivial
  · simp [invoke, go_sem, eg]
  · refine (range_core (F := Fence.wide.inRound l₀) (fun _ => trivial) (fun h => callsIn_wide.2 h) (fun h => h) hseq a.tmps r₀.defers hps hRw w.heap.size (fun k => k = w.heap.size) (fun k hk => by omega) rfl W1 hsz hL1 hx1 I Ix hI hIx
      (hI _ _ _ w W1 h0 (fun _ h => h.elim) (fun k hk => by omega) (fun _ h => h.elim) (fun k hk => .inr (by omega)) (.ext hx1)) Ia hIa
      (fun pre x T W h1 _ h3 h4 h5 => hassign _ pre x T W h1 h3 h4 h5) (fun pre x T a1 W h1 h2 h3 h4 ⟨r, h5, _⟩ h6 => hbody _ pre x T a1 W h1 h3 h4 (h2 _ rfl) ⟨r, h5⟩ h6)).mono ?_
    rintro e W3 ⟨⟨v, rfl⟩, T, W4, jump, hend, hT0, hT, hk, _, hj⟩
    refine ⟨jump, W4, hend, ?_⟩
    cases jump with
    | none => exact hdone T W4 hT hj
    | some c =>
      obtain ⟨pre, hpre, hx⟩ := hj
      exact hstop c pre T W4 hT hpre hx

/-- **THE STATEMENT**, where the assignment to the loop's left sides turns temporaries alone. -/
theorem wp_range1 {α : Type} {g : Operand} {ps : Array Tmp} {assign body : Code} {Q : Exit → Act → World → Prop} {a : Act} {w : World} {gf : Nat} {lb : Array Value} {encs : α → Array Value} {R : Nat → Prop} {xs : List α}
    (hseq : Seq d P gf lb encs R xs w) (hg : a.eval g = .func (.func gf) #[] lb) (eg : ∀ args w, (callFunc gf args).run P w = .ok (.enter gf args) w) (hps : ∀ x, (encs x).size = ps.size) (hRw : ∀ k, R k → k < w.heap.size)
    (I : List α → (Nat → Prop) → World → Prop) (Ix : Code → List α → (Nat → Prop) → World → Prop) (hI : Stable d w.heap.size I) (hIx : ∀ c, Stable d w.heap.size (Ix c)) (h0 : I [] (fun _ => False) w) (a₁ : α → Act)
    (hassign : ∀ l x W (K : Act → World → Prop), K (a₁ x) W → assign.wpIn (Fence.wide.inRound l) 0 P (Exit.then K (fun _ _ _ => False)) { tmps := (ps.zip (encs x)).foldl (fun t (p, v) => t.setIfInBounds p v) a.tmps, defers := [] } W)
    (hbody : ∀ l pre x T W, pre ++ [x] <+: xs → (∀ k, T k → w.heap.size ≤ k ∧ k < W.heap.size) → Keeps R w W → T l → (∃ r : Loop, W.heap[l]? = some (.loop r)) → I pre T W →
      body.wpIn (Fence.wide.inRound l) 0 P (roundQ R T W I Ix (pre ++ [x])) (a₁ x) W)
    (hdone : ∀ D T W, w.heap.size ≤ D → T D → (∀ k, T k → w.heap.size ≤ k ∧ k < W.heap.size) → I xs T W → W.heap[D]? = some (.deferred (some [])) → Q .normal { a with defers := { target := .collected D, args := #[] } :: a.defers } W)
    (hstop : ∀ D c pre T W, w.heap.size ≤ D → T D → (∀ k, T k → w.heap.size ≤ k ∧ k < W.heap.size) → pre <+: xs → Ix c pre T W → W.heap[D]? = some (.deferred (some [])) → c.wp P Q { a with defers := { target := .collected D, args := #[] } :: a.defers } W) :
    (Code.rangeFunc g ps assign body).wp P Q a w :=
  wp_range hseq hg eg hps hRw I Ix hI hIx h0 (fun z T W => z.2.2 = a₁ z.2.1 ∧ I z.1 T W) (fun z T T' W W' hz h1 h2 h3 h4 h5 => ⟨hz.1, hI z.1 T T' W W' hz.2 h1 h2 h3 h4 h5⟩)
    (fun l pre x T W _ _ _ hi => hassign l x W _ ⟨Keeps.refl _ _, rfl, hi⟩) (fun l pre x T a1 W h1 h2 h3 h4 h5 h6 => by obtain ⟨h6, h7⟩ := h6; dsimp only at h6; subst h6; exact hbody l pre x T W h1 h2 h3 h4 h5 h7) hdone hstop
theorem wpIn_range1 {α : Type} {g : Operand} {ps : Array Tmp} {assign body : Code} {Q : Exit → Act → World → Prop} {a : Act} {w : World} {gf : Nat} {lb : Array Value} {encs : α → Array Value} {R : Nat → Prop} {xs : List α} {l₀ : Nat} (hl₀ : ∃ r₀ : Loop, w.heap[l₀]? = some (.loop r₀))
    (hseq : Seq d P gf lb encs R xs w) (hg : a.eval g = .func (.func gf) #[] lb) (eg : ∀ args w, (callFunc gf args).run P w = .ok (.enter gf args) w) (hps : ∀ x, (encs x).size = ps.size) (hRw : ∀ k, R k → k < w.heap.size)
    (I : List α → (Nat → Prop) → World → Prop) (Ix : Code → List α → (Nat → Prop) → World → Prop) (hI : Stable d w.heap.size I) (hIx : ∀ c, Stable d w.heap.size (Ix c)) (h0 : I [] (fun _ => False) w) (a₁ : α → Act)
    (hassign : ∀ l x W (K : Act → World → Prop), K (a₁ x) W → assign.wpIn (Fence.wide.inRound l) 0 P (Exit.then K (fun _ _ _ => False)) { tmps := (ps.zip (encs x)).foldl (fun t (p, v) => t.setIfInBounds p v) a.tmps, defers := [] } W)
    (hbody : ∀ l pre x T W, pre ++ [x] <+: xs → (∀ k, T k → w.heap.size ≤ k ∧ k < W.heap.size) → Keeps R w W → T l → (∃ r : Loop, W.heap[l]? = some (.loop r)) → I pre T W →
      body.wpIn (Fence.wide.inRound l) 0 P (roundQ R T W I Ix (pre ++ [x])) (a₁ x) W)
    (hdone : ∀ T W, (∀ k, T k → w.heap.size ≤ k ∧ k < W.heap.size) → I xs T W → Q .normal a W)
    (hstop : ∀ c pre T W, (∀ k, T k → w.heap.size ≤ k ∧ k < W.heap.size) → pre <+: xs → Ix c pre T W → c.wpIn (Fence.wide.inRound l₀) 0 P Q a W) :
    (Code.rangeFunc g ps assign body).wpIn (Fence.wide.inRound l₀) 0 P Q a w :=
  wpIn_range hl₀ hseq hg eg hps hRw I Ix hI hIx h0 (fun z T W => z.2.2 = a₁ z.2.1 ∧ I z.1 T W) (fun z T T' W W' hz h1 h2 h3 h4 h5 => ⟨hz.1, hI z.1 T T' W W' hz.2 h1 h2 h3 h4 h5⟩)
    (fun l pre x T W _ _ _ hi => hassign l x W _ ⟨Keeps.refl _ _, rfl, hi⟩) (fun l pre x T a1 W h1 h2 h3 h4 h5 h6 => by obtain ⟨h6, h7⟩ := h6; dsimp only at h6; subst h6; exact hbody l pre x T W h1 h2 h3 h4 h5 h7) hdone hstop

/-- A function's contract, where its body holds ranges over functions: what they have laid for deferred calls is taken at the end. -/
theorem calls_of_wp_marks {f : FuncId} {fn : Func} {c : Code} {args : Array Value} {w : World} {R : Ending → World → Prop} (hf : P.funcs[f]? = some fn) (hb : fn.body = some c)
    (h : c.wp P (bodyPostM Fence.wide 0 P fn R) { tmps := args ++ Array.replicate (fn.ntmps - args.size) undef, defers := [] } w) : Calls P f args w R :=
  callsIn_wide.1 (callsIn_of_wp_marks hf hb trivial (wpIn_wide.2 h))

/-- The end of such a function, one loop having been run. -/
theorem markPost_ret {fn : Func} {R : Ending → World → Prop} {a : Act} {W : World} {D : Nat} {v : Value} (hd : a.defers = [{ target := .collected D, args := #[] }]) (hD : W.heap[D]? = some (.deferred (some [])))
    (hr : (results fn a.tmps).run P (W.putObj D (.deferred none)) = .ok v (W.putObj D (.deferred none))) (hR : R (.returned v) (W.putObj D (.deferred none))) : bodyPostM Fence.wide 0 P fn R .ret a W := by
  show LeavesInM Fence.wide 0 P fn a.tmps R a.defers .returning W
  rw [hd]
  exact ⟨by simp, .inl ⟨_, _, rfl, run_takeDeferred hD, v, hr, hR⟩⟩
theorem markPost_normal {fn : Func} {R : Ending → World → Prop} {a : Act} {W : World} {D : Nat} {v : Value} (hd : a.defers = [{ target := .collected D, args := #[] }]) (hD : W.heap[D]? = some (.deferred (some [])))
    (hr : (results fn a.tmps).run P (W.putObj D (.deferred none)) = .ok v (W.putObj D (.deferred none))) (hR : R (.returned v) (W.putObj D (.deferred none))) : bodyPostM Fence.wide 0 P fn R .normal a W :=
  markPost_ret hd hD hr hR
/-- .. and none. -/
theorem markPost_none {fn : Func} {R : Ending → World → Prop} {a : Act} {W : World} {v : Value} (hd : a.defers = []) (hr : (results fn a.tmps).run P W = .ok v W) (hR : R (.returned v) W) : bodyPostM Fence.wide 0 P fn R .ret a W := by
  show LeavesInM Fence.wide 0 P fn a.tmps R a.defers .returning W
  rw [hd]
  exact ⟨v, hr, hR⟩
theorem cell_putObj {W : World} {D : Nat} {o o' : Obj} (h : W.heap[D]? = some o) (ho : o.isCells = false) (ho' : o'.isCells = false) (a : Addr) : (W.putObj D o').cell? a = W.cell? a := by
  by_cases hb : a.block = D
  · have h1 := World.putObj_heap_same (o := o') (Array.getElem?_eq_some_iff.1 h).1
    simp only [World.cell?, hb, h, h1]
    cases o <;> cases o' <;> first | rfl | (simp [Obj.isCells] at ho ho')
  · exact World.cell?_of_block (World.putObj_heap_other hb)
end
end Go.Proofs.Ytokkgbcjjaiaeaa
