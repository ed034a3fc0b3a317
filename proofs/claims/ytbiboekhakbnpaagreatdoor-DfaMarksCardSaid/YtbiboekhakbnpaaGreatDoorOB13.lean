/-
  slices.Insert at ints, of one number into a row of the call's own.
  DERIVED: THE SHELF's CONTRACTS AT THIS DUMP, IN PLAIN WORDS (tools/lay-plain.mjs out of 'YtbiboekhakbnpaaGreatDoorSortISrc.lean', which tools/lay-shelf.mjs wrote): THE SAME DECLARATIONS UNDER THE SAME NAMES: 'import', 'namespace', 'open', 'def', 'theorem' AND NOTHING ELSE: no command of the shelf's: FOR A HAND-IN. Each laying: the table of numbers ('.._ren') and one theorem, a field a fact of the dump's own or the kernel's comparison; each contract: ONE APPLICATION.
  slices.Sort, Compact and Contains at ints, of a row of the call's own.
  Plain law: unions of classes; a sorted list without its repetitions.
  The marks of the parts that accept, sorted and each once.
  The program's rising, the reference's Rising and has.
  Automata of positions in memory; nfa.Right.
-/
import Derived.Test.YtbiboekhakbnpaaGreatDoorOB09
import Derived.Test.YtbiboekhakbnpaaGreatDoorProg
import Derived.Laws.IdiomCopy
import Derived.Shelf.Sort.Plain
import Derived.Shelf.Slices.In.SortNone
import Derived.Shelf.Slices.Turned
import Derived.Shelf.Slices.Cells
import Derived.Test.YtbiboekhakbnpaaGreatDoorOB06
import Derived.Test.YtbiboekhakbnpaaGreatDoorOB05
import Derived.Test.YtbiboekhakbnpaaGreatDoorOB08
import Derived.Lib.SliceRun
import Derived.Test.YtbiboekhakbnpaaGreatDoorOB01
import Derived.Test.YtbiboekhakbnpaaGreatDoorOB07
import Derived.Laws.AppendOwnNone
import Derived.Test.YtbiboekhakbnpaaGreatDoorOB02
import Derived.Test.YtbiboekhakbnpaaGreatDoorOB12
set_option maxRecDepth 100000
set_option maxHeartbeats 16000000
open Go.Lib (hid)
namespace Go.Proofs.YtbiboekhakbnpaaGreatDoor
open Go Go.RowKit Go.Shelf Go.Maps

theorem set_in {b o j : Nat} {vs : List Value} {w : World} (h : ∀ k, k < vs.length -> (w.cell? ⟨b, o + k, none⟩).isSome = true) (hj : j < vs.length) : (w.setCells b o vs).cell? ⟨b, o + j, none⟩ = vs[j]? := by
 rw [World.cell?_setCells_in b vs o w h j hj, List.getElem?_eq_getElem hj]
section
variable {g i n : Nat} {l : List Int} {z : Int} {w0 : World}
end

end Go.Proofs.YtbiboekhakbnpaaGreatDoor
namespace Go.Proofs
open Go.Shelf
def Tryz.sortI_ren : Go.Shelf.Ren := ⟨fun | 189 => 25 | 125 => 59 | 257 => 58 | 128 => 104 | 129 => 105 | 294 => 96 | 295 => 97 | 296 => 98 | 297 => 99 | 298 => 100 | 299 => 101 | 216 => 60 | 300 => 102 | 301 => 103 | 328 => 130 | 329 => 131 | 330 => 132 | 331 => 133 | 332 => 134 | 215 => 106 | 343 => 170 | n => n, fun | 28 => 37 | 3 => 3 | 46 => 116 | 0 => 0 | 51 => 167 | 53 => 68 | 4 => 4 | 183 => 161 | 182 => 160 | 131 => 164 | 5 => 5 | 9 => 9 | 218 => 197 | 222 => 201 | 228 => 231 | 229 => 232 | n => n, fun | n => n⟩
theorem Tryz.sortI : Go.Proofs.Lays.n189 Tryz.prog Tryz.sortI_ren := {
 mixed := by kernel_rfl
 f125 := Tryz.func59.trans (congrArg some (by kernel_rfl))
 f128 := Tryz.func104.trans (congrArg some (by kernel_rfl))
 f129 := Tryz.func105.trans (congrArg some (by kernel_rfl))
 f189 := Tryz.func25.trans (congrArg some (by kernel_rfl))
 f215 := Tryz.func106.trans (congrArg some (by kernel_rfl))
 f216 := Tryz.func60.trans (congrArg some (by kernel_rfl))
 f257 := Tryz.func58.trans (congrArg some (by kernel_rfl))
 f294 := Tryz.func96.trans (congrArg some (by kernel_rfl))
 f295 := Tryz.func97.trans (congrArg some (by kernel_rfl))
 f296 := Tryz.func98.trans (congrArg some (by kernel_rfl))
 f297 := Tryz.func99.trans (congrArg some (by kernel_rfl))
 f298 := Tryz.func100.trans (congrArg some (by kernel_rfl))
 f299 := Tryz.func101.trans (congrArg some (by kernel_rfl))
 f300 := Tryz.func102.trans (congrArg some (by kernel_rfl))
 f301 := Tryz.func103.trans (congrArg some (by kernel_rfl))
 f328 := Tryz.func130.trans (congrArg some (by kernel_rfl))
 f329 := Tryz.func131.trans (congrArg some (by kernel_rfl))
 f330 := Tryz.func132.trans (congrArg some (by kernel_rfl))
 f331 := Tryz.func133.trans (congrArg some (by kernel_rfl))
 f332 := Tryz.func134.trans (congrArg some (by kernel_rfl))
 f343 := Tryz.func170.trans (congrArg some (by kernel_rfl))
 t0 := Tryz.underlying0
 a0 := Tryz.isAgg0
 z0 := Tryz.sizeOf0
 v0 := Tryz.zeroValue0
 t3 := Tryz.underlying3
 a3 := Tryz.isAgg3
 z3 := Tryz.sizeOf3
 v3 := Tryz.zeroValue3
 t4 := Tryz.underlying4
 a4 := Tryz.isAgg4
 z4 := Tryz.sizeOf4
 v4 := Tryz.zeroValue4
 t5 := Tryz.underlying5
 a5 := Tryz.isAgg5
 z5 := Tryz.sizeOf5
 v5 := Tryz.zeroValue5
 t9 := Tryz.underlying9
 a9 := Tryz.isAgg9
 z9 := Tryz.sizeOf9
 v9 := Tryz.zeroValue9
 t28 := Tryz.underlying37
 a28 := Tryz.isAgg37
 z28 := Tryz.sizeOf37
 v28 := Tryz.zeroValue37
 t46 := Tryz.underlying116
 a46 := Tryz.isAgg116
 z46 := Tryz.sizeOf116
 v46 := Tryz.zeroValue116
 t51 := Tryz.underlying167
 a51 := Tryz.isAgg167
 z51 := Tryz.sizeOf167
 v51 := Tryz.zeroValue167
 t53 := Tryz.underlying68
 a53 := Tryz.isAgg68
 z53 := Tryz.sizeOf68
 v53 := Tryz.zeroValue68
 t131 := Tryz.underlying164
 a131 := Tryz.isAgg164
 z131 := Tryz.sizeOf164
 v131 := Tryz.zeroValue164
 t182 := Tryz.underlying160
 a182 := Tryz.isAgg160
 z182 := Tryz.sizeOf160
 v182 := Tryz.zeroValue160
 t183 := Tryz.underlying161
 a183 := Tryz.isAgg161
 z183 := Tryz.sizeOf161
 v183 := Tryz.zeroValue161
 t218 := Tryz.underlying197
 a218 := Tryz.isAgg197
 z218 := Tryz.sizeOf197
 v218 := Tryz.zeroValue197
 t222 := Tryz.underlying201
 a222 := Tryz.isAgg201
 z222 := Tryz.sizeOf201
 v222 := Tryz.zeroValue201
 t228 := Tryz.underlying231
 a228 := Tryz.isAgg231
 z228 := Tryz.sizeOf231
 v228 := Tryz.zeroValue231
 t229 := Tryz.underlying232
 a229 := Tryz.isAgg232
 z229 := Tryz.sizeOf232
 v229 := Tryz.zeroValue232 }
def Tryz.compactI_ren : Go.Shelf.Ren := ⟨fun | 20 => 26 | n => n, fun | 22 => 37 | 3 => 3 | 4 => 4 | 0 => 0 | n => n, fun | n => n⟩
theorem Tryz.compactI : Go.Proofs.Lays2.n20 Tryz.prog Tryz.compactI_ren := {
 mixed := by kernel_rfl
 f20 := Tryz.func26.trans (congrArg some (by kernel_rfl))
 t0 := Tryz.underlying0
 a0 := Tryz.isAgg0
 z0 := Tryz.sizeOf0
 v0 := Tryz.zeroValue0
 t3 := Tryz.underlying3
 a3 := Tryz.isAgg3
 z3 := Tryz.sizeOf3
 v3 := Tryz.zeroValue3
 t4 := Tryz.underlying4
 a4 := Tryz.isAgg4
 z4 := Tryz.sizeOf4
 v4 := Tryz.zeroValue4
 t22 := Tryz.underlying37
 a22 := Tryz.isAgg37
 z22 := Tryz.sizeOf37
 v22 := Tryz.zeroValue37
 i3 := by kernel_rfl }
def Tryz.containsI_ren : Go.Shelf.Ren := ⟨fun | 107 => 24 | 108 => 57 | n => n, fun | 28 => 37 | 3 => 3 | 4 => 4 | 0 => 0 | n => n, fun | n => n⟩
theorem Tryz.containsI : Go.Proofs.Lays.n107 Tryz.prog Tryz.containsI_ren := {
 mixed := by kernel_rfl
 f107 := Tryz.func24.trans (congrArg some (by kernel_rfl))
 f108 := Tryz.func57.trans (congrArg some (by kernel_rfl))
 t0 := Tryz.underlying0
 a0 := Tryz.isAgg0
 z0 := Tryz.sizeOf0
 v0 := Tryz.zeroValue0
 t3 := Tryz.underlying3
 a3 := Tryz.isAgg3
 z3 := Tryz.sizeOf3
 v3 := Tryz.zeroValue3
 t4 := Tryz.underlying4
 a4 := Tryz.isAgg4
 z4 := Tryz.sizeOf4
 v4 := Tryz.zeroValue4
 t28 := Tryz.underlying37
 a28 := Tryz.isAgg37
 z28 := Tryz.sizeOf37
 v28 := Tryz.zeroValue37 }
end Go.Proofs
namespace Go.Proofs.YtbiboekhakbnpaaGreatDoor
open Go Go.RowKit Go.Shelf Go.Maps

theorem keeps_grow (R : Nat -> Prop) (w : World) (os : Array Obj) (hR : ∀ k, R k -> k < w.heap.size) : Keeps R w (Sort.grow w os) where
 os := rfl
 tape := rfl
 output := rfl
 size := by unfold Sort.grow; simp
 keep := fun k hk => by unfold Sort.grow; exact Array.getElem?_append_left (hR k hk)

theorem ownsRow_wrote {base g n cap : Nat} {xs ys : List Value} {w : World} (h : w.ownsRow base 3 1 (.slice (some ⟨g, 0, none⟩) n cap) n xs) (hy : ys.length = n) :
  (w.setCells g 0 ys).ownsRow base 3 1 (.slice (some ⟨g, 0, none⟩) n cap) n ys /\ Keeps (· ≠ g) w (w.setCells g 0 ys) := by
 obtain ⟨zs, h1, h2⟩ := ownsRow_setCells 0 ys 0 w xs (Nat.le_refl _) h
 have hl : zs.length = n := by have := h1.1; omega
 have hx : xs.length = n := by have := h.1; omega
 have : zs = ys := by
  apply List.ext_getElem?
  intro j
  by_cases hj : j < n
  ·have e1 := h1.cellAt j (by omega)
   have e2 := set_in (b := g) (o := 0) (j := j) (vs := ys) (w := w) (fun k hk => by
    rw [h.cellAt _ (by omega), List.getElem?_eq_getElem (by omega)]; rfl) (by omega)
   rw [Nat.zero_add] at e2
   exact e1.symm.trans e2
  ·rw [List.getElem?_eq_none (by omega), List.getElem?_eq_none (by omega)]
 rw [this] at h1
 exact ⟨h1, h2⟩
theorem ownsRow_cut {base g n cap m : Nat} {xs : List Value} {w : World} (h : w.ownsRow base 3 1 (.slice (some ⟨g, 0, none⟩) n cap) n xs) (hm : m <= n) :
  w.ownsRow base 3 1 (.slice (some ⟨g, 0, none⟩) m cap) m (xs.take m) := by
 have hl := h.1
 refine ⟨by rw [List.length_take]; omega, ?_⟩
 rcases h.2 with ⟨hv, _⟩ | ⟨g', cap', cur, hv, h1, h2, h3, h4, h5, h6⟩
 ·cases hv
 ·cases hv
  exact .inr ⟨g, cap, cur, rfl, h1, h2, by omega, h4, h5, by rw [<- h6, List.take_take]; congr 1; omega⟩

def sortZ (l : List Int) : List Int := l.mergeSort fun x y => decide (x <= y)
theorem sortZ_len (l : List Int) : (sortZ l).length = l.length := by unfold sortZ; exact List.length_mergeSort _

theorem own_holds {base g n cap : Nat} {l : List Int} {w : World} (h : w.ownsRow base 3 1 (.slice (some ⟨g, 0, none⟩) n cap) n (l.map encZ)) : Sort.Holds (Value.int .i64) w g 0 l.toArray := by
 intro j hj
 have hl : l.length = n := by have := h.1; simpa using this
 have hj' : j < l.length := by simpa using hj
 refine ⟨?_, h.frozenAt _⟩
 rw [Nat.zero_add, h.cellAt j (by omega), List.getElem?_map, List.getElem?_eq_getElem hj', Array.getElem!_eq_getD]
 simp [encZ, hj']

theorem sortI_any (base : Nat) (v : Value) (n : Nat) (l : List Int) (w : World) (ho : w.ownsRow base 3 1 v n (l.map encZ)) (hn : n <= 1000000) :
  Calls Tryz.prog 25 #[v] w fun e w' => e = .returned (.tuple #[]) /\ w'.ownsRow base 3 1 v n ((sortZ l).map encZ) /\ Keeps (fun x => x < w.heap.size /\ v.ownBlock ≠ some x) w w' := by
 have hl : l.length = n := by have := ho.1; simpa using this
 rcases ho.2 with ⟨rfl, rfl⟩ | ⟨g, cap, cur, rfl, hbg, hg, _⟩
 ·have hl0 : l = [] := List.eq_nil_of_length_eq_zero hl
  subst hl0
  exact (Any.slices_Sort_int_none Tryz.sortI none 0 w).mono fun e w' ⟨he, hw⟩ => ⟨he, by rw [hw, show sortZ [] = [] from List.eq_nil_of_length_eq_zero (sortZ_len _)]; exact ho, by rw [hw]; exact Keeps.refl _ _⟩
 ·have hH := own_holds ho
  have hblk : Blk w g cur 3 := hg
  have := Any.slices_Sort_int Tryz.sortI g 0 cap l w hH hblk.lt (by omega)
  rw [hl] at this
  refine this.mono fun e w' ⟨he, q, os, hw⟩ => ⟨he, ?_⟩
  have e1 := Lib.putRow_eq_setCells (Value.int .i64) w g 0 l.toArray (sortZ l) q hH (by rw [sortZ_len]; simp)
  have hw' : w' = Sort.grow ((w.drewN q).setCells g 0 ((sortZ l).map (Value.int .i64))) os := by rw [hw, <- e1]; rfl
  have hd : (w.drewN q).ownsRow base 3 1 (.slice (some ⟨g, 0, none⟩) n cap) n (l.map encZ) := ho
  obtain ⟨a1, a2⟩ := ownsRow_wrote hd (ys := (sortZ l).map encZ) (by rw [List.length_map, sortZ_len]; exact hl)
  have hd2 : Keeps (· ≠ g) w (w.drewN q) := ⟨rfl, rfl, rfl, Nat.le_refl _, fun _ _ => rfl⟩
  have hk := hd2.tr a2
  rw [hw']
  have hgk : ∀ R : Nat -> Prop, (∀ k, R k -> k < ((w.drewN q).setCells g 0 ((sortZ l).map (Value.int .i64))).heap.size) -> Keeps R ((w.drewN q).setCells g 0 ((sortZ l).map (Value.int .i64))) (Sort.grow ((w.drewN q).setCells g 0 ((sortZ l).map (Value.int .i64))) os) := fun R hR => keeps_grow R _ os hR
  refine ⟨ownsRow_keeps a1 (hgk (· < _) fun _ h => h) (fun k e => (a1.lt k e).2), ?_⟩
  exact (hk.mono fun x hx e => hx.2 (by rw [e]; rfl)).tr (hgk _ fun x hx => Nat.lt_of_lt_of_le hx.1 hk.size)

theorem compactI_any (base : Nat) (v : Value) (n : Nat) (l : List Int) (w : World) (ho : w.ownsRow base 3 1 v n (l.map encZ)) (hn : n <= 1000000) :
  Calls Tryz.prog 26 #[v] w fun e w' => ∃ u, e = .returned u /\ w'.ownsRow base 3 1 u (Lib.compact l).length ((Lib.compact l).map encZ) /\ Keeps (fun x => x < w.heap.size /\ v.ownBlock ≠ some x) w w' := by
 have hl : l.length = n := by have := ho.1; simpa using this
 rcases ho.2 with ⟨rfl, rfl⟩ | ⟨g, cap, cur, rfl, hbg, hg, hnc, hcm, _⟩
 ·have hl0 : l = [] := List.eq_nil_of_length_eq_zero hl
  subst hl0
  exact (Any.slices_Compact_int_empty Tryz.compactI none 0 w).mono fun e w' ⟨he, hw⟩ => ⟨_, he, by rw [hw]; exact ho, by rw [hw]; exact Keeps.refl _ _⟩
 ·have hc : ∀ j, j < l.length -> w.cell? ⟨g, 0 + j, none⟩ = some (.int .i64 (l.getD j 0)) := fun j hj => by
   rw [Nat.zero_add, ho.cellAt j (by omega), List.getElem?_map, List.getElem?_eq_getElem hj]
   simp [encZ, hj]
  have := Any.slices_Compact_int_cells Tryz.compactI g 0 n cap l w (by omega) (by omega) hnc hc (fun j _ => ho.frozenAt _)
  rw [List.take_of_length_le (by omega)] at this
  refine this.mono fun e w' ⟨he, q, hw⟩ => ⟨_, he, ?_⟩
  have hle := Lib.compact_length_le l
  have hd : (w.drewN q).ownsRow base 3 1 (.slice (some ⟨g, 0, none⟩) n cap) n (l.map encZ) := ho
  obtain ⟨a1, a2⟩ := ownsRow_wrote hd (ys := (Lib.compact l ++ List.replicate (n - (Lib.compact l).length) 0).map (Value.int .i64)) (by rw [List.length_map, List.length_append, List.length_replicate]; omega)
  have hd2 : Keeps (· ≠ g) w (w.drewN q) := ⟨rfl, rfl, rfl, Nat.le_refl _, fun _ _ => rfl⟩
  rw [hw]
  refine ⟨?_, (hd2.tr a2).mono fun x hx e => hx.2 (by rw [e]; rfl)⟩
  have := ownsRow_cut a1 (m := (Lib.compact l).length) (by omega)
  have e : List.take (Lib.compact l).length ((Lib.compact l ++ List.replicate (n - (Lib.compact l).length) 0).map (Value.int .i64)) = (Lib.compact l).map encZ := by
   rw [List.map_append, List.take_left' (by rw [List.length_map])]; rfl
  rw [e] at this
  exact this

theorem containsI_any (v : Value) (l : List Int) (x : Int) (w : World) (hl : IsSl encZ w v l) (hn : l.length <= 1000000) :
  Calls Tryz.prog 24 #[v, .int .i64 x] w fun e w' => e = .returned (.bool (l.contains x)) /\ w' = w := by
 obtain ⟨a, c, rfl⟩ := hl.form
 cases hle : l with
 | nil => exact (Any.slices_Contains_int_empty Tryz.containsI a c x w).mono fun e w' ⟨he, hw⟩ => ⟨by rw [he]; rfl, hw⟩
 | cons y r =>
  rw [<- hle]
  obtain ⟨g, off, rfl, _, _⟩ := hl.elem (i := 0) (x := y) (by rw [hle]; rfl)
  have := Any.slices_Contains_int Tryz.containsI g off l.length c l x w (Nat.le_refl _) (by omega) (fun j hj => by
   obtain ⟨g', off', e, _, h2⟩ := hl.elem (i := j) (x := l[j]) (List.getElem?_eq_getElem hj)
   cases e
   rw [h2]; simp [encZ, hj])
  rw [List.take_of_length_le (Nat.le_refl _)] at this
  exact this
/-! A list, sorted and compacted. -/
theorem sortZ_sorted (l : List Int) : (sortZ l).Pairwise (· <= ·) := by
 have := List.pairwise_mergeSort (le := fun x y : Int => decide (x <= y)) (fun a b c h1 h2 => by simp at *; omega) (fun a b => by simp; omega) l
 exact this.imp fun h => by simpa using h
theorem sortZ_mem {l : List Int} {x : Int} : x ∈ sortZ l ↔ x ∈ l := (List.mergeSort_perm _ _).mem_iff
theorem get_bang (l : List Int) {i : Nat} (hi : i < l.length) : l.toArray[i]! = l[i] := by simp [hi]
theorem compact_mem {l : List Int} {x : Int} : x ∈ Lib.compact l ↔ x ∈ l := by
 unfold Lib.compact Lib.compactUpTo
 simp only [List.mem_map, List.mem_filter, List.mem_range]
 constructor
 ·rintro ⟨i, ⟨hi, _⟩, rfl⟩
  rw [get_bang l hi]; exact List.getElem_mem _
 ·intro hx
  obtain ⟨i, hi, rfl⟩ := List.getElem_of_mem hx
  suffices ∀ i, (hi : i < l.length) -> ∃ j, (j < l.length /\ Lib.keeps l.toArray j = true) /\ l.toArray[j]! = l[i] from this i hi
  intro i
  induction i with
  | zero => intro hi; exact ⟨0, ⟨hi, by simp [Lib.keeps]⟩, get_bang l hi⟩
  | succ i ih =>
   intro hi
   by_cases h : l.toArray[i + 1]! = l.toArray[i]!
   ·obtain ⟨j, h1, h2⟩ := ih (by omega)
    refine ⟨j, h1, ?_⟩
    rw [get_bang l hi, get_bang l (by omega)] at h
    rw [h2, h]
   ·exact ⟨i + 1, ⟨hi, by simp only [Lib.keeps, decide_eq_true_eq]; exact .inr (by simpa using h)⟩, get_bang l hi⟩
theorem compact_sorted {l : List Int} (h : l.Pairwise (· <= ·)) : (Lib.compact l).Pairwise (· < ·) := by
 unfold Lib.compact Lib.compactUpTo
 rw [List.pairwise_map]
 have hr : ((List.range l.length).filter (Lib.keeps l.toArray)).Pairwise (· < ·) := List.pairwise_lt_range.filter _
 refine List.Pairwise.imp_of_mem (fun {i j} hi hj hij => ?_) hr
 rw [List.mem_filter, List.mem_range] at hi hj
 have hk := hj.2
 simp only [Lib.keeps, decide_eq_true_eq] at hk
 rcases hk with hk | hk
 ·omega
 ·have h1 := List.pairwise_iff_getElem.1 h
  rw [get_bang l hj.1, get_bang l (by omega)] at hk
  rw [get_bang l hi.1, get_bang l hj.1]
  have h2 := h1 (j - 1) j (by omega) hj.1 (by omega)
  by_cases e : i = j - 1
  ·subst e; omega
  ·have h3 := h1 i (j - 1) hi.1 (by omega) (by omega)
   omega
theorem compact_sort {gn : List Nat} {n : Nat} (h : ∀ k ∈ gn, k < n) : Lib.compact (sortZ (gn.map Int.ofNat)) = ((List.range n).filter fun k => gn.contains k).map Int.ofNat := by
 obtain ⟨C, hC⟩ : ∃ C, C = Lib.compact (sortZ (gn.map Int.ofNat)) := ⟨_, rfl⟩
 have hs : C.Pairwise (· < ·) := by rw [hC]; exact compact_sorted (sortZ_sorted _)
 have hm : ∀ x, x ∈ C ↔ ∃ k ∈ gn, (k : Int) = x := fun x => by
  rw [hC, compact_mem, sortZ_mem, List.mem_map]; rfl
 rw [<- hC]
 have hp : ∀ x ∈ C, 0 <= x := fun x hx => by obtain ⟨k, _, rfl⟩ := (hm x).1 hx; omega
 have e1 : (C.map Int.toNat).map Int.ofNat = C := by
  rw [List.map_map]
  exact (List.map_congr_left fun x hx => Int.toNat_of_nonneg (hp x hx)).trans (List.map_id _)
 rw [<- e1]
 congr 1
 refine sortedN_eq _ _ ?_ (List.pairwise_lt_range.filter _) fun k => ?_
 ·rw [List.pairwise_map]
  exact List.Pairwise.imp_of_mem (fun {a b} ha hb hab => by have := hp a ha; have := hp b hb; omega) hs
 ·rw [List.mem_filter, List.mem_range, List.contains_iff_mem, List.mem_map]
  constructor
  ·rintro ⟨x, hx, rfl⟩
   obtain ⟨k, hk, rfl⟩ := (hm x).1 hx
   exact ⟨h k hk, hk⟩
  ·rintro ⟨_, hk⟩
   exact ⟨k, (hm _).2 ⟨k, hk, rfl⟩, Int.toNat_natCast k⟩

section
variable {p : List BS} {R : Nat → Nat → Prop} (hp : IsPart p R)
include hp
end
def accMarks (ps : List PT) (row : List (List Int)) : List Int := (List.zip ps row).filterMap fun y => if y.1.nf.acc y.2 then some y.1.mark else none
theorem accMarks_mem {ps : List PT} {row : List (List Int)} {m : Int} : m ∈ accMarks ps row ↔ ∃ y ∈ List.zip ps row, y.1.nf.acc y.2 = true /\ y.1.mark = m := by
 unfold accMarks
 rw [List.mem_filterMap]
 constructor
 ·rintro ⟨y, hy, h⟩
  split at h
  ·rename_i ha
   exact ⟨y, hy, ha, Option.some.inj h⟩
  ·cases h
 ·rintro ⟨y, hy, ha, rfl⟩
  exact ⟨y, hy, by rw [if_pos ha]⟩
theorem marks_compact {ps : List PT} {row : List (List Int)} (h : ∀ x ∈ ps, 0 <= x.mark /\ x.mark <= 255) : Lib.compact (sortZ (accMarks ps row)) = marksR ps row := by
 have hm : ∀ m ∈ accMarks ps row, 0 <= m /\ m <= 255 := fun m hm => by
  obtain ⟨y, hy, _, rfl⟩ := accMarks_mem.1 hm
  exact h _ (List.of_mem_zip (a := y.1) (b := y.2) hy).1
 have e : accMarks ps row = ((accMarks ps row).map Int.toNat).map Int.ofNat := by
  rw [List.map_map]
  exact ((List.map_congr_left fun x hx => Int.toNat_of_nonneg (hm x hx).1).trans (List.map_id _)).symm
 rw [e, compact_sort (n := 256) (fun k hk => by
  obtain ⟨x, hx, rfl⟩ := List.mem_map.1 hk
  have := hm x hx
  omega)]
 unfold marksR
 congr 1
 refine List.filter_congr fun m _ => ?_
 rw [Bool.eq_iff_iff, List.contains_iff_mem, List.mem_map, List.any_eq_true]
 constructor
 ·rintro ⟨x, hx, rfl⟩
  obtain ⟨y, hy, ha, rfl⟩ := accMarks_mem.1 hx
  refine ⟨y, hy, ?_⟩
  have := hm _ hx
  simp only [Bool.and_eq_true, beq_iff_eq]
  exact ⟨ha, by omega⟩
 ·rintro ⟨y, hy, h1⟩
  simp only [Bool.and_eq_true, beq_iff_eq] at h1
  exact ⟨y.1.mark, accMarks_mem.2 ⟨y, hy, h1.1, rfl⟩, by omega⟩
theorem nrising_any (v : Value) (l : List Int) (low high : Int) (hlow : low = 0 \/ low = -1) (w : World) (h : IsSl encZ w v l) (hn : l.length <= 1000000) :
  Calls Tryz.prog 75 #[v, .int .i64 low, .int .i64 high] w fun e w' => e = .returned (.bool (risG low high l)) /\ w' = w := by
 obtain ⟨a, cap, rfl⟩ := h.form
 obtain ⟨n, hnn⟩ : ∃ n, n = l.length := ⟨_, rfl⟩
 obtain ⟨r, hr⟩ : ∃ r, r = risG low high l := ⟨_, rfl⟩
 rw [<- hnn] at h hn ⊢
 rw [<- hr]
 have H := hid h
 have HN := hid hnn
 have HR := hid hr
 have w0 : IntKind.i64.wrap (low - 1) = low - 1 := IntWalk.i64_in _ (by omega)
 clear h hnn hr
 go_enter Tryz.func75, Tryz.ntmps75
 go_wp2
 clear w0
 go_loopw [7, 14] (fun lv iv wr => ∃ k : Nat, k <= n /\ iv = .int .i64 k /\ lv = .int .i64 (prevG low l k) /\ (∀ i, i < k -> risGAt low high l i = true) /\ wr = w) (fun _ iv _ => n - (intOf iv).toNat)
 case atStart => exact ⟨0, by omega, rfl, by simp [prevG], fun i hi => by omega, rfl⟩
 case round =>
  obtain ⟨k, hk, rfl, rfl, ha, rfl⟩ := hrel
  have HA := hid ha
  clear ha
  obtain ⟨q, hq⟩ : ∃ q, q = prevG low l k := ⟨_, rfl⟩
  rw [<- hq]
  have HQ := hid hq
  clear hq
  by_cases hlt : k < n
  ·obtain ⟨x, hxl⟩ : ∃ x, l[k]? = some x := ⟨_, List.getElem?_eq_getElem (by have := HN.out; omega)⟩
   obtain ⟨g, off, rfl, hg, c1⟩ := H.out.elem hxl
   replace c1 : wr.cell? ⟨g, off + k, none⟩ = some (.int .i64 x) := c1
   have hki : (k : Int) < n := by omega
   have HXL := hid hxl
   have HRA : Hid (risGAt low high l k = (decide (q < x) && decide (x <= high))) := hid (by rw [risGAt_eq hxl, HQ.out])
   clear hxl
   by_cases h1 : x <= q
   ·have d1 : decide (x <= q) = true := decide_eq_true h1
    have HRR := hid (HR.out.trans (risG_no (by rw [<- HN.out]; exact hlt) (by rw [HRA.out, show decide (q < x) = false from decide_eq_false (by omega)]; rfl)))
    go_wp2
    go_ret
    exact ⟨by rw [HRR.out]; rfl, rfl⟩
   ·have d1 : decide (x <= q) = false := decide_eq_false h1
    by_cases h2 : high < x
    ·have d2 : decide (high < x) = true := decide_eq_true h2
     have d3 : decide (x > high) = true := d2
     have HRR := hid (HR.out.trans (risG_no (by rw [<- HN.out]; exact hlt) (by rw [HRA.out, show decide (x <= high) = false from decide_eq_false (by omega)]; simp)))
     go_wp2
     go_ret
     exact ⟨by rw [HRR.out]; rfl, rfl⟩
    ·have d2 : decide (high < x) = false := decide_eq_false h2
     have d3 : decide (x > high) = false := d2
     go_wp2
     exact ⟨⟨k + 1, by omega, by go_num, by rw [prevG_succ HXL.out], fun i hi => by
      rcases Nat.lt_or_ge i k with h3 | h3
      ·exact HA.out i h3
      ·obtain rfl : i = k := by omega
       rw [HRA.out]
       simp only [Bool.and_eq_true, decide_eq_true_eq]
       omega, by trivial⟩, by simp [intOf]; omega⟩
  ·have hk' : k = n := by omega
   have HRR := hid (HR.out.trans (risG_yes fun i hi => HA.out i (by rw [hk', HN.out]; exact hi)))
   have hkn : ¬ ((k : Int) < n) := by omega
   go_wp2
   go_ret
   exact ⟨by rw [HRR.out]; rfl, rfl⟩
attribute [local go_sem] encS

def IsNf (w : World) (v : Value) (a : NF) : Prop := ∃ v0 v1 v2 v3, v = .agg #[v0, v1, v2, v3, .bool a.emp] /\ IsSetsC w v0 a.sets /\ IsLL w v1 a.fol /\ IsSl encZ w v2 a.fst /\ IsSl encZ w v3 a.lst
theorem IsNf.below {w w' : World} {v : Value} {a : NF} (h : IsNf w v a) (hk : Below w.heap.size w w') : IsNf w' v a := by
 obtain ⟨v0, v1, v2, v3, e, h0, h1, h2, h3⟩ := h
 exact ⟨v0, v1, v2, v3, e, ⟨h0.1.below hk, h0.2⟩, h1.below hk, h2.below hk, h3.below hk⟩
structure SmN (a : NF) : Prop where
 sets : a.sets.length <= 1000000
 fol : a.fol.length <= 1000000
 fst : a.fst.length <= 1000000
 lst : a.lst.length <= 1000000
 row : ∀ l ∈ a.fol, l.length <= 1000000
theorem Blk.five {w : World} {b : Nat} {x y z u t : Value} {ty : TypeId} (h : Blk w b #[x, y, z, u, t] ty) : w.cell? ⟨b, 0, none⟩ = some x /\ w.cell? ⟨b, 1, none⟩ = some y /\ w.cell? ⟨b, 2, none⟩ = some z /\ w.cell? ⟨b, 3, none⟩ = some u /\ w.cell? ⟨b, 4, none⟩ = some t :=
 ⟨h.cell 0, h.cell 1, h.cell 2, h.cell 3, h.cell 4⟩
theorem nright_no {a : NF} (h : 400 < a.sets.length \/ a.fol.length ≠ a.sets.length \/ risG 0 ((a.sets.length : Int) - 1) a.fst = false \/ risG 0 ((a.sets.length : Int) - 1) a.lst = false) : a.right = false := by
 rw [Bool.eq_false_iff]
 intro hr
 have h1 := (nright_iff a).1 hr
 rcases h with h | h | h | h
 ·have := h1.le; omega
 ·exact h h1.fol
 ·rw [h1.fst] at h; cases h
 ·rw [h1.lst] at h; cases h
theorem nright_row {a : NF} {p : Nat} (hp : p < a.sets.length) (h : risG 0 ((a.sets.length : Int) - 1) (a.fol.getD p []) = false \/ a.sets.getD p 0 = 0) : a.right = false := by
 rw [Bool.eq_false_iff]
 intro hr
 have h1 := (nright_iff a).1 hr
 rcases h with h | h
 ·rw [h1.row p hp] at h; cases h
 ·exact h1.ne p hp h
theorem nright_yes {a : NF} (h1 : a.sets.length <= 400) (h2 : a.fol.length = a.sets.length) (h3 : risG 0 ((a.sets.length : Int) - 1) a.fst = true) (h4 : risG 0 ((a.sets.length : Int) - 1) a.lst = true)
  (h5 : ∀ p, p < a.sets.length -> risG 0 ((a.sets.length : Int) - 1) (a.fol.getD p []) = true /\ a.sets.getD p 0 ≠ 0) : a.right = true := (nright_iff a).2 ⟨h1, h2, h3, h4, fun p hp => (h5 p hp).1, fun p hp => (h5 p hp).2⟩

theorem nright_any (v : Value) (a : NF) (w : World) (h : IsNf w v a) (sm : SmN a) :
  Calls Tryz.prog 40 #[v] w fun e w' => e = .returned (.bool a.right) /\ Below w.heap.size w w' := by
 obtain ⟨v0, v1, v2, v3, rfl, h0, h1, h2, h3⟩ := h
 obtain ⟨a0, c0, rfl⟩ := h0.1.form
 obtain ⟨a1, c1, rfl⟩ := h1.form
 obtain ⟨a2, c2, rfl⟩ := h2.form
 obtain ⟨a3, c3, rfl⟩ := h3.form
 have CN : Hid (∀ (W : World) (v : Value) (l : List Int) (high : Int), IsSl encZ W v l -> l.length <= 1000000 -> Calls Tryz.prog 75 #[v, .int .i64 0, .int .i64 high] W fun e w' => e = .returned (.bool (risG 0 high l)) /\ w' = W) := hid fun W v l high h hn => nrising_any v l 0 high (.inl rfl) W h hn
 obtain ⟨n0, hn0⟩ : ∃ n, n = a.sets.length := ⟨_, rfl⟩
 obtain ⟨n1, hn1⟩ : ∃ n, n = a.fol.length := ⟨_, rfl⟩
 obtain ⟨n2, hn2⟩ : ∃ n, n = a.fst.length := ⟨_, rfl⟩
 obtain ⟨n3, hn3⟩ : ∃ n, n = a.lst.length := ⟨_, rfl⟩
 obtain ⟨R, hR⟩ : ∃ R, R = a.right := ⟨_, rfl⟩
 have SM := hid sm
 have m0 : n0 <= 1000000 := by rw [hn0]; exact sm.sets
 have m1 : n1 <= 1000000 := by rw [hn1]; exact sm.fol
 rw [<- hn0] at h0 ⊢
 rw [<- hn1] at h1 ⊢
 rw [<- hn2] at h2 ⊢
 rw [<- hn3] at h3 ⊢
 rw [<- hR]
 have HR := hid hR
 have HN0 := hid hn0
 have HN1 := hid hn1
 have HN2 := hid hn2
 have HN3 := hid hn3
 have H0 := hid h0
 have H1 := hid h1
 have H2 := hid h2
 have H3 := hid h3
 clear h0 h1 h2 h3 hn0 hn1 hn2 hn3 hR sm
 by_cases g1 : 400 < n0
 ·have RR := hid (HR.out.trans (nright_no (.inl (by rw [<- HN0.out]; exact g1))))
  have g1i : (400 : Int) < n0 := by omega
  go_enter Tryz.func40, Tryz.ntmps40
  go_wp2
  go_ret
  exact ⟨by rw [RR.out]; rfl, ((Ext.refl _).alloc _).below⟩
 by_cases g2 : n1 ≠ n0
 ·have RR := hid (HR.out.trans (nright_no (.inr (.inl (by rw [<- HN0.out, <- HN1.out]; exact g2)))))
  have g1i : ¬ ((400 : Int) < n0) := by omega
  have g2i : ((n1 : Int) != (n0 : Int)) = true := by rw [bne_iff_ne]; omega
  go_enter Tryz.func40, Tryz.ntmps40
  go_wp2
  go_ret
  exact ⟨by rw [RR.out]; rfl, ((Ext.refl _).alloc _).below⟩
 replace g2 : n1 = n0 := Decidable.not_not.1 g2
 subst g2
 have g1i : ¬ ((400 : Int) < n1) := by omega
 have wn : IntKind.i64.wrap ((n1 : Int) - 1) = (n1 : Int) - 1 := IntWalk.i64_in _ (by omega)
 go_enter Tryz.func40, Tryz.ntmps40
 go_wp2_with fail
 refine calls_named ?_
 intro V hV
 have B1 : Hid (Blk V w.heap.size #[.slice a0 n1 c0, .slice a1 n1 c1, .slice a2 n2 c2, .slice a3 n3 c3, .bool a.emp] 44) := hid (by rw [hV]; exact Blk.new w _ _)
 have X1 : Hid (Below w.heap.size w V) := hid (by rw [hV]; exact ((Ext.refl w).alloc _).below)
 clear hV
 refine (CN.out V _ a.fst _ (H2.out.below X1.out) SM.out.fst).mono ?_
 rintro e w1 ⟨rfl, hw⟩
 replace hw := hw.symm
 subst hw
 cases r1 : risG 0 ((n1 : Int) - 1) a.fst
 ·have RR := hid (HR.out.trans (nright_no (.inr (.inr (.inl (by rw [<- HN0.out]; exact r1))))))
  clear r1
  go_wp2
  go_ret
  exact ⟨by rw [RR.out]; rfl, X1.out⟩
 have R1 := hid r1
 clear r1
 obtain ⟨i0, i1, i2, i3, i4⟩ := B1.out.five
 go_wp2_with fail
 clear i0 i1 i2 i3 i4
 refine (CN.out V _ a.lst _ (H3.out.below X1.out) SM.out.lst).mono ?_
 rintro e w2 ⟨rfl, hw⟩
 replace hw := hw.symm
 subst hw
 cases r2 : risG 0 ((n1 : Int) - 1) a.lst
 ·have RR := hid (HR.out.trans (nright_no (.inr (.inr (.inr (by rw [<- HN0.out]; exact r2))))))
  clear r2
  go_wp2
  go_ret
  exact ⟨by rw [RR.out]; rfl, X1.out⟩
 have R2 := hid r2
 clear r2
 obtain ⟨i0, i1, i2, i3, i4⟩ := B1.out.five
 go_wp2
 clear i0 i1 i2 i3 i4
 go_loopw [37] (fun iv wr => ∃ k : Nat, k <= n1 /\ iv = .int .i64 k /\ (∀ p, p < k -> risG 0 ((n1 : Int) - 1) (a.fol.getD p []) = true /\ a.sets.getD p 0 ≠ 0) /\ wr = V) (fun iv _ => n1 - (intOf iv).toNat)
 case atStart => exact ⟨0, by omega, rfl, fun p hp => by omega, rfl⟩
 case round =>
  obtain ⟨k, hk, rfl, ha, rfl⟩ := hrel
  have HA := hid ha
  clear ha
  by_cases hlt : k < n1
  ·have hki : (k : Int) < n1 := by omega
   obtain ⟨l, hl⟩ : ∃ l, a.fol[k]? = some l := ⟨_, List.getElem?_eq_getElem (by have := HN1.out; omega)⟩
   obtain ⟨s, hs⟩ : ∃ s, a.sets[k]? = some s := ⟨_, List.getElem?_eq_getElem (by have := HN0.out; omega)⟩
   obtain ⟨b, off, a', c', rfl, hb, cl, hsl⟩ := (H1.out.below X1.out).elem hl
   have HSL := hid hsl
   have HL := hid hl
   have HS := hid hs
   have hln : l.length <= 1000000 := SM.out.row l (List.mem_of_getElem? hl)
   clear hsl hl hs
   go_wp2_with fail
   clear cl
   refine (CN.out wr _ l _ HSL.out hln).mono ?_
   rintro e w3 ⟨rfl, hw⟩
   replace hw := hw.symm
   subst hw
   cases r3 : risG 0 ((n1 : Int) - 1) l
   ·have RR := hid (HR.out.trans (nright_row (p := k) (by rw [<- HN0.out]; exact hlt) (.inl (by rw [getD_some HL.out, <- HN0.out]; exact r3))))
    clear r3
    go_wp2
    go_ret
    exact ⟨by rw [RR.out]; rfl, X1.out⟩
   have R3 := hid r3
   clear r3
   obtain ⟨i0, i1, i2, i3, i4⟩ := B1.out.five
   obtain ⟨b2, off2, rfl, hb2, d0, d1, d2, d3⟩ := (H0.out.1.below X1.out).elem HS.out
   by_cases hz : s = 0#256
   ·have he : ∀ W, (Op.equalIn 10000 70 (.agg #[.int .u64 (wd s 0).toNat, .int .u64 (wd s 1).toNat, .int .u64 (wd s 2).toNat, .int .u64 (wd s 3).toNat]) (.agg #[.int .u64 0, .int .u64 0, .int .u64 0, .int .u64 0])).run Tryz.prog W = .ok true W := fun W => by
     have h1 := set_equal s 0 W
     rw [encS_zero, hz] at h1
     rw [hz]
     exact h1
    have RR := hid (HR.out.trans (nright_row (p := k) (by rw [<- HN0.out]; exact hlt) (.inr (by rw [getD_some HS.out]; exact hz))))
    clear hz
    go_wp2
    go_ret
    exact ⟨by rw [RR.out]; rfl, X1.out⟩
   ·have he : ∀ W, (Op.equalIn 10000 70 (.agg #[.int .u64 (wd s 0).toNat, .int .u64 (wd s 1).toNat, .int .u64 (wd s 2).toNat, .int .u64 (wd s 3).toNat]) (.agg #[.int .u64 0, .int .u64 0, .int .u64 0, .int .u64 0])).run Tryz.prog W = .ok false W := fun W => by
     have h1 := set_equal s 0 W
     rw [encS_zero, show (s == 0) = false from by simpa using hz] at h1
     exact h1
    have HZ := hid hz
    clear hz
    go_wp2
    exact ⟨⟨k + 1, by omega, by go_num, fun p hp => by
     rcases Nat.lt_or_ge p k with h3 | h3
     ·exact HA.out p h3
     ·obtain rfl : p = k := by omega
      rw [getD_some HL.out, getD_some HS.out]
      exact ⟨R3.out, HZ.out⟩, by trivial⟩, by simp [intOf]; omega⟩
  ·have hk' : k = n1 := by omega
   have RR := hid (HR.out.trans (nright_yes (by rw [<- HN0.out]; omega) (by rw [<- HN0.out, <- HN1.out]) (by rw [<- HN0.out]; exact R1.out) (by rw [<- HN0.out]; exact R2.out) (by rw [<- HN0.out]; exact fun p hp => HA.out p (by omega))))
   go_wp2
   go_ret
   exact ⟨by rw [RR.out]; rfl, X1.out⟩
end Go.Proofs.YtbiboekhakbnpaaGreatDoor
