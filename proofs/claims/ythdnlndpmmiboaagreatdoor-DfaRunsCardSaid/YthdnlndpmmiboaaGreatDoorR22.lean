/-
  slices.Insert at ints, of one number into a row of the call's own.
  The walk of AlphabetJoins.
  DERIVED: THE SHELF's CONTRACTS AT THIS DUMP, IN PLAIN WORDS (tools/lay-plain.mjs out of 'YthdnlndpmmiboaaGreatDoorSortISrc.lean', which tools/lay-shelf.mjs wrote): THE SAME DECLARATIONS UNDER THE SAME NAMES: 'import', 'namespace', 'open', 'def', 'theorem' AND NOTHING ELSE: no command of the shelf's: FOR A HAND-IN. Each laying: the table of numbers ('.._ren') and one theorem, a field a fact of the dump's own or the kernel's comparison; each contract: ONE APPLICATION.
  slices.Sort, Compact and Contains at ints, of a row of the call's own.
  Plain law: unions of classes; a sorted list without its repetitions.
  The marks of the parts that accept, sorted and each once.
  The reference's automata of positions: list, Step.
  Sets and lists that may lie anywhere where they are empty: the law's lists, slices.Clone at sets.
  The program's rising, the reference's Rising and has.
-/
import Derived.Test.YthdnlndpmmiboaaGreatDoorR12
import Derived.Test.YthdnlndpmmiboaaGreatDoorProg
import Derived.Laws.IdiomCopy
import Derived.Test.YthdnlndpmmiboaaGreatDoorR08
import Derived.Laws.AppendOwnNone
import Derived.Shelf.Sort.Plain
import Derived.Shelf.Slices.In.SortNone
import Derived.Shelf.Slices.Turned
import Derived.Shelf.Slices.Cells
import Derived.Test.YthdnlndpmmiboaaGreatDoorR11
import Derived.Test.YthdnlndpmmiboaaGreatDoorR06
import Derived.Test.YthdnlndpmmiboaaGreatDoorR01
import Derived.Test.YthdnlndpmmiboaaGreatDoorR02
import Derived.Test.YthdnlndpmmiboaaGreatDoorR21
import Derived.Test.YthdnlndpmmiboaaGreatDoorR20
import Derived.Test.YthdnlndpmmiboaaGreatDoorR13
namespace Go.Proofs.YthdnlndpmmiboaaGreatDoor
open Go Go.RowKit Go.Shelf Go.Maps

theorem set_in {b o j : Nat} {vs : List Value} {w : World} (h : ∀ k, k < vs.length → (w.cell? ⟨b, o + k, none⟩).isSome = true) (hj : j < vs.length) : (w.setCells b o vs).cell? ⟨b, o + j, none⟩ = vs[j]? := by
  rw [World.cell?_setCells_in b vs o w h j hj, List.getElem?_eq_getElem hj]
section
variable {g i n : Nat} {l : List Int} {z : Int} {w0 : World}
end

end Go.Proofs.YthdnlndpmmiboaaGreatDoor
namespace Go.Proofs.YthdnlndpmmiboaaGreatDoor
open Go Go.RowKit Go.Shelf Go.Maps

/-- Several alphabets at once: where each lies, and its classes. -/
def AllAl (w : World) (base : Nat) (L : List (Nat × List BS)) : Prop := ∀ x ∈ L, IsAl w base (.pointer (some ⟨x.1, 0, none⟩)) x.2
theorem AllAl.below {w w' : World} {base : Nat} {L : List (Nat × List BS)} (h : AllAl w base L) (hk : Below w.heap.size w w') : AllAl w' base L := fun x hx => (h x hx).below hk
theorem AllAl.cons {w w' : World} {base : Nat} {L : List (Nat × List BS)} {b : Nat} {p : List BS} (h : AllAl w base L) (hk : Below w.heap.size w w') (hb : base ≤ w.heap.size) (h1 : IsAl w' w.heap.size (.pointer (some ⟨b, 0, none⟩)) p) : AllAl w' base ((b, p) :: L) := by
  intro x hx
  rcases List.mem_cons.1 hx with rfl | hx
  · exact h1.base hb
  · exact (h x hx).below hk
end Go.Proofs.YthdnlndpmmiboaaGreatDoor
namespace Go.Proofs
open Go.Shelf
def Tryz.sortI_ren : Go.Shelf.Ren := ⟨fun | 189 => 95 | 125 => 104 | 257 => 116 | 128 => 129 | 129 => 130 | 294 => 138 | 295 => 139 | 296 => 140 | 297 => 141 | 298 => 142 | 299 => 143 | 216 => 144 | 300 => 145 | 301 => 146 | 328 => 157 | 329 => 150 | 330 => 151 | 331 => 158 | 332 => 159 | 215 => 160 | 343 => 168 | n => n, fun | 28 => 33 | 3 => 3 | 46 => 156 | 0 => 0 | 51 => 182 | 53 => 63 | 4 => 4 | 183 => 190 | 182 => 189 | 131 => 152 | 5 => 5 | 9 => 9 | 218 => 209 | 222 => 213 | 228 => 226 | 229 => 80 | n => n, fun | n => n⟩
theorem Tryz.sortI : Go.Proofs.Lays.n189 Tryz.prog Tryz.sortI_ren := {
  mixed := by kernel_rfl
  f125 := Tryz.func104.trans (congrArg some (by kernel_rfl))
  f128 := Tryz.func129.trans (congrArg some (by kernel_rfl))
  f129 := Tryz.func130.trans (congrArg some (by kernel_rfl))
  f189 := Tryz.func95.trans (congrArg some (by kernel_rfl))
  f215 := Tryz.func160.trans (congrArg some (by kernel_rfl))
  f216 := Tryz.func144.trans (congrArg some (by kernel_rfl))
  f257 := Tryz.func116.trans (congrArg some (by kernel_rfl))
  f294 := Tryz.func138.trans (congrArg some (by kernel_rfl))
  f295 := Tryz.func139.trans (congrArg some (by kernel_rfl))
  f296 := Tryz.func140.trans (congrArg some (by kernel_rfl))
  f297 := Tryz.func141.trans (congrArg some (by kernel_rfl))
  f298 := Tryz.func142.trans (congrArg some (by kernel_rfl))
  f299 := Tryz.func143.trans (congrArg some (by kernel_rfl))
  f300 := Tryz.func145.trans (congrArg some (by kernel_rfl))
  f301 := Tryz.func146.trans (congrArg some (by kernel_rfl))
  f328 := Tryz.func157.trans (congrArg some (by kernel_rfl))
  f329 := Tryz.func150.trans (congrArg some (by kernel_rfl))
  f330 := Tryz.func151.trans (congrArg some (by kernel_rfl))
  f331 := Tryz.func158.trans (congrArg some (by kernel_rfl))
  f332 := Tryz.func159.trans (congrArg some (by kernel_rfl))
  f343 := Tryz.func168.trans (congrArg some (by kernel_rfl))
  t0 := Tryz.underlying0
  a0 := Tryz.isAgg0
  z0 := Tryz.sizeOf0
  v0 := Tryz.zeroValue0
  t3 := Tryz.underlying3
  a3 := Tryz.isAgg3
  z3 := Tryz.sizeOf3
  v3 := Tryz.zeroValue3
  t4 := Tryz.underlying4
  a4 := Tryz.isAgg4
  z4 := Tryz.sizeOf4
  v4 := Tryz.zeroValue4
  t5 := Tryz.underlying5
  a5 := Tryz.isAgg5
  z5 := Tryz.sizeOf5
  v5 := Tryz.zeroValue5
  t9 := Tryz.underlying9
  a9 := Tryz.isAgg9
  z9 := Tryz.sizeOf9
  v9 := Tryz.zeroValue9
  t28 := Tryz.underlying33
  a28 := Tryz.isAgg33
  z28 := Tryz.sizeOf33
  v28 := Tryz.zeroValue33
  t46 := Tryz.underlying156
  a46 := Tryz.isAgg156
  z46 := Tryz.sizeOf156
  v46 := Tryz.zeroValue156
  t51 := Tryz.underlying182
  a51 := Tryz.isAgg182
  z51 := Tryz.sizeOf182
  v51 := Tryz.zeroValue182
  t53 := Tryz.underlying63
  a53 := Tryz.isAgg63
  z53 := Tryz.sizeOf63
  v53 := Tryz.zeroValue63
  t131 := Tryz.underlying152
  a131 := Tryz.isAgg152
  z131 := Tryz.sizeOf152
  v131 := Tryz.zeroValue152
  t182 := Tryz.underlying189
  a182 := Tryz.isAgg189
  z182 := Tryz.sizeOf189
  v182 := Tryz.zeroValue189
  t183 := Tryz.underlying190
  a183 := Tryz.isAgg190
  z183 := Tryz.sizeOf190
  v183 := Tryz.zeroValue190
  t218 := Tryz.underlying209
  a218 := Tryz.isAgg209
  z218 := Tryz.sizeOf209
  v218 := Tryz.zeroValue209
  t222 := Tryz.underlying213
  a222 := Tryz.isAgg213
  z222 := Tryz.sizeOf213
  v222 := Tryz.zeroValue213
  t228 := Tryz.underlying226
  a228 := Tryz.isAgg226
  z228 := Tryz.sizeOf226
  v228 := Tryz.zeroValue226
  t229 := Tryz.underlying80
  a229 := Tryz.isAgg80
  z229 := Tryz.sizeOf80
  v229 := Tryz.zeroValue80 }
def Tryz.compactI_ren : Go.Shelf.Ren := ⟨fun | 20 => 96 | n => n, fun | 22 => 33 | 3 => 3 | 4 => 4 | 0 => 0 | n => n, fun | n => n⟩
theorem Tryz.compactI : Go.Proofs.Lays2.n20 Tryz.prog Tryz.compactI_ren := {
  mixed := by kernel_rfl
  f20 := Tryz.func96.trans (congrArg some (by kernel_rfl))
  t0 := Tryz.underlying0
  a0 := Tryz.isAgg0
  z0 := Tryz.sizeOf0
  v0 := Tryz.zeroValue0
  t3 := Tryz.underlying3
  a3 := Tryz.isAgg3
  z3 := Tryz.sizeOf3
  v3 := Tryz.zeroValue3
  t4 := Tryz.underlying4
  a4 := Tryz.isAgg4
  z4 := Tryz.sizeOf4
  v4 := Tryz.zeroValue4
  t22 := Tryz.underlying33
  a22 := Tryz.isAgg33
  z22 := Tryz.sizeOf33
  v22 := Tryz.zeroValue33
  i3 := by kernel_rfl }
end Go.Proofs
namespace Go.Proofs.YthdnlndpmmiboaaGreatDoor
open Go Go.RowKit Go.Shelf Go.Maps

theorem keeps_grow (R : Nat → Prop) (w : World) (os : Array Obj) (hR : ∀ k, R k → k < w.heap.size) : Keeps R w (Sort.grow w os) where
  os := rfl
  tape := rfl
  output := rfl
  size := by unfold Sort.grow; simp
  keep := fun k hk => by unfold Sort.grow; exact Array.getElem?_append_left (hR k hk)

/-- The row's first cells, written anew. -/
theorem ownsRow_wrote {base g n cap : Nat} {xs ys : List Value} {w : World} (h : w.ownsRow base 3 1 (.slice (some ⟨g, 0, none⟩) n cap) n xs) (hy : ys.length = n) :
    (w.setCells g 0 ys).ownsRow base 3 1 (.slice (some ⟨g, 0, none⟩) n cap) n ys ∧ Keeps (· ≠ g) w (w.setCells g 0 ys) := by
  obtain ⟨zs, h1, h2⟩ := ownsRow_setCells 0 ys 0 w xs (Nat.le_refl _) h
  have hl : zs.length = n := by have := h1.1; omega
  have hx : xs.length = n := by have := h.1; omega
  have : zs = ys := by
    apply List.ext_getElem?
    intro j
    by_cases hj : j < n
    · have e1 := h1.cellAt j (by omega)
      have e2 := set_in (b := g) (o := 0) (j := j) (vs := ys) (w := w) (fun k hk => by
        rw [h.cellAt _ (by omega), List.getElem?_eq_getElem (by omega)]; rfl) (by omega)
      rw [Nat.zero_add] at e2
      exact e1.symm.trans e2
    · rw [List.getElem?_eq_none (by omega), List.getElem?_eq_none (by omega)]
  rw [this] at h1
  exact ⟨h1, h2⟩
theorem ownsRow_cut {base g n cap m : Nat} {xs : List Value} {w : World} (h : w.ownsRow base 3 1 (.slice (some ⟨g, 0, none⟩) n cap) n xs) (hm : m ≤ n) :
    w.ownsRow base 3 1 (.slice (some ⟨g, 0, none⟩) m cap) m (xs.take m) := by
  have hl := h.1
  refine ⟨by rw [List.length_take]; omega, ?_⟩
  rcases h.2 with ⟨hv, _⟩ | ⟨g', cap', cur, hv, h1, h2, h3, h4, h5, h6⟩
  · cases hv
  · cases hv
    exact .inr ⟨g, cap, cur, rfl, h1, h2, by omega, h4, h5, by rw [← h6, List.take_take]; congr 1; omega⟩

/-- A sorted list. -/
def sortZ (l : List Int) : List Int := l.mergeSort fun x y => decide (x ≤ y)
theorem sortZ_len (l : List Int) : (sortZ l).length = l.length := by unfold sortZ; exact List.length_mergeSort _

theorem own_holds {base g n cap : Nat} {l : List Int} {w : World} (h : w.ownsRow base 3 1 (.slice (some ⟨g, 0, none⟩) n cap) n (l.map encZ)) : Sort.Holds (Value.int .i64) w g 0 l.toArray := by
  intro j hj
  have hl : l.length = n := by have := h.1; simpa using this
  have hj' : j < l.length := by simpa using hj
  refine ⟨?_, h.frozenAt _⟩
  rw [Nat.zero_add, h.cellAt j (by omega), List.getElem?_map, List.getElem?_eq_getElem hj', Array.getElem!_eq_getD]
  simp [encZ, hj']

theorem sortI_any (base : Nat) (v : Value) (n : Nat) (l : List Int) (w : World) (ho : w.ownsRow base 3 1 v n (l.map encZ)) (hn : n ≤ 1000000) :
    Calls Tryz.prog 95 #[v] w fun e w' => e = .returned (.tuple #[]) ∧ w'.ownsRow base 3 1 v n ((sortZ l).map encZ) ∧ Keeps (fun x => x < w.heap.size ∧ v.ownBlock ≠ some x) w w' := by
  have hl : l.length = n := by have := ho.1; simpa using this
  rcases ho.2 with ⟨rfl, rfl⟩ | ⟨g, cap, cur, rfl, hbg, hg, _⟩
  · have hl0 : l = [] := List.eq_nil_of_length_eq_zero hl
    subst hl0
    exact (Any.slices_Sort_int_none Tryz.sortI none 0 w).mono fun e w' ⟨he, hw⟩ => ⟨he, by rw [hw, show sortZ [] = [] from List.eq_nil_of_length_eq_zero (sortZ_len _)]; exact ho, by rw [hw]; exact Keeps.refl _ _⟩
  · have hH := own_holds ho
    have hblk : Blk w g cur 3 := hg
    have := Any.slices_Sort_int Tryz.sortI g 0 cap l w hH hblk.lt (by omega)
    rw [hl] at this
    refine this.mono fun e w' ⟨he, q, os, hw⟩ => ⟨he, ?_⟩
    have e1 := Lib.putRow_eq_setCells (Value.int .i64) w g 0 l.toArray (sortZ l) q hH (by rw [sortZ_len]; simp)
    have hw' : w' = Sort.grow ((w.drewN q).setCells g 0 ((sortZ l).map (Value.int .i64))) os := by rw [hw, ← e1]; rfl
    have hd : (w.drewN q).ownsRow base 3 1 (.slice (some ⟨g, 0, none⟩) n cap) n (l.map encZ) := ho
    obtain ⟨a1, a2⟩ := ownsRow_wrote hd (ys := (sortZ l).map encZ) (by rw [List.length_map, sortZ_len]; exact hl)
    have hd2 : Keeps (· ≠ g) w (w.drewN q) := ⟨rfl, rfl, rfl, Nat.le_refl _, fun _ _ => rfl⟩
    have hk := hd2.tr a2
    rw [hw']
    have hgk : ∀ R : Nat → Prop, (∀ k, R k → k < ((w.drewN q).setCells g 0 ((sortZ l).map (Value.int .i64))).heap.size) → Keeps R ((w.drewN q).setCells g 0 ((sortZ l).map (Value.int .i64))) (Sort.grow ((w.drewN q).setCells g 0 ((sortZ l).map (Value.int .i64))) os) := fun R hR => keeps_grow R _ os hR
    refine ⟨ownsRow_keeps a1 (hgk (· < _) fun _ h => h) (fun k e => (a1.lt k e).2), ?_⟩
    exact (hk.mono fun x hx e => hx.2 (by rw [e]; rfl)).tr (hgk _ fun x hx => Nat.lt_of_lt_of_le hx.1 hk.size)

end Go.Proofs.YthdnlndpmmiboaaGreatDoor
namespace Go.Proofs.YthdnlndpmmiboaaGreatDoor
open Go Go.RowKit Go.Shelf Go.Maps

/-! A list, sorted and compacted. -/
theorem sortZ_sorted (l : List Int) : (sortZ l).Pairwise (· ≤ ·) := by
  have := List.pairwise_mergeSort (le := fun x y : Int => decide (x ≤ y)) (fun a b c h1 h2 => by simp at *; omega) (fun a b => by simp; omega) l
  exact this.imp fun h => by simpa using h
theorem sortZ_mem {l : List Int} {x : Int} : x ∈ sortZ l ↔ x ∈ l := (List.mergeSort_perm _ _).mem_iff
theorem get_bang (l : List Int) {i : Nat} (hi : i < l.length) : l.toArray[i]! = l[i] := by simp [hi]
theorem compact_mem {l : List Int} {x : Int} : x ∈ Lib.compact l ↔ x ∈ l := by
  unfold Lib.compact Lib.compactUpTo
  simp only [List.mem_map, List.mem_filter, List.mem_range]
  constructor
  · rintro ⟨i, ⟨hi, _⟩, rfl⟩
    rw [get_bang l hi]; exact List.getElem_mem _
  · intro hx
    obtain ⟨i, hi, rfl⟩ := List.getElem_of_mem hx
    suffices ∀ i, (hi : i < l.length) → ∃ j, (j < l.length ∧ Lib.keeps l.toArray j = true) ∧ l.toArray[j]! = l[i] from this i hi
    intro i
    induction i with
    | zero => intro hi; exact ⟨0, ⟨hi, by simp [Lib.keeps]⟩, get_bang l hi⟩
    | succ i ih =>
      intro hi
      by_cases h : l.toArray[i + 1]! = l.toArray[i]!
      · obtain ⟨j, h1, h2⟩ := ih (by omega)
        refine ⟨j, h1, ?_⟩
        rw [get_bang l hi, get_bang l (by omega)] at h
        rw [h2, h]
      · exact ⟨i + 1, ⟨hi, by simp only [Lib.keeps, decide_eq_true_eq]; exact .inr (by simpa using h)⟩, get_bang l hi⟩
theorem compact_sorted {l : List Int} (h : l.Pairwise (· ≤ ·)) : (Lib.compact l).Pairwise (· < ·) := by
  unfold Lib.compact Lib.compactUpTo
  rw [List.pairwise_map]
  have hr : ((List.range l.length).filter (Lib.keeps l.toArray)).Pairwise (· < ·) := List.pairwise_lt_range.filter _
  refine List.Pairwise.imp_of_mem (fun {i j} hi hj hij => ?_) hr
  rw [List.mem_filter, List.mem_range] at hi hj
  have hk := hj.2
  simp only [Lib.keeps, decide_eq_true_eq] at hk
  rcases hk with hk | hk
  · omega
  · have h1 := List.pairwise_iff_getElem.1 h
    rw [get_bang l hj.1, get_bang l (by omega)] at hk
    rw [get_bang l hi.1, get_bang l hj.1]
    have h2 := h1 (j - 1) j (by omega) hj.1 (by omega)
    by_cases e : i = j - 1
    · subst e; omega
    · have h3 := h1 i (j - 1) hi.1 (by omega) (by omega)
      omega
theorem compact_sort {gn : List Nat} {n : Nat} (h : ∀ k ∈ gn, k < n) : Lib.compact (sortZ (gn.map Int.ofNat)) = ((List.range n).filter fun k => gn.contains k).map Int.ofNat := by
  obtain ⟨C, hC⟩ : ∃ C, C = Lib.compact (sortZ (gn.map Int.ofNat)) := ⟨_, rfl⟩
  have hs : C.Pairwise (· < ·) := by rw [hC]; exact compact_sorted (sortZ_sorted _)
  have hm : ∀ x, x ∈ C ↔ ∃ k ∈ gn, (k : Int) = x := fun x => by
    rw [hC, compact_mem, sortZ_mem, List.mem_map]; rfl
  rw [← hC]
  have hp : ∀ x ∈ C, 0 ≤ x := fun x hx => by obtain ⟨k, _, rfl⟩ := (hm x).1 hx; omega
  have e1 : (C.map Int.toNat).map Int.ofNat = C := by
    rw [List.map_map]
    exact (List.map_congr_left fun x hx => Int.toNat_of_nonneg (hp x hx)).trans (List.map_id _)
  rw [← e1]
  congr 1
  refine sortedN_eq _ _ ?_ (List.pairwise_lt_range.filter _) fun k => ?_
  · rw [List.pairwise_map]
    exact List.Pairwise.imp_of_mem (fun {a b} ha hb hab => by have := hp a ha; have := hp b hb; omega) hs
  · rw [List.mem_filter, List.mem_range, List.contains_iff_mem, List.mem_map]
    constructor
    · rintro ⟨x, hx, rfl⟩
      obtain ⟨k, hk, rfl⟩ := (hm x).1 hx
      exact ⟨h k hk, hk⟩
    · rintro ⟨_, hk⟩
      exact ⟨k, (hm _).2 ⟨k, hk, rfl⟩, Int.toNat_natCast k⟩

/-! Unions of classes. -/
def Uni (p : List BS) (S : Nat → Bool) (s : BS) : Prop := ∀ c, c < 256 → s.getLsbD c = S (cls p c)
theorem Uni.or {p : List BS} {S T : Nat → Bool} {s t : BS} (h : Uni p S s) (k : Uni p T t) : Uni p (fun i => S i || T i) (s ||| t) := fun c hc => by rw [BitVec.getLsbD_or, h c hc, k c hc]
theorem Uni.and {p : List BS} {S T : Nat → Bool} {s t : BS} (h : Uni p S s) (k : Uni p T t) : Uni p (fun i => S i && T i) (s &&& t) := fun c hc => by rw [BitVec.getLsbD_and, h c hc, k c hc]
theorem Uni.not {p : List BS} {S : Nat → Bool} {s : BS} (h : Uni p S s) : Uni p (fun i => !S i) (~~~s) := fun c hc => by rw [not_bit _ hc, h c hc]

section
variable {p : List BS} {R : Nat → Nat → Prop} (hp : IsPart p R)
include hp
end
end Go.Proofs.YthdnlndpmmiboaaGreatDoor
namespace Go.Proofs.YthdnlndpmmiboaaGreatDoor
open Go Go.RowKit Go.Shelf Go.Maps

/-- The marks of the parts that accept, in the parts' order. -/
def accMarks (ps : List PT) (row : List (List Int)) : List Int := (List.zip ps row).filterMap fun y => if y.1.nf.acc y.2 then some y.1.mark else none
theorem accMarks_mem {ps : List PT} {row : List (List Int)} {m : Int} : m ∈ accMarks ps row ↔ ∃ y ∈ List.zip ps row, y.1.nf.acc y.2 = true ∧ y.1.mark = m := by
  unfold accMarks
  rw [List.mem_filterMap]
  constructor
  · rintro ⟨y, hy, h⟩
    split at h
    · rename_i ha
      exact ⟨y, hy, ha, Option.some.inj h⟩
    · cases h
  · rintro ⟨y, hy, ha, rfl⟩
    exact ⟨y, hy, by rw [if_pos ha]⟩
theorem marks_compact {ps : List PT} {row : List (List Int)} (h : ∀ x ∈ ps, 0 ≤ x.mark ∧ x.mark ≤ 255) : Lib.compact (sortZ (accMarks ps row)) = marksR ps row := by
  have hm : ∀ m ∈ accMarks ps row, 0 ≤ m ∧ m ≤ 255 := fun m hm => by
    obtain ⟨y, hy, _, rfl⟩ := accMarks_mem.1 hm
    exact h _ (List.of_mem_zip (a := y.1) (b := y.2) hy).1
  have e : accMarks ps row = ((accMarks ps row).map Int.toNat).map Int.ofNat := by
    rw [List.map_map]
    exact ((List.map_congr_left fun x hx => Int.toNat_of_nonneg (hm x hx).1).trans (List.map_id _)).symm
  rw [e, compact_sort (n := 256) (fun k hk => by
    obtain ⟨x, hx, rfl⟩ := List.mem_map.1 hk
    have := hm x hx
    omega)]
  unfold marksR
  congr 1
  refine List.filter_congr fun m _ => ?_
  rw [Bool.eq_iff_iff, List.contains_iff_mem, List.mem_map, List.any_eq_true]
  constructor
  · rintro ⟨x, hx, rfl⟩
    obtain ⟨y, hy, ha, rfl⟩ := accMarks_mem.1 hx
    refine ⟨y, hy, ?_⟩
    have := hm _ hx
    simp only [Bool.and_eq_true, beq_iff_eq]
    exact ⟨ha, by omega⟩
  · rintro ⟨y, hy, h1⟩
    simp only [Bool.and_eq_true, beq_iff_eq] at h1
    exact ⟨y.1.mark, accMarks_mem.2 ⟨y, hy, h1.1, rfl⟩, by omega⟩
end Go.Proofs.YthdnlndpmmiboaaGreatDoor
namespace Go.Proofs.YthdnlndpmmiboaaGreatDoor
open Go Go.RowKit Go.Shelf Go.Maps

/-- An automaton of positions of the reference. -/
def IsRn (w : World) (v : Value) (a : NF) : Prop := ∃ v0 v1 v2 v3, v = .agg #[v0, v1, v2, v3, .bool a.emp] ∧ IsArrs w v0 (a.sets.map refS) ∧ IsLL w v1 a.fol ∧ IsSl encZ w v2 a.fst ∧ IsSl encZ w v3 a.lst
theorem IsRn.below {w w' : World} {v : Value} {a : NF} (h : IsRn w v a) (hk : Below w.heap.size w w') : IsRn w' v a := by
  obtain ⟨v0, v1, v2, v3, e, h0, h1, h2, h3⟩ := h
  exact ⟨v0, v1, v2, v3, e, h0.below hk, h1.below hk, h2.below hk, h3.below hk⟩
end Go.Proofs.YthdnlndpmmiboaaGreatDoor
namespace Go.Proofs.YthdnlndpmmiboaaGreatDoor
open Go Go.RowKit Go.Shelf Go.Maps
attribute [local go_sem] encS

/-- Sets; an empty slice of them may lie anywhere. -/
def IsSetsE (w : World) (v : Value) (l : List BS) : Prop := IsSetsC w v l ∨ (l = [] ∧ ∃ a : Addr, v = .slice (some a) 0 0)
theorem IsSetsE.below {w w' : World} {v : Value} {l : List BS} (h : IsSetsE w v l) (hk : Below w.heap.size w w') : IsSetsE w' v l := h.imp (fun h => ⟨h.1.below hk, h.2⟩) id
theorem IsSetsE.form {w : World} {v : Value} {l : List BS} (h : IsSetsE w v l) : ∃ a cap, v = .slice a l.length cap := by
  rcases h with h | ⟨rfl, a, rfl⟩
  · exact h.1.form
  · exact ⟨_, _, rfl⟩
theorem IsSetsE.elem {w : World} {a : Option Addr} {n cap : Nat} {l : List BS} (h : IsSetsE w (.slice a n cap) l) {i : Nat} {s : BS} (hi : l[i]? = some s) :
    ∃ b off, a = some ⟨b, off, none⟩ ∧ b < w.heap.size ∧ w.cell? ⟨b, off + i * 4, none⟩ = some (.int .u64 (wd s 0).toNat) ∧ w.cell? ⟨b, off + i * 4 + 1, none⟩ = some (.int .u64 (wd s 1).toNat) ∧ w.cell? ⟨b, off + i * 4 + 2, none⟩ = some (.int .u64 (wd s 2).toNat) ∧ w.cell? ⟨b, off + i * 4 + 3, none⟩ = some (.int .u64 (wd s 3).toNat) := by
  rcases h with h | ⟨rfl, _⟩
  · exact h.1.elem hi
  · simp at hi
/-- Lists; an empty slice of them may lie anywhere. -/
def IsLLE (w : World) (v : Value) (ll : List (List Int)) : Prop := IsLLe w v ll ∨ (ll = [] ∧ ∃ a : Addr, v = .slice (some a) 0 0)
theorem IsLLE.below {w w' : World} {v : Value} {ll : List (List Int)} (h : IsLLE w v ll) (hk : Below w.heap.size w w') : IsLLE w' v ll := h.imp (fun h => h.below hk) id
theorem IsLLE.form {w : World} {v : Value} {ll : List (List Int)} (h : IsLLE w v ll) : ∃ a cap, v = .slice a ll.length cap := by
  rcases h with h | ⟨rfl, a, rfl⟩
  · exact h.form
  · exact ⟨_, _, rfl⟩
theorem IsLLE.elem {w : World} {a : Option Addr} {n cap : Nat} {ll : List (List Int)} (h : IsLLE w (.slice a n cap) ll) {i : Nat} {l : List Int} (hi : ll[i]? = some l) :
    ∃ b off a' c', a = some ⟨b, off, none⟩ ∧ b < w.heap.size ∧ w.cell? ⟨b, off + i, none⟩ = some (.slice a' l.length c') ∧ IsSlE encZ w (.slice a' l.length c') l := by
  rcases h with h | ⟨rfl, _⟩
  · exact h.elem hi
  · simp at hi

end Go.Proofs.YthdnlndpmmiboaaGreatDoor
namespace Go.Proofs.YthdnlndpmmiboaaGreatDoor
open Go Go.RowKit Go.Shelf Go.Maps

set_option maxRecDepth 100000 in
set_option maxHeartbeats 4000000 in
theorem nrising_any (v : Value) (l : List Int) (low high : Int) (hlow : low = 0 ∨ low = -1) (w : World) (h : IsSl encZ w v l) (hn : l.length ≤ 1000000) :
    Calls Tryz.prog 73 #[v, .int .i64 low, .int .i64 high] w fun e w' => e = .returned (.bool (risG low high l)) ∧ w' = w := by
  obtain ⟨a, cap, rfl⟩ := h.form
  obtain ⟨n, hnn⟩ : ∃ n, n = l.length := ⟨_, rfl⟩
  obtain ⟨r, hr⟩ : ∃ r, r = risG low high l := ⟨_, rfl⟩
  rw [← hnn] at h hn ⊢
  rw [← hr]
  have H := Lib.hid h
  have HN := Lib.hid hnn
  have HR := Lib.hid hr
  have w0 : IntKind.i64.wrap (low - 1) = low - 1 := IntWalk.i64_in _ (by omega)
  clear h hnn hr
  go_enter Tryz.func73, Tryz.ntmps73
  go_wp2
  clear w0
  go_loopw [7, 14] (fun lv iv wr => ∃ k : Nat, k ≤ n ∧ iv = .int .i64 k ∧ lv = .int .i64 (prevG low l k) ∧ (∀ i, i < k → risGAt low high l i = true) ∧ wr = w) (fun _ iv _ => n - (intOf iv).toNat)
  case atStart => exact ⟨0, by omega, rfl, by simp [prevG], fun i hi => by omega, rfl⟩
  case round =>
    obtain ⟨k, hk, rfl, rfl, ha, rfl⟩ := hrel
    have HA := Lib.hid ha
    clear ha
    obtain ⟨q, hq⟩ : ∃ q, q = prevG low l k := ⟨_, rfl⟩
    rw [← hq]
    have HQ := Lib.hid hq
    clear hq
    by_cases hlt : k < n
    · obtain ⟨x, hxl⟩ : ∃ x, l[k]? = some x := ⟨_, List.getElem?_eq_getElem (by have := HN.out; omega)⟩
      obtain ⟨g, off, rfl, hg, c1⟩ := H.out.elem hxl
      replace c1 : wr.cell? ⟨g, off + k, none⟩ = some (.int .i64 x) := c1
      have hki : (k : Int) < n := by omega
      have HXL := Lib.hid hxl
      have HRA : Hid (risGAt low high l k = (decide (q < x) && decide (x ≤ high))) := Lib.hid (by rw [risGAt_eq hxl, HQ.out])
      clear hxl
      by_cases h1 : x ≤ q
      · have d1 : decide (x ≤ q) = true := decide_eq_true h1
        have HRR := Lib.hid (HR.out.trans (risG_no (by rw [← HN.out]; exact hlt) (by rw [HRA.out, show decide (q < x) = false from decide_eq_false (by omega)]; rfl)))
        go_wp2
        go_ret
        exact ⟨by rw [HRR.out]; rfl, rfl⟩
      · have d1 : decide (x ≤ q) = false := decide_eq_false h1
        by_cases h2 : high < x
        · have d2 : decide (high < x) = true := decide_eq_true h2
          have d3 : decide (x > high) = true := d2
          have HRR := Lib.hid (HR.out.trans (risG_no (by rw [← HN.out]; exact hlt) (by rw [HRA.out, show decide (x ≤ high) = false from decide_eq_false (by omega)]; simp)))
          go_wp2
          go_ret
          exact ⟨by rw [HRR.out]; rfl, rfl⟩
        · have d2 : decide (high < x) = false := decide_eq_false h2
          have d3 : decide (x > high) = false := d2
          go_wp2
          exact ⟨⟨k + 1, by omega, by go_num, by rw [prevG_succ HXL.out], fun i hi => by
            rcases Nat.lt_or_ge i k with h3 | h3
            · exact HA.out i h3
            · obtain rfl : i = k := by omega
              rw [HRA.out]
              simp only [Bool.and_eq_true, decide_eq_true_eq]
              omega, by trivial⟩, by simp [intOf]; omega⟩
    · have hk' : k = n := by omega
      have HRR := Lib.hid (HR.out.trans (risG_yes fun i hi => HA.out i (by rw [hk', HN.out]; exact hi)))
      have hkn : ¬ ((k : Int) < n) := by omega
      go_wp2
      go_ret
      exact ⟨by rw [HRR.out]; rfl, rfl⟩
end Go.Proofs.YthdnlndpmmiboaaGreatDoor
