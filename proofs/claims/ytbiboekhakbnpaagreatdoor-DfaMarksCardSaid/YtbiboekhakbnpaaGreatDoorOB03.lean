/-
  Plain facts on the classes into which sets part all bytes: how many there are, their order. No program.
  A row of sets that the call owns, sorted by the library. Plain facts on worlds; no program.
  DERIVED: THE SHELF's CONTRACTS AT THIS DUMP, IN PLAIN WORDS (tools/lay-plain.mjs out of 'YtbiboekhakbnpaaGreatDoorSortSrc.lean', which tools/lay-shelf.mjs wrote): THE SAME DECLARATIONS UNDER THE SAME NAMES: 'import', 'namespace', 'open', 'def', 'theorem' AND NOTHING ELSE: no command of the shelf's: FOR A HAND-IN. Each laying: the table of numbers ('.._ren') and one theorem, a field a fact of the dump's own or the kernel's comparison; each contract: ONE APPLICATION.
-/
import Derived.Test.YtbiboekhakbnpaaGreatDoorOB02
import Derived.Shelf.SlSortCmp.NoneTotal
import Derived.Shelf.SlGeneric
import Derived.Ground.SlsfProg
import Derived.Test.YtbiboekhakbnpaaGreatDoorProg
set_option maxRecDepth 100000
set_option maxHeartbeats 16000000
open Go.Lib (hid)
namespace Go.Proofs.YtbiboekhakbnpaaGreatDoor
open Go Go.RowKit Go.Shelf

def sizeOfB (s : BS) : Nat := (List.range 256).countP fun c => s.getLsbD c
theorem countP_split (p q : Nat -> Bool) (l : List Nat) : l.countP p = l.countP (fun c => p c && q c) + l.countP (fun c => p c && !q c) := by
 induction l with
 | nil => rfl
 | cons a l ih =>
  simp only [List.countP_cons, ih]
  cases p a <;> cases q a <;> simp <;> omega
theorem sizeOfB_split (p s : BS) : sizeOfB p = sizeOfB (p &&& s) + sizeOfB (p &&& ~~~s) := by
 unfold sizeOfB
 rw [countP_split _ (fun c => s.getLsbD c)]
 congr 1
 ·apply List.countP_congr; intro c _; simp [BitVec.getLsbD_and]
 ·apply List.countP_congr; intro c hc
  have : c < 256 := by simpa using hc
  simp [this]
theorem sizeOfB_zero : sizeOfB 0#256 = 0 := by
 unfold sizeOfB
 rw [List.countP_eq_zero]
 intro c _; simp
theorem sizeOfB_pos {s : BS} (h : s ≠ 0) : 1 <= sizeOfB s := by
 rcases Nat.eq_zero_or_pos (sizeOfB s) with h0 | h0
 ·exfalso
  apply h
  apply BitVec.eq_of_getLsbD_eq
  intro c hc
  unfold sizeOfB at h0
  rw [List.countP_eq_zero] at h0
  have := h0 c (by simpa using hc)
  simpa using this
 ·exact h0

def cut (s p : BS) : List BS := [p &&& s, p &&& ~~~s].filter fun x => !(x == 0)
def partsStep (s : BS) (parts : List BS) : List BS := parts.flatMap (cut s)
def partsRaw (l : List BS) : List BS := l.foldl (fun p s => partsStep s p) [~~~0]

theorem sum_cut (s p : BS) : ((cut s p).map sizeOfB).sum = sizeOfB p := by
 unfold cut
 rw [sizeOfB_split p s]
 generalize p &&& s = a
 generalize p &&& ~~~s = b
 by_cases h1 : a = 0#256 <;> by_cases h2 : b = 0#256 <;> simp [h1, h2, sizeOfB_zero]
theorem sum_partsStep (s : BS) (l : List BS) : ((partsStep s l).map sizeOfB).sum = (l.map sizeOfB).sum := by
 induction l with
 | nil => rfl
 | cons p l ih =>
  unfold partsStep at *
  rw [List.flatMap_cons, List.map_append, List.sum_append, ih, sum_cut]
  rfl
theorem cut_len (s p : BS) : (cut s p).length <= 2 := by unfold cut; exact List.length_filter_le _ _
theorem partsStep_len (s : BS) (l : List BS) : (partsStep s l).length <= 2 * l.length := by
 induction l with
 | nil => exact Nat.le_refl _
 | cons p l ih =>
  have := cut_len s p
  unfold partsStep at *
  rw [List.flatMap_cons, List.length_append, List.length_cons]
  omega
theorem cut_ne (s p : BS) : ∀ x ∈ cut s p, x ≠ 0 := by
 intro x hx
 unfold cut at hx
 simp only [List.mem_filter, Bool.not_eq_true', beq_eq_false_iff_ne] at hx
 exact hx.2
theorem sizeOfB_all : sizeOfB (~~~0) = 256 := by
 unfold sizeOfB
 have : (List.range 256).countP (fun c => (~~~(0 : BS)).getLsbD c) = (List.range 256).length := by
  rw [List.countP_eq_length]
  intro c hc
  have : c < 256 := by simpa using hc
  rw [BitVec.getLsbD_not]
  have h0 : BitVec.getLsbD (0 : BS) c = false := BitVec.getLsbD_zero
  simp only [this, h0, decide_true, Bool.not_false, Bool.true_and]
 rw [this, List.length_range]
theorem length_of_sum (l : List BS) (h0 : ∀ x ∈ l, x ≠ 0) : l.length <= (l.map sizeOfB).sum := by
 induction l with
 | nil => simp
 | cons p l ih =>
  have h1 := sizeOfB_pos (h0 p (by simp))
  have h2 := ih (fun x hx => h0 x (by simp [hx]))
  simp only [List.length_cons, List.map_cons, List.sum_cons]
  omega
theorem foldl_parts (l : List BS) (p : List BS) (hp : ∀ x ∈ p, x ≠ 0) : (∀ x ∈ l.foldl (fun p s => partsStep s p) p, x ≠ 0) /\ ((l.foldl (fun p s => partsStep s p) p).map sizeOfB).sum = (p.map sizeOfB).sum := by
 induction l generalizing p with
 | nil => exact ⟨hp, rfl⟩
 | cons s l ih =>
  have h := ih (partsStep s p) (by
   intro x hx
   unfold partsStep at hx
   rw [List.mem_flatMap] at hx
   obtain ⟨q, _, hq⟩ := hx
   exact cut_ne s q x hq)
  rw [List.foldl_cons]
  exact ⟨h.1, h.2.trans (sum_partsStep s p)⟩
theorem partsRaw_ne (l : List BS) : ∀ x ∈ partsRaw l, x ≠ 0 := (foldl_parts l _ (by simp)).1
theorem partsRaw_sum (l : List BS) : ((partsRaw l).map sizeOfB).sum = 256 := by
 unfold partsRaw
 rw [(foldl_parts l _ (by simp)).2]
 simp only [List.map_cons, List.map_nil, List.sum_cons, List.sum_nil, sizeOfB_all, Nat.add_zero]
theorem partsRaw_len (l : List BS) : (partsRaw l).length <= 256 := by
 have := length_of_sum _ (partsRaw_ne l)
 rwa [partsRaw_sum] at this
theorem partsRaw_snoc (l : List BS) (s : BS) : partsRaw (l ++ [s]) = partsStep s (partsRaw l) := by
 unfold partsRaw
 rw [List.foldl_append]; rfl

/-! The order of sets. -/
theorem firstOf_spec (s : BS) : ((firstOf s).2 = false /\ s = 0) \/ ((firstOf s).2 = true /\ (firstOf s).1 < 256 /\ s.getLsbD (firstOf s).1 = true /\ ∀ d, d < (firstOf s).1 -> s.getLsbD d = false) := by
 have key : ∀ n, n <= 256 -> (bytesTo s n = [] /\ ∀ d, d < n -> s.getLsbD d = false) \/ (∃ c r, bytesTo s n = c :: r /\ c < n /\ s.getLsbD c = true /\ ∀ d, d < c -> s.getLsbD d = false) := by
  intro n
  induction n with
  | zero => intro _; exact .inl ⟨rfl, fun d hd => by omega⟩
  | succ n ih =>
   intro hn
   rcases ih (by omega) with ⟨h1, h2⟩ | ⟨c, r, h1, h2, h3, h4⟩
   ·by_cases hb : s.getLsbD n = true
    ·refine .inr ⟨n, [], ?_, by omega, hb, h2⟩
     rw [bytesTo_succ, h1, if_pos hb]; rfl
    ·refine .inl ⟨?_, fun d hd => ?_⟩
     ·rw [bytesTo_succ, h1, if_neg hb]; rfl
     ·by_cases hdn : d = n
      ·subst hdn; simpa using hb
      ·exact h2 d (by omega)
   ·exact .inr ⟨c, r ++ (if s.getLsbD n then [n] else []), by rw [bytesTo_succ, h1]; rfl, by omega, h3, h4⟩
 unfold firstOf
 rcases key 256 (Nat.le_refl _) with ⟨h1, h2⟩ | ⟨c, r, h1, h2, h3, h4⟩
 ·left
  rw [h1]
  exact ⟨rfl, BS.ext fun d hd => by rw [h2 d hd]; simp⟩
 ·right
  rw [h1]
  exact ⟨rfl, h2, h3, h4⟩

def ltS (s t : BS) : Prop := ∃ c, c < 256 /\ (∀ d, d < c -> s.getLsbD d = t.getLsbD d) /\ s.getLsbD c = true /\ t.getLsbD c = false
theorem diff_bit (s t : BS) {c : Nat} (hc : c < 256) : ((s &&& ~~~t) ||| (t &&& ~~~s)).getLsbD c = (s.getLsbD c != t.getLsbD c) := by
 simp only [BitVec.getLsbD_or, BitVec.getLsbD_and, BitVec.getLsbD_not, hc, decide_true, Bool.true_and]
 cases s.getLsbD c <;> cases t.getLsbD c <;> rfl
theorem compareOf_spec (s t : BS) : (compareOf s t = 0 /\ s = t) \/ (compareOf s t = -1 /\ ltS s t) \/ (compareOf s t = 1 /\ ltS t s) := by
 unfold compareOf
 rcases firstOf_spec ((s &&& ~~~t) ||| (t &&& ~~~s)) with ⟨h1, h2⟩ | ⟨h1, h2, h3, h4⟩
 ·left
  rw [h1]
  refine ⟨rfl, BS.ext fun c hc => ?_⟩
  have := diff_bit s t hc
  rw [h2] at this
  simp at this
  exact this
 ·right
  rw [h1]
  generalize (firstOf ((s &&& ~~~t) ||| (t &&& ~~~s))).1 = c at *
  rw [diff_bit s t h2] at h3
  have h5 : ∀ d, d < c -> s.getLsbD d = t.getLsbD d := fun d hd => by
   have := h4 d hd
   rw [diff_bit s t (by omega)] at this
   simpa using this
  cases hs : s.getLsbD c with
  | true =>
   have ht : t.getLsbD c = false := by rw [hs] at h3; simpa using h3
   exact .inl ⟨by simp, c, h2, h5, hs, ht⟩
  | false =>
   have ht : t.getLsbD c = true := by rw [hs] at h3; simpa using h3
   exact .inr ⟨by simp, c, h2, fun d hd => (h5 d hd).symm, ht, hs⟩
theorem ltS_irrefl (s : BS) : ¬ ltS s s := by
 rintro ⟨c, _, _, h1, h2⟩
 rw [h1] at h2; cases h2
theorem ltS_trans {s t u : BS} (h : ltS s t) (k : ltS t u) : ltS s u := by
 obtain ⟨c, hc, h1, h2, h3⟩ := h
 obtain ⟨d, hd, k1, k2, k3⟩ := k
 rcases Nat.lt_trichotomy c d with hcd | hcd | hcd
 ·exact ⟨c, hc, fun e he => (h1 e he).trans (k1 e (by omega)), h2, by rw [<- k1 c hcd]; exact h3⟩
 ·subst hcd; rw [h3] at k2; cases k2
 ·exact ⟨d, hd, fun e he => (h1 e (by omega)).trans (k1 e he), by rw [h1 d hcd]; exact k2, k3⟩
theorem ltOf_iff (s t : BS) : ltOf compareOf s t = true ↔ ltS s t := by
 unfold ltOf
 rcases compareOf_spec s t with ⟨h1, h2⟩ | ⟨h1, h2⟩ | ⟨h1, h2⟩
 ·rw [h1]; subst h2; simp [ltS_irrefl]
 ·rw [h1]; simp [h2]
 ·rw [h1]; simp; exact fun k => ltS_irrefl _ (ltS_trans h2 k)
theorem ltS_total (s t : BS) : s = t \/ ltS s t \/ ltS t s := by
 rcases compareOf_spec s t with ⟨_, h2⟩ | ⟨_, h2⟩ | ⟨_, h2⟩
 ·exact .inl h2
 ·exact .inr (.inl h2)
 ·exact .inr (.inr h2)
theorem swoS : Sort.SWO (ltOf compareOf) where
 irrefl x := by
  rw [<- Bool.not_eq_true, ltOf_iff]; exact ltS_irrefl x
 trans x y z h k := by rw [ltOf_iff] at *; exact ltS_trans h k
 ntrans x y z h k := by
  rw [<- Bool.not_eq_true, ltOf_iff] at *
  intro hz
  rcases ltS_total x y with e | e | e
  ·subst e; exact k hz
  ·exact h e
  ·exact k (ltS_trans e hz)
theorem totS (x y : BS) (h : ltOf compareOf x y = false) (k : ltOf compareOf y x = false) : x = y := by
 rw [<- Bool.not_eq_true, ltOf_iff] at *
 rcases ltS_total x y with e | e | e
 ·exact e
 ·exact absurd e h
 ·exact absurd e k

def partsOf (l : List BS) : List BS := (partsRaw l).mergeSort fun x y => !ltOf compareOf y x
end Go.Proofs.YtbiboekhakbnpaaGreatDoor
namespace Go.Proofs.YtbiboekhakbnpaaGreatDoor
open Go Go.RowKit Go.Shelf Go.Sort

def flatS (l : List BS) : List Value := l.flatMap fun s => (encS s).toList
theorem flatS_length (l : List BS) : (flatS l).length = l.length * 4 := by
 induction l with
 | nil => rfl
 | cons s l ih => simp only [flatS, List.flatMap_cons, List.length_append] at *; rw [ih]; simp [encS_size]; omega
theorem flatS_append (l m : List BS) : flatS (l ++ m) = flatS l ++ flatS m := by simp [flatS]
theorem flatS_one (s : BS) : flatS [s] = (encS s).toList := by simp [flatS]
theorem flatS_get (l : List BS) {i : Nat} {s : BS} (h : l[i]? = some s) {j : Nat} (hj : j < 4) : (flatS l)[i * 4 + j]? = (encS s)[j]? := by
 induction l generalizing i with
 | nil => simp at h
 | cons t l ih =>
  have hs : (encS t).toList.length = 4 := rfl
  simp only [flatS, List.flatMap_cons]
  cases i with
  | zero =>
   simp at h; subst h
   rw [Nat.zero_mul, Nat.zero_add, List.getElem?_append_left (by omega)]; simp
  | succ i =>
   rw [List.getElem?_append_right (by omega), hs, show (i + 1) * 4 + j - 4 = i * 4 + j by omega]
   exact ih (by simpa using h)

def encL (s : BS) : List Value := (encS s).toList
theorem flatK_eq (l : List BS) : flatK encL 4 l.toArray = (flatS l).toArray := by
 apply Array.ext_getElem?
 intro t
 by_cases ht : t < l.length * 4
 ·have hi : t / 4 < l.length := by omega
  have h1 := flatS_get l (List.getElem?_eq_getElem hi) (show t % 4 < 4 by omega)
  rw [show t / 4 * 4 + t % 4 = t by omega] at h1
  have h2 : (flatK encL 4 l.toArray)[t]? = some ((encL (l[t / 4]))[t % 4]!) := by
   unfold flatK
   simp [ht, hi]
  rw [h2, List.getElem?_toArray, h1]
  have h3 : t % 4 < (encL (l[t / 4])).length := by simp [encL, encS_size]; omega
  rw [getElem!_pos (encL (l[t / 4])) (t % 4) h3]
  simp [encL]
 ·rw [Array.getElem?_eq_none (by simp; omega), List.getElem?_toArray, List.getElem?_eq_none (by rw [flatS_length]; omega)]

theorem heap_sortK {w : World} {g q : Nat} {os : Array Obj} {cur : Array Value} {e : TypeId} {fr : Nat × Nat} (l : List BS) (hb : w.heap[g]? = some (.cells cur e fr)) :
  (sortWorldK encL 4 w g 0 q l.toArray os).heap[g]? = some (.cells (putCells id 0 (flatS l).toArray cur) e fr) := by
 have hg : g < w.heap.size := (Array.getElem?_eq_some_iff.1 hb).1
 unfold sortWorldK
 rw [heap_grow_old _ _ (by simpa [putRowK, putRow, mapBlock, Sort.ahead] using hg)]
 simp [putRowK, putRow, mapBlock, Sort.ahead, Array.getElem?_modify, hb, onCells, flatK_eq]
theorem grownBy_sortK {w : World} {g q : Nat} {os : Array Obj} (d : Array BS) : w.grownBy (sortWorldK encL 4 w g 0 q d os) (some g) := by
 unfold sortWorldK
 refine ⟨rfl, rfl, rfl, by simp [putRowK, putRow, mapBlock, Sort.ahead], fun k hk hne => ?_⟩
 rw [heap_grow_old _ _ (by simpa [putRowK, putRow, mapBlock, Sort.ahead] using hk)]
 have : g ≠ k := fun e => hne (by rw [e])
 simp [putRowK, putRow, mapBlock, Sort.ahead, Array.getElem?_modify, this]
theorem take_putS (cur : Array Value) (ts : List Value) (h : ts.length <= cur.size) : (putCells id 0 ts.toArray cur).toList.take ts.length = ts := by
 apply List.ext_getElem?
 intro j
 by_cases hj : j < ts.length
 ·rw [List.getElem?_take_of_lt hj, Array.getElem?_toList]
  simp [putCells, hj, show j < cur.size by omega]
 ·rw [List.getElem?_take_eq_none (by omega), List.getElem?_eq_none (by omega)]

theorem ownsRow_sortK {w : World} {base g cap n q : Nat} {e : TypeId} {os : Array Obj} {cur : Array Value} {ts : List BS} (hl : ts.length = n) (hbase : base <= g) (hb : w.heap[g]? = some (.cells cur e (0, 0)))
  (h1 : n <= cap) (h2 : cap <= maxLen) (h3 : cur.size = cap * 4) :
  (sortWorldK encL 4 w g 0 q ts.toArray os).ownsRow base e 4 (.slice (some ⟨g, 0, none⟩) n cap) n (flatS ts) :=
 ⟨by rw [flatS_length, hl], .inr ⟨g, cap, _, rfl, hbase, heap_sortK _ hb, h1, h2, by simp [putCells, h3], by
  rw [<- hl, <- flatS_length]; exact take_putS cur (flatS ts) (by rw [flatS_length, hl, h3]; exact Nat.mul_le_mul_right 4 h1)⟩⟩
theorem holdsK_row {w : World} {g : Nat} {e : TypeId} {cur : Array Value} {ts : List BS} (hb : w.heap[g]? = some (.cells cur e (0, 0))) (ht : cur.toList.take (ts.length * 4) = flatS ts) : HoldsK encL 4 w g 0 ts.toArray := by
 unfold HoldsK
 rw [flatK_eq]
 intro j hj
 have hj' : j < (flatS ts).length := by simpa using hj
 refine ⟨?_, by simp [World.frozen?, hb]⟩
 have hc : w.cell? ⟨g, 0 + j, none⟩ = cur[j]? := by simp [World.cell?, hb]
 rw [hc]
 have h1 : (flatS ts)[j]? = cur[j]? := by rw [<- ht, List.getElem?_take, if_pos (by rw [<- flatS_length]; exact hj')]; simp
 rw [<- h1, List.getElem?_eq_getElem hj', getElem!_pos (flatS ts).toArray j (by simpa using hj')]
 simp
end Go.Proofs.YtbiboekhakbnpaaGreatDoor
namespace Go.Proofs
open Go.Shelf
def Tryz.sortSets_ren : Go.Shelf.Ren := ⟨fun | 6 => 88 | 15 => 59 | 14 => 126 | 28 => 104 | 29 => 105 | 20 => 161 | 21 => 162 | 22 => 163 | 23 => 164 | 24 => 165 | 25 => 166 | 26 => 167 | 27 => 168 | 46 => 177 | 47 => 131 | 48 => 132 | 49 => 178 | 50 => 179 | 57 => 184 | n => n, fun | 22 => 28 | 24 => 70 | 25 => 155 | 3 => 3 | 39 => 116 | 0 => 0 | 53 => 167 | 55 => 68 | 4 => 4 | 46 => 161 | 45 => 160 | 50 => 164 | 5 => 5 | 9 => 9 | 66 => 197 | 70 => 201 | 76 => 231 | 77 => 232 | n => n, fun | n => n⟩
theorem Tryz.sortSets : Go.Proofs.SlLaysF0.n6 Tryz.prog Tryz.sortSets_ren := {
 mixed := by kernel_rfl
 f6 := ⟨Tryz.f88.name, by decide, Tryz.func88.trans (congrArg some (by kernel_rfl))⟩
 f14 := ⟨Tryz.f126.name, by decide, Tryz.func126.trans (congrArg some (by kernel_rfl))⟩
 f15 := Tryz.func59.trans (congrArg some (by kernel_rfl))
 f20 := ⟨Tryz.f161.name, by decide, Tryz.func161.trans (congrArg some (by kernel_rfl))⟩
 f21 := ⟨Tryz.f162.name, by decide, Tryz.func162.trans (congrArg some (by kernel_rfl))⟩
 f22 := ⟨Tryz.f163.name, by decide, Tryz.func163.trans (congrArg some (by kernel_rfl))⟩
 f23 := ⟨Tryz.f164.name, by decide, Tryz.func164.trans (congrArg some (by kernel_rfl))⟩
 f24 := ⟨Tryz.f165.name, by decide, Tryz.func165.trans (congrArg some (by kernel_rfl))⟩
 f25 := ⟨Tryz.f166.name, by decide, Tryz.func166.trans (congrArg some (by kernel_rfl))⟩
 f26 := ⟨Tryz.f167.name, by decide, Tryz.func167.trans (congrArg some (by kernel_rfl))⟩
 f27 := ⟨Tryz.f168.name, by decide, Tryz.func168.trans (congrArg some (by kernel_rfl))⟩
 f28 := Tryz.func104.trans (congrArg some (by kernel_rfl))
 f29 := Tryz.func105.trans (congrArg some (by kernel_rfl))
 f46 := ⟨Tryz.f177.name, by decide, Tryz.func177.trans (congrArg some (by kernel_rfl))⟩
 f47 := Tryz.func131.trans (congrArg some (by kernel_rfl))
 f48 := Tryz.func132.trans (congrArg some (by kernel_rfl))
 f49 := ⟨Tryz.f178.name, by decide, Tryz.func178.trans (congrArg some (by kernel_rfl))⟩
 f50 := ⟨Tryz.f179.name, by decide, Tryz.func179.trans (congrArg some (by kernel_rfl))⟩
 f57 := ⟨Tryz.f184.name, by decide, Tryz.func184.trans (congrArg some (by kernel_rfl))⟩
 t0 := Tryz.underlying0
 a0 := Tryz.isAgg0
 z0 := Tryz.sizeOf0
 v0 := Tryz.zeroValue0
 t3 := Tryz.underlying3
 a3 := Tryz.isAgg3
 z3 := Tryz.sizeOf3
 v3 := Tryz.zeroValue3
 t4 := Tryz.underlying4
 a4 := Tryz.isAgg4
 z4 := Tryz.sizeOf4
 v4 := Tryz.zeroValue4
 t5 := Tryz.underlying5
 a5 := Tryz.isAgg5
 z5 := Tryz.sizeOf5
 v5 := Tryz.zeroValue5
 t9 := Tryz.underlying9
 a9 := Tryz.isAgg9
 z9 := Tryz.sizeOf9
 v9 := Tryz.zeroValue9
 t22 := Tryz.underlying28
 a22 := Tryz.isAgg28
 z22 := Tryz.sizeOf28
 v22 := Tryz.zeroValue28
 t25 := Tryz.underlying155
 a25 := Tryz.isAgg155
 z25 := Tryz.sizeOf155
 v25 := Tryz.zeroValue155
 t39 := Tryz.underlying116
 a39 := Tryz.isAgg116
 z39 := Tryz.sizeOf116
 v39 := Tryz.zeroValue116
 t45 := Tryz.underlying160
 a45 := Tryz.isAgg160
 z45 := Tryz.sizeOf160
 v45 := Tryz.zeroValue160
 t46 := Tryz.underlying161
 a46 := Tryz.isAgg161
 z46 := Tryz.sizeOf161
 v46 := Tryz.zeroValue161
 t50 := Tryz.underlying164
 a50 := Tryz.isAgg164
 z50 := Tryz.sizeOf164
 v50 := Tryz.zeroValue164
 t53 := Tryz.underlying167
 a53 := Tryz.isAgg167
 z53 := Tryz.sizeOf167
 v53 := Tryz.zeroValue167
 t55 := Tryz.underlying68
 a55 := Tryz.isAgg68
 z55 := Tryz.sizeOf68
 v55 := Tryz.zeroValue68
 t66 := Tryz.underlying197
 a66 := Tryz.isAgg197
 z66 := Tryz.sizeOf197
 v66 := Tryz.zeroValue197
 t70 := Tryz.underlying201
 a70 := Tryz.isAgg201
 z70 := Tryz.sizeOf201
 v70 := Tryz.zeroValue201
 t76 := Tryz.underlying231
 a76 := Tryz.isAgg231
 z76 := Tryz.sizeOf231
 v76 := Tryz.zeroValue231
 t77 := Tryz.underlying232
 a77 := Tryz.isAgg232
 z77 := Tryz.sizeOf232
 v77 := Tryz.zeroValue232 }
end Go.Proofs
