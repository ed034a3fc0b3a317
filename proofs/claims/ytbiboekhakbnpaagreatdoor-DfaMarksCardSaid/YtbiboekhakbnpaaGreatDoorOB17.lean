/-
  The key of a row of state sets: different rows have different keys.
  The map of rows (by their keys) to numbers: its block holds the keys in the order in which they came.
  DERIVED: THE SHELF's CONTRACTS AT THIS DUMP, IN PLAIN WORDS (tools/lay-plain.mjs out of 'YtbiboekhakbnpaaGreatDoorBuildLSrc.lean', which tools/lay-shelf.mjs wrote): THE SAME DECLARATIONS UNDER THE SAME NAMES: 'import', 'namespace', 'open', 'def', 'theorem' AND NOTHING ELSE: no command of the shelf's: FOR A HAND-IN. Each laying: the table of numbers ('.._ren') and one theorem, a field a fact of the dump's own or the kernel's comparison; each contract: ONE APPLICATION.
  strings.Builder's WriteString and WriteByte: the library's contracts at this program's numbers (laid by hand: the layer's word does not find a number for the type interface{}, which no body of the closure names).
-/
import Derived.Test.YtbiboekhakbnpaaGreatDoorOB12
import Derived.Lib.ItoaNum
import Derived.Test.YtbiboekhakbnpaaGreatDoorOB06
import Derived.Maps.Keyed
import Derived.Maps.Own
import Derived.Shelf.Strings.BuilderK
import Derived.Shelf.Strconv.Itoa3
import Derived.Test.YtbiboekhakbnpaaGreatDoorProg
set_option maxRecDepth 100000
set_option maxHeartbeats 16000000
open Go.Lib (hid)
namespace Go.Proofs.YtbiboekhakbnpaaGreatDoor
open Go Go.RowKit Go.Shelf Go.Maps

theorem dec_digit (u : Nat) : ∀ c ∈ Lib.decDigits u, 48 <= c.toNat /\ c.toNat <= 57 := by
 induction u using Nat.strongRecOn with
 | _ u ih =>
  intro c hc
  rw [Lib.decDigits] at hc
  split at hc
  ·rename_i h
   simp at hc
   subst hc
   simp
   omega
  ·rename_i h
   rcases List.mem_append.1 hc with hc | hc
   ·exact ih (u / 10) (by omega) c hc
   ·simp at hc
    subst hc
    have : u % 10 < 10 := Nat.mod_lt _ (by decide)
    simp
    omega
def numOf (l : List UInt8) : Nat := l.foldl (fun a c => a * 10 + (c.toNat - 48)) 0
theorem numOf_dec (u : Nat) : numOf (Lib.decDigits u) = u := by
 induction u using Nat.strongRecOn with
 | _ u ih =>
  rw [Lib.decDigits]
  split
  ·rename_i h
   simp [numOf]
   omega
  ·rename_i h
   unfold numOf at ih ⊢
   rw [List.foldl_append, ih (u / 10) (by omega)]
   have : u % 10 < 10 := Nat.mod_lt _ (by decide)
   simp
   omega
theorem dec_inj {u v : Nat} (h : Lib.decDigits u = Lib.decDigits v) : u = v := by rw [<- numOf_dec u, <- numOf_dec v, h]
theorem itoa_chars (x : Int) : ∀ c ∈ Lib.itoa x, c ≠ 44 /\ c ≠ 59 := by
 have key : ∀ c : UInt8, (48 <= c.toNat /\ c.toNat <= 57) -> c ≠ 44 /\ c ≠ 59 := fun c h => ⟨fun e => by subst e; simp at h, fun e => by subst e; simp at h⟩
 intro c hc
 rw [Lib.itoa] at hc
 split at hc
 ·rcases List.mem_cons.1 hc with rfl | hc
  ·decide
  ·exact key c (dec_digit _ c hc)
 ·exact key c (dec_digit _ c hc)
theorem itoa_inj {x y : Int} (h : Lib.itoa x = Lib.itoa y) : x = y := by
 have hne : ∀ u (t : List UInt8), Lib.decDigits u ≠ 45 :: t := fun u t e => by
  have := dec_digit u 45 (by rw [e]; exact List.mem_cons_self ..)
  simp at this
 unfold Lib.itoa at h
 split at h <;> split at h
 ·have := dec_inj (List.cons.inj h).2
  omega
 ·exact absurd h.symm (hne _ _)
 ·exact absurd h (hne _ _)
 ·have := dec_inj h
  omega
theorem cut_at {α : Type} {s : α} : ∀ {a b c d : List α}, (∀ x ∈ a, x ≠ s) -> (∀ x ∈ b, x ≠ s) -> a ++ s :: c = b ++ s :: d -> a = b /\ c = d
 | [], [], c, d, _, _, h => ⟨rfl, by simpa using h⟩
 | [], y :: b, c, d, _, hb, h => by
  have : s = y := by simpa using (List.cons.inj (by simpa using h)).1
  exact absurd this.symm (hb y (List.mem_cons_self ..))
 | x :: a, [], c, d, ha, _, h => by
  have : x = s := by simpa using (List.cons.inj (by simpa using h)).1
  exact absurd this (ha x (List.mem_cons_self ..))
 | x :: a, y :: b, c, d, ha, hb, h => by
  have h' := List.cons.inj (by simpa using h : x :: (a ++ s :: c) = y :: (b ++ s :: d))
  obtain ⟨e1, e2⟩ := cut_at (fun z hz => ha z (List.mem_cons_of_mem _ hz)) (fun z hz => hb z (List.mem_cons_of_mem _ hz)) h'.2
  exact ⟨by rw [h'.1, e1], e2⟩
def numK (p : Int) : List UInt8 := Lib.itoa p ++ [44]
def numsK (l : List Int) : List UInt8 := l.flatMap numK
def listK (l : List Int) : List UInt8 := numsK l ++ [59]
def keyK (row : List (List Int)) : List UInt8 := row.flatMap listK
theorem numsK_cons (p : Int) (l : List Int) : numsK (p :: l) = numK p ++ numsK l := rfl
theorem numsK_no (l : List Int) : ∀ c ∈ numsK l, c ≠ 59 := by
 intro c hc
 obtain ⟨p, _, hp⟩ := List.mem_flatMap.1 hc
 rcases List.mem_append.1 hp with h | h
 ·exact (itoa_chars p c h).2
 ·simp at h; subst h; decide
theorem numsK_inj : ∀ {l m : List Int}, numsK l = numsK m -> l = m
 | [], [], _ => rfl
 | [], y :: m, h => by
  have : (numsK (y :: m)).length = 0 := by rw [<- h]; rfl
  rw [numsK_cons] at this
  simp [numK] at this
 | x :: l, [], h => by
  have : (numsK (x :: l)).length = 0 := by rw [h]; rfl
  rw [numsK_cons] at this
  simp [numK] at this
 | x :: l, y :: m, h => by
  rw [numsK_cons, numsK_cons] at h
  unfold numK at h
  simp only [List.append_assoc, List.cons_append, List.nil_append] at h
  obtain ⟨e1, e2⟩ := cut_at (fun c hc => (itoa_chars x c hc).1) (fun c hc => (itoa_chars y c hc).1) h
  rw [itoa_inj e1, numsK_inj e2]
theorem keyK_cons (l : List Int) (row : List (List Int)) : keyK (l :: row) = listK l ++ keyK row := rfl
theorem keyK_inj : ∀ {r s : List (List Int)}, keyK r = keyK s -> r = s
 | [], [], _ => rfl
 | [], y :: s, h => by
  have : (keyK (y :: s)).length = 0 := by rw [<- h]; rfl
  rw [keyK_cons] at this
  simp [listK] at this
 | x :: r, [], h => by
  have : (keyK (x :: r)).length = 0 := by rw [h]; rfl
  rw [keyK_cons] at this
  simp [listK] at this
 | x :: r, y :: s, h => by
  rw [keyK_cons, keyK_cons] at h
  unfold listK at h
  simp only [List.append_assoc, List.cons_append, List.nil_append] at h
  obtain ⟨e1, e2⟩ := cut_at (numsK_no x) (numsK_no y) h
  rw [numsK_inj e1, keyK_inj e2]
open Go.ChangeMaps (setBlock heap_setBlock_same)
open Go.WideMaps (keyOf_string_mk)

def strV (l : List UInt8) : Value := .string ⟨l.toArray⟩
theorem strV_inj {a b : List UInt8} (h : strV a = strV b) : a = b := by
 unfold strV at h
 injection h with h
 injection h with h
 simpa using h
def rowK (r : List (List Int)) : Value := strV (keyK r)
theorem rowK_inj {a b : List (List Int)} (h : rowK a = rowK b) : a = b := keyK_inj (strV_inj h)
def entR : Nat -> List (List (List Int)) -> List MapEntry
 | _, [] => []
 | n, p :: l => ⟨rowK p, .int .i64 n, n⟩ :: entR (n + 1) l
theorem entR_get : ∀ (l : List (List (List Int))) (n i : Nat), (entR n l)[i]? = (l[i]?).map fun p => ⟨rowK p, .int .i64 (n + i : Nat), n + i⟩
 | [], _, _ => by simp [entR]
 | p :: l, n, 0 => by simp [entR]
 | p :: l, n, i + 1 => by
  simp only [entR, List.getElem?_cons_succ, entR_get l]
  rw [show n + 1 + i = n + (i + 1) by omega]
theorem entR_append : ∀ (l : List (List (List Int))) (n : Nat) (q : List (List Int)), entR n (l ++ [q]) = entR n l ++ [⟨rowK q, .int .i64 (n + l.length : Nat), n + l.length⟩]
 | [], n, q => by simp [entR]
 | p :: l, n, q => by
  simp only [List.cons_append, entR, entR_append l, List.length_cons]
  rw [show n + 1 + l.length = n + (l.length + 1) by omega]
def IsMs (w : World) (b : Nat) (l : List (List (List Int))) : Prop := w.heap[b]? = some (.map (entR 0 l).toArray l.length)
theorem IsMs.keeps {w w' : World} {b : Nat} {l : List (List (List Int))} (h : IsMs w b l) {R : Nat -> Prop} (hk : Keeps R w w') (hb : R b) : IsMs w' b l := (hk.keep b hb).trans h
theorem IsMs.lt {w : World} {b : Nat} {l : List (List (List Int))} (h : IsMs w b l) : b < w.heap.size := (Array.getElem?_eq_some_iff.1 h).1
theorem IsMs.below {w w' : World} {b : Nat} {l : List (List (List Int))} (h : IsMs w b l) (hk : Below w.heap.size w w') : IsMs w' b l := (hk.block b h.lt).trans h
def KeyIn (r : List (List Int)) : Prop := (keyK r).length <= maxLen
theorem Tryz.keyedStr : Keyed Tryz.prog 9 := string_keyed Tryz.underlying9
theorem keyRow (r : List (List Int)) (h : KeyIn r) : ∃ l, keyOf Tryz.prog 9 (rowK r) = some l := ⟨_, keyOf_string_mk Tryz.underlying9 (by show (keyK r).toArray.size <= maxLen; rw [List.size_toArray]; exact h)⟩
theorem entRKeys {l : List (List (List Int))} (hl : ∀ p ∈ l, KeyIn p) : ∀ e ∈ entR 0 l, ∃ k, keyOf Tryz.prog 9 e.key = some k := fun e he => by
 obtain ⟨i, hi⟩ := List.mem_iff_getElem?.1 he
 rw [entR_get] at hi
 obtain ⟨p, hp, rfl⟩ := Option.map_eq_some_iff.1 hi
 exact keyRow p (hl p (List.mem_of_getElem? hp))
theorem idxOf_getR {α : Type} [DecidableEq α] {l : List α} (hn : l.Nodup) {i : Nat} {q : α} (h : l[i]? = some q) : l.idxOf q = i := by
 obtain ⟨h1, h2⟩ := List.getElem?_eq_some_iff.1 h
 subst h2
 exact List.Nodup.idxOf_getElem hn i h1
def ixR (l : List (List (List Int))) (q : List (List Int)) : Nat := @List.idxOf _ instBEqOfDecidableEq q l
theorem ms_look {w : World} {b : Nat} {l : List (List (List Int))} (h : IsMs w b l) (hn : l.Nodup) (hl : ∀ p ∈ l, KeyIn p) (q : List (List Int)) (hq : KeyIn q) :
  (q ∉ l /\ (Instr.lookup 92 (.map (some b)) (rowK q) true).run Tryz.prog w = .ok (.tuple #[.int .i64 0, .bool false]) w) \/
  (q ∈ l /\ (Instr.lookup 92 (.map (some b)) (rowK q) true).run Tryz.prog w = .ok (.tuple #[.int .i64 (ixR l q), .bool true]) w) := by
 have K := Tryz.keyedStr
 obtain ⟨kl, hk⟩ := keyRow q hq
 have hz : (zeroValue 3).run Tryz.prog w = .ok (.int .i64 0) w := by kernel_rfl
 have hb : w.heap[b]? = some (.map (entR 0 l).toArray l.length) := h
 rcases K.find w hk (entR 0 l) (entRKeys hl) with ⟨f1, f2⟩ | ⟨j, e0, f1, f2, f3⟩
 ·refine .inl ⟨fun hm => ?_, ?_⟩
  ·obtain ⟨i, hi⟩ := List.mem_iff_getElem?.1 hm
   have := entR_get l 0 i
   rw [hi] at this
   exact f2 _ (List.mem_of_getElem? this) rfl
  ·simp [Instr.lookup, run_underlying Tryz.underlying92, MapKept.run_getObj_map hb, K.check w _ hk, f1, hz, Result.andThen]
 ·rw [entR_get] at f2
  obtain ⟨p, hp, rfl⟩ := Option.map_eq_some_iff.1 f2
  have e : p = q := rowK_inj f3
  subst e
  refine .inr ⟨List.mem_of_getElem? hp, ?_⟩
  rw [show ixR l p = j from idxOf_getR hn hp]
  simp [Instr.lookup, run_underlying Tryz.underlying92, MapKept.run_getObj_map hb, K.check w _ hk, f1, Result.andThen]
theorem ms_put {w : World} {b : Nat} {l : List (List (List Int))} (h : IsMs w b l) (hl : ∀ p ∈ l, KeyIn p) (q : List (List Int)) (hqk : KeyIn q) (hq : q ∉ l) :
  ∃ w', (Instr.mapUpdate 92 (.map (some b)) (rowK q) (.int .i64 l.length)).run Tryz.prog w = .ok () w' /\ IsMs w' b (l ++ [q]) /\ Keeps (· ≠ b) w w' /\ w'.heap.size = w.heap.size := by
 have K := Tryz.keyedStr
 obtain ⟨kl, hk⟩ := keyRow q hqk
 have hb : w.heap[b]? = some (.map (entR 0 l).toArray l.length) := h
 rcases K.find w hk (entR 0 l) (entRKeys hl) with ⟨f1, f2⟩ | ⟨j, e0, f1, f2, f3⟩
 ·refine ⟨setBlock w b (.map (entR 0 (l ++ [q])).toArray (l ++ [q]).length), ?_, heap_setBlock_same hb _, ⟨rfl, rfl, rfl, by simp [setBlock], fun i hi => by show (w.heap.setIfInBounds b _)[i]? = _; exact Array.getElem?_setIfInBounds_ne (Ne.symm hi)⟩, by simp [setBlock]⟩
  rw [entR_append]
  simp [Instr.mapUpdate, run_underlying Tryz.underlying92, MapKept.run_getObj_map hb, K.check w false hk, f1, MapKept.run_setObj_map _ hb, Result.andThen, setBlock]
 ·rw [entR_get] at f2
  obtain ⟨p, hp, rfl⟩ := Option.map_eq_some_iff.1 f2
  have e : p = q := rowK_inj f3
  subst e
  exact absurd (List.mem_of_getElem? hp) hq
end Go.Proofs.YtbiboekhakbnpaaGreatDoor
namespace Go.Proofs
open Go.Shelf
def Tryz.lb169_ren : Go.Shelf.Ren := ⟨fun | 169 => 156 | n => n, fun | 70 => 211 | 9 => 9 | 0 => 0 | 72 => 213 | 37 => 23 | 127 => 237 | 3 => 3 | 5 => 5 | n => n, fun | n => n⟩
theorem Tryz.lb169 : Go.Proofs.Lays.n169 Tryz.prog Tryz.lb169_ren := {
 mixed := by kernel_rfl
 f169 := Tryz.func156.trans (congrArg some (by kernel_rfl))
 t0 := Tryz.underlying0
 a0 := Tryz.isAgg0
 z0 := Tryz.sizeOf0
 v0 := Tryz.zeroValue0
 t3 := Tryz.underlying3
 a3 := Tryz.isAgg3
 z3 := Tryz.sizeOf3
 v3 := Tryz.zeroValue3
 t9 := Tryz.underlying9
 a9 := Tryz.isAgg9
 z9 := Tryz.sizeOf9
 v9 := Tryz.zeroValue9
 t37 := Tryz.underlying23
 a37 := Tryz.isAgg23
 z37 := Tryz.sizeOf23
 v37 := Tryz.zeroValue23
 t70 := Tryz.underlying211
 a70 := Tryz.isAgg211
 z70 := Tryz.sizeOf211
 v70 := Tryz.zeroValue211
 t72 := Tryz.underlying213
 a72 := Tryz.isAgg213
 z72 := Tryz.sizeOf213
 v72 := Tryz.zeroValue213
 t127 := Tryz.underlying237
 a127 := Tryz.isAgg237
 z127 := Tryz.sizeOf237
 v127 := Tryz.zeroValue237 }
theorem Tryz.bx169 : Builder.Extra Tryz.prog Tryz.lb169_ren := {
 sizeBuilder := by kernel_rfl
 liesBuilder := by kernel_rfl
 t5 := Tryz.underlying5
 a5 := Tryz.isAgg5
 z5 := Tryz.sizeOf5
 v5 := Tryz.zeroValue5
 infoByte := by kernel_rfl
 cellsByte := by kernel_rfl
 sizeByte := by kernel_rfl
 neB5 := by decide }
def Tryz.li171_ren : Go.Shelf.Ren := ⟨fun | 171 => 154 | 243 => 176 | 246 => 183 | 283 => 185 | 284 => 186 | 285 => 187 | 286 => 188 | 129 => 105 | 317 => 189 | 318 => 190 | 319 => 191 | 320 => 192 | 337 => 193 | 338 => 194 | n => n, fun | 3 => 3 | 9 => 9 | 2 => 2 | 4 => 4 | 171 => 246 | 0 => 0 | 53 => 68 | 37 => 23 | 5 => 5 | 173 => 248 | 212 => 251 | 51 => 167 | 20 => 20 | 213 => 252 | 46 => 116 | 232 => 253 | 233 => 254 | n => n, fun | 17 => 0 | 18 => 1 | 19 => 2 | n => n⟩
theorem Tryz.li171 : Go.Proofs.LaysM.n171 Tryz.prog Tryz.li171_ren := {
 mixed := by kernel_rfl
 f129 := Tryz.func105.trans (congrArg some (by kernel_rfl))
 f171 := Tryz.func154.trans (congrArg some (by kernel_rfl))
 f243 := Tryz.func176.trans (congrArg some (by kernel_rfl))
 f246 := Tryz.func183.trans (congrArg some (by kernel_rfl))
 f283 := Tryz.func185.trans (congrArg some (by kernel_rfl))
 f284 := Tryz.func186.trans (congrArg some (by kernel_rfl))
 f285 := Tryz.func187.trans (congrArg some (by kernel_rfl))
 f286 := Tryz.func188.trans (congrArg some (by kernel_rfl))
 f317 := Tryz.func189.trans (congrArg some (by kernel_rfl))
 f318 := Tryz.func190.trans (congrArg some (by kernel_rfl))
 f319 := Tryz.func191.trans (congrArg some (by kernel_rfl))
 f320 := Tryz.func192.trans (congrArg some (by kernel_rfl))
 f337 := Tryz.func193.trans (congrArg some (by kernel_rfl))
 f338 := Tryz.func194.trans (congrArg some (by kernel_rfl))
 t0 := Tryz.underlying0
 a0 := Tryz.isAgg0
 z0 := Tryz.sizeOf0
 v0 := Tryz.zeroValue0
 t2 := Tryz.underlying2
 a2 := Tryz.isAgg2
 z2 := Tryz.sizeOf2
 v2 := Tryz.zeroValue2
 t3 := Tryz.underlying3
 a3 := Tryz.isAgg3
 z3 := Tryz.sizeOf3
 v3 := Tryz.zeroValue3
 t4 := Tryz.underlying4
 a4 := Tryz.isAgg4
 z4 := Tryz.sizeOf4
 v4 := Tryz.zeroValue4
 t5 := Tryz.underlying5
 a5 := Tryz.isAgg5
 z5 := Tryz.sizeOf5
 v5 := Tryz.zeroValue5
 t9 := Tryz.underlying9
 a9 := Tryz.isAgg9
 z9 := Tryz.sizeOf9
 v9 := Tryz.zeroValue9
 t20 := Tryz.underlying20
 a20 := Tryz.isAgg20
 z20 := Tryz.sizeOf20
 v20 := Tryz.zeroValue20
 t37 := Tryz.underlying23
 a37 := Tryz.isAgg23
 z37 := Tryz.sizeOf23
 v37 := Tryz.zeroValue23
 t46 := Tryz.underlying116
 a46 := Tryz.isAgg116
 z46 := Tryz.sizeOf116
 v46 := Tryz.zeroValue116
 t51 := Tryz.underlying167
 a51 := Tryz.isAgg167
 z51 := Tryz.sizeOf167
 v51 := Tryz.zeroValue167
 t53 := Tryz.underlying68
 a53 := Tryz.isAgg68
 z53 := Tryz.sizeOf68
 v53 := Tryz.zeroValue68
 t171 := Tryz.underlying246
 a171 := Tryz.isAgg246
 z171 := Tryz.sizeOf246
 v171 := Tryz.zeroValue246
 t173 := Tryz.underlying248
 a173 := Tryz.isAgg248
 z173 := Tryz.sizeOf248
 v173 := Tryz.zeroValue248
 t212 := Tryz.underlying251
 a212 := Tryz.isAgg251
 z212 := Tryz.sizeOf251
 v212 := Tryz.zeroValue251
 t213 := Tryz.underlying252
 a213 := Tryz.isAgg252
 z213 := Tryz.sizeOf252
 t232 := Tryz.underlying253
 a232 := Tryz.isAgg253
 z232 := Tryz.sizeOf253
 v232 := Tryz.zeroValue253
 t233 := Tryz.underlying254
 a233 := Tryz.isAgg254
 z233 := Tryz.sizeOf254
 v233 := Tryz.zeroValue254
 g17 := by kernel_rfl
 g18 := by kernel_rfl
 g19 := by kernel_rfl
 i0 := by kernel_rfl
 i2 := by kernel_rfl
 i3 := by kernel_rfl
 i4 := by kernel_rfl
 i5 := by kernel_rfl
 i9 := by kernel_rfl
 i20 := by kernel_rfl
 i37 := by kernel_rfl
 i46 := by kernel_rfl
 i51 := by kernel_rfl
 i53 := by kernel_rfl
 i171 := by kernel_rfl
 i173 := by kernel_rfl
 i212 := by kernel_rfl
 i232 := by kernel_rfl
 i233 := by kernel_rfl
 m17 := by kernel_rfl
 m18 := by kernel_rfl
 m19 := by kernel_rfl }
end Go.Proofs
namespace Go.Proofs
open Go.Shelf
def Tryz.lb166_ren : Go.Shelf.Ren := ⟨fun | 166 => 153 | 240 => 175 | 276 => 182 | n => n, fun | 0 => 0 | 3 => 3 | 4 => 4 | 5 => 5 | 9 => 9 | 20 => 20 | 37 => 23 | 70 => 211 | 72 => 213 | 75 => 215 | 80 => 220 | 164 => 242 | n => n, fun | n => n⟩
theorem Tryz.lb166 : Go.Proofs.Lays.n166 Tryz.prog Tryz.lb166_ren := {
 mixed := by kernel_rfl
 f166 := Tryz.func153.trans (congrArg some (by kernel_rfl))
 f240 := Tryz.func175.trans (congrArg some (by kernel_rfl))
 f276 := Tryz.func182.trans (congrArg some (by kernel_rfl))
 t0 := Tryz.underlying0
 a0 := Tryz.isAgg0
 z0 := Tryz.sizeOf0
 v0 := Tryz.zeroValue0
 t3 := Tryz.underlying3
 a3 := Tryz.isAgg3
 z3 := Tryz.sizeOf3
 v3 := Tryz.zeroValue3
 t4 := Tryz.underlying4
 a4 := Tryz.isAgg4
 z4 := Tryz.sizeOf4
 v4 := Tryz.zeroValue4
 t9 := Tryz.underlying9
 a9 := Tryz.isAgg9
 z9 := Tryz.sizeOf9
 v9 := Tryz.zeroValue9
 t20 := Tryz.underlying20
 a20 := Tryz.isAgg20
 z20 := Tryz.sizeOf20
 v20 := Tryz.zeroValue20
 t37 := Tryz.underlying23
 a37 := Tryz.isAgg23
 z37 := Tryz.sizeOf23
 v37 := Tryz.zeroValue23
 t70 := Tryz.underlying211
 a70 := Tryz.isAgg211
 z70 := Tryz.sizeOf211
 v70 := Tryz.zeroValue211
 t72 := Tryz.underlying213
 a72 := Tryz.isAgg213
 z72 := Tryz.sizeOf213
 v72 := Tryz.zeroValue213
 t75 := Tryz.underlying215
 a75 := Tryz.isAgg215
 z75 := Tryz.sizeOf215
 v75 := Tryz.zeroValue215
 t164 := Tryz.underlying242
 a164 := Tryz.isAgg242
 z164 := Tryz.sizeOf242
 v164 := Tryz.zeroValue242 }
theorem Tryz.bx166 : Builder.Extra Tryz.prog Tryz.lb166_ren := {
 sizeBuilder := by kernel_rfl
 liesBuilder := by kernel_rfl
 t5 := Tryz.underlying5
 a5 := Tryz.isAgg5
 z5 := Tryz.sizeOf5
 v5 := Tryz.zeroValue5
 infoByte := by kernel_rfl
 cellsByte := by kernel_rfl
 sizeByte := by kernel_rfl
 neB5 := by decide }
def Tryz.lb167_ren : Go.Shelf.Ren := ⟨fun | 167 => 155 | 240 => 175 | 276 => 182 | n => n, fun | 0 => 0 | 3 => 3 | 4 => 4 | 5 => 5 | 9 => 9 | 20 => 20 | 37 => 23 | 70 => 211 | 72 => 213 | 75 => 215 | 80 => 220 | 164 => 242 | n => n, fun | n => n⟩
theorem Tryz.lb167 : Go.Proofs.Lays.n167 Tryz.prog Tryz.lb167_ren := {
 mixed := by kernel_rfl
 f167 := Tryz.func155.trans (congrArg some (by kernel_rfl))
 f240 := Tryz.func175.trans (congrArg some (by kernel_rfl))
 f276 := Tryz.func182.trans (congrArg some (by kernel_rfl))
 t0 := Tryz.underlying0
 a0 := Tryz.isAgg0
 z0 := Tryz.sizeOf0
 v0 := Tryz.zeroValue0
 t4 := Tryz.underlying4
 a4 := Tryz.isAgg4
 z4 := Tryz.sizeOf4
 v4 := Tryz.zeroValue4
 t5 := Tryz.underlying5
 a5 := Tryz.isAgg5
 z5 := Tryz.sizeOf5
 v5 := Tryz.zeroValue5
 t9 := Tryz.underlying9
 a9 := Tryz.isAgg9
 z9 := Tryz.sizeOf9
 v9 := Tryz.zeroValue9
 t20 := Tryz.underlying20
 a20 := Tryz.isAgg20
 z20 := Tryz.sizeOf20
 v20 := Tryz.zeroValue20
 t37 := Tryz.underlying23
 a37 := Tryz.isAgg23
 z37 := Tryz.sizeOf23
 v37 := Tryz.zeroValue23
 t70 := Tryz.underlying211
 a70 := Tryz.isAgg211
 z70 := Tryz.sizeOf211
 v70 := Tryz.zeroValue211
 t72 := Tryz.underlying213
 a72 := Tryz.isAgg213
 z72 := Tryz.sizeOf213
 v72 := Tryz.zeroValue213
 t75 := Tryz.underlying215
 a75 := Tryz.isAgg215
 z75 := Tryz.sizeOf215
 v75 := Tryz.zeroValue215
 t164 := Tryz.underlying242
 a164 := Tryz.isAgg242
 z164 := Tryz.sizeOf242
 v164 := Tryz.zeroValue242 }
theorem Tryz.bx167 : Builder.Extra Tryz.prog Tryz.lb167_ren := {
 sizeBuilder := by kernel_rfl
 liesBuilder := by kernel_rfl
 t5 := Tryz.underlying5
 a5 := Tryz.isAgg5
 z5 := Tryz.sizeOf5
 v5 := Tryz.zeroValue5
 infoByte := by kernel_rfl
 cellsByte := by kernel_rfl
 sizeByte := by kernel_rfl
 neB5 := by decide }
end Go.Proofs
