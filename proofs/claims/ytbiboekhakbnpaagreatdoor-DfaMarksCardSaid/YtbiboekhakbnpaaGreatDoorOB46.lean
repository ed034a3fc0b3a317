/-
  Plain facts on (*maker).make: the states by the least bytes, and one row of the table more.
-/
import Derived.Test.YtbiboekhakbnpaaGreatDoorOB26
import Derived.Test.YtbiboekhakbnpaaGreatDoorOB19
set_option maxRecDepth 100000
set_option maxHeartbeats 16000000
open Go.Lib (hid)
namespace Go.Proofs.YtbiboekhakbnpaaGreatDoor
open Go Go.RowKit Go.Shelf Go.Maps

def mkG (ps : List PT) (ls : List Nat) (row : List (List Int)) (k : Nat) : List (List Int) := stepR ps row (ls.getD k 0)
def mkSt (ps : List PT) (ls : List Nat) (f : Nat) : Option (List (List (List Int)) × List (List Nat)) :=
 if f = 0 then none else stTo f (mkG ps ls) ls.length (row0 ps) f
theorem addR_in {f : Nat} {rows : List (List (List Int))} {row : List Nat} {q : List (List Int)} (h : q ∈ rows) : addQ f (rows, row) q = some (rows, row ++ [ixR rows q]) := addQ_old (st := (rows, row)) h
theorem addR_new {f : Nat} {rows : List (List (List Int))} {row : List Nat} {q : List (List Int)} (h : q ∉ rows) (hf : rows.length < f) : addQ f (rows, row) q = some (rows ++ [q], row ++ [rows.length]) := addQ_new (st := (rows, row)) h (Nat.ne_of_lt hf)
theorem addR_full {f : Nat} {rows : List (List (List Int))} {row : List Nat} {q : List (List Int)} (h : q ∉ rows) (hf : rows.length = f) : addQ f (rows, row) q = none := addQ_full (st := (rows, row)) h hf
theorem mk_ok {ps : List PT} {ls : List Nat} {f n : Nat} (hf : 1 <= f) {st : List (List (List Int)) × List (List Nat)} (h : stTo f (mkG ps ls) ls.length (row0 ps) n = some st) : StOk f ls.length (RowIn ps) (row0 ps) n st :=
 stTo_ok hf (row0_in ps) (fun _ _ hr _ => stepR_in hr _) n h
theorem mk_done {ps : List PT} {ls : List Nat} {f n : Nat} (hf : 1 <= f) {st : List (List (List Int)) × List (List Nat)} (h : stTo f (mkG ps ls) ls.length (row0 ps) n = some st) (hn : st.1.length = n) : mkSt ps ls f = some st := by
 unfold mkSt
 rw [if_neg (by omega)]
 exact stTo_end h (by omega) f (by have := (mk_ok hf h).le; omega)
theorem mk_row {ps : List PT} {ls : List Nat} {f n : Nat} {rows : List (List (List Int))} {nxs : List (List Nat)} (h : stTo f (mkG ps ls) ls.length (row0 ps) n = some (rows, nxs)) {p : List (List Int)} (hp : rows[n]? = some p) :
  stTo f (mkG ps ls) ls.length (row0 ps) (n + 1) = (rowTo f (mkG ps ls p) rows ls.length).map fun r => (r.1, nxs ++ [r.2]) := by
 rw [stTo, h]
 show stStep f (mkG ps ls) ls.length n (rows, nxs) = _
 unfold stStep
 simp only [hp]
theorem mk_gone {ps : List PT} {ls : List Nat} {f n k : Nat} (hf : 1 <= f) {rows : List (List (List Int))} {nxs : List (List Nat)} (h : stTo f (mkG ps ls) ls.length (row0 ps) n = some (rows, nxs)) {p : List (List Int)} (hp : rows[n]? = some p)
  {rows' : List (List (List Int))} {row' : List Nat} (hr : rowTo f (mkG ps ls p) rows k = some (rows', row')) (hk : k < ls.length) (hq : mkG ps ls p k ∉ rows') (hfl : f <= rows'.length) : mkSt ps ls f = none := by
 have I := mk_ok hf h
 have R := rowTo_ok (P := fun _ => True) I.nodup I.le (fun _ _ => trivial) k (fun _ _ => trivial) hr
 have h1 : rowTo f (mkG ps ls p) rows (k + 1) = none := by
  rw [rowTo, hr]
  exact addR_full hq (Nat.le_antisymm R.le hfl)
 have h2 := rowTo_none h1 ls.length (by omega)
 have h3 := mk_row h hp
 rw [h2] at h3
 have hn : n < rows.length := (List.getElem?_eq_some_iff.1 hp).1
 have hle : rows.length <= f := I.le
 unfold mkSt
 rw [if_neg (by omega)]
 exact stTo_none h3 f (by omega)
theorem keepN {wm wg : World} {mb base L : Nat} {cs : Array Value} {nv : Value} {ns : List Value} (hb : Blk wm mb cs 95) (hn : wm.ownsRow base 37 1 nv L ns)
  (K : Keeps (fun x => x < wm.heap.size /\ x ≠ mb /\ nv.ownBlock ≠ some x) wm wg) {b n : Nat} {e : TypeId} {v : Value} {xs : List Value} (h : wm.ownsRow b e 1 v n xs) (h1 : 95 ≠ e) (h3 : e ≠ 37 \/ ∀ x, v.ownBlock = some x -> nv.ownBlock ≠ some x) : wg.ownsRow b e 1 v n xs :=
 ownsRow_keeps h K fun x hx => ⟨(h.lt x hx).2, row_ne hb h h1 x hx, fun e2 => by
  rcases h3 with h3 | h3
  ·rcases ownBlock_ne h3 h hn with h5 | h5
   ·rw [h5] at hx; cases hx
   ·exact h5 (by rw [hx, e2])
  ·exact h3 x hx e2⟩
theorem Far.not {u v : Value} (h : Far u v) : ∀ x, u.ownBlock = some x -> v.ownBlock ≠ some x := fun x e e2 => by
 rcases h with h | h
 ·rw [h] at e; cases e
 ·exact h (by rw [e, e2])
theorem Far.not' {u v : Value} (h : Far u v) : ∀ x, v.ownBlock = some x -> u.ownBlock ≠ some x := fun x e e2 => h.not x e2 e
theorem Mk.next {F : Nat -> Prop} {wm wg : World} {base mb ob f L : Nat} {pv cv : Value} {ps : List PT} {rows : List (List (List Int))} {nx : List (List Int)} {sv nv kv nv' xv : Value} {us ns ks : List Value} {l : List Int}
  (M : Mk F wm base mb ob f pv cv ps rows nx sv nv kv us ns ks) (hL : L = nx.length)
  (K : Keeps (fun x => x < wm.heap.size /\ x ≠ mb /\ nv.ownBlock ≠ some x) wm wg)
  (hblk : Blk wg mb #[pv, .int .i64 f, sv, .map (some ob), cv, nv', kv] 95) (hnr : RowF F wg base 37 nv' (L + 1) (ns ++ [xv])) (hx : RowF F wg base 3 xv l.length (l.map encZ))
  (hnf : nv'.ownBlock = nv.ownBlock \/ ∀ x, nv'.ownBlock = some x -> wm.heap.size <= x) : Mk F wg base mb ob f pv cv ps rows (nx ++ [l]) sv nv' kv us (ns ++ [xv]) ks where
 blk := hblk
 map := M.map.keeps K ⟨M.map.lt, (fun e => by have h2 : wm.heap[mb]? = _ := M.blk; have h3 : wm.heap[ob]? = _ := M.map; rw [e, h2] at h3; cases h3), fun e => row_nb M.nxr.1 M.map (fun c fz e => by cases e) ob e rfl⟩
 fm := M.fm
 fo := M.fo
 bm := M.bm
 bo := M.bo
 st := ⟨keepN M.blk M.nxr.1 K M.st.1 (by decide) (.inl (by decide)), M.st.2⟩
 stI := fun i u q hu hq => by
  obtain ⟨⟨vs, h1, h2⟩, h3, h4⟩ := M.stI i u q hu hq
  exact ⟨⟨vs, ⟨keepN M.blk M.nxr.1 K h1.1 (by decide) (.inr h3.not), h1.2⟩, fun i u l hu hl => ⟨keepN M.blk M.nxr.1 K (h2 i u l hu hl).1 (by decide) (.inl (by decide)), (h2 i u l hu hl).2⟩⟩, h3.step hnf fun b e => (h1.1.lt b e).2, h4⟩
 nxr := by rw [List.length_append, <- hL]; exact hnr
 nxI := fun i u l' hu hl => by
  have hul : ns.length = L := by have := M.nxr.1.1; omega
  by_cases hi : i < L
  ·rw [List.getElem?_append_left (by omega)] at hu
   rw [List.getElem?_append_left (by omega)] at hl
   exact ⟨keepN M.blk M.nxr.1 K (M.nxI i u l' hu hl).1 (by decide) (.inl (by decide)), (M.nxI i u l' hu hl).2⟩
  ·have hil := (List.getElem?_eq_some_iff.1 hu).1
   simp at hil
   obtain rfl : i = L := by omega
   rw [List.getElem?_append_right (by omega), hul, Nat.sub_self] at hu
   rw [List.getElem?_append_right (by omega), <- hL, Nat.sub_self] at hl
   cases hu
   cases hl
   exact hx
 mkr := ⟨keepN M.blk M.nxr.1 K M.mkr.1 (by decide) (.inr M.far.not'), M.mkr.2⟩
 mkI := fun i u l hu hl => ⟨keepN M.blk M.nxr.1 K (M.mkI i u l hu hl).1 (by decide) (.inl (by decide)), (M.mkI i u l hu hl).2⟩
 far := by
  rcases hnf with h | h
  ·rcases M.far with h5 | h5
   ·exact .inl (h.trans h5)
   ·exact .inr (by rw [h]; exact h5)
  ·cases e : nv'.ownBlock with
   | none => exact .inl e
   | some x => exact .inr fun e2 => by have := h x e; have := (M.mkr.1.lt x (by rw [<- e2, e])).2; omega
end Go.Proofs.YtbiboekhakbnpaaGreatDoor
