/-
  Rows of parts in memory: the law's own ones, those of the reference, and those that a law is given.
  Opening parts that come by value, by the form's own reach.
  The automaton of parts is right.
  Plain facts: the table is the same with any fuel that holds its states; with less there is none.
  The automaton of parts with the fuel that the law hands the reference.
  The law's makes of automata of parts: what its first loop keeps.
  Trees of regexes in plain words: nodes, what is right and clean, positions, and the automaton of positions that is made of a tree.
-/
import Derived.Test.YtbiboekhakbnpaaGreatDoorOB14
import Derived.Test.YtbiboekhakbnpaaGreatDoorOB18
import Derived.Test.YtbiboekhakbnpaaGreatDoorOB13
import Derived.Test.YtbiboekhakbnpaaGreatDoorOB12
import Derived.Test.YtbiboekhakbnpaaGreatDoorOB11
import Derived.Test.YtbiboekhakbnpaaGreatDoorOB09
import Derived.Test.YtbiboekhakbnpaaGreatDoorOB02
set_option maxRecDepth 100000
set_option maxHeartbeats 16000000
open Go.Lib (hid)
namespace Go.Proofs.YtbiboekhakbnpaaGreatDoor
open Go Go.RowKit Go.Shelf Go.Maps

def PtIs (Q : World -> Value -> NF -> Prop) (w : World) (x : PT) (f : Nat -> Option Value) : Prop :=
 ∃ v0 v1 v2 v3, Q w (.agg #[v0, v1, v2, v3, .bool x.nf.emp]) x.nf /\ f 0 = some v0 /\ f 1 = some v1 /\ f 2 = some v2 /\ f 3 = some v3 /\ f 4 = some (.bool x.nf.emp) /\ f 5 = some (.bool x.beg) /\ f 6 = some (.int .i64 x.mark)
theorem PtIs.mono {Q R : World -> Value -> NF -> Prop} {w w' : World} {x : PT} {f g : Nat -> Option Value} (h : PtIs Q w x f) (hq : ∀ v, Q w v x.nf -> R w' v x.nf) (hf : ∀ j, j < 7 -> ∀ u, f j = some u -> g j = some u) : PtIs R w' x g := by
 obtain ⟨v0, v1, v2, v3, h0, h1, h2, h3, h4, h5, h6, h7⟩ := h
 exact ⟨v0, v1, v2, v3, hq _ h0, hf 0 (by decide) _ h1, hf 1 (by decide) _ h2, hf 2 (by decide) _ h3, hf 3 (by decide) _ h4, hf 4 (by decide) _ h5, hf 5 (by decide) _ h6, hf 6 (by decide) _ h7⟩
theorem OwnNf.below {base : Nat} {w w' : World} {v : Value} {a : NF} (h : OwnNf base w v a) (hk : Below w.heap.size w w') : OwnNf base w' v a := by
 obtain ⟨v0, v1, v2, v3, e, h0, h1, h2, h3⟩ := h
 exact ⟨v0, v1, v2, v3, e, ownsRow_below h0 hk, h1.below hk, ownsRow_below h2 hk, ownsRow_below h3 hk⟩
theorem OwnNf.base {base base' : Nat} {w : World} {v : Value} {a : NF} (h : OwnNf base w v a) (hb : base' <= base) : OwnNf base' w v a := by
 obtain ⟨v0, v1, v2, v3, e, h0, h1, h2, h3⟩ := h
 exact ⟨v0, v1, v2, v3, e, ownsRow_base h0 hb, h1.base hb, ownsRow_base h2 hb, ownsRow_base h3 hb⟩
theorem row_far {w w' : World} {b1 b2 s1 s2 n1 n2 : Nat} {e1 e2 : TypeId} {v1 v2 : Value} {x1 x2 : List Value} (he : e1 ≠ e2) (h1 : w.ownsRow b1 e1 s1 v1 n1 x1) (h2 : w.ownsRow b2 e2 s2 v2 n2 x2) (hk : Keeps (fun x => x < w.heap.size /\ v2.ownBlock ≠ some x) w w') : w'.ownsRow b1 e1 s1 v1 n1 x1 :=
 ownsRow_keeps h1 hk fun x hx => ⟨(h1.lt x hx).2, fun e => by
  rcases ownBlock_ne he h1 h2 with h5 | h5
  ·rw [h5] at hx; cases hx
  ·exact h5 (hx.trans e.symm)⟩
theorem OwnLL.far {w w' : World} {b1 b2 s2 n2 : Nat} {e2 : TypeId} {v1 v2 : Value} {x2 : List Value} {ll : List (List Int)} (h1 : OwnLL b1 w v1 ll) (h2 : w.ownsRow b2 e2 s2 v2 n2 x2) (ha : 37 ≠ e2) (hb : 3 ≠ e2) (hk : Keeps (fun x => x < w.heap.size /\ v2.ownBlock ≠ some x) w w') : OwnLL b1 w' v1 ll := by
 obtain ⟨us, e, o1, o2⟩ := h1
 exact ⟨us, e, row_far ha o1 h2 hk, fun i u l hu hl => row_far hb (o2 i u l hu hl) h2 hk⟩
theorem OwnNf.far {w w' : World} {b1 b2 s2 n2 : Nat} {e2 : TypeId} {v1 v2 : Value} {x2 : List Value} {a : NF} (h1 : OwnNf b1 w v1 a) (h2 : w.ownsRow b2 e2 s2 v2 n2 x2) (h0 : 70 ≠ e2) (ha : 37 ≠ e2) (hb : 3 ≠ e2) (hk : Keeps (fun x => x < w.heap.size /\ v2.ownBlock ≠ some x) w w') : OwnNf b1 w' v1 a := by
 obtain ⟨v0, v1, v2, v3, e, o0, o1, o2, o3⟩ := h1
 exact ⟨v0, v1, v2, v3, e, row_far h0 o0 h2 hk, o1.far h2 ha hb hk, row_far hb o2 h2 hk, row_far hb o3 h2 hk⟩
end Go.Proofs.YtbiboekhakbnpaaGreatDoor
namespace Go.Proofs.YtbiboekhakbnpaaGreatDoor
open Go Go.ChangeShapes Go.WideShapes Go.ChangeAt Go.RowKit Go.Deep
section
variable {H : Type} {enc : TypeId × Value → H} {W : World}

theorem lt_of_cell {b j : Nat} {u : Value} (h : W.cell? ⟨b, j, none⟩ = some u) : b < W.heap.size := by
 unfold World.cell? at h
 cases hh : W.heap[b]? with
 | none => rw [hh] at h; cases h
 | some o => exact (Array.getElem?_eq_some_iff.1 hh).1
theorem add_none (b o i : Nat) : (⟨b, o, none⟩ : Addr).add i = ⟨b, o + i, none⟩ := by
 unfold Addr.add
 split
 ·rename_i h; subst h; rfl
 ·rfl
end
end Go.Proofs.YtbiboekhakbnpaaGreatDoor
namespace Go.Proofs.YtbiboekhakbnpaaGreatDoor
open Go Go.RowKit Go.Shelf Go.Maps

theorem ofSt_ok {ps : List PT} {fuel : Nat} {st : List (List (List Int)) × List (List Nat)} (h : ofSt ps fuel = some st) : StOk fuel (partsOf (allSets ps)).length (RowIn ps) (row0 ps) fuel st := by
 unfold ofSt at h
 split at h
 ·cases h
 ·rename_i hf
  exact stTo_ok (by omega) (row0_in ps) (fun row k hr _ => stepR_in hr _) fuel h
theorem of_right {ps : List PT} {fuel : Nat} (hf2 : fuel <= 4000) {st : List (List (List Int)) × List (List Nat)} (h : ofSt ps fuel = some st) : Rt ⟨partsOf (allSets ps), st.2.map fun r => r.map Int.ofNat, st.1.map (marksR ps)⟩ := by
 have I := ofSt_ok h
 have hlen : st.2.length = st.1.length := by have := I.len; have := I.le; omega
 have hrow : ∀ s, s < st.2.length -> ((st.2.map fun r => r.map Int.ofNat).getD s []) = (st.2.getD s []).map Int.ofNat /\ (st.2.getD s []) ∈ st.2 := fun s hs => by
  have e := some_getD (l := st.2) [] hs
  refine ⟨?_, List.mem_of_getElem? e⟩
  rw [List.getD_eq_getElem?_getD, List.getElem?_map, e]; rfl
 refine ⟨?_, ?_, ?_, partsOf_partsOf _, ?_, ?_, ?_⟩
 ·show 1 <= (st.2.map fun r => r.map Int.ofNat).length
  have := (List.getElem?_eq_some_iff.1 I.head).1
  simp; omega
 ·show (st.2.map fun r => r.map Int.ofNat).length <= 4000
  have := I.le
  simp; omega
 ·simp [hlen]
 ·intro s hs
  rw [List.length_map] at hs
  obtain ⟨e, hm⟩ := hrow s hs
  show ((st.2.map fun r => r.map Int.ofNat).getD s []).length = _
  rw [e, List.length_map]
  exact (I.rows _ hm).1
 ·intro s hs t ht
  rw [List.length_map] at hs
  obtain ⟨e, hm⟩ := hrow s hs
  replace ht : t ∈ ((st.2.map fun r => r.map Int.ofNat).getD s []) := ht
  rw [e] at ht
  obtain ⟨q, hq, rfl⟩ := List.mem_map.1 ht
  have h2 := (I.rows _ hm).2 q hq
  show (0 : Int) <= (q : Int) /\ (q : Int) < (((st.2.map fun r => r.map Int.ofNat).length : Nat) : Int)
  rw [List.length_map]
  omega
 ·intro s hs
  rw [List.length_map] at hs
  show risB ((st.1.map (marksR ps)).getD s []) = true
  rw [List.getD_eq_getElem?_getD, List.getElem?_map, List.getElem?_eq_getElem (by omega)]
  exact marksR_ris ps _
theorem ofE_right {ps : List PT} {fuel : Int} {d : DF} (h : ofE ps fuel = (d, 0)) : Rt d := by
 unfold ofE at h
 split at h
 ·cases h
 ·split at h
  ·cases h
  ·split at h
   ·cases h
   ·rename_i hf
    split at h
    ·cases h
    ·rename_i st hst
     have e : (⟨partsOf (allSets ps), st.2.map fun r => r.map Int.ofNat, st.1.map (marksR ps)⟩ : DF) = d := (Prod.mk.inj h).1
     rw [<- e]
     exact of_right (by omega) hst
section
variable {α : Type} [DecidableEq α]
theorem addQ_len {f : Nat} {st st' : List α × List Nat} {q : α} (h : addQ f st q = some st') : st.1.length <= st'.1.length := by
 unfold addQ at h
 split at h
 ·split at h
  ·cases h
  ·cases h; simp
 ·cases h; exact Nat.le_refl _
theorem addQ_same {f g : Nat} {st st' : List α × List Nat} {q : α} (h : addQ f st q = some st') (hg : st'.1.length <= g) : addQ g st q = some st' := by
 unfold addQ at h ⊢
 split at h
 ·rename_i e
  rw [if_pos e]
  split at h
  ·cases h
  ·cases h
   rw [if_neg]
   have : st.1.length + 1 <= g := by simpa using hg
   omega
 ·rename_i e
  rw [if_neg e]
  exact h
theorem rowTo_len {f : Nat} {s : Nat -> α} {todo : List α} : ∀ {k : Nat} {st : List α × List Nat}, rowTo f s todo k = some st -> todo.length <= st.1.length
 | 0, st, h => by cases h; exact Nat.le_refl _
 | k + 1, st, h => by
  rw [rowTo] at h
  obtain ⟨st1, h1, h2⟩ := Option.bind_eq_some_iff.1 h
  exact Nat.le_trans (rowTo_len h1) (addQ_len h2)
theorem rowTo_same {f g : Nat} {s : Nat -> α} {todo : List α} : ∀ {k : Nat} {st : List α × List Nat}, rowTo f s todo k = some st -> st.1.length <= g -> rowTo g s todo k = some st
 | 0, st, h, _ => h
 | k + 1, st, h, hg => by
  rw [rowTo] at h ⊢
  obtain ⟨st1, h1, h2⟩ := Option.bind_eq_some_iff.1 h
  rw [rowTo_same h1 (Nat.le_trans (addQ_len h2) hg)]
  exact addQ_same h2 hg
theorem stStep_len {f : Nat} {s : α -> Nat -> α} {K n : Nat} {st st' : List α × List (List Nat)} (h : stStep f s K n st = some st') : st.1.length <= st'.1.length := by
 unfold stStep at h
 split at h
 ·cases h; exact Nat.le_refl _
 ·obtain ⟨r, h1, h2⟩ := Option.map_eq_some_iff.1 h
  cases h2
  exact rowTo_len h1
theorem stStep_same {f g : Nat} {s : α -> Nat -> α} {K n : Nat} {st st' : List α × List (List Nat)} (h : stStep f s K n st = some st') (hg : st'.1.length <= g) : stStep g s K n st = some st' := by
 unfold stStep at h ⊢
 split at h
 ·exact h
 ·obtain ⟨r, h1, h2⟩ := Option.map_eq_some_iff.1 h
  cases h2
  rw [rowTo_same h1 hg]
  rfl
theorem stTo_same {f g : Nat} {s : α -> Nat -> α} {K : Nat} {p0 : α} : ∀ {n : Nat} {st : List α × List (List Nat)}, stTo f s K p0 n = some st -> st.1.length <= g -> stTo g s K p0 n = some st
 | 0, st, h, _ => h
 | n + 1, st, h, hg => by
  rw [stTo] at h ⊢
  obtain ⟨st1, h1, h2⟩ := Option.bind_eq_some_iff.1 h
  rw [stTo_same h1 (Nat.le_trans (stStep_len h2) hg)]
  exact stStep_same h2 hg
end

theorem ofSt_in {ps : List PT} {f : Nat} {st : List (List (List Int)) × List (List Nat)} (h : ofSt ps f = some st) : 1 ≤ f ∧ st.1.length ≤ f ∧ 1 ≤ st.1.length := by
  unfold ofSt at h
  split at h
  · cases h
  · have hf : 1 ≤ f := by omega
    have I := stTo_ok hf (row0_in ps) (fun _ _ hr _ => stepR_in hr _) f h
    exact ⟨hf, I.le, by rcases e : st.1 with _ | ⟨x, l⟩
                        · have := I.head; rw [e] at this; cases this
                        · simp⟩
theorem ofSt_same {ps : List PT} {f g : Nat} {st : List (List (List Int)) × List (List Nat)} (h : ofSt ps f = some st) (hg : st.1.length <= g) : ofSt ps g = some st := by
 obtain ⟨hf, hl, h1⟩ := ofSt_in h
 unfold ofSt at h ⊢
 rw [if_neg (by omega)] at h ⊢
 have h2 := stTo_same h hg
 by_cases e : f <= g
 ·exact stTo_end h2 hl g e
 ·rcases h3 : stTo g (fun row k => stepR ps row (lb (partsOf (allSets ps)) k)) (partsOf (allSets ps)).length (row0 ps) g with _ | st2
  ·rw [stTo_none h3 f (by omega)] at h2
   cases h2
  ·have I := stTo_ok (by omega) (row0_in ps) (fun _ _ hr _ => stepR_in hr _) g h3
   rw [stTo_end h3 I.le f (by omega)] at h2
   exact h2
theorem ofSt_less {ps : List PT} {f g : Nat} {st : List (List (List Int)) × List (List Nat)} (h : ofSt ps f = some st) (hg : g < st.1.length) : ofSt ps g = none := by
 rcases h3 : ofSt ps g with _ | st2
 ·rfl
 ·obtain ⟨_, hl, _⟩ := ofSt_in h
  obtain ⟨_, hl2, _⟩ := ofSt_in h3
  have := ofSt_same h3 (g := f) (by omega)
  rw [h] at this
  cases this
  omega
theorem ofE_doneF {ps : List PT} {f : Int} (h : (ofE ps f).2 = 0) : ¬ 64 < ps.length /\ ps.all PT.ok = true /\ 0 <= f /\ f <= 4000 /\ ∃ st, ofSt ps f.toNat = some st /\ (ofE ps f).1 = ⟨partsOf (allSets ps), st.2.map fun r => r.map Int.ofNat, st.1.map (marksR ps)⟩ := by
 unfold ofE at h ⊢
 split at h
 ·exact absurd h (by decide)
 ·rename_i h1
  split at h
  ·exact absurd h (by decide)
  ·rename_i h2
   split at h
   ·exact absurd h (by decide)
   ·rename_i h3
    rw [if_neg h1, if_neg h2, if_neg h3]
    rcases e : ofSt ps f.toNat with _ | st
    ·rw [e] at h
     have h' : (181 : Int) = 0 := h
     omega
    ·exact ⟨h1, by simpa using h2, by omega, by omega, st, rfl, rfl⟩
theorem ofE_fuelF {ps : List PT} {f g : Int} (h : (ofE ps f).2 = 0) (h0 : 0 <= g) (h1 : g <= 4000) : ofE ps g = if ((ofE ps f).1.mr.length : Int) <= g then ((ofE ps f).1, 0) else (⟨[], [], []⟩, 181) := by
 obtain ⟨a1, a2, a3, a4, st, a5, a6⟩ := ofE_doneF h
 rw [a6]
 have e : (st.1.map (marksR ps)).length = st.1.length := by simp
 unfold ofE
 rw [if_neg a1, if_neg (by rw [a2]; decide), if_neg (by omega)]
 show _ = if ((st.1.map (marksR ps)).length : Int) <= g then _ else _
 rw [e]
 by_cases hc : (st.1.length : Int) <= g
 ·rw [if_pos hc, ofSt_same a5 (g := g.toNat) (by omega)]
 ·rw [if_neg hc, ofSt_less a5 (g := g.toNat) (by omega)]
theorem risB_ge8 {l : List Int} (h : risB l = true) : ∀ k, k < l.length -> (k : Int) <= l.getD k 0 /\ l.getD k 0 <= 255 := by
 unfold risB at h
 rw [List.all_eq_true] at h
 intro k
 induction k with
 | zero =>
  intro hk
  have := h 0 (by simpa using hk)
  unfold risAt prevOf at this
  simp at this
  refine ⟨?_, ?_⟩ <;> simp [List.getD_eq_getElem?_getD] at * <;> omega
 | succ k ih =>
  intro hk
  have h1 := ih (by omega)
  have := h (k + 1) (by simpa using hk)
  unfold risAt prevOf at this
  rw [if_neg (by omega), Bool.and_eq_true, decide_eq_true_eq, decide_eq_true_eq, Nat.add_sub_cancel] at this
  push_cast
  omega
theorem Rt.sm8 {d : DF} (h : Rt d) : Sm d := by
 have hn := h.le
 have hk := h.clle
 have idx : ∀ (ll : List (List Int)) (l : List Int), l ∈ ll -> ∃ i, i < ll.length /\ ll.getD i [] = l := fun ll l hl => by
  obtain ⟨i, hi⟩ := List.getElem?_of_mem hl
  exact ⟨i, (List.getElem?_eq_some_iff.1 hi).1, getD_some hi⟩
 refine ⟨by omega, by omega, by have := h.mr; omega, fun l hl => ?_, fun l hl => ?_⟩
 ·obtain ⟨i, h1, h2⟩ := idx _ _ hl
  have := h.len i h1
  rw [h2] at this
  omega
 ·obtain ⟨i, h1, h2⟩ := idx _ _ hl
  have hr := h.ris i (by have := h.mr; omega)
  rw [h2] at hr
  by_cases h0 : l.length = 0
  ·omega
  ·have := risB_ge8 hr (l.length - 1) (by omega)
   omega
def cells7 (v0 v1 v2 v3 : Value) (x : PT) : List Value := [v0, v1, v2, v3, .bool x.nf.emp, .bool x.beg, .int .i64 x.mark]
theorem append7 {xs : List Value} {k i j : Nat} (hl : xs.length = k * 7) (c : List Value) (hj : j < 7) (hi : i < k) : (xs ++ c)[i * 7 + j]? = xs[i * 7 + j]? := List.getElem?_append_left (by omega)
theorem append7_at {xs : List Value} {k j : Nat} (hl : xs.length = k * 7) (c : List Value) : (xs ++ c)[k * 7 + j]? = c[j]? := by
 rw [List.getElem?_append_right (by omega), hl]; congr 1; omega
theorem OwnNf.form {base : Nat} {w : World} {v : Value} {a : NF} (h : OwnNf base w v a) : ∃ a0 n0 c0 a1 n1 c1 a2 n2 c2 a3 n3 c3, v = .agg #[.slice a0 n0 c0, .slice a1 n1 c1, .slice a2 n2 c2, .slice a3 n3 c3, .bool a.emp] := by
 obtain ⟨v0, v1, v2, v3, rfl, h0, h1, h2, h3⟩ := h
 obtain ⟨a0, c0, rfl⟩ := ownsRow_form h0
 obtain ⟨a1, c1, rfl⟩ := h1.form
 obtain ⟨a2, c2, rfl⟩ := ownsRow_form h2
 obtain ⟨a3, c3, rfl⟩ := ownsRow_form h3
 exact ⟨_, _, _, _, _, _, _, _, _, _, _, _, rfl⟩
end Go.Proofs.YtbiboekhakbnpaaGreatDoor
namespace Go.Proofs.YtbiboekhakbnpaaGreatDoor
open Go Go.RowKit

inductive RX where
 | nd (kind : Nat) (set : BS) (mn mx : Int) (subs : List RX)
def RX.kind : RX -> Nat | .nd k _ _ _ _ => k
def RX.set : RX -> BS | .nd _ s _ _ _ => s
def RX.mn : RX -> Int | .nd _ _ a _ _ => a
def RX.mx : RX -> Int | .nd _ _ _ b _ => b
def RX.subs : RX -> List RX | .nd _ _ _ _ l => l
theorem RX.ind {P : RX -> Prop} (h : ∀ k s a b l, (∀ t ∈ l, P t) -> P (.nd k s a b l)) : ∀ t, P t := by
 intro t
 induction t using RX.rec (motive_2 := fun l => ∀ t ∈ l, P t) with
 | nd k s a b l ih => exact h k s a b l ih
 | nil =>
  rename_i x hx
  cases hx
 | cons t l h1 h2 =>
  rename_i x hx
  rcases List.mem_cons.1 hx with e | e
  ·rw [e]; exact h1
  ·exact h2 _ e
mutual
def RX.size : RX -> Nat
 | .nd _ _ _ _ l => 1 + RX.sizes l
def RX.sizes : List RX -> Nat
 | [] => 0
 | t :: l => t.size + RX.sizes l
end
mutual
def RX.pre : RX -> List RX
 | .nd k s a b l => .nd k s a b l :: RX.pres l
def RX.pres : List RX -> List RX
 | [] => []
 | t :: l => t.pre ++ RX.pres l
end
def RX.times (mn mx : Int) : Nat := if mx = -1 then max mn.toNat 1 else max mn.toNat mx.toNat
mutual
def RX.posn : RX -> Nat
 | .nd k _ a b l => min (((if k = 2 then 1 else 0) + RX.posns l) * (if k = 5 then min (RX.times a b) 10001 else 1)) 10001
def RX.posns : List RX -> Nat
 | [] => 0
 | t :: l => t.posn + RX.posns l
end
def RX.has (t : RX) (k : Nat) : Bool := t.subs.any fun x => x.kind == k
def bounds8 (a b : Int) : Bool := if a < 0 \/ 16 < a \/ (a = 1 /\ b = 1) then false else decide (b = -1) || (decide (1 <= b) && decide (b <= 16) && decide (a <= b))
def RX.rightN (t : RX) : Bool :=
 if (t.kind ≠ 2 /\ t.set ≠ 0) \/ (t.kind ≠ 5 /\ (t.mn ≠ 0 \/ t.mx ≠ 0)) \/ (t.kind < 3 /\ 0 < t.subs.length) then false else
 if t.kind = 1 then true else
 if t.kind = 2 then decide (t.set ≠ 0) else
 if t.kind = 3 then decide (1 < t.subs.length) && !t.has 1 && !t.has 3 else
 if t.kind = 4 then decide (1 < t.subs.length) && !t.has 4 else
 if t.kind = 5 then decide (t.subs.length = 1) && bounds8 t.mn t.mx && !t.has 1 else
 decide (t.kind = 6) && decide (t.subs.length = 1)
def RX.clean (t : RX) : Bool := decide (t.size <= 10000) && t.pre.all RX.rightN
abbrev PB := BitVec 448
structure GP where
 fst : PB
 lst : PB
 emp : Bool
structure GM where
 sets : List BS
 fol : List PB
def loopG (m : GM) (last first : PB) : GM := ⟨m.sets, m.fol.mapIdx fun p f => if last.getLsbD p then f ||| first else f⟩
def thenG (m : GM) (a b : GP) : GM × GP := (loopG m a.lst b.fst, ⟨if a.emp then a.fst ||| b.fst else a.fst, if b.emp then b.lst ||| a.lst else b.lst, a.emp && b.emp⟩)
def bitG (n : Nat) : PB := 1#448 <<< n
def manyG (mn mx : Int) : Nat := if mx = -1 then (max mn 1).toNat else mx.toNat
def repG (mn mx : Int) (k : Nat) (a : GP) (x : GM × GP) : GM × GP :=
 thenG (if mx = -1 /\ k + 1 = manyG mn mx then loopG x.1 x.2.lst x.2.fst else x.1) a ⟨x.2.fst, x.2.lst, x.2.emp || decide (mn <= k)⟩
def repsG (mn mx : Int) (f : GM -> GM × GP) (m : GM) : Nat -> GM × GP
 | 0 => (m, ⟨0, 0, true⟩)
 | k + 1 => let y := repsG mn mx f m k; repG mn mx k y.2 (f y.1)
mutual
def RX.mkG : RX -> GM -> GM × GP
 | .nd k s a b l, m =>
  if k = 0 then (m, ⟨0, 0, false⟩) else
  if k = 1 then (m, ⟨0, 0, true⟩) else
  if k = 2 then (⟨m.sets ++ [s], m.fol ++ [0]⟩, ⟨bitG m.sets.length, bitG m.sets.length, false⟩) else
  if k = 3 then RX.catG l (m, ⟨0, 0, true⟩) else
  if k = 4 then RX.altG l (m, ⟨0, 0, false⟩) else
  if k = 5 then RX.rpG a b l m else RX.hdG l m
def RX.catG : List RX -> GM × GP -> GM × GP
 | [], st => st
 | t :: l, st => let x := t.mkG st.1; RX.catG l (thenG x.1 st.2 x.2)
def RX.altG : List RX -> GM × GP -> GM × GP
 | [], st => st
 | t :: l, st => let x := t.mkG st.1; RX.altG l (x.1, ⟨st.2.fst ||| x.2.fst, st.2.lst ||| x.2.lst, st.2.emp || x.2.emp⟩)
def RX.rpG (mn mx : Int) : List RX -> GM -> GM × GP
 | [], m => (m, ⟨0, 0, true⟩)
 | t :: _, m => repsG mn mx (fun m => t.mkG m) m (manyG mn mx)
def RX.hdG : List RX -> GM -> GM × GP
 | [], m => (m, ⟨0, 0, false⟩)
 | t :: _, m => t.mkG m
end
def posG (x : PB) : List Int := ((List.range 448).filter fun p => x.getLsbD p).map Int.ofNat
end Go.Proofs.YtbiboekhakbnpaaGreatDoor
