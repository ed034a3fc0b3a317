/-
  product.Of.
  Plain facts on automata: the way that First goes (breadth first), the way that the reference goes (the distances), and that both come to the same string.
  Plain facts on automata: the string that First finds is the reference's first one; counts.
  product.Not.
  Opening an automaton that comes by value, by the form's own reach.
  Lists of numbers that are filled one by one.
  Rows of numbers that are kept while others grow.
  The law's theirs once more: what it makes is its own. And what an automaton's own blocks are not.
  The law's theirs: an automaton for the reference.
  Automata of positions in plain words, and the automaton of parts.
-/
import Derived.Test.YtbiboekhakbnpaaGreatDoorOB11
import Derived.DeepKeys4
import Derived.Maps.Own
import Derived.Test.YtbiboekhakbnpaaGreatDoorOB08
import Derived.Test.YtbiboekhakbnpaaGreatDoorRows
import Derived.Test.YtbiboekhakbnpaaGreatDoorOB06
import Derived.Deep.Strs
import Derived.OpenShut
import Derived.JoinedCond
import Derived.SizedLaws
import Derived.WalkMore
import Derived.Test.YtbiboekhakbnpaaGreatDoorOB02
import Derived.Test.YtbiboekhakbnpaaGreatDoorOB09
import Derived.Test.YtbiboekhakbnpaaGreatDoorOB05
import Derived.Lib.SliceRun
set_option maxRecDepth 100000
set_option maxHeartbeats 16000000
open Go.Lib (hid)
namespace Go.Proofs.YtbiboekhakbnpaaGreatDoor
open Go Go.RowKit Go.Shelf Go.Maps
attribute [local go_sem] encS

theorem post_named2 {P : Program} {fn : Func} {R : Ending -> World -> Prop} {x : Exit} {a : Act} {w : World} (h : ∀ W, W = w -> bodyPost P fn R x a W) : bodyPost P fn R x a w := h w rfl
section
variable {α : Type} [DecidableEq α]
theorem addQ_new {fuel : Nat} {st : List α × List Nat} {q : α} (hq : q ∉ st.1) (hf : st.1.length ≠ fuel) : addQ fuel st q = some (st.1 ++ [q], st.2 ++ [st.1.length]) := by
 unfold addQ
 rw [if_pos (List.idxOf_eq_length hq), if_neg hf]
theorem addQ_full {fuel : Nat} {st : List α × List Nat} {q : α} (hq : q ∉ st.1) (hf : st.1.length = fuel) : addQ fuel st q = none := by
 unfold addQ
 rw [if_pos (List.idxOf_eq_length hq), if_pos hf]
theorem addQ_old {fuel : Nat} {st : List α × List Nat} {q : α} (hq : q ∈ st.1) : addQ fuel st q = some (st.1, st.2 ++ [st.1.idxOf q]) := by
 unfold addQ
 rw [if_neg (Nat.ne_of_lt (List.idxOf_lt_length_of_mem hq))]
end
end Go.Proofs.YtbiboekhakbnpaaGreatDoor
namespace Go.Proofs.YtbiboekhakbnpaaGreatDoor
open Go Go.RowKit

def Reach (d : DF) : Nat -> Nat -> Prop
 | 0, s => acc d s = true
 | m + 1, s => ∃ k, k < d.cl.length /\ Reach d m (nxt d s k)

theorem lb_spec {d : DF} (h : Rt d) {k : Nat} (hk : k < d.cl.length) : lb d.cl k < 256 /\ cls d.cl (lb d.cl k) = k /\ ∀ c, c < 256 -> cls d.cl c = k -> lb d.cl k <= c := by
 have e := h.cl
 have hk' : k < (partsOf d.cl).length := by rw [e]; exact hk
 have h1 := some_getD (l := partsOf d.cl) 0 hk'
 obtain ⟨_, h2, h3, h4⟩ := first_of_ne (partsOf_ne d.cl (List.mem_of_getElem? h1))
 rw [e] at h1 h2 h3 h4
 refine ⟨h2, (h.part.cls_iff h2).2 ⟨_, h1, h3⟩, fun c hc hck => ?_⟩
 obtain ⟨q, hq, hb⟩ := (h.part.cls_iff hc).1 hck
 rw [h1] at hq
 cases hq
 show (firstOf _).1 <= c
 by_cases hlt : c < (firstOf (d.cl.getD k 0)).1
 ·have := h4 c hlt; rw [this] at hb; cases hb
 ·omega
/-! The program: breadth first. -/
structure Bst where
 todo : List Nat
 keys : List Nat
 fr : List Int
 by' : List Nat
structure BOk (d : DF) (x : Nat) (st : Bst) : Prop where
 keys : st.keys.length = st.todo.length
 fr : st.fr.length = d.nx.length
 by' : st.by'.length = d.nx.length
 head : st.todo[0]? = some 0
 root : st.fr.getD 0 0 = -1
 nodup : st.todo.Nodup
 lt : ∀ t ∈ st.todo, t < d.nx.length
 mem : ∀ t, t < d.nx.length -> (st.fr.getD t 0 ≠ 0 ↔ t ∈ st.todo)
 par : ∀ j t, 0 < j -> st.todo[j]? = some t -> ∃ y s, st.keys[j]? = some y /\ y < x /\ y / d.cl.length < j /\ st.todo[y / d.cl.length]? = some s /\ nxt d s (y % d.cl.length) = t /\ st.fr.getD t 0 = s + 1 /\ st.by'.getD t 0 = lb d.cl (y % d.cl.length)
 mono : ∀ i j y z, 0 < i -> i < j -> st.keys[i]? = some y -> st.keys[j]? = some z -> y < z
 done : ∀ y s, y < x -> st.todo[y / d.cl.length]? = some s -> ∃ j : Nat, st.todo[j]? = some (nxt d s (y % d.cl.length)) /\ (j = 0 \/ ∃ z, st.keys[j]? = some z /\ z <= y)
structure Chain (d : DF) (st : Bst) (m i : Nat) (q : Nat -> Nat) : Prop where
 zero : q 0 = 0
 last : q m = i
 step : ∀ l, l < m -> q l < q (l + 1) /\ ∃ y, st.keys[q (l + 1)]? = some y /\ y / d.cl.length = q l
section
variable {d : DF} (h : Rt d) {i : Nat} {st : Bst} (I : BOk d (i * d.cl.length) st) (hi : i < st.todo.length) (ha : ∀ (j t : Nat), j < i → st.todo[j]? = some t → acc d t = false) {m : Nat} {q : Nat → Nat} (c : Chain d st m i q)
include h I c hi
include ha
variable {s : Nat} (hs : st.todo[i]? = some s) (hacc : acc d s = true)
include hs hacc
end

end Go.Proofs.YtbiboekhakbnpaaGreatDoor
namespace Go.Proofs.YtbiboekhakbnpaaGreatDoor
open Go Go.RowKit Go.Shelf Go.Maps
attribute [local go_sem] encS

theorem rowCell {w : World} {base n cap : Nat} {e : TypeId} {ad : Option Addr} {xs : List Value} (h : w.ownsRow base e 1 (.slice ad n cap) n xs) {i : Nat} (hi : i < n) : ∃ g u, ad = some ⟨g, 0, none⟩ /\ base <= g /\ g < w.heap.size /\ xs[i]? = some u /\ w.cell? ⟨g, i, none⟩ = some u /\ w.frozen? ⟨g, i, none⟩ = false := by
 have hl := h.1
 have hu : xs[i]? = some (xs[i]'(by omega)) := List.getElem?_eq_getElem (by omega)
 obtain ⟨a, c, e1⟩ := ownsRow_form h
 rcases h.2 with ⟨_, e2⟩ | ⟨g, c', cur, e2, _⟩
 ·omega
 ·injection e2 with e2 _ _
  subst e2
  have hlt := h.lt g rfl
  exact ⟨g, _, rfl, hlt.1, hlt.2, hu, by have := h.cells (g := g) rfl _ _ hu; rw [Addr.add_mid] at this; simpa using this, h.frozenAt _⟩
end Go.Proofs.YtbiboekhakbnpaaGreatDoor
namespace Go.Proofs.YtbiboekhakbnpaaGreatDoor
open Go Go.ChangeShapes Go.WideShapes Go.ChangeAt Go.RowKit Go.Deep
section
variable {H : Type} {enc : TypeId × Value → H} {W : World}

theorem sized_arg {P : Program} {ts : List TypeId} {ds : List (DataW H)} (h : (DataW.weightsEach P ts ds).all (· <= reachBytes) = true) {j : Nat} {t : TypeId} {d : DataW H} (ht : ts[j]? = some t) (hd : ds[j]? = some d) : ∀ n ∈ d.weights P t, n <= reachBytes := fun n hn => by
 simpa using List.all_eq_true.1 h _ (DataW.weights_mem_each ht hd n hn)
theorem weightsAll_in {P : Program} {e : TypeId} : ∀ {l : List (DataW H)} {d : DataW H}, d ∈ l -> ∀ n ∈ d.weights P e, n ∈ DataW.weightsAll P e l
 | x :: l, d, h, n, hn => by
  simp only [DataW.weightsAll, List.mem_append]
  rcases List.mem_cons.1 h with rfl | h
  ·exact .inl hn
  ·exact .inr (weightsAll_in h n hn)
end
end Go.Proofs.YtbiboekhakbnpaaGreatDoor
namespace Go.Proofs.YtbiboekhakbnpaaGreatDoor
open Go Go.RowKit Go.Shelf Go.Maps
attribute [local go_sem] encS

theorem wpList_named {P : Program} {l : List Oper} {ops : Array Oper} {Q : Exit -> Act -> World -> Prop} {a : Act} {w : World} (h : ∀ W, W = w -> wpList P ops Q l a W) : wpList P ops Q l a w := h w rfl
end Go.Proofs.YtbiboekhakbnpaaGreatDoor
namespace Go.Proofs.YtbiboekhakbnpaaGreatDoor
open Go Go.RowKit Go.Shelf Go.Maps

theorem Far.step {u v v' : Value} {N : Nat} (h : Far u v) (ho : v'.ownBlock = v.ownBlock \/ ∀ x, v'.ownBlock = some x -> N <= x) (hu : ∀ b, u.ownBlock = some b -> b < N) : Far u v' := by
 rcases h with h | h
 ·exact .inl h
 ·by_cases e : u.ownBlock = none
  ·exact .inl e
  ·right
   intro e2
   rcases ho with h2 | h2
   ·exact h (by rw [e2, h2])
   ·cases hb : u.ownBlock with
    | none => exact e hb
    | some b => have h3 := hu b hb; have h4 := h2 b (by rw [<- e2, hb]); omega
theorem OwnDf.form {base : Nat} {w : World} {v : Value} {d : DF} (h : OwnDf base w v d) : ∃ a0 c0 a1 c1 a2 c2, v = .agg #[.slice a0 d.cl.length c0, .slice a1 d.nx.length c1, .slice a2 d.mr.length c2] := by
 obtain ⟨v0, v1, v2, rfl, h0, h1, h2⟩ := h
 obtain ⟨a0, c0, rfl⟩ := ownsRow_form h0
 obtain ⟨a1, c1, rfl⟩ := h1.form
 obtain ⟨a2, c2, rfl⟩ := h2.form
 exact ⟨_, _, _, _, _, _, rfl⟩
theorem row_ne {w : World} {b base size n : Nat} {c : Array Value} {t e : TypeId} {v : Value} {xs : List Value} (h : Blk w b c t) (ho : w.ownsRow base e size v n xs) (hne : t ≠ e) : ∀ x, v.ownBlock = some x -> x ≠ b := fun x hx e2 => by
 subst e2
 rcases ho.2 with ⟨h1, _⟩ | ⟨g', c', cur, h1, _, h3, _⟩
 ·rw [h1] at hx; cases hx
 ·subst h1
  have hg : g' = x := by simpa [Value.ownBlock] using hx
  subst hg
  have h4 : w.heap[g']? = some (.cells c t (0, 0)) := h
  rw [h3] at h4
  injection h4 with h4
  injection h4 with _ h5 _
  exact hne h5.symm
theorem row_past {w w' : World} {b base size n : Nat} {c : Array Value} {t e : TypeId} {v : Value} {xs : List Value} (h : Blk w b c t) (ho : w.ownsRow base e size v n xs) (hne : t ≠ e) (hk : Keeps (· ≠ b) w w') : w'.ownsRow base e size v n xs := ownsRow_keeps ho hk fun x hx => row_ne h ho hne x hx
theorem OwnLL.past {w w' : World} {b base : Nat} {c : Array Value} {t : TypeId} {v : Value} {ll : List (List Int)} (h : Blk w b c t) (ho : OwnLL base w v ll) (h1 : t ≠ 37) (h2 : t ≠ 3) (hk : Keeps (· ≠ b) w w') : OwnLL base w' v ll := by
 obtain ⟨us, e, o1, o2⟩ := ho
 exact ⟨us, e, row_past h o1 h1 hk, fun i u l hu hl => row_past h (o2 i u l hu hl) h2 hk⟩
theorem OwnDf.past {w w' : World} {b base : Nat} {c : Array Value} {t : TypeId} {v : Value} {d : DF} (h : Blk w b c t) (ho : OwnDf base w v d) (h0 : t ≠ 70) (h1 : t ≠ 37) (h2 : t ≠ 3) (hk : Keeps (· ≠ b) w w') : OwnDf base w' v d := by
 obtain ⟨v0, v1, v2, e, o0, o1, o2⟩ := ho
 exact ⟨v0, v1, v2, e, row_past h o0 h0 hk, o1.past h h1 h2 hk, o2.past h h1 h2 hk⟩
theorem blk_ne {w : World} {b b2 : Nat} {c c2 : Array Value} {t t2 : TypeId} (h : Blk w b c t) (h2 : Blk w b2 c2 t2) (hne : t ≠ t2) : b ≠ b2 := fun e => by
 subst e
 have h3 : w.heap[b]? = some (.cells c t (0, 0)) := h
 have h4 : w.heap[b]? = some (.cells c2 t2 (0, 0)) := h2
 rw [h3] at h4
 injection h4 with h4
 injection h4 with _ h5 _
 exact hne h5
attribute [local go_sem] encS

def Eff.zbox (lo : Nat) (cs : Array Value) (t : TypeId) : Eff (Move false (fun _ => False)) where
 P := fun v => ∃ b, v = .pointer (some ⟨b, 0, none⟩)
 H := fun v W => ∀ b, v = .pointer (some ⟨b, 0, none⟩) -> Blk W b cs t /\ lo <= b
 wit := .pointer (some ⟨0, 0, none⟩)
 pw := ⟨_, rfl⟩
 st := fun _ _ _ hm _ h b e => ⟨(h b e).1.below hm.below (h b e).1.lt, (h b e).2⟩
end Go.Proofs.YtbiboekhakbnpaaGreatDoor
namespace Go.Proofs.YtbiboekhakbnpaaGreatDoor
open Go Go.RowKit Go.Shelf Go.Maps

structure NF where
 sets : List BS
 fol : List (List Int)
 fst : List Int
 lst : List Int
 emp : Bool
def prevG (low : Int) (l : List Int) (k : Nat) : Int := if k = 0 then low - 1 else l.getD (k - 1) 0
def risGAt (low high : Int) (l : List Int) (k : Nat) : Bool := decide (prevG low l k < l.getD k 0) && decide (l.getD k 0 <= high)
def risG (low high : Int) (l : List Int) : Bool := (List.range l.length).all (risGAt low high l)
theorem prevG_succ {low : Int} {l : List Int} {k : Nat} {x : Int} (hx : l[k]? = some x) : prevG low l (k + 1) = x := by
 unfold prevG
 rw [if_neg (by omega), Nat.add_sub_cancel]
 exact getD_some hx
theorem risGAt_eq {low high : Int} {l : List Int} {k : Nat} {x : Int} (hx : l[k]? = some x) : risGAt low high l k = (decide (prevG low l k < x) && decide (x <= high)) := by
 unfold risGAt
 rw [getD_some hx]
theorem risG_no {low high : Int} {l : List Int} {k : Nat} (hk : k < l.length) (h : risGAt low high l k = false) : risG low high l = false := by
 unfold risG
 rw [List.all_eq_false]
 exact ⟨k, List.mem_range.2 hk, by rw [h]; decide⟩
theorem risG_yes {low high : Int} {l : List Int} (h : ∀ k, k < l.length -> risGAt low high l k = true) : risG low high l = true := by
 unfold risG
 rw [List.all_eq_true]
 exact fun k hk => h k (List.mem_range.1 hk)
theorem risG_at {low high : Int} {l : List Int} (h : risG low high l = true) {k : Nat} (hk : k < l.length) : risGAt low high l k = true := by
 unfold risG at h
 rw [List.all_eq_true] at h
 exact h k (List.mem_range.2 hk)
def risRAt (low n : Int) (l : List Int) (k : Nat) : Bool := decide (low <= l.getD k 0) && decide (l.getD k 0 < n) && (decide (k = 0) || decide (l.getD (k - 1) 0 < l.getD k 0))
theorem risR_eq (low n : Int) (l : List Int) : ((List.range l.length).all (risRAt low n l)) = risG low (n - 1) l := by
 rw [Bool.eq_iff_iff]
 unfold risG
 rw [List.all_eq_true, List.all_eq_true]
 constructor
 ·intro h k hk
  have h1 := h k hk
  unfold risRAt at h1
  unfold risGAt prevG
  simp only [Bool.and_eq_true, Bool.or_eq_true, decide_eq_true_eq] at h1 ⊢
  obtain ⟨⟨a, b⟩, c⟩ := h1
  refine ⟨?_, by omega⟩
  split
  ·omega
  ·rcases c with c | c
   ·omega
   ·exact c
 ·intro h
  have low_le : ∀ k, k < l.length -> low <= l.getD k 0 := by
   intro k
   induction k with
   | zero =>
    intro hk
    have h1 := h 0 (List.mem_range.2 hk)
    unfold risGAt prevG at h1
    simp only [Bool.and_eq_true, decide_eq_true_eq, if_true] at h1
    omega
   | succ k ih =>
    intro hk
    have h1 := h (k + 1) (List.mem_range.2 hk)
    have h2 := ih (by omega)
    unfold risGAt prevG at h1
    simp only [Bool.and_eq_true, decide_eq_true_eq] at h1
    rw [if_neg (by omega), Nat.add_sub_cancel] at h1
    omega
  intro k hk
  have h1 := h k hk
  have h2 := low_le k (List.mem_range.1 hk)
  unfold risGAt prevG at h1
  unfold risRAt
  simp only [Bool.and_eq_true, Bool.or_eq_true, decide_eq_true_eq] at h1 ⊢
  refine ⟨⟨h2, by omega⟩, ?_⟩
  by_cases h0 : k = 0
  ·exact .inl h0
  ·rw [if_neg h0] at h1
   exact .inr h1.1
theorem risG_pair {low high : Int} {l : List Int} (h : risG low high l = true) : l.Pairwise (· < ·) /\ ∀ x ∈ l, low <= x /\ x <= high := by
 have hs : ∀ k, k + 1 < l.length -> l.getD k 0 < l.getD (k + 1) 0 := fun k hk => by
  have h1 := risG_at h hk
  unfold risGAt prevG at h1
  simp only [Bool.and_eq_true, decide_eq_true_eq] at h1
  rw [if_neg (by omega), Nat.add_sub_cancel] at h1
  exact h1.1
 have hm : ∀ i j, i < j -> j < l.length -> l.getD i 0 < l.getD j 0 := by
  intro i j hij
  induction j with
  | zero => omega
  | succ j ih =>
   intro hj
   rcases Nat.lt_or_ge i j with h1 | h1
   ·have := ih h1 (by omega); have := hs j hj; omega
   ·obtain rfl : i = j := by omega
    exact hs i hj
 refine ⟨?_, fun x hx => ?_⟩
 ·rw [List.pairwise_iff_getElem]
  intro i j hi hj hij
  have := hm i j hij hj
  simpa [List.getD_eq_getElem?_getD, List.getElem?_eq_getElem hi, List.getElem?_eq_getElem hj] using this
 ·obtain ⟨k, hk⟩ := List.getElem?_of_mem hx
  have hkl := (List.getElem?_eq_some_iff.1 hk).1
  have h1 := risG_at h hkl
  rw [risGAt_eq hk] at h1
  simp only [Bool.and_eq_true, decide_eq_true_eq] at h1
  refine ⟨?_, h1.2⟩
  have h0 := risG_at h (show 0 < l.length by omega)
  unfold risGAt prevG at h0
  simp only [Bool.and_eq_true, decide_eq_true_eq, if_true] at h0
  have e : l.getD k 0 = x := getD_some hk
  rcases Nat.eq_zero_or_pos k with h2 | h2
  ·subst h2; omega
  ·have := hm 0 k h2 hkl; omega
theorem risG_of {low high : Int} {l : List Int} (h : l.Pairwise (· < ·)) (hb : ∀ x ∈ l, low <= x /\ x <= high) : risG low high l = true := by
 refine risG_yes fun k hk => ?_
 have hx := List.getElem?_eq_getElem hk
 rw [risGAt_eq hx]
 have h1 := hb _ (List.getElem_mem hk)
 simp only [Bool.and_eq_true, decide_eq_true_eq]
 refine ⟨?_, h1.2⟩
 unfold prevG
 split
 ·omega
 ·rename_i h0
  have h2 := List.pairwise_iff_getElem.1 h (k - 1) k (by omega) hk (by omega)
  rw [List.getD_eq_getElem?_getD, List.getElem?_eq_getElem (show k - 1 < l.length by omega)]
  exact h2

def NF.right (a : NF) : Bool := decide (a.sets.length <= 400) && decide (a.fol.length = a.sets.length) && risG 0 ((a.sets.length : Int) - 1) a.fst && risG 0 ((a.sets.length : Int) - 1) a.lst && (List.range a.sets.length).all fun p => risG 0 ((a.sets.length : Int) - 1) (a.fol.getD p []) && (a.sets.getD p 0 != 0)
structure Nt (a : NF) : Prop where
 le : a.sets.length <= 400
 fol : a.fol.length = a.sets.length
 fst : risG 0 ((a.sets.length : Int) - 1) a.fst = true
 lst : risG 0 ((a.sets.length : Int) - 1) a.lst = true
 row : ∀ p, p < a.sets.length -> risG 0 ((a.sets.length : Int) - 1) (a.fol.getD p []) = true
 ne : ∀ p, p < a.sets.length -> a.sets.getD p 0 ≠ 0
theorem nright_iff (a : NF) : a.right = true ↔ Nt a := by
 unfold NF.right
 simp only [Bool.and_eq_true, decide_eq_true_eq, List.all_eq_true, List.mem_range, bne_iff_ne]
 constructor
 ·rintro ⟨⟨⟨⟨h1, h2⟩, h3⟩, h4⟩, h5⟩
  exact ⟨h1, h2, h3, h4, fun p hp => (h5 p hp).1, fun p hp => (h5 p hp).2⟩
 ·rintro ⟨h1, h2, h3, h4, h5, h6⟩
  exact ⟨⟨⟨⟨h1, h2⟩, h3⟩, h4⟩, fun p hp => ⟨h5 p hp, h6 p hp⟩⟩
def NF.st (a : NF) (l : List Int) : Bool := risG (-1) ((a.sets.length : Int) - 1) l
def NF.frm (a : NF) (p : Int) : List Int := if p = -1 then a.fst else a.fol.getD p.toNat []
def NF.hit (a : NF) (l : List Int) (c q : Nat) : Bool := l.any fun p => (a.frm p).contains (q : Int) && (a.sets.getD q 0).getLsbD c
def NF.step (a : NF) (l : List Int) (c : Nat) : List Int := ((List.range a.sets.length).filter (a.hit l c)).map Int.ofNat
def NF.accP (a : NF) (p : Int) : Bool := if p = -1 then a.emp else a.lst.contains p
def NF.acc (a : NF) (l : List Int) : Bool := l.any a.accP
theorem range_rises (n : Nat) (f : Nat -> Bool) : (((List.range n).filter f).map Int.ofNat).Pairwise (· < ·) := by
 rw [List.pairwise_map]
 exact (List.pairwise_lt_range.filter _).imp fun h => Int.ofNat_lt.2 h
theorem NF.step_ris (a : NF) (l : List Int) (c : Nat) : risG 0 ((a.sets.length : Int) - 1) (a.step l c) = true := by
 refine risG_of (range_rises _ _) fun x hx => ?_
 obtain ⟨q, hq, rfl⟩ := List.mem_map.1 hx
 have := List.mem_range.1 (List.mem_filter.1 hq).1
 show (0 : Int) <= (q : Int) /\ (q : Int) <= _
 omega
theorem risG_cons {high : Int} {l : List Int} (hh : -1 <= high) (h : risG 0 high l = true) : risG (-1) high (-1 :: l) = true := by
 obtain ⟨h1, h2⟩ := risG_pair h
 refine risG_of (List.pairwise_cons.2 ⟨fun x hx => ?_, h1⟩) fun x hx => ?_
 ·have := h2 x hx; omega
 ·rcases List.mem_cons.1 hx with rfl | hx
  ·omega
  ·have := h2 x hx; omega
theorem risG_low {low low' high : Int} {l : List Int} (hh : low' <= low) (h : risG low high l = true) : risG low' high l = true := by
 obtain ⟨h1, h2⟩ := risG_pair h
 exact risG_of h1 fun x hx => by have := h2 x hx; omega

structure PT where
 nf : NF
 beg : Bool
 mark : Int
def PT.ok (x : PT) : Bool := x.nf.right && decide (0 <= x.mark) && decide (x.mark <= 255)
def PT.step (x : PT) (l : List Int) (c : Nat) : List Int := if x.beg then x.nf.step l c else -1 :: x.nf.step l c
def stepR (ps : List PT) (row : List (List Int)) (c : Nat) : List (List Int) := List.zipWith (fun x l => x.step l c) ps row
def marksR (ps : List PT) (row : List (List Int)) : List Int := ((List.range 256).filter fun (m : Nat) => (List.zip ps row).any fun y => y.1.nf.acc y.2 && (y.1.mark == (m : Int))).map Int.ofNat
def row0 (ps : List PT) : List (List Int) := ps.map fun _ => [-1]
def allSets (ps : List PT) : List BS := ps.flatMap fun x => x.nf.sets
def ofSt (ps : List PT) (fuel : Nat) : Option (List (List (List Int)) × List (List Nat)) :=
 if fuel = 0 then none else stTo fuel (fun row k => stepR ps row (lb (partsOf (allSets ps)) k)) (partsOf (allSets ps)).length (row0 ps) fuel
def ofE (ps : List PT) (fuel : Int) : DF × Int :=
 if 64 < ps.length then (⟨[], [], []⟩, 5) else if (ps.all PT.ok) = false then (⟨[], [], []⟩, 180) else if fuel < 0 \/ 4000 < fuel then (⟨[], [], []⟩, 2) else
 match ofSt ps fuel.toNat with
 | none => (⟨[], [], []⟩, 181)
 | some st => (⟨partsOf (allSets ps), st.2.map fun r => r.map Int.ofNat, st.1.map (marksR ps)⟩, 0)
def RowIn (ps : List PT) (row : List (List Int)) : Prop := row.length = ps.length /\ ∀ (i : Nat) (x : PT) (l : List Int), ps[i]? = some x -> row[i]? = some l -> x.nf.st l = true
theorem row0_in (ps : List PT) : RowIn ps (row0 ps) := by
 refine ⟨by simp [row0], fun i x l hx hl => ?_⟩
 unfold row0 at hl
 rw [List.getElem?_map, hx] at hl
 cases hl
 unfold NF.st
 exact risG_of (by simp) fun y hy => by simp at hy; omega
theorem stepR_in {ps : List PT} {row : List (List Int)} (h : RowIn ps row) (c : Nat) : RowIn ps (stepR ps row c) := by
 refine ⟨by simp [stepR, h.1], fun i x l hx hl => ?_⟩
 have hi := (List.getElem?_eq_some_iff.1 hx).1
 unfold stepR at hl
 rw [List.getElem?_zipWith, hx, List.getElem?_eq_getElem (by rw [h.1]; exact hi)] at hl
 cases hl
 unfold PT.step NF.st
 have hr := x.nf.step_ris (row[i]'(by rw [h.1]; exact hi)) c
 split
 ·exact risG_low (by omega) hr
 ·exact risG_cons (by omega) hr
theorem marksR_ris (ps : List PT) (row : List (List Int)) : risB (marksR ps row) = true := by
 have h : risG 0 255 (marksR ps row) = true := by
  refine risG_of (range_rises _ _) fun x hx => ?_
  obtain ⟨q, hq, rfl⟩ := List.mem_map.1 hx
  have := List.mem_range.1 (List.mem_filter.1 hq).1
  show (0 : Int) <= (q : Int) /\ (q : Int) <= _
  omega
 have e : risB (marksR ps row) = risG 0 255 (marksR ps row) := rfl
 rw [e]; exact h
end Go.Proofs.YtbiboekhakbnpaaGreatDoor
