/-
  Trees that are put together in small steps are clean.
-/
import Derived.Test.YtbiboekhakbnpaaGreatDoorOB20
set_option maxRecDepth 100000
set_option maxHeartbeats 16000000
open Go.Lib (hid)
namespace Go.Proofs.YtbiboekhakbnpaaGreatDoor
open Go Go.RowKit

def lettersB (n : Nat) : List Nat := [[97], [98], [97, 98], [97], [98], [99], [97, 98, 99], [98, 99], [10], [0, 255], [97], [98]].getD (n % 12) []
def classR (n : Nat) : RX := .nd 2 (bsOf fun c => (lettersB n).contains c) 0 0 []
def emptyR : RX := .nd 1 0 0 0 []
def partR (kind : Nat) (x : RX) : List RX := if x.kind = kind then x.subs else if kind = 3 /\ x.kind = 1 then [] else [x]
def joinedR (kind : Nat) (l : List RX) : RX := match l with | [] => emptyR | [x] => x | x :: y :: r => .nd kind 0 0 0 (x :: y :: r)
def joinsR (kind : Nat) (a b : RX) : RX := joinedR kind (partR kind a ++ partR kind b)
structure Pile where
 all : List RX
 unf : Nat
 grp : Nat
def Pile.last (P : Pile) : RX := P.all.getD (P.all.length - 1) emptyR
def Pile.last2 (P : Pile) : RX := P.all.getD (P.all.length - 2) emptyR
def Pile.put (P : Pile) (k : Nat) (x : RX) : List RX := P.all.take (P.all.length - k) ++ [x]
def leastS (n : Nat) : Nat := n % 3
def mostS (n m : Nat) : Int := if m % 4 < leastS n \/ m % 4 = 0 \/ (leastS n = 1 /\ m % 4 = 1) then -1 else ((m % 4 : Nat) : Int)
def timesS (n m : Nat) : Nat := (max (max (leastS n : Int) (mostS n m)) 1).toNat
def Pile.step (P : Pile) (s : Nat × Nat × Nat) : Pile :=
 if s.1 % 12 < 4 then ⟨P.put 0 (classR s.2.1), P.unf, P.grp⟩ else
 if s.1 % 12 = 4 then ⟨P.put 0 emptyR, P.unf, P.grp⟩ else
 if s.1 % 12 < 7 /\ 1 < P.all.length then ⟨P.put 2 (joinsR 3 P.last2 P.last), P.unf, P.grp⟩ else
 if s.1 % 12 < 9 /\ 1 < P.all.length then ⟨P.put 2 (joinsR 4 P.last2 P.last), P.unf, P.grp⟩ else
 if s.1 % 12 = 9 /\ 0 < P.all.length /\ P.grp < 9 then ⟨P.put 1 (.nd 6 0 0 0 [P.last]), P.unf, P.grp + 1⟩ else
 if 9 < s.1 % 12 /\ 0 < P.all.length /\ P.last.kind ≠ 1 then
  if P.unf * timesS s.2.1 s.2.2 <= 16 then ⟨P.put 1 (.nd 5 0 (leastS s.2.1) (mostS s.2.1 s.2.2) [P.last]), P.unf * timesS s.2.1 s.2.2, P.grp⟩ else P
 else P
def pileR (l : List (Nat × Nat × Nat)) : Pile := l.foldl Pile.step ⟨[], 1, 0⟩
def sumR (l : List RX) : RX := match l with | [] => classR 0 | x :: r => r.foldl (joinsR 4) x
def madeR (l : List (Nat × Nat × Nat)) : RX := sumR (pileR (l.take 25)).all
def RX.fine (t : RX) : Prop := ∀ x ∈ t.pre, x.rightN = true
theorem fine_nd {k : Nat} {s : BS} {a b : Int} {l : List RX} : (RX.nd k s a b l).fine ↔ (RX.nd k s a b l).rightN = true /\ ∀ t ∈ l, t.fine := by
 constructor
 ·intro h
  exact pre_sub h
 ·rintro ⟨h1, h2⟩ x hx
  rw [RX.pre] at hx
  rcases List.mem_cons.1 hx with rfl | hx
  ·exact h1
  ·have : ∀ l' : List RX, (∀ t ∈ l', t.fine) -> x ∈ RX.pres l' -> x.rightN = true := by
    intro l'
    induction l' with
    | nil => intro _ h; rw [RX.pres] at h; cases h
    | cons y l' ih =>
     intro hf h
     rw [RX.pres] at h
     rcases List.mem_append.1 h with h | h
     ·exact hf y (List.mem_cons_self ..) x h
     ·exact ih (fun t ht => hf t (List.mem_cons_of_mem _ ht)) h
   exact this l h2 hx
theorem fine_self {t : RX} (h : t.fine) : t.rightN = true := h t (pre_self t)
theorem fine_subs {t : RX} (h : t.fine) : ∀ x ∈ t.subs, x.fine := by
 cases t with
 | nd k s a b l => exact (fine_nd.1 h).2
theorem lettersB_ne (n : Nat) : (bsOf fun c => (lettersB n).contains c) ≠ 0 := by
 have h : n % 12 < 12 := Nat.mod_lt _ (by decide)
 have key : ∀ k, k < 12 -> (bsOf fun c => (lettersB k).contains c) ≠ 0 := by decide +kernel
 have e : lettersB n = lettersB (n % 12) := by unfold lettersB; rw [Nat.mod_mod]
 rw [e]
 exact key _ h
theorem classR_fine (n : Nat) : (classR n).fine := by
 refine fine_nd.2 ⟨?_, fun t h => by cases h⟩
 obtain ⟨s, hs⟩ : ∃ s, s = bsOf fun c => (lettersB n).contains c := ⟨_, rfl⟩
 have h := lettersB_ne n
 rw [<- hs] at h ⊢
 unfold RX.rightN RX.kind RX.set RX.mn RX.mx RX.subs
 simpa using h
theorem emptyR_fine : emptyR.fine := fine_nd.2 ⟨by decide, fun t h => by cases h⟩
theorem sizes_append (a b : List RX) : RX.sizes (a ++ b) = RX.sizes a + RX.sizes b := by
 induction a with
 | nil => simp [RX.sizes]
 | cons x a ih => rw [List.cons_append, RX.sizes, RX.sizes, ih]; omega
theorem posns_append (a b : List RX) : RX.posns (a ++ b) = RX.posns a + RX.posns b := by
 induction a with
 | nil => simp [RX.posns]
 | cons x a ih => rw [List.cons_append, RX.posns, RX.posns, ih]; omega
theorem size_pos (t : RX) : 1 <= t.size := by cases t; rw [RX.size]; omega
theorem subs_size (t : RX) : RX.sizes t.subs + 1 = t.size := by cases t; rw [RX.size, RX.subs]; omega
theorem partR_fine {k : Nat} (hk : k = 3 \/ k = 4) {x : RX} (h : x.fine) : (∀ t ∈ partR k x, t.fine /\ t.kind ≠ k /\ (k = 3 -> t.kind ≠ 1)) /\ RX.sizes (partR k x) <= x.size /\ (x.kind = k -> RX.sizes (partR k x) + 1 <= x.size) /\ min (RX.posns (partR k x)) 10001 <= x.posn := by
 unfold partR
 by_cases h1 : x.kind = k
 ·rw [if_pos h1]
  have hs := subs_size x
  refine ⟨fun t ht => ⟨fine_subs h t ht, ?_⟩, by omega, fun _ => by omega, ?_⟩
  ·have hr := fine_self h
   unfold RX.rightN at hr
   split at hr
   ·cases hr
   ·have hh : ∀ j, x.has j = false -> t.kind ≠ j := fun j hj => by
     unfold RX.has at hj
     have := List.any_eq_false.1 hj t ht
     simpa using this
    rcases hk with rfl | rfl
    ·simp [h1] at hr
     exact ⟨hh 3 hr.2, fun _ => hh 1 hr.1.2⟩
    ·simp [h1] at hr
     exact ⟨hh 4 hr.2, fun e => by omega⟩
  ·cases x with
   | nd k' s a b l =>
    have e : k' = k := h1
    subst e
    rw [RX.subs, RX.posn, if_neg (by omega), if_neg (by omega)]
    omega
 ·rw [if_neg h1]
  by_cases h2 : k = 3 /\ x.kind = 1
  ·rw [if_pos h2]
   exact ⟨fun t ht => by (cases ht), by simp [RX.sizes], fun e => absurd e h1, by simp [RX.posns]⟩
  ·rw [if_neg h2]
   refine ⟨fun t ht => ?_, by simp [RX.sizes], fun e => absurd e h1, ?_⟩
   ·rw [List.mem_singleton.1 ht]
    exact ⟨h, h1, fun e => fun e2 => h2 ⟨e, e2⟩⟩
   ·simp [RX.posns]; omega
theorem joinedR_fine {k : Nat} (hk : k = 3 \/ k = 4) {l : List RX} (h : ∀ t ∈ l, t.fine /\ t.kind ≠ k /\ (k = 3 -> t.kind ≠ 1)) : (joinedR k l).fine /\ (joinedR k l).size <= RX.sizes l + 1 /\ (joinedR k l).posn <= RX.posns l := by
 match l with
 | [] => exact ⟨emptyR_fine, by simp [joinedR, emptyR, RX.size, RX.sizes], by simp [joinedR, emptyR, RX.posn, RX.posns]⟩
 | [x] =>
  refine ⟨(h x (List.mem_cons_self ..)).1, ?_, ?_⟩
  ·simp [joinedR, RX.sizes]
  ·simp [joinedR, RX.posns]
 | x :: y :: r =>
  refine ⟨fine_nd.2 ⟨?_, fun t ht => (h t ht).1⟩, ?_, ?_⟩
  ·have hh : ∀ j, (∀ t ∈ x :: y :: r, t.kind ≠ j) -> (RX.nd k 0 0 0 (x :: y :: r)).has j = false := fun j hj => by
    unfold RX.has
    rw [List.any_eq_false]
    intro t ht
    simpa using hj t ht
   unfold RX.rightN
   rw [if_neg (by rintro (h | h | h) <;> simp [RX.kind, RX.set, RX.mn, RX.mx] at h; omega)]
   rcases hk with rfl | rfl
   ·rw [hh 1 fun t ht => (h t ht).2.2 rfl, hh 3 fun t ht => (h t ht).2.1]
    simp [RX.kind, RX.subs]
   ·rw [hh 4 fun t ht => (h t ht).2.1]
    simp [RX.kind, RX.subs]
  ·show RX.size (.nd k 0 0 0 (x :: y :: r)) <= _
   rw [RX.size]; omega
  ·show RX.posn (.nd k 0 0 0 (x :: y :: r)) <= _
   rw [RX.posn, if_neg (by omega), if_neg (by omega)]; omega
theorem posn_le (t : RX) : t.posn <= 10001 := by cases t; rw [RX.posn]; omega
theorem joinsR_fine {k : Nat} (hk : k = 3 \/ k = 4) {a b : RX} (ha : a.fine) (hb : b.fine) : (joinsR k a b).fine /\ (joinsR k a b).size <= a.size + b.size + 1 /\ (joinsR k a b).posn <= a.posn + b.posn := by
 obtain ⟨a1, a2, _, a4⟩ := partR_fine hk ha
 obtain ⟨b1, b2, _, b4⟩ := partR_fine hk hb
 obtain ⟨g1, g2, g3⟩ := joinedR_fine hk (l := partR k a ++ partR k b) fun t ht => (List.mem_append.1 ht).elim (a1 t) (b1 t)
 rw [sizes_append] at g2
 rw [posns_append] at g3
 have := posn_le (joinsR k a b)
 refine ⟨g1, ?_, ?_⟩
 ·show (joinedR k (partR k a ++ partR k b)).size <= _
  omega
 ·have e : (joinsR k a b).posn = (joinedR k (partR k a ++ partR k b)).posn := rfl
  omega
theorem posn_rep (a b : Int) (s : BS) (x : RX) : (RX.nd 5 s a b [x]).posn <= x.posn * RX.times a b := by
 rw [RX.posn, if_neg (by decide), if_pos rfl, RX.posns, RX.posns, Nat.zero_add, Nat.add_zero]
 refine Nat.le_trans (Nat.min_le_left _ _) (Nat.mul_le_mul_left _ (Nat.min_le_left _ _))
theorem rep_bounds (n m : Nat) : bounds8 (leastS n) (mostS n m) = true /\ RX.times (leastS n) (mostS n m) = timesS n m /\ 1 <= timesS n m := by
 have h1 : n % 3 < 3 := Nat.mod_lt _ (by decide)
 have h2 : m % 4 < 4 := Nat.mod_lt _ (by decide)
 unfold timesS mostS leastS
 generalize n % 3 = p at *
 generalize m % 4 = q at *
 have key : ∀ p : Nat, p < 3 -> ∀ q : Nat, q < 4 -> bounds8 (p : Int) (if q < p \/ q = 0 \/ (p = 1 /\ q = 1) then -1 else (q : Int)) = true /\ RX.times (p : Int) (if q < p \/ q = 0 \/ (p = 1 /\ q = 1) then -1 else (q : Int)) = (max (max (p : Int) (if q < p \/ q = 0 \/ (p = 1 /\ q = 1) then -1 else (q : Int))) 1).toNat /\ 1 <= (max (max (p : Int) (if q < p \/ q = 0 \/ (p = 1 /\ q = 1) then -1 else (q : Int))) 1).toNat := by decide +kernel
 exact key p h1 q h2
structure Pile.ok (P : Pile) (c : Nat) : Prop where
 fine : ∀ t ∈ P.all, t.fine
 kind : ∀ t ∈ P.all, t.kind ≠ 0
 size : RX.sizes P.all <= c
 posn : RX.posns P.all <= c * P.unf
 unf : 1 <= P.unf
 unf16 : P.unf <= 16
 len : P.all.length <= c
theorem take_last {l : List RX} (h : 0 < l.length) : l = l.take (l.length - 1) ++ [l.getD (l.length - 1) emptyR] := by
 have e : l.getD (l.length - 1) emptyR = l[l.length - 1]'(by omega) := by rw [List.getD_eq_getElem?_getD, List.getElem?_eq_getElem (by omega)]; rfl
 rw [e, List.take_append_getElem (by omega), show l.length - 1 + 1 = l.length by omega, List.take_length]
theorem take_last2 {l : List RX} (h : 1 < l.length) : l = l.take (l.length - 2) ++ [l.getD (l.length - 2) emptyR, l.getD (l.length - 1) emptyR] := by
 have e1 := take_last (l := l) (by omega)
 have e2 := take_last (l := l.take (l.length - 1)) (by simp; omega)
 rw [List.length_take, Nat.min_eq_left (by omega), show l.length - 1 - 1 = l.length - 2 by omega] at e2
 rw [List.take_take, Nat.min_eq_left (by omega)] at e2
 have e3 : (l.take (l.length - 1)).getD (l.length - 2) emptyR = l.getD (l.length - 2) emptyR := by
  rw [List.getD_eq_getElem?_getD, List.getD_eq_getElem?_getD, List.getElem?_take, if_pos (by omega)]
 rw [e3] at e2
 rw [e2] at e1
 rw [e1.trans (List.append_assoc _ _ _)]
 simp
theorem getD_memR {l : List RX} {k : Nat} (h : k < l.length) : l.getD k emptyR ∈ l := by
 rw [List.getD_eq_getElem?_getD, List.getElem?_eq_getElem h]
 exact List.getElem_mem h
theorem fine_kind {t : RX} (h : t.fine) : t.kind ≠ 0 := (rightN_facts t (fine_self h)).2.2.1
theorem Pile.ok.more {P : Pile} {c : Nat} (h : P.ok c) : P.ok (c + 1) :=
 ⟨h.fine, h.kind, by have := h.size; omega, by have := h.posn; rw [Nat.succ_mul]; omega, h.unf, h.unf16, by have := h.len; omega⟩
theorem Pile.ok.push {P : Pile} {c : Nat} (h : P.ok c) {x : RX} (hx : x.fine) (hs : x.size <= 1) (hp : x.posn <= 1) : (⟨P.put 0 x, P.unf, P.grp⟩ : Pile).ok (c + 1) := by
 have e : P.put 0 x = P.all ++ [x] := by unfold Pile.put; rw [Nat.sub_zero, List.take_length]
 have hf : ∀ t ∈ P.put 0 x, t.fine := fun t ht => by
  rw [e] at ht
  rcases List.mem_append.1 ht with ht | ht
  ·exact h.fine t ht
  ·rw [List.mem_singleton.1 ht]; exact hx
 refine ⟨hf, fun t ht => fine_kind (hf t ht), ?_, ?_, h.unf, h.unf16, ?_⟩
 ·show RX.sizes (P.put 0 x) <= _
  rw [e, sizes_append]
  have := h.size
  simp [RX.sizes]; omega
 ·show RX.posns (P.put 0 x) <= (c + 1) * P.unf
  rw [e, posns_append, Nat.succ_mul]
  have := h.posn
  have := h.unf
  simp [RX.posns]; omega
 ·show (P.put 0 x).length <= _
  rw [e]
  have := h.len
  simp; omega
theorem Pile.ok.join {P : Pile} {c : Nat} (h : P.ok c) {k : Nat} (hk : k = 3 \/ k = 4) (hn : 1 < P.all.length) : (⟨P.put 2 (joinsR k P.last2 P.last), P.unf, P.grp⟩ : Pile).ok (c + 1) := by
 have e := take_last2 hn
 obtain ⟨g1, g2, g3⟩ := joinsR_fine hk (h.fine _ (getD_memR (show P.all.length - 2 < P.all.length by omega))) (h.fine _ (getD_memR (show P.all.length - 1 < P.all.length by omega)))
 have hf : ∀ t ∈ P.put 2 (joinsR k P.last2 P.last), t.fine := fun t ht => by
  rcases List.mem_append.1 ht with ht | ht
  ·exact h.fine t (List.mem_of_mem_take ht)
  ·rw [List.mem_singleton.1 ht]; exact g1
 have hs := h.size
 have hp := h.posn
 have hl := h.len
 rw [e, sizes_append] at hs
 rw [e, posns_append] at hp
 simp only [RX.sizes, RX.posns] at hs hp
 refine ⟨hf, fun t ht => fine_kind (hf t ht), ?_, ?_, h.unf, h.unf16, ?_⟩
 ·show RX.sizes (P.all.take (P.all.length - 2) ++ [joinsR k P.last2 P.last]) <= _
  rw [sizes_append]
  simp only [RX.sizes]
  show _ + ((joinsR k (P.all.getD (P.all.length - 2) emptyR) (P.all.getD (P.all.length - 1) emptyR)).size + 0) <= _
  omega
 ·show RX.posns (P.all.take (P.all.length - 2) ++ [joinsR k P.last2 P.last]) <= (c + 1) * P.unf
  rw [posns_append, Nat.succ_mul]
  simp only [RX.posns]
  show _ + ((joinsR k (P.all.getD (P.all.length - 2) emptyR) (P.all.getD (P.all.length - 1) emptyR)).posn + 0) <= _
  omega
 ·show (P.all.take (P.all.length - 2) ++ [joinsR k P.last2 P.last]).length <= _
  rw [List.length_append, List.length_take]
  simp; omega
theorem Pile.ok.turn {P : Pile} {c : Nat} (h : P.ok c) (hn : 0 < P.all.length) {x : RX} {f : Nat} (hx : x.fine) (hs : x.size <= P.last.size + 1) (hp : x.posn <= P.last.posn * f) (hf1 : 1 <= f) (hf16 : P.unf * f <= 16) (g : Nat) : (⟨P.put 1 x, P.unf * f, g⟩ : Pile).ok (c + 1) := by
 have e := take_last hn
 have hf : ∀ t ∈ P.put 1 x, t.fine := fun t ht => by
  rcases List.mem_append.1 ht with ht | ht
  ·exact h.fine t (List.mem_of_mem_take ht)
  ·rw [List.mem_singleton.1 ht]; exact hx
 have hs2 := h.size
 have hp2 := h.posn
 have hl := h.len
 have hu := h.unf
 rw [e, sizes_append] at hs2
 rw [e, posns_append] at hp2
 simp only [RX.sizes, RX.posns] at hs2 hp2
 refine ⟨hf, fun t ht => fine_kind (hf t ht), ?_, ?_, Nat.mul_pos hu hf1, hf16, ?_⟩
 ·show RX.sizes (P.all.take (P.all.length - 1) ++ [x]) <= _
  rw [sizes_append]
  simp only [RX.sizes]
  have : P.last.size = (P.all.getD (P.all.length - 1) emptyR).size := rfl
  omega
 ·show RX.posns (P.all.take (P.all.length - 1) ++ [x]) <= (c + 1) * (P.unf * f)
  rw [posns_append]
  simp only [RX.posns]
  have e2 : P.last.posn = (P.all.getD (P.all.length - 1) emptyR).posn := rfl
  rw [e2] at hp
  have h1 : RX.posns (P.all.take (P.all.length - 1)) + (P.all.getD (P.all.length - 1) emptyR).posn * f <= (RX.posns (P.all.take (P.all.length - 1)) + (P.all.getD (P.all.length - 1) emptyR).posn) * f := by
   rw [Nat.add_mul]
   exact Nat.add_le_add_right (Nat.le_mul_of_pos_right _ hf1) _
  have h2 : (RX.posns (P.all.take (P.all.length - 1)) + (P.all.getD (P.all.length - 1) emptyR).posn) * f <= c * P.unf * f := Nat.mul_le_mul_right _ (by omega)
  have h3 : (c + 1) * (P.unf * f) = c * P.unf * f + P.unf * f := by rw [Nat.succ_mul, Nat.mul_assoc]
  omega
 ·show (P.all.take (P.all.length - 1) ++ [x]).length <= _
  rw [List.length_append, List.length_take]
  simp; omega
theorem group_fine {x : RX} (h : x.fine) : (RX.nd 6 0 0 0 [x]).fine /\ (RX.nd 6 0 0 0 [x]).size <= x.size + 1 /\ (RX.nd 6 0 0 0 [x]).posn <= x.posn * 1 := by
 refine ⟨fine_nd.2 ⟨?_, fun t ht => by rw [List.mem_singleton.1 ht]; exact h⟩, ?_, ?_⟩
 ·unfold RX.rightN
  simp [RX.kind, RX.set, RX.mn, RX.mx, RX.subs]
 ·simp [RX.size, RX.sizes]; omega
 ·rw [RX.posn, if_neg (by decide), if_neg (by decide), RX.posns, RX.posns]; omega
theorem rep_fine {x : RX} (h : x.fine) (hk : x.kind ≠ 1) (n m : Nat) : (RX.nd 5 0 (leastS n) (mostS n m) [x]).fine /\ (RX.nd 5 0 (leastS n) (mostS n m) [x]).size <= x.size + 1 := by
 refine ⟨fine_nd.2 ⟨?_, fun t ht => by rw [List.mem_singleton.1 ht]; exact h⟩, ?_⟩
 ·have hh : (RX.nd 5 0 (leastS n) (mostS n m) [x]).has 1 = false := by
   unfold RX.has RX.subs
   simpa using hk
  unfold RX.rightN
  rw [if_neg (by rintro (h | h | h) <;> simp [RX.kind, RX.set, RX.mn, RX.mx] at h), hh]
  simp [RX.kind, RX.subs, RX.mn, RX.mx, (rep_bounds n m).1]
 ·simp [RX.size, RX.sizes]; omega
theorem Pile.ok.step {P : Pile} {c : Nat} (h : P.ok c) (s : Nat × Nat × Nat) : (P.step s).ok (c + 1) := by
 unfold Pile.step
 split
 ·exact h.push (classR_fine _) (by simp [classR, RX.size, RX.sizes]) (by simp [classR, RX.posn, RX.posns])
 split
 ·exact h.push emptyR_fine (by decide) (by decide)
 split
 ·rename_i hc; exact h.join (.inl rfl) hc.2
 split
 ·rename_i hc; exact h.join (.inr rfl) hc.2
 split
 ·rename_i hc
  obtain ⟨g1, g2, g3⟩ := group_fine (h.fine _ (getD_memR (show P.all.length - 1 < P.all.length by omega)))
  have := h.turn hc.2.1 g1 g2 g3 (Nat.le_refl 1) (by rw [Nat.mul_one]; exact h.unf16) (P.grp + 1)
  rwa [Nat.mul_one] at this
 split
 ·rename_i hc
  split
  ·rename_i hu
   obtain ⟨r1, r2, r3⟩ := rep_bounds s.2.1 s.2.2
   obtain ⟨g1, g2⟩ := rep_fine (h.fine _ (getD_memR (show P.all.length - 1 < P.all.length by omega))) hc.2.2 s.2.1 s.2.2
   exact h.turn hc.2.1 g1 g2 (by rw [<- r2]; exact posn_rep _ _ _ _) r3 hu P.grp
  ·exact h.more
 ·exact h.more
theorem pileR_ok (l : List (Nat × Nat × Nat)) : (pileR l).ok l.length := by
 have : ∀ (l : List (Nat × Nat × Nat)) (P : Pile) (c : Nat), P.ok c -> (l.foldl Pile.step P).ok (c + l.length) := by
  intro l
  induction l with
  | nil => intro P c h; exact h
  | cons s l ih =>
   intro P c h
   rw [List.foldl_cons, List.length_cons, show c + (l.length + 1) = c + 1 + l.length by omega]
   exact ih _ _ (h.step s)
 have h := this l ⟨[], 1, 0⟩ 0 ⟨fun t ht => by (cases ht), fun t ht => by (cases ht), by simp [RX.sizes], by simp [RX.posns], Nat.le_refl _, by decide, Nat.zero_le _⟩
 rwa [Nat.zero_add] at h
theorem foldR_fine : ∀ (r : List RX) (x : RX), x.fine -> (∀ t ∈ r, t.fine) -> (r.foldl (joinsR 4) x).fine /\ (r.foldl (joinsR 4) x).size <= x.size + RX.sizes r + r.length /\ (r.foldl (joinsR 4) x).posn <= x.posn + RX.posns r
 | [], x, h, _ => ⟨h, by simp [RX.sizes], by simp [RX.posns]⟩
 | y :: r, x, h, hr => by
  rw [List.foldl_cons, List.length_cons, RX.sizes, RX.posns]
  obtain ⟨g1, g2, g3⟩ := joinsR_fine (.inr rfl) h (hr y (List.mem_cons_self ..)) (k := 4)
  obtain ⟨k1, k2, k3⟩ := foldR_fine r _ g1 fun t ht => hr t (List.mem_cons_of_mem _ ht)
  exact ⟨k1, by omega, by omega⟩
structure MadeOk (t : RX) : Prop where
 fine : t.fine
 size : t.size <= 60
 posn : t.posn <= 400
theorem madeR_ok (l : List (Nat × Nat × Nat)) : MadeOk (madeR l) := by
 have H := pileR_ok (l.take 25)
 have hl : (l.take 25).length <= 25 := by rw [List.length_take]; omega
 have h16 := H.unf16
 have hlen := H.len
 have hsz := H.size
 have hps : RX.posns (pileR (l.take 25)).all <= 400 := Nat.le_trans H.posn (Nat.le_trans (Nat.mul_le_mul hl h16) (by decide))
 have hfine := H.fine
 unfold madeR
 generalize (pileR (l.take 25)).all = p at *
 cases p with
 | nil => exact ⟨classR_fine 0, by decide, by decide +kernel⟩
 | cons x r =>
  rw [RX.sizes] at hsz
  rw [RX.posns] at hps
  rw [List.length_cons] at hlen
  obtain ⟨g1, g2, g3⟩ := foldR_fine r x (hfine x (List.mem_cons_self ..)) fun t ht => hfine t (List.mem_cons_of_mem _ ht)
  exact ⟨g1, by show (r.foldl (joinsR 4) x).size <= 60; omega, by show (r.foldl (joinsR 4) x).posn <= 400; omega⟩
theorem MadeOk.clean {t : RX} (h : MadeOk t) : t.clean = true := by
 unfold RX.clean
 rw [Bool.and_eq_true, List.all_eq_true]
 exact ⟨decide_eq_true (by have := h.size; omega), h.fine⟩
end Go.Proofs.YtbiboekhakbnpaaGreatDoor
