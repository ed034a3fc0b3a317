/-
  The automaton of positions that is made of a clean tree is right.
-/
import Derived.Test.YtbiboekhakbnpaaGreatDoorOB19
import Derived.Test.YtbiboekhakbnpaaGreatDoorOB12
set_option maxRecDepth 100000
set_option maxHeartbeats 16000000
open Go.Lib (hid)
namespace Go.Proofs.YtbiboekhakbnpaaGreatDoor
open Go Go.RowKit

def PBlt (x : PB) (n : Nat) : Prop := ∀ p, x.getLsbD p = true -> p < n
theorem PBlt.zero (n : Nat) : PBlt 0 n := fun p h => by simp at h
theorem PBlt.mono {x : PB} {n n' : Nat} (h : PBlt x n) (hn : n <= n') : PBlt x n' := fun p hp => Nat.lt_of_lt_of_le (h p hp) hn
theorem PBlt.or {x y : PB} {n : Nat} (h : PBlt x n) (h' : PBlt y n) : PBlt (x ||| y) n := fun p hp => by
 rw [BitVec.getLsbD_or] at hp
 rcases Bool.or_eq_true_iff.1 hp with hp | hp
 ·exact h p hp
 ·exact h' p hp
theorem bitG_at (n p : Nat) : (bitG n).getLsbD p = (decide (p < 448) && decide (p = n)) := by
 unfold bitG
 rw [BitVec.getLsbD_shiftLeft, BitVec.getLsbD_one]
 by_cases h1 : p < 448
 ·by_cases h2 : p = n
  ·subst h2; simp [h1]
  ·by_cases h3 : p < n
   ·simp [h1, h2, h3]
   ·have h4 : p - n ≠ 0 := by omega
    simp [h1, h2, h3, h4]
 ·simp [h1]
theorem PBlt.bit (n : Nat) : PBlt (bitG n) (n + 1) := fun p hp => by
 rw [bitG_at] at hp
 simp at hp
 omega
structure GM.ok (m : GM) : Prop where
 len : m.fol.length = m.sets.length
 fol : ∀ f ∈ m.fol, PBlt f m.sets.length
 ne : ∀ s ∈ m.sets, s ≠ 0
structure GP.ok (a : GP) (n : Nat) : Prop where
 fst : PBlt a.fst n
 lst : PBlt a.lst n
theorem GP.ok.mono {a : GP} {n n' : Nat} (h : a.ok n) (hn : n <= n') : a.ok n' := ⟨h.fst.mono hn, h.lst.mono hn⟩
theorem loopG_ok {m : GM} (h : m.ok) {last first : PB} (hf : PBlt first m.sets.length) : (loopG m last first).ok := by
 refine ⟨?_, fun f hf' => ?_, h.ne⟩
 ·show (m.fol.mapIdx _).length = _
  rw [List.length_mapIdx]; exact h.len
 ·obtain ⟨i, hi, rfl⟩ := List.mem_mapIdx.1 hf'
  have h1 := h.fol _ (List.getElem_mem hi)
  show PBlt (if last.getLsbD i = true then m.fol[i] ||| first else m.fol[i]) m.sets.length
  split
  ·exact h1.or hf
  ·exact h1
theorem thenG_ok {m : GM} (h : m.ok) {a b : GP} (ha : a.ok m.sets.length) (hb : b.ok m.sets.length) : (thenG m a b).1.ok /\ (thenG m a b).1.sets = m.sets /\ (thenG m a b).2.ok m.sets.length := by
 refine ⟨loopG_ok h hb.fst, rfl, ?_, ?_⟩
 ·show PBlt (if a.emp = true then a.fst ||| b.fst else a.fst) _
  split
  ·exact ha.fst.or hb.fst
  ·exact ha.fst
 ·show PBlt (if b.emp = true then b.lst ||| a.lst else b.lst) _
  split
  ·exact hb.lst.or ha.lst
  ·exact hb.lst
mutual
def RX.cnt : RX -> Nat
 | .nd k _ a b l => if k = 0 then 0 else if k = 1 then 0 else if k = 2 then 1 else if k = 3 then RX.cnts l else if k = 4 then RX.cnts l else if k = 5 then manyG a b * RX.cnt1 l else RX.cnt1 l
def RX.cnts : List RX -> Nat
 | [] => 0
 | t :: l => t.cnt + RX.cnts l
def RX.cnt1 : List RX -> Nat
 | [] => 0
 | t :: _ => t.cnt
end
structure MadeG (m : GM) (r : GM × GP) (c : Nat) : Prop where
 ok : r.1.ok
 len : r.1.sets.length = m.sets.length + c
 gp : r.2.ok r.1.sets.length
theorem catG_ok : ∀ (l : List RX), (∀ t ∈ l, ∀ m : GM, m.ok -> MadeG m (t.mkG m) t.cnt) -> ∀ (m : GM) (st : GM × GP) (c : Nat), MadeG m st c -> MadeG m (RX.catG l st) (c + RX.cnts l)
 | [], _, m, st, c, h => by rw [RX.catG, RX.cnts]; exact h
 | t :: l, hl, m, st, c, h => by
  rw [RX.catG, RX.cnts, <- Nat.add_assoc]
  refine catG_ok l (fun x hx => hl x (List.mem_cons_of_mem _ hx)) m _ _ ?_
  have h1 := hl t (List.mem_cons_self ..) st.1 h.ok
  obtain ⟨g1, g2, g3⟩ := thenG_ok h1.ok (h.gp.mono (by rw [h1.len]; omega)) h1.gp
  refine ⟨g1, ?_, ?_⟩
  ·rw [g2, h1.len, h.len]; omega
  ·rw [g2]; exact g3
theorem altG_ok : ∀ (l : List RX), (∀ t ∈ l, ∀ m : GM, m.ok -> MadeG m (t.mkG m) t.cnt) -> ∀ (m : GM) (st : GM × GP) (c : Nat), MadeG m st c -> MadeG m (RX.altG l st) (c + RX.cnts l)
 | [], _, m, st, c, h => by rw [RX.altG, RX.cnts]; exact h
 | t :: l, hl, m, st, c, h => by
  rw [RX.altG, RX.cnts, <- Nat.add_assoc]
  refine altG_ok l (fun x hx => hl x (List.mem_cons_of_mem _ hx)) m _ _ ?_
  have h1 := hl t (List.mem_cons_self ..) st.1 h.ok
  have h2 := h.gp.mono (n' := (t.mkG st.1).1.sets.length) (by rw [h1.len]; omega)
  refine ⟨h1.ok, ?_, h2.fst.or h1.gp.fst, h2.lst.or h1.gp.lst⟩
  show (t.mkG st.1).1.sets.length = _
  rw [h1.len, h.len]; omega
theorem repG_ok {mn mx : Int} {k c : Nat} {m : GM} {a : GP} (ha : a.ok m.sets.length) {x : GM × GP} (h : MadeG m x c) : MadeG m (repG mn mx k a x) c := by
 unfold repG
 have h1 : (if mx = -1 /\ k + 1 = manyG mn mx then loopG x.1 x.2.lst x.2.fst else x.1).ok /\ (if mx = -1 /\ k + 1 = manyG mn mx then loopG x.1 x.2.lst x.2.fst else x.1).sets = x.1.sets := by
  split
  ·exact ⟨loopG_ok h.ok h.gp.fst, rfl⟩
  ·exact ⟨h.ok, rfl⟩
 obtain ⟨g1, g2, g3⟩ := thenG_ok h1.1 (a := a) (b := ⟨x.2.fst, x.2.lst, x.2.emp || decide (mn <= k)⟩) (by rw [h1.2]; exact ha.mono (by rw [h.len]; omega)) (by rw [h1.2]; exact ⟨h.gp.fst, h.gp.lst⟩)
 refine ⟨g1, ?_, ?_⟩
 ·rw [g2, h1.2, h.len]
 ·rw [g2]; exact g3
theorem repsG_ok {mn mx : Int} {c : Nat} {f : GM -> GM × GP} (hf : ∀ m : GM, m.ok -> MadeG m (f m) c) {m : GM} (h : m.ok) : ∀ k, MadeG m (repsG mn mx f m k) (k * c)
 | 0 => ⟨h, by simp [repsG], PBlt.zero _, PBlt.zero _⟩
 | k + 1 => by
  have ih := repsG_ok hf h (mn := mn) (mx := mx) k
  have h1 := repG_ok (mn := mn) (mx := mx) (k := k) ih.gp (hf _ ih.ok)
  refine ⟨h1.ok, ?_, h1.gp⟩
  show (repG mn mx k (repsG mn mx f m k).2 (f (repsG mn mx f m k).1)).1.sets.length = _
  rw [h1.len, ih.len, Nat.succ_mul]; omega
mutual
def RX.full : RX -> Bool
 | .nd k s _ _ l => (k != 2 || s != 0) && RX.fulls l
def RX.fulls : List RX -> Bool
 | [] => true
 | t :: l => t.full && RX.fulls l
end
theorem fulls_mem : ∀ {l : List RX}, RX.fulls l = true -> ∀ t ∈ l, t.full = true
 | [], _, t, h => by cases h
 | x :: l, h, t, ht => by
  rw [RX.fulls, Bool.and_eq_true] at h
  rcases List.mem_cons.1 ht with rfl | ht
  ·exact h.1
  ·exact fulls_mem h.2 t ht
theorem mkG_ok (t : RX) : t.full = true -> ∀ m : GM, m.ok -> MadeG m (t.mkG m) t.cnt := by
 induction t using RX.ind with
 | h k s a b l ih =>
  intro hf m hm
  rw [RX.full, Bool.and_eq_true] at hf
  have hl : ∀ t ∈ l, ∀ m : GM, m.ok -> MadeG m (t.mkG m) t.cnt := fun t ht => ih t ht (fulls_mem hf.2 t ht)
  rw [RX.mkG, RX.cnt]
  by_cases h0 : k = 0
  ·rw [if_pos h0, if_pos h0]; exact ⟨hm, rfl, PBlt.zero _, PBlt.zero _⟩
  rw [if_neg h0, if_neg h0]
  by_cases h1 : k = 1
  ·rw [if_pos h1, if_pos h1]; exact ⟨hm, rfl, PBlt.zero _, PBlt.zero _⟩
  rw [if_neg h1, if_neg h1]
  by_cases h2 : k = 2
  ·rw [if_pos h2, if_pos h2]
   have hs : s ≠ 0 := by
    rw [h2] at hf
    simpa using hf.1
   have e : (m.sets ++ [s]).length = m.sets.length + 1 := by simp
   refine ⟨⟨by simp [hm.len], fun f hf' => ?_, fun x hx => ?_⟩, e, ?_, ?_⟩
   ·show PBlt f (m.sets ++ [s]).length
    rw [e]
    rcases List.mem_append.1 hf' with hf' | hf'
    ·exact (hm.fol f hf').mono (by omega)
    ·rw [List.mem_singleton.1 hf']; exact PBlt.zero _
   ·rcases List.mem_append.1 hx with hx | hx
    ·exact hm.ne x hx
    ·rw [List.mem_singleton.1 hx]; exact hs
   ·show PBlt (bitG m.sets.length) (m.sets ++ [s]).length
    rw [e]; exact PBlt.bit _
   ·show PBlt (bitG m.sets.length) (m.sets ++ [s]).length
    rw [e]; exact PBlt.bit _
  rw [if_neg h2, if_neg h2]
  have hz : ∀ e, MadeG m (m, ⟨0, 0, e⟩) 0 := fun e => ⟨hm, rfl, PBlt.zero _, PBlt.zero _⟩
  by_cases h3 : k = 3
  ·rw [if_pos h3, if_pos h3]
   have := catG_ok l hl m _ 0 (hz true)
   rwa [Nat.zero_add] at this
  rw [if_neg h3, if_neg h3]
  by_cases h4 : k = 4
  ·rw [if_pos h4, if_pos h4]
   have := altG_ok l hl m _ 0 (hz false)
   rwa [Nat.zero_add] at this
  rw [if_neg h4, if_neg h4]
  cases l with
  | nil =>
   by_cases h5 : k = 5
   ·rw [if_pos h5, if_pos h5, RX.rpG, RX.cnt1]; exact hz true
   ·rw [if_neg h5, if_neg h5, RX.hdG, RX.cnt1]; exact hz false
  | cons t l =>
   have ht := hl t (List.mem_cons_self ..)
   by_cases h5 : k = 5
   ·rw [if_pos h5, if_pos h5, RX.rpG, RX.cnt1]; exact repsG_ok ht hm _
   ·rw [if_neg h5, if_neg h5, RX.hdG, RX.cnt1]; exact ht m hm
def RX.nf (t : RX) : NF := ⟨(t.mkG ⟨[], []⟩).1.sets, (t.mkG ⟨[], []⟩).1.fol.map posG, posG (t.mkG ⟨[], []⟩).2.fst, posG (t.mkG ⟨[], []⟩).2.lst, (t.mkG ⟨[], []⟩).2.emp⟩
theorem posG_ris {x : PB} {n : Nat} (h : PBlt x n) : risG 0 ((n : Int) - 1) (posG x) = true := by
 refine risG_of (range_rises _ _) fun y hy => ?_
 obtain ⟨q, hq, rfl⟩ := List.mem_map.1 hy
 have := h q (List.mem_filter.1 hq).2
 show (0 : Int) <= (q : Int) /\ (q : Int) <= _
 omega
theorem nf_nt {t : RX} (h : t.full = true) (hc : t.cnt <= 400) : Nt t.nf := by
 have H := mkG_ok t h ⟨[], []⟩ ⟨rfl, fun f hf => (by cases hf), fun s hs => (by cases hs)⟩
 have hl := H.len
 simp only [List.length_nil, Nat.zero_add] at hl
 refine ⟨?_, ?_, posG_ris H.gp.fst, posG_ris H.gp.lst, fun p hp => ?_, fun p hp => ?_⟩
 ·show (t.mkG ⟨[], []⟩).1.sets.length <= 400
  omega
 ·show ((t.mkG ⟨[], []⟩).1.fol.map posG).length = _
  rw [List.length_map]; exact H.ok.len
 ·show risG 0 _ (((t.mkG ⟨[], []⟩).1.fol.map posG).getD p []) = true
  have hp2 : p < (t.mkG ⟨[], []⟩).1.fol.length := by rw [H.ok.len]; exact hp
  rw [List.getD_eq_getElem?_getD, List.getElem?_map, List.getElem?_eq_getElem hp2]
  exact posG_ris (H.ok.fol _ (List.getElem_mem hp2))
 ·show (t.mkG ⟨[], []⟩).1.sets.getD p 0 ≠ 0
  have hp3 : p < (t.mkG ⟨[], []⟩).1.sets.length := hp
  rw [List.getD_eq_getElem?_getD, List.getElem?_eq_getElem hp3]
  exact H.ok.ne _ (List.getElem_mem hp3)
theorem pres_mem : ∀ {l : List RX} {t x : RX}, t ∈ l -> x ∈ t.pre -> x ∈ RX.pres l
 | y :: l, t, x, ht, hx => by
  rw [RX.pres]
  rcases List.mem_cons.1 ht with rfl | ht
  ·exact List.mem_append_left _ hx
  ·exact List.mem_append_right _ (pres_mem ht hx)
theorem pre_self (t : RX) : t ∈ t.pre := by cases t; rw [RX.pre]; exact List.mem_cons_self ..
theorem pre_sub {k : Nat} {s : BS} {a b : Int} {l : List RX} {P : RX -> Prop} (h : ∀ x ∈ (RX.nd k s a b l).pre, P x) : P (.nd k s a b l) /\ ∀ t ∈ l, ∀ x ∈ t.pre, P x := by
 refine ⟨h _ (pre_self _), fun t ht x hx => h x ?_⟩
 rw [RX.pre]
 exact List.mem_cons_of_mem _ (pres_mem ht hx)
theorem rightN_facts (t : RX) (h : t.rightN = true) : (t.kind = 2 -> t.set ≠ 0) /\ (t.kind < 3 -> t.subs = []) /\ (t.kind ≠ 0) /\ (t.kind <= 6) /\ (t.kind = 5 \/ t.kind = 6 -> t.subs.length = 1) /\ (t.kind = 5 -> bounds8 t.mn t.mx = true) /\ (t.kind = 3 \/ t.kind = 4 -> 1 < t.subs.length) := by
 unfold RX.rightN at h
 generalize t.kind = k at *
 generalize t.set = s at *
 generalize t.mn = a at *
 generalize t.mx = b at *
 generalize t.has 1 = i1 at *
 generalize t.has 3 = i3 at *
 generalize t.has 4 = i4 at *
 generalize t.subs = l at *
 split at h
 ·cases h
 rename_i h0
 have hl : k < 3 -> l = [] := fun hk => by
  apply List.eq_nil_of_length_eq_zero
  have : ¬ (k < 3 /\ 0 < l.length) := fun e => h0 (.inr (.inr e))
  omega
 refine ⟨fun hk => ?_, hl, fun hk => ?_, ?_, fun hk => ?_, fun hk => ?_, fun hk => ?_⟩
 ·subst hk; simpa using h
 ·subst hk; simp at h
 ·split at h
  ·omega
  split at h
  ·omega
  split at h
  ·omega
  split at h
  ·omega
  split at h
  ·omega
  ·simp at h; omega
 ·rcases hk with rfl | rfl
  ·simp at h; exact h.1.1
  ·simp at h; exact h
 ·subst hk; simp at h; exact h.1.2
 ·rcases hk with rfl | rfl
  ·simp at h; exact h.1.1
  ·simp at h; exact h.1
theorem right_set {k : Nat} {s : BS} {a b : Int} {l : List RX} (h : (RX.nd k s a b l).rightN = true) : (k = 2 -> s ≠ 0) /\ (k < 3 -> l = []) /\ (k ≠ 0) /\ (k <= 6) /\ (k = 5 \/ k = 6 -> l.length = 1) /\ (k = 5 -> bounds8 a b = true) /\ (k = 3 \/ k = 4 -> 1 < l.length) := rightN_facts _ h
theorem clean_full (t : RX) : (∀ x ∈ t.pre, x.rightN = true) -> t.full = true := by
 induction t using RX.ind with
 | h k s a b l ih =>
  intro h
  obtain ⟨h1, h2⟩ := pre_sub h
  rw [RX.full, Bool.and_eq_true]
  refine ⟨?_, ?_⟩
  ·by_cases hk : k = 2
   ·rw [Bool.or_eq_true]
    exact .inr (bne_iff_ne.2 ((right_set h1).1 hk))
   ·simp [hk]
  ·have : ∀ l' : List RX, (∀ t ∈ l', t ∈ l) -> RX.fulls l' = true := by
    intro l'
    induction l' with
    | nil => intro _; rfl
    | cons x l' ih2 =>
     intro hs
     rw [RX.fulls, Bool.and_eq_true]
     exact ⟨ih x (hs x (List.mem_cons_self ..)) (h2 x (hs x (List.mem_cons_self ..))), ih2 fun t ht => hs t (List.mem_cons_of_mem _ ht)⟩
   exact this l fun t ht => ht
theorem manyG_times {a b : Int} (h : bounds8 a b = true) : RX.times a b = manyG a b /\ 1 <= manyG a b /\ manyG a b <= 16 := by
 unfold bounds8 at h
 split at h
 ·cases h
 ·unfold RX.times manyG
  simp only [Bool.or_eq_true, Bool.and_eq_true, decide_eq_true_eq] at h
  by_cases hb : b = -1
  ·rw [if_pos hb, if_pos hb]; omega
  ·rw [if_neg hb, if_neg hb]; omega
theorem cnt_posn (t : RX) : (∀ x ∈ t.pre, x.rightN = true) -> t.posn <= 400 -> t.cnt = t.posn := by
 induction t using RX.ind with
 | h k s a b l ih =>
  intro h hp
  obtain ⟨h1, h2⟩ := pre_sub h
  obtain ⟨_, hk3, hk0, hk6, h56, h5, _⟩ := right_set h1
  rw [RX.posn] at hp ⊢
  have hlist : ∀ l' : List RX, (∀ t ∈ l', t ∈ l) -> RX.posns l' <= 400 -> RX.cnts l' = RX.posns l' := by
   intro l'
   induction l' with
   | nil => intro _ _; rfl
   | cons x l' ih2 =>
    intro hs hle
    rw [RX.posns] at hle
    rw [RX.cnts, RX.posns, ih x (hs x (List.mem_cons_self ..)) (h2 x (hs x (List.mem_cons_self ..))) (by omega), ih2 (fun t ht => hs t (List.mem_cons_of_mem _ ht)) (by omega)]
  rw [RX.cnt, if_neg hk0]
  by_cases h1k : k = 1
  ·subst h1k
   rw [hk3 (by omega)]
   simp [RX.posns]
  rw [if_neg h1k]
  by_cases h2k : k = 2
  ·subst h2k
   rw [hk3 (by omega)]
   simp [RX.posns]
  rw [if_neg h2k]
  rw [if_neg h2k, Nat.zero_add] at hp ⊢
  by_cases h5k : k = 5
  ·subst h5k
   obtain ⟨e1, e2, e3⟩ := manyG_times (h5 rfl)
   rw [if_pos rfl, e1] at hp ⊢
   have hm : min (manyG a b) 10001 = manyG a b := by omega
   rw [hm] at hp ⊢
   obtain ⟨x, rfl⟩ := List.length_eq_one_iff.1 (h56 (.inl rfl))
   have hx : RX.posns [x] = x.posn := by simp [RX.posns]
   rw [hx] at hp ⊢
   have hle : x.posn <= x.posn * manyG a b := Nat.le_mul_of_pos_right _ e2
   rw [if_neg (by omega), if_neg (by omega), if_pos rfl, RX.cnt1, ih x (List.mem_cons_self ..) (h2 x (List.mem_cons_self ..)) (by omega)]
   rw [Nat.mul_comm]
   omega
  ·rw [if_neg h5k, Nat.mul_one] at hp
   simp only [if_neg h5k, Nat.mul_one]
   have hle : RX.posns l <= 400 := by omega
   have e := hlist l (fun t ht => ht) hle
   by_cases h3k : k = 3
   ·rw [if_pos h3k, e]; omega
   rw [if_neg h3k]
   by_cases h4k : k = 4
   ·rw [if_pos h4k, e]; omega
   rw [if_neg h4k]
   obtain ⟨x, rfl⟩ := List.length_eq_one_iff.1 (h56 (.inr (by omega)))
   rw [RX.cnt1]
   simp [RX.cnts, RX.posns] at e
   simp [RX.posns] at hle ⊢
   omega
theorem clean_nt {t : RX} (h : t.clean = true) (hp : t.posn <= 400) : Nt t.nf := by
 unfold RX.clean at h
 rw [Bool.and_eq_true, List.all_eq_true] at h
 exact nf_nt (clean_full t h.2) (by rw [cnt_posn t h.2 hp]; exact hp)
end Go.Proofs.YtbiboekhakbnpaaGreatDoor
