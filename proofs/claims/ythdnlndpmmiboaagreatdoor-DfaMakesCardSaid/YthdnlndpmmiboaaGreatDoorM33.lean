/-
  The automaton of parts is right.
  Plain facts: the table is the same with any fuel that holds its states; with less there is none.
  The automaton of parts with the fuel that the law hands the reference.
  The law's makes of automata of parts: what its first loop keeps.
-/
import Derived.Test.YthdnlndpmmiboaaGreatDoorM18
import Derived.Test.YthdnlndpmmiboaaGreatDoorM12
import Derived.Test.YthdnlndpmmiboaaGreatDoorM31
import Derived.Test.YthdnlndpmmiboaaGreatDoorM16
namespace Go.Proofs.YthdnlndpmmiboaaGreatDoor
open Go Go.RowKit Go.Shelf Go.Maps

theorem ofSt_ok {ps : List PT} {fuel : Nat} {st : List (List (List Int)) × List (List Nat)} (h : ofSt ps fuel = some st) : StOk fuel (partsOf (allSets ps)).length (RowIn ps) (row0 ps) fuel st := by
  unfold ofSt at h
  split at h
  · cases h
  · rename_i hf
    exact stTo_ok (by omega) (row0_in ps) (fun row k hr _ => stepR_in hr _) fuel h
theorem of_right {ps : List PT} {fuel : Nat} (hf2 : fuel ≤ 4000) {st : List (List (List Int)) × List (List Nat)} (h : ofSt ps fuel = some st) : Rt ⟨partsOf (allSets ps), st.2.map fun r => r.map Int.ofNat, st.1.map (marksR ps)⟩ := by
  have I := ofSt_ok h
  have hlen : st.2.length = st.1.length := by have := I.len; have := I.le; omega
  have hrow : ∀ s, s < st.2.length → ((st.2.map fun r => r.map Int.ofNat).getD s []) = (st.2.getD s []).map Int.ofNat ∧ (st.2.getD s []) ∈ st.2 := fun s hs => by
    have e := some_getD (l := st.2) [] hs
    refine ⟨?_, List.mem_of_getElem? e⟩
    rw [List.getD_eq_getElem?_getD, List.getElem?_map, e]; rfl
  refine ⟨?_, ?_, ?_, partsOf_partsOf _, ?_, ?_, ?_⟩
  · show 1 ≤ (st.2.map fun r => r.map Int.ofNat).length
    have := (List.getElem?_eq_some_iff.1 I.head).1
    simp; omega
  · show (st.2.map fun r => r.map Int.ofNat).length ≤ 4000
    have := I.le
    simp; omega
  · simp [hlen]
  · intro s hs
    rw [List.length_map] at hs
    obtain ⟨e, hm⟩ := hrow s hs
    show ((st.2.map fun r => r.map Int.ofNat).getD s []).length = _
    rw [e, List.length_map]
    exact (I.rows _ hm).1
  · intro s hs t ht
    rw [List.length_map] at hs
    obtain ⟨e, hm⟩ := hrow s hs
    replace ht : t ∈ ((st.2.map fun r => r.map Int.ofNat).getD s []) := ht
    rw [e] at ht
    obtain ⟨q, hq, rfl⟩ := List.mem_map.1 ht
    have h2 := (I.rows _ hm).2 q hq
    show (0 : Int) ≤ (q : Int) ∧ (q : Int) < (((st.2.map fun r => r.map Int.ofNat).length : Nat) : Int)
    rw [List.length_map]
    omega
  · intro s hs
    rw [List.length_map] at hs
    show risB ((st.1.map (marksR ps)).getD s []) = true
    rw [List.getD_eq_getElem?_getD, List.getElem?_map, List.getElem?_eq_getElem (by omega)]
    exact marksR_ris ps _
/-- An automaton that is made is right. -/
theorem ofE_right {ps : List PT} {fuel : Int} {d : DF} (h : ofE ps fuel = (d, 0)) : Rt d := by
  unfold ofE at h
  split at h
  · cases h
  · split at h
    · cases h
    · split at h
      · cases h
      · rename_i hf
        split at h
        · cases h
        · rename_i st hst
          have e : (⟨partsOf (allSets ps), st.2.map fun r => r.map Int.ofNat, st.1.map (marksR ps)⟩ : DF) = d := (Prod.mk.inj h).1
          rw [← e]
          exact of_right (by omega) hst
end Go.Proofs.YthdnlndpmmiboaaGreatDoor
namespace Go.Proofs.YthdnlndpmmiboaaGreatDoor
open Go Go.RowKit Go.Shelf Go.Maps

section
variable {α : Type} [DecidableEq α]
theorem addQ_len {f : Nat} {st st' : List α × List Nat} {q : α} (h : addQ f st q = some st') : st.1.length ≤ st'.1.length := by
  unfold addQ at h
  split at h
  · split at h
    · cases h
    · cases h; simp
  · cases h; exact Nat.le_refl _
theorem addQ_same {f g : Nat} {st st' : List α × List Nat} {q : α} (h : addQ f st q = some st') (hg : st'.1.length ≤ g) : addQ g st q = some st' := by
  unfold addQ at h ⊢
  split at h
  · rename_i e
    rw [if_pos e]
    split at h
    · cases h
    · cases h
      rw [if_neg]
      have : st.1.length + 1 ≤ g := by simpa using hg
      omega
  · rename_i e
    rw [if_neg e]
    exact h
theorem rowTo_len {f : Nat} {s : Nat → α} {todo : List α} : ∀ {k : Nat} {st : List α × List Nat}, rowTo f s todo k = some st → todo.length ≤ st.1.length
  | 0, st, h => by cases h; exact Nat.le_refl _
  | k + 1, st, h => by
    rw [rowTo] at h
    obtain ⟨st1, h1, h2⟩ := Option.bind_eq_some_iff.1 h
    exact Nat.le_trans (rowTo_len h1) (addQ_len h2)
theorem rowTo_same {f g : Nat} {s : Nat → α} {todo : List α} : ∀ {k : Nat} {st : List α × List Nat}, rowTo f s todo k = some st → st.1.length ≤ g → rowTo g s todo k = some st
  | 0, st, h, _ => h
  | k + 1, st, h, hg => by
    rw [rowTo] at h ⊢
    obtain ⟨st1, h1, h2⟩ := Option.bind_eq_some_iff.1 h
    rw [rowTo_same h1 (Nat.le_trans (addQ_len h2) hg)]
    exact addQ_same h2 hg
theorem stStep_len {f : Nat} {s : α → Nat → α} {K n : Nat} {st st' : List α × List (List Nat)} (h : stStep f s K n st = some st') : st.1.length ≤ st'.1.length := by
  unfold stStep at h
  split at h
  · cases h; exact Nat.le_refl _
  · obtain ⟨r, h1, h2⟩ := Option.map_eq_some_iff.1 h
    cases h2
    exact rowTo_len h1
theorem stStep_same {f g : Nat} {s : α → Nat → α} {K n : Nat} {st st' : List α × List (List Nat)} (h : stStep f s K n st = some st') (hg : st'.1.length ≤ g) : stStep g s K n st = some st' := by
  unfold stStep at h ⊢
  split at h
  · exact h
  · obtain ⟨r, h1, h2⟩ := Option.map_eq_some_iff.1 h
    cases h2
    rw [rowTo_same h1 hg]
    rfl
theorem stTo_same {f g : Nat} {s : α → Nat → α} {K : Nat} {p0 : α} : ∀ {n : Nat} {st : List α × List (List Nat)}, stTo f s K p0 n = some st → st.1.length ≤ g → stTo g s K p0 n = some st
  | 0, st, h, _ => h
  | n + 1, st, h, hg => by
    rw [stTo] at h ⊢
    obtain ⟨st1, h1, h2⟩ := Option.bind_eq_some_iff.1 h
    rw [stTo_same h1 (Nat.le_trans (stStep_len h2) hg)]
    exact stStep_same h2 hg
end

theorem ofSt_in {ps : List PT} {f : Nat} {st : List (List (List Int)) × List (List Nat)} (h : ofSt ps f = some st) : 1 ≤ f ∧ st.1.length ≤ f ∧ 1 ≤ st.1.length := by
  unfold ofSt at h
  split at h
  · cases h
  · have hf : 1 ≤ f := by omega
    have I := stTo_ok hf (row0_in ps) (fun _ _ hr _ => stepR_in hr _) f h
    exact ⟨hf, I.le, by rcases e : st.1 with _ | ⟨x, l⟩
                        · have := I.head; rw [e] at this; cases this
                        · simp⟩
theorem ofSt_same {ps : List PT} {f g : Nat} {st : List (List (List Int)) × List (List Nat)} (h : ofSt ps f = some st) (hg : st.1.length ≤ g) : ofSt ps g = some st := by
  obtain ⟨hf, hl, h1⟩ := ofSt_in h
  unfold ofSt at h ⊢
  rw [if_neg (by omega)] at h ⊢
  have h2 := stTo_same h hg
  by_cases e : f ≤ g
  · exact stTo_end h2 hl g e
  · rcases h3 : stTo g (fun row k => stepR ps row (lb (partsOf (allSets ps)) k)) (partsOf (allSets ps)).length (row0 ps) g with _ | st2
    · rw [stTo_none h3 f (by omega)] at h2
      cases h2
    · have I := stTo_ok (by omega) (row0_in ps) (fun _ _ hr _ => stepR_in hr _) g h3
      rw [stTo_end h3 I.le f (by omega)] at h2
      exact h2
theorem ofSt_less {ps : List PT} {f g : Nat} {st : List (List (List Int)) × List (List Nat)} (h : ofSt ps f = some st) (hg : g < st.1.length) : ofSt ps g = none := by
  rcases h3 : ofSt ps g with _ | st2
  · rfl
  · obtain ⟨_, hl, _⟩ := ofSt_in h
    obtain ⟨_, hl2, _⟩ := ofSt_in h3
    have := ofSt_same h3 (g := f) (by omega)
    rw [h] at this
    cases this
    omega
theorem ofE_doneF {ps : List PT} {f : Int} (h : (ofE ps f).2 = 0) : ¬ 64 < ps.length ∧ ps.all PT.ok = true ∧ 0 ≤ f ∧ f ≤ 4000 ∧ ∃ st, ofSt ps f.toNat = some st ∧ (ofE ps f).1 = ⟨partsOf (allSets ps), st.2.map fun r => r.map Int.ofNat, st.1.map (marksR ps)⟩ := by
  unfold ofE at h ⊢
  split at h
  · exact absurd h (by decide)
  · rename_i h1
    split at h
    · exact absurd h (by decide)
    · rename_i h2
      split at h
      · exact absurd h (by decide)
      · rename_i h3
        rw [if_neg h1, if_neg h2, if_neg h3]
        rcases e : ofSt ps f.toNat with _ | st
        · rw [e] at h
          have h' : (181 : Int) = 0 := h
          omega
        · exact ⟨h1, by simpa using h2, by omega, by omega, st, rfl, rfl⟩
/-- Any fuel that holds the states gives the same automaton; with less there is none. -/
theorem ofE_fuelF {ps : List PT} {f g : Int} (h : (ofE ps f).2 = 0) (h0 : 0 ≤ g) (h1 : g ≤ 4000) : ofE ps g = if ((ofE ps f).1.mr.length : Int) ≤ g then ((ofE ps f).1, 0) else (⟨[], [], []⟩, 181) := by
  obtain ⟨a1, a2, a3, a4, st, a5, a6⟩ := ofE_doneF h
  rw [a6]
  have e : (st.1.map (marksR ps)).length = st.1.length := by simp
  unfold ofE
  rw [if_neg a1, if_neg (by rw [a2]; decide), if_neg (by omega)]
  show _ = if ((st.1.map (marksR ps)).length : Int) ≤ g then _ else _
  rw [e]
  by_cases hc : (st.1.length : Int) ≤ g
  · rw [if_pos hc, ofSt_same a5 (g := g.toNat) (by omega)]
  · rw [if_neg hc, ofSt_less a5 (g := g.toNat) (by omega)]
end Go.Proofs.YthdnlndpmmiboaaGreatDoor
namespace Go.Proofs.YthdnlndpmmiboaaGreatDoor
open Go Go.RowKit Go.Shelf Go.Maps

/-- The fuel that the law hands the reference. -/
def mostF (f : Int) : Int := if 250 < f ∧ f ≤ 4000 then 250 else f
theorem ofE_most {ps : List PT} {f : Int} (h : (ofE ps (mostF f)).2 ≠ 181 ∨ mostF f = f) : ofE ps f = ofE ps (mostF f) := by
  unfold mostF at h ⊢
  by_cases hc : 250 < f ∧ f ≤ 4000
  · rw [if_pos hc] at h ⊢
    have h' : (ofE ps 250).2 ≠ 181 := by
      rcases h with h | h
      · exact h
      · omega
    by_cases h0 : (ofE ps 250).2 = 0
    · obtain ⟨a1, a2, a3, a4, st, a5, a6⟩ := ofE_doneF h0
      have h1 := (ofSt_in a5).2.1
      rw [ofE_fuelF h0 (by omega) (by omega), if_pos]
      · exact Prod.ext rfl h0.symm
      · rw [a6]
        show ((st.1.map (marksR ps)).length : Int) ≤ f
        rw [List.length_map]
        have : (250 : Int).toNat = 250 := rfl
        omega
    · unfold ofE at h' h0 ⊢
      by_cases e1 : 64 < ps.length
      · rw [if_pos e1, if_pos e1]
      · rw [if_neg e1] at h' h0 ⊢
        rw [if_neg e1]
        by_cases e2 : (ps.all PT.ok) = false
        · rw [if_pos e2, if_pos e2]
        · rw [if_neg e2, if_neg (by omega)] at h' h0
          cases e : ofSt ps (250 : Int).toNat with
          | none => rw [e] at h'; exact absurd rfl h'
          | some st => rw [e] at h0; exact absurd rfl h0
  · rw [if_neg hc]
theorem risB_ge8 {l : List Int} (h : risB l = true) : ∀ k, k < l.length → (k : Int) ≤ l.getD k 0 ∧ l.getD k 0 ≤ 255 := by
  unfold risB at h
  rw [List.all_eq_true] at h
  intro k
  induction k with
  | zero =>
    intro hk
    have := h 0 (by simpa using hk)
    unfold risAt prevOf at this
    simp at this
    refine ⟨?_, ?_⟩ <;> simp [List.getD_eq_getElem?_getD] at * <;> omega
  | succ k ih =>
    intro hk
    have h1 := ih (by omega)
    have := h (k + 1) (by simpa using hk)
    unfold risAt prevOf at this
    rw [if_neg (by omega), Bool.and_eq_true, decide_eq_true_eq, decide_eq_true_eq, Nat.add_sub_cancel] at this
    push_cast
    omega
theorem Rt.sm8 {d : DF} (h : Rt d) : Sm d := by
  have hn := h.le
  have hk := h.clle
  have idx : ∀ (ll : List (List Int)) (l : List Int), l ∈ ll → ∃ i, i < ll.length ∧ ll.getD i [] = l := fun ll l hl => by
    obtain ⟨i, hi⟩ := List.getElem?_of_mem hl
    exact ⟨i, (List.getElem?_eq_some_iff.1 hi).1, getD_some hi⟩
  refine ⟨by omega, by omega, by have := h.mr; omega, fun l hl => ?_, fun l hl => ?_⟩
  · obtain ⟨i, h1, h2⟩ := idx _ _ hl
    have := h.len i h1
    rw [h2] at this
    omega
  · obtain ⟨i, h1, h2⟩ := idx _ _ hl
    have hr := h.ris i (by have := h.mr; omega)
    rw [h2] at hr
    by_cases h0 : l.length = 0
    · omega
    · have := risB_ge8 hr (l.length - 1) (by omega)
      omega
theorem ofE_no {ps : List PT} {f : Int} (h : (ofE ps f).2 ≠ 0) : (ofE ps f).1 = ⟨[], [], []⟩ := by
  unfold ofE at h ⊢
  split
  · rfl
  · rename_i h1
    rw [if_neg h1] at h
    split
    · rfl
    · rename_i h2
      rw [if_neg h2] at h
      split
      · rfl
      · rename_i h3
        rw [if_neg h3] at h
        split
        · rfl
        · rename_i st hst
          rw [hst] at h
          exact absurd rfl h
/-- What is made is small. -/
theorem ofE_sm (ps : List PT) (f : Int) : Sm (ofE ps f).1 := by
  by_cases h : (ofE ps f).2 = 0
  · exact (ofE_right (Prod.ext rfl h : ofE ps f = ((ofE ps f).1, 0))).sm8
  · rw [ofE_no h]
    exact ⟨by decide, by decide, by decide, fun _ h => (by cases h), fun _ h => (by cases h)⟩
end Go.Proofs.YthdnlndpmmiboaaGreatDoor
namespace Go.Proofs.YthdnlndpmmiboaaGreatDoor
open Go Go.RowKit Go.Shelf Go.Maps

/-- The seven cells of a part. -/
def cells7 (v0 v1 v2 v3 : Value) (x : PT) : List Value := [v0, v1, v2, v3, .bool x.nf.emp, .bool x.beg, .int .i64 x.mark]
/-- So many parts stand in the reference's row, so many are copied. -/
structure MkI (w W : World) (ps : List PT) (kp ko : Nat) (pv ov : Value) (xs cs : List Value) : Prop where
  prow : W.ownsRow w.heap.size 45 7 pv kp xs
  prt : ∀ (i : Nat) (x : PT), i < kp → ps[i]? = some x → PtIs (OwnRn w.heap.size) W x fun j => xs[i * 7 + j]?
  orow : W.ownsRow w.heap.size 37 7 ov ps.length cs
  own : ∀ (i : Nat) (x : PT), i < ko → ps[i]? = some x → PtIs (OwnNf w.heap.size) W x fun j => cs[i * 7 + j]?
  rest : ∀ (i : Nat) (x : PT), ps[i]? = some x → cs[i * 7 + 5]? = some (.bool x.beg) ∧ cs[i * 7 + 6]? = some (.int .i64 x.mark)
  below : Below w.heap.size w W
theorem MkI.start {w W : World} {ps : List PT} {ov : Value} {cs : List Value} (ho : W.ownsRow w.heap.size 37 7 ov ps.length cs) (hr : ∀ (i : Nat) (x : PT), ps[i]? = some x → cs[i * 7 + 5]? = some (.bool x.beg) ∧ cs[i * 7 + 6]? = some (.int .i64 x.mark)) (hb : Below w.heap.size w W) : MkI w W ps 0 0 (.slice none 0 0) ov [] cs :=
  ⟨World.ownsRow_nil _ _ _ _, fun _ _ h => absurd h (Nat.not_lt_zero _), ho, fun _ _ h => absurd h (Nat.not_lt_zero _), hr, hb⟩
theorem MkI.next {w W W' : World} {ps : List PT} {kp ko : Nat} {pv ov : Value} {xs cs : List Value} (h : MkI w W ps kp ko pv ov xs cs) (hk : Below W.heap.size W W') : MkI w W' ps kp ko pv ov xs cs :=
  ⟨ownsRow_below h.prow hk, fun i x hi hx => (h.prt i x hi hx).mono (fun _ hv => hv.below hk) fun _ _ _ hu => hu, ownsRow_below h.orow hk, fun i x hi hx => (h.own i x hi hx).mono (fun _ hv => hv.below hk) fun _ _ _ hu => hu, h.rest, h.below.trans (hk.mono h.below.size)⟩
theorem append7 {xs : List Value} {k i j : Nat} (hl : xs.length = k * 7) (c : List Value) (hj : j < 7) (hi : i < k) : (xs ++ c)[i * 7 + j]? = xs[i * 7 + j]? := List.getElem?_append_left (by omega)
theorem append7_at {xs : List Value} {k j : Nat} (hl : xs.length = k * 7) (c : List Value) : (xs ++ c)[k * 7 + j]? = c[j]? := by
  rw [List.getElem?_append_right (by omega), hl]; congr 1; omega
/-- One more part of the reference. -/
theorem MkI.more {w W W' : World} {ps : List PT} {k ko : Nat} {pv pv' ov v0 v1 v2 v3 : Value} {xs cs : List Value} {x : PT} (h : MkI w W ps k ko pv ov xs cs) (hx : ps[k]? = some x)
    (hn : OwnRn w.heap.size W (.agg #[v0, v1, v2, v3, .bool x.nf.emp]) x.nf) (hg : W.grownBy W' pv.ownBlock) (ho : W'.ownsRow w.heap.size 45 7 pv' (k + 1) (xs ++ cells7 v0 v1 v2 v3 x)) : MkI w W' ps (k + 1) ko pv' ov (xs ++ cells7 v0 v1 v2 v3 x) cs := by
  have hkp : Keeps (fun y => y < W.heap.size ∧ pv.ownBlock ≠ some y) W W' := Keeps.of_grown hg fun y hy => ⟨hy.1, fun e => hy.2 e.symm⟩
  have hl := h.prow.1
  refine ⟨ho, fun i y hi hy => ?_, row_far (by decide) h.orow h.prow hkp, fun i y hi hy => (h.own i y hi hy).mono (fun _ hv => hv.far h.prow (by decide) (by decide) (by decide) hkp) fun _ _ _ hu => hu, h.rest, ?_⟩
  · by_cases e : i < k
    · exact (h.prt i y e hy).mono (fun _ hv => hv.far h.prow (by decide) (by decide) (by decide) hkp) fun j hj u hu => (append7 hl _ hj e).trans hu
    · obtain rfl : i = k := by omega
      rw [hx] at hy
      cases hy
      refine ⟨v0, v1, v2, v3, hn.far h.prow (by decide) (by decide) (by decide) hkp, ?_, ?_, ?_, ?_, ?_, ?_, ?_⟩ <;> exact append7_at hl _
  · exact h.below.trans ((Below.refl _ _).grown hg h.below.size (fun c e => (h.prow.lt c e).1))
/-- The cells of a row where a part's first five have been written. -/
def put5 (cs : List Value) (k : Nat) (v0 v1 v2 v3 v4 : Value) : List Value := ((((cs.set (k * 7) v0).set (k * 7 + 1) v1).set (k * 7 + 2) v2).set (k * 7 + 3) v3).set (k * 7 + 4) v4
def putPW (W : World) (g k : Nat) (v0 v1 v2 v3 v4 : Value) : World := ((((W.setCell ⟨g, k * 7, none⟩ v0).setCell ⟨g, k * 7 + 1, none⟩ v1).setCell ⟨g, k * 7 + 2, none⟩ v2).setCell ⟨g, k * 7 + 3, none⟩ v3).setCell ⟨g, k * 7 + 4, none⟩ v4
theorem putPW_keeps (W : World) (g k : Nat) (v0 v1 v2 v3 v4 : Value) : Keeps (· ≠ g) W (putPW W g k v0 v1 v2 v3 v4) :=
  (((((Keeps.refl _ W).setCell (p := ⟨g, k * 7, none⟩) (fun h => h rfl) _).setCell (p := ⟨g, k * 7 + 1, none⟩) (fun h => h rfl) _).setCell (p := ⟨g, k * 7 + 2, none⟩) (fun h => h rfl) _).setCell (p := ⟨g, k * 7 + 3, none⟩) (fun h => h rfl) _).setCell (p := ⟨g, k * 7 + 4, none⟩) (fun h => h rfl) _
theorem put5_other {cs : List Value} {k i j : Nat} {v0 v1 v2 v3 v4 : Value} (h : i * 7 + j < k * 7 ∨ k * 7 + 4 < i * 7 + j) : (put5 cs k v0 v1 v2 v3 v4)[i * 7 + j]? = cs[i * 7 + j]? := by
  unfold put5
  rw [List.getElem?_set_ne (by omega), List.getElem?_set_ne (by omega), List.getElem?_set_ne (by omega), List.getElem?_set_ne (by omega), List.getElem?_set_ne (by omega)]
/-- One more part is copied. -/
theorem MkI.put {w W : World} {ps : List PT} {kp k g n cap : Nat} {pv v0 v1 v2 v3 : Value} {xs cs : List Value} {x : PT} (h : MkI w W ps kp k pv (.slice (some ⟨g, 0, none⟩) n cap) xs cs) (hn : n = ps.length) (hx : ps[k]? = some x)
    (ho : OwnNf w.heap.size W (.agg #[v0, v1, v2, v3, .bool x.nf.emp]) x.nf) : MkI w (putPW W g k v0 v1 v2 v3 (.bool x.nf.emp)) ps kp (k + 1) pv (.slice (some ⟨g, 0, none⟩) n cap) xs (put5 cs k v0 v1 v2 v3 (.bool x.nf.emp)) := by
  have hk := (List.getElem?_eq_some_iff.1 hx).1
  subst hn
  have hl := h.orow.1
  have hrow : (putPW W g k v0 v1 v2 v3 (.bool x.nf.emp)).ownsRow w.heap.size 37 7 (.slice (some ⟨g, 0, none⟩) ps.length cap) ps.length (put5 cs k v0 v1 v2 v3 (.bool x.nf.emp)) :=
    (((((h.orow.stored (k * 7) v0).1.stored (k * 7 + 1) v1).1.stored (k * 7 + 2) v2).1.stored (k * 7 + 3) v3).1.stored (k * 7 + 4) _).1
  have hkp : Keeps (fun y => y < W.heap.size ∧ (Value.slice (some ⟨g, 0, none⟩) ps.length cap).ownBlock ≠ some y) W (putPW W g k v0 v1 v2 v3 (.bool x.nf.emp)) := (putPW_keeps _ _ _ _ _ _ _ _).mono fun y hy e => hy.2 (by rw [e]; rfl)
  refine ⟨row_far (by decide) h.prow h.orow hkp, fun i y hi hy => (h.prt i y hi hy).mono (fun _ hv => hv.far h.orow (by decide) (by decide) (by decide) hkp) fun _ _ _ hu => hu, hrow, fun i y hi hy => ?_, fun i y hy => ?_, h.below.trans ((putPW_keeps _ _ _ _ _ _ _ _).mono fun y (hy : y < w.heap.size) e => ?_ : Keeps (· < w.heap.size) _ _).below⟩
  · by_cases e : i < k
    · exact (h.own i y e hy).mono (fun _ hv => hv.far h.orow (by decide) (by decide) (by decide) hkp) fun j hj u hu => (put5_other (.inl (by omega))).trans hu
    · obtain rfl : i = k := by omega
      rw [hx] at hy
      cases hy
      obtain ⟨r5, r6⟩ := h.rest i x hx
      refine ⟨v0, v1, v2, v3, ho.far h.orow (by decide) (by decide) (by decide) hkp, ?_, ?_, ?_, ?_, ?_, (put5_other (.inr (by omega))).trans r5, (put5_other (.inr (by omega))).trans r6⟩
      · show (put5 cs i v0 v1 v2 v3 _)[i * 7 + 0]? = _
        unfold put5
        rw [List.getElem?_set_ne (by omega), List.getElem?_set_ne (by omega), List.getElem?_set_ne (by omega), List.getElem?_set_ne (by omega), Nat.add_zero, List.getElem?_set_self (by omega)]
      · show (put5 cs i v0 v1 v2 v3 _)[i * 7 + 1]? = _
        unfold put5
        rw [List.getElem?_set_ne (by omega), List.getElem?_set_ne (by omega), List.getElem?_set_ne (by omega), List.getElem?_set_self (by simp; omega)]
      · show (put5 cs i v0 v1 v2 v3 _)[i * 7 + 2]? = _
        unfold put5
        rw [List.getElem?_set_ne (by omega), List.getElem?_set_ne (by omega), List.getElem?_set_self (by simp; omega)]
      · show (put5 cs i v0 v1 v2 v3 _)[i * 7 + 3]? = _
        unfold put5
        rw [List.getElem?_set_ne (by omega), List.getElem?_set_self (by simp; omega)]
      · show (put5 cs i v0 v1 v2 v3 _)[i * 7 + 4]? = _
        unfold put5
        rw [List.getElem?_set_self (by simp; omega)]
  · obtain ⟨r5, r6⟩ := h.rest i y hy
    have hik : i < k ∨ i = k ∨ k < i := by omega
    exact ⟨(put5_other (by omega)).trans r5, (put5_other (by omega)).trans r6⟩
  · have := (h.orow.lt g rfl).1; omega
theorem MkI.rps {w W : World} {ps : List PT} {ko : Nat} {pv ov : Value} {xs cs : List Value} (h : MkI w W ps ps.length ko pv ov xs cs) : IsRps W pv ps :=
  ownsRow_rps h.prow fun i x hx => (h.prt i x (List.getElem?_eq_some_iff.1 hx).1 hx).mono (fun _ hv => hv.rn) fun _ _ _ hu => hu
theorem MkI.pts {w W : World} {ps : List PT} {kp : Nat} {pv ov : Value} {xs cs : List Value} (h : MkI w W ps kp ps.length pv ov xs cs) : IsPts W ov ps :=
  ownsRow_pts h.orow fun i x hx => (h.own i x (List.getElem?_eq_some_iff.1 hx).1 hx).mono (fun _ hv => hv.nf) fun _ _ _ hu => hu
theorem OwnRn.form {base : Nat} {w : World} {v : Value} {a : NF} (h : OwnRn base w v a) : ∃ a0 n0 c0 a1 n1 c1 a2 n2 c2 a3 n3 c3, v = .agg #[.slice a0 n0 c0, .slice a1 n1 c1, .slice a2 n2 c2, .slice a3 n3 c3, .bool a.emp] := by
  obtain ⟨v0, v1, v2, v3, rfl, h0, h1, h2, h3⟩ := h
  obtain ⟨a0, c0, rfl⟩ := ownsRow_form h0
  obtain ⟨a1, c1, rfl⟩ := h1.form
  obtain ⟨a2, c2, rfl⟩ := ownsRow_form h2
  obtain ⟨a3, c3, rfl⟩ := ownsRow_form h3
  exact ⟨_, _, _, _, _, _, _, _, _, _, _, _, rfl⟩
theorem OwnNf.form {base : Nat} {w : World} {v : Value} {a : NF} (h : OwnNf base w v a) : ∃ a0 n0 c0 a1 n1 c1 a2 n2 c2 a3 n3 c3, v = .agg #[.slice a0 n0 c0, .slice a1 n1 c1, .slice a2 n2 c2, .slice a3 n3 c3, .bool a.emp] := by
  obtain ⟨v0, v1, v2, v3, rfl, h0, h1, h2, h3⟩ := h
  obtain ⟨a0, c0, rfl⟩ := ownsRow_form h0
  obtain ⟨a1, c1, rfl⟩ := h1.form
  obtain ⟨a2, c2, rfl⟩ := ownsRow_form h2
  obtain ⟨a3, c3, rfl⟩ := ownsRow_form h3
  exact ⟨_, _, _, _, _, _, _, _, _, _, _, _, rfl⟩
end Go.Proofs.YthdnlndpmmiboaaGreatDoor
