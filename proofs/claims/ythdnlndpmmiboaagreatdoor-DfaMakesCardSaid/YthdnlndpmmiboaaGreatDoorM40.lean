/-
  dfa.Of: sets as a source of an append; plain facts.
-/
import Derived.Test.YthdnlndpmmiboaaGreatDoorM39
namespace Go.Proofs.YthdnlndpmmiboaaGreatDoor
open Go Go.RowKit Go.Shelf Go.Maps

theorem IsSets.src {w : World} {v : Value} {l : List BS} (h : IsSets w v l) : SrcOf w v l.length (flatS l) := by
  rcases h with ⟨rfl, rfl⟩ | ⟨b, off, cap, rfl, _, hc⟩
  · exact .inl ⟨rfl, rfl, rfl⟩
  · refine .inr ⟨⟨b, off, none⟩, cap, rfl, fun j u hj => ?_⟩
    have hjl : j < l.length * 4 := by rw [← flatS_length]; exact (List.getElem?_eq_some_iff.1 hj).1
    have h1 : l[j / 4]? = some (l[j / 4]'(by omega)) := List.getElem?_eq_getElem (by omega)
    have h2 := flatS_get l h1 (j := j % 4) (by omega)
    rw [show j / 4 * 4 + j % 4 = j by omega, hj] at h2
    rw [Addr.add_mid, show off + j = off + j / 4 * 4 + j % 4 by omega, hc _ _ h1 _ (by omega), ← h2]
theorem allSets_take {ps : List PT} {k : Nat} {x : PT} (h : ps[k]? = some x) : allSets (ps.take (k + 1)) = allSets (ps.take k) ++ x.nf.sets := by
  unfold allSets
  rw [List.take_add_one, h]
  simp
theorem PT.ok_iff (x : PT) : x.ok = true ↔ x.nf.right = true ∧ 0 ≤ x.mark ∧ x.mark ≤ 255 := by
  unfold PT.ok
  simp [and_assoc]
theorem ofE_bad {ps : List PT} {f : Int} (h : ps.length ≤ 64) {k : Nat} {x : PT} (hx : ps[k]? = some x) (hb : ¬ x.ok = true) : ofE ps f = (⟨[], [], []⟩, 180) := by
  unfold ofE
  rw [if_neg (by omega), if_pos]
  rw [List.all_eq_false]
  exact ⟨x, List.mem_of_getElem? hx, hb⟩
theorem ofE_many {ps : List PT} {f : Int} (h : 64 < ps.length) : ofE ps f = (⟨[], [], []⟩, 5) := by unfold ofE; rw [if_pos h]
theorem all_ok {ps : List PT} (h : ∀ (k : Nat) (x : PT), ps[k]? = some x → x.ok = true) : ps.all PT.ok = true := List.all_eq_true.2 fun x hx => by
  obtain ⟨i, hi⟩ := List.getElem?_of_mem hx
  exact h i x hi
theorem ofE_fuel {ps : List PT} {f : Int} (h : ps.length ≤ 64) (ho : ps.all PT.ok = true) (hf : f < 0 ∨ 4000 < f) : ofE ps f = (⟨[], [], []⟩, 2) := by
  unfold ofE
  rw [if_neg (by omega), ho, if_neg (by decide), if_pos hf]
theorem rowTo_congr {α : Type} [DecidableEq α] {fuel : Nat} {g g' : Nat → α} {todo : List α} : ∀ {k : Nat}, (∀ j, j < k → g j = g' j) → rowTo fuel g todo k = rowTo fuel g' todo k
  | 0, _ => rfl
  | k + 1, h => by rw [rowTo, rowTo, rowTo_congr fun j hj => h j (by omega), h k (by omega)]
theorem stTo_congr {α : Type} [DecidableEq α] {fuel K : Nat} {f f' : α → Nat → α} {p0 : α} (h : ∀ p j, j < K → f p j = f' p j) : ∀ n, stTo fuel f K p0 n = stTo fuel f' K p0 n
  | 0 => rfl
  | n + 1 => by
    rw [stTo, stTo, stTo_congr h n]
    congr 1
    funext st
    unfold stStep
    cases st.1[n]? with
    | none => rfl
    | some p => simp only [rowTo_congr (h p)]
theorem mkSt_of {ps : List PT} {f : Nat} {ls : List Nat} (hl : ls.length = (partsOf (allSets ps)).length) (h : ∀ k, k < ls.length → ls.getD k 0 = lb (partsOf (allSets ps)) k) : mkSt ps ls f = ofSt ps f := by
  unfold mkSt ofSt
  rw [hl]
  split
  · rfl
  · refine stTo_congr (fun p j hj => ?_) f
    unfold mkG
    rw [h j (by omega)]
theorem ofE_gone {ps : List PT} {f : Nat} (h : ps.length ≤ 64) (ho : ps.all PT.ok = true) (hf : f ≤ 4000) (hs : ofSt ps f = none) : ofE ps f = (⟨[], [], []⟩, 181) := by
  unfold ofE
  rw [if_neg (by omega), ho, if_neg (by decide), if_neg (by omega), Int.toNat_natCast, hs]
theorem ofE_done {ps : List PT} {f : Nat} (h : ps.length ≤ 64) (ho : ps.all PT.ok = true) (hf : f ≤ 4000) {st : List (List (List Int)) × List (List Nat)} (hs : ofSt ps f = some st) : ofE ps f = (⟨partsOf (allSets ps), st.2.map fun r => r.map Int.ofNat, st.1.map (marksR ps)⟩, 0) := by
  unfold ofE
  rw [if_neg (by omega), ho, if_neg (by decide), if_neg (by omega), Int.toNat_natCast, hs]
end Go.Proofs.YthdnlndpmmiboaaGreatDoor
