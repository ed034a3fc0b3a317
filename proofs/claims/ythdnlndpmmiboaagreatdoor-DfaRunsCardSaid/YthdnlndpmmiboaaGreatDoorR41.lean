/-
  The law's letter and others.
  The automaton of parts is right.
  Plain facts: the table is the same with any fuel that holds its states; with less there is none.
  The examples of the laws of automata of parts, in plain words.
-/
import Derived.Test.YthdnlndpmmiboaaGreatDoorR08
import Derived.Lib.ConvBytes
import Derived.Test.YthdnlndpmmiboaaGreatDoorR21
import Derived.Test.YthdnlndpmmiboaaGreatDoorR32
namespace Go.Proofs.YthdnlndpmmiboaaGreatDoor
open Go Go.RowKit Go.Shelf Go.Maps
attribute [local go_sem] encS

theorem bytes_below8 (W : World) (e : TypeId) (s : ByteArray) : Below W.heap.size W (Lib.bytesWorld W e s) := by
  refine ⟨?_, ?_, ?_, by rw [Lib.bytesWorld_size]; omega, fun k hk => Lib.bytesWorld_at_old W e s k hk⟩ <;> (unfold Lib.bytesWorld World.freeze; split <;> rfl)
set_option maxRecDepth 100000 in
set_option maxHeartbeats 4000000 in
theorem one18_any (s : ByteArray) (l : List Nat) (hsl : s.data.toList.map (·.toNat) = l) (hn : l.length ≤ 1000000) (w : World) :
    Calls Tryz.prog 22 #[.string s] w fun e w' => e = .returned (.agg (encS (bsOf fun c => l.contains c))) ∧ Below w.heap.size w w' := by
  obtain ⟨u, hu⟩ : ∃ u, u = bsOf fun c => l.contains c := ⟨_, rfl⟩
  rw [← hu]
  have HU := Lib.hid hu
  have hcv : ∀ W : World, (convert 9 30 (.string s)).run Tryz.prog W = .ok (.slice (some ⟨W.heap.size, 0, none⟩) s.size (grownCap W s.size 0 5)) (Lib.bytesWorld W 5 s) := fun W => Lib.run_convert_string_bytes W 9 30 5 s Tryz.underlying9 Tryz.underlying30 Tryz.underlying5
  have hsz : s.size = l.length := by rw [← hsl]; simp
  have HCE : Hid (∀ (W : World) (i x : Nat), l[i]? = some x → (Lib.bytesWorld W 5 s).cell? ⟨W.heap.size, i, none⟩ = some (.int .u8 x)) := Lib.hid fun W i x h => by
    have hi : i < s.size := by rw [hsz]; exact (List.getElem?_eq_some_iff.1 h).1
    rw [Lib.bytesWorld_cell W 5 s i hi]
    rw [← hsl, List.getElem?_map] at h
    cases hq : s.data.toList[i]? with
    | none => rw [hq] at h; cases h
    | some b => rw [hq] at h; cases h; rw [List.getD_eq_getElem?_getD, hq]; rfl
  have HL : Hid (∀ c ∈ l, c < 256) := Lib.hid fun c hc => by
    rw [← hsl] at hc
    obtain ⟨b, _, rfl⟩ := List.mem_map.1 hc
    exact b.toNat_lt
  rw [hsz] at hcv
  have HBB : Hid (∀ W : World, Below W.heap.size W (Lib.bytesWorld W 5 s)) := Lib.hid fun W => bytes_below8 W _ s
  have HBS : Hid (∀ W : World, (Lib.bytesWorld W 5 s).heap.size = W.heap.size + 1) := Lib.hid fun W => Lib.bytesWorld_size W _ s
  clear hu hsl hsz
  go_enter Tryz.func22, Tryz.ntmps22
  go_wp2
  obtain ⟨W2, hW2⟩ : ∃ W, W = (w.alloc (.cells #[.int .u64 0, .int .u64 0, .int .u64 0, .int .u64 0] 65)).alloc (.cells #[.int .u64 0, .int .u64 0, .int .u64 0, .int .u64 0] 65) := ⟨_, rfl⟩
  have hs2 : W2.heap.size = w.heap.size + 2 := by rw [hW2]; simp
  have B2 : Hid (Blk W2 (w.heap.size + 1) (encS 0) 65) := Lib.hid (by rw [hW2, encS_zero]; exact (Blk.new _ _ _).at (by simp))
  have R2 : Hid (Blk W2 w.heap.size #[.int .u64 0, .int .u64 0, .int .u64 0, .int .u64 0] 65) := Lib.hid (by rw [hW2]; exact (Blk.new _ _ _).alloc _)
  have X2 : Hid (Below w.heap.size w W2) := Lib.hid (by rw [hW2]; exact (((Ext.refl w).alloc _).alloc _).below)
  have HW2 := Lib.hid hW2
  clear hW2
  go_loopw [9] (fun i wr => ∃ (k : Nat) (s' : BS), k ≤ l.length ∧ i = .int .i64 k ∧ (∀ c, c < 256 → s'.getLsbD c = (l.take k).contains c) ∧ Blk wr (w.heap.size + 1) (encS s') 65 ∧ Blk wr w.heap.size #[.int .u64 0, .int .u64 0, .int .u64 0, .int .u64 0] 65 ∧ (∀ i x : Nat, l[i]? = some x → wr.cell? ⟨w.heap.size + 1 + 1, i, none⟩ = some (.int .u8 x)) ∧ Below w.heap.size w wr) (fun i _ => l.length - (intOf i).toNat)
  case atStart =>
    rw [← HW2.out]
    have hb := HBB.out W2
    refine ⟨0, 0, by omega, rfl, fun c hc => by simp, B2.out.below hb (by omega), R2.out.below hb (by omega), fun i x h => ?_, X2.out.trans (hb.mono X2.out.size)⟩
    have := HCE.out W2 i x h
    rw [hs2] at this
    exact this
  case round =>
    obtain ⟨k, s', hk, rfl, hs, hB, hR, hce, hx⟩ := hrel
    have HS := Lib.hid hs
    have HCR := Lib.hid hce
    clear hs hce
    by_cases hlt : k < l.length
    · obtain ⟨c, hcl⟩ : ∃ c, l[k]? = some c := ⟨l[k], List.getElem?_eq_getElem hlt⟩
      have hc256 : c < 256 := HL.out c (List.mem_of_getElem? hcl)
      have hcc : wr.cell? ⟨w.heap.size + 1 + 1, k, none⟩ = some (.int .u8 c) := HCR.out k c hcl
      have hw : (encS s')[c / 64]? = some (.int .u64 (wd s' (c / 64)).toNat) := encS_get s' (by omega)
      have hc1 : wr.cell? ⟨w.heap.size + 1, c / 64, none⟩ = some (.int .u64 (wd s' (c / 64)).toNat) := (hB.cell _).trans hw
      have hf := hB.frozen (c / 64)
      have htk : l.take (k + 1) = l.take k ++ [c] := by rw [List.take_add_one, hcl]; rfl
      have HT := Lib.hid htk
      have HB := Lib.hid hB
      have HR := Lib.hid hR
      have HX := Lib.hid hx
      have HCl := Lib.hid hcl
      have hki : (k : Int) < l.length := by omega
      clear hB hR hx hw htk hcl HBB HBS hcv
      go_wp2
      go_roundw
      case rel =>
        refine ⟨k + 1, withB s' c, by omega, by go_num, fun d hd => ?_, ?_, ?_, fun i x h => ?_, ?_⟩
        · rw [withB_bit s' hc256, HS.out d hd, HT.out, List.contains_eq_any_beq, List.contains_eq_any_beq, List.any_append]
          simp
        · rw [← encS_withB s' hc256]; exact HB.out.set _ _
        · exact HR.out.other (by simp) _
        · rw [cell_far _ _ _ _ (by simp)]; exact HCR.out i x h
        · exact HX.out.trans (((Keeps.refl (· < w.heap.size) _).setCell (p := ⟨w.heap.size + 1, c / 64, none⟩) (fun h => by have h' : w.heap.size + 1 < w.heap.size := h; omega) _).below)
      case measure => simp [intOf]; omega
    · have hus : s' = u := by rw [HU.out]; exact BS.eq_bsOf fun c hc => by rw [HS.out c hc, List.take_of_length_le (by omega)]
      subst hus
      obtain rfl : k = l.length := by omega
      obtain ⟨c0, c1, c2, c3⟩ := hB.set4
      have r0 : wr.cell? ⟨w.heap.size, 0, none⟩ = some (.int .u64 0) := hR.cell 0
      have r1 : wr.cell? ⟨w.heap.size, 1, none⟩ = some (.int .u64 0) := hR.cell 1
      have r2 : wr.cell? ⟨w.heap.size, 2, none⟩ = some (.int .u64 0) := hR.cell 2
      have r3 : wr.cell? ⟨w.heap.size, 3, none⟩ = some (.int .u64 0) := hR.cell 3
      have rf := hR.frozen
      have HX := Lib.hid hx
      clear hB hR hx HBB HBS hcv
      go_wp2
      refine bodyPost_ret (v := .agg (encS s')) ?_ rfl ⟨rfl, ?_⟩
      · simp [results, Tryz.results22, go_sem, r0, r1, r2, r3]
      · refine HX.out.trans (Keeps.below ((((Keeps.refl (· < w.heap.size) _).setCell ?_ _).setCell ?_ _).setCell ?_ _ |>.setCell ?_ _)) <;> (intro h; simp at h)
end Go.Proofs.YthdnlndpmmiboaaGreatDoor
namespace Go.Proofs.YthdnlndpmmiboaaGreatDoor
open Go Go.RowKit Go.Shelf Go.Maps

theorem ofSt_ok {ps : List PT} {fuel : Nat} {st : List (List (List Int)) × List (List Nat)} (h : ofSt ps fuel = some st) : StOk fuel (partsOf (allSets ps)).length (RowIn ps) (row0 ps) fuel st := by
  unfold ofSt at h
  split at h
  · cases h
  · rename_i hf
    exact stTo_ok (by omega) (row0_in ps) (fun row k hr _ => stepR_in hr _) fuel h
theorem of_right {ps : List PT} {fuel : Nat} (hf2 : fuel ≤ 4000) {st : List (List (List Int)) × List (List Nat)} (h : ofSt ps fuel = some st) : Rt ⟨partsOf (allSets ps), st.2.map fun r => r.map Int.ofNat, st.1.map (marksR ps)⟩ := by
  have I := ofSt_ok h
  have hlen : st.2.length = st.1.length := by have := I.len; have := I.le; omega
  have hrow : ∀ s, s < st.2.length → ((st.2.map fun r => r.map Int.ofNat).getD s []) = (st.2.getD s []).map Int.ofNat ∧ (st.2.getD s []) ∈ st.2 := fun s hs => by
    have e := some_getD (l := st.2) [] hs
    refine ⟨?_, List.mem_of_getElem? e⟩
    rw [List.getD_eq_getElem?_getD, List.getElem?_map, e]; rfl
  refine ⟨?_, ?_, ?_, partsOf_partsOf _, ?_, ?_, ?_⟩
  · show 1 ≤ (st.2.map fun r => r.map Int.ofNat).length
    have := (List.getElem?_eq_some_iff.1 I.head).1
    simp; omega
  · show (st.2.map fun r => r.map Int.ofNat).length ≤ 4000
    have := I.le
    simp; omega
  · simp [hlen]
  · intro s hs
    rw [List.length_map] at hs
    obtain ⟨e, hm⟩ := hrow s hs
    show ((st.2.map fun r => r.map Int.ofNat).getD s []).length = _
    rw [e, List.length_map]
    exact (I.rows _ hm).1
  · intro s hs t ht
    rw [List.length_map] at hs
    obtain ⟨e, hm⟩ := hrow s hs
    replace ht : t ∈ ((st.2.map fun r => r.map Int.ofNat).getD s []) := ht
    rw [e] at ht
    obtain ⟨q, hq, rfl⟩ := List.mem_map.1 ht
    have h2 := (I.rows _ hm).2 q hq
    show (0 : Int) ≤ (q : Int) ∧ (q : Int) < (((st.2.map fun r => r.map Int.ofNat).length : Nat) : Int)
    rw [List.length_map]
    omega
  · intro s hs
    rw [List.length_map] at hs
    show risB ((st.1.map (marksR ps)).getD s []) = true
    rw [List.getD_eq_getElem?_getD, List.getElem?_map, List.getElem?_eq_getElem (by omega)]
    exact marksR_ris ps _
/-- An automaton that is made is right. -/
theorem ofE_right {ps : List PT} {fuel : Int} {d : DF} (h : ofE ps fuel = (d, 0)) : Rt d := by
  unfold ofE at h
  split at h
  · cases h
  · split at h
    · cases h
    · split at h
      · cases h
      · rename_i hf
        split at h
        · cases h
        · rename_i st hst
          have e : (⟨partsOf (allSets ps), st.2.map fun r => r.map Int.ofNat, st.1.map (marksR ps)⟩ : DF) = d := (Prod.mk.inj h).1
          rw [← e]
          exact of_right (by omega) hst
end Go.Proofs.YthdnlndpmmiboaaGreatDoor
namespace Go.Proofs.YthdnlndpmmiboaaGreatDoor
open Go Go.RowKit Go.Shelf Go.Maps

section
variable {α : Type} [DecidableEq α]
theorem addQ_len {f : Nat} {st st' : List α × List Nat} {q : α} (h : addQ f st q = some st') : st.1.length ≤ st'.1.length := by
  unfold addQ at h
  split at h
  · split at h
    · cases h
    · cases h; simp
  · cases h; exact Nat.le_refl _
theorem addQ_same {f g : Nat} {st st' : List α × List Nat} {q : α} (h : addQ f st q = some st') (hg : st'.1.length ≤ g) : addQ g st q = some st' := by
  unfold addQ at h ⊢
  split at h
  · rename_i e
    rw [if_pos e]
    split at h
    · cases h
    · cases h
      rw [if_neg]
      have : st.1.length + 1 ≤ g := by simpa using hg
      omega
  · rename_i e
    rw [if_neg e]
    exact h
theorem rowTo_len {f : Nat} {s : Nat → α} {todo : List α} : ∀ {k : Nat} {st : List α × List Nat}, rowTo f s todo k = some st → todo.length ≤ st.1.length
  | 0, st, h => by cases h; exact Nat.le_refl _
  | k + 1, st, h => by
    rw [rowTo] at h
    obtain ⟨st1, h1, h2⟩ := Option.bind_eq_some_iff.1 h
    exact Nat.le_trans (rowTo_len h1) (addQ_len h2)
theorem rowTo_same {f g : Nat} {s : Nat → α} {todo : List α} : ∀ {k : Nat} {st : List α × List Nat}, rowTo f s todo k = some st → st.1.length ≤ g → rowTo g s todo k = some st
  | 0, st, h, _ => h
  | k + 1, st, h, hg => by
    rw [rowTo] at h ⊢
    obtain ⟨st1, h1, h2⟩ := Option.bind_eq_some_iff.1 h
    rw [rowTo_same h1 (Nat.le_trans (addQ_len h2) hg)]
    exact addQ_same h2 hg
theorem stStep_len {f : Nat} {s : α → Nat → α} {K n : Nat} {st st' : List α × List (List Nat)} (h : stStep f s K n st = some st') : st.1.length ≤ st'.1.length := by
  unfold stStep at h
  split at h
  · cases h; exact Nat.le_refl _
  · obtain ⟨r, h1, h2⟩ := Option.map_eq_some_iff.1 h
    cases h2
    exact rowTo_len h1
theorem stStep_same {f g : Nat} {s : α → Nat → α} {K n : Nat} {st st' : List α × List (List Nat)} (h : stStep f s K n st = some st') (hg : st'.1.length ≤ g) : stStep g s K n st = some st' := by
  unfold stStep at h ⊢
  split at h
  · exact h
  · obtain ⟨r, h1, h2⟩ := Option.map_eq_some_iff.1 h
    cases h2
    rw [rowTo_same h1 hg]
    rfl
theorem stTo_same {f g : Nat} {s : α → Nat → α} {K : Nat} {p0 : α} : ∀ {n : Nat} {st : List α × List (List Nat)}, stTo f s K p0 n = some st → st.1.length ≤ g → stTo g s K p0 n = some st
  | 0, st, h, _ => h
  | n + 1, st, h, hg => by
    rw [stTo] at h ⊢
    obtain ⟨st1, h1, h2⟩ := Option.bind_eq_some_iff.1 h
    rw [stTo_same h1 (Nat.le_trans (stStep_len h2) hg)]
    exact stStep_same h2 hg
end

theorem ofSt_in {ps : List PT} {f : Nat} {st : List (List (List Int)) × List (List Nat)} (h : ofSt ps f = some st) : 1 ≤ f ∧ st.1.length ≤ f ∧ 1 ≤ st.1.length := by
  unfold ofSt at h
  split at h
  · cases h
  · have hf : 1 ≤ f := by omega
    have I := stTo_ok hf (row0_in ps) (fun _ _ hr _ => stepR_in hr _) f h
    exact ⟨hf, I.le, by rcases e : st.1 with _ | ⟨x, l⟩
                        · have := I.head; rw [e] at this; cases this
                        · simp⟩
theorem ofSt_same {ps : List PT} {f g : Nat} {st : List (List (List Int)) × List (List Nat)} (h : ofSt ps f = some st) (hg : st.1.length ≤ g) : ofSt ps g = some st := by
  obtain ⟨hf, hl, h1⟩ := ofSt_in h
  unfold ofSt at h ⊢
  rw [if_neg (by omega)] at h ⊢
  have h2 := stTo_same h hg
  by_cases e : f ≤ g
  · exact stTo_end h2 hl g e
  · rcases h3 : stTo g (fun row k => stepR ps row (lb (partsOf (allSets ps)) k)) (partsOf (allSets ps)).length (row0 ps) g with _ | st2
    · rw [stTo_none h3 f (by omega)] at h2
      cases h2
    · have I := stTo_ok (by omega) (row0_in ps) (fun _ _ hr _ => stepR_in hr _) g h3
      rw [stTo_end h3 I.le f (by omega)] at h2
      exact h2
theorem ofSt_less {ps : List PT} {f g : Nat} {st : List (List (List Int)) × List (List Nat)} (h : ofSt ps f = some st) (hg : g < st.1.length) : ofSt ps g = none := by
  rcases h3 : ofSt ps g with _ | st2
  · rfl
  · obtain ⟨_, hl, _⟩ := ofSt_in h
    obtain ⟨_, hl2, _⟩ := ofSt_in h3
    have := ofSt_same h3 (g := f) (by omega)
    rw [h] at this
    cases this
    omega
theorem ofE_doneF {ps : List PT} {f : Int} (h : (ofE ps f).2 = 0) : ¬ 64 < ps.length ∧ ps.all PT.ok = true ∧ 0 ≤ f ∧ f ≤ 4000 ∧ ∃ st, ofSt ps f.toNat = some st ∧ (ofE ps f).1 = ⟨partsOf (allSets ps), st.2.map fun r => r.map Int.ofNat, st.1.map (marksR ps)⟩ := by
  unfold ofE at h ⊢
  split at h
  · exact absurd h (by decide)
  · rename_i h1
    split at h
    · exact absurd h (by decide)
    · rename_i h2
      split at h
      · exact absurd h (by decide)
      · rename_i h3
        rw [if_neg h1, if_neg h2, if_neg h3]
        rcases e : ofSt ps f.toNat with _ | st
        · rw [e] at h
          have h' : (181 : Int) = 0 := h
          omega
        · exact ⟨h1, by simpa using h2, by omega, by omega, st, rfl, rfl⟩
/-- Any fuel that holds the states gives the same automaton; with less there is none. -/
theorem ofE_fuelF {ps : List PT} {f g : Int} (h : (ofE ps f).2 = 0) (h0 : 0 ≤ g) (h1 : g ≤ 4000) : ofE ps g = if ((ofE ps f).1.mr.length : Int) ≤ g then ((ofE ps f).1, 0) else (⟨[], [], []⟩, 181) := by
  obtain ⟨a1, a2, a3, a4, st, a5, a6⟩ := ofE_doneF h
  rw [a6]
  have e : (st.1.map (marksR ps)).length = st.1.length := by simp
  unfold ofE
  rw [if_neg a1, if_neg (by rw [a2]; decide), if_neg (by omega)]
  show _ = if ((st.1.map (marksR ps)).length : Int) ≤ g then _ else _
  rw [e]
  by_cases hc : (st.1.length : Int) ≤ g
  · rw [if_pos hc, ofSt_same a5 (g := g.toNat) (by omega)]
  · rw [if_neg hc, ofSt_less a5 (g := g.toNat) (by omega)]
end Go.Proofs.YthdnlndpmmiboaaGreatDoor
namespace Go.Proofs.YthdnlndpmmiboaaGreatDoor
open Go Go.RowKit Go.Shelf Go.Maps

theorem dq_trans (a b c : BS) (h : (!ltOf compareOf b a) = true) (k : (!ltOf compareOf c b) = true) : (!ltOf compareOf c a) = true := by
  simp only [Bool.not_eq_true'] at *
  cases hca : ltOf compareOf c a with
  | false => rfl
  | true =>
    exfalso
    rw [← Bool.not_eq_true, ltOf_iff] at h k
    rw [ltOf_iff] at hca
    rcases ltS_total a b with e | e | e
    · subst e; exact k hca
    · exact k (ltS_trans hca e)
    · exact h e
theorem dq_total (a b : BS) : ((!ltOf compareOf b a) || (!ltOf compareOf a b)) = true := by
  cases hba : ltOf compareOf b a with
  | false => rfl
  | true =>
    cases hab : ltOf compareOf a b with
    | false => rfl
    | true =>
      rw [ltOf_iff] at hba hab
      exact absurd (ltS_trans hba hab) (ltS_irrefl b)
theorem dq_parts {l L : List BS} (hp : (partsRaw l).isPerm L = true) (hs : decide (L.Pairwise fun x y => (!ltOf compareOf y x) = true) = true) : partsOf l = L :=
  List.Perm.eq_of_pairwise (fun a b _ _ h k => totS a b (by simpa using k) (by simpa using h)) (List.pairwise_mergeSort dq_trans dq_total _) (of_decide_eq_true hs) ((List.mergeSort_perm _ _).trans (List.isPerm_iff.1 hp))

/-- A word's set of one byte or more. -/
def letW (l : List Nat) : BS := bsOf fun c => l.contains c
/-- A word's automaton of positions. -/
def wordN (l : List Nat) : NF := ⟨l.map fun c => letW [c], (List.range l.length).map fun i => if i + 1 < l.length then [(i : Int) + 1] else [], [0], [(l.length : Int) - 1], false⟩
def pAB : List PT := [⟨wordN [97, 98], false, 5⟩]
def pBeg : List PT := [⟨wordN [97, 98], true, 0⟩]
def pTwo : List PT := [⟨wordN [97], false, 0⟩, ⟨⟨[letW [97, 98]], [[]], [0], [0], false⟩, false, 7⟩]
def cW : List BS := [~~~(letW [97, 98]), letW [97], letW [98]]
theorem cW_ab : partsOf (allSets pAB) = cW := dq_parts (by kernel_rfl) (by kernel_rfl)
theorem cW_beg : partsOf (allSets pBeg) = cW := cW_ab
theorem cW_two : partsOf (allSets pTwo) = cW := dq_parts (by kernel_rfl) (by kernel_rfl)
theorem cW_no : partsOf (allSets []) = [~~~(0 : BS)] := dq_parts (by kernel_rfl) (by kernel_rfl)
theorem ofE_at {ps : List PT} {P : List BS} {f : Nat} {st : List (List (List Int)) × List (List Nat)} (hP : partsOf (allSets ps) = P) (hl : ¬ 64 < ps.length) (ho : ps.all PT.ok = true) (h1 : 1 ≤ f) (h2 : f ≤ 4000)
    (hst : stTo f (fun row k => stepR ps row (lb P k)) P.length (row0 ps) f = some st) : ofE ps f = (⟨P, st.2.map fun r => r.map Int.ofNat, st.1.map (marksR ps)⟩, 0) := by
  subst hP
  unfold ofE ofSt
  rw [if_neg hl, if_neg (by rw [ho]; decide), if_neg (by omega), Int.toNat_natCast, if_neg (by omega), hst]
def dAB : DF := ⟨cW, [[0, 1, 0], [0, 1, 2], [0, 1, 0]], [[], [], [5]]⟩
def dBeg : DF := ⟨cW, [[1, 2, 1], [1, 1, 1], [1, 1, 3], [1, 1, 1]], [[], [], [], [0]]⟩
def dNo : DF := ⟨[~~~(0 : BS)], [[0]], [[]]⟩
def dTwo : DF := ⟨cW, [[0, 1, 2], [0, 1, 2], [0, 1, 2]], [[], [0, 7], [7]]⟩
theorem mk_ab : ofE pAB 3 = (dAB, 0) := (ofE_at (f := 3) (st := ([[[-1]], [[-1, 0]], [[-1, 1]]], [[0, 1, 0], [0, 1, 2], [0, 1, 0]])) cW_ab (by decide) (by kernel_rfl) (by decide) (by decide) (by kernel_rfl)).trans (by kernel_rfl)
theorem mk_ab2 : (ofE pAB 2).2 = 181 := by
  rw [ofE_fuelF (f := 3) (by rw [mk_ab]) (by decide) (by decide), mk_ab, if_neg (by decide)]
theorem mk_beg : ofE pBeg 9 = (dBeg, 0) := (ofE_at (f := 9) (st := ([[[-1]], [[]], [[0]], [[1]]], [[1, 2, 1], [1, 1, 1], [1, 1, 3], [1, 1, 1]])) cW_beg (by decide) (by kernel_rfl) (by decide) (by decide) (by kernel_rfl)).trans (by kernel_rfl)
theorem mk_no : ofE [] 9 = (dNo, 0) := (ofE_at (f := 9) (st := ([[]], [[0]])) cW_no (by decide) (by kernel_rfl) (by decide) (by decide) (by kernel_rfl)).trans (by kernel_rfl)
theorem mk_two : ofE pTwo 9 = (dTwo, 0) := (ofE_at (f := 9) (st := ([[[-1], [-1]], [[-1, 0], [-1, 0]], [[-1], [-1, 0]]], [[0, 1, 2], [0, 1, 2], [0, 1, 2]])) cW_two (by decide) (by kernel_rfl) (by decide) (by decide) (by kernel_rfl)).trans (by kernel_rfl)
theorem mk_word_ab : dAB.mr.getD (runD dAB 0 [120, 97, 98]) [] = [5] := by kernel_rfl
theorem mk_word_abx : dAB.mr.getD (runD dAB 0 [97, 98, 120]) [] = [] := by kernel_rfl
theorem mk_word_two : dTwo.mr.getD (runD dTwo 0 [120, 97]) [] = [0, 7] := by kernel_rfl
theorem mk_first_ab : FirstIs dAB [97, 97, 98, 97, 98] (3, 5, true) := by
  have h0 : marksAt dAB [97, 97, 98, 97, 98] 0 = [] := by kernel_rfl
  have h1 : marksAt dAB [97, 97, 98, 97, 98] 1 = [] := by kernel_rfl
  have h2 : marksAt dAB [97, 97, 98, 97, 98] 2 = [] := by kernel_rfl
  have h3 : marksAt dAB [97, 97, 98, 97, 98] 3 = [5] := by kernel_rfl
  refine .inl ⟨3, 5, [], by decide, fun m hm => ?_, h3, rfl⟩
  have : m = 0 ∨ m = 1 ∨ m = 2 := by omega
  rcases this with rfl | rfl | rfl
  · exact h0
  · exact h1
  · exact h2
theorem mk_first_two : FirstIs dTwo [120, 97] (2, 0, true) := by
  have h0 : marksAt dTwo [120, 97] 0 = [] := by kernel_rfl
  have h1 : marksAt dTwo [120, 97] 1 = [] := by kernel_rfl
  have h2 : marksAt dTwo [120, 97] 2 = [0, 7] := by kernel_rfl
  refine .inl ⟨2, 0, [7], by decide, fun m hm => ?_, h2, rfl⟩
  have : m = 0 ∨ m = 1 := by omega
  rcases this with rfl | rfl
  · exact h0
  · exact h1
end Go.Proofs.YthdnlndpmmiboaaGreatDoor
