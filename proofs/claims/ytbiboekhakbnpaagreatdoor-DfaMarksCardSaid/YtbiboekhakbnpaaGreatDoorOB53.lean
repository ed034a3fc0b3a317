/-
  Where the states that are found one by one lead to, and in which order they are found: plain words.
  What stands behind bytes in an automaton of parts: plain words.
  What the outright laws of automata of parts begin with.
  Opening the law's small parts that come by value, by the form's own reach.
-/
import Derived.Test.YtbiboekhakbnpaaGreatDoorOB19
import Derived.Test.YtbiboekhakbnpaaGreatDoorOB12
import Derived.Test.YtbiboekhakbnpaaGreatDoorOB13
import Derived.Test.YtbiboekhakbnpaaGreatDoorOB43
import Derived.Test.YtbiboekhakbnpaaGreatDoorOB52
import Derived.Test.YtbiboekhakbnpaaGreatDoorOB44
import Derived.Test.YtbiboekhakbnpaaGreatDoorOB08
set_option maxRecDepth 100000
set_option maxHeartbeats 16000000
open Go.Lib (hid)
namespace Go.Proofs.YtbiboekhakbnpaaGreatDoor
open Go Go.RowKit

section
variable {α : Type}
def RowLk (g : Nat -> α) (st : List α × List Nat) : Prop := ∀ (k t : Nat), st.2[k]? = some t -> st.1[t]? = some (g k)
def StLk (f : α -> Nat -> α) (st : List α × List (List Nat)) : Prop := ∀ (s : Nat) (r : List Nat), st.2[s]? = some r -> ∃ p, st.1[s]? = some p /\ RowLk (f p) (st.1, r)
theorem RowLk.more {g : Nat -> α} {t : List α} {r : List Nat} (h : RowLk g (t, r)) (ys : List α) : RowLk g (t ++ ys, r) := fun k u hk => by
 have h1 := h k u hk
 show (t ++ ys)[u]? = _
 rw [List.getElem?_append_left (List.getElem?_eq_some_iff.1 h1).1]; exact h1
end
section
variable {α β : Type} [DecidableEq α] [DecidableEq β]
theorem addQ_pre {f : Nat} {st st' : List α × List Nat} {q : α} (h : addQ f st q = some st') : ∃ t ys, st' = (st.1 ++ ys, st.2 ++ [t]) /\ (st.1 ++ ys)[t]? = some q := by
 unfold addQ at h
 split at h
 ·split at h
  ·cases h
  ·cases h
   exact ⟨_, [q], rfl, by simp⟩
 ·rename_i he
  cases h
  have G5 : st.1.idxOf q < st.1.length := by have := List.idxOf_le_length (a := q) (l := st.1); omega
  refine ⟨_, [], by rw [List.append_nil], ?_⟩
  rw [List.append_nil, List.getElem?_eq_getElem G5, List.getElem_idxOf G5]
theorem rowTo_lk {f : Nat} {g : Nat -> α} {todo : List α} : ∀ {k : Nat} {st : List α × List Nat}, rowTo f g todo k = some st -> (∃ ys, st.1 = todo ++ ys) /\ st.2.length = k /\ RowLk g st
 | 0, st, h => by cases h; exact ⟨⟨[], by simp⟩, rfl, fun k t e => by simp at e⟩
 | k + 1, st, h => by
  rw [rowTo] at h
  obtain ⟨s1, h1, h2⟩ := Option.bind_eq_some_iff.1 h
  obtain ⟨⟨ys, e1⟩, e2, e3⟩ := rowTo_lk h1
  obtain ⟨t, zs, e4, e5⟩ := addQ_pre h2
  subst e4
  refine ⟨⟨ys ++ zs, by simp [e1]⟩, by simp [e2], fun j u hj => ?_⟩
  rcases Nat.lt_or_ge j k with hjk | hjk
  ·have G4 : s1.2[j]? = some u := by
    have : (s1.2 ++ [t])[j]? = some u := hj
    rwa [List.getElem?_append_left (by omega)] at this
   have h3 := e3 j u G4
   show (s1.1 ++ zs)[u]? = _
   rw [List.getElem?_append_left (List.getElem?_eq_some_iff.1 h3).1]; exact h3
  ·have G4 : (s1.2 ++ [t])[j]? = some u := hj
   have hl := (List.getElem?_eq_some_iff.1 G4).1
   simp [e2] at hl
   obtain rfl : j = k := by omega
   rw [List.getElem?_append_right (by omega), e2, Nat.sub_self] at G4
   cases G4
   exact e5
theorem stTo_lk {fuel K : Nat} {f : α -> Nat -> α} {p0 : α} : ∀ (n : Nat) {st : List α × List (List Nat)}, stTo fuel f K p0 n = some st -> st.2.length = min n st.1.length /\ StLk f st
 | 0, st, h => by cases h; exact ⟨by simp, fun s r e => by simp at e⟩
 | n + 1, st, h => by
  rw [stTo] at h
  obtain ⟨s1, h1, h2⟩ := Option.bind_eq_some_iff.1 h
  obtain ⟨i1, i2⟩ := stTo_lk n h1
  unfold stStep at h2
  split at h2
  ·rename_i he
   have e := Option.some.inj h2
   subst e
   have hl : s1.1.length <= n := by simpa using he
   exact ⟨by omega, i2⟩
  ·rename_i p he
   obtain ⟨r, h3, rfl⟩ := Option.map_eq_some_iff.1 h2
   have G5 : n < s1.1.length := (List.getElem?_eq_some_iff.1 he).1
   obtain ⟨⟨ys, e1⟩, e2, e3⟩ := rowTo_lk h3
   have GD : s1.1.length <= r.1.length := by rw [e1]; simp
   refine ⟨by simp; omega, fun s x hx => ?_⟩
   have hx : (s1.2 ++ [r.2])[s]? = some x := hx
   rcases Nat.lt_or_ge s n with hs | hs
   ·rw [List.getElem?_append_left (by omega)] at hx
    obtain ⟨q, g1, g2⟩ := i2 s x hx
    refine ⟨q, ?_, ?_⟩
    ·show r.1[s]? = _
     rw [e1, List.getElem?_append_left (by omega)]; exact g1
    ·show RowLk (f q) (r.1, x)
     rw [e1]; exact g2.more ys
   ·have hl := (List.getElem?_eq_some_iff.1 hx).1
    simp at hl
    obtain rfl : s = n := by omega
    rw [List.getElem?_append_right (by omega)] at hx
    have : s - s1.2.length = 0 := by omega
    rw [this] at hx
    cases hx
    refine ⟨p, ?_, e3⟩
    show r.1[s]? = _
    rw [e1, List.getElem?_append_left (by omega)]; exact he
end
theorem snocRec {α : Type} {P : List α -> Prop} (h0 : P []) (h1 : ∀ l x, P l -> P (l ++ [x])) (l : List α) : P l := by
 have G9 : ∀ r : List α, P r.reverse := fun r => by
  induction r with
  | nil => exact h0
  | cons x r ih => rw [List.reverse_cons]; exact h1 _ _ ih
 have := G9 l.reverse
 rwa [List.reverse_reverse] at this
def rowAt (ps : List PT) (b : List Nat) : List (List Int) := b.foldl (fun r c => stepR ps r c) (row0 ps)
def PT.at (x : PT) (b : List Nat) : List Int := b.foldl (fun l c => x.step l c) [-1]
theorem rowAt_snoc (ps : List PT) (b : List Nat) (c : Nat) : rowAt ps (b ++ [c]) = stepR ps (rowAt ps b) c := by unfold rowAt; rw [List.foldl_append]; rfl
theorem PT.at_snoc (x : PT) (b : List Nat) (c : Nat) : x.at (b ++ [c]) = x.step (x.at b) c := by unfold PT.at; rw [List.foldl_append]; rfl
theorem rowAt_in (ps : List PT) : ∀ b, RowIn ps (rowAt ps b) := by
 refine snocRec (row0_in ps) fun b c ih => ?_
 rw [rowAt_snoc]; exact stepR_in ih c
theorem rowAt_get (ps : List PT) (b : List Nat) : rowAt ps b = ps.map fun x => x.at b := by
 refine snocRec (P := fun b => rowAt ps b = ps.map fun x => x.at b) rfl (fun b c ih => ?_) b
 show rowAt ps (b ++ [c]) = _
 rw [rowAt_snoc, ih]
 unfold stepR
 rw [List.zipWith_map_right]
 apply List.ext_getElem?
 intro i
 simp only [List.getElem?_zipWith, List.getElem?_map]
 cases ps[i]? with
 | none => rfl
 | some x => simp [PT.at_snoc]
theorem NF.hit_class {a : NF} {L : List BS} (ha : ∀ s ∈ a.sets, s ∈ L) {c d : Nat} (hc : c < 256) (hd : d < 256) (h : cls (partsOf L) c = cls (partsOf L) d) (l : List Int) (q : Nat) : a.hit l c q = a.hit l d q := by
 have e : (a.sets.getD q 0).getLsbD c = (a.sets.getD q 0).getLsbD d := by
  rcases Nat.lt_or_ge q a.sets.length with hq | hq
  ·have hm := ha _ (List.mem_of_getElem? (some_getD (l := a.sets) 0 hq))
   have h1 := alike_cls L hc hd
   rw [decide_eq_true h] at h1
   have h2 := List.any_eq_false.1 (show (L.any fun s => s.getLsbD c != s.getLsbD d) = false by rw [h1]; rfl) _ hm
   simpa using h2
  ·rw [List.getD_eq_getElem?_getD, List.getElem?_eq_none hq]; simp
 unfold NF.hit
 rw [e]
theorem NF.step_class {a : NF} {L : List BS} (ha : ∀ s ∈ a.sets, s ∈ L) {c d : Nat} (hc : c < 256) (hd : d < 256) (h : cls (partsOf L) c = cls (partsOf L) d) (l : List Int) : a.step l c = a.step l d := by
 unfold NF.step
 congr 1
 exact List.filter_congr fun q _ => NF.hit_class ha hc hd h l q
theorem stepR_class (ps : List PT) (row : List (List Int)) {c d : Nat} (hc : c < 256) (hd : d < 256) (h : cls (partsOf (allSets ps)) c = cls (partsOf (allSets ps)) d) : stepR ps row c = stepR ps row d := by
 unfold stepR
 apply List.ext_getElem?
 intro i
 simp only [List.getElem?_zipWith]
 rcases e : ps[i]? with _ | x
 ·rfl
 ·cases row[i]? with
  | none => rfl
  | some l =>
   have hx : ∀ s ∈ x.nf.sets, s ∈ allSets ps := fun s hs => List.mem_flatMap.2 ⟨x, List.mem_of_getElem? e, hs⟩
   show some (x.step l c) = some (x.step l d)
   unfold PT.step
   rw [NF.step_class hx hc hd h]
theorem lb_cls {d : DF} (rt : Rt d) {c : Nat} (hc : c < 256) : lb d.cl (cls d.cl c) < 256 /\ cls d.cl (lb d.cl (cls d.cl c)) = cls d.cl c := by
 have h := lb_spec rt (rt.part.cls_lt hc)
 exact ⟨h.1, h.2.1⟩
def dfOf (ps : List PT) (st : List (List (List Int)) × List (List Nat)) : DF := ⟨partsOf (allSets ps), st.2.map fun r => r.map Int.ofNat, st.1.map (marksR ps)⟩
theorem dfOf_nx {ps : List PT} {st : List (List (List Int)) × List (List Nat)} {s : Nat} {r : List Nat} (h : st.2[s]? = some r) (k : Nat) : nxt (dfOf ps st) s k = r.getD k 0 := by
 unfold nxt dfOf
 show (((st.2.map fun (r : List Nat) => r.map Int.ofNat).getD s []).getD k 0).toNat = _
 have e1 : (st.2.map fun (r : List Nat) => r.map Int.ofNat).getD s [] = r.map Int.ofNat := by
  rw [List.getD_eq_getElem?_getD, List.getElem?_map, h]; rfl
 rw [e1, List.getD_eq_getElem?_getD, List.getD_eq_getElem?_getD, List.getElem?_map]
 cases r[k]? <;> rfl
theorem run_row {ps : List PT} {f : Nat} (hf : f <= 4000) {st : List (List (List Int)) × List (List Nat)} (h : ofSt ps f = some st) (b : List Nat) (hb : ∀ c ∈ b, c < 256) : st.1[runD (dfOf ps st) 0 b]? = some (rowAt ps b) := by
 have rt : Rt (dfOf ps st) := of_right hf h
 have I := ofSt_ok h
 have hl : StLk (fun row k => stepR ps row (lb (partsOf (allSets ps)) k)) st := by
  unfold ofSt at h
  split at h
  ·cases h
  ·exact (stTo_lk f h).2
 have hn : st.2.length = st.1.length := by have := I.len; have := I.le; omega
 revert hb
 refine snocRec (P := fun b => (∀ c ∈ b, c < 256) -> st.1[runD (dfOf ps st) 0 b]? = some (rowAt ps b)) (fun _ => I.head) (fun b c ih hb => ?_) b
 have ih := ih fun x hx => hb x (List.mem_append_left _ hx)
 have hc : c < 256 := hb c (by simp)
 obtain ⟨s, hs⟩ : ∃ s, s = runD (dfOf ps st) 0 b := ⟨_, rfl⟩
 have e : runD (dfOf ps st) 0 (b ++ [c]) = nxt (dfOf ps st) s (cls (dfOf ps st).cl c) := by rw [hs]; unfold runD; rw [List.foldl_append]; rfl
 rw [e]
 rw [<- hs] at ih
 have GE := (List.getElem?_eq_some_iff.1 ih).1
 obtain ⟨r, hr⟩ : ∃ r, st.2[s]? = some r := ⟨_, List.getElem?_eq_getElem (by omega)⟩
 obtain ⟨p, h1, h2⟩ := hl s r hr
 rw [ih] at h1
 cases h1
 rw [dfOf_nx hr]
 have hk : cls (dfOf ps st).cl c < r.length := by rw [(I.rows r (List.mem_of_getElem? hr)).1]; exact IsPart.cls_lt (Rt.part rt) hc
 have h3 := h2 (cls (dfOf ps st).cl c) (r.getD (cls (dfOf ps st).cl c) 0) (some_getD 0 hk)
 rw [show st.1[r.getD (cls (dfOf ps st).cl c) 0]? = some _ from h3, rowAt_snoc]
 have hq := lb_cls (d := dfOf ps st) rt hc
 exact congrArg some (stepR_class ps (rowAt ps b) hq.1 hc hq.2)
theorem run_marks {ps : List PT} {f : Nat} (hf : f <= 4000) {st : List (List (List Int)) × List (List Nat)} (h : ofSt ps f = some st) (b : List Nat) (hb : ∀ c ∈ b, c < 256) : (dfOf ps st).mr.getD (runD (dfOf ps st) 0 b) [] = marksR ps (rowAt ps b) := by
 show (st.1.map (marksR ps)).getD _ [] = _
 rw [List.getD_eq_getElem?_getD, List.getElem?_map, run_row hf h b hb]; rfl
theorem marks_behind {ps : List PT} (hm : ∀ x ∈ ps, 0 <= x.mark /\ x.mark <= 255) (b : List Nat) : marksR ps (rowAt ps b) = Lib.compact (sortZ ((ps.filter fun x => x.nf.acc (x.at b)).map PT.mark)) := by
 rw [<- marks_compact hm]
 congr 2
 unfold accMarks
 rw [rowAt_get]
 clear hm
 induction ps with
 | nil => rfl
 | cons x ps ih =>
  rw [List.map_cons, List.zip_cons_cons, List.filterMap_cons, List.filter_cons]
  cases x.nf.acc (x.at b) with
  | true => simp only [if_true, List.map_cons]; exact congrArg _ ih
  | false => exact ih
end Go.Proofs.YtbiboekhakbnpaaGreatDoor
namespace Go.Proofs.YtbiboekhakbnpaaGreatDoor
open Go Go.RowKit Go.Shelf Go.Maps

theorem IsS18.form {w : World} {v : Value} {l : List (List (Nat × Nat × Nat) × Bool × Nat)} (h : IsS18 w v l) : ∃ a c, v = .slice a l.length c := by
 rcases h with ⟨p, c, rfl, rfl⟩ | ⟨b, off, c, rfl, _⟩
 ·exact ⟨_, _, rfl⟩
 ·exact ⟨_, _, rfl⟩
theorem IsS18.small {w : World} {v : Value} {l : List (List (Nat × Nat × Nat) × Bool × Nat)} (h : IsS18 w v l) : ∀ s ∈ l, s.2.2 < 256 := by
 rcases h with ⟨p, c, rfl, rfl⟩ | ⟨b, off, c, rfl, _, _, _, h⟩
 ·intro s hs; cases hs
 ·intro s hs
  obtain ⟨i, hi⟩ := List.getElem?_of_mem hs
  exact (h i s hi).2.1
structure Ps (ps : List PT) : Prop where
 len : ps.length <= 64
 ok : ∀ x ∈ ps, Nt x.nf /\ SmN x.nf /\ 0 <= x.mark /\ x.mark <= 255
theorem Ps.all {ps : List PT} (h : Ps ps) : ps.all PT.ok = true := by
 rw [List.all_eq_true]
 intro x hx
 obtain ⟨h1, _, h3, h4⟩ := h.ok x hx
 unfold PT.ok
 rw [(nright_iff _).2 h1, decide_eq_true h3, decide_eq_true h4]
 rfl
theorem parts18_ps {w : World} {v : Value} {l : List (List (Nat × Nat × Nat) × Bool × Nat)} (h : IsS18 w v l) : Ps (parts18 l) := ⟨by rw [parts18_len]; omega, parts18_ok l h.small⟩
theorem ofE_two {ps : List PT} (h : Ps ps) {f : Int} (h0 : 0 <= f) (h1 : f <= 4000) : (ofE ps f).2 = 0 \/ (ofE ps f).2 = 181 := by
 unfold ofE
 rw [if_neg (by have := h.len; omega), if_neg (by rw [h.all]; simp), if_neg (by omega)]
 split
 ·exact .inr rfl
 ·exact .inl rfl
theorem ofE_zero {ps : List PT} {f : Int} {d : DF} (h : ofE ps f = (d, 0)) : ∃ st, f <= 4000 /\ 0 <= f /\ ofSt ps f.toNat = some st /\ d = dfOf ps st := by
 obtain ⟨_, _, h0, h1, st, h2, h3⟩ := ofE_doneF (ps := ps) (f := f) (by rw [h])
 rw [h] at h3
 exact ⟨st, h1, h0, h2, h3⟩
def OfAt (n0 n1 n2 : Nat) (code : Int) (d : DF) (W : World) (e : Ending) (w' : World) : Prop :=
 ∃ a0 c0 a1 c1 a2 c2, e = .returned (.tuple #[.agg #[.slice a0 n0 c0, .slice a1 n1 c1, .slice a2 n2 c2], .int .i64 code]) /\ OwnDf W.heap.size w' (.agg #[.slice a0 n0 c0, .slice a1 n1 c1, .slice a2 n2 c2]) d /\ Below W.heap.size W w'
theorem of_named {P : List PT} (h : Ps P) {f : Int} {d : DF} {code : Int} (he : ofE P f = (d, code)) {n0 n1 n2 : Nat} (h0 : n0 = d.cl.length) (h1 : n1 = d.nx.length) (h2 : n2 = d.mr.length) (W : World) (u : Value) (hu : IsPts W u P) (hT : ∀ V, Below W.heap.size W V -> TabW V) :
  Calls Tryz.prog 11 #[u, .int .i64 f] W (OfAt n0 n1 n2 code d W) := (dfaOf_any u P f W hu (fun x hx => (h.ok x hx).2.1) hT).mono fun e w' ⟨r, hr, hd, hx⟩ => by
 rw [he] at hr hd
 subst h0 h1 h2
 obtain ⟨a0, c0, a1, c1, a2, c2, rfl⟩ := hd.form
 exact ⟨a0, c0, a1, c1, a2, c2, hr, hd, hx⟩
theorem OwnDf.mk3 {w : World} {b : Nat} {t : TypeId} {v0 v1 v2 : Value} (h : Blk w b #[v0, v1, v2] t) : w.cell? ⟨b, 0, none⟩ = some v0 /\ w.cell? ⟨b, 1, none⟩ = some v1 /\ w.cell? ⟨b, 2, none⟩ = some v2 := ⟨h.cell 0, h.cell 1, h.cell 2⟩
end Go.Proofs.YtbiboekhakbnpaaGreatDoor
namespace Go.Proofs.YtbiboekhakbnpaaGreatDoor
open Go Go.ChangeShapes Go.WideShapes Go.ChangeAt Go.RowKit Go.Deep
section
variable {H : Type} {enc : TypeId × Value → H} {W : World}

theorem slice_sized1 {t e : TypeId} {fuel : Nat} {a : Option Addr} {n c : Nat} {x : DataW H × List MemPlace} (ht : Tryz.prog.underlying t = some (.slice e)) (hb : 1 <= Tryz.prog.bytesOf e) (h : DataW.trod enc Tryz.prog W 0 (fun _ => true) true fuel t [.slice a n c] = some x)
  (hs : ∀ m ∈ x.1.weights Tryz.prog t, m <= reachBytes) : n <= 1000000000000000 := by
 rcases open_slice ht h with ⟨hcs, _⟩ | ⟨a', len, cap, m, k, D, Pl, hcs, _, _, _, _, rfl, _⟩
 ·have : Value.slice a n c = .slice none 0 0 := by simpa using hcs
  cases this
  omega
 ·have : Value.slice a n c = .slice (some a') len cap := by simpa using hcs
  cases this
  have h1 := hs ((((List.range n).map D).length + ((List.range (m - n)).map fun j => D (n + j)).length) * Tryz.prog.bytesOf e) (by simp [DataW.weights, ht])
  have h2 : n * 1 <= (((List.range n).map D).length + ((List.range (m - n)).map fun j => D (n + j)).length) * Tryz.prog.bytesOf e := Nat.mul_le_mul (by simp) hb
  unfold reachBytes at h1
  omega
theorem byte_lit {t : TypeId} (ht : Tryz.prog.underlying t = some (.int .u8)) {fuel : Nat} {c : Value} {y : DataW H × List MemPlace} (h : DataW.trod enc Tryz.prog W 0 (fun _ => true) true fuel t [c] = some y) : ∃ n : Nat, c = .int .u8 n /\ n < 256 := by
 obtain ⟨z, hz, _, hw⟩ := DataW.trod_int ht h
 obtain rfl : c = .int .u8 z := by simpa using hz
 have := u8_of_wf hw
 exact ⟨z.toNat, by rw [Int.toNat_of_nonneg this.1], by omega⟩
theorem inner_steps {fuel : Nat} {v : Value} {y : DataW H × List MemPlace} (h : DataW.trod enc Tryz.prog W 0 (fun _ => true) true fuel 79 [v] = some y) (hz : ∀ m ∈ y.1.weights Tryz.prog 79, m <= reachBytes) :
  ∃ l : List (Nat × Nat × Nat), IsSteps W v l /\ l.length <= 1000000000000000 := by
 have G8 : 1 <= Tryz.prog.bytesOf 135 := by
  have : Tryz.prog.bytesOf 135 = 3 := by kernel_rfl
  omega
 have h0 := h
 rcases open_slice Tryz.underlying79 h with ⟨hcs, _⟩ | ⟨a, len, cap, m, n, D, Pl, hcs, _, hl, hm, hmm, _, hi⟩
 ·obtain rfl : v = .slice none 0 0 := by simpa using hcs
  exact ⟨[], .inl ⟨rfl, rfl⟩, by simp⟩
 ·obtain rfl : v = .slice (some a) len cap := by simpa using hcs
  have G6 := slice_sized1 Tryz.underlying79 G8 h0 hz
  have hc : Tryz.prog.cellsOf 135 = 3 := by kernel_rfl
  rw [hc] at hi
  rw [if_pos rfl] at hmm
  rcases Nat.eq_zero_or_pos len with h1 | h1
  ·subst h1
   exact ⟨[], .inr (.inl ⟨a, cap, rfl, rfl⟩), by simp⟩
  ·obtain ⟨b, off, spot⟩ := a
   have el : ∀ i, i < len -> ∃ s : Nat × Nat × Nat, (s.1 < 256 /\ s.2.1 < 256 /\ s.2.2 < 256) /\ W.cell? ((⟨b, off, spot⟩ : Addr).add (i * 3)) = some (.int .u8 s.1) /\ W.cell? (((⟨b, off, spot⟩ : Addr).add (i * 3)).add 1) = some (.int .u8 s.2.1) /\ W.cell? (((⟨b, off, spot⟩ : Addr).add (i * 3)).add 2) = some (.int .u8 s.2.2) := fun i hil => by
    obtain ⟨cs', h2, h3⟩ := hi i (by omega)
    obtain ⟨_, hl3, hat⟩ := World.cells?_some h2
    match cs', hl3 with
    | [c0, c1, c2], _ =>
    obtain ⟨y0, y1, y2, k, _, _, t0, t1, t2⟩ := trod_struct3 Tryz.underlying135 h3
    obtain ⟨n0, rfl, q0⟩ := byte_lit Tryz.underlying5 (show DataW.trod enc Tryz.prog W 0 (fun _ => true) true k 5 [c0] = some y0 from t0)
    obtain ⟨n1, rfl, q1⟩ := byte_lit Tryz.underlying5 (show DataW.trod enc Tryz.prog W 0 (fun _ => true) true k 5 [c1] = some y1 from t1)
    obtain ⟨n2, rfl, q2⟩ := byte_lit Tryz.underlying5 (show DataW.trod enc Tryz.prog W 0 (fun _ => true) true k 5 [c2] = some y2 from t2)
    have g0 := hat 0 (by decide)
    have g1 := hat 1 (by decide)
    have g2 := hat 2 (by decide)
    refine ⟨(n0, n1, n2), ⟨q0, q1, q2⟩, ?_, g1, g2⟩
    have e : ∀ A : Addr, A.add 0 = A := fun A => by simp [Addr.add]
    rwa [e] at g0
   have G3 : spot = none := by
    obtain ⟨s, _, g0, _⟩ := el 0 h1
    simpa [Addr.add] using World.cell?_spot g0
   subst G3
   have hb : b < W.heap.size := by
    obtain ⟨s, _, g0, _⟩ := el 0 h1
    rw [add_none] at g0
    exact lt_of_cell g0
   obtain ⟨S, hS⟩ := choose_lt (α := Nat × Nat × Nat) (p := fun i s => s.1 < 256 /\ s.2.1 < 256 /\ s.2.2 < 256 /\ W.cell? ⟨b, off + i * 3, none⟩ = some (.int .u8 s.1) /\ W.cell? ⟨b, off + i * 3 + 1, none⟩ = some (.int .u8 s.2.1) /\ W.cell? ⟨b, off + i * 3 + 2, none⟩ = some (.int .u8 s.2.2)) (n := len) (fun i hil => by
    obtain ⟨s, ⟨q0, q1, q2⟩, g0, g1, g2⟩ := el i hil
    rw [add_none] at g0 g1 g2
    rw [add_none] at g1 g2
    exact ⟨s, q0, q1, q2, g0, g1, g2⟩)
   refine ⟨(List.range len).map S, .inr (.inr ⟨b, off, cap, by simp, hb, by simpa using hl, ?_, fun i s his => ?_⟩), by simpa using G6⟩
   ·intro e
    have := congrArg List.length e
    simp at this
    omega
   ·simp only [List.getElem?_map, Option.map_eq_some_iff, List.getElem?_eq_some_iff] at his
    obtain ⟨k, ⟨hk, rfl⟩, rfl⟩ := his
    simp at hk ⊢
    exact hS i hk
theorem open_s18 {r : Go.Reach} {v : Value} {d : DataW H} {p : List MemPlace} {b0 : Nat} (hok : Value.okWide Tryz.prog W r b0 22 v) (h : DataW.Trod enc Tryz.prog W 0 (fun _ => true) true 22 v d p) (hz : ∀ m ∈ d.weights Tryz.prog 22, m <= reachBytes) :
  ∃ l : List (List (Nat × Nat × Nat) × Bool × Nat), IsS18 W v l /\ l.length <= 1000000000000000 := by
 have GA : 1 <= Tryz.prog.bytesOf 81 := by
  have : Tryz.prog.bytesOf 81 = 32 := by kernel_rfl
  omega
 obtain ⟨a, len, cap, rfl⟩ := okWide_slice Tryz.underlying22 hok
 obtain ⟨fuel, hf⟩ := h
 have G7 : DataW.trod enc Tryz.prog W 0 (fun _ => true) true fuel 22 [.slice a len cap] = some (d, p) := hf
 have G6 := slice_sized1 Tryz.underlying22 GA G7 hz
 rcases open_slice Tryz.underlying22 G7 with ⟨hcs, _⟩ | ⟨a', len', cap', m, n, D, Pl, hcs, _, hl, hm, hmm, hd, hi⟩
 ·have : Value.slice a len cap = .slice none 0 0 := by simpa using hcs
  cases this
  exact ⟨[], .inl ⟨none, 0, rfl, rfl⟩, by simp⟩
 ·have : Value.slice a len cap = .slice (some a') len' cap' := by simpa using hcs
  cases this
  rcases Nat.eq_zero_or_pos len with h1 | h1
  ·subst h1
   exact ⟨[], .inl ⟨some a', cap, rfl, rfl⟩, by simp⟩
  obtain ⟨hs, hb⟩ := okWide_row Tryz.underlying22 hok
  obtain ⟨b, off, spot⟩ := a'
  have hs' : spot = none := hs
  subst hs'
  have hc : Tryz.prog.cellsOf 81 = 3 := by kernel_rfl
  rw [hc] at hi
  rw [if_pos rfl] at hmm
  have GC : d = .slice ((List.range len).map D) ((List.range (m - len)).map fun j => D (len + j)) := congrArg Prod.fst hd
  have hD : ∀ i, i < len -> ∀ w ∈ (D i).weights Tryz.prog 81, w <= reachBytes := fun i hil w hw => by
   refine hz w ?_
   rw [GC]
   simp only [DataW.weights, Tryz.underlying22, List.mem_cons, List.mem_append]
   exact .inr (.inl (weightsAll_in (List.mem_map.2 ⟨i, List.mem_range.2 hil, rfl⟩) w hw))
  obtain ⟨L, hL⟩ := choose_lt (α := List (Nat × Nat × Nat) × Bool × Nat) (p := fun i s => s.1.length <= 1000000000000000 /\ s.2.2 < 256 /\ ∃ u, IsSteps W u s.1 /\ W.cell? ⟨b, off + i * 3, none⟩ = some u /\ W.cell? ⟨b, off + i * 3 + 1, none⟩ = some (.bool s.2.1) /\ W.cell? ⟨b, off + i * 3 + 2, none⟩ = some (.int .u8 s.2.2)) (n := len) (fun i hil => by
   obtain ⟨cs', h1, h2⟩ := hi i (by omega)
   obtain ⟨_, hl3, hat⟩ := World.cells?_some h1
   match cs', hl3 with
   | [c0, c1, c2], _ =>
   obtain ⟨y0, y1, y2, k, hy, _, t0, t1, t2⟩ := trod_struct3 Tryz.underlying81 h2
   have GB : ∀ m ∈ y0.1.weights Tryz.prog 79, m <= reachBytes := fun m hm => hD i hil m (by
    rw [show D i = _ from congrArg Prod.fst hy]
    simp only [DataW.weights, Tryz.underlying81]
    exact DataW.weights_mem_each (j := 0) (ds := [y0.1, y1.1, y2.1]) rfl rfl m hm)
   obtain ⟨st, s0, sl⟩ := inner_steps (show DataW.trod enc Tryz.prog W 0 (fun _ => true) true k 79 [c0] = some y0 from t0) GB
   obtain ⟨e, he, _⟩ := DataW.trod_bool Tryz.underlying4 (show DataW.trod enc Tryz.prog W 0 (fun _ => true) true k 4 [c1] = some y1 from t1)
   obtain rfl : c1 = .bool e := by simpa using he
   obtain ⟨n2, rfl, q2⟩ := byte_lit Tryz.underlying5 (show DataW.trod enc Tryz.prog W 0 (fun _ => true) true k 5 [c2] = some y2 from t2)
   have g0 := hat 0 (by decide)
   have g1 := hat 1 (by decide)
   have g2 := hat 2 (by decide)
   rw [add_none, add_none] at g0 g1 g2
   exact ⟨(st, e, n2), sl, q2, c0, s0, g0, g1, g2⟩)
  refine ⟨(List.range len).map L, .inr ⟨b, off, cap, by simp, hb, by simpa using hl, ?_, fun i s hx => ?_⟩, by simpa using G6⟩
  ·intro e
   have := congrArg List.length e
   simp at this
   omega
  ·simp only [List.getElem?_map, Option.map_eq_some_iff, List.getElem?_eq_some_iff] at hx
   obtain ⟨k, ⟨hk, rfl⟩, rfl⟩ := hx
   simp at hk ⊢
   exact hL i hk
end
end Go.Proofs.YtbiboekhakbnpaaGreatDoor
