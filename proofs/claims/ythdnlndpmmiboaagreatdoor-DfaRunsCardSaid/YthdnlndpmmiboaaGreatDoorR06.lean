/-
  Walks for the laws on alphabets: few; slices.Equal at ints.
    Walks for the laws on alphabets: cmp.Less, slices.IsSorted at ints.
    Walks for the laws on alphabets: bytes.Equal.
  How a law's row is opened and shut: arguments that are slices of sets, of bytes, of numbers; a law's ending, where the call has only made memory.
    Arguments of the laws on alphabets as the walks take them.
  An append whose source may be nil or not, in plain and in drawn regions.
  Plain facts on the classes of sets (their order), and at the example of the chapter.
    The walk of the laws' 'awake': the examples of the chapter.
-/
import Derived.Test.YthdnlndpmmiboaaGreatDoorR05
import Derived.Deep.QuietTactic
import Derived.BigQuiet
import Derived.Shelf.Bytes.SlEqualAll
import Derived.Test.YthdnlndpmmiboaaGreatDoorProg
import Derived.Test.YthdnlndpmmiboaaGreatDoorR02
import Derived.ProofKit
import Derived.Deep.Slices
import Derived.Test.YthdnlndpmmiboaaGreatDoorR01
import Derived.Maps.AppendAt
import Derived.RegionTactic
import Derived.BigRegion
import Derived.Laws.OwnMore
import Derived.Deep.MidRow
import Derived.Lib.SmallJoins
namespace Go.Proofs.YthdnlndpmmiboaaGreatDoor
open Go Go.RowKit Go.Shelf Go.Maps
attribute [local go_sem] encS

/-- A slice that reads as a list of sets, its capacity with it. -/
def IsSetsC (w : World) (v : Value) (l : List BS) : Prop := IsSets w v l ∧ ∀ a n cap, v = .slice a n cap → n ≤ cap

theorem IsSets.form {w : World} {v : Value} {l : List BS} (h : IsSets w v l) : ∃ a cap, v = .slice a l.length cap := by
  rcases h with ⟨h, rfl⟩ | ⟨b, off, cap, hv, _⟩
  · exact ⟨_, _, h⟩
  · exact ⟨_, _, hv⟩
theorem IsSets.take {w : World} {a : Option Addr} {n cap : Nat} {l : List BS} (h : IsSets w (.slice a n cap) l) (k : Nat) (hk : k ≤ n) (hc : n ≤ cap) : IsSets w (.slice a k cap) (l.take k) ∧ k ≤ cap := by
  refine ⟨?_, by omega⟩
  rcases h with ⟨h, rfl⟩ | ⟨b, off, cap', hv, hb, h⟩
  · cases h
    obtain rfl : k = 0 := by omega
    exact .inl ⟨rfl, rfl⟩
  · cases hv
    refine .inr ⟨b, off, cap, ?_, hb, fun i s hi j hj => h i s ?_ j hj⟩
    · rw [List.length_take, Nat.min_eq_left hk]
    · rw [List.getElem?_take] at hi
      split at hi
      · exact hi
      · cases hi


set_option maxRecDepth 100000 in
set_option maxHeartbeats 1000000 in
theorem slEqual_any (v1 v2 : Value) (l1 l2 : List Int) (w : World) (h1 : IsSl encZ w v1 l1) (h2 : IsSl encZ w v2 l2) (hn : l1.length ≤ 1000000) :
    Calls Tryz.prog 21 #[v1, v2] w fun e w' => e = .returned (.bool (l1 == l2)) ∧ Ext w w' := by
  obtain ⟨a1, c1, rfl⟩ := h1.form
  obtain ⟨a2, c2, rfl⟩ := h2.form
  obtain ⟨n, hnn⟩ : ∃ n, n = l1.length := ⟨_, rfl⟩
  obtain ⟨m, hmm⟩ : ∃ m, m = l2.length := ⟨_, rfl⟩
  rw [← hnn] at hn h1 ⊢
  rw [← hmm] at h2 ⊢
  obtain ⟨r, hr⟩ : ∃ r, r = (l1 == l2) := ⟨_, rfl⟩
  rw [← hr]
  have H1 := Lib.hid h1
  have H2 := Lib.hid h2
  have HN := Lib.hid hnn
  have HM := Lib.hid hmm
  have HR := Lib.hid hr
  clear h1 h2 hnn hmm hr
  by_cases hnm : n = m
  · subst hnm
    go_enter Tryz.func21, Tryz.ntmps21
    go_wp2
    go_loopw [13] (fun i wr => ∃ k : Nat, k ≤ n ∧ i = .int .i64 k ∧ l1.take k = l2.take k ∧ Ext w wr) (fun i _ => n - (intOf i).toNat)
    case atStart => exact ⟨0, by omega, rfl, rfl, Ext.refl _⟩
    case round =>
      obtain ⟨k, hk, rfl, ht, hx⟩ := hrel
      obtain ⟨wo, rfl⟩ : ∃ wo : World, wo = wr := ⟨_, rfl⟩
      by_cases hlt : k < n
      · obtain ⟨x, hxl⟩ : ∃ x, l1[k]? = some x := ⟨_, List.getElem?_eq_getElem (by have := HN.out; omega)⟩
        obtain ⟨y, hyl⟩ : ∃ y, l2[k]? = some y := ⟨_, List.getElem?_eq_getElem (by have := HM.out; omega)⟩
        obtain ⟨g1, o1, rfl, hg1, hc1⟩ := H1.out.elem hxl
        obtain ⟨g2, o2, rfl, hg2, hc2⟩ := H2.out.elem hyl
        have d1 : wo.cell? ⟨g1, o1 + k, none⟩ = some (.int .i64 x) := (hx.cell (p := ⟨g1, o1 + k, none⟩) hg1).trans hc1
        have d2 : wo.cell? ⟨g2, o2 + k, none⟩ = some (.int .i64 y) := (hx.cell (p := ⟨g2, o2 + k, none⟩) hg2).trans hc2
        have HXL := Lib.hid hxl
        have HYL := Lib.hid hyl
        have HT := Lib.hid ht
        have HX := Lib.hid hx
        clear hxl hyl ht hx hc1 hc2
        go_wp2
        refine wp_region_lexK (fun b => b = g1 ∨ b = g2) (by kernel_rfl) (fun i => false) (by kernel_rfl) ?_
        intro C hC hne W0 hK0 hblk hsz hx0
        have f1 := lexCell hC (.inl rfl) d1
        have f2 := lexCell hC (.inr rfl) d2
        have HX0 := Lib.hid hx0
        clear hC hK0 hblk hsz hx0 d1 d2
        repeat (refine wpLex_step (fun K hK => ?_); refine lexOp_float rfl ?_; unfold floatAt; go_simp; refine hK _ _ ?_; clear hK K)
        refine wpLex_nil ?_
        by_cases hxy : x = y
        · subst hxy
          go_wp2
          go_roundw
          case rel =>
            refine ⟨k + 1, by omega, by go_num, ?_, HX.out.trans HX0.out⟩
            rw [List.take_add_one, List.take_add_one, HXL.out, HYL.out, HT.out]
          case measure => simp [intOf]; omega
        · have hr : r = false := by
            rw [HR.out, beq_eq_false_iff_ne]
            intro e
            have h1 := HXL.out
            rw [e, HYL.out] at h1
            exact hxy (Option.some.inj h1).symm
          have HRR := Lib.hid hr
          clear hr
          go_wp2
          go_ret
          exact ⟨by rw [HRR.out]; rfl, HX.out.trans HX0.out⟩
      · obtain rfl : k = n := by omega
        have hr : r = true := by
          rw [HR.out, beq_iff_eq, ← List.take_of_length_le (l := l1) (i := k) (by have := HN.out; omega), ht, List.take_of_length_le (by have := HM.out; omega)]
        have HRR := Lib.hid hr
        have HX := Lib.hid hx
        clear ht hr hx
        go_wp2
        go_ret
        exact ⟨by rw [HRR.out]; rfl, HX.out⟩
  · have hr : r = false := by
      rw [HR.out, beq_eq_false_iff_ne]
      intro e
      have h1 := HN.out; have h2 := HM.out
      rw [e] at h1; omega
    have HRR := Lib.hid hr
    clear hr
    go_enter Tryz.func21, Tryz.ntmps21
    go_wp2
    go_ret
    exact ⟨by rw [HRR.out]; rfl, Ext.refl _⟩
end Go.Proofs.YthdnlndpmmiboaaGreatDoor

namespace Go.Proofs.YthdnlndpmmiboaaGreatDoor
open Go Go.RowKit Go.Shelf Go.Maps

theorem ext_drewN {A B : World} (h : Ext A B) (n : Nat) : Ext A (B.drewN n) := ⟨h.os, h.tape, h.output, Nat.le_add_right_of_le h.drawn, h.size, h.keep⟩
end Go.Proofs.YthdnlndpmmiboaaGreatDoor

namespace Go.Proofs.YthdnlndpmmiboaaGreatDoor
open Go Go.RowKit Go.Shelf Go.Maps

end Go.Proofs.YthdnlndpmmiboaaGreatDoor
namespace Go.Proofs.YthdnlndpmmiboaaGreatDoor
open Go Go.RowKit Go.WideShapes Go.ChangeShapes Go.ChangeAt Go.Deep

section
variable {H : Type} {enc : TypeId × Value → H} {P : Program}

theorem trodAll_stays (hl : laidOutB P = true) {W W' : World} {sp : Nat → Bool} : ∀ (ts : List TypeId) (vs : List Value) (ds : List (DataW H)) (ps : List MemPlace), (∀ t ∈ ts, P.readableRec t = true ∧ t < P.types.size) →
    DataW.TrodAll enc P W 0 (fun _ => true) true ts vs ds ps → (∀ p ∈ ps, W.sameAt W' p) → (∀ p ∈ ps, sp p.block = true) → DataW.TrodAll enc P W' 0 sp true ts vs ds ps
  | [], vs, ds, ps, _, h, _, _ => by
    obtain ⟨rfl, rfl, rfl⟩ := trodAll_nil h
    rfl
  | t :: ts, vs, ds, ps, ht, h, hs, hsp => by
    obtain ⟨v, vs', d, ds', p, q, rfl, rfl, rfl, h1, h2⟩ := trodAll_cons h
    exact ⟨p, q, WideElems.Trod_stays hl (ht t (by simp)).1 (ht t (by simp)).2 h1 (fun x hx => hs x (by simp [hx])) (fun x hx => hsp x (by simp [hx])),
      trodAll_stays hl ts vs' ds' q (fun t h => ht t (by simp [h])) h2 (fun x hx => hs x (by simp [hx])) (fun x hx => hsp x (by simp [hx])), rfl⟩

/-- The ending of a law's call that has made memory, and turned none. -/
theorem law_post (hl : laidOutB P = true) {f : Func} {s : ChangeSpec} {apart fresh handsOn : Bool} {W W' : World} {args : Array Value} {ds gs : List (DataW H)} {before : List MemPlace} {tb : TypeId}
    (hvars : s.vars = []) (hts : ∀ t ∈ f.params.toList, P.readableRec t = true ∧ t < P.types.size) (hres : f.resultTypes = #[tb]) (htb : P.underlying tb = some .bool)
    (hfn : s.fn H ds = { results := [.lit (.bool true)], args := ds }) (hW : DataW.Whole enc P f.params.toList s.vars apart W args.toList ds gs before) (hb : Below W.heap.size W W') :
    s.post enc P f apart fresh handsOn false W args (.bool true) W' := by
  have hW' := hW
  obtain ⟨p, q, hA, hV, rfl, hz, hn⟩ := hW
  have hV' := hV
  rw [hvars] at hV'
  obtain ⟨rfl, rfl⟩ := trodVars_none hV'
  have hlt : ∀ x ∈ p ++ [], x.block < W.heap.size := fun x hx => hW'.lt x hx
  simp only [List.append_nil] at hlt hW'
  refine ⟨ds, [], p, [], p, [], hW', ?_, ?_, ?_, ?_, fun h => (by cases h)⟩
  · rw [List.append_nil, hfn, hres]
    exact trodAll_mk1 (shut_bool htb true)
  · rw [List.append_nil, hfn]
    exact trodAll_stays hl _ _ _ _ hts hA (fun x hx => hb.same (hlt x hx)) (fun x hx => by simpa using hlt x hx)
  · rw [List.append_nil, hfn, hvars]
    rfl
  · exact World.keptBut_mono (fun x hx => ⟨hx, Or.inr (.inl hx)⟩) (hb.frame (· ∈ p))

end
section
variable {H : Type} {enc : TypeId × Value → H} {W : World} {base : Nat} {sp : Nat → Bool}

theorem okWide_row {P : Program} {r : Reach} {t e : TypeId} {a : Addr} {len cap : Nat} (ht : P.underlying t = some (.slice e)) (h : Value.okWide P W r base t (.slice (some a) len cap)) : a.spot = none ∧ a.block < W.heap.size := by
  simp only [Value.okWide, ht, Cell.okWide, Cell.ok] at h
  obtain ⟨_, _, _, hs, row, cells, hsh, _⟩ := h
  refine ⟨hs, ?_⟩
  unfold World.shape? at hsh
  cases hh : W.heap[a.block]? with
  | none => simp [hh] at hsh
  | some o => exact (Array.getElem?_eq_some_iff.1 hh).1

theorem trod_set {n : Nat} {cs : List Value} {x : DataW H × List MemPlace} (h : DataW.trod enc Tryz.prog W base sp true n 65 cs = some x) : ∃ s : BS, cs = (encS s).toList := by
  cases n with
  | zero => simp [DataW.trod] at h
  | succ n =>
  have hc : Tryz.prog.cellsOf 65 = 4 := by kernel_rfl
  have hc1 : Tryz.prog.cellsOf 63 = 1 := by kernel_rfl
  simp only [DataW.trod, Tryz.underlying65, hc, hc1] at h
  split at h
  · rename_i hlen
    match cs, hlen with
    | [c0, c1, c2, c3], _ =>
    simp only [Option.map_eq_some_iff, show List.range 4 = [0, 1, 2, 3] from rfl, List.mapM_cons, List.mapM_nil, Option.bind_eq_bind, Option.bind_eq_some_iff, Option.pure_def, Option.some.injEq] at h
    obtain ⟨xs, ⟨y0, h0, _, ⟨y1, h1, _, ⟨y2, h2, _, ⟨y3, h3, _, _⟩, _⟩, _⟩, _⟩, _⟩ := h
    obtain ⟨z0, e0, _, w0⟩ := DataW.trod_int Tryz.underlying63 h0
    obtain ⟨z1, e1, _, w1⟩ := DataW.trod_int Tryz.underlying63 h1
    obtain ⟨z2, e2, _, w2⟩ := DataW.trod_int Tryz.underlying63 h2
    obtain ⟨z3, e3, _, w3⟩ := DataW.trod_int Tryz.underlying63 h3
    simp at e0 e1 e2 e3
    subst e0 e1 e2 e3
    have key : ∀ z : Int, (Lit.int .u64 z).wf = true → ((BitVec.ofNat 64 z.toNat).toNat : Int) = z := fun z hz => by
      simp only [Lit.wf, Bool.and_eq_true, decide_eq_true_eq] at hz
      have h1 : IntKind.u64.min = 0 := by decide
      have h2 : IntKind.u64.max = 18446744073709551615 := by decide
      rw [h1, h2] at hz
      rw [BitVec.toNat_ofNat, Nat.mod_eq_of_lt (by omega)]
      omega
    refine ⟨ofWords (BitVec.ofNat 64 z0.toNat) (BitVec.ofNat 64 z1.toNat) (BitVec.ofNat 64 z2.toNat) (BitVec.ofNat 64 z3.toNat), ?_⟩
    rw [encS_ofWords, key _ w0, key _ w1, key _ w2, key _ w3]
  · cases h


set_option maxRecDepth 100000 in
theorem open_sets {r : Reach} {v : Value} {d : DataW H} {p : List MemPlace} {b0 : Nat} (hok : Value.okWide Tryz.prog W r b0 26 v) (h : DataW.Trod enc Tryz.prog W 0 (fun _ => true) true 26 v d p) :
    ∃ (l : List BS), l.length ≤ maxLen ∧ ((v = .slice none 0 0 ∧ l = []) ∨ ∃ b off cap, v = .slice (some ⟨b, off, none⟩) l.length cap ∧ l.length ≤ cap ∧ b < W.heap.size ∧ ∀ i s, l[i]? = some s → ∀ j, j < 4 → W.cell? ⟨b, off + i * 4 + j, none⟩ = (encS s)[j]?) := by
  obtain ⟨a, len, cap, rfl⟩ := okWide_slice Tryz.underlying26 hok
  obtain ⟨fuel, hf⟩ := h
  rcases open_slice Tryz.underlying26 hf with ⟨hcs, _⟩ | ⟨a', len', cap', m, n, D, Pl, hcs, _, hl, hm, hmm, _, hi⟩
  · have : Value.slice a len cap = .slice none 0 0 := by simpa [Value.cells] using hcs
    cases this
    exact ⟨[], by simp, .inl ⟨rfl, rfl⟩⟩
  · have : Value.slice a len cap = .slice (some a') len' cap' := by simpa [Value.cells] using hcs
    cases this
    obtain ⟨hs, hb⟩ := okWide_row Tryz.underlying26 hok
    obtain ⟨b, off, spot⟩ := a'
    have hs' : spot = none := hs
    subst hs'
    have hc : Tryz.prog.cellsOf 65 = 4 := by kernel_rfl
    rw [hc] at hi
    rw [if_pos rfl] at hmm
    have hadd : ∀ (o i : Nat), (⟨b, o, none⟩ : Addr).add i = ⟨b, o + i, none⟩ := fun o i => by
      unfold Addr.add
      split
      · rename_i h; subst h; rfl
      · rfl
    obtain ⟨S, hS⟩ := choose_lt (α := BS) (p := fun i s => ∀ j, j < 4 → W.cell? ⟨b, off + i * 4 + j, none⟩ = (encS s)[j]?) (n := len) (fun i hil => by
      obtain ⟨cs', h1, h2⟩ := hi i (by omega)
      obtain ⟨s, rfl⟩ := trod_set h2
      obtain ⟨_, _, hat⟩ := World.cells?_some h1
      refine ⟨s, fun j hj => ?_⟩
      have := hat j (by simpa using hj)
      rw [hadd, hadd] at this
      rw [this, Array.getElem?_toList])
    refine ⟨(List.range len).map S, ?_, .inr ⟨b, off, cap, ?_, ?_, hb, fun i s his j hj => ?_⟩⟩
    · simp; omega
    · simp
    · simpa using hl
    · simp only [List.getElem?_map, Option.map_eq_some_iff, List.getElem?_eq_some_iff] at his
      obtain ⟨k, ⟨hk, rfl⟩, rfl⟩ := his
      simp at hk ⊢
      exact hS i hk j hj


set_option maxRecDepth 100000 in
theorem open_nums {k : IntKind} {t e : TypeId} {r : Reach} {v : Value} {d : DataW H} {p : List MemPlace} {b0 : Nat} (ht : Tryz.prog.underlying t = some (.slice e)) (he : Tryz.prog.underlying e = some (.int k)) (hc : Tryz.prog.cellsOf e = 1)
    (hok : Value.okWide Tryz.prog W r b0 t v) (h : DataW.Trod enc Tryz.prog W 0 (fun _ => true) true t v d p) :
    ∃ (l : List Int), l.length ≤ maxLen ∧ (∀ n ∈ l, (Lit.int k n).wf = true) ∧ ((v = .slice none 0 0 ∧ l = []) ∨ ∃ b off cap, v = .slice (some ⟨b, off, none⟩) l.length cap ∧ l.length ≤ cap ∧ b < W.heap.size ∧ ∀ i x, l[i]? = some x → W.cell? ⟨b, off + i, none⟩ = some (.int k x)) := by
  obtain ⟨a, len, cap, rfl⟩ := okWide_slice ht hok
  obtain ⟨fuel, hf⟩ := h
  rcases open_ints ht he hc hf with ⟨hcs, _⟩ | ⟨a', len', cap', zs, hcs, _, hl, hm, hzs, _, hi, hwf⟩
  · have : Value.slice a len cap = .slice none 0 0 := by simpa [Value.cells] using hcs
    cases this
    exact ⟨[], by simp, by simp, .inl ⟨rfl, rfl⟩⟩
  · have : Value.slice a len cap = .slice (some a') len' cap' := by simpa [Value.cells] using hcs
    cases this
    obtain ⟨hs, hb⟩ := okWide_row ht hok
    obtain ⟨b, off, spot⟩ := a'
    have hs' : spot = none := hs
    subst hs'
    rw [if_pos rfl] at hzs
    have hadd : ∀ (o i : Nat), (⟨b, o, none⟩ : Addr).add i = ⟨b, o + i, none⟩ := fun o i => by
      unfold Addr.add
      split
      · rename_i h; subst h; rfl
      · rfl
    have hlen : (zs.take len).length = len := by rw [List.length_take]; omega
    refine ⟨zs.take len, by rw [hlen]; omega, fun n hn => hwf n (List.mem_of_mem_take hn), .inr ⟨b, off, cap, by rw [hlen], by rw [hlen]; exact hl, hb, fun i x hx => ?_⟩⟩
    rw [List.getElem?_take] at hx
    split at hx
    · have hiz : i < zs.length := (List.getElem?_eq_some_iff.1 hx).1
      have := hi i hiz
      rw [hadd, List.getD_eq_getElem?_getD, hx] at this
      exact this
    · cases hx
end
end Go.Proofs.YthdnlndpmmiboaaGreatDoor

namespace Go.Proofs.YthdnlndpmmiboaaGreatDoor
open Go Go.ChangeShapes Go.WideShapes Go.ChangeAt Go.RowKit
section
variable {H : Type} {enc : TypeId × Value → H} {W : World}

set_option maxRecDepth 100000 in
theorem open_setsC {r : Reach} {v : Value} {d : DataW H} {p : List MemPlace} {b0 : Nat} (hok : Value.okWide Tryz.prog W r b0 26 v) (h : DataW.Trod enc Tryz.prog W 0 (fun _ => true) true 26 v d p) :
    ∃ l : List BS, l.length ≤ maxLen ∧ IsSetsC W v l := by
  obtain ⟨l, hlen, hl⟩ := open_sets hok h
  refine ⟨l, hlen, ?_⟩
  rcases hl with ⟨rfl, rfl⟩ | ⟨b, off, cap, rfl, hc, hb, hcell⟩
  · exact ⟨.inl ⟨rfl, rfl⟩, fun a n cap e => by cases e; exact Nat.le_refl _⟩
  · exact ⟨.inr ⟨b, off, cap, rfl, hb, hcell⟩, fun a n cap' e => by cases e; exact hc⟩

theorem u8_of_wf {n : Int} (h : (Lit.int .u8 n).wf = true) : 0 ≤ n ∧ n < 256 := by
  simp only [Lit.wf, Bool.and_eq_true, decide_eq_true_eq] at h
  have h1 : IntKind.u8.min = 0 := by decide
  have h2 : IntKind.u8.max = 255 := by decide
  omega

set_option maxRecDepth 100000 in
theorem open_bytesB {r : Reach} {v : Value} {d : DataW H} {p : List MemPlace} {b0 : Nat} (hok : Value.okWide Tryz.prog W r b0 30 v) (h : DataW.Trod enc Tryz.prog W 0 (fun _ => true) true 30 v d p) :
    ∃ l : List Nat, l.length ≤ maxLen ∧ (∀ c ∈ l, c < 256) ∧ IsSl encB W v l := by
  obtain ⟨l, hlen, hwf, hl⟩ := open_nums (e := 5) Tryz.underlying30 Tryz.underlying5 (by kernel_rfl) hok h
  refine ⟨l.map Int.toNat, by simpa using hlen, fun c hc => ?_, ?_⟩
  · obtain ⟨n, hn, rfl⟩ := List.mem_map.1 hc
    have := u8_of_wf (hwf n hn); omega
  · rcases hl with ⟨rfl, rfl⟩ | ⟨b, off, cap, rfl, hc, hb, hcell⟩
    · exact .inl ⟨rfl, rfl⟩
    · refine .inr ⟨b, off, cap, by rw [List.length_map], hb, by rw [List.length_map]; exact hc, fun i x hi => ?_⟩
      rw [List.getElem?_map] at hi
      obtain ⟨n, hn, rfl⟩ := Option.map_eq_some_iff.1 hi
      rw [hcell i n hn]
      have := u8_of_wf (hwf n (List.mem_of_getElem? hn))
      show some (Value.int .u8 n) = some (Value.int .u8 ((n.toNat : Nat) : Int))
      rw [Int.toNat_of_nonneg this.1]
end
theorem Tryz.own : ownKnob Tryz.prog.godebug = none := by kernel_rfl
theorem Tryz.laidOut : laidOutB Tryz.prog = true := by kernel_rfl
end Go.Proofs.YthdnlndpmmiboaaGreatDoor
namespace Go.Proofs.YthdnlndpmmiboaaGreatDoor
open Go Go.RowKit

/-- What is appended: m elements, these cells; or nil. -/
def SrcOf (w : World) (x : Value) (m : Nat) (news : List Value) : Prop := (x = .slice none 0 0 ∧ m = 0 ∧ news = []) ∨ ∃ ad c, x = .slice (some ad) m c ∧ ∀ j u, news[j]? = some u → w.cell? (ad.add j) = some u
theorem SrcOf.below {w w' : World} {x : Value} {m : Nat} {news : List Value} (h : SrcOf w x m news) (hk : ∀ (a : Addr) v, w.cell? a = some v → w'.cell? a = some v) : SrcOf w' x m news := by
  rcases h with h | ⟨ad, c, h1, h2⟩
  · exact .inl h
  · exact .inr ⟨ad, c, h1, fun j u hu => hk _ _ (h2 j u hu)⟩
theorem SrcOf.one {w : World} {b : Nat} {c : Array Value} {t : TypeId} {m cap : Nat} (h : Blk w b c t) : SrcOf w (.slice (some ⟨b, 0, none⟩) m cap) m c.toList := .inr ⟨_, _, rfl, news_blk h⟩

section
variable {P : Program} {ops : Array Oper} {F : Fence} {n : Nat} {C : World → Prop}
theorem run_append_src (w : World) (base : Nat) (t ty e : TypeId) (i : TypeInfo) (z : Value) (size bytes : Nat) (ht : P.underlying t = some (.slice e)) (hi : P.info? e = some i) (hz : i.zero = some z)
    (hsize : i.size = size) (hby : i.bytes = bytes) (hzs : z.cells.size = size) (hsz : 0 < size) (v : Value) (k : Nat) (xs : List Value) (hown : w.ownsRow base e size v k xs)
    (x : Value) (m : Nat) (news : List Value) (hx : SrcOf w x m news) (hl : news.length = m * size) (h1 : ∀ u ∈ news, u.oneCell' = true) (h63 : k + m ≤ maxLen) (hbytes : (k + m) * bytes ≤ 140737488355328) (hbase : base ≤ w.heap.size) :
    ∃ v' w', (Builtin.append_ #[t, t] ty #[v, x]).run P w = .ok v' w' ∧ w'.ownsRow base e size v' (k + m) (xs ++ news) ∧ w.grownBy w' v.ownBlock := by
  rcases hx with ⟨rfl, rfl, rfl⟩ | ⟨ad, c, rfl, hnews⟩
  · refine ⟨v, w, ?_, ?_, World.grownBy.refl _ _⟩
    · exact run_append_owned_none (P := P) (w := w) base t ty e i size ht hi v k xs hown
    · rw [List.append_nil]; exact hown
  · obtain ⟨v', w', hr, h2, h3, _⟩ := run_append_own_at (P := P) w base t ty e i z size bytes ht hi hz hsize hby hzs hsz v k xs hown ad m c news hl hnews h1 h63 hbytes hbase
    exact ⟨v', w', hr, h2, h3⟩
theorem effAt_appendS {o : Oper} {a : Act} {w : World} {K : Act → World → Prop} (s x : Operand) (t : TypeId)
    (ho : o.op = .call { callee := .builtin .append, args := #[s, x], argTypes := #[t, t] })
    (base : Nat) (e : TypeId) (i : TypeInfo) (z : Value) (size bytes : Nat) (ht : P.underlying t = some (.slice e)) (hi : P.info? e = some i) (hz : i.zero = some z)
    (hsize : i.size = size) (hby : i.bytes = bytes) (hzs : z.cells.size = size) (hsz : 0 < size)
    (v : Value) (k : Nat) (xs : List Value) (hs : a.eval s = v) (hown : w.ownsRow base e size v k xs)
    (xv : Value) (m : Nat) (news : List Value) (hx : a.eval x = xv) (hsrc : SrcOf w xv m news) (hl : news.length = m * size) (h1 : ∀ u ∈ news, u.oneCell' = true)
    (h63 : k + m ≤ maxLen) (hbytes : (k + m) * bytes ≤ 140737488355328) (hbase : base ≤ w.heap.size)
    (h : ∀ v' w', w'.ownsRow base e size v' (k + m) (xs ++ news) → w.grownBy w' v.ownBlock → C w' ∧ K (a.put o.dst v') w') :
    effAt F n P C o.dst a K ((execOp a.eval o).run P w) := by
  obtain ⟨v', w', hr, h2, h3⟩ := run_append_src (P := P) w base t o.type e i z size bytes ht hi hz hsize hby hzs hsz v k xs hown xv m news hsrc hl h1 h63 hbytes hbase
  unfold execOp
  simp only [ho, resolve, invoke, builtin, Sem.run_bind, Sem.run_pure, Result.andThen_ok, List.map_toArray, List.map_cons, List.map_nil, hs, hx, hr]
  exact h v' w' h2 h3
theorem wpList_wantedS {Q : Exit → Act → World → Prop} {a : Act} {w : World} {rest : List Oper} {o : Oper} (hw : Region.wanted o (yielded ops a.tmps) = true)
    (h : ∀ K : Act → World → Prop, (∀ a w, wpList P ops Q rest a w → K a w) → o.wp P a w K Q) : wpList P ops Q (o :: rest) a w := by
  unfold wpList
  rw [if_pos hw]
  exact .inl (h _ fun _ _ h => h)
theorem wpList_appendS {rest : List Oper} {o : Oper} {a : Act} {w : World} {Q : Exit → Act → World → Prop} (hw : Region.wanted o (yielded ops a.tmps) = true) (s x : Operand) (t : TypeId)
    (ho : o.op = .call { callee := .builtin .append, args := #[s, x], argTypes := #[t, t] })
    (base : Nat) (e : TypeId) (i : TypeInfo) (z : Value) (size bytes : Nat) (ht : P.underlying t = some (.slice e)) (hi : P.info? e = some i) (hz : i.zero = some z)
    (hsize : i.size = size) (hby : i.bytes = bytes) (hzs : z.cells.size = size) (hsz : 0 < size)
    (v : Value) (k : Nat) (xs : List Value) (hs : a.eval s = v) (hown : w.ownsRow base e size v k xs)
    (xv : Value) (m : Nat) (news : List Value) (hx : a.eval x = xv) (hsrc : SrcOf w xv m news) (hl : news.length = m * size) (h1 : ∀ u ∈ news, u.oneCell' = true)
    (h63 : k + m ≤ maxLen) (hbytes : (k + m) * bytes ≤ 140737488355328) (hbase : base ≤ w.heap.size)
    (h : ∀ v' w', w'.ownsRow base e size v' (k + m) (xs ++ news) → w.grownBy w' v.ownBlock → wpList P ops Q rest (a.put o.dst v') w') :
    wpList P ops Q (o :: rest) a w := by
  refine wpList_wantedS hw fun K hK => ?_
  obtain ⟨v', w', hr, h2, h3⟩ := run_append_src (P := P) w base t o.type e i z size bytes ht hi hz hsize hby hzs hsz v k xs hown xv m news hsrc hl h1 h63 hbytes hbase
  unfold Oper.wp execOp
  simp only [ho, resolve, invoke, builtin, Sem.run_bind, Sem.run_pure, Result.andThen_ok, List.map_toArray, List.map_cons, List.map_nil, hs, hx, hr]
  exact hK _ _ (h v' w' h2 h3)
end
theorem ownsRow_setCells {base : Nat} {e : TypeId} {size g n cap : Nat} (o0 : Nat) : ∀ (vs : List Value) (o : Nat) (w : World) (xs : List Value), o0 ≤ o → w.ownsRow base e size (.slice (some ⟨g, 0, none⟩) n cap) n xs →
    ∃ ys, (w.setCells g o vs).ownsRow base e size (.slice (some ⟨g, 0, none⟩) n cap) n ys ∧ Keeps (· ≠ g) w (w.setCells g o vs)
  | [], _, w, xs, _, h => ⟨xs, h, Keeps.refl _ _⟩
  | v :: r, o, w, xs, ho, h => by
    obtain ⟨ys, h1, h2⟩ := ownsRow_setCells o0 r (o + 1) _ _ (by omega) (h.stored o v).1
    exact ⟨ys, h1, ((Keeps.refl (· ≠ g) w).setCell (p := ⟨g, o, none⟩) (fun h => h rfl) v).tr h2⟩
theorem ownsRow_there {base : Nat} {e : TypeId} {size g n cap : Nat} {w : World} {xs : List Value} (h : w.ownsRow base e size (.slice (some ⟨g, 0, none⟩) n cap) n xs) {o k : Nat} (hk : o + k ≤ n * size) : w.there g o k := fun j hj => by
  refine ⟨?_, h.frozenAt _⟩
  rw [h.cellAt _ (by omega)]
  have hl := h.1
  rw [List.getElem?_eq_getElem (by omega)]; rfl
end Go.Proofs.YthdnlndpmmiboaaGreatDoor
namespace Go.Proofs.YthdnlndpmmiboaaGreatDoor
open Go Go.RowKit Go.Shelf Go.Maps

theorem le_trans_S (a b c : BS) (h : (!ltOf compareOf b a) = true) (k : (!ltOf compareOf c b) = true) : (!ltOf compareOf c a) = true := by
  simp only [Bool.not_eq_true'] at *
  cases hca : ltOf compareOf c a with
  | false => rfl
  | true =>
    exfalso
    rw [← Bool.not_eq_true, ltOf_iff] at h k
    rw [ltOf_iff] at hca
    rcases ltS_total a b with e | e | e
    · subst e; exact k hca
    · exact k (ltS_trans hca e)
    · exact h e
theorem le_total_S (a b : BS) : ((!ltOf compareOf b a) || (!ltOf compareOf a b)) = true := by
  cases hba : ltOf compareOf b a with
  | false => rfl
  | true =>
    cases hab : ltOf compareOf a b with
    | false => rfl
    | true =>
      rw [ltOf_iff] at hba hab
      exact absurd (ltS_trans hba hab) (ltS_irrefl b)
theorem partsOf_sorted (l : List BS) : (partsOf l).Pairwise fun x y => (!ltOf compareOf y x) = true := List.pairwise_mergeSort le_trans_S le_total_S _
theorem partsOf_perm (l : List BS) : (partsOf l).Perm (partsRaw l) := List.mergeSort_perm _ _
end Go.Proofs.YthdnlndpmmiboaaGreatDoor

namespace Go.Proofs.YthdnlndpmmiboaaGreatDoor
open Go Go.RowKit Go.Shelf Go.Maps
attribute [local go_sem] encS

theorem blk_isSl {α : Type} {enc : α → Value} {w : World} {B : Nat} {c : Array Value} {t : TypeId} {fr : Nat × Nat} {n cap : Nat} (l : List α) (h : w.heap[B]? = some (.cells c t fr)) (hc : c.toList = l.map enc) (hn : n = l.length) (hcap : l.length ≤ cap) : IsSl enc w (.slice (some ⟨B, 0, none⟩) n cap) l := by
  refine .inr ⟨B, 0, cap, by rw [hn], (Array.getElem?_eq_some_iff.1 h).1, hcap, fun i x hi => ?_⟩
  rw [cell_of_row w B (0 + i) c t fr h, Nat.zero_add, ← Array.getElem?_toList, hc, List.getElem?_map, hi]; rfl
theorem blk_isSets {w : World} {B : Nat} {c : Array Value} {t : TypeId} {n cap : Nat} (l : List BS) (h : Blk w B c t) (hc : c.toList = flatS l) (hn : n = l.length) : IsSets w (.slice (some ⟨B, 0, none⟩) n cap) l := by
  refine .inr ⟨B, 0, cap, by rw [hn], h.lt, fun i s hi j hj => ?_⟩
  rw [h.cell, Nat.zero_add, ← Array.getElem?_toList, hc]
  have := flatS_get l hi hj
  simpa using this
theorem ownsRow_below {w w' : World} {base n size : Nat} {v : Value} {e : TypeId} {l : List Value} (h : w.ownsRow base e size v n l) (hk : Below w.heap.size w w') : w'.ownsRow base e size v n l :=
  ownsRow_keeps h (Keeps.of_below hk fun _ h => h) (fun k e => (h.lt k e).2)

end Go.Proofs.YthdnlndpmmiboaaGreatDoor
