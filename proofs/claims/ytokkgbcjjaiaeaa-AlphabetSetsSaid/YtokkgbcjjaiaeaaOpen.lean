/-
  How a law's row is opened and shut: arguments that are slices of sets, of bytes, of numbers; a law's ending, where the call has only made memory.
  Arguments of the laws on alphabets as the walks take them.
-/
import Derived.Test.YtokkgbcjjaiaeaaSets
import Derived.Test.YtokkgbcjjaiaeaaProg
import Derived.ProofKit
import Derived.Deep.Slices
import Derived.Test.YtokkgbcjjaiaeaaLaw
namespace Go.Proofs.Ytokkgbcjjaiaeaa
open Go Go.RowKit Go.WideShapes Go.ChangeShapes Go.ChangeAt Go.Deep

section
variable {H : Type} {enc : TypeId × Value → H} {P : Program}

theorem trodAll_stays (hl : laidOutB P = true) {W W' : World} {sp : Nat → Bool} : ∀ (ts : List TypeId) (vs : List Value) (ds : List (DataW H)) (ps : List MemPlace), (∀ t ∈ ts, P.readableRec t = true ∧ t < P.types.size) →
    DataW.TrodAll enc P W 0 (fun _ => true) true ts vs ds ps → (∀ p ∈ ps, W.sameAt W' p) → (∀ p ∈ ps, sp p.block = true) → DataW.TrodAll enc P W' 0 sp true ts vs ds ps
  | [], vs, ds, ps, _, h, _, _ => by
    obtain ⟨rfl, rfl, rfl⟩ := trodAll_nil h
    rfl
  | t :: ts, vs, ds, ps, ht, h, hs, hsp => by
    obtain ⟨v, vs', d, ds', p, q, rfl, rfl, rfl, h1, h2⟩ := trodAll_cons h
    exact ⟨p, q, WideElems.Trod_stays hl (ht t (by simp)).1 (ht t (by simp)).2 h1 (fun x hx => hs x (by simp [hx])) (fun x hx => hsp x (by simp [hx])),
      trodAll_stays hl ts vs' ds' q (fun t h => ht t (by simp [h])) h2 (fun x hx => hs x (by simp [hx])) (fun x hx => hsp x (by simp [hx])), rfl⟩

/-- The ending of a law's call that has made memory, and turned none. -/
theorem law_post (hl : laidOutB P = true) {f : Func} {s : ChangeSpec} {apart fresh handsOn : Bool} {W W' : World} {args : Array Value} {ds gs : List (DataW H)} {before : List MemPlace} {tb : TypeId}
    (hvars : s.vars = []) (hts : ∀ t ∈ f.params.toList, P.readableRec t = true ∧ t < P.types.size) (hres : f.resultTypes = #[tb]) (htb : P.underlying tb = some .bool)
    (hfn : s.fn H ds = { results := [.lit (.bool true)], args := ds }) (hW : DataW.Whole enc P f.params.toList s.vars apart W args.toList ds gs before) (hb : Below W.heap.size W W') :
    s.post enc P f apart fresh handsOn false W args (.bool true) W' := by
  have hW' := hW
  obtain ⟨p, q, hA, hV, rfl, hz, hn⟩ := hW
  have hV' := hV
  rw [hvars] at hV'
  obtain ⟨rfl, rfl⟩ := trodVars_none hV'
  have hlt : ∀ x ∈ p ++ [], x.block < W.heap.size := fun x hx => hW'.lt x hx
  simp only [List.append_nil] at hlt hW'
  refine ⟨ds, [], p, [], p, [], hW', ?_, ?_, ?_, ?_, fun h => (by cases h)⟩
  · rw [List.append_nil, hfn, hres]
    exact trodAll_mk1 (shut_bool htb true)
  · rw [List.append_nil, hfn]
    exact trodAll_stays hl _ _ _ _ hts hA (fun x hx => hb.same (hlt x hx)) (fun x hx => by simpa using hlt x hx)
  · rw [List.append_nil, hfn, hvars]
    rfl
  · exact World.keptBut_mono (fun x hx => ⟨hx, Or.inr (.inl hx)⟩) (hb.frame (· ∈ p))

end
section
variable {H : Type} {enc : TypeId × Value → H} {W : World} {base : Nat} {sp : Nat → Bool}

theorem okWide_row {P : Program} {r : Reach} {t e : TypeId} {a : Addr} {len cap : Nat} (ht : P.underlying t = some (.slice e)) (h : Value.okWide P W r base t (.slice (some a) len cap)) : a.spot = none ∧ a.block < W.heap.size := by
  simp only [Value.okWide, ht, Cell.okWide, Cell.ok] at h
  obtain ⟨_, _, _, hs, row, cells, hsh, _⟩ := h
  refine ⟨hs, ?_⟩
  unfold World.shape? at hsh
  cases hh : W.heap[a.block]? with
  | none => simp [hh] at hsh
  | some o => exact (Array.getElem?_eq_some_iff.1 hh).1

theorem trod_set {n : Nat} {cs : List Value} {x : DataW H × List MemPlace} (h : DataW.trod enc Try.prog W base sp true n 25 cs = some x) : ∃ s : BS, cs = (encS s).toList := by
  cases n with
  | zero => simp [DataW.trod] at h
  | succ n =>
  have hc : Try.prog.cellsOf 25 = 4 := by kernel_rfl
  have hc1 : Try.prog.cellsOf 23 = 1 := by kernel_rfl
  simp only [DataW.trod, Try.underlying25, hc, hc1] at h
  split at h
  · rename_i hlen
    match cs, hlen with
    | [c0, c1, c2, c3], _ =>
    simp only [Option.map_eq_some_iff, show List.range 4 = [0, 1, 2, 3] from rfl, List.mapM_cons, List.mapM_nil, Option.bind_eq_bind, Option.bind_eq_some_iff, Option.pure_def, Option.some.injEq] at h
    obtain ⟨xs, ⟨y0, h0, _, ⟨y1, h1, _, ⟨y2, h2, _, ⟨y3, h3, _, _⟩, _⟩, _⟩, _⟩, _⟩ := h
    obtain ⟨z0, e0, _, w0⟩ := DataW.trod_int Try.underlying23 h0
    obtain ⟨z1, e1, _, w1⟩ := DataW.trod_int Try.underlying23 h1
    obtain ⟨z2, e2, _, w2⟩ := DataW.trod_int Try.underlying23 h2
    obtain ⟨z3, e3, _, w3⟩ := DataW.trod_int Try.underlying23 h3
    simp at e0 e1 e2 e3
    subst e0 e1 e2 e3
    have key : ∀ z : Int, (Lit.int .u64 z).wf = true → ((BitVec.ofNat 64 z.toNat).toNat : Int) = z := fun z hz => by
      simp only [Lit.wf, Bool.and_eq_true, decide_eq_true_eq] at hz
      have h1 : IntKind.u64.min = 0 := by decide
      have h2 : IntKind.u64.max = 18446744073709551615 := by decide
      rw [h1, h2] at hz
      rw [BitVec.toNat_ofNat, Nat.mod_eq_of_lt (by omega)]
      omega
    refine ⟨ofWords (BitVec.ofNat 64 z0.toNat) (BitVec.ofNat 64 z1.toNat) (BitVec.ofNat 64 z2.toNat) (BitVec.ofNat 64 z3.toNat), ?_⟩
    rw [encS_ofWords, key _ w0, key _ w1, key _ w2, key _ w3]
  · cases h


set_option maxRecDepth 100000 in
theorem open_sets {r : Reach} {v : Value} {d : DataW H} {p : List MemPlace} {b0 : Nat} (hok : Value.okWide Try.prog W r b0 22 v) (h : DataW.Trod enc Try.prog W 0 (fun _ => true) true 22 v d p) :
    ∃ (l : List BS), l.length ≤ maxLen ∧ ((v = .slice none 0 0 ∧ l = []) ∨ ∃ b off cap, v = .slice (some ⟨b, off, none⟩) l.length cap ∧ l.length ≤ cap ∧ b < W.heap.size ∧ ∀ i s, l[i]? = some s → ∀ j, j < 4 → W.cell? ⟨b, off + i * 4 + j, none⟩ = (encS s)[j]?) := by
  obtain ⟨a, len, cap, rfl⟩ := okWide_slice Try.underlying22 hok
  obtain ⟨fuel, hf⟩ := h
  rcases open_slice Try.underlying22 hf with ⟨hcs, _⟩ | ⟨a', len', cap', m, n, D, Pl, hcs, _, hl, hm, hmm, _, hi⟩
  · have : Value.slice a len cap = .slice none 0 0 := by simpa [Value.cells] using hcs
    cases this
    exact ⟨[], by simp, .inl ⟨rfl, rfl⟩⟩
  · have : Value.slice a len cap = .slice (some a') len' cap' := by simpa [Value.cells] using hcs
    cases this
    obtain ⟨hs, hb⟩ := okWide_row Try.underlying22 hok
    obtain ⟨b, off, spot⟩ := a'
    have hs' : spot = none := hs
    subst hs'
    have hc : Try.prog.cellsOf 25 = 4 := by kernel_rfl
    rw [hc] at hi
    rw [if_pos rfl] at hmm
    have hadd : ∀ (o i : Nat), (⟨b, o, none⟩ : Addr).add i = ⟨b, o + i, none⟩ := fun o i => by
      unfold Addr.add
      split
      · rename_i h; subst h; rfl
      · rfl
    obtain ⟨S, hS⟩ := choose_lt (α := BS) (p := fun i s => ∀ j, j < 4 → W.cell? ⟨b, off + i * 4 + j, none⟩ = (encS s)[j]?) (n := len) (fun i hil => by
      obtain ⟨cs', h1, h2⟩ := hi i (by omega)
      obtain ⟨s, rfl⟩ := trod_set h2
      obtain ⟨_, _, hat⟩ := World.cells?_some h1
      refine ⟨s, fun j hj => ?_⟩
      have := hat j (by simpa using hj)
      rw [hadd, hadd] at this
      rw [this, Array.getElem?_toList])
    refine ⟨(List.range len).map S, ?_, .inr ⟨b, off, cap, ?_, ?_, hb, fun i s his j hj => ?_⟩⟩
    · simp; omega
    · simp
    · simpa using hl
    · simp only [List.getElem?_map, Option.map_eq_some_iff, List.getElem?_eq_some_iff] at his
      obtain ⟨k, ⟨hk, rfl⟩, rfl⟩ := his
      simp at hk ⊢
      exact hS i hk j hj


set_option maxRecDepth 100000 in
theorem open_nums {k : IntKind} {t e : TypeId} {r : Reach} {v : Value} {d : DataW H} {p : List MemPlace} {b0 : Nat} (ht : Try.prog.underlying t = some (.slice e)) (he : Try.prog.underlying e = some (.int k)) (hc : Try.prog.cellsOf e = 1)
    (hok : Value.okWide Try.prog W r b0 t v) (h : DataW.Trod enc Try.prog W 0 (fun _ => true) true t v d p) :
    ∃ (l : List Int), l.length ≤ maxLen ∧ (∀ n ∈ l, (Lit.int k n).wf = true) ∧ ((v = .slice none 0 0 ∧ l = []) ∨ ∃ b off cap, v = .slice (some ⟨b, off, none⟩) l.length cap ∧ l.length ≤ cap ∧ b < W.heap.size ∧ ∀ i x, l[i]? = some x → W.cell? ⟨b, off + i, none⟩ = some (.int k x)) := by
  obtain ⟨a, len, cap, rfl⟩ := okWide_slice ht hok
  obtain ⟨fuel, hf⟩ := h
  rcases open_ints ht he hc hf with ⟨hcs, _⟩ | ⟨a', len', cap', zs, hcs, _, hl, hm, hzs, _, hi, hwf⟩
  · have : Value.slice a len cap = .slice none 0 0 := by simpa [Value.cells] using hcs
    cases this
    exact ⟨[], by simp, by simp, .inl ⟨rfl, rfl⟩⟩
  · have : Value.slice a len cap = .slice (some a') len' cap' := by simpa [Value.cells] using hcs
    cases this
    obtain ⟨hs, hb⟩ := okWide_row ht hok
    obtain ⟨b, off, spot⟩ := a'
    have hs' : spot = none := hs
    subst hs'
    rw [if_pos rfl] at hzs
    have hadd : ∀ (o i : Nat), (⟨b, o, none⟩ : Addr).add i = ⟨b, o + i, none⟩ := fun o i => by
      unfold Addr.add
      split
      · rename_i h; subst h; rfl
      · rfl
    have hlen : (zs.take len).length = len := by rw [List.length_take]; omega
    refine ⟨zs.take len, by rw [hlen]; omega, fun n hn => hwf n (List.mem_of_mem_take hn), .inr ⟨b, off, cap, by rw [hlen], by rw [hlen]; exact hl, hb, fun i x hx => ?_⟩⟩
    rw [List.getElem?_take] at hx
    split at hx
    · have hiz : i < zs.length := (List.getElem?_eq_some_iff.1 hx).1
      have := hi i hiz
      rw [hadd, List.getD_eq_getElem?_getD, hx] at this
      exact this
    · cases hx
end
end Go.Proofs.Ytokkgbcjjaiaeaa

namespace Go.Proofs.Ytokkgbcjjaiaeaa
open Go Go.ChangeShapes Go.WideShapes Go.ChangeAt Go.RowKit
section
variable {H : Type} {enc : TypeId × Value → H} {W : World}

set_option maxRecDepth 100000 in
theorem open_setsC {r : Reach} {v : Value} {d : DataW H} {p : List MemPlace} {b0 : Nat} (hok : Value.okWide Try.prog W r b0 22 v) (h : DataW.Trod enc Try.prog W 0 (fun _ => true) true 22 v d p) :
    ∃ l : List BS, l.length ≤ maxLen ∧ IsSetsC W v l := by
  obtain ⟨l, hlen, hl⟩ := open_sets hok h
  refine ⟨l, hlen, ?_⟩
  rcases hl with ⟨rfl, rfl⟩ | ⟨b, off, cap, rfl, hc, hb, hcell⟩
  · exact ⟨.inl ⟨rfl, rfl⟩, fun a n cap e => by cases e; exact Nat.le_refl _⟩
  · exact ⟨.inr ⟨b, off, cap, rfl, hb, hcell⟩, fun a n cap' e => by cases e; exact hc⟩

theorem u8_of_wf {n : Int} (h : (Lit.int .u8 n).wf = true) : 0 ≤ n ∧ n < 256 := by
  simp only [Lit.wf, Bool.and_eq_true, decide_eq_true_eq] at h
  have h1 : IntKind.u8.min = 0 := by decide
  have h2 : IntKind.u8.max = 255 := by decide
  omega

set_option maxRecDepth 100000 in
theorem open_bytesB {r : Reach} {v : Value} {d : DataW H} {p : List MemPlace} {b0 : Nat} (hok : Value.okWide Try.prog W r b0 27 v) (h : DataW.Trod enc Try.prog W 0 (fun _ => true) true 27 v d p) :
    ∃ l : List Nat, l.length ≤ maxLen ∧ (∀ c ∈ l, c < 256) ∧ IsSl encB W v l := by
  obtain ⟨l, hlen, hwf, hl⟩ := open_nums (e := 5) Try.underlying27 Try.underlying5 (by kernel_rfl) hok h
  refine ⟨l.map Int.toNat, by simpa using hlen, fun c hc => ?_, ?_⟩
  · obtain ⟨n, hn, rfl⟩ := List.mem_map.1 hc
    have := u8_of_wf (hwf n hn); omega
  · rcases hl with ⟨rfl, rfl⟩ | ⟨b, off, cap, rfl, hc, hb, hcell⟩
    · exact .inl ⟨rfl, rfl⟩
    · refine .inr ⟨b, off, cap, by rw [List.length_map], hb, by rw [List.length_map]; exact hc, fun i x hi => ?_⟩
      rw [List.getElem?_map] at hi
      obtain ⟨n, hn, rfl⟩ := Option.map_eq_some_iff.1 hi
      rw [hcell i n hn]
      have := u8_of_wf (hwf n (List.mem_of_getElem? hn))
      show some (Value.int .u8 n) = some (Value.int .u8 ((n.toNat : Nat) : Int))
      rw [Int.toNat_of_nonneg this.1]
set_option maxRecDepth 100000 in
theorem open_intsZ {r : Reach} {v : Value} {d : DataW H} {p : List MemPlace} {b0 : Nat} (hok : Value.okWide Try.prog W r b0 26 v) (h : DataW.Trod enc Try.prog W 0 (fun _ => true) true 26 v d p) :
    ∃ l : List Int, l.length ≤ maxLen ∧ (∀ n ∈ l, (Lit.int .i64 n).wf = true) ∧ IsSl encZ W v l := by
  obtain ⟨l, hlen, hwf, hl⟩ := open_nums (e := 3) Try.underlying26 Try.underlying3 (by kernel_rfl) hok h
  refine ⟨l, hlen, hwf, ?_⟩
  rcases hl with ⟨rfl, rfl⟩ | ⟨b, off, cap, rfl, hc, hb, hcell⟩
  · exact .inl ⟨rfl, rfl⟩
  · exact .inr ⟨b, off, cap, rfl, hb, hc, hcell⟩
set_option maxRecDepth 100000 in
theorem open_u8 {r : Reach} {v : Value} {d : DataW H} {p : List MemPlace} {b0 : Nat} (hok : Value.okWide Try.prog W r b0 5 v) (h : DataW.Trod enc Try.prog W 0 (fun _ => true) true 5 v d p) : ∃ n : Nat, v = .int .u8 n ∧ n < 256 := by
  obtain ⟨n, rfl, _, _, hw⟩ := open_int Try.underlying5 hok h
  have := u8_of_wf hw
  exact ⟨n.toNat, by rw [Int.toNat_of_nonneg this.1], by omega⟩
end
theorem Try.own : ownKnob Try.prog.godebug = none := by kernel_rfl
theorem Try.laidOut : laidOutB Try.prog = true := by kernel_rfl
end Go.Proofs.Ytokkgbcjjaiaeaa
