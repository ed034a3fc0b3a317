/-
  Opening an automaton that comes by value, and what the bound says of its lists.
  Opening an automaton that comes by value, by the form's own reach.
  The law's letter and others.
-/
import Derived.Test.YtiegfnmpknmbmaaGreatRows
import Derived.Test.YtiegfnmpknmbmaaGreatK06
import Derived.Test.YtiegfnmpknmbmaaGreatK30
import Derived.Deep.Strs
import Derived.OpenShut
import Derived.JoinedCond
import Derived.SizedLaws
import Derived.Test.YtiegfnmpknmbmaaGreatK09
import Derived.Lib.ConvBytes
namespace Go.Proofs.YtiegfnmpknmbmaaGreat
open Go Go.ChangeShapes Go.WideShapes Go.ChangeAt Go.RowKit Go.Deep
section
variable {H : Type} {enc : TypeId × Value → H} {W : World}

theorem bulk_one (d : DataW H) : 1 ≤ Rows.uptoBulk d := by
  cases d with
  | lit l => cases l <;> simp [Rows.uptoBulk]
  | nil => simp [Rows.uptoBulk]
  | ptr d => simp [Rows.uptoBulk]
  | slice a b => simp [Rows.uptoBulk]
  | agg a => simp [Rows.uptoBulk]
  | iface t d => simp [Rows.uptoBulk]
  | map a => simp [Rows.uptoBulk]
  | held h => simp [Rows.uptoBulk]
theorem bulk_len (l : List (DataW H)) : l.length ≤ Rows.uptoBulkAll l := by
  induction l with
  | nil => simp [Rows.uptoBulkAll]
  | cons x r ih => have := bulk_one x; simp only [Rows.uptoBulkAll, List.length_cons]; omega
/-- A slice's length is within the bulk. -/
theorem slice_bulk {t e : TypeId} {fuel : Nat} {a : Option Addr} {n c : Nat} {x : DataW H × List MemPlace} (ht : Tryz.prog.underlying t = some (.slice e)) (h : DataW.trod enc Tryz.prog W 0 (fun _ => true) true fuel t [.slice a n c] = some x) : n ≤ Rows.uptoBulk x.1 := by
  rcases open_slice ht h with ⟨hcs, _⟩ | ⟨a', len, cap, m, k, D, Pl, hcs, _, _, _, _, rfl, _⟩
  · have : Value.slice a n c = .slice none 0 0 := by simpa using hcs
    cases this
    omega
  · have : Value.slice a n c = .slice (some a') len cap := by simpa using hcs
    cases this
    have := bulk_len ((List.range n).map D)
    simp only [Rows.uptoBulk, List.length_map, List.length_range] at this ⊢
    omega
set_option maxRecDepth 100000 in
theorem inner_ints {fuel : Nat} {v : Value} {y : DataW H × List MemPlace} (h : DataW.trod enc Tryz.prog W 0 (fun _ => true) true fuel 36 [v] = some y) : ∃ l : List Int, IsSlE encZ W v l ∧ l.length ≤ Rows.uptoBulk y.1 := by
  have h0 := h
  rcases open_ints Tryz.underlying36 Tryz.underlying3 (by kernel_rfl) h with ⟨hcs, _⟩ | ⟨a, len, cap, zs, hcs, _, hl, hm, hzs, _, hi, hwf⟩
  · obtain rfl : v = .slice none 0 0 := by simpa using hcs
    exact ⟨[], .inl (.inl ⟨rfl, rfl⟩), by simp⟩
  · obtain rfl : v = .slice (some a) len cap := by simpa using hcs
    rw [if_pos rfl] at hzs
    have hb := slice_bulk Tryz.underlying36 h0
    have hlen : (zs.take len).length = len := by rw [List.length_take]; omega
    rcases Nat.eq_zero_or_pos cap with h1 | h1
    · obtain rfl : len = 0 := by omega
      subst h1
      exact ⟨[], .inr ⟨rfl, a, rfl⟩, by simp⟩
    · obtain ⟨b, off, rfl, hc⟩ := ints_at hi (by omega)
      have hbl : b < W.heap.size := by
        have := hc 0 (by omega)
        unfold World.cell? at this
        cases hh : W.heap[b]? with
        | none => rw [hh] at this; cases this
        | some o => exact (Array.getElem?_eq_some_iff.1 hh).1
      refine ⟨zs.take len, .inl (.inr ⟨b, off, cap, by rw [hlen], hbl, by rw [hlen]; exact hl, fun i x hx => ?_⟩), by rw [hlen]; exact hb⟩
      rw [List.getElem?_take] at hx
      split at hx
      · have hiz : i < zs.length := (List.getElem?_eq_some_iff.1 hx).1
        have := hc i hiz
        rw [List.getD_eq_getElem?_getD, hx] at this
        exact this
      · cases hx
/- The fields of an automaton. -/
set_option maxRecDepth 100000 in
theorem dfa_okParts {r : Go.Reach} {b0 : Nat} {v : Value} (hok : Value.okWide Tryz.prog W r b0 25 v) : ∃ v0 v1 v2, v = .agg #[v0, v1, v2] ∧ Value.okWide Tryz.prog W r b0 22 v0 ∧ Value.okWide Tryz.prog W r b0 23 v1 ∧ Value.okWide Tryz.prog W r b0 23 v2 := by
  simp only [Value.okWide, Tryz.underlying25] at hok
  obtain ⟨cs, rfl, hsz, ts, hts, _, hrow⟩ := hok
  have e : Tryz.prog.cellTypes Tryz.prog.depth 25 = some [22, 23, 23] := by kernel_rfl
  rw [e] at hts
  cases hts
  have hc : Tryz.prog.cellsOf 25 = 3 := by kernel_rfl
  rw [hc] at hsz
  obtain ⟨l⟩ := cs
  match l, hsz with
  | [v0, v1, v2], _ =>
    refine ⟨v0, v1, v2, rfl, ?_, ?_, ?_⟩
    · obtain ⟨u, hu, h⟩ := hrow 0 v0 rfl
      cases hu
      simp only [Value.okWide, Tryz.underlying22]; exact h
    · obtain ⟨u, hu, h⟩ := hrow 1 v1 rfl
      cases hu
      simp only [Value.okWide, Tryz.underlying23]; exact h
    · obtain ⟨u, hu, h⟩ := hrow 2 v2 rfl
      cases hu
      simp only [Value.okWide, Tryz.underlying23]; exact h
end
end Go.Proofs.YtiegfnmpknmbmaaGreat
namespace Go.Proofs.YtiegfnmpknmbmaaGreat
open Go Go.ChangeShapes Go.WideShapes Go.ChangeAt Go.RowKit Go.Deep
section
variable {H : Type} {enc : TypeId × Value → H} {W : World}

theorem sized_arg {P : Program} {ts : List TypeId} {ds : List (DataW H)} (h : (DataW.weightsEach P ts ds).all (· ≤ reachBytes) = true) {j : Nat} {t : TypeId} {d : DataW H} (ht : ts[j]? = some t) (hd : ds[j]? = some d) : ∀ n ∈ d.weights P t, n ≤ reachBytes := fun n hn => by
  simpa using List.all_eq_true.1 h _ (DataW.weights_mem_each ht hd n hn)
theorem weightsAll_in {P : Program} {e : TypeId} : ∀ {l : List (DataW H)} {d : DataW H}, d ∈ l → ∀ n ∈ d.weights P e, n ∈ DataW.weightsAll P e l
  | x :: l, d, h, n, hn => by
    simp only [DataW.weightsAll, List.mem_append]
    rcases List.mem_cons.1 h with rfl | h
    · exact .inl hn
    · exact .inr (weightsAll_in h n hn)
theorem slice_sized {t e : TypeId} {fuel : Nat} {a : Option Addr} {n c : Nat} {x : DataW H × List MemPlace} (ht : Tryz.prog.underlying t = some (.slice e)) (hb : 8 ≤ Tryz.prog.bytesOf e) (h : DataW.trod enc Tryz.prog W 0 (fun _ => true) true fuel t [.slice a n c] = some x)
    (hs : ∀ m ∈ x.1.weights Tryz.prog t, m ≤ reachBytes) : n ≤ 17592186044416 := by
  rcases open_slice ht h with ⟨hcs, _⟩ | ⟨a', len, cap, m, k, D, Pl, hcs, _, _, _, _, rfl, _⟩
  · have : Value.slice a n c = .slice none 0 0 := by simpa using hcs
    cases this
    omega
  · have : Value.slice a n c = .slice (some a') len cap := by simpa using hcs
    cases this
    have h1 := hs ((((List.range n).map D).length + ((List.range (m - n)).map fun j => D (n + j)).length) * Tryz.prog.bytesOf e) (by simp [DataW.weights, ht])
    have h2 : n * 8 ≤ (((List.range n).map D).length + ((List.range (m - n)).map fun j => D (n + j)).length) * Tryz.prog.bytesOf e := Nat.mul_le_mul (by simp) hb
    unfold reachBytes at h1
    omega
set_option maxRecDepth 100000 in
theorem open_llS {fuel : Nat} {r : Go.Reach} {b0 : Nat} {u : Value} {x : DataW H × List MemPlace} (hok : Value.okWide Tryz.prog W r b0 23 u) (h : DataW.trod enc Tryz.prog W 0 (fun _ => true) true fuel 23 [u] = some x) (hz : ∀ m ∈ x.1.weights Tryz.prog 23, m ≤ reachBytes) :
    ∃ ll, IsLLe W u ll ∧ ll.length ≤ 17592186044416 ∧ ∀ l ∈ ll, l.length ≤ 17592186044416 := by
  obtain ⟨a, len, cap, rfl⟩ := okWide_slice Tryz.underlying23 hok
  have hb24 : 8 ≤ Tryz.prog.bytesOf 36 := by
    have : Tryz.prog.bytesOf 36 = 24 := by kernel_rfl
    omega
  have h0 := slice_sized Tryz.underlying23 hb24 h hz
  have hb8 : 8 ≤ Tryz.prog.bytesOf 3 := by
    have : Tryz.prog.bytesOf 3 = 8 := by kernel_rfl
    omega
  rcases open_slice1 Tryz.underlying23 (by kernel_rfl) h with ⟨hcs, _⟩ | ⟨a', len', cap', m, k, V, D, Pl, hcs, _, hl, hm, hmm, rfl, hi⟩
  · have : Value.slice a len cap = .slice none 0 0 := by simpa using hcs
    cases this
    exact ⟨[], ⟨[], rfl, .inl ⟨rfl, rfl⟩, by simp⟩, by simp, by simp⟩
  · have : Value.slice a len cap = .slice (some a') len' cap' := by simpa using hcs
    cases this
    obtain ⟨hs, hb⟩ := okWide_row Tryz.underlying23 hok
    obtain ⟨b, off, spot⟩ := a'
    have hs' : spot = none := hs
    subst hs'
    rw [if_pos rfl] at hmm
    have hD : ∀ i, i < len → ∀ w ∈ (D i).weights Tryz.prog 36, w ≤ reachBytes := fun i hil w hw => by
      refine hz w ?_
      simp only [DataW.weights, Tryz.underlying23, List.mem_cons, List.mem_append]
      exact .inr (.inl (weightsAll_in (List.mem_map.2 ⟨i, List.mem_range.2 hil, rfl⟩) w hw))
    obtain ⟨L, hL⟩ := choose_lt (α := List Int) (p := fun i l => IsSlE encZ W (V i) l ∧ l.length ≤ 17592186044416) (n := len) (fun i hil => by
      have h2 := (hi i (by omega)).2
      obtain ⟨l, h3, _⟩ := inner_ints h2
      refine ⟨l, h3, ?_⟩
      obtain ⟨a2, c2, e2⟩ := h3.form
      rw [e2] at h2
      exact slice_sized Tryz.underlying36 hb8 h2 (hD i hil))
    refine ⟨(List.range len).map L, ⟨(List.range len).map V, by simp, .inr ⟨b, off, cap, by simp, hb, by simpa using hl, fun i y hy => ?_⟩, fun i u l hu hl' => ?_⟩, by simpa using h0, fun l hl' => ?_⟩
    · simp only [List.getElem?_map, Option.map_eq_some_iff, List.getElem?_eq_some_iff] at hy
      obtain ⟨j, ⟨hj, rfl⟩, rfl⟩ := hy
      simp at hj ⊢
      have := (hi i (by omega)).1
      rwa [add_plain] at this
    · simp only [List.getElem?_map, Option.map_eq_some_iff, List.getElem?_eq_some_iff] at hu hl'
      obtain ⟨j, ⟨hj, rfl⟩, rfl⟩ := hu
      obtain ⟨j', ⟨hj', rfl⟩, rfl⟩ := hl'
      simp at hj ⊢
      exact (hL i hj).1
    · obtain ⟨i, hi2, rfl⟩ := List.mem_map.1 hl'
      exact (hL i (List.mem_range.1 hi2)).2
set_option maxRecDepth 100000 in
theorem open_dfaS {r : Go.Reach} {v : Value} {d : DataW H} {p : List MemPlace} {b0 : Nat} (hok : Value.okWide Tryz.prog W r b0 25 v) (h : DataW.Trod enc Tryz.prog W 0 (fun _ => true) true 25 v d p) (hz : ∀ m ∈ d.weights Tryz.prog 25, m ≤ reachBytes) :
    ∃ D : DF, IsDfe W v D ∧ Big D := by
  obtain ⟨v0, v1, v2, rfl, k0, k1, k2⟩ := dfa_okParts hok
  obtain ⟨fuel, hf⟩ := h
  obtain ⟨y0, y1, y2, n, e, _, t0, t1, t2⟩ := trod_struct3 Tryz.underlying25 hf
  replace t0 : DataW.trod enc Tryz.prog W 0 (fun _ => true) true n 22 [v0] = some y0 := t0
  replace t1 : DataW.trod enc Tryz.prog W 0 (fun _ => true) true n 23 [v1] = some y1 := t1
  replace t2 : DataW.trod enc Tryz.prog W 0 (fun _ => true) true n 23 [v2] = some y2 := t2
  have e1 : d = .agg [y0.1, y1.1, y2.1] := congrArg Prod.fst e
  subst e1
  have hz0 : ∀ m ∈ y0.1.weights Tryz.prog 22, m ≤ reachBytes := fun m hm => hz m (by
    simp only [DataW.weights, Tryz.underlying25]
    exact DataW.weights_mem_each (j := 0) (ds := [y0.1, y1.1, y2.1]) rfl rfl m hm)
  have hz1 : ∀ m ∈ y1.1.weights Tryz.prog 23, m ≤ reachBytes := fun m hm => hz m (by
    simp only [DataW.weights, Tryz.underlying25]
    exact DataW.weights_mem_each (j := 1) (ds := [y0.1, y1.1, y2.1]) rfl rfl m hm)
  have hz2 : ∀ m ∈ y2.1.weights Tryz.prog 23, m ≤ reachBytes := fun m hm => hz m (by
    simp only [DataW.weights, Tryz.underlying25]
    exact DataW.weights_mem_each (j := 2) (ds := [y0.1, y1.1, y2.1]) rfl rfl m hm)
  obtain ⟨a0, n0, c0, rfl⟩ := okWide_slice Tryz.underlying22 k0
  obtain ⟨l0, _, s0⟩ := open_setsC (enc := enc) (d := y0.1) (p := y0.2) k0 ⟨n, t0⟩
  have hb32 : 8 ≤ Tryz.prog.bytesOf 33 := by
    have : Tryz.prog.bytesOf 33 = 32 := by kernel_rfl
    omega
  have b0 := slice_sized Tryz.underlying22 hb32 t0 hz0
  have f0 : n0 = l0.length := by
    obtain ⟨a, c, e⟩ := s0.1.form
    injection e
  obtain ⟨l1, s1, b1, m1⟩ := open_llS k1 t1 hz1
  obtain ⟨l2, s2, b2, m2⟩ := open_llS k2 t2 hz2
  exact ⟨⟨l0, l1, l2⟩, ⟨_, _, _, rfl, s0, s1, s2⟩, ⟨by show l0.length ≤ _; omega, b1, b2, m1, m2⟩⟩
end
end Go.Proofs.YtiegfnmpknmbmaaGreat
namespace Go.Proofs.YtiegfnmpknmbmaaGreat
open Go Go.RowKit Go.Shelf Go.Maps
attribute [local go_sem] encS

theorem bytes_below (W : World) (e : TypeId) (s : ByteArray) : Below W.heap.size W (Lib.bytesWorld W e s) := by
  refine ⟨?_, ?_, ?_, by rw [Lib.bytesWorld_size]; omega, fun k hk => Lib.bytesWorld_at_old W e s k hk⟩ <;> (unfold Lib.bytesWorld World.freeze; split <;> rfl)
set_option maxRecDepth 100000 in
set_option maxHeartbeats 4000000 in
theorem letter_any (s : ByteArray) (l : List Nat) (hsl : s.data.toList.map (·.toNat) = l) (hn : l.length ≤ 1000000) (w : World) :
    Calls Tryz.prog 11 #[.string s] w fun e w' => e = .returned (.agg (encS (bsOf fun c => l.contains c))) ∧ Below w.heap.size w w' := by
  obtain ⟨u, hu⟩ : ∃ u, u = bsOf fun c => l.contains c := ⟨_, rfl⟩
  rw [← hu]
  have HU := Lib.hid hu
  have hcv : ∀ W : World, (convert 9 47 (.string s)).run Tryz.prog W = .ok (.slice (some ⟨W.heap.size, 0, none⟩) s.size (grownCap W s.size 0 5)) (Lib.bytesWorld W 5 s) := fun W => Lib.run_convert_string_bytes W 9 47 5 s Tryz.underlying9 Tryz.underlying47 Tryz.underlying5
  have hsz : s.size = l.length := by rw [← hsl]; simp
  have HCE : Hid (∀ (W : World) (i x : Nat), l[i]? = some x → (Lib.bytesWorld W 5 s).cell? ⟨W.heap.size, i, none⟩ = some (.int .u8 x)) := Lib.hid fun W i x h => by
    have hi : i < s.size := by rw [hsz]; exact (List.getElem?_eq_some_iff.1 h).1
    rw [Lib.bytesWorld_cell W 5 s i hi]
    rw [← hsl, List.getElem?_map] at h
    cases hq : s.data.toList[i]? with
    | none => rw [hq] at h; cases h
    | some b => rw [hq] at h; cases h; rw [List.getD_eq_getElem?_getD, hq]; rfl
  have HL : Hid (∀ c ∈ l, c < 256) := Lib.hid fun c hc => by
    rw [← hsl] at hc
    obtain ⟨b, _, rfl⟩ := List.mem_map.1 hc
    exact b.toNat_lt
  rw [hsz] at hcv
  have HBB : Hid (∀ W : World, Below W.heap.size W (Lib.bytesWorld W 5 s)) := Lib.hid fun W => bytes_below W _ s
  have HBS : Hid (∀ W : World, (Lib.bytesWorld W 5 s).heap.size = W.heap.size + 1) := Lib.hid fun W => Lib.bytesWorld_size W _ s
  clear hu hsl hsz
  go_enter Tryz.func11, Tryz.ntmps11
  go_wp2
  obtain ⟨W2, hW2⟩ : ∃ W, W = (w.alloc (.cells #[.int .u64 0, .int .u64 0, .int .u64 0, .int .u64 0] 33)).alloc (.cells #[.int .u64 0, .int .u64 0, .int .u64 0, .int .u64 0] 33) := ⟨_, rfl⟩
  have hs2 : W2.heap.size = w.heap.size + 2 := by rw [hW2]; simp
  have B2 : Hid (Blk W2 (w.heap.size + 1) (encS 0) 33) := Lib.hid (by rw [hW2, encS_zero]; exact (Blk.new _ _ _).at (by simp))
  have R2 : Hid (Blk W2 w.heap.size #[.int .u64 0, .int .u64 0, .int .u64 0, .int .u64 0] 33) := Lib.hid (by rw [hW2]; exact (Blk.new _ _ _).alloc _)
  have X2 : Hid (Below w.heap.size w W2) := Lib.hid (by rw [hW2]; exact (((Ext.refl w).alloc _).alloc _).below)
  have HW2 := Lib.hid hW2
  clear hW2
  go_loopw [9] (fun i wr => ∃ (k : Nat) (s' : BS), k ≤ l.length ∧ i = .int .i64 k ∧ (∀ c, c < 256 → s'.getLsbD c = (l.take k).contains c) ∧ Blk wr (w.heap.size + 1) (encS s') 33 ∧ Blk wr w.heap.size #[.int .u64 0, .int .u64 0, .int .u64 0, .int .u64 0] 33 ∧ (∀ i x : Nat, l[i]? = some x → wr.cell? ⟨w.heap.size + 1 + 1, i, none⟩ = some (.int .u8 x)) ∧ Below w.heap.size w wr) (fun i _ => l.length - (intOf i).toNat)
  case atStart =>
    rw [← HW2.out]
    have hb := HBB.out W2
    refine ⟨0, 0, by omega, rfl, fun c hc => by simp, B2.out.below hb (by omega), R2.out.below hb (by omega), fun i x h => ?_, X2.out.trans (hb.mono X2.out.size)⟩
    have := HCE.out W2 i x h
    rw [hs2] at this
    exact this
  case round =>
    obtain ⟨k, s', hk, rfl, hs, hB, hR, hce, hx⟩ := hrel
    have HS := Lib.hid hs
    have HCR := Lib.hid hce
    clear hs hce
    by_cases hlt : k < l.length
    · obtain ⟨c, hcl⟩ : ∃ c, l[k]? = some c := ⟨l[k], List.getElem?_eq_getElem hlt⟩
      have hc256 : c < 256 := HL.out c (List.mem_of_getElem? hcl)
      have hcc : wr.cell? ⟨w.heap.size + 1 + 1, k, none⟩ = some (.int .u8 c) := HCR.out k c hcl
      have hw : (encS s')[c / 64]? = some (.int .u64 (wd s' (c / 64)).toNat) := encS_get s' (by omega)
      have hc1 : wr.cell? ⟨w.heap.size + 1, c / 64, none⟩ = some (.int .u64 (wd s' (c / 64)).toNat) := (hB.cell _).trans hw
      have hf := hB.frozen (c / 64)
      have htk : l.take (k + 1) = l.take k ++ [c] := by rw [List.take_add_one, hcl]; rfl
      have HT := Lib.hid htk
      have HB := Lib.hid hB
      have HR := Lib.hid hR
      have HX := Lib.hid hx
      have HCl := Lib.hid hcl
      have hki : (k : Int) < l.length := by omega
      clear hB hR hx hw htk hcl HBB HBS hcv
      go_wp2
      go_roundw
      case rel =>
        refine ⟨k + 1, withB s' c, by omega, by go_num, fun d hd => ?_, ?_, ?_, fun i x h => ?_, ?_⟩
        · rw [withB_bit s' hc256, HS.out d hd, HT.out, List.contains_eq_any_beq, List.contains_eq_any_beq, List.any_append]
          simp
        · rw [← encS_withB s' hc256]; exact HB.out.set _ _
        · exact HR.out.other (by simp) _
        · rw [cell_far _ _ _ _ (by simp)]; exact HCR.out i x h
        · exact HX.out.trans (((Keeps.refl (· < w.heap.size) _).setCell (p := ⟨w.heap.size + 1, c / 64, none⟩) (fun h => by have h' : w.heap.size + 1 < w.heap.size := h; omega) _).below)
      case measure => simp [intOf]; omega
    · have hus : s' = u := by rw [HU.out]; exact BS.eq_bsOf fun c hc => by rw [HS.out c hc, List.take_of_length_le (by omega)]
      subst hus
      obtain rfl : k = l.length := by omega
      obtain ⟨c0, c1, c2, c3⟩ := hB.set4
      have r0 : wr.cell? ⟨w.heap.size, 0, none⟩ = some (.int .u64 0) := hR.cell 0
      have r1 : wr.cell? ⟨w.heap.size, 1, none⟩ = some (.int .u64 0) := hR.cell 1
      have r2 : wr.cell? ⟨w.heap.size, 2, none⟩ = some (.int .u64 0) := hR.cell 2
      have r3 : wr.cell? ⟨w.heap.size, 3, none⟩ = some (.int .u64 0) := hR.cell 3
      have rf := hR.frozen
      have HX := Lib.hid hx
      clear hB hR hx HBB HBS hcv
      go_wp2
      refine bodyPost_ret (v := .agg (encS s')) ?_ rfl ⟨rfl, ?_⟩
      · simp [results, Tryz.results11, go_sem, r0, r1, r2, r3]
      · refine HX.out.trans (Keeps.below ((((Keeps.refl (· < w.heap.size) _).setCell ?_ _).setCell ?_ _).setCell ?_ _ |>.setCell ?_ _)) <;> (intro h; simp at h)
/-- What is complemented so far. -/
def notTo (s : BS) (k : Nat) : Array Value := #[.int .u64 (if 0 < k then wd (~~~s) 0 else wd s 0).toNat, .int .u64 (if 1 < k then wd (~~~s) 1 else wd s 1).toNat, .int .u64 (if 2 < k then wd (~~~s) 2 else wd s 2).toNat, .int .u64 (if 3 < k then wd (~~~s) 3 else wd s 3).toNat]
theorem notTo_get (s : BS) {k : Nat} (hk : k < 4) : (notTo s k)[k]? = some (.int .u64 (wd s k).toNat) := by
  match k, hk with
  | 0, _ => rfl
  | 1, _ => rfl
  | 2, _ => rfl
  | 3, _ => rfl
theorem notTo_set (s : BS) {k : Nat} (hk : k < 4) : (notTo s k).setIfInBounds k (.int .u64 (bits .xor .u64 IntKind.u64.max (wd s k).toNat)) = notTo s (k + 1) := by
  rw [bits_not, ← wd_not s hk]
  match k, hk with
  | 0, _ => rfl
  | 1, _ => rfl
  | 2, _ => rfl
  | 3, _ => rfl
set_option maxRecDepth 100000 in
set_option maxHeartbeats 4000000 in
theorem others_any (s : ByteArray) (l : List Nat) (hsl : s.data.toList.map (·.toNat) = l) (hn : l.length ≤ 1000000) (w : World) :
    Calls Tryz.prog 10 #[.string s] w fun e w' => e = .returned (.agg (encS (~~~(bsOf fun c => l.contains c)))) ∧ Below w.heap.size w w' := by
  have CL : Hid (∀ W, Calls Tryz.prog 11 #[.string s] W fun e w' => e = .returned (.agg (encS (bsOf fun c => l.contains c))) ∧ Below W.heap.size W w') := Lib.hid fun W => letter_any s l hsl hn W
  have hsg : IntKind.u64.signed = false := rfl
  obtain ⟨u, hu⟩ : ∃ u, u = bsOf fun c => l.contains c := ⟨_, rfl⟩
  rw [← hu] at CL ⊢
  obtain ⟨t, ht⟩ : ∃ t, t = ~~~u := ⟨_, rfl⟩
  rw [← ht]
  have HT := Lib.hid ht
  clear hu hsl hn ht
  go_enter Tryz.func10, Tryz.ntmps10
  go_wp2_with fail
  refine calls_named ?_
  intro V hV
  have R0 : Hid (Blk V w.heap.size #[.int .u64 0, .int .u64 0, .int .u64 0, .int .u64 0] 33) := Lib.hid (by rw [hV]; exact Blk.new _ _ _)
  have X0 : Hid (Below w.heap.size w V) := Lib.hid (by rw [hV]; exact ((Ext.refl w).alloc _).below)
  clear hV
  refine (CL.out V).mono ?_
  rintro e w1 ⟨rfl, hx⟩
  have R1 := Lib.hid (R0.out.below hx R0.out.lt)
  have X1 := Lib.hid (X0.out.trans (hx.mono X0.out.size))
  have hlt1 : w.heap.size < w1.heap.size := R1.out.lt
  clear hx R0 X0 CL
  go_wp2
  go_loopw [7] (fun i wr => ∃ k : Nat, k ≤ 4 ∧ i = .int .i64 k ∧ Blk wr w1.heap.size (notTo u k) 33 ∧ Blk wr w.heap.size #[.int .u64 0, .int .u64 0, .int .u64 0, .int .u64 0] 33 ∧ Below w.heap.size w wr) (fun i _ => 4 - (intOf i).toNat)
  case atStart =>
    exact ⟨0, by omega, rfl, Blk.new _ _ _, R1.out.alloc _, X1.out.alloc X1.out.size _⟩
  case round =>
    obtain ⟨k, hk, rfl, hB, hR, hx⟩ := hrel
    obtain ⟨wo, rfl⟩ : ∃ wo : World, wo = wr := ⟨_, rfl⟩
    by_cases hlt : k < 4
    · have hc1 : wo.cell? ⟨w1.heap.size, k, none⟩ = some (.int .u64 (wd u k).toNat) := (hB.cell _).trans (notTo_get u hlt)
      have hf := hB.frozen k
      have HB := Lib.hid hB
      have HR := Lib.hid hR
      have HX := Lib.hid hx
      have hki : (k : Int) < 4 := by omega
      clear hB hR hx
      go_wp2
      go_roundw
      case rel =>
        refine ⟨k + 1, by omega, by go_num, ?_, ?_, ?_⟩
        · rw [← notTo_set u hlt]; exact HB.out.set _ _
        · exact HR.out.other (by simp; omega) _
        · exact HX.out.trans (((Keeps.refl (· < w.heap.size) _).setCell (p := ⟨w1.heap.size, k, none⟩) (fun h => by have h' : w1.heap.size < w.heap.size := h; omega) _).below)
      case measure => simp [intOf]; omega
    · obtain rfl : k = 4 := by omega
      have hBB : Blk wo w1.heap.size (encS (~~~u)) 33 := hB
      obtain ⟨c0, c1, c2, c3⟩ := hBB.set4
      have r0 : wo.cell? ⟨w.heap.size, 0, none⟩ = some (.int .u64 0) := hR.cell 0
      have r1 : wo.cell? ⟨w.heap.size, 1, none⟩ = some (.int .u64 0) := hR.cell 1
      have r2 : wo.cell? ⟨w.heap.size, 2, none⟩ = some (.int .u64 0) := hR.cell 2
      have r3 : wo.cell? ⟨w.heap.size, 3, none⟩ = some (.int .u64 0) := hR.cell 3
      have rf := hR.frozen
      have HX := Lib.hid hx
      rw [← HT.out] at c0 c1 c2 c3
      clear hB hR hx hBB
      go_wp2
      refine bodyPost_ret (v := .agg (encS t)) ?_ rfl ⟨rfl, ?_⟩
      · simp [results, Tryz.results10, go_sem, r0, r1, r2, r3]
      · refine HX.out.trans (Keeps.below ((((Keeps.refl (· < w.heap.size) _).setCell ?_ _).setCell ?_ _).setCell ?_ _ |>.setCell ?_ _)) <;> (intro h; simp at h)
end Go.Proofs.YtiegfnmpknmbmaaGreat
