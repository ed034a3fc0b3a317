/-
  Walks of package alphabet: Of, Word, Bytes, Together, Classes, Fits.
-/
import Derived.Test.YtokkgbcjjaiaeaaAlph2
namespace Go.Proofs.Ytokkgbcjjaiaeaa
open Go Go.RowKit Go.Shelf Go.Maps
attribute [local go_sem] encS

theorem IsSl.keeps {α : Type} {enc : α → Value} {w w' : World} {v : Value} {l : List α} (h : IsSl enc w v l) {R : Nat → Prop} (hk : Keeps R w w') (hr : ∀ b off n cap, v = .slice (some ⟨b, off, none⟩) n cap → R b) : IsSl enc w' v l := by
  rcases h with h | ⟨b, off, cap, hv, hb, hc, h⟩
  · exact .inl h
  · exact .inr ⟨b, off, cap, hv, Nat.lt_of_lt_of_le hb hk.size, hc, fun i x hi => (hk.cell (p := ⟨b, off + i, none⟩) (hr _ _ _ _ hv)).trans (h i x hi)⟩
theorem IsSl.below {α : Type} {enc : α → Value} {w w' : World} {v : Value} {l : List α} (h : IsSl enc w v l) (hk : Below w.heap.size w w') : IsSl enc w' v l := by
  rcases h with h | ⟨b, off, cap, hv, hb, hc, h⟩
  · exact .inl h
  · exact .inr ⟨b, off, cap, hv, Nat.lt_of_lt_of_le hb hk.size, hc, fun i x hi => (hk.cell (p := ⟨b, off + i, none⟩) hb).trans (h i x hi)⟩
theorem IsSl.form {α : Type} {enc : α → Value} {w : World} {v : Value} {l : List α} (h : IsSl enc w v l) : ∃ a cap, v = .slice a l.length cap := by
  rcases h with ⟨h, rfl⟩ | ⟨b, off, cap, hv, _⟩
  · exact ⟨_, _, h⟩
  · exact ⟨_, _, hv⟩
theorem IsSl.elem {α : Type} {enc : α → Value} {w : World} {a : Option Addr} {n cap : Nat} {l : List α} (h : IsSl enc w (.slice a n cap) l) {i : Nat} {x : α} (hi : l[i]? = some x) : ∃ b off, a = some ⟨b, off, none⟩ ∧ b < w.heap.size ∧ w.cell? ⟨b, off + i, none⟩ = some (enc x) := by
  rcases h with ⟨_, rfl⟩ | ⟨b, off, cap, hv, hb, hc, h⟩
  · simp at hi
  · cases hv; exact ⟨b, off, rfl, hb, h i x hi⟩
theorem ownsRow_sl {α : Type} {enc : α → Value} {w : World} {base n : Nat} {v : Value} {e : TypeId} {l : List α} (h : w.ownsRow base e 1 v n (l.map enc)) (hn : n = l.length) : IsSl enc w v l := by
  rcases h.2 with ⟨h1, h2⟩ | ⟨g, cap, cur, hv, hb, hg, hc, _, hs, ht⟩
  · exact .inl ⟨h1, List.eq_nil_of_length_eq_zero (by omega)⟩
  · refine .inr ⟨g, 0, cap, by rw [hv, hn], (Array.getElem?_eq_some_iff.1 hg).1, by omega, fun i x hi => ?_⟩
    have hlt : i < l.length := (List.getElem?_eq_some_iff.1 hi).1
    have hc : w.cell? ⟨g, 0 + i, none⟩ = cur[i]? := by simp [World.cell?, hg]
    have h3 : cur[i]? = (l.map enc)[i]? := by
      rw [← ht, List.getElem?_take, if_pos (by omega)]; simp
    rw [hc, h3, List.getElem?_map, hi]; rfl

theorem Try.infoI : (Try.prog.info? 3).map (fun i => (i.zero, i.size, i.bytes)) = some (some (.int .i64 0), 1, 8) := by kernel_rfl
def encN (n : Nat) : Value := .int .i64 n
def encZ (k : Int) : Value := .int .i64 k

theorem partsOf_len (l : List BS) : (partsOf l).length ≤ 256 := by
  unfold partsOf; rw [List.length_mergeSort]; exact partsRaw_len l

theorem alphOf_any (l : List BS) (v0 : Value) (w : World) (hl : IsSets w v0 l) (hlen : l.length ≤ 9223372036854775807) :
    Calls Try.prog 14 #[v0] w fun e w' => ∃ b, e = .returned (.pointer (some ⟨b, 0, none⟩)) ∧ IsAl w' w.heap.size (.pointer (some ⟨b, 0, none⟩)) (partsOf l) ∧ Below w.heap.size w w' := by
  have HP := Lib.hid (parts_any l v0 w hl hlen)
  have HL := Lib.hid (partsOf_len l)
  clear hl
  generalize partsOf l = p at HP HL ⊢
  go_enter Try.func14, Try.ntmps14
  go_wp2_with (first | (go_at_call 67; refine HP.out.mono ?_; rintro e w1 ⟨v1, rfl, h1, h2⟩; have H1 := Lib.hid h1; have H2 := Lib.hid h2; clear h1 h2) | (go_at_call 66; refine (made_any p _ w.heap.size _ H1.out H2.out.size HL.out).mono ?_; rintro e w2 ⟨b, rfl, h1, h2⟩; have H3 := Lib.hid h1; have H4 := Lib.hid h2; clear h1 h2))
  go_ret
  exact ⟨b, rfl, H3.out, H2.out.trans (H4.out.mono H2.out.size)⟩

/-- The classes of bytes. -/
def wordOf (p : List BS) (b : List Nat) : List Nat := if p.isEmpty then [] else b.map (cls p)

set_option maxRecDepth 100000 in
set_option maxHeartbeats 1000000 in
theorem word_any (v : Value) (base : Nat) (p : List BS) (bv : Value) (b : List Nat) (w : World) (h : IsAl w base v p) (hb : IsSl encB w bv b) (hc : ∀ c ∈ b, c < 256) (hn : b.length ≤ 1000000) :
    Calls Try.prog 15 #[v, bv] w fun e w' => ∃ u, e = .returned u ∧ w'.ownsRow w.heap.size 3 1 u (wordOf p b).length ((wordOf p b).map encN) ∧ Below w.heap.size w w' := by
  obtain ⟨i0, hi, hz0, hz1, hz2⟩ := info_parts Try.infoI
  obtain ⟨sa, cap, rfl⟩ := hb.form
  have HN := Lib.hid (none_any v base p w h)
  have H := Lib.hid h
  have HB := Lib.hid hb
  have HC := Lib.hid hc
  obtain ⟨n, hnn⟩ : ∃ n, n = b.length := ⟨_, rfl⟩
  rw [← hnn] at hn HB ⊢
  have HNN := Lib.hid hnn
  clear h hb hc hnn
  unfold wordOf
  by_cases hp : p.isEmpty = true
  · rw [hp] at HN
    rw [if_pos hp]
    clear hp
    go_enter Try.func15, Try.ntmps15
    go_wp2_with (go_at_call 68; refine HN.out.mono ?_; rintro e w1 ⟨rfl, hw⟩; replace hw := hw.symm; subst hw)
    go_ret
    exact ⟨_, rfl, World.ownsRow_nil _ _ _ _, Below.refl _ _⟩
  · rw [if_neg hp]
    rw [show p.isEmpty = false from by simpa using hp] at HN
    clear hp
    go_enter Try.func15, Try.ntmps15
    go_wp2_with (go_at_call 68; refine HN.out.mono ?_; rintro e w1 ⟨rfl, hw⟩; replace hw := hw.symm; subst hw)
    go_loopw [12, 5] (fun i u wr => ∃ k : Nat, k ≤ n ∧ i = .int .i64 k ∧ wr.ownsRow w.heap.size 3 1 u ((b.take k).map (cls p)).length (((b.take k).map (cls p)).map encN) ∧ Below w.heap.size w wr) (fun i _ _ => n - (intOf i).toNat)
    case atStart => exact ⟨0, by omega, rfl, World.ownsRow_nil _ _ _ _, Below.refl _ _⟩
    case round =>
      obtain ⟨k, hk, rfl, ho, hbl⟩ := hrel
      by_cases hlt : k < n
      · obtain ⟨c, hcl⟩ : ∃ c, b[k]? = some c := ⟨_, List.getElem?_eq_getElem (by have := HNN.out; omega)⟩
        have hc256 : c < 256 := HC.out c (List.mem_of_getElem? hcl)
        obtain ⟨g, off, rfl, hg, hcell⟩ := HB.out.elem hcl
        have c0 : wr.cell? ⟨g, off + k, none⟩ = some (.int .u8 c) := (hbl.cell (p := ⟨g, off + k, none⟩) hg).trans hcell
        have HCl := Lib.hid (class_any v base p c hc256 wr (H.out.below hbl))
        have htk : (b.take (k + 1)).map (cls p) = (b.take k).map (cls p) ++ [cls p c] := by rw [List.take_add_one, hcl]; simp
        have hlen : ((b.take k).map (cls p)).length ≤ 1000000 := by rw [List.length_map, List.length_take]; omega
        have HT := Lib.hid htk
        obtain ⟨a5, c5, rfl⟩ := ownsRow_form ho
        have HO := Lib.hid ho
        have HBL := Lib.hid hbl
        clear hcell hcl htk ho hbl
        generalize (b.take k).map (cls p) = xs at HO hlen HT
        generalize cls p c = z at HCl HT
        go_wp2_with (first | (go_at_call 21; refine HCl.out.mono ?_; rintro e w1 ⟨rfl, hw⟩; replace hw := hw.symm; subst hw) | (at_builtin; refine wpList_append_own_at _ rfl _ _ 26 rfl w.heap.size 3 i0 (.int .i64 0) 1 8 Try.underlying26 hi hz0 hz1 hz2 rfl (by decide) _ _ _ rfl (HO.out.alloc _) ⟨_, 0, none⟩ 1 1 [encN z] rfl rfl (cell_one_new _ _ _) (by simp [Value.oneCell', encN]) (by unfold maxLen; omega) (by omega) (by have := HBL.out.size; simp; omega) ?_; intro v' w2 hown' hgrow hh hat; have HO2 := Lib.hid hown'; have HG := Lib.hid hgrow; clear hown' hgrow hh hat))
        go_roundw
        case rel =>
          refine ⟨k + 1, by omega, by go_num, ?_, ?_⟩
          · rw [HT.out, List.length_append, List.map_append]; exact HO2.out
          · exact (HBL.out.alloc HBL.out.size _).grown HG.out (by have := HBL.out.size; simp; omega) (fun c e => (HO.out.lt c e).1)
        case measure => simp [intOf]; omega
      · obtain rfl : k = n := by omega
        have htk : b.take k = b := by rw [HNN.out]; exact List.take_length
        rw [htk] at ho
        have HO := Lib.hid ho
        have HBL := Lib.hid hbl
        clear ho hbl htk
        go_wp2
        go_ret
        exact ⟨_, rfl, HO.out, HBL.out⟩

/-- The least bytes of classes, and the error's number. -/
def bytesOfL (p : List BS) (l : List Int) : List Nat × Nat := if p.isEmpty then ([], 1) else if l.all (fun k => (leastOf p k).2) then (l.map (fun k => (leastOf p k).1), 0) else ([], 2)

set_option maxRecDepth 100000 in
set_option maxHeartbeats 1000000 in
theorem alphBytes_any (v : Value) (base : Nat) (p : List BS) (lv : Value) (l : List Int) (w : World) (h : IsAl w base v p) (hl : IsSl encZ w lv l) (hn : l.length ≤ 1000000) :
    Calls Try.prog 16 #[v, lv] w fun e w' => ∃ u, e = .returned (.tuple #[u, .int .i64 (bytesOfL p l).2]) ∧ w'.ownsRow w.heap.size 5 1 u (bytesOfL p l).1.length ((bytesOfL p l).1.map encB) ∧ Below w.heap.size w w' := by
  obtain ⟨i0, hi, hz0, hz1, hz2⟩ := info_parts Try.infoU8
  obtain ⟨sa, cap, rfl⟩ := hl.form
  have HN := Lib.hid (none_any v base p w h)
  have H := Lib.hid h
  have HB := Lib.hid hl
  obtain ⟨n, hnn⟩ : ∃ n, n = l.length := ⟨_, rfl⟩
  rw [← hnn] at hn HB ⊢
  have HNN := Lib.hid hnn
  clear h hl hnn
  obtain ⟨r, hr⟩ : ∃ r, r = bytesOfL p l := ⟨_, rfl⟩
  rw [← hr]
  unfold bytesOfL at hr
  by_cases hp : p.isEmpty = true
  · rw [hp] at HN
    rw [if_pos hp] at hr
    subst hr
    clear hp
    go_enter Try.func16, Try.ntmps16
    go_wp2_with (go_at_call 68; refine HN.out.mono ?_; rintro e w1 ⟨rfl, hw⟩; replace hw := hw.symm; subst hw)
    refine bodyPost_ret (v := .tuple #[.slice none 0 0, .int .i64 (1 : Nat)]) ?_ rfl ⟨_, rfl, World.ownsRow_nil _ _ _ _, Below.refl _ _⟩
    simp [results, Try.results16, go_sem]
  · rw [if_neg hp] at hr
    rw [show p.isEmpty = false from by simpa using hp] at HN
    clear hp
    have HL := Lib.hid fun k W h => least_any v base p k W h
    obtain ⟨f, hf⟩ : ∃ f, f = leastOf p := ⟨_, rfl⟩
    rw [← hf] at HL hr
    have HR := Lib.hid hr
    clear hf hr
    go_enter Try.func16, Try.ntmps16
    go_wp2_with (go_at_call 68; refine HN.out.mono ?_; rintro e w1 ⟨rfl, hw⟩; replace hw := hw.symm; subst hw)
    go_loopw [15, 6] (fun i u wr => ∃ k : Nat, k ≤ n ∧ i = .int .i64 k ∧ (l.take k).all (fun k => (f k).2) = true ∧ wr.ownsRow w.heap.size 5 1 u ((l.take k).map fun k => (f k).1).length (((l.take k).map fun k => (f k).1).map encB) ∧ Below w.heap.size w wr) (fun i _ _ => n - (intOf i).toNat)
    case atStart => exact ⟨0, by omega, rfl, rfl, World.ownsRow_nil _ _ _ _, Below.refl _ _⟩
    case round =>
      obtain ⟨k, hk, rfl, ha, ho, hbl⟩ := hrel
      by_cases hlt : k < n
      · obtain ⟨z, hzl⟩ : ∃ z, l[k]? = some z := ⟨_, List.getElem?_eq_getElem (by have := HNN.out; omega)⟩
        obtain ⟨g, off, rfl, hg, hcell⟩ := HB.out.elem hzl
        have c0 : wr.cell? ⟨g, off + k, none⟩ = some (.int .i64 z) := (hbl.cell (p := ⟨g, off + k, none⟩) hg).trans hcell
        have HLl := Lib.hid (HL.out z wr (H.out.below hbl))
        have htk : (l.take (k + 1)).map (fun k => (f k).1) = (l.take k).map (fun k => (f k).1) ++ [(f z).1] := by rw [List.take_add_one, hzl]; simp
        have hta : (l.take (k + 1)).all (fun k => (f k).2) = ((l.take k).all (fun k => (f k).2) && (f z).2) := by rw [List.take_add_one, hzl]; simp
        have hlen : ((l.take k).map fun k => (f k).1).length ≤ 1000000 := by rw [List.length_map, List.length_take]; omega
        have HZL := Lib.hid hzl
        have HT := Lib.hid htk
        have HTA := Lib.hid hta
        have HA := Lib.hid ha
        obtain ⟨a5, c5, rfl⟩ := ownsRow_form ho
        have HO := Lib.hid ho
        have HBL := Lib.hid hbl
        clear hcell hzl htk hta ha ho hbl HL
        generalize ((l.take k).map fun k => (f k).1) = xs at HO hlen HT
        obtain ⟨x, ok, hx⟩ : ∃ x ok, f z = (x, ok) := ⟨_, _, rfl⟩
        rw [hx] at HLl HT HTA
        have HX := Lib.hid hx
        clear hx
        cases ok with
        | false =>
          go_wp2_with (go_at_call 36; refine HLl.out.mono ?_; rintro e w1 ⟨rfl, hx⟩; have HX1 := Lib.hid hx; clear hx)
          have hall : l.all (fun k => (f k).2) = false := by
            rw [List.all_eq_false]
            exact ⟨z, List.mem_of_getElem? HZL.out, by rw [HX.out]; simp⟩
          have hr := HR.out
          rw [hall] at hr
          subst hr
          refine bodyPost_ret (v := .tuple #[.slice none 0 0, .int .i64 (2 : Nat)]) ?_ rfl ⟨_, rfl, World.ownsRow_nil _ _ _ _, HBL.out.trans (HX1.out.below.mono HBL.out.size)⟩
          simp [results, Try.results16, go_sem]
        | true =>
          go_wp2_with (first | (go_at_call 36; refine HLl.out.mono ?_; rintro e w1 ⟨rfl, hx⟩; have HX1 := Lib.hid hx; clear hx) | (at_builtin; have ho1 := (ownsRow_keeps HO.out HX1.out.keeps (fun k e => (HO.out.lt k e).2)).alloc (.cells #[.int .u8 x] 5 (0, 0)); have HO1 := Lib.hid ho1; clear ho1; refine wpList_append_own_at _ rfl _ _ 27 rfl w.heap.size 5 i0 (.int .u8 0) 1 1 Try.underlying27 hi hz0 hz1 hz2 rfl (by decide) _ _ _ rfl HO1.out ⟨_, 0, none⟩ 1 1 [encB x] rfl rfl (cell_one_new _ _ _) (by simp [Value.oneCell', encB]) (by unfold maxLen; omega) (by omega) (by have := HBL.out.size; have := HX1.out.size; simp; omega) ?_; intro v' w2 hown' hgrow hh hat; have HO2 := Lib.hid hown'; have HG := Lib.hid hgrow; clear hown' hgrow hh hat))
          go_roundw
          case rel =>
            refine ⟨k + 1, by omega, by go_num, ?_, ?_, ?_⟩
            · rw [HTA.out, HA.out]; rfl
            · rw [HT.out, List.length_append, List.map_append]; exact HO2.out
            · have h1 := HBL.out.trans (HX1.out.below.mono HBL.out.size)
              exact (h1.alloc h1.size _).grown HG.out (by have := h1.size; simp; omega) (fun c e => (HO.out.lt c e).1)
          case measure => simp [intOf]; omega
      · obtain rfl : k = n := by omega
        have htk : l.take k = l := by rw [HNN.out]; exact List.take_length
        rw [htk] at ho ha
        have HO := Lib.hid ho
        have HA := Lib.hid ha
        have HBL := Lib.hid hbl
        clear ho hbl htk ha
        obtain ⟨a5, c5, rfl⟩ := ownsRow_form HO.out
        go_wp2
        have hr := HR.out
        rw [HA.out] at hr
        subst hr
        refine bodyPost_ret (v := .tuple #[.slice a5 _ c5, .int .i64 (0 : Nat)]) ?_ rfl ⟨_, rfl, HO.out, HBL.out⟩
        simp [results, Try.results16, go_sem]
end Go.Proofs.Ytokkgbcjjaiaeaa
