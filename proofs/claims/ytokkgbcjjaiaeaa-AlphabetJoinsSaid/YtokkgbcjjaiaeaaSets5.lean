/-
  Walks of package sets: Of, Range.
-/
import Derived.Test.YtokkgbcjjaiaeaaSets4
import Derived.RegionTactic
import Derived.BigRegion
namespace Go.Proofs.Ytokkgbcjjaiaeaa
open Go Go.RowKit Go.Shelf
attribute [local go_sem] encS

set_option maxRecDepth 100000 in
set_option maxHeartbeats 1000000 in
theorem range_any (lo hi : Nat) (hl : lo < 256) (hh : hi < 256) (w : World) : Calls Try.prog 65 #[.int .u8 lo, .int .u8 hi] w fun e w' => e = .returned (.agg (encS (bsOf fun c => decide (lo ≤ c) && decide (c ≤ hi)))) ∧ Ext w w' := by
  obtain ⟨u, hu⟩ : ∃ u, u = bsOf fun c => decide (lo ≤ c) && decide (c ≤ hi) := ⟨_, rfl⟩
  rw [← hu]
  have HU := Lib.hid hu
  clear hu
  go_enter Try.func65, Try.ntmps65
  go_wp2
  go_loopw [6] (fun i wr => ∃ (k : Nat) (s : BS), k ≤ 256 ∧ (k ≤ hi + 1 ∨ k = lo) ∧ lo ≤ k ∧ i = .int .i64 k ∧ (∀ c, c < 256 → s.getLsbD c = (decide (lo ≤ c) && decide (c < k))) ∧ Blk wr (w.heap.size + 1) (encS s) 25 ∧ Blk wr w.heap.size #[.int .u64 0, .int .u64 0, .int .u64 0, .int .u64 0] 25 ∧ Ext w wr) (fun i _ => 256 - (intOf i).toNat)
  case atStart =>
    refine ⟨lo, 0, by omega, .inr rfl, Nat.le_refl _, rfl, fun c hc => ?_, ?_, ?_, ((Ext.refl w).alloc _).alloc _⟩
    · rw [Bool.eq_iff_iff]; simp
    · rw [encS_zero]; exact (Blk.new _ _ _).at (by simp)
    · exact (Blk.new _ _ _).alloc _
  case round =>
    obtain ⟨k, s, hk, hkh, hlk, rfl, hs, hB, hR, hx⟩ := hrel
    have HS := Lib.hid hs
    clear hs
    by_cases hle : k ≤ hi
    · have hw : (encS s)[k / 64]? = some (.int .u64 (wd s (k / 64)).toNat) := encS_get s (by omega)
      have hc : wr.cell? ⟨w.heap.size + 1, k / 64, none⟩ = some (.int .u64 (wd s (k / 64)).toNat) := (hB.cell _).trans hw
      have hf := hB.frozen (k / 64)
      have h63 := bits_63 k (by omega)
      have HB := Lib.hid hB
      have HR := Lib.hid hR
      have HX := Lib.hid hx
      clear hB hR hx hw
      go_wp2
      go_region
      go_wp2
      go_roundw
      case rel =>
        refine ⟨k + 1, withB s k, by omega, .inl (by omega), by omega, by go_num, fun c hc => ?_, ?_, ?_, (HX.out.setCell (by simp) _).drew⟩
        · rw [withB_bit s (by omega), HS.out c hc, Bool.eq_iff_iff]; simp; omega
        · rw [← encS_withB s (show k < 256 by omega)]; exact HB.out.set _ _
        · exact (HR.out.other (by simp) _)
      case measure => simp [intOf]; omega
    · have hus : s = u := by rw [HU.out]; exact BS.eq_bsOf fun c hc => by rw [HS.out c hc, Bool.eq_iff_iff]; simp; omega
      subst hus
      obtain ⟨c0, c1, c2, c3⟩ := hB.set4
      have r0 : wr.cell? ⟨w.heap.size, 0, none⟩ = some (.int .u64 0) := hR.cell 0
      have r1 : wr.cell? ⟨w.heap.size, 1, none⟩ = some (.int .u64 0) := hR.cell 1
      have r2 : wr.cell? ⟨w.heap.size, 2, none⟩ = some (.int .u64 0) := hR.cell 2
      have r3 : wr.cell? ⟨w.heap.size, 3, none⟩ = some (.int .u64 0) := hR.cell 3
      have rf := hR.frozen
      have HX := Lib.hid hx
      clear hB hR hx
      go_wp2
      refine bodyPost_ret (v := .agg (encS s)) ?_ rfl ⟨rfl, ?_⟩
      · simp [results, Try.results65, go_sem, r0, r1, r2, r3]
      · exact (((HX.out.setCell (by simp <;> omega) _).setCell (by simp <;> omega) _).setCell (by simp <;> omega) _).setCell (by simp <;> omega) _

set_option maxRecDepth 100000 in
set_option maxHeartbeats 1000000 in
theorem of_any (l : List Nat) (hl : ∀ c ∈ l, c < 256) (b off cap : Nat) (w : World) (hn : l.length ≤ 9223372036854775807) (hb : b < w.heap.size) (hc : ∀ (i : Nat) (x : Nat), l[i]? = some x → w.cell? ⟨b, off + i, none⟩ = some (.int .u8 x)) :
    Calls Try.prog 56 #[.slice (some ⟨b, off, none⟩) l.length cap] w fun e w' => e = .returned (.agg (encS (bsOf fun c => l.contains c))) ∧ Ext w w' := by
  obtain ⟨u, hu⟩ : ∃ u, u = bsOf fun c => l.contains c := ⟨_, rfl⟩
  rw [← hu]
  have HU := Lib.hid hu
  have HC := Lib.hid hc
  have HL := Lib.hid hl
  clear hu hc
  go_enter Try.func56, Try.ntmps56
  go_wp2
  go_loopw [8] (fun i wr => ∃ (k : Nat) (s : BS), k ≤ l.length ∧ i = .int .i64 k ∧ (∀ c, c < 256 → s.getLsbD c = (l.take k).contains c) ∧ Blk wr (w.heap.size + 1) (encS s) 25 ∧ Blk wr w.heap.size #[.int .u64 0, .int .u64 0, .int .u64 0, .int .u64 0] 25 ∧ Ext w wr) (fun i _ => l.length - (intOf i).toNat)
  case atStart =>
    refine ⟨0, 0, by omega, rfl, fun c hc => by simp, ?_, ?_, ((Ext.refl w).alloc _).alloc _⟩
    · rw [encS_zero]; exact (Blk.new _ _ _).at (by simp)
    · exact (Blk.new _ _ _).alloc _
  case round =>
    obtain ⟨k, s, hk, rfl, hs, hB, hR, hx⟩ := hrel
    have HS := Lib.hid hs
    clear hs
    by_cases hlt : k < l.length
    · obtain ⟨c, hcl⟩ : ∃ c, l[k]? = some c := ⟨l[k], List.getElem?_eq_getElem hlt⟩
      have hc256 : c < 256 := HL.out c (List.mem_of_getElem? hcl)
      have hcc : wr.cell? ⟨b, off + k, none⟩ = some (.int .u8 c) := (hx.cell (p := ⟨b, off + k, none⟩) hb).trans (HC.out k c hcl)
      have hw : (encS s)[c / 64]? = some (.int .u64 (wd s (c / 64)).toNat) := encS_get s (by omega)
      have hc1 : wr.cell? ⟨w.heap.size + 1, c / 64, none⟩ = some (.int .u64 (wd s (c / 64)).toNat) := (hB.cell _).trans hw
      have hf := hB.frozen (c / 64)
      have htk : l.take (k + 1) = l.take k ++ [c] := by rw [List.take_add_one, hcl]; rfl
      have HT := Lib.hid htk
      have HB := Lib.hid hB
      have HR := Lib.hid hR
      have HX := Lib.hid hx
      have HCl := Lib.hid hcl
      clear hB hR hx hw htk hcl
      go_wp2
      go_roundw
      case rel =>
        refine ⟨k + 1, withB s c, by omega, by go_num, fun d hd => ?_, ?_, ?_, HX.out.setCell (by simp) _⟩
        · rw [withB_bit s hc256, HS.out d hd, HT.out, List.contains_eq_any_beq, List.contains_eq_any_beq, List.any_append]
          simp
        · rw [← encS_withB s hc256]; exact HB.out.set _ _
        · exact HR.out.other (by simp) _
      case measure => simp [intOf]; omega
    · have hus : s = u := by rw [HU.out]; exact BS.eq_bsOf fun c hc => by rw [HS.out c hc, List.take_of_length_le (by omega)]
      subst hus
      obtain rfl : k = l.length := by omega
      obtain ⟨c0, c1, c2, c3⟩ := hB.set4
      have r0 : wr.cell? ⟨w.heap.size, 0, none⟩ = some (.int .u64 0) := hR.cell 0
      have r1 : wr.cell? ⟨w.heap.size, 1, none⟩ = some (.int .u64 0) := hR.cell 1
      have r2 : wr.cell? ⟨w.heap.size, 2, none⟩ = some (.int .u64 0) := hR.cell 2
      have r3 : wr.cell? ⟨w.heap.size, 3, none⟩ = some (.int .u64 0) := hR.cell 3
      have rf := hR.frozen
      have HX := Lib.hid hx
      clear hB hR hx
      go_wp2
      refine bodyPost_ret (v := .agg (encS s)) ?_ rfl ⟨rfl, ?_⟩
      · simp [results, Try.results56, go_sem, r0, r1, r2, r3]
      · exact (((HX.out.setCell (by simp <;> omega) _).setCell (by simp <;> omega) _).setCell (by simp <;> omega) _).setCell (by simp <;> omega) _
end Go.Proofs.Ytokkgbcjjaiaeaa
