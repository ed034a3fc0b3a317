/-
  Walks of the reference of layer 1: Range and Of return some set (which, is not said).
-/
import Derived.Test.YtokkgbcjjaiaeaaRefB
namespace Go.Proofs.Ytokkgbcjjaiaeaa
open Go Go.RowKit Go.Shelf Go.Maps

set_option maxRecDepth 100000 in
set_option maxHeartbeats 2000000 in
theorem refRange_any (lo hi : Nat) (hl : lo < 256) (hh : hi < 256) (w : World) :
    Calls Try.prog 32 #[.int .u8 lo, .int .u8 hi] w fun e w' => ∃ f, e = .returned (.agg (aI f)) ∧ Ext w w' := by
  have hz := zeroA56
  have hwl : IntKind.i64.wrap (lo : Int) = (lo : Int) := IntWalk.i64_in _ (by omega)
  have hwh : IntKind.i64.wrap (hi : Int) = (hi : Int) := IntWalk.i64_in _ (by omega)
  go_enter Try.func32, Try.ntmps32
  go_wp2
  clear hz
  go_loopw [6] (fun i wr => ∃ c : Nat, c ≤ 256 ∧ i = .int .i64 c ∧ Blk wr w.heap.size (aI fun _ => 0) 56 ∧ (∃ f, Blk wr (w.heap.size + 1) (aI f) 56) ∧ Ext w wr) (fun i _ => 256 - (intOf i).toNat)
  case atStart =>
    refine ⟨0, by omega, rfl, ?_, ⟨fun _ => 0, ?_⟩, ((Ext.refl w).alloc _).alloc _⟩
    · exact (Blk.new _ (aI fun _ => 0) _).alloc _
    · exact (Blk.new _ (aI fun _ => 0) _).at (by simp)
  case round =>
    obtain ⟨c, hc, rfl, h2, ⟨f, h3⟩, hx⟩ := hrel
    obtain ⟨wo, rfl⟩ : ∃ wo : World, wo = wr := ⟨_, rfl⟩
    have H2 := Lib.hid h2
    have H3 := Lib.hid h3
    have HX := Lib.hid hx
    by_cases hlt : c < 256
    · have hst := h3.cell c
      rw [aI_get _ hlt] at hst
      have hfr := h3.frozen c
      clear h2 h3 hx
      by_cases a1 : lo ≤ c
      · have d1 : decide (lo ≤ c) = true := decide_eq_true a1
        have d1' : decide ((lo : Int) ≤ c) = true := decide_eq_true (by omega)
        by_cases a2 : c ≤ hi
        · have d2 : decide (c ≤ hi) = true := decide_eq_true a2
          have d2' : decide ((c : Int) ≤ hi) = true := decide_eq_true (by omega)
          go_wp2
          go_roundw
          case rel =>
            refine ⟨c + 1, by omega, by go_num, H2.out.other (by simp) _, ⟨fun d => if d = c then 1 else f d, ?_⟩, HX.out.setCell (by simp) _⟩
            have h := H3.out.set c (.int .i64 1)
            rw [aI_set _ hlt] at h
            exact h
          case measure => simp [intOf]; omega
        · have d2 : decide (c ≤ hi) = false := decide_eq_false a2
          have d2' : decide ((c : Int) ≤ hi) = false := decide_eq_false (by omega)
          go_wp2
          go_roundw
          case rel => exact ⟨c + 1, by omega, by go_num, H2.out, ⟨f, H3.out⟩, HX.out⟩
          case measure => simp [intOf]; omega
      · have d1 : decide (lo ≤ c) = false := decide_eq_false a1
        have d1' : decide ((lo : Int) ≤ c) = false := decide_eq_false (by omega)
        go_wp2
        go_roundw
        case rel => exact ⟨c + 1, by omega, by go_num, H2.out, ⟨f, H3.out⟩, HX.out⟩
        case measure => simp [intOf]; omega
    · obtain rfl : c = 256 := by omega
      clear h2 h3 hx
      go_wp2_with (first | (refine wpList_load_w rfl 56 (.tmp 5) rfl (w.heap.size + 1) rfl (aI f) _ H3.out.range Try.underlying56 rfl (sizeA56 _) ?_) | (refine wpList_store_row rfl 56 (.tmp 4) (.tmp 23) rfl w.heap.size (aI f) rfl rfl 56 (aI fun _ => 0) H2.out (sizeA56 _) (by rw [aI_size, aI_size]) (aI_one _) ?_))
      refine bodyPost_ret (results_cell_row rfl _ _ w.heap.size 56 (aI f) (0, 0) _ rfl (H2.out.setRow) Try.underlying56 rfl (sizeA56 _)) rfl ⟨f, rfl, HX.out.setRow (Nat.le_refl _) _⟩

set_option maxRecDepth 100000 in
set_option maxHeartbeats 2000000 in
theorem refOf01_any (v : Value) (l : List Nat) (w : World) (hv : IsSl encB w v l) (hb : ∀ c ∈ l, c < 256) (hn : l.length ≤ 1000000) :
    Calls Try.prog 33 #[v] w fun e w' => ∃ f, e = .returned (.agg (aI f)) ∧ Ext w w' := by
  have hz := zeroA56
  obtain ⟨sa, cap, rfl⟩ := hv.form
  obtain ⟨n, hnn⟩ : ∃ n, n = l.length := ⟨_, rfl⟩
  rw [← hnn] at hv hn ⊢
  have HV := Lib.hid hv
  have HN := Lib.hid hnn
  have HB := Lib.hid hb
  clear hv hnn hb
  go_enter Try.func33, Try.ntmps33
  go_wp2
  clear hz
  go_loopw [4] (fun i wr => ∃ c : Nat, c ≤ n ∧ i = .int .i64 c ∧ Blk wr w.heap.size (aI fun _ => 0) 56 ∧ (∃ f, Blk wr (w.heap.size + 1) (aI f) 56) ∧ Ext w wr) (fun i _ => n - (intOf i).toNat)
  case atStart =>
    refine ⟨0, by omega, rfl, ?_, ⟨fun _ => 0, ?_⟩, ((Ext.refl w).alloc _).alloc _⟩
    · exact (Blk.new _ (aI fun _ => 0) _).alloc _
    · exact (Blk.new _ (aI fun _ => 0) _).at (by simp)
  case round =>
    obtain ⟨k, hk, rfl, h2, ⟨f, h3⟩, hx⟩ := hrel
    obtain ⟨wo, rfl⟩ : ∃ wo : World, wo = wr := ⟨_, rfl⟩
    have H2 := Lib.hid h2
    have H3 := Lib.hid h3
    have HX := Lib.hid hx
    by_cases hlt : k < n
    · obtain ⟨c, hcl⟩ : ∃ c, l[k]? = some c := ⟨_, List.getElem?_eq_getElem (by have := HN.out; omega)⟩
      have hc := HB.out c (List.mem_of_getElem? hcl)
      obtain ⟨g, off, rfl, hg, hcell⟩ := (HV.out.ext hx).elem hcl
      have c0 : wo.cell? ⟨g, off + k, none⟩ = some (.int .u8 c) := hcell
      have hst := h3.cell c
      rw [aI_get _ hc] at hst
      have hfr := h3.frozen c
      have hki : (k : Int) < n := by omega
      have hci : (c : Int) < 256 := by omega
      clear h2 h3 hx hcl hcell
      go_wp2
      go_roundw
      case rel =>
        refine ⟨k + 1, by omega, by go_num, H2.out.other (by simp) _, ⟨fun d => if d = c then 1 else f d, ?_⟩, HX.out.setCell (by simp) _⟩
        have h := H3.out.set c (.int .i64 1)
        rw [aI_set _ hc] at h
        exact h
      case measure => simp [intOf]; omega
    · obtain rfl : k = n := by omega
      clear h2 h3 hx
      go_wp2_with (first | (refine wpList_load_w rfl 56 (.tmp 3) rfl (w.heap.size + 1) rfl (aI f) _ H3.out.range Try.underlying56 rfl (sizeA56 _) ?_) | (refine wpList_store_row rfl 56 (.tmp 2) (.tmp 16) rfl w.heap.size (aI f) rfl rfl 56 (aI fun _ => 0) H2.out (sizeA56 _) (by rw [aI_size, aI_size]) (aI_one _) ?_))
      refine bodyPost_ret (results_cell_row rfl _ _ w.heap.size 56 (aI f) (0, 0) _ rfl (H2.out.setRow) Try.underlying56 rfl (sizeA56 _)) rfl ⟨f, rfl, HX.out.setRow (Nat.le_refl _) _⟩

end Go.Proofs.Ytokkgbcjjaiaeaa
