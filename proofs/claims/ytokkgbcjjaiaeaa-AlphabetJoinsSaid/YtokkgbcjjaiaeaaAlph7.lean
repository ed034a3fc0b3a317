/-
  Walks of package alphabet: Table, Same.
-/
import Derived.Test.YtokkgbcjjaiaeaaAlph6
import Derived.Deep.MidRow
import Derived.Deep.WholeRow
namespace Go.Proofs.Ytokkgbcjjaiaeaa
open Go Go.RowKit Go.Shelf Go.Maps

/-- The table as an array of the model's. -/
def tabArr (p : List BS) : Array Value := ((tabOf p).map fun (n : Nat) => Value.int .u8 n).toArray
theorem tabArr_size (p : List BS) : (tabArr p).size = 256 := by unfold tabArr; simp [tabOf_length]
theorem tabArr_get (p : List BS) {c : Nat} (hc : c < 256) : (tabArr p)[c]? = some (.int .u8 (cls p c)) := by
  unfold tabArr
  rw [List.getElem?_toArray, List.getElem?_map, cls_get p hc]; rfl
theorem tabArr_nil : Try.zeroCells38 = tabArr [] := by kernel_rfl
theorem size_tab : (Try.prog.info? 38).map (·.size) = some 256 := by kernel_rfl

theorem tabArr_one (p : List BS) : (tabArr p).all (·.oneCell') = true := by
  unfold tabArr
  simp [Value.oneCell']

theorem loadFrom_range {P : Program} {w : World} {b o n : Nat} {cs : Array Value} (hc : w.rangeAt b o cs.toList) (hn : cs.size = n) : (loadCellsFrom ⟨b, o, none⟩ 0 n #[]).run P w = .ok cs w := by
  have := run_loadCells_list (P := P) w ⟨b, o, none⟩ cs.toList (fun j v hv => by rw [Addr.add_mid]; exact hc j v hv)
  rw [Array.length_toList, hn] at this
  simpa [loadCells] using this

set_option maxRecDepth 100000 in
theorem table_any (v : Value) (base : Nat) (p : List BS) (w : World) (h : IsAl w base v p) :
    Calls Try.prog 18 #[v] w fun e w' => e = .returned (.agg (tabArr p)) ∧ Ext w w' := by
  have hsz := size_tab
  cases p with
  | nil =>
    have HN := Lib.hid fun W h => none_any v base [] W h
    have H := Lib.hid h
    have hz := tabArr_nil
    have hst := run_storeCells_new (P := Try.prog) w 38 (tabArr []) (tabArr []) (by rw [tabArr_size]; exact hsz) rfl (tabArr_one _)
    have hs0 := tabArr_size []
    clear h hsz
    go_enter Try.func18, Try.ntmps18
    go_wp2_with fail
    refine (HN.out _ (H.out.below ((Ext.refl _).alloc _).below)).mono ?_
    rintro e w' ⟨rfl, hw⟩
    replace hw := hw.symm
    subst hw
    go_wp2
    refine bodyPost_ret (results_cell_row rfl _ _ w.heap.size 38 (tabArr []) (0, 0) _ rfl (World.alloc_heap_new _ _) Try.underlying38 rfl (by rw [tabArr_size]; exact size_tab)) rfl ⟨rfl, (Ext.refl _).alloc _⟩
  | cons s p =>
    obtain ⟨b, sa, cap, rfl, _, ht, _, hb, _⟩ := h.some
    have hr : w.rangeAt b 0 (tabArr (s :: p)).toList := fun j u hj => by
      have hj256 : j < 256 := by have := (List.getElem?_eq_some_iff.1 hj).1; simpa [tabArr_size] using this
      rw [Array.getElem?_toList, tabArr_get _ hj256] at hj
      cases hj
      rw [Nat.zero_add]
      exact ht j _ (cls_get _ hj256)
    have HR : Hid (∀ c : Array Value, (w.alloc (.cells c 38)).rangeAt b 0 (tabArr (s :: p)).toList) := fun c j u hj => (((Ext.refl w).alloc _).cell (p := ⟨b, 0 + j, none⟩) hb).trans (hr j u hj)
    have HN := Lib.hid fun W (h : IsAl W base (.pointer (some ⟨b, 0, none⟩)) (s :: p)) => none_any _ base (s :: p) W h
    have H := Lib.hid h
    have hz := tabArr_nil
    have hst := run_storeCells_new (P := Try.prog) w 38 (tabArr []) (tabArr (s :: p)) (by rw [tabArr_size]; exact hsz) (by rw [tabArr_size, tabArr_size]) (tabArr_one _)
    clear h hsz ht hr
    generalize hq : s :: p = q at *
    have HQ := Lib.hid (show q.isEmpty = false by rw [← hq]; rfl)
    clear hq
    have hs0 := tabArr_size q
    go_enter Try.func18, Try.ntmps18
    go_wp2_with fail
    refine (HN.out _ (H.out.below ((Ext.refl _).alloc _).below)).mono ?_
    rintro e w' ⟨rfl, hw⟩
    replace hw := hw.symm
    subst hw
    rw [HQ.out]
    go_wp2_with (refine wpList_load_mid rfl 38 (.tmp 8) rfl b 0 rfl (tabArr q).toList _ (HR.out _) Try.underlying38 rfl (by rw [Array.length_toList, tabArr_size]; exact size_tab) ?_)
    refine bodyPost_ret (results_cell_row rfl _ _ w.heap.size 38 (tabArr q) (0, 0) _ rfl (World.alloc_heap_new _ _) Try.underlying38 rfl (by rw [tabArr_size]; exact size_tab)) rfl ⟨rfl, (Ext.refl _).alloc _⟩
end Go.Proofs.Ytokkgbcjjaiaeaa
