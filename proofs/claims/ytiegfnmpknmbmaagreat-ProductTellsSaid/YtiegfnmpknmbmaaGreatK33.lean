/-
  slices.Reverse at []byte.
-/
import Derived.Test.YtiegfnmpknmbmaaGreatK29
namespace Go.Proofs.YtiegfnmpknmbmaaGreat
open Go Go.RowKit Go.Shelf Go.Maps
attribute [local go_sem] encS

def revTo (l : List Nat) : Nat → List Nat
  | 0 => l
  | i + 1 => ((revTo l i).set i ((revTo l i).getD (l.length - 1 - i) 0)).set (l.length - 1 - i) ((revTo l i).getD i 0)
theorem revTo_len (l : List Nat) : ∀ i, (revTo l i).length = l.length
  | 0 => rfl
  | i + 1 => by simp [revTo, revTo_len l i]
theorem revTo_get (l : List Nat) : ∀ i, 2 * i ≤ l.length → ∀ k, k < l.length → (revTo l i)[k]? = if k < i ∨ l.length - 1 - k < i then l[l.length - 1 - k]? else l[k]?
  | 0, _, k, _ => by simp [revTo]
  | i + 1, h, k, hk => by
    have ih := revTo_get l i (by omega)
    have hl := revTo_len l i
    have hi : (revTo l i).getD i 0 = l.getD i 0 := by rw [List.getD_eq_getElem?_getD, ih i (by omega), if_neg (by omega), List.getD_eq_getElem?_getD]
    have hj : (revTo l i).getD (l.length - 1 - i) 0 = l.getD (l.length - 1 - i) 0 := by rw [List.getD_eq_getElem?_getD, ih _ (by omega), if_neg (by omega), List.getD_eq_getElem?_getD]
    show (((revTo l i).set i ((revTo l i).getD (l.length - 1 - i) 0)).set (l.length - 1 - i) ((revTo l i).getD i 0))[k]? = _
    rw [hi, hj]
    by_cases e1 : k = l.length - 1 - i
    · subst e1
      rw [List.getElem?_set_self (by simp [hl]; omega), if_pos (by omega), show l.length - 1 - (l.length - 1 - i) = i by omega, some_getD 0 (by omega)]
    · rw [List.getElem?_set_ne (fun h => e1 h.symm)]
      by_cases e2 : k = i
      · subst e2
        rw [List.getElem?_set_self (by omega), if_pos (by omega), some_getD 0 (by omega)]
      · rw [List.getElem?_set_ne (fun h => e2 h.symm), ih k hk]
        by_cases h3 : k < i ∨ l.length - 1 - k < i
        · rw [if_pos h3, if_pos (by omega)]
        · rw [if_neg h3, if_neg (by omega)]
theorem revTo_end (l : List Nat) {i : Nat} (h1 : 2 * i ≤ l.length) (h2 : l.length ≤ 2 * i + 1) : revTo l i = l.reverse := by
  apply List.ext_getElem?
  intro k
  by_cases hk : k < l.length
  · rw [revTo_get l i h1 k hk, List.getElem?_reverse hk]
    split
    · rfl
    · rename_i h3
      rw [show l.length - 1 - k = k by omega]
  · rw [List.getElem?_eq_none (by rw [revTo_len]; omega), List.getElem?_eq_none (by simp; omega)]

set_option maxRecDepth 100000 in
set_option maxHeartbeats 4000000 in
theorem rev_any (base : Nat) (v : Value) (l : List Nat) (hl : l.length ≤ 1000000) (w : World) (h : w.ownsRow base 5 1 v l.length (l.map encB)) :
    Calls Tryz.prog 54 #[v] w fun e w' => e = .returned (.tuple #[]) ∧ w'.ownsRow base 5 1 v l.length (l.reverse.map encB) ∧ Keeps (fun x => v.ownBlock ≠ some x) w w' := by
  obtain ⟨ad, cap, rfl⟩ := ownsRow_form h
  obtain ⟨n, hn⟩ : ∃ n, n = l.length := ⟨_, rfl⟩
  rw [← hn] at h hl ⊢
  have H := Lib.hid h
  have HN := Lib.hid hn
  clear h hn
  go_enter Tryz.func54, Tryz.ntmps54
  go_wp2
  go_loopw [2, 3] (fun u v wr => ∃ (i : Nat) (jz : Int), 2 * i ≤ n ∧ u = .int .i64 i ∧ v = .int .i64 jz ∧ jz = (n : Int) - 1 - i ∧ wr.ownsRow base 5 1 (.slice ad n cap) n ((revTo l i).map encB) ∧ Keeps (fun x => (Value.slice ad n cap).ownBlock ≠ some x) w wr) (fun i _ _ => n - (intOf i).toNat)
  case atStart => exact ⟨0, _, by omega, rfl, rfl, by omega, H.out, Keeps.refl _ _⟩
  case round =>
    obtain ⟨i, jz, hi, rfl, rfl, hj, hr, hx⟩ := hrel
    obtain ⟨wo, rfl⟩ : ∃ wo : World, wo = wr := ⟨_, rfl⟩
    by_cases hlt : (i : Int) < jz
    · obtain ⟨j, rfl⟩ : ∃ j : Nat, jz = j := ⟨jz.toNat, by omega⟩
      have hjn : j = n - 1 - i := by omega
      obtain ⟨g, u1, rfl, hg1, hg2, hu1, c1, f1⟩ := rowCell hr (i := i) (by omega)
      obtain ⟨g', u2, e2, _, _, hu2, c2, f2⟩ := rowCell hr (i := j) (by omega)
      cases e2
      have hlen := revTo_len l i
      rw [List.getElem?_map, some_getD 0 (by rw [hlen, ← HN.out]; omega)] at hu1 hu2
      obtain ⟨x, hxx⟩ : ∃ x, x = (revTo l i).getD i 0 := ⟨_, rfl⟩
      obtain ⟨y, hyy⟩ : ∃ y, y = (revTo l i).getD j 0 := ⟨_, rfl⟩
      rw [← hxx] at hu1
      rw [← hyy] at hu2
      cases hu1
      cases hu2
      replace c1 : wo.cell? ⟨g, i, none⟩ = some (.int .u8 x) := c1
      replace c2 : wo.cell? ⟨g, j, none⟩ = some (.int .u8 y) := c2
      have HR := Lib.hid hr
      have HX := Lib.hid hx
      have HXX := Lib.hid hxx
      have HYY := Lib.hid hyy
      have HJ := Lib.hid hjn
      have hin : (i : Int) < n := by omega
      have hjn' : (j : Int) < n := by omega
      clear hr hx hlen hxx hyy hjn hj
      go_wp2_with fail
      go_region
      go_wp2
      go_roundw
      case rel =>
        have kg : Keeps (· ≠ g) wo ((wo.setCell ⟨g, i, none⟩ (.int .u8 y)).setCell ⟨g, j, none⟩ (.int .u8 x)).drew := (((Keeps.refl (· ≠ g) wo).setCell (p := ⟨g, i, none⟩) (fun h => h rfl) _).setCell (p := ⟨g, j, none⟩) (fun h => h rfl) _).drew
        have hrow := ((HR.out.stored i (.int .u8 y)).1.stored j (.int .u8 x)).1
        have e1 : (((revTo l i).map encB).set i (.int .u8 y)).set j (.int .u8 x) = (revTo l (i + 1)).map encB := by
          have hj : l.length - 1 - i = j := by rw [HJ.out, HN.out]
          show _ = (((revTo l i).set i ((revTo l i).getD (l.length - 1 - i) 0)).set (l.length - 1 - i) ((revTo l i).getD i 0)).map encB
          rw [hj, ← HXX.out, ← HYY.out, List.map_set, List.map_set]
          rfl
        rw [e1] at hrow
        refine ⟨i + 1, _, by have := HJ.out; omega, by go_num, rfl, by have := HJ.out; push_cast; omega, ?_, HX.out.tr (kg.mono fun x hx e => hx (by rw [e]; rfl))⟩
        exact hrow
      case measure => simp [intOf]; omega
    · have HR := Lib.hid hr
      have HX := Lib.hid hx
      have he : revTo l i = l.reverse := revTo_end l (by rw [← HN.out]; exact hi) (by rw [← HN.out]; omega)
      rw [he] at HR
      clear hr hx hj
      go_wp2
      refine bodyPost_end (v := .tuple #[]) (by simp [results, Tryz.results54, go_sem]) rfl ⟨rfl, ?_, HX.out⟩
      rw [← List.map_reverse]
      exact HR.out
end Go.Proofs.YtiegfnmpknmbmaaGreat
