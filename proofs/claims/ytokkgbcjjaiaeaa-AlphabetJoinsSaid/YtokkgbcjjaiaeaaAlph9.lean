/-
  Walks of package alphabet: Join.
-/
import Derived.Test.YtokkgbcjjaiaeaaAlph8
namespace Go.Proofs.Ytokkgbcjjaiaeaa
open Go Go.RowKit Go.Shelf Go.Maps

theorem flatS_one_cell (l : List BS) : ∀ u ∈ flatS l, u.oneCell' = true := by
  intro u hu
  unfold flatS at hu
  obtain ⟨s, _, hs⟩ := List.mem_flatMap.1 hu
  simp [encS] at hs
  rcases hs with rfl | rfl | rfl | rfl <;> rfl
theorem IsAl.row {w : World} {base : Nat} {v : Value} {s : BS} {p : List BS} (h : IsAl w base v (s :: p)) :
    ∃ b g cap, v = .pointer (Option.some ⟨b, 0, none⟩) ∧ b < w.heap.size ∧ g < w.heap.size ∧ w.cell? ⟨b, 256, none⟩ = Option.some (.slice (Option.some ⟨g, 0, none⟩) (s :: p).length cap) ∧
      ∀ j u, (flatS (s :: p))[j]? = Option.some u → w.cell? ((⟨g, 0, none⟩ : Addr).add j) = Option.some u := by
  rcases h with ⟨_, h⟩ | ⟨b, sl, h1, h2, h3, h4, h5⟩
  · cases h
  · obtain ⟨g, cap, e, _, hg, _⟩ := ownsRow_elem (i := 0) (s := s) h4 rfl rfl
    subst e
    refine ⟨b, g, cap, h1, h3.lt, hg, ?_, h4.cells rfl⟩
    have := h3.cell 256
    rw [alCells_list (tabOf_length _)] at this
    exact this

/-- What Join returns. -/
def JoinTo (p q : List BS) (w : World) (e : Ending) (w' : World) : Prop :=
  if p.isEmpty || q.isEmpty then e = .returned (.pointer none) ∧ Below w.heap.size w w' else ∃ b, e = .returned (.pointer (some ⟨b, 0, none⟩)) ∧ IsAl w' w.heap.size (.pointer (some ⟨b, 0, none⟩)) (partsOf (p ++ q)) ∧ Below w.heap.size w w'

set_option maxRecDepth 100000 in
set_option maxHeartbeats 1000000 in
theorem join_any (v v2 : Value) (base base2 : Nat) (p q : List BS) (w : World) (h : IsAl w base v p) (h2 : IsAl w base2 v2 q) :
    Calls Try.prog 24 #[v, v2] w (JoinTo p q w) := by
  have HN1 := Lib.hid (none_any v base p w h)
  have HN2 := Lib.hid (none_any v2 base2 q w h2)
  cases p with
  | nil =>
    rw [show ([] : List BS).isEmpty = true from rfl] at HN1
    clear h h2
    go_enter Try.func24, Try.ntmps24
    go_wp2_with fail
    refine (HN1.out).mono ?_
    rintro e w' ⟨rfl, hw⟩
    replace hw := hw.symm
    subst hw
    go_wp2
    go_ret
    exact ⟨rfl, Below.refl _ _⟩
  | cons s p =>
    rw [show (s :: p).isEmpty = false from rfl] at HN1
    cases q with
    | nil =>
      rw [show ([] : List BS).isEmpty = true from rfl] at HN2
      clear h h2
      go_enter Try.func24, Try.ntmps24
      go_wp2_with fail
      refine (HN1.out).mono ?_
      rintro e w' ⟨rfl, hw⟩
      replace hw := hw.symm
      subst hw
      go_wp2_with fail
      refine (HN2.out).mono ?_
      rintro e w' ⟨rfl, hw⟩
      replace hw := hw.symm
      subst hw
      go_wp2
      go_ret
      exact ⟨rfl, Below.refl _ _⟩
    | cons t q =>
      rw [show (t :: q).isEmpty = false from rfl] at HN2
      have hj : ∀ e w', (∃ b, e = .returned (.pointer (some ⟨b, 0, none⟩)) ∧ IsAl w' w.heap.size (.pointer (some ⟨b, 0, none⟩)) (partsOf ((s :: p) ++ (t :: q))) ∧ Below w.heap.size w w') → JoinTo (s :: p) (t :: q) w e w' := fun e w' h => h
      obtain ⟨i0, hi, hz0, hz1, hz2⟩ := info_parts Try.infoS
      obtain ⟨b, g, cap, rfl, hb, hg, hc, hr⟩ := h.row
      obtain ⟨b2, g2, cap2, rfl, hb2, hg2, hc2, hr2⟩ := h2.row
      have hle := h.le
      have hle2 := h2.le
      generalize JoinTo (s :: p) (t :: q) w = J at *
      generalize s :: p = p at *
      generalize t :: q = q at *
      obtain ⟨n, hn⟩ : ∃ n, n = p.length := ⟨_, rfl⟩
      obtain ⟨m, hm⟩ : ∃ m, m = q.length := ⟨_, rfl⟩
      rw [← hn] at hc hle
      rw [← hm] at hc2 hle2
      have HNn := Lib.hid hn
      have HMm := Lib.hid hm
      have HR := Lib.hid hr
      have HR2 := Lib.hid hr2
      have HJ := Lib.hid hj
      clear h h2 hr hr2 hn hm hj
      go_enter Try.func24, Try.ntmps24
      go_wp2_with fail
      refine (HN1.out).mono ?_
      rintro e w' ⟨rfl, hw⟩
      replace hw := hw.symm
      subst hw
      go_wp2_with fail
      refine (HN2.out).mono ?_
      rintro e w' ⟨rfl, hw⟩
      replace hw := hw.symm
      subst hw
      go_wp2
      refine wp_region_lexK (fun x => x < w.heap.size) (by kernel_rfl) (fun i => i == 0 || i == 5 || i == 10 || i == 11) (by kernel_rfl) ?_
      intro C hC hne W0 hK0 hblk hsz hx0
      have HC := Lib.hid hC
      have HK0 := Lib.hid hK0
      have HX0 := Lib.hid hx0
      refine Later.out ?_
      have f1 := lexCell hC (p := ⟨b, 256, none⟩) hb hc
      have f2 := lexCell hC (p := ⟨b2, 256, none⟩) hb2 hc2
      have HSz := Lib.hid hsz
      clear hC hK0 hblk hsz hx0 hc hc2
      refine laterStep (fun K hK => ?_)
      refine lexE rfl rfl ?_
      go_simp
      have k1 := HK0.out.alloc (fun x hx => Nat.lt_of_lt_of_le hx HK0.out.size) (.cells #[] 25 (0, 0))
      refine ⟨(HC.out _).2 k1, hK _ _ ?_⟩
      clear hK K
      have HK1 := Lib.hid k1
      clear k1
      have o1 : (W0.alloc (.cells #[] 25 (0, 0))).ownsRow W0.heap.size 25 4 (.slice (some ⟨W0.heap.size, 0, none⟩) 0 0) 0 [] := ⟨rfl, .inr ⟨W0.heap.size, 0, #[], rfl, Nat.le_refl _, World.alloc_heap_new _ _, Nat.le_refl _, by simp, rfl, rfl⟩⟩
      have HO1 := Lib.hid o1
      clear o1
      repeat (refine laterStep (fun K hK => ?_); first | (refine lexN rfl ?_; try go_simp; refine hK _ _ ?_; clear hK K) | (refine lexF rfl rfl ?_; unfold floatAt; go_simp; refine hK _ _ ?_; clear hK K))
      refine laterStep (fun K hK => ?_)
      refine lexE rfl rfl (effAt_append (.tmp 11) (.tmp 15) 22 rfl (W0.heap.size) 25 i0 (.agg #[.int .u64 0, .int .u64 0, .int .u64 0, .int .u64 0]) 4 32 Try.underlying22 hi hz0 hz1 hz2 rfl (by decide) _ (0) _ rfl (HO1.out) (⟨g, 0, none⟩) (n) (cap) (flatS p) rfl (by rw [flatS_length, HNn.out]) (fun j u hj => (HK1.out.cell (p := (⟨g, 0, none⟩ : Addr).add j) (by rw [Addr.add_mid]; exact hg)).trans (HR.out j u hj)) (flatS_one_cell p) (by unfold maxLen; omega) (by omega) (by simp) ?_)
      intro v2 w2 ho hgr hat
      obtain ⟨a2, c2, rfl⟩ := ownsRow_form ho
      go_simp
      have k2 : Keeps (fun x => x < w.heap.size) w w2 := HK1.out.tr (Keeps.of_grown hgr (fun x hx => ⟨Nat.lt_of_lt_of_le hx HK1.out.size, fun e => by have := HO1.out.lt x e.symm; have := HK0.out.size; omega⟩))
      refine ⟨(HC.out _).2 k2, hK _ _ ?_⟩
      rw [Nat.zero_add, List.nil_append] at ho
      have HO2 := Lib.hid ho
      have HK2 := Lib.hid k2
      have S2 := Lib.hid (Nat.le_trans (Nat.le_trans (Nat.le_refl _) (by simp : W0.heap.size ≤ (W0.alloc (.cells #[] 25 (0, 0))).heap.size)) hgr.size)
      clear hK K ho k2 hgr hat
      repeat (refine laterStep (fun K hK => ?_); first | (refine lexN rfl ?_; try go_simp; refine hK _ _ ?_; clear hK K) | (refine lexF rfl rfl ?_; unfold floatAt; go_simp; refine hK _ _ ?_; clear hK K))
      refine laterStep (fun K hK => ?_)
      refine lexE rfl rfl (effAt_append (.tmp 16) (.tmp 20) 22 rfl (W0.heap.size) 25 i0 (.agg #[.int .u64 0, .int .u64 0, .int .u64 0, .int .u64 0]) 4 32 Try.underlying22 hi hz0 hz1 hz2 rfl (by decide) _ (n) _ rfl (HO2.out) (⟨g2, 0, none⟩) (m) (cap2) (flatS q) rfl (by rw [flatS_length, HMm.out]) (fun j u hj => (HK2.out.cell (p := (⟨g2, 0, none⟩ : Addr).add j) (by rw [Addr.add_mid]; exact hg2)).trans (HR2.out j u hj)) (flatS_one_cell q) (by unfold maxLen; omega) (by omega) (S2.out) ?_)
      intro v3 w3 ho hgr hat
      obtain ⟨a3, c3, rfl⟩ := ownsRow_form ho
      go_simp
      have k3 : Keeps (fun x => x < w.heap.size) w w3 := HK2.out.tr (Keeps.of_grown hgr (fun x hx => ⟨Nat.lt_of_lt_of_le hx HK2.out.size, fun e => by have := HO2.out.lt x e.symm; have := HK0.out.size; omega⟩))
      refine ⟨(HC.out _).2 k3, hK _ _ ?_⟩
      have o3 : w3.ownsRow W0.heap.size 25 4 (.slice a3 (n + m) c3) (p ++ q).length (flatS (p ++ q)) := by
        rw [List.length_append, ← HNn.out, ← HMm.out, flatS_append]; exact ho
      have HI3 := Lib.hid (ownsRow_sets o3)
      have HK3 := Lib.hid k3
      clear hK K ho k3 hgr hat o3
      have HS := Lib.hid (fun x (hx : x < w.heap.size) => hx)
      refine laterStep (fun K hK => ?_)
      refine lexE rfl rfl ?_
      go_simp
      refine effAt_call ((alphOf_any (p ++ q) _ _ HI3.out (by rw [List.length_append, ← HNn.out, ← HMm.out]; omega)).mono ?_)
      rintro e w4 ⟨bo, rfl, h1, hx⟩
      have hk4 := Keeps.stepB HK3.out HS.out hx
      refine ⟨_, rfl, (HC.out _).2 hk4, hK _ _ ?_⟩
      have HK4 := Lib.hid hk4
      clear hK K hk4
      repeat (refine laterStep (fun K hK => ?_); first | (refine lexN rfl ?_; try go_simp; refine hK _ _ ?_; clear hK K) | (refine lexF rfl rfl ?_; unfold floatAt; go_simp; refine hK _ _ ?_; clear hK K))
      refine laterNil ?_
      go_wp2
      exact HJ.out _ _ ⟨bo, rfl, h1.base HK3.out.size, HK4.out.below⟩
end Go.Proofs.Ytokkgbcjjaiaeaa
