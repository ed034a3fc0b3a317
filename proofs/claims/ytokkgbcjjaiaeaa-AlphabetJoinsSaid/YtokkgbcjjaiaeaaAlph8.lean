/-
  Walks of package alphabet: Same, Join.
-/
import Derived.Test.YtokkgbcjjaiaeaaAlph7
import Derived.Test.YtokkgbcjjaiaeaaLex2
namespace Go.Proofs.Ytokkgbcjjaiaeaa
open Go Go.RowKit Go.Shelf Go.Maps

/-- Whether two tables are alike. -/
def tabEq (p q : List BS) : Bool := (List.range 256).all fun i => ((cls p i : Nat) : Int) == ((cls q i : Nat) : Int)
def sameOf (p q : List BS) : Bool := !p.isEmpty && !q.isEmpty && tabEq p q
theorem tab_equal (p q : List BS) (w : World) : (Op.equalIn 10000 38 (.agg (tabArr p)) (.agg (tabArr q))).run Try.prog w = .ok (tabEq p q) w :=
  run_equalIn_array w 9998 _ _ _ _ Try.underlying38 Try.underlying5 Try.isAgg5 Try.sizeOf5 (fun _ hi => tabArr_get p hi) (fun _ hi => tabArr_get q hi)

theorem IsAl.range {w : World} {base : Nat} {v : Value} {s : BS} {p : List BS} (h : IsAl w base v (s :: p)) :
    ∃ b, v = .pointer (Option.some ⟨b, 0, none⟩) ∧ b < w.heap.size ∧ w.rangeAt b 0 (tabArr (s :: p)).toList := by
  obtain ⟨b, sa, cap, rfl, _, ht, _, hb, _⟩ := h.some
  refine ⟨b, rfl, hb, fun j u hj => ?_⟩
  have hj256 : j < 256 := by have := (List.getElem?_eq_some_iff.1 hj).1; simpa [tabArr_size] using this
  rw [Array.getElem?_toList, tabArr_get _ hj256] at hj
  cases hj
  rw [Nat.zero_add]
  exact ht j _ (cls_get _ hj256)
set_option maxRecDepth 100000 in
set_option maxHeartbeats 1000000 in
theorem same_any (v v2 : Value) (base base2 : Nat) (p q : List BS) (w : World) (h : IsAl w base v p) (h2 : IsAl w base2 v2 q) :
    Calls Try.prog 27 #[v, v2] w fun e w' => e = .returned (.bool (sameOf p q)) ∧ Ext w w' := by
  have HN1 := Lib.hid fun W (hx : Ext w W) => none_any v base p W (h.below hx.below)
  have HN2 := Lib.hid fun W (hx : Ext w W) => none_any v2 base2 q W (h2.below hx.below)
  cases p with
  | nil =>
    rw [show sameOf [] q = false from rfl]
    rw [show ([] : List BS).isEmpty = true from rfl] at HN1
    clear h h2
    go_enter Try.func27, Try.ntmps27
    go_wp2
    refine wp_region_lexK (fun _ => False) (by kernel_rfl) (fun i => i == 1 || i == 3 || i == 5) (by kernel_rfl) ?_
    intro C hC hne W0 hK0 hblk hsz hx0
    have HC := Lib.hid hC
    have HK0 := Lib.hid hK0
    have HX0 := Lib.hid hx0
    refine Later.out ?_
    clear hC hK0 hblk hsz hx0
    repeat (refine laterStep (fun K hK => ?_); first | (refine lexN rfl ?_; try go_simp; refine hK _ _ ?_; clear hK K) | (refine lexF rfl rfl ?_; unfold floatAt; go_simp; refine hK _ _ ?_; clear hK K))
    refine laterStep (fun K hK => ?_)
    refine lexE rfl rfl ?_
    go_simp
    refine effAt_call ((HN1.out _ HX0.out).mono ?_)
    rintro e w1 ⟨rfl, hw⟩
    replace hw := hw.symm
    subst hw
    have hk1 := HK0.out
    refine ⟨_, rfl, (HC.out _).2 hk1, hK _ _ ?_⟩
    have HK1 := Lib.hid hk1
    clear hK K hk1
    repeat (refine laterStep (fun K hK => ?_); first | (refine lexN rfl ?_; try go_simp; refine hK _ _ ?_; clear hK K) | (refine lexF rfl rfl ?_; unfold floatAt; go_simp; refine hK _ _ ?_; clear hK K) | (refine lexE rfl rfl ?_; go_simp; refine ⟨(HC.out _).2 HK1.out, hK _ _ ?_⟩; clear hK K))
    refine laterNil ?_
    go_wp2
    go_ret
    exact ⟨rfl, HX0.out⟩
  | cons s p =>
    rw [show (s :: p).isEmpty = false from rfl] at HN1
    cases q with
    | nil =>
      rw [show sameOf (s :: p) [] = false from rfl]
      rw [show ([] : List BS).isEmpty = true from rfl] at HN2
      clear h h2
      go_enter Try.func27, Try.ntmps27
      go_wp2
      refine wp_region_lexK (fun _ => False) (by kernel_rfl) (fun i => i == 1 || i == 3 || i == 5) (by kernel_rfl) ?_
      intro C hC hne W0 hK0 hblk hsz hx0
      have HC := Lib.hid hC
      have HK0 := Lib.hid hK0
      have HX0 := Lib.hid hx0
      refine Later.out ?_
      clear hC hK0 hblk hsz hx0
      repeat (refine laterStep (fun K hK => ?_); first | (refine lexN rfl ?_; try go_simp; refine hK _ _ ?_; clear hK K) | (refine lexF rfl rfl ?_; unfold floatAt; go_simp; refine hK _ _ ?_; clear hK K))
      refine laterStep (fun K hK => ?_)
      refine lexE rfl rfl ?_
      go_simp
      refine effAt_call ((HN1.out _ HX0.out).mono ?_)
      rintro e w1 ⟨rfl, hw⟩
      replace hw := hw.symm
      subst hw
      have hk1 := HK0.out
      refine ⟨_, rfl, (HC.out _).2 hk1, hK _ _ ?_⟩
      have HK1 := Lib.hid hk1
      clear hK K hk1
      repeat (refine laterStep (fun K hK => ?_); first | (refine lexN rfl ?_; try go_simp; refine hK _ _ ?_; clear hK K) | (refine lexF rfl rfl ?_; unfold floatAt; go_simp; refine hK _ _ ?_; clear hK K) | (refine lexE rfl rfl ?_; go_simp; refine ⟨(HC.out _).2 HK1.out, hK _ _ ?_⟩; clear hK K))
      refine laterStep (fun K hK => ?_)
      refine lexE rfl rfl ?_
      go_simp
      refine effAt_call ((HN2.out _ HX0.out).mono ?_)
      rintro e w1 ⟨rfl, hw⟩
      replace hw := hw.symm
      subst hw
      have hk2 := HK1.out
      refine ⟨_, rfl, (HC.out _).2 hk2, hK _ _ ?_⟩
      have HK2 := Lib.hid hk2
      clear hK K hk2
      repeat (refine laterStep (fun K hK => ?_); first | (refine lexN rfl ?_; try go_simp; refine hK _ _ ?_; clear hK K) | (refine lexF rfl rfl ?_; unfold floatAt; go_simp; refine hK _ _ ?_; clear hK K) | (refine lexE rfl rfl ?_; go_simp; refine ⟨(HC.out _).2 HK1.out, hK _ _ ?_⟩; clear hK K))
      refine laterNil ?_
      go_wp2
      go_ret
      exact ⟨rfl, HX0.out⟩
    | cons t q =>
      rw [show sameOf (s :: p) (t :: q) = tabEq (s :: p) (t :: q) from rfl]
      rw [show (t :: q).isEmpty = false from rfl] at HN2
      obtain ⟨b, rfl, hb, hr⟩ := h.range
      obtain ⟨b2, rfl, hb2, hr2⟩ := h2.range
      have he := fun W => tab_equal (s :: p) (t :: q) W
      generalize s :: p = p at *
      generalize t :: q = q at *
      have HR := Lib.hid hr
      have HR2 := Lib.hid hr2
      clear h h2 hr hr2
      go_enter Try.func27, Try.ntmps27
      go_wp2
      refine wp_region_lexK (fun x => x = b ∨ x = b2) (by kernel_rfl) (fun i => i == 1 || i == 3 || i == 5) (by kernel_rfl) ?_
      intro C hC hne W0 hK0 hblk hsz hx0
      have HC := Lib.hid hC
      have HK0 := Lib.hid hK0
      have HX0 := Lib.hid hx0
      refine Later.out ?_
      clear hC hK0 hblk hsz hx0
      repeat (refine laterStep (fun K hK => ?_); first | (refine lexN rfl ?_; try go_simp; refine hK _ _ ?_; clear hK K) | (refine lexF rfl rfl ?_; unfold floatAt; go_simp; refine hK _ _ ?_; clear hK K))
      refine laterStep (fun K hK => ?_)
      refine lexE rfl rfl ?_
      go_simp
      refine effAt_call ((HN1.out _ HX0.out).mono ?_)
      rintro e w1 ⟨rfl, hw⟩
      replace hw := hw.symm
      subst hw
      have hk1 := HK0.out
      refine ⟨_, rfl, (HC.out _).2 hk1, hK _ _ ?_⟩
      have HK1 := Lib.hid hk1
      clear hK K hk1
      repeat (refine laterStep (fun K hK => ?_); first | (refine lexN rfl ?_; try go_simp; refine hK _ _ ?_; clear hK K) | (refine lexF rfl rfl ?_; unfold floatAt; go_simp; refine hK _ _ ?_; clear hK K) | (refine lexE rfl rfl ?_; go_simp; refine ⟨(HC.out _).2 HK1.out, hK _ _ ?_⟩; clear hK K))
      refine laterStep (fun K hK => ?_)
      refine lexE rfl rfl ?_
      go_simp
      refine effAt_call ((HN2.out _ HX0.out).mono ?_)
      rintro e w1 ⟨rfl, hw⟩
      replace hw := hw.symm
      subst hw
      have hk2 := HK1.out
      refine ⟨_, rfl, (HC.out _).2 hk2, hK _ _ ?_⟩
      have HK2 := Lib.hid hk2
      clear hK K hk2
      iterate 6 (refine laterStep (fun K hK => ?_); first | (refine lexF rfl rfl ?_; unfold floatAt; go_simp; refine hK _ _ ?_; clear hK K) | (refine lexE rfl rfl ?_; go_simp; refine ⟨(HC.out _).2 HK1.out, hK _ _ ?_⟩; clear hK K))
      refine laterStep (fun K hK => ?_)
      refine lexF rfl rfl ⟨.agg (tabArr p), fun W => floatAt_load 38 (.tmp 16) rfl b 0 rfl (tabArr p) _ (rangeAt_keeps HR.out ((HC.out _).1 W.2) (.inl rfl)) Try.underlying38 rfl (by rw [tabArr_size]; exact size_tab), ?_⟩
      go_simp
      refine hK _ _ ?_
      clear hK K
      iterate 3 (refine laterStep (fun K hK => ?_); refine lexF rfl rfl ?_; unfold floatAt; go_simp; refine hK _ _ ?_; clear hK K)
      refine laterStep (fun K hK => ?_)
      refine lexF rfl rfl ⟨.agg (tabArr q), fun W => floatAt_load 38 (.tmp 20) rfl b2 0 rfl (tabArr q) _ (rangeAt_keeps HR2.out ((HC.out _).1 W.2) (.inr rfl)) Try.underlying38 rfl (by rw [tabArr_size]; exact size_tab), ?_⟩
      go_simp
      refine hK _ _ ?_
      clear hK K
      repeat (refine laterStep (fun K hK => ?_); first | (refine lexN rfl ?_; try go_simp; refine hK _ _ ?_; clear hK K) | (refine lexF rfl rfl ?_; unfold floatAt; go_simp; refine hK _ _ ?_; clear hK K))
      refine laterNil ?_
      go_wp2
      go_ret
      exact ⟨rfl, HX0.out⟩
end Go.Proofs.Ytokkgbcjjaiaeaa
