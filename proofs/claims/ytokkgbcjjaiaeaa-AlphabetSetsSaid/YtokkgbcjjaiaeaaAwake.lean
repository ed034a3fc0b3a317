/-
  Plain facts on the classes of sets (their order), and at the example of the chapter.
  The walk of the laws' 'awake': the examples of the chapter.
-/
import Derived.Test.YtokkgbcjjaiaeaaLaw
import Derived.Lib.SmallJoins
namespace Go.Proofs.Ytokkgbcjjaiaeaa
open Go Go.RowKit Go.Shelf Go.Maps

theorem le_trans_S (a b c : BS) (h : (!ltOf compareOf b a) = true) (k : (!ltOf compareOf c b) = true) : (!ltOf compareOf c a) = true := by
  simp only [Bool.not_eq_true'] at *
  cases hca : ltOf compareOf c a with
  | false => rfl
  | true =>
    exfalso
    rw [← Bool.not_eq_true, ltOf_iff] at h k
    rw [ltOf_iff] at hca
    rcases ltS_total a b with e | e | e
    · subst e; exact k hca
    · exact k (ltS_trans hca e)
    · exact h e
theorem le_total_S (a b : BS) : ((!ltOf compareOf b a) || (!ltOf compareOf a b)) = true := by
  cases hba : ltOf compareOf b a with
  | false => rfl
  | true =>
    cases hab : ltOf compareOf a b with
    | false => rfl
    | true =>
      rw [ltOf_iff] at hba hab
      exact absurd (ltS_trans hba hab) (ltS_irrefl b)
theorem partsOf_sorted (l : List BS) : (partsOf l).Pairwise fun x y => (!ltOf compareOf y x) = true := List.pairwise_mergeSort le_trans_S le_total_S _
theorem partsOf_perm (l : List BS) : (partsOf l).Perm (partsRaw l) := List.mergeSort_perm _ _
theorem partsOf_eq {l L : List BS} (hp : (partsRaw l).Perm L) (hs : L.Pairwise fun x y => (!ltOf compareOf y x) = true) : partsOf l = L :=
  List.Perm.eq_of_pairwise (fun a b _ _ h k => totS a b (by simpa using k) (by simpa using h)) (partsOf_sorted l) hs ((partsOf_perm l).trans hp)

def rngS (lo hi : Nat) : BS := bsOf fun c => decide (lo ≤ c) && decide (c ≤ hi)
def awS : List BS := [rngS 97 99, rngS 98 100]
def awP : List BS := [~~~(rngS 97 100), rngS 97 97, rngS 98 99, rngS 100 100]
theorem awP_isPerm : (partsRaw awS).isPerm awP = true := by kernel_rfl
theorem awP_sorted : decide (awP.Pairwise fun x y => (!ltOf compareOf y x) = true) = true := by kernel_rfl
theorem awP_parts : partsOf awS = awP := partsOf_eq (List.isPerm_iff.1 awP_isPerm) (of_decide_eq_true awP_sorted)
theorem awP_cls : cls awP 99 = 2 := by kernel_rfl
theorem awP_word : wordOf awP [97, 98, 100] = [1, 2, 3] := by kernel_rfl
theorem awP_classes : classesOf awP (rngS 97 99) = ([1, 2], 0) := by kernel_rfl
theorem awP_bad : classesOf awP (bsOf fun c => [97, 98].contains c) = ([], 160) := by kernel_rfl
theorem awP_bytes : bytesOfL awP [2, 0] = ([98, 0], 0) := by kernel_rfl
theorem awP_together : togetherOf awP [1, 3, 1] = (bsOf fun c => [97, 100].contains c, 0) := by kernel_rfl
theorem awP_finer : finerOf (allTo 256) awP = true := by kernel_rfl
theorem awP_coarse : finerOf awP (allTo 256) = false := by kernel_rfl
end Go.Proofs.Ytokkgbcjjaiaeaa

namespace Go.Proofs.Ytokkgbcjjaiaeaa
open Go Go.RowKit Go.Shelf Go.Maps
attribute [local go_sem] encS

theorem bl_trans {A B C : World} (h : Below A.heap.size A B) (k : Below B.heap.size B C) : Below A.heap.size A C := h.trans (k.mono h.size)
theorem bl_alloc {A B : World} (h : Below A.heap.size A B) (o : Obj) : Below A.heap.size A (B.alloc o) := h.alloc h.size o
theorem blk_isSl {α : Type} {enc : α → Value} {w : World} {B : Nat} {c : Array Value} {t : TypeId} {fr : Nat × Nat} {n cap : Nat} (l : List α) (h : w.heap[B]? = some (.cells c t fr)) (hc : c.toList = l.map enc) (hn : n = l.length) (hcap : l.length ≤ cap) : IsSl enc w (.slice (some ⟨B, 0, none⟩) n cap) l := by
  refine .inr ⟨B, 0, cap, by rw [hn], (Array.getElem?_eq_some_iff.1 h).1, hcap, fun i x hi => ?_⟩
  rw [cell_of_row w B (0 + i) c t fr h, Nat.zero_add, ← Array.getElem?_toList, hc, List.getElem?_map, hi]; rfl
theorem blk_isSets {w : World} {B : Nat} {c : Array Value} {t : TypeId} {n cap : Nat} (l : List BS) (h : Blk w B c t) (hc : c.toList = flatS l) (hn : n = l.length) : IsSets w (.slice (some ⟨B, 0, none⟩) n cap) l := by
  refine .inr ⟨B, 0, cap, by rw [hn], h.lt, fun i s hi j hj => ?_⟩
  rw [h.cell, Nat.zero_add, ← Array.getElem?_toList, hc]
  have := flatS_get l hi hj
  simpa using this
theorem IsSl.nat {w : World} {v : Value} {l : List Nat} (h : IsSl encN w v l) : IsSl encZ w v (l.map Int.ofNat) := by
  rcases h with ⟨h, rfl⟩ | ⟨b, off, cap, hv, hb, hc, h⟩
  · exact .inl ⟨h, rfl⟩
  · refine .inr ⟨b, off, cap, by rw [List.length_map]; exact hv, hb, by rw [List.length_map]; exact hc, fun i x hi => ?_⟩
    rw [List.getElem?_map] at hi
    obtain ⟨y, hy, rfl⟩ := Option.map_eq_some_iff.1 hi
    exact h i y hy
theorem ownsRow_below {w w' : World} {base n size : Nat} {v : Value} {e : TypeId} {l : List Value} (h : w.ownsRow base e size v n l) (hk : Below w.heap.size w w') : w'.ownsRow base e size v n l :=
  ownsRow_keeps h (Keeps.of_below hk fun _ h => h) (fun k e => (h.lt k e).2)

set_option maxRecDepth 100000 in
set_option maxHeartbeats 4000000 in
theorem awake_any (w : World) : Calls Try.prog 12 #[] w fun e w' => e = .returned (.bool true) ∧ Below w.heap.size w w' := by
  obtain ⟨p, hp⟩ : ∃ p, p = awP := ⟨_, rfl⟩
  have F0 := Lib.hid awP_parts
  have F1 := Lib.hid (show awP.length = 4 from rfl)
  have F2 := Lib.hid awP_cls
  have F3 := Lib.hid awP_word
  have F4 := Lib.hid awP_classes
  have F5 := Lib.hid awP_bad
  have F6 := Lib.hid awP_bytes
  have F7 := Lib.hid awP_together
  have F8 := Lib.hid awP_finer
  have F9 := Lib.hid awP_coarse
  rw [← hp] at F0 F1 F2 F3 F4 F5 F6 F7 F8 F9
  unfold awS at F0
  have HRa : Hid (∀ W, Calls Try.prog 65 #[.int .u8 97, .int .u8 99] W fun e w' => e = .returned (.agg (encS (rngS 97 99))) ∧ Ext W w') := fun W => range_any 97 99 (by decide) (by decide) W
  have HRb : Hid (∀ W, Calls Try.prog 65 #[.int .u8 98, .int .u8 100] W fun e w' => e = .returned (.agg (encS (rngS 98 100))) ∧ Ext W w') := fun W => range_any 98 100 (by decide) (by decide) W
  obtain ⟨ra, hra⟩ : ∃ ra, ra = rngS 97 99 := ⟨_, rfl⟩
  obtain ⟨rb, hrb⟩ : ∃ rb, rb = rngS 98 100 := ⟨_, rfl⟩
  obtain ⟨sab, hsab⟩ : ∃ s : BS, s = bsOf fun c => [97, 98].contains c := ⟨_, rfl⟩
  obtain ⟨sad, hsad⟩ : ∃ s : BS, s = bsOf fun c => [97, 100].contains c := ⟨_, rfl⟩
  rw [← hra] at HRa F0 F4
  rw [← hrb] at HRb F0
  rw [← hsab] at F5
  rw [← hsad] at F7
  have HAB := Lib.hid hsab
  have HAD := Lib.hid hsad
  clear hp hra hrb hsab hsad
  have hcv : ∀ W : World, (convert 27 27 (.slice (some ⟨W.heap.size, 0, none⟩) 3 3)).run Try.prog (W.alloc (.cells #[.int .u8 97, .int .u8 98, .int .u8 100] 5)) = .ok (.slice (some ⟨W.heap.size, 0, none⟩) 3 3) (W.alloc (.cells #[.int .u8 97, .int .u8 98, .int .u8 100] 5 (3, 4))) :=
    fun W => Lib.run_convert_bytes_const W 27 5 #[.int .u8 97, .int .u8 98, .int .u8 100] 3 3 Try.underlying27 Try.underlying5
  have T1 : True := trivial
  have T2 : True := trivial
  have T3 : True := trivial
  have T4 : True := trivial
  go_enter Try.func12, Try.ntmps12
  go_wp2_with (first
    | (go_at_call 65; clear T1; with_reducible refine (HRa.out _).mono ?_; rintro e w1 ⟨rfl, hx⟩; have X1 := Lib.hid hx.below; clear hx)
    | (go_at_call 65; clear T2; with_reducible refine (HRb.out _).mono ?_; rintro e w2 ⟨rfl, hx⟩; have X2 := Lib.hid hx.below; clear hx)
    | (go_at_call 14; refine (alphOf_any [ra, rb] _ _ (blk_isSets [ra, rb] (Blk.new _ _ _) rfl rfl) (by simp)).mono ?_; rintro e w3 ⟨b, rfl, h1, h2⟩; rw [F0.out] at h1; have A3 := Lib.hid h1; have X3 := Lib.hid (bl_trans (bl_alloc (Below.refl _ _) _) h2); clear h1 h2)
    | (go_at_call 28; refine (len_any _ _ p _ A3.out).mono ?_; rintro e w4 ⟨rfl, hw⟩; replace hw := hw.symm; subst hw; rw [F1.out])
    | (go_at_call 21; refine (class_any _ _ p 99 (by decide) _ A3.out).mono ?_; rintro e w4 ⟨rfl, hw⟩; replace hw := hw.symm; subst hw; rw [F2.out])
    | (go_at_call 15; refine (word_any _ _ p _ [97, 98, 100] _ (A3.out.below ((Ext.refl _).alloc _).below) (blk_isSl [97, 98, 100] (World.alloc_heap_new _ _) rfl rfl (by decide)) (by decide) (by decide)).mono ?_; rintro e w4 ⟨u4, rfl, h1, h2⟩; rw [F3.out] at h1; have U4 := Lib.hid h1; have X4 := Lib.hid (bl_trans (bl_alloc (Below.refl _ _) _) h2); obtain ⟨a4, c4, rfl⟩ := ownsRow_form h1; clear h1 h2 hcv)
    | (go_at_call 17; refine (slEqual_any _ _ [1, 2, 3] [1, 2, 3] _ (IsSl.nat (ownsRow_sl (l := [1, 2, 3]) (ownsRow_below U4.out ((Ext.refl _).alloc _).below) rfl)) (blk_isSl [1, 2, 3] (World.alloc_heap_new _ _) rfl rfl (by decide)) (by decide)).mono ?_; rintro e w5 ⟨rfl, hx⟩; have X5 := Lib.hid (bl_trans (bl_alloc (Below.refl _ _) _) hx.below); clear hx; clear U4)
    | (go_at_call 65; clear T3; with_reducible refine (HRa.out _).mono ?_; rintro e w6 ⟨rfl, hx⟩; have X6 := Lib.hid hx.below; have A6 := Lib.hid (A3.out.below (bl_trans (bl_trans X4.out X5.out) hx.below)); clear hx)
    | (go_at_call 34; clear T4; refine (classes_any _ _ p ra _ A6.out).mono ?_; rintro e w7 ⟨u7, rfl, h1, h2⟩; rw [F4.out] at h1 ⊢; have U7 := Lib.hid h1; have X7 := Lib.hid h2; have A7 := Lib.hid (A6.out.below h2); obtain ⟨a7, c7, rfl⟩ := ownsRow_form h1; clear h1 h2)
    | (go_at_call 56; refine (of_any [97, 98] (by decide) _ 0 _ _ (by decide) (by simp) (fun i x hi => by match i, hi with | 0, hi => cases hi; simp | 1, hi => cases hi; simp)).mono ?_; rintro e w8 ⟨rfl, hx⟩; have X8 := Lib.hid (bl_trans (bl_alloc (Below.refl _ _) _) hx.below); have A8 := Lib.hid (A7.out.below (bl_trans (bl_alloc (Below.refl _ _) _) hx.below)); clear hx; rw [← HAB.out])
    | (go_at_call 34; refine (classes_any _ _ p sab _ A8.out).mono ?_; rintro e w9 ⟨u9, rfl, _, h2⟩; rw [F5.out]; have X9 := Lib.hid h2; have A9 := Lib.hid (A8.out.below h2); clear h2)
    | (go_at_call 16; refine (alphBytes_any _ _ p _ [2, 0] _ (A9.out.below ((Ext.refl _).alloc _).below) (blk_isSl [2, 0] (World.alloc_heap_new _ _) rfl rfl (by decide)) (by decide)).mono ?_; rintro e w10 ⟨u10, rfl, h1, h2⟩; rw [F6.out] at h1 ⊢; have U10 := Lib.hid h1; have X10 := Lib.hid (bl_trans (bl_alloc (Below.refl _ _) _) h2); have A10 := Lib.hid (A9.out.below (bl_trans (bl_alloc (Below.refl _ _) _) h2)); obtain ⟨a10, c10, rfl⟩ := ownsRow_form h1; clear h1 h2)
    | (go_at_call 35; refine (together_any _ _ p _ [1, 3, 1] _ (A10.out.below ((Ext.refl _).alloc _).below) (blk_isSl [1, 3, 1] (World.alloc_heap_new _ _) rfl rfl (by decide)) (by decide)).mono ?_; rintro e w11 ⟨rfl, hx⟩; rw [F7.out]; have X11 := Lib.hid (bl_trans (bl_alloc (Below.refl _ _) _) hx.below); have A11 := Lib.hid (A10.out.below (bl_trans (bl_alloc (Below.refl _ _) _) hx.below)); clear hx)
    | (go_at_call 25; refine (alphAll_any _).mono ?_; rintro e w12 ⟨bl, rfl, h1, h2⟩; have L12 := Lib.hid h1; have X12 := Lib.hid (bl_trans (bl_alloc (Below.refl _ _) _) h2); have A12 := Lib.hid (A11.out.below (bl_trans (bl_alloc (Below.refl _ _) _) h2)); have S12 := Lib.hid ((Blk.new w11 (encS sad) 25).below h2 (by simp)); clear h1 h2))
  have U7' := Lib.hid (IsSl.nat (ownsRow_sl (l := [1, 2]) U7.out rfl) |>.below (bl_trans (bl_trans (bl_trans (bl_trans X8.out X9.out) X10.out) X11.out) X12.out))
  have U10' := Lib.hid ((ownsRow_sl (l := [98, 0]) U10.out rfl).below (bl_trans X11.out X12.out))
  have XA := Lib.hid (bl_trans (bl_trans (bl_trans (bl_trans (bl_trans (bl_trans (bl_trans (bl_trans (bl_trans (bl_trans (bl_trans X1.out X2.out) X3.out) X4.out) X5.out) X6.out) X7.out) X8.out) X9.out) X10.out) X11.out) X12.out)
  have he : ∀ W, (Op.equalIn 10000 25 (.agg #[.int .u64 (wd sad 0).toNat, .int .u64 (wd sad 1).toNat, .int .u64 (wd sad 2).toNat, .int .u64 (wd sad 3).toNat]) (.agg #[.int .u64 (wd sad 0).toNat, .int .u64 (wd sad 1).toNat, .int .u64 (wd sad 2).toNat, .int .u64 (wd sad 3).toNat])).run Try.prog W = .ok true W := fun W => by
    have h1 := set_equal sad sad W
    rw [show (sad == sad) = true from by simp] at h1
    exact h1
  clear U7 U10 X1 X2 X3 X4 X5 X6 X7 X8 X9 X10 X11 X12 A3 A6 A7 A8 A9 A10 A11 HRa HRb F0 F2 F3 F4 F5 F6 F7 HAB
  refine wp_region_lexK (fun b => b < w12.heap.size) (by kernel_rfl) (fun i => i == 4 || i == 5 || i == 6 || i == 7 || i == 14 || i == 15 || i == 18 || i == 19 || i == 21 || i == 22 || i == 23 || i == 24 || i == 26 || i == 27 || i == 28 || i == 29 || i == 30 || i == 32 || i == 33 || i == 34 || i == 35 || i == 38 || i == 39 || i == 40 || i == 43) (by kernel_rfl) ?_
  intro C hC hne W0 hK0 hblk hsz hx0
  obtain ⟨s0, s1, s2, s3⟩ := lexSet hC S12.out.lt S12.out
  have HC := Lib.hid hC
  have HK0 := Lib.hid hK0
  clear hC hblk hsz hx0 hK0
  repeat (first | (refine wpLex_step (fun K hK => ?_); refine lexOp_float rfl ?_; unfold floatAt; go_simp; refine hK _ _ ?_; clear hK K) | (refine wpLex_step (fun K hK => ?_); refine lexOp_eff rfl ?_; go_simp; refine ⟨(HC.out _).2 HK0.out, hK _ _ ?_⟩; clear hK K))
  refine wpLex_step (fun K hK => ?_)
  refine lexOp_eff rfl ?_
  go_simp
  refine ⟨(HC.out _).2 (HK0.out.alloc (fun b hb => Nat.lt_of_lt_of_le hb HK0.out.size) _), hK _ _ ?_⟩
  clear hK K
  refine wpLex_step (fun K hK => ?_)
  refine lexOp_eff rfl ?_
  go_simp
  refine effAt_call ((slEqual_any _ _ [1, 2] [1, 2] _ (U7'.out.below (HK0.out.alloc (fun b hb => Nat.lt_of_lt_of_le hb HK0.out.size) _).below) (blk_isSl (α := Int) (enc := encZ) [1, 2] (World.alloc_heap_new _ _) rfl rfl (by decide)) (by decide)).mono ?_)
  rintro e v1 ⟨rfl, hx⟩
  have hk1 := Keeps.step (HK0.out.alloc (fun b hb => Nat.lt_of_lt_of_le hb HK0.out.size) _) (fun _ h => h) hx
  refine ⟨_, rfl, (HC.out _).2 hk1, hK _ _ ?_⟩
  have HK1 := Lib.hid hk1
  clear hK K hk1 hx
  repeat (first | (refine wpLex_step (fun K hK => ?_); refine lexOp_float rfl ?_; unfold floatAt; go_simp; refine hK _ _ ?_; clear hK K) | (refine wpLex_step (fun K hK => ?_); refine lexOp_eff rfl ?_; go_simp; refine ⟨(HC.out _).2 HK1.out, hK _ _ ?_⟩; clear hK K))
  refine wpLex_step (fun K hK => ?_)
  refine lexOp_eff rfl ?_
  go_simp
  refine ⟨(HC.out _).2 (HK1.out.alloc (fun b hb => Nat.lt_of_lt_of_le hb HK1.out.size) _), hK _ _ ?_⟩
  clear hK K
  refine wpLex_step (fun K hK => ?_)
  refine lexOp_eff rfl ?_
  go_simp
  refine effAt_call ((bytesEq_any _ _ [98, 0] [98, 0] _ (U10'.out.below (HK1.out.alloc (fun b hb => Nat.lt_of_lt_of_le hb HK1.out.size) _).below) (blk_isSl [98, 0] (World.alloc_heap_new _ _) rfl rfl (by decide)) (by decide) (by decide)).mono ?_)
  rintro e v2 ⟨rfl, hw⟩
  have hk2 : Keeps (fun b => b < w12.heap.size) w12 v2 := by rw [hw]; exact HK1.out.alloc (fun b hb => Nat.lt_of_lt_of_le hb HK1.out.size) _
  refine ⟨_, rfl, (HC.out _).2 hk2, hK _ _ ?_⟩
  have HK2 := Lib.hid hk2
  clear hK K hk2 hw
  repeat (first | (refine wpLex_step (fun K hK => ?_); refine lexOp_float rfl ?_; unfold floatAt; go_simp; refine hK _ _ ?_; clear hK K) | (refine wpLex_step (fun K hK => ?_); refine lexOp_eff rfl ?_; go_simp; refine ⟨(HC.out _).2 HK2.out, hK _ _ ?_⟩; clear hK K))
  refine wpLex_step (fun K hK => ?_)
  refine lexOp_eff rfl ?_
  go_simp
  refine ⟨(HC.out _).2 (HK2.out.alloc (fun b hb => Nat.lt_of_lt_of_le hb HK2.out.size) _), hK _ _ ?_⟩
  clear hK K
  refine wpLex_step (fun K hK => ?_)
  refine lexOp_eff rfl ?_
  go_simp
  refine effAt_call ((of_any [97, 100] (by decide) _ 0 _ _ (by decide) (by simp) (fun i x hi => by match i, hi with | 0, hi => cases hi; simp | 1, hi => cases hi; simp)).mono ?_)
  rintro e v3 ⟨rfl, hx⟩
  have hk3 := Keeps.step (HK2.out.alloc (fun b hb => Nat.lt_of_lt_of_le hb HK2.out.size) _) (fun _ h => h) hx
  rw [← HAD.out]
  refine ⟨_, rfl, (HC.out _).2 hk3, hK _ _ ?_⟩
  have HK3 := Lib.hid hk3
  clear hK K hk3 hx
  repeat (first | (refine wpLex_step (fun K hK => ?_); refine lexOp_float rfl ?_; unfold floatAt; go_simp; refine hK _ _ ?_; clear hK K) | (refine wpLex_step (fun K hK => ?_); refine lexOp_eff rfl ?_; go_simp; refine ⟨(HC.out _).2 HK3.out, hK _ _ ?_⟩; clear hK K))
  refine wpLex_step (fun K hK => ?_)
  refine lexOp_eff rfl ?_
  go_simp
  refine effAt_call ((len_any _ _ (allTo 256) _ (L12.out.keeps HK3.out (fun k _ h => h))).mono ?_)
  rintro e v4 ⟨rfl, hw⟩
  have hk4 : Keeps (fun b => b < w12.heap.size) w12 v4 := by rw [hw]; exact HK3.out
  rw [allTo_len]
  refine ⟨_, rfl, (HC.out _).2 hk4, hK _ _ ?_⟩
  have HK4 := Lib.hid hk4
  clear hK K hk4 hw
  repeat (first | (refine wpLex_step (fun K hK => ?_); refine lexOp_float rfl ?_; unfold floatAt; go_simp; refine hK _ _ ?_; clear hK K) | (refine wpLex_step (fun K hK => ?_); refine lexOp_eff rfl ?_; go_simp; refine ⟨(HC.out _).2 HK4.out, hK _ _ ?_⟩; clear hK K))
  refine wpLex_step (fun K hK => ?_)
  refine lexOp_eff rfl ?_
  go_simp
  refine effAt_call ((finer_any _ _ _ _ (allTo 256) p _ (L12.out.keeps HK4.out (fun k _ h => h)) (A12.out.keeps HK4.out (fun k _ h => h))).mono ?_)
  rintro e v5 ⟨rfl, hx⟩
  have hk5 := Keeps.stepB HK4.out (fun _ h => h) hx
  rw [F8.out]
  refine ⟨_, rfl, (HC.out _).2 hk5, hK _ _ ?_⟩
  have HK5 := Lib.hid hk5
  clear hK K hk5 hx
  repeat (first | (refine wpLex_step (fun K hK => ?_); refine lexOp_float rfl ?_; unfold floatAt; go_simp; refine hK _ _ ?_; clear hK K) | (refine wpLex_step (fun K hK => ?_); refine lexOp_eff rfl ?_; go_simp; refine ⟨(HC.out _).2 HK5.out, hK _ _ ?_⟩; clear hK K))
  refine wpLex_step (fun K hK => ?_)
  refine lexOp_eff rfl ?_
  go_simp
  refine effAt_call ((finer_any _ _ _ _ p (allTo 256) _ (A12.out.keeps HK5.out (fun k _ h => h)) (L12.out.keeps HK5.out (fun k _ h => h))).mono ?_)
  rintro e v6 ⟨rfl, hx⟩
  have hk6 := Keeps.stepB HK5.out (fun _ h => h) hx
  rw [F9.out]
  refine ⟨_, rfl, (HC.out _).2 hk6, hK _ _ ?_⟩
  have HK6 := Lib.hid hk6
  clear hK K hk6 hx
  repeat (first | (refine wpLex_step (fun K hK => ?_); refine lexOp_float rfl ?_; unfold floatAt; go_simp; refine hK _ _ ?_; clear hK K) | (refine wpLex_step (fun K hK => ?_); refine lexOp_eff rfl ?_; go_simp; refine ⟨(HC.out _).2 HK6.out, hK _ _ ?_⟩; clear hK K))
  refine wpLex_nil ?_
  go_wp2
  go_ret
  exact ⟨rfl, bl_trans XA.out HK6.out.below⟩
end Go.Proofs.Ytokkgbcjjaiaeaa
