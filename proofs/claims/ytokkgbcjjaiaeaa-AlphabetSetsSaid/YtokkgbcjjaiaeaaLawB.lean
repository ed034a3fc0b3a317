/-
  Walks for the laws on alphabets: slices.IndexFunc, slices.ContainsFunc at sets.
  Walks for the laws on alphabets: the closures that look at two sets.
-/
import Derived.Test.YtokkgbcjjaiaeaaPlain
import Derived.Test.YtokkgbcjjaiaeaaAwake
namespace Go.Proofs.Ytokkgbcjjaiaeaa
open Go Go.RowKit Go.Shelf Go.Maps
attribute [local go_sem] encS

/-- Where the first element lies that f takes (-1: none does). -/
def indexF (f : BS → Bool) (l : List BS) : Int := match l.findIdx? f with | some k => k | none => -1

set_option maxRecDepth 100000 in
set_option maxHeartbeats 1000000 in
theorem indexFunc_any (g : Nat) (lb : Array Value) (f : BS → Bool) (v : Value) (l : List BS) (w : World) (h : IsSets w v l) (hn : l.length ≤ 1000000)
    (eg : ∀ args w, (callFunc g args).run Try.prog w = .ok (.enter g args) w)
    (hf : ∀ s W, Below w.heap.size w W → Calls Try.prog g (#[.agg (encS s)] ++ lb) W fun e w' => e = .returned (.bool (f s)) ∧ Below W.heap.size W w') :
    Calls Try.prog 70 #[v, .func (.func g) #[] lb] w fun e w' => e = .returned (.int .i64 (indexF f l)) ∧ Below w.heap.size w w' := by
  obtain ⟨a, cap, rfl⟩ := h.form
  obtain ⟨n, hnn⟩ : ∃ n, n = l.length := ⟨_, rfl⟩
  rw [← hnn] at h hn ⊢
  have H := Lib.hid h
  have HN := Lib.hid hnn
  have HF := Lib.hid hf
  obtain ⟨r, hr⟩ : ∃ r, r = indexF f l := ⟨_, rfl⟩
  rw [← hr]
  have HR := Lib.hid hr
  clear h hnn hf hr
  go_enter Try.func70, Try.ntmps70
  go_wp2
  go_loopw [8] (fun i wr => ∃ k : Nat, k ≤ n ∧ i = .int .i64 k ∧ (∀ s ∈ l.take k, f s = false) ∧ Below w.heap.size w wr) (fun i _ => n - (intOf i).toNat)
  case atStart => exact ⟨0, by omega, rfl, fun s hs => by simp at hs, Below.refl _ _⟩
  case round =>
    obtain ⟨k, hk, rfl, ha, hx⟩ := hrel
    obtain ⟨wo, rfl⟩ : ∃ wo : World, wo = wr := ⟨_, rfl⟩
    by_cases hlt : k < n
    · obtain ⟨s, hs⟩ : ∃ s, l[k]? = some s := ⟨_, List.getElem?_eq_getElem (by have := HN.out; omega)⟩
      have hrow := H.out.below hx
      rcases hrow with ⟨_, h2⟩ | ⟨b, off, cap', h1, hb, hc⟩
      · rw [h2] at hs; simp at hs
      cases h1
      have d0 : wo.cell? ⟨b, off + k * 4, none⟩ = some (.int .u64 (wd s 0).toNat) := hc k s hs 0 (by decide)
      have d1 : wo.cell? ⟨b, off + k * 4 + 1, none⟩ = some (.int .u64 (wd s 1).toNat) := hc k s hs 1 (by decide)
      have d2 : wo.cell? ⟨b, off + k * 4 + 2, none⟩ = some (.int .u64 (wd s 2).toNat) := hc k s hs 2 (by decide)
      have d3 : wo.cell? ⟨b, off + k * 4 + 3, none⟩ = some (.int .u64 (wd s 3).toNat) := hc k s hs 3 (by decide)
      have HFs := Lib.hid (HF.out s wo hx)
      have HX := Lib.hid hx
      have HA := Lib.hid ha
      have HS := Lib.hid hs
      clear hx ha hs hc
      obtain ⟨b1, hb1⟩ : ∃ b1, b1 = f s := ⟨_, rfl⟩
      rw [← hb1] at HFs
      have HB1 := Lib.hid hb1
      clear hb1
      cases b1 with
      | true =>
        have hr : r = (k : Int) := by
          have h1 : l.findIdx? f = some k := by
            rw [List.findIdx?_eq_some_iff_getElem]
            have hkl := (List.getElem?_eq_some_iff.1 HS.out).1
            refine ⟨hkl, ?_, fun j hj => ?_⟩
            · rw [(List.getElem?_eq_some_iff.1 HS.out).2]; exact HB1.out.symm
            · have := HA.out l[j] (List.mem_take_iff_getElem.2 ⟨j, by omega, rfl⟩)
              rw [this]; decide
          rw [HR.out, indexF, h1]
        have HRR := Lib.hid hr
        clear hr
        go_wp2
        refine HFs.out.mono ?_
        rintro e w2 ⟨rfl, hx2⟩
        have HX2 := Lib.hid hx2
        clear hx2
        go_wp2
        go_ret
        exact ⟨by rw [HRR.out]; rfl, bl_trans HX.out HX2.out⟩
      | false =>
        go_wp2
        refine HFs.out.mono ?_
        rintro e w2 ⟨rfl, hx2⟩
        have HX2 := Lib.hid hx2
        clear hx2
        go_wp2
        go_roundw
        case rel =>
          refine ⟨k + 1, by omega, by go_num, fun x hx => ?_, bl_trans HX.out HX2.out⟩
          rw [List.take_add_one, HS.out] at hx
          rcases List.mem_append.1 hx with hx | hx
          · exact HA.out x hx
          · rw [show x = s from by simpa using hx]; exact HB1.out.symm
        case measure => simp [intOf]; omega
    · obtain rfl : k = n := by omega
      have hr : r = -1 := by
        have h1 : l.findIdx? f = none := by
          rw [List.findIdx?_eq_none_iff]
          intro x hx
          have := ha x (by rw [HN.out, List.take_length]; exact hx)
          rw [this]
        rw [HR.out, indexF, h1]
      have HRR := Lib.hid hr
      have HX := Lib.hid hx
      clear hr ha hx
      go_wp2
      go_ret
      exact ⟨by rw [HRR.out]; rfl, HX.out⟩

theorem indexF_any (f : BS → Bool) (l : List BS) : decide (0 ≤ indexF f l) = l.any f := by
  unfold indexF
  cases h : l.findIdx? f with
  | none =>
    rw [List.findIdx?_eq_none_iff] at h
    have : l.any f = false := by rw [List.any_eq_false]; intro x hx; rw [h x hx]; decide
    rw [this]; rfl
  | some k =>
    rw [List.findIdx?_eq_some_iff_getElem] at h
    obtain ⟨h1, h2, _⟩ := h
    have : l.any f = true := by rw [List.any_eq_true]; exact ⟨l[k], List.getElem_mem h1, h2⟩
    rw [this]; simp

theorem containsFunc_any (g : Nat) (lb : Array Value) (f : BS → Bool) (v : Value) (l : List BS) (w : World) (h : IsSets w v l) (hn : l.length ≤ 1000000)
    (eg : ∀ args w, (callFunc g args).run Try.prog w = .ok (.enter g args) w)
    (hf : ∀ s W, Below w.heap.size w W → Calls Try.prog g (#[.agg (encS s)] ++ lb) W fun e w' => e = .returned (.bool (f s)) ∧ Below W.heap.size W w') :
    Calls Try.prog 22 #[v, .func (.func g) #[] lb] w fun e w' => e = .returned (.bool (l.any f)) ∧ Below w.heap.size w w' := by
  have HI := Lib.hid (indexFunc_any g lb f v l w h hn eg hf)
  rw [← indexF_any]
  obtain ⟨a, cap, rfl⟩ := h.form
  clear h hf eg
  generalize indexF f l = z at HI ⊢
  go_enter Try.func22, Try.ntmps22
  go_wp2_with (go_at_call 70; refine HI.out.mono ?_; rintro e w2 ⟨rfl, hx⟩; have HX := Lib.hid hx; clear hx)
  go_ret
  exact ⟨rfl, HX.out⟩
end Go.Proofs.Ytokkgbcjjaiaeaa

namespace Go.Proofs.Ytokkgbcjjaiaeaa
open Go Go.RowKit Go.Shelf Go.Maps
attribute [local go_sem] encS

set_option maxRecDepth 100000 in
set_option maxHeartbeats 1000000 in
theorem apartS_any (s t x : BS) (B1 B2 : Nat) (W : World) (h1 : Blk W B1 (encS s) 25) (h2 : Blk W B2 (encS t) 25) :
    Calls Try.prog 41 #[.agg (encS x), .pointer (some ⟨B1, 0, none⟩), .pointer (some ⟨B2, 0, none⟩)] W fun e w' => e = .returned (.bool ((s &&& ~~~x == 0) != (t &&& ~~~x == 0))) ∧ Ext W w' := by
  have HA := Lib.hid fun W => within_any s x W
  have HB := Lib.hid fun W => within_any t x W
  generalize (s &&& ~~~x == 0) = b1 at HA ⊢
  generalize (t &&& ~~~x == 0) = b2 at HB ⊢
  have H1 := Lib.hid h1
  have H2 := Lib.hid h2
  clear h1 h2
  go_enter Try.func41, Try.ntmps41
  go_wp2
  refine wp_named ?_
  intro W1 hW1
  have hx1 : Ext W W1 := by rw [hW1]; exact (Ext.refl W).alloc _
  have hb : Blk W1 W.heap.size (encS x) 25 := by rw [hW1]; exact Blk.new _ _ _
  have hs := H1.out.ext hx1
  have ht := H2.out.ext hx1
  have HX1 := Lib.hid hx1
  have l1 := hs.lt
  have l2 := ht.lt
  have l3 := hb.lt
  have HS : Hid (∀ b, (b = B1 ∨ b = B2 ∨ b = W.heap.size) → b < W1.heap.size) := fun b hb => by omega
  clear hW1 hx1 l1 l2 l3
  refine wp_region_lexK (fun b => b = B1 ∨ b = B2 ∨ b = W.heap.size) (by kernel_rfl) (fun i => i == 2 || i == 5) (by kernel_rfl) ?_
  intro C hC hne W0 hK0 hblk hsz hx0
  obtain ⟨a0, a1, a2, a3⟩ := lexSet hC (.inl rfl) hs
  obtain ⟨b0, b1', b2', b3⟩ := lexSet hC (.inr (.inl rfl)) ht
  obtain ⟨c0, c1, c2, c3⟩ := lexSet hC (.inr (.inr rfl)) hb
  have HC := Lib.hid hC
  have HK0 := Lib.hid hK0
  have HX0 := Lib.hid hx0
  clear hC hK0 hblk hsz hx0 hs ht hb
  repeat (refine wpLex_step (fun K hK => ?_); refine lexOp_float rfl ?_; unfold floatAt; go_simp; refine hK _ _ ?_; clear hK K)
  refine wpLex_step (fun K hK => ?_)
  refine lexOp_eff rfl ?_
  go_simp
  refine effAt_call ((HA.out _).mono ?_)
  rintro e w1 ⟨rfl, hx⟩
  have hk1 := Keeps.step HK0.out HS hx
  refine ⟨_, rfl, (HC.out _).2 hk1, hK _ _ ?_⟩
  have HK1 := Lib.hid hk1
  have HX2 := Lib.hid hx
  clear hK K hk1 hx
  repeat (refine wpLex_step (fun K hK => ?_); refine lexOp_float rfl ?_; unfold floatAt; go_simp; refine hK _ _ ?_; clear hK K)
  refine wpLex_step (fun K hK => ?_)
  refine lexOp_eff rfl ?_
  go_simp
  refine effAt_call ((HB.out _).mono ?_)
  rintro e w2 ⟨rfl, hx⟩
  have hk2 := Keeps.step HK1.out HS hx
  refine ⟨_, rfl, (HC.out _).2 hk2, hK _ _ ?_⟩
  have HX3 := Lib.hid hx
  clear hK K hk2 hx
  repeat (refine wpLex_step (fun K hK => ?_); refine lexOp_float rfl ?_; unfold floatAt; go_simp; refine hK _ _ ?_; clear hK K)
  refine wpLex_nil ?_
  go_wp2
  go_ret
  exact ⟨rfl, ((HX1.out.trans HX0.out).trans HX2.out).trans HX3.out⟩
set_option maxRecDepth 100000 in
set_option maxHeartbeats 1000000 in
theorem apartB_any (s : BS) (x y : Nat) (hx256 : x < 256) (hy256 : y < 256) (B1 B2 : Nat) (W : World) (h1 : Blk W B1 #[.int .u8 x] 5) (h2 : Blk W B2 #[.int .u8 y] 5) :
    Calls Try.prog 23 #[.agg (encS s), .pointer (some ⟨B1, 0, none⟩), .pointer (some ⟨B2, 0, none⟩)] W fun e w' => e = .returned (.bool (s.getLsbD x != s.getLsbD y)) ∧ Ext W w' := by
  have HA := Lib.hid fun W => has_any s x hx256 W
  have HB := Lib.hid fun W => has_any s y hy256 W
  generalize s.getLsbD x = b1 at HA ⊢
  generalize s.getLsbD y = b2 at HB ⊢
  have H1 := Lib.hid h1
  have H2 := Lib.hid h2
  clear h1 h2
  go_enter Try.func23, Try.ntmps23
  go_wp2
  refine wp_named ?_
  intro W1 hW1
  have hx1 : Ext W W1 := by rw [hW1]; exact (Ext.refl W).alloc _
  have hb : Blk W1 W.heap.size (encS s) 25 := by rw [hW1]; exact Blk.new _ _ _
  have hs := H1.out.ext hx1
  have ht := H2.out.ext hx1
  have HX1 := Lib.hid hx1
  have l1 := hs.lt
  have l2 := ht.lt
  have l3 := hb.lt
  have HS : Hid (∀ b, (b = B1 ∨ b = B2 ∨ b = W.heap.size) → b < W1.heap.size) := fun b hb => by omega
  clear hW1 hx1 l1 l2 l3
  refine wp_region_lexK (fun b => b = B1 ∨ b = B2 ∨ b = W.heap.size) (by kernel_rfl) (fun i => i == 2 || i == 5) (by kernel_rfl) ?_
  intro C hC hne W0 hK0 hblk hsz hx0
  have a0 := lexCell hC (p := ⟨B1, 0, none⟩) (.inl rfl) (hs.cell 0)
  have b0 := lexCell hC (p := ⟨B2, 0, none⟩) (.inr (.inl rfl)) (ht.cell 0)
  obtain ⟨c0, c1, c2, c3⟩ := lexSet hC (.inr (.inr rfl)) hb
  have HC := Lib.hid hC
  have HK0 := Lib.hid hK0
  have HX0 := Lib.hid hx0
  clear hC hK0 hblk hsz hx0 hs ht hb
  repeat (refine wpLex_step (fun K hK => ?_); refine lexOp_float rfl ?_; unfold floatAt; go_simp; refine hK _ _ ?_; clear hK K)
  refine wpLex_step (fun K hK => ?_)
  refine lexOp_eff rfl ?_
  go_simp
  refine effAt_call ((HA.out _).mono ?_)
  rintro e w1 ⟨rfl, hx⟩
  have hk1 := Keeps.step HK0.out HS hx
  refine ⟨_, rfl, (HC.out _).2 hk1, hK _ _ ?_⟩
  have HK1 := Lib.hid hk1
  have HX2 := Lib.hid hx
  clear hK K hk1 hx
  repeat (refine wpLex_step (fun K hK => ?_); refine lexOp_float rfl ?_; unfold floatAt; go_simp; refine hK _ _ ?_; clear hK K)
  refine wpLex_step (fun K hK => ?_)
  refine lexOp_eff rfl ?_
  go_simp
  refine effAt_call ((HB.out _).mono ?_)
  rintro e w2 ⟨rfl, hx⟩
  have hk2 := Keeps.step HK1.out HS hx
  refine ⟨_, rfl, (HC.out _).2 hk2, hK _ _ ?_⟩
  have HX3 := Lib.hid hx
  clear hK K hk2 hx
  repeat (refine wpLex_step (fun K hK => ?_); refine lexOp_float rfl ?_; unfold floatAt; go_simp; refine hK _ _ ?_; clear hK K)
  refine wpLex_nil ?_
  go_wp2
  go_ret
  exact ⟨rfl, ((HX1.out.trans HX0.out).trans HX2.out).trans HX3.out⟩
end Go.Proofs.Ytokkgbcjjaiaeaa
