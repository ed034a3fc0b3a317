/-
  Walks for the laws on alphabets: slices.IndexFunc, slices.ContainsFunc at sets.
-/
import Derived.Test.YtokkgbcjjaiaeaaPlain1
import Derived.Test.YtokkgbcjjaiaeaaAwake1
namespace Go.Proofs.Ytokkgbcjjaiaeaa
open Go Go.RowKit Go.Shelf Go.Maps
attribute [local go_sem] encS

/-- Where the first element lies that f takes (-1: none does). -/
def indexF (f : BS → Bool) (l : List BS) : Int := match l.findIdx? f with | some k => k | none => -1

set_option maxRecDepth 100000 in
set_option maxHeartbeats 1000000 in
theorem indexFunc_any (g : Nat) (lb : Array Value) (f : BS → Bool) (v : Value) (l : List BS) (w : World) (h : IsSets w v l) (hn : l.length ≤ 1000000)
    (eg : ∀ args w, (callFunc g args).run Try.prog w = .ok (.enter g args) w)
    (hf : ∀ s W, Below w.heap.size w W → Calls Try.prog g (#[.agg (encS s)] ++ lb) W fun e w' => e = .returned (.bool (f s)) ∧ Below W.heap.size W w') :
    Calls Try.prog 70 #[v, .func (.func g) #[] lb] w fun e w' => e = .returned (.int .i64 (indexF f l)) ∧ Below w.heap.size w w' := by
  obtain ⟨a, cap, rfl⟩ := h.form
  obtain ⟨n, hnn⟩ : ∃ n, n = l.length := ⟨_, rfl⟩
  rw [← hnn] at h hn ⊢
  have H := Lib.hid h
  have HN := Lib.hid hnn
  have HF := Lib.hid hf
  obtain ⟨r, hr⟩ : ∃ r, r = indexF f l := ⟨_, rfl⟩
  rw [← hr]
  have HR := Lib.hid hr
  clear h hnn hf hr
  go_enter Try.func70, Try.ntmps70
  go_wp2
  go_loopw [8] (fun i wr => ∃ k : Nat, k ≤ n ∧ i = .int .i64 k ∧ (∀ s ∈ l.take k, f s = false) ∧ Below w.heap.size w wr) (fun i _ => n - (intOf i).toNat)
  case atStart => exact ⟨0, by omega, rfl, fun s hs => by simp at hs, Below.refl _ _⟩
  case round =>
    obtain ⟨k, hk, rfl, ha, hx⟩ := hrel
    obtain ⟨wo, rfl⟩ : ∃ wo : World, wo = wr := ⟨_, rfl⟩
    by_cases hlt : k < n
    · obtain ⟨s, hs⟩ : ∃ s, l[k]? = some s := ⟨_, List.getElem?_eq_getElem (by have := HN.out; omega)⟩
      have hrow := H.out.below hx
      rcases hrow with ⟨_, h2⟩ | ⟨b, off, cap', h1, hb, hc⟩
      · rw [h2] at hs; simp at hs
      cases h1
      have d0 : wo.cell? ⟨b, off + k * 4, none⟩ = some (.int .u64 (wd s 0).toNat) := hc k s hs 0 (by decide)
      have d1 : wo.cell? ⟨b, off + k * 4 + 1, none⟩ = some (.int .u64 (wd s 1).toNat) := hc k s hs 1 (by decide)
      have d2 : wo.cell? ⟨b, off + k * 4 + 2, none⟩ = some (.int .u64 (wd s 2).toNat) := hc k s hs 2 (by decide)
      have d3 : wo.cell? ⟨b, off + k * 4 + 3, none⟩ = some (.int .u64 (wd s 3).toNat) := hc k s hs 3 (by decide)
      have HFs := Lib.hid (HF.out s wo hx)
      have HX := Lib.hid hx
      have HA := Lib.hid ha
      have HS := Lib.hid hs
      clear hx ha hs hc
      obtain ⟨b1, hb1⟩ : ∃ b1, b1 = f s := ⟨_, rfl⟩
      rw [← hb1] at HFs
      have HB1 := Lib.hid hb1
      clear hb1
      cases b1 with
      | true =>
        have hr : r = (k : Int) := by
          have h1 : l.findIdx? f = some k := by
            rw [List.findIdx?_eq_some_iff_getElem]
            have hkl := (List.getElem?_eq_some_iff.1 HS.out).1
            refine ⟨hkl, ?_, fun j hj => ?_⟩
            · rw [(List.getElem?_eq_some_iff.1 HS.out).2]; exact HB1.out.symm
            · have := HA.out l[j] (List.mem_take_iff_getElem.2 ⟨j, by omega, rfl⟩)
              rw [this]; decide
          rw [HR.out, indexF, h1]
        have HRR := Lib.hid hr
        clear hr
        go_wp2
        refine HFs.out.mono ?_
        rintro e w2 ⟨rfl, hx2⟩
        have HX2 := Lib.hid hx2
        clear hx2
        go_wp2
        go_ret
        exact ⟨by rw [HRR.out]; rfl, bl_trans HX.out HX2.out⟩
      | false =>
        go_wp2
        refine HFs.out.mono ?_
        rintro e w2 ⟨rfl, hx2⟩
        have HX2 := Lib.hid hx2
        clear hx2
        go_wp2
        go_roundw
        case rel =>
          refine ⟨k + 1, by omega, by go_num, fun x hx => ?_, bl_trans HX.out HX2.out⟩
          rw [List.take_add_one, HS.out] at hx
          rcases List.mem_append.1 hx with hx | hx
          · exact HA.out x hx
          · rw [show x = s from by simpa using hx]; exact HB1.out.symm
        case measure => simp [intOf]; omega
    · obtain rfl : k = n := by omega
      have hr : r = -1 := by
        have h1 : l.findIdx? f = none := by
          rw [List.findIdx?_eq_none_iff]
          intro x hx
          have := ha x (by rw [HN.out, List.take_length]; exact hx)
          rw [this]
        rw [HR.out, indexF, h1]
      have HRR := Lib.hid hr
      have HX := Lib.hid hx
      clear hr ha hx
      go_wp2
      go_ret
      exact ⟨by rw [HRR.out]; rfl, HX.out⟩

theorem indexF_any (f : BS → Bool) (l : List BS) : decide (0 ≤ indexF f l) = l.any f := by
  unfold indexF
  cases h : l.findIdx? f with
  | none =>
    rw [List.findIdx?_eq_none_iff] at h
    have : l.any f = false := by rw [List.any_eq_false]; intro x hx; rw [h x hx]; decide
    rw [this]; rfl
  | some k =>
    rw [List.findIdx?_eq_some_iff_getElem] at h
    obtain ⟨h1, h2, _⟩ := h
    have : l.any f = true := by rw [List.any_eq_true]; exact ⟨l[k], List.getElem_mem h1, h2⟩
    rw [this]; simp

theorem containsFunc_any (g : Nat) (lb : Array Value) (f : BS → Bool) (v : Value) (l : List BS) (w : World) (h : IsSets w v l) (hn : l.length ≤ 1000000)
    (eg : ∀ args w, (callFunc g args).run Try.prog w = .ok (.enter g args) w)
    (hf : ∀ s W, Below w.heap.size w W → Calls Try.prog g (#[.agg (encS s)] ++ lb) W fun e w' => e = .returned (.bool (f s)) ∧ Below W.heap.size W w') :
    Calls Try.prog 22 #[v, .func (.func g) #[] lb] w fun e w' => e = .returned (.bool (l.any f)) ∧ Below w.heap.size w w' := by
  have HI := Lib.hid (indexFunc_any g lb f v l w h hn eg hf)
  rw [← indexF_any]
  obtain ⟨a, cap, rfl⟩ := h.form
  clear h hf eg
  generalize indexF f l = z at HI ⊢
  go_enter Try.func22, Try.ntmps22
  go_wp2_with (go_at_call 70; refine HI.out.mono ?_; rintro e w2 ⟨rfl, hx⟩; have HX := Lib.hid hx; clear hx)
  go_ret
  exact ⟨rfl, HX.out⟩
end Go.Proofs.Ytokkgbcjjaiaeaa
