/-
  Walks of package alphabet: All, Finer; the law's 'few'.
-/
import Derived.Test.YtokkgbcjjaiaeaaAlph5
namespace Go.Proofs.Ytokkgbcjjaiaeaa
open Go Go.RowKit Go.Shelf Go.Maps
attribute [local go_sem] encS

/-- The set of one byte; the first of them. -/
def oneB (c : Nat) : BS := bsOf fun d => [c].contains d
def allTo (k : Nat) : List BS := (List.range k).map oneB
theorem allTo_succ (k : Nat) : allTo (k + 1) = allTo k ++ [oneB k] := by unfold allTo; rw [List.range_succ, List.map_append]; rfl
theorem allTo_len (k : Nat) : (allTo k).length = k := by simp [allTo]

set_option maxRecDepth 100000 in
set_option maxHeartbeats 1000000 in
theorem alphAll_any (w : World) : Calls Try.prog 25 #[] w fun e w' => ∃ b, e = .returned (.pointer (some ⟨b, 0, none⟩)) ∧ IsAl w' w.heap.size (.pointer (some ⟨b, 0, none⟩)) (allTo 256) ∧ Below w.heap.size w w' := by
  obtain ⟨i0, hi, hz0, hz1, hz2⟩ := info_parts Try.infoS
  go_enter Try.func25, Try.ntmps25
  go_wp2
  go_loopw [3, 1] (fun i u wr => ∃ k : Nat, k ≤ 256 ∧ i = .int .i64 k ∧ wr.ownsRow w.heap.size 25 4 u (allTo k).length (flatS (allTo k)) ∧ Below w.heap.size w wr) (fun i _ _ => 256 - (intOf i).toNat)
  case atStart => exact ⟨0, by omega, rfl, World.ownsRow_nil _ _ _ _, Below.refl _ _⟩
  case round =>
    obtain ⟨k, hk, rfl, ho, hx⟩ := hrel
    obtain ⟨wo, rfl⟩ : ∃ wo : World, wo = wr := ⟨_, rfl⟩
    obtain ⟨a5, c5, rfl⟩ := ownsRow_form ho
    have hlen : (allTo k).length ≤ 256 := by rw [allTo_len]; exact hk
    have HX := Lib.hid hx
    have HO := Lib.hid ho
    have HE := Lib.hid (allTo_len k)
    clear hx ho
    by_cases hlt : k < 256
    · have HOf : Hid (∀ W B, B < W.heap.size → W.cell? ⟨B, 0, none⟩ = some (.int .u8 k) → Calls Try.prog 56 #[.slice (some ⟨B, 0, none⟩) 1 1] W fun e w' => e = .returned (.agg (encS (oneB k))) ∧ Ext W w') :=
        fun W B h1 h2 => of_any [k] (by simpa using hlt) B 0 1 W (by simp) h1 (fun i x hi => by
          cases i with
          | zero => cases hi; exact h2
          | succ i => simp at hi)
      have HT := Lib.hid (allTo_succ k)
      generalize oneB k = z at HOf HT
      generalize allTo k = xs at HO hlen HT
      go_wp2_with (first | (go_at_call 56; refine (HOf.out _ _ (by simp) (by simp)).mono ?_; rintro e w2 ⟨rfl, hx2⟩; have HX2 := Lib.hid hx2; clear hx2) | (at_builtin; have ho1 := ((ownsRow_keeps (HO.out.alloc (.cells #[.int .u8 k] 5 (0, 0))) HX2.out.keeps (fun k e => by have := (HO.out.lt k e).2; simp; omega))).alloc (.cells (encS z) 25 (0, 0)); have HO1 := Lib.hid ho1; clear ho1; refine wpList_append_own_at _ rfl _ _ 22 rfl w.heap.size 25 i0 (.agg #[.int .u64 0, .int .u64 0, .int .u64 0, .int .u64 0]) 4 32 Try.underlying22 hi hz0 hz1 hz2 rfl (by decide) _ _ _ rfl HO1.out ⟨w2.heap.size, 0, none⟩ 1 1 (encS z).toList rfl rfl (news_blk (Blk.new _ (encS z) 25)) (by intro u hu; simp [encS] at hu; rcases hu with rfl | rfl | rfl | rfl <;> rfl) (by unfold maxLen; omega) (by omega) (by have := HX.out.size; have := HX2.out.size; simp at this; simp; omega) ?_; intro v' w4 hown' hgrow hh hat; have HO2 := Lib.hid hown'; have HG := Lib.hid hgrow; clear hown' hgrow hh hat))
      go_roundw
      case rel =>
        have h1 : Below w.heap.size w w2 := (HX.out.alloc HX.out.size _).trans (HX2.out.below.mono (by have := HX.out.size; simp; omega))
        refine ⟨k + 1, by omega, by go_num, ?_, ?_⟩
        · rw [HT.out, List.length_append, flatS_append, flatS_one]; exact HO2.out
        · exact (h1.alloc h1.size _).grown HG.out (by have := h1.size; simp; omega) (fun c e => (HO.out.lt c e).1)
      case measure => simp [intOf]; omega
    · obtain rfl : k = 256 := by omega
      have HM := Lib.hid (made_any (allTo 256) _ w.heap.size wo HO.out HX.out.size (by rw [allTo_len]; exact Nat.le_refl _))
      rw [HE.out] at HM ⊢
      go_wp2_with (go_at_call 66; refine HM.out.mono ?_; rintro e w2 ⟨b, rfl, h1, h2⟩; have H3 := Lib.hid h1; have H4 := Lib.hid h2; clear h1 h2)
      go_ret
      exact ⟨b, rfl, H3.out, HX.out.trans (H4.out.mono HX.out.size)⟩

/-- Whether each of these classes is some of those. -/
def finerOf (p q : List BS) : Bool := !p.isEmpty && !q.isEmpty && q.all fun s => (classesOf p s).2 == 0

set_option maxRecDepth 100000 in
set_option maxHeartbeats 1000000 in
theorem finer_any (v v2 : Value) (base base2 : Nat) (p q : List BS) (w : World) (h : IsAl w base v p) (h2 : IsAl w base2 v2 q) :
    Calls Try.prog 26 #[v, v2] w fun e w' => e = .returned (.bool (finerOf p q)) ∧ Below w.heap.size w w' := by
  have HN := Lib.hid (none_any v base p w h)
  have HN2 := Lib.hid (none_any v2 base2 q w h2)
  obtain ⟨r, hr⟩ : ∃ r, r = finerOf p q := ⟨_, rfl⟩
  rw [← hr]
  unfold finerOf at hr
  by_cases hp : p.isEmpty = true
  · rw [hp] at HN hr
    have hr' : r = false := hr
    clear hr hp h h2
    go_enter Try.func26, Try.ntmps26
    go_wp2_with (go_at_call 68; refine HN.out.mono ?_; rintro e w1 ⟨rfl, hw⟩; replace hw := hw.symm; subst hw)
    go_ret
    exact ⟨by rw [hr']; rfl, Below.refl _ _⟩
  · have hp' : p.isEmpty = false := by simpa using hp
    rw [hp'] at HN hr
    have HF := Lib.hid fun s W (hx : Below w.heap.size w W) => fits_any v base p s W (h.below hx)
    obtain ⟨f, hf⟩ : ∃ f : BS → Bool, f = fun s => (classesOf p s).2 == 0 := ⟨_, rfl⟩
    have hfs : ∀ s, ((classesOf p s).2 == 0) = f s := fun s => by rw [hf]
    simp only [hfs] at HF
    rw [← hf] at hr
    obtain ⟨ab0, ad0, rfl⟩ : ∃ ab, ∃ _ : True, v = .pointer ab := by
      rcases h with ⟨h, _⟩ | ⟨b, sl, h, _⟩
      · exact ⟨_, trivial, h⟩
      · exact ⟨_, trivial, h⟩
    clear hf hfs h hp hp'
    cases q with
    | nil =>
      have hr' : r = false := hr
      rw [show ([] : List BS).isEmpty = true from rfl] at HN2
      clear hr h2
      go_enter Try.func26, Try.ntmps26
      go_wp2_with (go_at_call 68; first | (with_reducible refine HN.out.mono ?_; rintro e w1 ⟨rfl, hw⟩; replace hw := hw.symm; subst hw) | (with_reducible refine HN2.out.mono ?_; rintro e w1 ⟨rfl, hw⟩; replace hw := hw.symm; subst hw))
      go_ret
      exact ⟨by rw [hr']; rfl, Below.refl _ _⟩
    | cons s q =>
      have hr' : r = (s :: q).all f := hr
      rw [show (s :: q).isEmpty = false from rfl] at HN2
      obtain ⟨ab, sl, ca, rfl, h1, _, _, h3, h4⟩ := h2.some
      have hle := h2.le
      have HQ := Lib.hid h4
      have hab : ab < w.heap.size := h3
      generalize s :: q = l at *
      obtain ⟨n, hn⟩ : ∃ n, n = l.length := ⟨_, rfl⟩
      rw [← hn] at h1 hle
      have HNN := Lib.hid hn
      have HR := Lib.hid hr'
      clear h2 hr hr' h3 h4 hn
      go_enter Try.func26, Try.ntmps26
      go_wp2_with (go_at_call 68; first | (with_reducible refine HN.out.mono ?_; rintro e w1 ⟨rfl, hw⟩; replace hw := hw.symm; subst hw) | (with_reducible refine HN2.out.mono ?_; rintro e w1 ⟨rfl, hw⟩; replace hw := hw.symm; subst hw))
      go_loopw [18] (fun i wr => ∃ k : Nat, k ≤ n ∧ i = .int .i64 k ∧ (l.take k).all f = true ∧ Below w.heap.size w wr) (fun i _ => n - (intOf i).toNat)
      case atStart => exact ⟨0, by omega, rfl, rfl, Below.refl _ _⟩
      case round =>
        obtain ⟨k, hk, rfl, ha, hx⟩ := hrel
        obtain ⟨wo, rfl⟩ : ∃ wo : World, wo = wr := ⟨_, rfl⟩
        by_cases hlt : k < n
        · obtain ⟨q, hq⟩ : ∃ q, l[k]? = some q := ⟨_, List.getElem?_eq_getElem (by have := HNN.out; omega)⟩
          obtain ⟨g, rfl, _, hg, hc⟩ := HQ.out k q hq
          have e0 : wo.cell? ⟨g, k * 4, none⟩ = some (.int .u64 (wd q 0).toNat) := (hx.cell (p := ⟨g, k * 4, none⟩) hg).trans (hc 0 (by decide))
          have e1 : wo.cell? ⟨g, k * 4 + 1, none⟩ = some (.int .u64 (wd q 1).toNat) := (hx.cell (p := ⟨g, k * 4 + 1, none⟩) hg).trans (hc 1 (by decide))
          have e2 : wo.cell? ⟨g, k * 4 + 2, none⟩ = some (.int .u64 (wd q 2).toNat) := (hx.cell (p := ⟨g, k * 4 + 2, none⟩) hg).trans (hc 2 (by decide))
          have e3 : wo.cell? ⟨g, k * 4 + 3, none⟩ = some (.int .u64 (wd q 3).toNat) := (hx.cell (p := ⟨g, k * 4 + 3, none⟩) hg).trans (hc 3 (by decide))
          have hta : (l.take (k + 1)).all f = ((l.take k).all f && f q) := by rw [List.take_add_one, hq]; simp
          have HQL := Lib.hid hq
          have HTA := Lib.hid hta
          have HA := Lib.hid ha
          have HX := Lib.hid hx
          have HFq := Lib.hid (HF.out q (wo.alloc (.cells (encS q) 25 (0, 0))) (hx.alloc hx.size _))
          clear hc hq hta ha hx hg
          obtain ⟨b1, hb1⟩ : ∃ b1, b1 = f q := ⟨_, rfl⟩
          rw [← hb1] at HFq HTA
          have HB1 := Lib.hid hb1
          clear hb1
          cases b1 with
          | true =>
            go_wp2_with (go_at_call 37; refine HFq.out.mono ?_; rintro e w2 ⟨rfl, hx2⟩; have HX2 := Lib.hid hx2; clear hx2)
            go_roundw
            case rel =>
              refine ⟨k + 1, by omega, by go_num, ?_, (HX.out.alloc HX.out.size _).trans (HX2.out.mono (by have := HX.out.size; simp; omega))⟩
              rw [HTA.out, HA.out]; rfl
            case measure => simp [intOf]; omega
          | false =>
            have hr : r = false := by
              rw [HR.out, List.all_eq_false]
              exact ⟨q, List.mem_of_getElem? HQL.out, by rw [← HB1.out]; decide⟩
            have HRR := Lib.hid hr
            clear hr
            go_wp2_with (go_at_call 37; refine HFq.out.mono ?_; rintro e w2 ⟨rfl, hx2⟩; have HX2 := Lib.hid hx2; clear hx2)
            go_ret
            exact ⟨by rw [HRR.out]; rfl, (HX.out.alloc HX.out.size _).trans (HX2.out.mono (by have := HX.out.size; simp; omega))⟩
        · obtain rfl : k = n := by omega
          have htk : l.take k = l := by rw [HNN.out]; exact List.take_length
          rw [htk] at ha
          have hr := HR.out
          rw [ha] at hr
          have HRR := Lib.hid hr
          have HX := Lib.hid hx
          clear ha hr htk hx
          go_wp2
          go_ret
          exact ⟨by rw [HRR.out]; rfl, HX.out⟩
end Go.Proofs.Ytokkgbcjjaiaeaa
