/-
  dfa.Right; slices.ContainsFunc at ints; slices.Equal at sets, whatever they are.
-/
import Derived.Test.YtiegfnmpknmbmaaGreatK14
import Derived.Test.YtiegfnmpknmbmaaGreatK06
namespace Go.Proofs.YtiegfnmpknmbmaaGreat
open Go Go.RowKit Go.Shelf Go.Maps
attribute [local go_sem] encS

/-- Where the first element lies that f takes (-1: none does). -/
def indexG {α : Type} (f : α → Bool) (l : List α) : Int := match l.findIdx? f with | some k => k | none => -1
theorem indexG_any {α : Type} (f : α → Bool) (l : List α) : decide (0 ≤ indexG f l) = l.any f := by
  unfold indexG
  cases h : l.findIdx? f with
  | none =>
    rw [List.findIdx?_eq_none_iff] at h
    have : l.any f = false := by rw [List.any_eq_false]; intro x hx; rw [h x hx]; decide
    rw [this]; rfl
  | some k =>
    rw [List.findIdx?_eq_some_iff_getElem] at h
    obtain ⟨h1, h2, _⟩ := h
    have : l.any f = true := by rw [List.any_eq_true]; exact ⟨l[k], List.getElem_mem h1, h2⟩
    rw [this]; simp
theorem indexG_some {α : Type} {f : α → Bool} {l : List α} {k : Nat} {x : α} (hx : l[k]? = some x) (hf : f x = true) (hn : ∀ y ∈ l.take k, f y = false) : indexG f l = k := by
  have h1 : l.findIdx? f = some k := by
    rw [List.findIdx?_eq_some_iff_getElem]
    have hkl := (List.getElem?_eq_some_iff.1 hx).1
    refine ⟨hkl, ?_, fun j hj => ?_⟩
    · rw [(List.getElem?_eq_some_iff.1 hx).2]; exact hf
    · have := hn l[j] (List.mem_take_iff_getElem.2 ⟨j, by omega, rfl⟩)
      rw [this]; decide
  rw [indexG, h1]
theorem indexG_none {α : Type} {f : α → Bool} {l : List α} (hn : ∀ y ∈ l, f y = false) : indexG f l = -1 := by
  have h1 : l.findIdx? f = none := by
    rw [List.findIdx?_eq_none_iff]
    intro x hx
    rw [hn x hx]
  rw [indexG, h1]
theorem take_step {α : Type} {f : α → Bool} {l : List α} {k : Nat} {x : α} (hx : l[k]? = some x) (hf : f x = false) (hn : ∀ y ∈ l.take k, f y = false) : ∀ y ∈ l.take (k + 1), f y = false := fun y hy => by
  rw [List.take_add_one, hx] at hy
  rcases List.mem_append.1 hy with hy | hy
  · exact hn y hy
  · rw [show y = x from by simpa using hy]; exact hf

set_option maxRecDepth 100000 in
set_option maxHeartbeats 1000000 in
theorem indexFuncI_any (g : Nat) (lb : Array Value) (f : Int → Bool) (v : Value) (l : List Int) (w : World) (h : IsSl encZ w v l) (hn : l.length ≤ 1000000)
    (eg : ∀ args w, (callFunc g args).run Tryz.prog w = .ok (.enter g args) w)
    (hf : ∀ s W, Below w.heap.size w W → Calls Tryz.prog g (#[.int .i64 s] ++ lb) W fun e w' => e = .returned (.bool (f s)) ∧ w' = W) :
    Calls Tryz.prog 83 #[v, .func (.func g) #[] lb] w fun e w' => e = .returned (.int .i64 (indexG f l)) ∧ w' = w := by
  obtain ⟨a, cap, rfl⟩ := h.form
  obtain ⟨n, hnn⟩ : ∃ n, n = l.length := ⟨_, rfl⟩
  rw [← hnn] at h hn ⊢
  have H := Lib.hid h
  have HN := Lib.hid hnn
  have HF := Lib.hid fun s => hf s w (Below.refl _ _)
  obtain ⟨r, hr⟩ : ∃ r, r = indexG f l := ⟨_, rfl⟩
  rw [← hr]
  have HR := Lib.hid hr
  clear h hnn hf hr
  go_enter Tryz.func83, Tryz.ntmps83
  go_wp2
  go_loop [8] (fun i => ∃ k : Nat, k ≤ n ∧ i = .int .i64 k ∧ (∀ s ∈ l.take k, f s = false)) (fun i => n - (intOf i).toNat)
  case atStart => exact ⟨0, by omega, rfl, fun s hs => by simp at hs⟩
  case round =>
    obtain ⟨k, hk, rfl, ha⟩ := hrel
    by_cases hlt : k < n
    · obtain ⟨s, hs⟩ : ∃ s, l[k]? = some s := ⟨_, List.getElem?_eq_getElem (by have := HN.out; omega)⟩
      obtain ⟨b, off, rfl, hb, d0⟩ := H.out.elem hs
      have d0' : w.cell? ⟨b, off + k, none⟩ = some (.int .i64 s) := d0
      have HFs := Lib.hid (HF.out s)
      have HA := Lib.hid ha
      have HS := Lib.hid hs
      clear ha hs d0
      obtain ⟨b1, hb1⟩ : ∃ b1, b1 = f s := ⟨_, rfl⟩
      rw [← hb1] at HFs
      have HB1 := Lib.hid hb1
      clear hb1
      cases b1 with
      | true =>
        have HRR := Lib.hid (HR.out.trans (indexG_some HS.out HB1.out.symm HA.out))
        go_wp2
        refine HFs.out.mono ?_
        rintro e w2 ⟨rfl, hw⟩
        replace hw := hw.symm
        subst hw
        go_wp2
        go_ret
        exact ⟨by rw [HRR.out]; rfl, rfl⟩
      | false =>
        go_wp2
        refine HFs.out.mono ?_
        rintro e w2 ⟨rfl, hw⟩
        replace hw := hw.symm
        subst hw
        go_wp2
        go_round
        case rel => exact ⟨k + 1, by omega, by go_num, take_step HS.out HB1.out.symm HA.out⟩
        case measure => simp [intOf]; omega
    · obtain rfl : k = n := by omega
      have HRR := Lib.hid (HR.out.trans (indexG_none fun y hy => ha y (by rw [HN.out, List.take_length]; exact hy)))
      clear ha
      go_wp2
      go_ret
      exact ⟨by rw [HRR.out]; rfl, rfl⟩
theorem containsFuncI_any (g : Nat) (lb : Array Value) (f : Int → Bool) (v : Value) (l : List Int) (w : World) (h : IsSl encZ w v l) (hn : l.length ≤ 1000000)
    (eg : ∀ args w, (callFunc g args).run Tryz.prog w = .ok (.enter g args) w)
    (hf : ∀ s W, Below w.heap.size w W → Calls Tryz.prog g (#[.int .i64 s] ++ lb) W fun e w' => e = .returned (.bool (f s)) ∧ w' = W) :
    Calls Tryz.prog 67 #[v, .func (.func g) #[] lb] w fun e w' => e = .returned (.bool (l.any f)) ∧ w' = w := by
  have HI := Lib.hid (indexFuncI_any g lb f v l w h hn eg hf)
  rw [← indexG_any]
  obtain ⟨a, cap, rfl⟩ := h.form
  clear h hf eg
  generalize indexG f l = z at HI ⊢
  go_enter Tryz.func67, Tryz.ntmps67
  go_wp2_with (go_at_call 83; refine HI.out.mono ?_; rintro e w2 ⟨rfl, hw⟩; replace hw := hw.symm; subst hw)
  go_ret
  exact ⟨rfl, rfl⟩

/-- The closure of Right: a number that is no state. -/
theorem right1_any (x : Int) (n : Nat) (B : Nat) (W : World) (hB : W.cell? ⟨B, 0, none⟩ = some (.int .i64 n)) :
    Calls Tryz.prog 68 #[.int .i64 x, .pointer (some ⟨B, 0, none⟩)] W fun e w' => e = .returned (.bool (!inN n x)) ∧ w' = W := by
  unfold inN
  by_cases h1 : x < 0
  · have d1 : decide (x < 0) = true := decide_eq_true h1
    have d2 : decide (0 ≤ x) = false := decide_eq_false (by omega)
    go_enter Tryz.func68, Tryz.ntmps68
    go_wp2
    go_ret
    exact ⟨by rw [d2]; rfl, rfl⟩
  · have d1 : decide (x < 0) = false := decide_eq_false h1
    have d2 : decide (0 ≤ x) = true := decide_eq_true (by omega)
    by_cases h2 : (n : Int) ≤ x
    · have d3 : decide ((n : Int) ≤ x) = true := decide_eq_true h2
      have d4 : decide (x < (n : Int)) = false := decide_eq_false (by omega)
      go_enter Tryz.func68, Tryz.ntmps68
      go_wp2
      go_ret
      exact ⟨rfl, rfl⟩
    · have d3 : decide ((n : Int) ≤ x) = false := decide_eq_false h2
      have d4 : decide (x < (n : Int)) = true := decide_eq_true (by omega)
      go_enter Tryz.func68, Tryz.ntmps68
      go_wp2
      go_ret
      exact ⟨rfl, rfl⟩
theorem eg_right1 : ∀ args w, (callFunc 68 args).run Tryz.prog w = .ok (.enter 68 args) w := fun args w => by kernel_rfl

theorem list_ne {α : Type} [BEq α] [LawfulBEq α] {l m : List α} {k : Nat} {x y : α} (hx : l[k]? = some x) (hy : m[k]? = some y) (h : x ≠ y) : (l == m) = false := by
  rw [beq_eq_false_iff_ne]
  intro e
  subst e
  rw [hx] at hy
  exact h (Option.some.inj hy)
theorem list_eq_of {α : Type} [BEq α] [LawfulBEq α] {l m : List α} {n : Nat} (h1 : l.length = n) (h2 : m.length = n) (h : ∀ i x y, i < n → l[i]? = some x → m[i]? = some y → x = y) : (l == m) = true := by
  rw [beq_iff_eq]
  refine List.ext_getElem (by omega) fun i a b => ?_
  exact h i _ _ (by omega) (List.getElem?_eq_getElem a) (List.getElem?_eq_getElem b)
theorem list_len_ne {α : Type} [BEq α] [LawfulBEq α] {l m : List α} (h : l.length ≠ m.length) : (l == m) = false := by
  rw [beq_eq_false_iff_ne]
  intro e; rw [e] at h; exact h rfl

set_option maxRecDepth 100000 in
set_option maxHeartbeats 1000000 in
theorem setsEq_any (v1 v2 : Value) (l1 l2 : List BS) (w : World) (h1 : IsSets w v1 l1) (h2 : IsSets w v2 l2) (hn : l1.length ≤ 1000000) :
    Calls Tryz.prog 65 #[v1, v2] w fun e w' => e = .returned (.bool (l1 == l2)) ∧ Ext w w' := by
  obtain ⟨a1, c1, rfl⟩ := h1.form
  obtain ⟨a2, c2, rfl⟩ := h2.form
  obtain ⟨n, hnn⟩ : ∃ n, n = l1.length := ⟨_, rfl⟩
  obtain ⟨m, hmm⟩ : ∃ m, m = l2.length := ⟨_, rfl⟩
  rw [← hnn] at h1 hn ⊢
  rw [← hmm] at h2 ⊢
  have HN := Lib.hid hnn
  have HM := Lib.hid hmm
  have H1 := Lib.hid h1
  have H2 := Lib.hid h2
  have HE := Lib.hid fun s t W => set_equal s t W
  by_cases hnm : n = m
  · subst hnm
    obtain ⟨r, hr⟩ : ∃ r, r = (l1 == l2) := ⟨_, rfl⟩
    rw [← hr]
    have HR := Lib.hid hr
    clear h1 h2 hnn hmm hr
    go_enter Tryz.func65, Tryz.ntmps65
    go_wp2
    go_loopw [13] (fun i wr => ∃ k : Nat, k ≤ n ∧ i = .int .i64 k ∧ (∀ i x y, i < k → l1[i]? = some x → l2[i]? = some y → x = y) ∧ Ext w wr) (fun i _ => n - (intOf i).toNat)
    case atStart => exact ⟨0, by omega, rfl, fun i x y hi => by omega, Ext.refl _⟩
    case round =>
      obtain ⟨k, hk, rfl, ha, hx⟩ := hrel
      obtain ⟨wo, rfl⟩ : ∃ wo : World, wo = wr := ⟨_, rfl⟩
      have HX := Lib.hid hx
      have HA := Lib.hid ha
      clear ha
      by_cases hlt : k < n
      · obtain ⟨s, hs⟩ : ∃ s, l1[k]? = some s := ⟨_, List.getElem?_eq_getElem (by have := HN.out; omega)⟩
        obtain ⟨t, ht⟩ : ∃ t, l2[k]? = some t := ⟨_, List.getElem?_eq_getElem (by have := HM.out; omega)⟩
        obtain ⟨b, off, rfl, hb, d0, d1, d2, d3⟩ := (H1.out.below hx.below).elem hs
        obtain ⟨b', off', rfl, hb', e0, e1, e2, e3⟩ := (H2.out.below hx.below).elem ht
        have hki : (k : Int) < n := by omega
        have HS := Lib.hid hs
        have HT := Lib.hid ht
        obtain ⟨q, hq⟩ : ∃ q, q = (s == t) := ⟨_, rfl⟩
        have heq : ∀ W, (Op.equalIn 10000 33 (.agg #[.int .u64 (wd s 0).toNat, .int .u64 (wd s 1).toNat, .int .u64 (wd s 2).toNat, .int .u64 (wd s 3).toNat]) (.agg #[.int .u64 (wd t 0).toNat, .int .u64 (wd t 1).toNat, .int .u64 (wd t 2).toNat, .int .u64 (wd t 3).toNat])).run Tryz.prog W = .ok q W := fun W => by
          have h1 := HE.out s t W
          rw [← hq] at h1
          exact h1
        have HQ := Lib.hid hq
        clear hs ht hx hq
        cases q with
        | true =>
          go_wp2
          go_quiet (fail)
          go_wp2
          exact ⟨⟨k + 1, by omega, by go_num, fun i x y hi hx hy => by
            by_cases e : i = k
            · subst e
              rw [HS.out] at hx; rw [HT.out] at hy; cases hx; cases hy
              exact beq_iff_eq.1 HQ.out.symm
            · exact HA.out i x y (by omega) hx hy, ext_drewN HX.out nq⟩, by simp [intOf]; omega⟩
        | false =>
          have HRR := Lib.hid (HR.out.trans (list_ne HS.out HT.out (beq_eq_false_iff_ne.1 HQ.out.symm)))
          go_wp2
          go_quiet (fail)
          go_wp2
          go_ret
          exact ⟨by rw [HRR.out]; rfl, ext_drewN HX.out nq⟩
      · obtain rfl : k = n := by omega
        have HRR := Lib.hid (HR.out.trans (list_eq_of HN.out.symm HM.out.symm HA.out))
        clear hx
        go_wp2
        go_ret
        exact ⟨by rw [HRR.out]; rfl, HX.out⟩
  · have e1 : (l1 == l2) = false := list_len_ne (by omega)
    have d1 : decide ((n : Int) = m) = false := decide_eq_false (by omega)
    rw [e1]
    clear h1 h2 hnn hmm e1 d1
    have d2 : ((n : Int) == (m : Int)) = false := by rw [beq_eq_false_iff_ne]; omega
    have d3 : ((n : Int) != (m : Int)) = true := by simp; omega
    have d4 : (n == m) = false := by rw [beq_eq_false_iff_ne]; exact hnm
    go_enter Tryz.func65, Tryz.ntmps65
    go_wp2
    go_ret
    exact ⟨rfl, Ext.refl _⟩
end Go.Proofs.YtiegfnmpknmbmaaGreat
