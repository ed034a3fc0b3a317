/-
  The law's small.
-/
import Derived.Test.YtiegfnmpknmbmaaGreatK12
import Derived.Test.YtiegfnmpknmbmaaGreatK19
import Derived.Test.YtiegfnmpknmbmaaGreatK29
namespace Go.Proofs.YtiegfnmpknmbmaaGreat
open Go Go.RowKit Go.Shelf Go.Maps
attribute [local go_sem] encS

/-- All lengths are of a size that a machine has. -/
structure Big (d : DF) : Prop where
  cl : d.cl.length ≤ 17592186044416
  nx : d.nx.length ≤ 17592186044416
  mr : d.mr.length ≤ 17592186044416
  nxs : ∀ l ∈ d.nx, l.length ≤ 17592186044416
  mks : ∀ l ∈ d.mr, l.length ≤ 17592186044416
def sumLen (ll : List (List Int)) : Nat := (ll.map List.length).sum
theorem sumLen_append (a b : List (List Int)) : sumLen (a ++ b) = sumLen a + sumLen b := by simp [sumLen]
theorem sumLen_le {ll : List (List Int)} {l : List Int} (h : l ∈ ll) : l.length ≤ sumLen ll := by
  unfold sumLen
  induction ll with
  | nil => cases h
  | cons x t ih =>
    simp only [List.map_cons, List.sum_cons]
    rcases List.mem_cons.1 h with rfl | h
    · omega
    · have := ih h; omega
theorem sumLen_big {ll : List (List Int)} {B : Nat} (h : ∀ l ∈ ll, l.length ≤ B) : sumLen ll ≤ ll.length * B := by
  unfold sumLen
  induction ll with
  | nil => simp
  | cons x t ih =>
    simp only [List.map_cons, List.sum_cons, List.length_cons, Nat.succ_mul]
    have := h x (List.mem_cons_self ..)
    have := ih fun l hl => h l (List.mem_cons_of_mem _ hl)
    omega
def smallL (d : DF) : List (List Int) := d.nx.take 21 ++ d.mr.take 21
def smallB (d : DF) : Bool := decide (d.cl.length ≤ 20) && decide (d.nx.length ≤ 20) && decide (d.mr.length ≤ 20) && decide (sumLen (smallL d) ≤ 500)
theorem small_sm {d : DF} (h : smallB d = true) : Sm d := by
  unfold smallB at h
  simp only [Bool.and_eq_true, decide_eq_true_eq] at h
  obtain ⟨⟨⟨h1, h2⟩, h3⟩, h4⟩ := h
  have e : smallL d = d.nx ++ d.mr := by unfold smallL; rw [List.take_of_length_le (by omega), List.take_of_length_le (by omega)]
  rw [e] at h4
  refine ⟨by omega, by omega, by omega, fun l hl => ?_, fun l hl => ?_⟩
  · have := sumLen_le (List.mem_append_left d.mr hl); omega
  · have := sumLen_le (List.mem_append_right d.nx hl); omega
/-- The first rows of a list of rows. -/
theorem IsLLe.take {w : World} {a : Option Addr} {n c k : Nat} {ll : List (List Int)} (h : IsLLe w (.slice a n c) ll) (hk : k ≤ ll.length) : ∃ us : List Value, us.length = k ∧ IsSl (fun u : Value => u) w (.slice a k c) us ∧ (∀ u ∈ us, u.oneCell' = true) ∧ ∀ (i : Nat) (l : List Int), (ll.take k)[i]? = some l → ∃ (ad : Option Addr) (cp : Nat), us[i]? = some (.slice ad l.length cp) := by
  obtain ⟨us, h1, h2, h3⟩ := h
  have hone : ∀ (i : Nat) (u : Value) (l : List Int), us[i]? = some u → ll[i]? = some l → ∃ (ad : Option Addr) (cp : Nat), u = .slice ad l.length cp := fun i u l hu hl => by
    obtain ⟨ad, cp, e⟩ := (h3 i u l hu hl).form
    exact ⟨ad, cp, e⟩
  refine ⟨us.take k, by rw [List.length_take]; omega, ?_, fun u hu => ?_, fun i l hl => ?_⟩
  · rcases h2 with ⟨e, rfl⟩ | ⟨b, off, cap, e, hb, hc, h⟩
    · cases e
      have hk0 : k = 0 := by simp at h1; omega
      subst hk0
      exact .inl ⟨rfl, rfl⟩
    · cases e
      refine .inr ⟨b, off, c, by rw [List.length_take, Nat.min_eq_left (by omega)], hb, by rw [List.length_take]; omega, fun i x hx => ?_⟩
      rw [List.getElem?_take] at hx
      split at hx
      · exact h i x hx
      · cases hx
  · obtain ⟨i, hi⟩ := List.getElem?_of_mem (List.mem_of_mem_take hu)
    have hil := (List.getElem?_eq_some_iff.1 hi).1
    obtain ⟨ad, cp, e⟩ := hone i u _ hi (List.getElem?_eq_getElem (by omega))
    rw [e]; rfl
  · rw [List.getElem?_take] at hl
    split at hl
    · rename_i hik
      have hil := (List.getElem?_eq_some_iff.1 hl).1
      obtain ⟨ad, cp, e⟩ := hone i _ l (List.getElem?_eq_getElem (by omega)) hl
      refine ⟨ad, cp, ?_⟩
      rw [List.getElem?_take, if_pos hik, ← e]
      exact List.getElem?_eq_getElem (by omega)
    · cases hl
theorem IsSl.src {w : World} {v : Value} {us : List Value} (h : IsSl (fun u : Value => u) w v us) : SrcOf w v us.length us := by
  rcases h with ⟨rfl, rfl⟩ | ⟨b, off, cap, rfl, _, _, hc⟩
  · exact .inl ⟨rfl, rfl, rfl⟩
  · exact .inr ⟨⟨b, off, none⟩, cap, rfl, fun j u hj => by rw [Addr.add_mid]; exact hc j u hj⟩
set_option maxRecDepth 100000 in
set_option maxHeartbeats 4000000 in
theorem small_any (v : Value) (d : DF) (big : Big d) (w : World) (h : IsDfe w v d) :
    Calls Tryz.prog 6 #[v] w fun e w' => e = .returned (.bool (smallB d)) ∧ Below w.heap.size w w' := by
  obtain ⟨iL, hiL, hzL0, hzL1, hzL2⟩ := info_parts Tryz.infoL
  obtain ⟨v0, v1, v2, rfl, h0, h1, h2⟩ := h
  obtain ⟨a0, c0, rfl⟩ := h0.1.form
  obtain ⟨a1, c1, rfl⟩ := h1.form
  obtain ⟨a2, c2, rfl⟩ := h2.form
  obtain ⟨k1, hk1⟩ : ∃ k, k = min d.nx.length 21 := ⟨_, rfl⟩
  obtain ⟨k2, hk2⟩ : ∃ k, k = min d.mr.length 21 := ⟨_, rfl⟩
  obtain ⟨us, u1, u2, u3, u4⟩ := h1.take (k := k1) (by omega)
  obtain ⟨ms, m1, m2, m3, m4⟩ := h2.take (k := k2) (by omega)
  obtain ⟨S, hS⟩ : ∃ S, S = sumLen (smallL d) := ⟨_, rfl⟩
  have hsl : smallL d = d.nx.take k1 ++ d.mr.take k2 := by
    unfold smallL
    congr 1
    · rw [hk1]
      by_cases h : d.nx.length ≤ 21
      · rw [List.take_of_length_le h, Nat.min_eq_left h, List.take_length]
      · rw [Nat.min_eq_right (by omega)]
    · rw [hk2]
      by_cases h : d.mr.length ≤ 21
      · rw [List.take_of_length_le h, Nat.min_eq_left h, List.take_length]
      · rw [Nat.min_eq_right (by omega)]
  have hrows : ∀ (i : Nat) (l : List Int), (smallL d)[i]? = some l → ∃ (ad : Option Addr) (cp : Nat), (us ++ ms)[i]? = some (.slice ad l.length cp) := fun i l hl => by
    rw [hsl] at hl
    have hl1 : (d.nx.take k1).length = k1 := by rw [List.length_take]; omega
    by_cases hi : i < k1
    · rw [List.getElem?_append_left (by omega)] at hl
      rw [List.getElem?_append_left (by omega)]
      exact u4 i l hl
    · rw [List.getElem?_append_right (by omega), hl1] at hl
      rw [List.getElem?_append_right (by omega), u1]
      exact m4 _ l hl
  have hlen : (smallL d).length = k1 + k2 := by rw [hsl, List.length_append, List.length_take, List.length_take]; omega
  have hbig : ∀ l ∈ smallL d, l.length ≤ 17592186044416 := fun l hl => by
    rcases List.mem_append.1 hl with hl | hl
    · exact big.nxs l (List.mem_of_mem_take hl)
    · exact big.mks l (List.mem_of_mem_take hl)
  obtain ⟨n0, hn0⟩ : ∃ n, n = d.cl.length := ⟨_, rfl⟩
  obtain ⟨n1, hn1⟩ : ∃ n, n = d.nx.length := ⟨_, rfl⟩
  obtain ⟨n2, hn2⟩ : ∃ n, n = d.mr.length := ⟨_, rfl⟩
  have hB : smallB d = (decide (n0 ≤ 20) && decide (n1 ≤ 20) && decide (n2 ≤ 20) && decide (S ≤ 500)) := by unfold smallB; rw [← hn0, ← hn1, ← hn2, ← hS]
  have hS2 : S ≤ 42 * 17592186044416 := by
    rw [hS]
    refine Nat.le_trans (sumLen_big hbig) ?_
    rw [hlen]
    exact Nat.mul_le_mul_right _ (by omega)
  have hmin1 : min (n1 : Int) 21 = k1 := by omega
  have hmin2 : min (n2 : Int) 21 = k2 := by omega
  have b1 := big.cl
  have b2 := big.nx
  have b3 := big.mr
  rw [← hn0] at b1 ⊢
  rw [← hn1] at b2 h1 ⊢
  rw [← hn2] at b3 h2 ⊢
  rw [hB]
  have l1 : k1 ≤ 21 := by omega
  have l2 : k2 ≤ 21 := by omega
  have l3 : k1 ≤ n1 := by omega
  have l4 : k2 ≤ n2 := by omega
  have U2 := Lib.hid u2
  have U3 := Lib.hid u3
  have M2 := Lib.hid m2
  have M3 := Lib.hid m3
  have HROWS := Lib.hid hrows
  have HLEN := Lib.hid hlen
  have HBIG := Lib.hid hbig
  have HS := Lib.hid hS
  have HU1 := Lib.hid u1
  have HM1 := Lib.hid m1
  have hc1 : n1 ≤ c1 := by
    obtain ⟨_, h6, h5, _⟩ := h1
    rcases h5 with ⟨e, _⟩ | ⟨b, off, cap, e, _, hc, _⟩
    · cases e; exact Nat.le_refl _
    · cases e; exact hc
  have hc2 : n2 ≤ c2 := by
    obtain ⟨_, h6, h5, _⟩ := h2
    rcases h5 with ⟨e, _⟩ | ⟨b, off, cap, e, _, hc, _⟩
    · cases e; exact Nat.le_refl _
    · cases e; exact hc
  have hkc1 : (k1 : Int) ≤ c1 := by omega
  have hkc2 : (k2 : Int) ≤ c2 := by omega
  clear h0 h1 h2 u1 u2 u3 u4 m1 m2 m3 m4 hS hsl hrows hlen hbig hn0 hn1 hn2 hB hk1 hk2 big
  go_enter Tryz.func6, Tryz.ntmps6
  go_wp2
  refine wp_named ?_
  intro V hV
  have B1 : Hid (Blk V w.heap.size #[.slice a0 n0 c0, .slice a1 n1 c1, .slice a2 n2 c2] 25) := by rw [hV]; exact Blk.new w _ _
  have X1 : Hid (Below w.heap.size w V) := by rw [hV]; exact ((Ext.refl w).alloc _).below
  clear hV
  have b0 := B1.out.cell 1
  have b2' := B1.out.cell 2
  replace b0 : V.cell? ⟨w.heap.size, 1, none⟩ = some (.slice a1 n1 c1) := b0
  replace b2' : V.cell? ⟨w.heap.size, 2, none⟩ = some (.slice a2 n2 c2) := b2'
  refine wp_region_regM (MoveK V.heap.size (twoPhi V.heap.size 36 1 k1 k2 us ms)) (MoveK.below (twoPhi_st _ _ _ _ _ _ _) (Ext.refl V).drew.below) (fun _ _ _ h k => h.trans k) (by kernel_rfl) 18 [0, 1, 0, 4, 12, 28, 63, 127, 0, 256, 0, 1024, 3072, 7168, 16128, 32767, 65535, 0] (fun i => i == 7 || i == 15) (by kernel_rfl) (fun i => if i = 7 then Eff.fact _ _ 0 (fun v => ∃ a c, v = .slice a k1 c) (.slice none k1 0) ⟨none, 0, rfl⟩ else if i = 15 then Eff.fact _ _ 1 (fun v => ∃ a c, v = .slice a (k1 + k2) c) (.slice none (k1 + k2) 0) ⟨none, 0, rfl⟩ else Eff.any _) ?_
  intro C hC hne
  have HC := Lib.hid hC
  have hlV := B1.out.lt
  have f1 : ∀ W : { W // C W }, W.1.cell? ⟨w.heap.size, 1, none⟩ = some (.slice a1 n1 c1) := fun W => (((hC W.1).1 W.2).1.cell (p := ⟨w.heap.size, 1, none⟩) ⟨hlV, hlV⟩).trans b0
  have f2 : ∀ W : { W // C W }, W.1.cell? ⟨w.heap.size, 2, none⟩ = some (.slice a2 n2 c2) := fun W => (((hC W.1).1 W.2).1.cell (p := ⟨w.heap.size, 2, none⟩) ⟨hlV, hlV⟩).trans b2'
  clear hC b0 b2'
  have dk1 : (k1 : Int) ≤ n1 := by omega
  have dk2 : (k2 : Int) ≤ n2 := by omega
  have U2V : Hid (∀ W, MoveK V.heap.size (twoPhi V.heap.size 36 1 k1 k2 us ms) V W → IsSl (fun u : Value => u) W (.slice a1 k1 c1) us ∧ IsSl (fun u : Value => u) W (.slice a2 k2 c2) ms) := Lib.hid fun W hM => by
    have hb : Below w.heap.size w W := X1.out.trans (hM.1.mono fun x hx => by have : x < w.heap.size := hx; have := X1.out.size; exact ⟨by omega, by omega⟩ : Keeps (· < w.heap.size) V W).below
    exact ⟨U2.out.below hb, M2.out.below hb⟩
  repeat (refine regStep (fun K hK => ?_); first | (refine regN rfl ?_; try go_simp; refine hK _ _ ?_; clear hK K) | (refine regF rfl rfl ?_; unfold floatAt; go_simp; refine hK _ _ ?_; clear hK K))
  refine regStep (fun K hK => ?_)
  refine regE rfl rfl (Eff.fact _ _ 0 (fun v => ∃ a c, v = .slice a k1 c) (.slice none k1 0) ⟨none, 0, rfl⟩) rfl (fun W hW hN => ?_) (fun v hv => ?_)
  · have hM := (HC.out W).1 hW
    have hsW := hM.1.size
    have HU := Lib.hid (U2V.out W hM).1
    clear hW hK K hN hM
    go_simp
    refine effT_call ((cloneLL_any _ us W HU.out (by rw [HU1.out]; omega) U3.out).mono ?_)
    rintro e w2 ⟨u, rfl, ho, hx⟩
    rw [HU1.out] at ho
    have ho2 : w2.ownsRow V.heap.size 36 1 u k1 us := ownsRow_base ho hsW
    exact ⟨_, rfl, MoveK.below (twoPhi_st _ _ _ _ _ _ _) hx, ownsRow_form ho2, ho2⟩
  obtain ⟨a7, c7, rfl⟩ := hv
  go_simp
  refine hK _ _ ?_
  clear hK K
  repeat (refine regStep (fun K hK => ?_); first | (refine regN rfl ?_; try go_simp; refine hK _ _ ?_; clear hK K) | (refine regF rfl rfl ?_; unfold floatAt; go_simp; refine hK _ _ ?_; clear hK K))
  refine regStep (fun K hK => ?_)
  refine regE rfl rfl (Eff.fact _ _ 1 (fun v => ∃ a c, v = .slice a (k1 + k2) c) (.slice none (k1 + k2) 0) ⟨none, 0, rfl⟩) rfl (fun W hW hN => ?_) (fun v hv => ?_)
  · have hM := (HC.out W).1 hW
    have hsW := hM.1.size
    have h0 : W.ownsRow V.heap.size 36 1 (.slice a7 k1 c7) k1 us := hN.at 0 rfl (by kernel_rfl)
    have hm2 := (U2V.out W hM).2
    have hsrc := hm2.src
    rw [HM1.out] at hsrc
    clear hW hK K hN hm2
    refine effT_appendZ (.tmp 13) (.tmp 20) 23 rfl V.heap.size 36 iL (.slice none 0 0) 1 24 Tryz.underlying23 hiL hzL0 hzL1 hzL2 rfl (by decide) (.slice a7 k1 c7) k1 us rfl h0 (.slice a2 k2 c2) k2 ms rfl hsrc (by rw [HM1.out, Nat.mul_one]) M3.out (by unfold maxLen; omega) (by omega) hsW ?_
    intro v' w' ho hg halt
    rcases halt with hb | ⟨g, cap, y1, y2, y3⟩
    · exact ⟨MoveK.below (twoPhi_st _ _ _ _ _ _ _) hb, ownsRow_form ho, ho⟩
    · subst y2
      rw [y1] at h0 hg
      exact ⟨⟨Keeps.of_grown hg fun x hx => ⟨hx.2, fun e => by cases e; have := (h0.lt _ rfl).1; have := hx.1; omega⟩, twoPhi_place (by decide) h0 ho hg⟩, ⟨_, _, rfl⟩, ho⟩
  obtain ⟨a15, c15, rfl⟩ := hv
  go_simp
  refine hK _ _ ?_
  clear hK K
  repeat (refine regStep (fun K hK => ?_); first | (refine regN rfl ?_; try go_simp; refine hK _ _ ?_; clear hK K) | (refine regF rfl rfl ?_; unfold floatAt; go_simp; refine hK _ _ ?_; clear hK K))
  refine regNil (fun W hW hH => ?_)
  have hM := (HC.out W).1 hW
  have RO : Hid (W.ownsRow V.heap.size 36 1 (.slice a15 (k1 + k2) c15) (k1 + k2) (us ++ ms)) := Lib.hid (hH _ (List.mem_of_getElem? (show _ = some _ from rfl : _[0]? = some _)))
  have XW : Hid (Below w.heap.size w W) := Lib.hid (X1.out.trans (hM.1.mono fun x hx => by have : x < w.heap.size := hx; have := X1.out.size; exact ⟨by omega, by omega⟩ : Keeps (· < w.heap.size) V W).below)
  have BW : Hid (Blk W w.heap.size #[.slice a0 n0 c0, .slice a1 n1 c1, .slice a2 n2 c2] 25) := Lib.hid (B1.out.keeps hM.1 ⟨hlV, hlV⟩)
  clear hM hW hH HC f1 f2 U2V X1 B1 U2 U3 M2 M3 hne
  obtain ⟨m, hm⟩ : ∃ m, m = k1 + k2 := ⟨_, rfl⟩
  have hm42 : m ≤ 42 := by omega
  rw [← hm] at RO HLEN ⊢
  go_wp2
  go_loopw [3, 23] (fun nv iv wr => ∃ i : Nat, i ≤ m ∧ iv = .int .i64 i ∧ nv = .int .i64 (sumLen ((smallL d).take i)) ∧ wr = W) (fun _ iv _ => m - (intOf iv).toNat)
  case atStart => exact ⟨0, Nat.zero_le _, rfl, rfl, rfl⟩
  case round =>
    obtain ⟨i, hi, rfl, rfl, rfl⟩ := hrel
    have hsi : sumLen ((smallL d).take i) ≤ 42 * 17592186044416 := Nat.le_trans (sumLen_big fun l hl => HBIG.out l (List.mem_of_mem_take hl)) (Nat.mul_le_mul_right _ (by rw [List.length_take]; omega))
    by_cases hlt : i < m
    · obtain ⟨l, hl⟩ : ∃ l, (smallL d)[i]? = some l := ⟨_, List.getElem?_eq_getElem (by rw [HLEN.out]; exact hlt)⟩
      obtain ⟨ad, cp, hr⟩ := HROWS.out i l hl
      obtain ⟨g, u, rfl, _, _, hu, cu, _⟩ := rowCell RO.out hlt
      rw [hr] at hu
      cases hu
      have hll := HBIG.out l (List.mem_of_getElem? hl)
      have hs : sumLen ((smallL d).take (i + 1)) = sumLen ((smallL d).take i) + l.length := by
        rw [List.take_add_one, hl, sumLen_append]
        simp [sumLen]
      have hii : (i : Int) < m := by omega
      obtain ⟨sl, hsl⟩ : ∃ s, s = sumLen ((smallL d).take i) := ⟨_, rfl⟩
      rw [← hsl] at hs hsi ⊢
      obtain ⟨ln, hln⟩ : ∃ n, n = l.length := ⟨_, rfl⟩
      rw [← hln] at hs cu hll
      have HSS := Lib.hid hs
      clear hl hr hs hsl hln
      go_wp2
      go_roundw
      case rel => exact ⟨i + 1, by omega, by go_num, by rw [HSS.out]; go_num, trivial⟩
      case measure => simp [intOf]; omega
    · obtain rfl : i = m := by omega
      have hft : (smallL d).take i = smallL d := by rw [← HLEN.out]; exact List.take_length
      rw [hft, ← HS.out]
      have HBB := BW
      obtain ⟨⟨s0, s1, s2⟩, _⟩ := BW.out.three
      clear hft HROWS HLEN HBIG HS RO
      by_cases h0 : n0 ≤ 20
      · have q0 : decide ((n0 : Int) ≤ 20) = true := decide_eq_true (by omega)
        have p0 : (n0 : Int) ≤ 20 := by omega
        by_cases h1 : n1 ≤ 20
        · have q1 : decide ((n1 : Int) ≤ 20) = true := decide_eq_true (by omega)
          have p1 : (n1 : Int) ≤ 20 := by omega
          by_cases h2 : n2 ≤ 20
          · have q2 : decide ((n2 : Int) ≤ 20) = true := decide_eq_true (by omega)
            have p2 : (n2 : Int) ≤ 20 := by omega
            by_cases h3 : S ≤ 500
            · have q3 : decide ((S : Int) ≤ 500) = true := decide_eq_true (by omega)
              have p3 : (S : Int) ≤ 500 := by omega
              go_wp2
              exact bodyPost_ret (v := .bool true) (by simp [results, Tryz.results6, go_sem]) rfl ⟨by simp; exact ⟨⟨⟨h0, h1⟩, h2⟩, h3⟩, XW.out⟩
            · have q3 : decide ((S : Int) ≤ 500) = false := decide_eq_false (by omega)
              have p3 : ¬ (S : Int) ≤ 500 := by omega
              go_wp2
              exact bodyPost_ret (v := .bool false) (by simp [results, Tryz.results6, go_sem]) rfl ⟨by simp, XW.out⟩
          · have q2 : decide ((n2 : Int) ≤ 20) = false := decide_eq_false (by omega)
            have p2 : ¬ (n2 : Int) ≤ 20 := by omega
            go_wp2
            exact bodyPost_ret (v := .bool false) (by simp [results, Tryz.results6, go_sem]) rfl ⟨by simp, XW.out⟩
        · have q1 : decide ((n1 : Int) ≤ 20) = false := decide_eq_false (by omega)
          have p1 : ¬ (n1 : Int) ≤ 20 := by omega
          go_wp2
          exact bodyPost_ret (v := .bool false) (by simp [results, Tryz.results6, go_sem]) rfl ⟨by simp, XW.out⟩
      · have q0 : decide ((n0 : Int) ≤ 20) = false := decide_eq_false (by omega)
        have p0 : ¬ (n0 : Int) ≤ 20 := by omega
        go_wp2
        exact bodyPost_ret (v := .bool false) (by simp [results, Tryz.results6, go_sem]) rfl ⟨by simp, XW.out⟩
end Go.Proofs.YtiegfnmpknmbmaaGreat
