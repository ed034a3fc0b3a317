/-
  The walk of AlphabetWords.
-/
import Derived.Test.YtokkgbcjjaiaeaaPlain
import Derived.Test.YtokkgbcjjaiaeaaClasses
import Derived.Test.YtokkgbcjjaiaeaaAlph
namespace Go.Proofs.Ytokkgbcjjaiaeaa
open Go Go.RowKit Go.Shelf Go.Maps
attribute [local go_sem] encS

/-- The first elements of a slice. -/
theorem IsSl.take {α : Type} {enc : α → Value} {w : World} {a : Option Addr} {n cap : Nat} {l : List α} (h : IsSl enc w (.slice a n cap) l) (k : Nat) (hk : k ≤ n) : IsSl enc w (.slice a k cap) (l.take k) := by
  rcases h with ⟨h, rfl⟩ | ⟨b, off, cap', hv, hb, hc, h⟩
  · cases h
    obtain rfl : k = 0 := by omega
    exact .inl ⟨rfl, rfl⟩
  · cases hv
    have hl : (l.take k).length = k := by rw [List.length_take]; omega
    refine .inr ⟨b, off, cap, by rw [hl], hb, by omega, fun i x hi => h i x ?_⟩
    rw [List.getElem?_take] at hi
    split at hi
    · exact hi
    · cases hi
theorem IsSl.cap {α : Type} {enc : α → Value} {w : World} {a : Option Addr} {n cap : Nat} {l : List α} (h : IsSl enc w (.slice a n cap) l) : n ≤ cap := by
  rcases h with ⟨h, rfl⟩ | ⟨b, off, cap', hv, hb, hc, h⟩
  · cases h; exact Nat.le_refl _
  · cases hv; omega

set_option maxRecDepth 100000 in
set_option maxHeartbeats 1000000 in
theorem alphabetWords_any (v vb : Value) (l0 : List BS) (b0 : List Nat) (x y : Nat) (w : World) (h : IsSetsC w v l0) (hn : l0.length ≤ 9223372036854775807) (hb : IsSl encB w vb b0) (hb256 : ∀ c ∈ b0, c < 256) (hnb : b0.length ≤ 9223372036854775807) (hx : x < 256) (hy : y < 256) :
    Calls Try.prog 4 #[v, vb, .int .u8 x, .int .u8 y] w fun e w' => e = .returned (.bool true) ∧ Below w.heap.size w w' := by
  obtain ⟨a0, c0, rfl⟩ := h.1.form
  obtain ⟨ab0, cb0, rfl⟩ := hb.form
  have hcb := hb.cap
  have HT := Lib.hid hb.take
  have H256 := Lib.hid hb256
  obtain ⟨n0, hn0⟩ : ∃ n, n = l0.length := ⟨_, rfl⟩
  obtain ⟨m0, hm0⟩ : ∃ n, n = b0.length := ⟨_, rfl⟩
  rw [← hn0] at h ⊢
  rw [← hm0] at hb hcb HT hnb ⊢
  have H0 := Lib.hid h
  have HN0 := Lib.hid hn
  have HM0 := Lib.hid hm0
  clear h hn hn0 hb hb256 hm0
  go_enter Try.func4, Try.ntmps4
  go_wp2_with fail
  refine (awake_any _).mono ?_
  rintro e w1 ⟨rfl, h1⟩
  have X1 := Lib.hid (((((Ext.refl w).alloc (.cells #[.int .u8 x] 5 (0, 0))).alloc (.cells #[.int .u8 y] 5 (0, 0))).below).trans (h1.mono (by simp; omega)))
  have BX := Lib.hid (((Blk.new w #[.int .u8 x] 5).alloc (.cells #[.int .u8 y] 5 (0, 0))).below h1 (by simp; omega))
  have BY := Lib.hid ((((Blk.new (w.alloc (.cells #[.int .u8 x] 5 (0, 0))) #[.int .u8 y] 5)).at (show _ = w.heap.size + 1 by simp)).below h1 (by simp))
  clear h1
  go_wp2
  refine wp_region_lexK (fun x => x < w1.heap.size) (by kernel_rfl) (fun i => i == 1) (by kernel_rfl) ?_
  intro C hC hne W0 hK0 hblk hsz hx0
  have HC := Lib.hid hC
  have HK0 := Lib.hid hK0
  have HX0 := Lib.hid hx0
  refine Later.out ?_
  clear hC hK0 hblk hsz hx0
  have HS := Lib.hid (fun x (hx : x < w1.heap.size) => hx)
  obtain ⟨k, hk, hkm, hkc⟩ : ∃ k : Nat, min (m0 : Int) 100 = k ∧ b0.take 100 = b0.take k ∧ k ≤ m0 ∧ k ≤ 100 := by
    have := HM0.out
    by_cases h6 : m0 ≤ 100
    · exact ⟨m0, by omega, by rw [List.take_of_length_le (by omega), List.take_of_length_le (by omega)], by omega, by omega⟩
    · exact ⟨100, by omega, rfl, by omega, by omega⟩
  have hkcap : k ≤ cb0 := by omega
  have hk100 := hkc.2
  have HSB := Lib.hid (HT.out k hkc.1)
  have HKM := Lib.hid hkm
  have HKL : Hid ((b0.take k).length = k) := by have := HM0.out; show (b0.take k).length = k; rw [List.length_take]; omega
  clear hkm hkc HT
  repeat (refine laterStep (fun K hK => ?_); first | (refine lexN rfl ?_; try go_simp; refine hK _ _ ?_; clear hK K) | (refine lexF rfl rfl ?_; unfold floatAt; go_simp; refine hK _ _ ?_; clear hK K))
  refine laterStep (fun K hK => ?_)
  refine lexE rfl rfl ?_
  go_simp
  refine effAt_call ((few_any _ l0 _ (H0.out.below (X1.out.trans (HX0.out.below.mono X1.out.size))) HN0.out).mono ?_)
  rintro e w2 ⟨u, rfl, hu, hw⟩
  replace hw := hw.symm
  subst hw
  refine ⟨_, rfl, (HC.out _).2 HK0.out, hK _ _ ?_⟩
  clear hK K
  have hl6 : (l0.take 6).length ≤ 6 := by rw [List.length_take]; omega
  obtain ⟨l, hl⟩ : ∃ l, l = l0.take 6 := ⟨_, rfl⟩
  rw [← hl] at hu hl6
  obtain ⟨a1, c1, rfl⟩ := hu.1.form
  obtain ⟨m, hm⟩ : ∃ m, m = l.length := ⟨_, rfl⟩
  rw [← hm] at hu hl6 ⊢
  have HU := Lib.hid hu
  have HM := Lib.hid hm
  clear hu hm hl H0 HN0
  repeat (refine laterStep (fun K hK => ?_); first | (refine lexN rfl ?_; try go_simp; refine hK _ _ ?_; clear hK K) | (refine lexF rfl rfl ?_; unfold floatAt; go_simp; refine hK _ _ ?_; clear hK K))
  refine laterNil ?_
  clear hk
  obtain ⟨W1, hW1⟩ : ∃ W1, W1 = W0 := ⟨_, rfl⟩
  have X0 : Hid (Below w.heap.size w W0) := X1.out.trans (HX0.out.below.mono X1.out.size)
  clear W1 hW1
  go_wp2_with fail
  refine (alphOf_any l _ _ HU.out.1 (by have := HM.out; omega)).mono ?_
  rintro e w2 ⟨b, rfl, h1, h2⟩
  have A2 := Lib.hid h1
  have X2 := Lib.hid (X0.out.trans (h2.mono X0.out.size))
  have BX2 := Lib.hid ((BX.out.ext HX0.out).below h2 (BX.out.ext HX0.out).lt)
  have BY2 := Lib.hid ((BY.out.ext HX0.out).below h2 (BY.out.ext HX0.out).lt)
  have HU2 := Lib.hid (HU.out.below h2)
  have hp1 := partsOf_pos l
  have hp64 := partsOf_len64 l (by have := HM.out; omega)
  obtain ⟨bs, hbs⟩ : ∃ bs, bs = b0.take k := ⟨_, rfl⟩
  have H256k : ∀ c ∈ bs, c < 256 := fun c hc => H256.out c (by rw [hbs] at hc; exact List.mem_of_mem_take hc)
  have FW := Lib.hid (wordOf_parts l bs)
  have FB := Lib.hid (bytesOf_word l bs H256k)
  have FWL := Lib.hid (word_least l bs H256k)
  have FLt := Lib.hid (least_lt l bs H256k)
  have FLs := Lib.hid fun c hc => leastB_spec l (c := c) hc
  have FCl := Lib.hid fun c hc => cls_class l (c := c) hc
  have FAl := Lib.hid (alike_cls l hx hy)
  have HSB2 := Lib.hid (HSB.out.below X2.out)
  have HKL2 : Hid (bs.length = k) := by have := HKL.out; show bs.length = k; rw [hbs]; exact this
  rw [← hbs] at HSB2
  have H256k := Lib.hid H256k
  clear h1 h2 H256 HSB HKL HKM HM0 hbs hcb hnb hkcap
  generalize partsOf l = p at *
  obtain ⟨n, hnp⟩ : ∃ n, n = p.length := ⟨_, rfl⟩
  have HNP := Lib.hid hnp
  clear hp1 hp64 hnp HU BX BY X1 X0
  -- Word
  go_wp2_with fail
  refine (word_any _ _ p _ bs _ A2.out HSB2.out H256k.out (by rw [HKL2.out]; omega)).mono ?_
  rintro e w3 ⟨u3, rfl, h1, h2⟩
  have hlw : (bs.map (cls p)).length = k := by rw [List.length_map]; exact HKL2.out
  rw [FW.out, hlw] at h1
  obtain ⟨a3, c3, rfl⟩ := ownsRow_form h1
  have U3 := Lib.hid (IsSl.nat (ownsRow_sl (l := bs.map (cls p)) h1 hlw.symm))
  have X3 := Lib.hid (X2.out.trans (h2.mono X2.out.size))
  have A3 := Lib.hid (A2.out.below h2)
  have S3 := Lib.hid (HSB2.out.below h2)
  have BX3 := Lib.hid (BX2.out.below h2 BX2.out.lt)
  have BY3 := Lib.hid (BY2.out.below h2 BY2.out.lt)
  have HU3 := Lib.hid (HU2.out.below h2)
  clear h1 h2 HSB2 BX2 BY2 A2 HU2
  -- Bytes
  go_wp2_with fail
  refine (alphBytes_any _ _ p _ _ _ A3.out U3.out (by rw [List.length_map, hlw]; omega)).mono ?_
  rintro e w4 ⟨u4, rfl, h1, h2⟩
  rw [FB.out] at h1 ⊢
  have hll : (bs.map (leastB p)).length = k := by rw [List.length_map]; exact HKL2.out
  dsimp only at h1 ⊢
  rw [hll] at h1
  obtain ⟨a4, c4, rfl⟩ := ownsRow_form h1
  have U4 := Lib.hid (ownsRow_sl (enc := encB) (l := bs.map (leastB p)) h1 hll.symm)
  have X4 := Lib.hid (X3.out.trans (h2.mono X3.out.size))
  have A4 := Lib.hid (A3.out.below h2)
  have S4 := Lib.hid (S3.out.below h2)
  have BX4 := Lib.hid (BX3.out.below h2 BX3.out.lt)
  have BY4 := Lib.hid (BY3.out.below h2 BY3.out.lt)
  have HU4 := Lib.hid (HU3.out.below h2)
  have U3' := Lib.hid (U3.out.below h2)
  clear h1 h2 S3 BX3 BY3 A3 HU3 U3
  have HLW := Lib.hid hlw
  have HLL := Lib.hid hll
  clear hlw hll
  -- Word of the least bytes
  go_wp2_with fail
  refine (word_any _ _ p _ _ _ A4.out U4.out FLt.out (by rw [HLL.out]; omega)).mono ?_
  rintro e w5 ⟨u5, rfl, h1, h2⟩
  rw [FWL.out, HLW.out] at h1
  obtain ⟨a5, c5, rfl⟩ := ownsRow_form h1
  have U5 := Lib.hid (IsSl.nat (ownsRow_sl (l := bs.map (cls p)) h1 HLW.out.symm))
  have X5 := Lib.hid (X4.out.trans (h2.mono X4.out.size))
  have A5 := Lib.hid (A4.out.below h2)
  have S5 := Lib.hid (S4.out.below h2)
  have BX5 := Lib.hid (BX4.out.below h2 BX4.out.lt)
  have BY5 := Lib.hid (BY4.out.below h2 BY4.out.lt)
  have HU5 := Lib.hid (HU4.out.below h2)
  have V5 := Lib.hid (U3'.out.below h2)
  have L5 := Lib.hid (U4.out.below h2)
  clear h1 h2 S4 BX4 BY4 A4 HU4 U3' U4 FW FB FWL
  go_wp2_with fail
  refine (slEqual_any _ _ _ _ _ U5.out V5.out (by rw [List.length_map, HLW.out]; omega)).mono ?_
  rintro e w6 ⟨rfl, hx6⟩
  rw [show ((bs.map (cls p)).map Int.ofNat == (bs.map (cls p)).map Int.ofNat) = true from by simp]
  have X6 := Lib.hid (X5.out.trans (hx6.below.mono X5.out.size))
  have A6 := Lib.hid (A5.out.below hx6.below)
  have S6 := Lib.hid (S5.out.ext hx6)
  have BX6 := Lib.hid (BX5.out.ext hx6)
  have BY6 := Lib.hid (BY5.out.ext hx6)
  have HU6 := Lib.hid (HU5.out.below hx6.below)
  have V6 := Lib.hid (V5.out.ext hx6)
  have L6 := Lib.hid (L5.out.ext hx6)
  clear hx6 S5 BX5 BY5 A5 HU5 V5 L5 U5
  -- Table
  go_wp2_with fail
  refine (table_any _ _ p _ A6.out).mono ?_
  rintro e w7 ⟨rfl, hx7⟩
  have X7 := Lib.hid (X6.out.trans (hx7.below.mono X6.out.size))
  have A7 := Lib.hid (A6.out.below hx7.below)
  have S7 := Lib.hid (S6.out.ext hx7)
  have BX7 := Lib.hid (BX6.out.ext hx7)
  have BY7 := Lib.hid (BY6.out.ext hx7)
  have HU7 := Lib.hid (HU6.out.below hx7.below)
  have V7 := Lib.hid (V6.out.ext hx7)
  have L7 := Lib.hid (L6.out.ext hx7)
  clear hx7 S6 BX6 BY6 A6 HU6 V6 L6
  have hz := tabArr_nil
  have hst := run_storeCells_new (P := Try.prog) w7 38 (tabArr []) (tabArr p) (by rw [tabArr_size]; exact size_tab) (by rw [tabArr_size, tabArr_size]) (tabArr_one _)
  have hs0 := tabArr_size p
  go_wp2_with fail
  clear hz hst hs0
  refine wp_named ?_
  intro W8 hW8
  have hx8 : Ext w7 W8 := by rw [hW8]; exact (Ext.refl _).alloc _
  have BT : Hid (Blk W8 w7.heap.size (tabArr p) 38) := by rw [hW8]; exact Blk.new _ _ _
  have X8 := Lib.hid (X7.out.trans (hx8.below.mono X7.out.size))
  have A8 := Lib.hid (A7.out.below hx8.below)
  have S8 := Lib.hid (S7.out.ext hx8)
  have BX8 := Lib.hid (BX7.out.ext hx8)
  have BY8 := Lib.hid (BY7.out.ext hx8)
  have HU8 := Lib.hid (HU7.out.below hx8.below)
  have V8 := Lib.hid (V7.out.ext hx8)
  have L8 := Lib.hid (L7.out.ext hx8)
  clear hx8 hW8 S7 BX7 BY7 A7 HU7 V7 L7 X2 X3 X4 X5 X6 X7
  have HCLt := Lib.hid fun c => cls_lt p c A8.out.le
  go_loopw [69] (fun i wr => ∃ j : Nat, j ≤ k ∧ i = .int .i64 j ∧ Below W8.heap.size W8 wr) (fun i _ => k - (intOf i).toNat)
  case atStart => exact ⟨0, by omega, rfl, Below.refl _ _⟩
  case round =>
    obtain ⟨j, hj, rfl, hx⟩ := hrel
    obtain ⟨wi, rfl⟩ : ∃ wi : World, wi = wr := ⟨_, rfl⟩
    by_cases hjk : j < k
    · obtain ⟨c, hc⟩ : ∃ c, bs[j]? = some c := ⟨_, List.getElem?_eq_getElem (by have := HKL2.out; omega)⟩
      have hc256 : c < 256 := H256k.out c (List.mem_of_getElem? hc)
      obtain ⟨gb, ob, rfl, _, cb⟩ := (S8.out.below hx).elem hc
      obtain ⟨gw, ow, rfl, hgw, cw⟩ := (V8.out.below hx).elem (show (((bs.map (cls p)).map Int.ofNat))[j]? = some (Int.ofNat (cls p c)) by rw [List.getElem?_map, List.getElem?_map, hc]; rfl)
      obtain ⟨gl, ol, rfl, hgl, cl⟩ := (L8.out.below hx).elem (show (bs.map (leastB p))[j]? = some (leastB p c) by rw [List.getElem?_map, hc]; rfl)
      have hcw : wi.cell? ⟨gw, ow + j, none⟩ = some (.int .i64 (cls p c)) := cw
      have hcl : wi.cell? ⟨gl, ol + j, none⟩ = some (.int .u8 (leastB p c)) := cl
      have hcb : wi.cell? ⟨gb, ob + j, none⟩ = some (.int .u8 c) := cb
      have hct : wi.cell? ⟨w7.heap.size, c, none⟩ = some (.int .u8 (cls p c)) := by
        rw [(BT.out.below hx BT.out.lt).cell c, tabArr_get p hc256]
      obtain ⟨q, hq1, hq2⟩ := FCl.out c hc256
      obtain ⟨_, hle, _, _⟩ := FLs.out c hc256
      have hkk : cls p c < 256 := HCLt.out c
      have hset : setOf p (cls p c) = some q := (setOf_nat p _).trans hq1
      have HSet : Hid (∀ W, IsAl W W0.heap.size (.pointer (some ⟨b, 0, none⟩)) p → Calls Try.prog 19 #[.pointer (some ⟨b, 0, none⟩), .int .i64 (cls p c)] W fun e w' => e = .returned (.tuple #[.agg (encS q), .bool true]) ∧ Ext W w') := fun W h => by
        have := set_any _ _ p (cls p c) W h; rw [hset] at this; exact this
      have HHas : Hid (∀ W, Calls Try.prog 20 #[.agg (encS q), .int .u8 c] W fun e w' => e = .returned (.bool true) ∧ Ext W w') := fun W => by
        have := has_any q c hc256 W; rw [hq2] at this; exact this
      have HCls : Hid (∀ W, IsAl W W0.heap.size (.pointer (some ⟨b, 0, none⟩)) p → Calls Try.prog 21 #[.pointer (some ⟨b, 0, none⟩), .int .u8 c] W fun e w' => e = .returned (.int .i64 (cls p c)) ∧ w' = W) := fun W h => class_any _ _ p c hc256 W h
      have hT : w7.heap.size < wi.heap.size := Nat.lt_of_lt_of_le BT.out.lt hx.size
      have HX := Lib.hid hx
      have A9 := Lib.hid (A8.out.below hx)
      clear hc cb cw cl hq1 hq2 hset hx
      generalize cls p c = kk at *
      generalize leastB p c = le at *
      go_wp2_with fail
      refine (HSet.out _ A9.out).mono ?_
      rintro e w9 ⟨rfl, hx9⟩
      have X9 := Lib.hid (HX.out.trans (hx9.below.mono HX.out.size))
      have A10 := Lib.hid (A9.out.below hx9.below)
      have e1 : w9.cell? ⟨gw, ow + j, none⟩ = _ := (hx9.cell (p := ⟨gw, ow + j, none⟩) hgw).trans hcw
      have e2 : w9.cell? ⟨gl, ol + j, none⟩ = _ := (hx9.cell (p := ⟨gl, ol + j, none⟩) hgl).trans hcl
      have e3 : w9.cell? ⟨w7.heap.size, c, none⟩ = _ := (hx9.cell (p := ⟨w7.heap.size, c, none⟩) hT).trans hct
      have hs9 : wi.heap.size ≤ w9.heap.size := hx9.size
      clear hx9 hcw hcl hct hcb
      go_wp2
      refine wp_named ?_
      intro W10 hW10
      have hx10 : Ext w9 W10 := by rw [hW10]; exact (Ext.refl _).alloc _
      have bq : Blk W10 w9.heap.size (encS q) 25 := by rw [hW10]; exact Blk.new _ _ _
      have g1 : W10.cell? ⟨gw, ow + j, none⟩ = _ := (hx10.cell (p := ⟨gw, ow + j, none⟩) (show gw < w9.heap.size by omega)).trans e1
      have g2 : W10.cell? ⟨gl, ol + j, none⟩ = _ := (hx10.cell (p := ⟨gl, ol + j, none⟩) (show gl < w9.heap.size by omega)).trans e2
      have g3 : W10.cell? ⟨w7.heap.size, c, none⟩ = _ := (hx10.cell (p := ⟨w7.heap.size, c, none⟩) (show w7.heap.size < w9.heap.size by omega)).trans e3
      have X10 := Lib.hid (X9.out.trans (hx10.below.mono X9.out.size))
      have A11 := Lib.hid (A10.out.below hx10.below)
      have hs10 : w9.heap.size < W10.heap.size := bq.lt
      have HS := Lib.hid (fun x (hx : x < W10.heap.size) => hx)
      clear hW10 hx10 e1 e2 e3
      have hci : (c : Int) < 256 := by omega
      have hwk : IntKind.i64.wrap (kk : Int) = kk := IntWalk.i64_in _ (by omega)
      have hkki : (kk : Int) < 256 := by omega
      have hkk9 : (kk : Int) ≤ 9223372036854775807 := by omega
      have hd1 : decide (c < le) = false := decide_eq_false (by omega)
      have hd2 : decide ((c : Int) < (le : Int)) = false := decide_eq_false (by omega)
      refine wp_region_lexK (fun x => x < W10.heap.size) (by kernel_rfl) (fun i => i == 5 || i == 8 || i == 16 || i == 27 || i == 30) (by kernel_rfl) ?_
      intro C hC hne W0 hK0 hblk hsz hx0
      have HC := Lib.hid hC
      have HK0 := Lib.hid hK0
      have HX0 := Lib.hid hx0
      refine Later.out ?_
      have f1 := lexCell hC (p := ⟨gw, ow + j, none⟩) (show gw < W10.heap.size by omega) g1
      have f2 := lexCell hC (p := ⟨gl, ol + j, none⟩) (show gl < W10.heap.size by omega) g2
      have f3 := lexCell hC (p := ⟨w7.heap.size, c, none⟩) (show w7.heap.size < W10.heap.size by omega) g3
      obtain ⟨q0, q1, q2, q3⟩ := lexSet hC hs10 bq
      clear hC hK0 hblk hsz hx0 g1 g2 g3 bq
      repeat (refine laterStep (fun K hK => ?_); first | (refine lexN rfl ?_; try go_simp; refine hK _ _ ?_; clear hK K) | (refine lexF rfl rfl ?_; unfold floatAt; go_simp; refine hK _ _ ?_; clear hK K))
      refine laterStep (fun K hK => ?_)
      refine lexE rfl rfl ?_
      go_simp
      refine effAt_call ((HHas.out _).mono ?_)
      rintro e w11 ⟨rfl, hx⟩
      have hk1 := Keeps.step HK0.out HS.out hx
      refine ⟨_, rfl, (HC.out _).2 hk1, hK _ _ ?_⟩
      have HK1 := Lib.hid hk1
      clear hK K hk1
      have XX1 := Lib.hid (HX0.out.trans hx)
      clear hx
      repeat (refine laterStep (fun K hK => ?_); first | (refine lexN rfl ?_; try go_simp; refine hK _ _ ?_; clear hK K) | (refine lexF rfl rfl ?_; unfold floatAt; go_simp; refine hK _ _ ?_; clear hK K) | (refine lexE rfl rfl ?_; go_simp; refine ⟨(HC.out _).2 HK1.out, hK _ _ ?_⟩; clear hK K))
      refine laterStep (fun K hK => ?_)
      refine lexE rfl rfl ?_
      go_simp
      refine effAt_call ((HCls.out _ (A11.out.keeps HK1.out (fun _ _ h => h))).mono ?_)
      rintro e w12 ⟨rfl, hw⟩
      replace hw := hw.symm
      subst hw
      have hk2 := HK1.out
      refine ⟨_, rfl, (HC.out _).2 hk2, hK _ _ ?_⟩
      have HK2 := Lib.hid hk2
      clear hK K hk2
      repeat (refine laterStep (fun K hK => ?_); first | (refine lexN rfl ?_; try go_simp; refine hK _ _ ?_; clear hK K) | (refine lexF rfl rfl ?_; unfold floatAt; go_simp; refine hK _ _ ?_; clear hK K))
      refine laterNil ?_
      clear f1 f2 f3 q0 q1 q2 q3
      go_wp2
      go_roundw
      case rel => exact ⟨j + 1, by omega, by go_num, X10.out.trans (XX1.out.below.mono X10.out.size)⟩
      case measure => simp [intOf]; omega
    · obtain rfl : j = k := by omega
      have eg : ∀ args w, (callFunc 23 args).run Try.prog w = .ok (.enter 23 args) w := enters_of Try.func23 (by kernel_rfl) rfl
      have EG := Lib.hid eg
      have X9 := Lib.hid (X8.out.trans (hx.mono X8.out.size))
      have BX9 := Lib.hid (BX8.out.below hx BX8.out.lt)
      have BY9 := Lib.hid (BY8.out.below hx BY8.out.lt)
      have HU9 := Lib.hid (HU8.out.below hx)
      have A9 := Lib.hid (A8.out.below hx)
      clear eg hx
      go_wp2_with fail
      refine (containsFunc_any 23 #[.pointer (some ⟨w.heap.size, 0, none⟩), .pointer (some ⟨w.heap.size + 1, 0, none⟩)] (fun s => (s.getLsbD x != s.getLsbD y)) _ l _ HU9.out.1 (by have := HM.out; omega) EG.out (fun s W hW => (apartB_any s x y hx hy w.heap.size (w.heap.size + 1) W (BX9.out.below hW BX9.out.lt) (BY9.out.below hW BY9.out.lt)).mono fun e w' ⟨h1, h2⟩ => ⟨h1, h2.below⟩)).mono ?_
      rintro e w10 ⟨rfl, hx10⟩
      rw [FAl.out]
      have X10 := Lib.hid (X9.out.trans (hx10.mono X9.out.size))
      have bx := BX9.out.below hx10 BX9.out.lt
      have by' := BY9.out.below hx10 BY9.out.lt
      have A10 := Lib.hid (A9.out.below hx10)
      have HCx := Lib.hid fun W h => class_any (.pointer (some ⟨b, 0, none⟩)) W0.heap.size p x hx W h
      have HCy := Lib.hid fun W h => class_any (.pointer (some ⟨b, 0, none⟩)) W0.heap.size p y hy W h
      clear hx10
      generalize cls p x = kx at *
      generalize cls p y = ky at *
      have hbx : w.heap.size < w10.heap.size := bx.lt
      have hby : w.heap.size + 1 < w10.heap.size := by'.lt
      by_cases hxy : kx = ky
      · subst hxy
        rw [show (!decide (kx = kx)) = false from by simp]
        go_wp2
        refine wp_region_lexK (fun x => x < w10.heap.size) (by kernel_rfl) (fun i => i == 3 || i == 6) (by kernel_rfl) ?_
        intro C hC hne W0 hK0 hblk hsz hx0
        have HC := Lib.hid hC
        have HK0 := Lib.hid hK0
        have HX0 := Lib.hid hx0
        refine Later.out ?_
        have f1 := lexCell hC (p := ⟨w.heap.size, 0, none⟩) hbx (bx.cell 0)
        have f2 := lexCell hC (p := ⟨w.heap.size + 1, 0, none⟩) hby (by'.cell 0)
        clear hC hK0 hblk hsz hx0 bx by'
        repeat (refine laterStep (fun K hK => ?_); first | (refine lexN rfl ?_; try go_simp; refine hK _ _ ?_; clear hK K) | (refine lexF rfl rfl ?_; unfold floatAt; go_simp; refine hK _ _ ?_; clear hK K))
        refine laterStep (fun K hK => ?_)
        refine lexE rfl rfl ?_
        go_simp
        refine effAt_call ((HCx.out _ (A10.out.keeps HK0.out (fun _ _ h => h))).mono ?_)
        rintro e w12 ⟨rfl, hw⟩
        replace hw := hw.symm
        subst hw
        have hk1 := HK0.out
        refine ⟨_, rfl, (HC.out _).2 hk1, hK _ _ ?_⟩
        have HK1 := Lib.hid hk1
        clear hK K hk1
        repeat (refine laterStep (fun K hK => ?_); first | (refine lexN rfl ?_; try go_simp; refine hK _ _ ?_; clear hK K) | (refine lexF rfl rfl ?_; unfold floatAt; go_simp; refine hK _ _ ?_; clear hK K))
        refine laterStep (fun K hK => ?_)
        refine lexE rfl rfl ?_
        go_simp
        refine effAt_call ((HCy.out _ (A10.out.keeps HK0.out (fun _ _ h => h))).mono ?_)
        rintro e w12 ⟨rfl, hw⟩
        replace hw := hw.symm
        subst hw
        have hk2 := HK0.out
        refine ⟨_, rfl, (HC.out _).2 hk2, hK _ _ ?_⟩
        have HK2 := Lib.hid hk2
        clear hK K hk2
        repeat (refine laterStep (fun K hK => ?_); first | (refine lexN rfl ?_; try go_simp; refine hK _ _ ?_; clear hK K) | (refine lexF rfl rfl ?_; unfold floatAt; go_simp; refine hK _ _ ?_; clear hK K))
        refine laterNil ?_
        clear f1 f2
        go_wp2
        go_ret
        exact ⟨rfl, X10.out.trans (HX0.out.below.mono X10.out.size)⟩
      · have hd1 : decide (kx = ky) = false := decide_eq_false hxy
        have hd2 : (((kx : Int)) == (ky : Int)) = false := by rw [beq_eq_false_iff_ne]; omega
        have hd3 : decide ((kx : Int) = (ky : Int)) = false := decide_eq_false (by omega)
        have hd4 : (kx == ky) = false := by rw [beq_eq_false_iff_ne]; exact hxy
        rw [hd1]
        go_wp2
        refine wp_region_lexK (fun x => x < w10.heap.size) (by kernel_rfl) (fun i => i == 3 || i == 6) (by kernel_rfl) ?_
        intro C hC hne W0 hK0 hblk hsz hx0
        have HC := Lib.hid hC
        have HK0 := Lib.hid hK0
        have HX0 := Lib.hid hx0
        refine Later.out ?_
        have f1 := lexCell hC (p := ⟨w.heap.size, 0, none⟩) hbx (bx.cell 0)
        have f2 := lexCell hC (p := ⟨w.heap.size + 1, 0, none⟩) hby (by'.cell 0)
        clear hC hK0 hblk hsz hx0 bx by'
        repeat (refine laterStep (fun K hK => ?_); first | (refine lexN rfl ?_; try go_simp; refine hK _ _ ?_; clear hK K) | (refine lexF rfl rfl ?_; unfold floatAt; go_simp; refine hK _ _ ?_; clear hK K))
        refine laterStep (fun K hK => ?_)
        refine lexE rfl rfl ?_
        go_simp
        refine effAt_call ((HCx.out _ (A10.out.keeps HK0.out (fun _ _ h => h))).mono ?_)
        rintro e w12 ⟨rfl, hw⟩
        replace hw := hw.symm
        subst hw
        have hk1 := HK0.out
        refine ⟨_, rfl, (HC.out _).2 hk1, hK _ _ ?_⟩
        have HK1 := Lib.hid hk1
        clear hK K hk1
        repeat (refine laterStep (fun K hK => ?_); first | (refine lexN rfl ?_; try go_simp; refine hK _ _ ?_; clear hK K) | (refine lexF rfl rfl ?_; unfold floatAt; go_simp; refine hK _ _ ?_; clear hK K))
        refine laterStep (fun K hK => ?_)
        refine lexE rfl rfl ?_
        go_simp
        refine effAt_call ((HCy.out _ (A10.out.keeps HK0.out (fun _ _ h => h))).mono ?_)
        rintro e w12 ⟨rfl, hw⟩
        replace hw := hw.symm
        subst hw
        have hk2 := HK0.out
        refine ⟨_, rfl, (HC.out _).2 hk2, hK _ _ ?_⟩
        have HK2 := Lib.hid hk2
        clear hK K hk2
        repeat (refine laterStep (fun K hK => ?_); first | (refine lexN rfl ?_; try go_simp; refine hK _ _ ?_; clear hK K) | (refine lexF rfl rfl ?_; unfold floatAt; go_simp; refine hK _ _ ?_; clear hK K))
        refine laterNil ?_
        clear f1 f2
        go_wp2
        go_ret
        exact ⟨rfl, X10.out.trans (HX0.out.below.mono X10.out.size)⟩
end Go.Proofs.Ytokkgbcjjaiaeaa
