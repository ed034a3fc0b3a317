/-
  The law ProductSmall, walked.
-/
import Derived.Test.YtiegfnmpknmbmaaGreatK53
import Derived.Test.YtiegfnmpknmbmaaGreatK48
namespace Go.Proofs.YtiegfnmpknmbmaaGreat
open Go Go.RowKit Go.Shelf Go.Maps
attribute [local go_sem] encS

theorem tmod2_nat (a b : Nat) (hb : 0 < b) : ∃ x : Nat, x < b ∧ ((a : Int)).tmod (b : Int) = (x : Int) := ⟨a % b, Nat.mod_lt _ hb, by rw [Int.tmod_eq_emod_of_nonneg (by omega)]; rfl⟩
set_option maxRecDepth 100000 in
set_option maxHeartbeats 8000000 in
theorem productSmall_any (w : World) : Calls Tryz.prog 5 #[] w fun e w' => e = .returned (.bool true) ∧ Below w.heap.size w w' := by
  have AW : Hid (∀ W, Calls Tryz.prog 8 #[] W fun e w' => e = .returned (.bool true) ∧ Below W.heap.size W w') := Lib.hid fun W => awakeP_any W
  have MK : Hid (∀ W (v v' : Value) (a b : DF) (op : Nat) (f : Int), IsDf W v a → IsDf W v' b → Sm a → Sm b → op < 256 → Calls Tryz.prog 7 #[v, v', .int .u8 op, .int .i64 f] W fun e w' => e = .returned (.bool true) ∧ Below W.heap.size W w') := Lib.hid fun W v v' a b op f h h' sa sb hop => makes_any v v' a b sa sb op hop f W h.e h'.e
  have TL : Hid (∀ W (v : Value) (a : DF) (n m : Int), IsDf W v a → Sm a → Calls Tryz.prog 9 #[v, .int .i64 n, .int .i64 m] W fun e w' => e = .returned (.bool true) ∧ Below W.heap.size W w') := Lib.hid fun W v a n m h sa => tells_any v a sa n m W h.e
  have CR : Hid (∀ W (n : Nat), 1 ≤ n → n ≤ 1000 → Calls Tryz.prog 12 #[.int .i64 n] W fun e w' => ∃ d, DfOut e w' d ∧ Sm d ∧ Below W.heap.size W w') := Lib.hid fun W n h1 h2 => (rounds_any n h1 h2 W).mono fun e w' ⟨u, he, hd, hx⟩ => by
    obtain ⟨a0, n0, c0, a1, n1, c1, a2, n2, c2, rfl⟩ := hd.form3
    exact ⟨_, ⟨_, _, _, _, _, _, _, _, _, he, hd⟩, rounds_sm n h2, hx⟩
  have CX : Hid (∀ W (s : ByteArray) (l : List Nat), s.data.toList.map (·.toNat) = l → l.length ≤ 1000000 → Calls Tryz.prog 10 #[.string s] W fun e w' => ∃ x : BS, e = .returned (.agg (encS x)) ∧ Below W.heap.size W w') := Lib.hid fun W s l h1 h2 => (others_any s l h1 h2 W).mono fun e w' ⟨he, hx⟩ => ⟨_, he, hx⟩
  have CY : Hid (∀ W (s : ByteArray) (l : List Nat), s.data.toList.map (·.toNat) = l → l.length ≤ 1000000 → Calls Tryz.prog 11 #[.string s] W fun e w' => ∃ x : BS, e = .returned (.agg (encS x)) ∧ Below W.heap.size W w') := Lib.hid fun W s l h1 h2 => (letter_any s l h1 h2 W).mono fun e w' ⟨he, hx⟩ => ⟨_, he, hx⟩
  have X : Hid (Below w.heap.size w w) := Lib.hid (Below.refl _ _)
  go_enter Tryz.func5, Tryz.ntmps5
  go_wp2_with fail
  refine (CX.out w ⟨#[97, 98]⟩ [97, 98] rfl (by decide)).mono ?_
  rintro e w1 ⟨t1, rfl, hx⟩
  replace X := Lib.hid (X.out.trans (hx.mono X.out.size))
  clear hx
  go_wp2_with fail
  refine (CY.out w1 ⟨#[97]⟩ [97] rfl (by decide)).mono ?_
  rintro e w2 ⟨t2, rfl, hx⟩
  replace X := Lib.hid (X.out.trans (hx.mono X.out.size))
  clear hx
  go_wp2_with fail
  refine (CY.out w2 ⟨#[98]⟩ [98] rfl (by decide)).mono ?_
  rintro e w3 ⟨t3, rfl, hx⟩
  replace X := Lib.hid (X.out.trans (hx.mono X.out.size))
  clear hx
  skip --A1
  go_wp2_with fail
  refine calls_named ?_
  intro V0 hV0
  have hb : Below w3.heap.size w3 V0 := by rw [hV0]; exact ((Ext.refl w3).alloc _).below
  have hk : Blk V0 (w3.heap.size) #[.int .u64 (wd t1 0).toNat, .int .u64 (wd t1 1).toNat, .int .u64 (wd t1 2).toNat, .int .u64 (wd t1 3).toNat, .int .u64 (wd t2 0).toNat, .int .u64 (wd t2 1).toNat, .int .u64 (wd t2 2).toNat, .int .u64 (wd t2 3).toNat, .int .u64 (wd t3 0).toNat, .int .u64 (wd t3 1).toNat, .int .u64 (wd t3 2).toNat, .int .u64 (wd t3 3).toNat] 33 := by rw [hV0]; exact (Blk.new _ _ _).at (by simp)
  have AB : Hid (IsSetsC V0 (.slice (some ⟨w3.heap.size, 0, none⟩) 3 3) [t1, t2, t3]) := Lib.hid (isSetsC_of [t1, t2, t3] hk rfl rfl)
  replace X := Lib.hid (X.out.trans (hb.mono X.out.size))
  clear hb hV0 hk
  skip --A2
  refine (CR.out V0 1 (by decide) (by decide)).mono ?_
  rintro e w4 ⟨d1, ⟨pa0, pn0, pc0, pa1, pn1, pc1, pa2, pn2, pc2, rfl, hd⟩, sm1, hx⟩
  replace X := Lib.hid (X.out.trans (hx.mono X.out.size))
  replace AB := Lib.hid (⟨AB.out.1.below hx, AB.out.2⟩ : IsSetsC _ _ _)
  have D1 := Lib.hid hd
  have S1 := Lib.hid sm1
  clear hx hd sm1
  go_wp2_with fail
  refine (CR.out w4 2 (by decide) (by decide)).mono ?_
  rintro e w5 ⟨d2, ⟨qa0, qn0, qc0, qa1, qn1, qc1, qa2, qn2, qc2, rfl, hd⟩, sm2, hx⟩
  replace X := Lib.hid (X.out.trans (hx.mono X.out.size))
  replace AB := Lib.hid (⟨AB.out.1.below hx, AB.out.2⟩ : IsSetsC _ _ _)
  replace D1 := Lib.hid (D1.out.below hx)
  have D2 := Lib.hid hd
  have S2 := Lib.hid sm2
  clear hx hd sm2
  go_wp2_with fail
  refine (CR.out w5 3 (by decide) (by decide)).mono ?_
  rintro e w6 ⟨d3, ⟨ra0, rn0, rc0, ra1, rn1, rc1, ra2, rn2, rc2, rfl, hd⟩, sm3, hx⟩
  replace X := Lib.hid (X.out.trans (hx.mono X.out.size))
  replace AB := Lib.hid (⟨AB.out.1.below hx, AB.out.2⟩ : IsSetsC _ _ _)
  replace D1 := Lib.hid (D1.out.below hx)
  replace D2 := Lib.hid (D2.out.below hx)
  have D3 := Lib.hid hd
  have S3 := Lib.hid sm3
  clear hx hd sm3
  go_wp2_with fail
  refine (CR.out w6 5 (by decide) (by decide)).mono ?_
  rintro e w7 ⟨d4, ⟨sa0, sn0, sc0, sa1, sn1, sc1, sa2, sn2, sc2, rfl, hd⟩, sm4, hx⟩
  replace X := Lib.hid (X.out.trans (hx.mono X.out.size))
  replace AB := Lib.hid (⟨AB.out.1.below hx, AB.out.2⟩ : IsSetsC _ _ _)
  replace D1 := Lib.hid (D1.out.below hx)
  replace D2 := Lib.hid (D2.out.below hx)
  replace D3 := Lib.hid (D3.out.below hx)
  have D4 := Lib.hid hd
  have S4 := Lib.hid sm4
  clear hx hd sm4
  clear CR
  skip --A3
  go_wp2_with fail
  refine calls_named ?_
  intro V1 hV1
  have hb : Below w7.heap.size w7 V1 := by rw [hV1]; exact ((((((((((((((((((((Ext.refl w7).alloc _).alloc _).alloc _).alloc _).alloc _).alloc _).alloc _).alloc _).alloc _).alloc _).alloc _).alloc _).alloc _).alloc _).alloc _).alloc _).alloc _).alloc _).alloc _).below
  replace X := Lib.hid (X.out.trans (hb.mono X.out.size))
  replace AB := Lib.hid (⟨AB.out.1.below hb, AB.out.2⟩ : IsSetsC _ _ _)
  replace D1 := Lib.hid (D1.out.below hb)
  replace D2 := Lib.hid (D2.out.below hb)
  replace D3 := Lib.hid (D3.out.below hb)
  replace D4 := Lib.hid (D4.out.below hb)
  clear hb
  have hk : Blk V1 (w7.heap.size) #[.int .i64 0, .int .i64 1, .int .i64 0] 3 := by rw [hV1]; exact (((((((((((((((((((Blk.new _ _ _).at (by simp)).alloc _).alloc _).alloc _).alloc _).alloc _).alloc _).alloc _).alloc _).alloc _).alloc _).alloc _).alloc _).alloc _).alloc _).alloc _).alloc _).alloc _).alloc _
  have R0 : IsSl encZ V1 (.slice (some ⟨w7.heap.size, 0, none⟩) 3 3) [0, 1, 0] := row_of [0, 1, 0] hk rfl rfl
  clear hk
  have hk : Blk V1 (w7.heap.size + 1) #[.int .i64 0, .int .i64 1, .int .i64 2] 3 := by rw [hV1]; exact ((((((((((((((((((Blk.new _ _ _).at (by simp)).alloc _).alloc _).alloc _).alloc _).alloc _).alloc _).alloc _).alloc _).alloc _).alloc _).alloc _).alloc _).alloc _).alloc _).alloc _).alloc _).alloc _
  have R1 : IsSl encZ V1 (.slice (some ⟨w7.heap.size + 1, 0, none⟩) 3 3) [0, 1, 2] := row_of [0, 1, 2] hk rfl rfl
  clear hk
  have hk : Blk V1 (w7.heap.size + 1 + 1) #[.int .i64 2, .int .i64 2, .int .i64 2] 3 := by rw [hV1]; exact (((((((((((((((((Blk.new _ _ _).at (by simp)).alloc _).alloc _).alloc _).alloc _).alloc _).alloc _).alloc _).alloc _).alloc _).alloc _).alloc _).alloc _).alloc _).alloc _).alloc _).alloc _
  have R2 : IsSl encZ V1 (.slice (some ⟨w7.heap.size + 1 + 1, 0, none⟩) 3 3) [2, 2, 2] := row_of [2, 2, 2] hk rfl rfl
  clear hk
  have hk : Blk V1 (w7.heap.size + 1 + 1 + 1) #[.slice (some ⟨w7.heap.size, 0, none⟩) 3 3, .slice (some ⟨w7.heap.size + 1, 0, none⟩) 3 3, .slice (some ⟨w7.heap.size + 1 + 1, 0, none⟩) 3 3] 36 := by rw [hV1]; exact ((((((((((((((((Blk.new _ _ _).at (by simp)).alloc _).alloc _).alloc _).alloc _).alloc _).alloc _).alloc _).alloc _).alloc _).alloc _).alloc _).alloc _).alloc _).alloc _).alloc _
  have R3 : IsLL V1 (.slice (some ⟨w7.heap.size + 1 + 1 + 1, 0, none⟩) 3 3) [[0, 1, 0], [0, 1, 2], [2, 2, 2]] := isLL_of [.slice (some ⟨w7.heap.size, 0, none⟩) 3 3, .slice (some ⟨w7.heap.size + 1, 0, none⟩) 3 3, .slice (some ⟨w7.heap.size + 1 + 1, 0, none⟩) 3 3] hk rfl rfl ⟨R0, R1, R2, trivial⟩
  clear hk
  have hk : Blk V1 (w7.heap.size + 1 + 1 + 1 + 1) #[.int .i64 3, .int .i64 7] 3 := by rw [hV1]; exact (((((((((((((((Blk.new _ _ _).at (by simp)).alloc _).alloc _).alloc _).alloc _).alloc _).alloc _).alloc _).alloc _).alloc _).alloc _).alloc _).alloc _).alloc _).alloc _
  have R4 : IsSl encZ V1 (.slice (some ⟨w7.heap.size + 1 + 1 + 1 + 1, 0, none⟩) 2 2) [3, 7] := row_of [3, 7] hk rfl rfl
  clear hk
  have hk : Blk V1 (w7.heap.size + 1 + 1 + 1 + 1 + 1) #[.slice none 0 0, .slice none 0 0, .slice (some ⟨w7.heap.size + 1 + 1 + 1 + 1, 0, none⟩) 2 2] 36 := by rw [hV1]; exact ((((((((((((((Blk.new _ _ _).at (by simp)).alloc _).alloc _).alloc _).alloc _).alloc _).alloc _).alloc _).alloc _).alloc _).alloc _).alloc _).alloc _).alloc _
  have R5 : IsLL V1 (.slice (some ⟨w7.heap.size + 1 + 1 + 1 + 1 + 1, 0, none⟩) 3 3) [[], [], [3, 7]] := isLL_of [.slice none 0 0, .slice none 0 0, .slice (some ⟨w7.heap.size + 1 + 1 + 1 + 1, 0, none⟩) 2 2] hk rfl rfl ⟨row_nil, row_nil, R4, trivial⟩
  clear hk
  have hk : Blk V1 (w7.heap.size + 1 + 1 + 1 + 1 + 1 + 1) #[.int .i64 1, .int .i64 0, .int .i64 0] 3 := by rw [hV1]; exact (((((((((((((Blk.new _ _ _).at (by simp)).alloc _).alloc _).alloc _).alloc _).alloc _).alloc _).alloc _).alloc _).alloc _).alloc _).alloc _).alloc _
  have R6 : IsSl encZ V1 (.slice (some ⟨w7.heap.size + 1 + 1 + 1 + 1 + 1 + 1, 0, none⟩) 3 3) [1, 0, 0] := row_of [1, 0, 0] hk rfl rfl
  clear hk
  have hk : Blk V1 (w7.heap.size + 1 + 1 + 1 + 1 + 1 + 1 + 1) #[.int .i64 1, .int .i64 1, .int .i64 1] 3 := by rw [hV1]; exact ((((((((((((Blk.new _ _ _).at (by simp)).alloc _).alloc _).alloc _).alloc _).alloc _).alloc _).alloc _).alloc _).alloc _).alloc _).alloc _
  have R7 : IsSl encZ V1 (.slice (some ⟨w7.heap.size + 1 + 1 + 1 + 1 + 1 + 1 + 1, 0, none⟩) 3 3) [1, 1, 1] := row_of [1, 1, 1] hk rfl rfl
  clear hk
  have hk : Blk V1 (w7.heap.size + 1 + 1 + 1 + 1 + 1 + 1 + 1 + 1) #[.slice (some ⟨w7.heap.size + 1 + 1 + 1 + 1 + 1 + 1, 0, none⟩) 3 3, .slice (some ⟨w7.heap.size + 1 + 1 + 1 + 1 + 1 + 1 + 1, 0, none⟩) 3 3] 36 := by rw [hV1]; exact (((((((((((Blk.new _ _ _).at (by simp)).alloc _).alloc _).alloc _).alloc _).alloc _).alloc _).alloc _).alloc _).alloc _).alloc _
  have R8 : IsLL V1 (.slice (some ⟨w7.heap.size + 1 + 1 + 1 + 1 + 1 + 1 + 1 + 1, 0, none⟩) 2 2) [[1, 0, 0], [1, 1, 1]] := isLL_of [.slice (some ⟨w7.heap.size + 1 + 1 + 1 + 1 + 1 + 1, 0, none⟩) 3 3, .slice (some ⟨w7.heap.size + 1 + 1 + 1 + 1 + 1 + 1 + 1, 0, none⟩) 3 3] hk rfl rfl ⟨R6, R7, trivial⟩
  clear hk
  have hk : Blk V1 (w7.heap.size + 1 + 1 + 1 + 1 + 1 + 1 + 1 + 1 + 1) #[.int .i64 0] 3 := by rw [hV1]; exact ((((((((((Blk.new _ _ _).at (by simp)).alloc _).alloc _).alloc _).alloc _).alloc _).alloc _).alloc _).alloc _).alloc _
  have R9 : IsSl encZ V1 (.slice (some ⟨w7.heap.size + 1 + 1 + 1 + 1 + 1 + 1 + 1 + 1 + 1, 0, none⟩) 1 1) [0] := row_of [0] hk rfl rfl
  clear hk
  have hk : Blk V1 (w7.heap.size + 1 + 1 + 1 + 1 + 1 + 1 + 1 + 1 + 1 + 1) #[.slice (some ⟨w7.heap.size + 1 + 1 + 1 + 1 + 1 + 1 + 1 + 1 + 1, 0, none⟩) 1 1, .slice none 0 0] 36 := by rw [hV1]; exact (((((((((Blk.new _ _ _).at (by simp)).alloc _).alloc _).alloc _).alloc _).alloc _).alloc _).alloc _).alloc _
  have R10 : IsLL V1 (.slice (some ⟨w7.heap.size + 1 + 1 + 1 + 1 + 1 + 1 + 1 + 1 + 1 + 1, 0, none⟩) 2 2) [[0], []] := isLL_of [.slice (some ⟨w7.heap.size + 1 + 1 + 1 + 1 + 1 + 1 + 1 + 1 + 1, 0, none⟩) 1 1, .slice none 0 0] hk rfl rfl ⟨R9, row_nil, trivial⟩
  clear hk
  have hk : Blk V1 (w7.heap.size + 1 + 1 + 1 + 1 + 1 + 1 + 1 + 1 + 1 + 1 + 1) #[.int .i64 1, .int .i64 2, .int .i64 2] 3 := by rw [hV1]; exact ((((((((Blk.new _ _ _).at (by simp)).alloc _).alloc _).alloc _).alloc _).alloc _).alloc _).alloc _
  have R11 : IsSl encZ V1 (.slice (some ⟨w7.heap.size + 1 + 1 + 1 + 1 + 1 + 1 + 1 + 1 + 1 + 1 + 1, 0, none⟩) 3 3) [1, 2, 2] := row_of [1, 2, 2] hk rfl rfl
  clear hk
  have hk : Blk V1 (w7.heap.size + 1 + 1 + 1 + 1 + 1 + 1 + 1 + 1 + 1 + 1 + 1 + 1) #[.int .i64 0, .int .i64 0, .int .i64 1] 3 := by rw [hV1]; exact (((((((Blk.new _ _ _).at (by simp)).alloc _).alloc _).alloc _).alloc _).alloc _).alloc _
  have R12 : IsSl encZ V1 (.slice (some ⟨w7.heap.size + 1 + 1 + 1 + 1 + 1 + 1 + 1 + 1 + 1 + 1 + 1 + 1, 0, none⟩) 3 3) [0, 0, 1] := row_of [0, 0, 1] hk rfl rfl
  clear hk
  have hk : Blk V1 (w7.heap.size + 1 + 1 + 1 + 1 + 1 + 1 + 1 + 1 + 1 + 1 + 1 + 1 + 1) #[.int .i64 2, .int .i64 1, .int .i64 0] 3 := by rw [hV1]; exact ((((((Blk.new _ _ _).at (by simp)).alloc _).alloc _).alloc _).alloc _).alloc _
  have R13 : IsSl encZ V1 (.slice (some ⟨w7.heap.size + 1 + 1 + 1 + 1 + 1 + 1 + 1 + 1 + 1 + 1 + 1 + 1 + 1, 0, none⟩) 3 3) [2, 1, 0] := row_of [2, 1, 0] hk rfl rfl
  clear hk
  have hk : Blk V1 (w7.heap.size + 1 + 1 + 1 + 1 + 1 + 1 + 1 + 1 + 1 + 1 + 1 + 1 + 1 + 1) #[.int .i64 3, .int .i64 3, .int .i64 0] 3 := by rw [hV1]; exact (((((Blk.new _ _ _).at (by simp)).alloc _).alloc _).alloc _).alloc _
  have R14 : IsSl encZ V1 (.slice (some ⟨w7.heap.size + 1 + 1 + 1 + 1 + 1 + 1 + 1 + 1 + 1 + 1 + 1 + 1 + 1 + 1, 0, none⟩) 3 3) [3, 3, 0] := row_of [3, 3, 0] hk rfl rfl
  clear hk
  have hk : Blk V1 (w7.heap.size + 1 + 1 + 1 + 1 + 1 + 1 + 1 + 1 + 1 + 1 + 1 + 1 + 1 + 1 + 1) #[.slice (some ⟨w7.heap.size + 1 + 1 + 1 + 1 + 1 + 1 + 1 + 1 + 1 + 1 + 1, 0, none⟩) 3 3, .slice (some ⟨w7.heap.size + 1 + 1 + 1 + 1 + 1 + 1 + 1 + 1 + 1 + 1 + 1 + 1, 0, none⟩) 3 3, .slice (some ⟨w7.heap.size + 1 + 1 + 1 + 1 + 1 + 1 + 1 + 1 + 1 + 1 + 1 + 1 + 1, 0, none⟩) 3 3, .slice (some ⟨w7.heap.size + 1 + 1 + 1 + 1 + 1 + 1 + 1 + 1 + 1 + 1 + 1 + 1 + 1 + 1, 0, none⟩) 3 3] 36 := by rw [hV1]; exact ((((Blk.new _ _ _).at (by simp)).alloc _).alloc _).alloc _
  have R15 : IsLL V1 (.slice (some ⟨w7.heap.size + 1 + 1 + 1 + 1 + 1 + 1 + 1 + 1 + 1 + 1 + 1 + 1 + 1 + 1 + 1, 0, none⟩) 4 4) [[1, 2, 2], [0, 0, 1], [2, 1, 0], [3, 3, 0]] := isLL_of [.slice (some ⟨w7.heap.size + 1 + 1 + 1 + 1 + 1 + 1 + 1 + 1 + 1 + 1 + 1, 0, none⟩) 3 3, .slice (some ⟨w7.heap.size + 1 + 1 + 1 + 1 + 1 + 1 + 1 + 1 + 1 + 1 + 1 + 1, 0, none⟩) 3 3, .slice (some ⟨w7.heap.size + 1 + 1 + 1 + 1 + 1 + 1 + 1 + 1 + 1 + 1 + 1 + 1 + 1, 0, none⟩) 3 3, .slice (some ⟨w7.heap.size + 1 + 1 + 1 + 1 + 1 + 1 + 1 + 1 + 1 + 1 + 1 + 1 + 1 + 1, 0, none⟩) 3 3] hk rfl rfl ⟨R11, R12, R13, R14, trivial⟩
  clear hk
  have hk : Blk V1 (w7.heap.size + 1 + 1 + 1 + 1 + 1 + 1 + 1 + 1 + 1 + 1 + 1 + 1 + 1 + 1 + 1 + 1) #[.int .i64 255] 3 := by rw [hV1]; exact (((Blk.new _ _ _).at (by simp)).alloc _).alloc _
  have R16 : IsSl encZ V1 (.slice (some ⟨w7.heap.size + 1 + 1 + 1 + 1 + 1 + 1 + 1 + 1 + 1 + 1 + 1 + 1 + 1 + 1 + 1 + 1, 0, none⟩) 1 1) [255] := row_of [255] hk rfl rfl
  clear hk
  have hk : Blk V1 (w7.heap.size + 1 + 1 + 1 + 1 + 1 + 1 + 1 + 1 + 1 + 1 + 1 + 1 + 1 + 1 + 1 + 1 + 1) #[.int .i64 1] 3 := by rw [hV1]; exact ((Blk.new _ _ _).at (by simp)).alloc _
  have R17 : IsSl encZ V1 (.slice (some ⟨w7.heap.size + 1 + 1 + 1 + 1 + 1 + 1 + 1 + 1 + 1 + 1 + 1 + 1 + 1 + 1 + 1 + 1 + 1, 0, none⟩) 1 1) [1] := row_of [1] hk rfl rfl
  clear hk
  have hk : Blk V1 (w7.heap.size + 1 + 1 + 1 + 1 + 1 + 1 + 1 + 1 + 1 + 1 + 1 + 1 + 1 + 1 + 1 + 1 + 1 + 1) #[.slice none 0 0, .slice (some ⟨w7.heap.size + 1 + 1 + 1 + 1 + 1 + 1 + 1 + 1 + 1 + 1 + 1 + 1 + 1 + 1 + 1 + 1, 0, none⟩) 1 1, .slice none 0 0, .slice (some ⟨w7.heap.size + 1 + 1 + 1 + 1 + 1 + 1 + 1 + 1 + 1 + 1 + 1 + 1 + 1 + 1 + 1 + 1 + 1, 0, none⟩) 1 1] 36 := by rw [hV1]; exact (Blk.new _ _ _).at (by simp)
  have R18 : IsLL V1 (.slice (some ⟨w7.heap.size + 1 + 1 + 1 + 1 + 1 + 1 + 1 + 1 + 1 + 1 + 1 + 1 + 1 + 1 + 1 + 1 + 1 + 1, 0, none⟩) 4 4) [[], [255], [], [1]] := isLL_of [.slice none 0 0, .slice (some ⟨w7.heap.size + 1 + 1 + 1 + 1 + 1 + 1 + 1 + 1 + 1 + 1 + 1 + 1 + 1 + 1 + 1 + 1, 0, none⟩) 1 1, .slice none 0 0, .slice (some ⟨w7.heap.size + 1 + 1 + 1 + 1 + 1 + 1 + 1 + 1 + 1 + 1 + 1 + 1 + 1 + 1 + 1 + 1 + 1, 0, none⟩) 1 1] hk rfl rfl ⟨row_nil, R16, row_nil, R17, trivial⟩
  clear hk
  have D5 : Hid (IsDf V1 (.agg #[.slice (some ⟨w3.heap.size, 0, none⟩) 3 3, .slice (some ⟨w7.heap.size + 1 + 1 + 1, 0, none⟩) 3 3, .slice (some ⟨w7.heap.size + 1 + 1 + 1 + 1 + 1, 0, none⟩) 3 3]) ⟨[t1, t2, t3], [[0, 1, 0], [0, 1, 2], [2, 2, 2]], [[], [], [3, 7]]⟩) := Lib.hid ⟨_, _, _, rfl, AB.out, R3, R5⟩
  have S5 : Hid (Sm ⟨[t1, t2, t3], [[0, 1, 0], [0, 1, 2], [2, 2, 2]], [[], [], [3, 7]]⟩) := Lib.hid ⟨by simp, by simp, by simp, by simp, by simp⟩
  have D6 : Hid (IsDf V1 (.agg #[.slice (some ⟨w3.heap.size, 0, none⟩) 3 3, .slice (some ⟨w7.heap.size + 1 + 1 + 1 + 1 + 1 + 1 + 1 + 1, 0, none⟩) 2 2, .slice (some ⟨w7.heap.size + 1 + 1 + 1 + 1 + 1 + 1 + 1 + 1 + 1 + 1, 0, none⟩) 2 2]) ⟨[t1, t2, t3], [[1, 0, 0], [1, 1, 1]], [[0], []]⟩) := Lib.hid ⟨_, _, _, rfl, AB.out, R8, R10⟩
  have S6 : Hid (Sm ⟨[t1, t2, t3], [[1, 0, 0], [1, 1, 1]], [[0], []]⟩) := Lib.hid ⟨by simp, by simp, by simp, by simp, by simp⟩
  have D7 : Hid (IsDf V1 (.agg #[.slice (some ⟨w3.heap.size, 0, none⟩) 3 3, .slice (some ⟨w7.heap.size + 1 + 1 + 1 + 1 + 1 + 1 + 1 + 1 + 1 + 1 + 1 + 1 + 1 + 1 + 1, 0, none⟩) 4 4, .slice (some ⟨w7.heap.size + 1 + 1 + 1 + 1 + 1 + 1 + 1 + 1 + 1 + 1 + 1 + 1 + 1 + 1 + 1 + 1 + 1 + 1, 0, none⟩) 4 4]) ⟨[t1, t2, t3], [[1, 2, 2], [0, 0, 1], [2, 1, 0], [3, 3, 0]], [[], [255], [], [1]]⟩) := Lib.hid ⟨_, _, _, rfl, AB.out, R15, R18⟩
  have S7 : Hid (Sm ⟨[t1, t2, t3], [[1, 2, 2], [0, 0, 1], [2, 1, 0], [3, 3, 0]], [[], [255], [], [1]]⟩) := Lib.hid ⟨by simp, by simp, by simp, by simp, by simp⟩
  clear hV1 AB R0 R1 R2 R3 R4 R5 R6 R7 R8 R9 R10 R11 R12 R13 R14 R15 R16 R17 R18
  skip --A4
  refine (CX.out V1 ⟨#[]⟩ [] rfl (by decide)).mono ?_
  rintro e w8 ⟨t4, rfl, hx⟩
  replace X := Lib.hid (X.out.trans (hx.mono X.out.size))
  replace D1 := Lib.hid (D1.out.below hx)
  replace D2 := Lib.hid (D2.out.below hx)
  replace D3 := Lib.hid (D3.out.below hx)
  replace D4 := Lib.hid (D4.out.below hx)
  replace D5 := Lib.hid (D5.out.below hx)
  replace D6 := Lib.hid (D6.out.below hx)
  replace D7 := Lib.hid (D7.out.below hx)
  clear hx
  go_wp2_with fail
  refine calls_named ?_
  intro V2 hV2
  have hb : Below w8.heap.size w8 V2 := by rw [hV2]; exact (((((Ext.refl w8).alloc _).alloc _).alloc _).alloc _).below
  replace X := Lib.hid (X.out.trans (hb.mono X.out.size))
  replace D1 := Lib.hid (D1.out.below hb)
  replace D2 := Lib.hid (D2.out.below hb)
  replace D3 := Lib.hid (D3.out.below hb)
  replace D4 := Lib.hid (D4.out.below hb)
  replace D5 := Lib.hid (D5.out.below hb)
  replace D6 := Lib.hid (D6.out.below hb)
  replace D7 := Lib.hid (D7.out.below hb)
  clear hb
  have hs : Blk V2 (w8.heap.size) #[.int .u64 (wd t4 0).toNat, .int .u64 (wd t4 1).toNat, .int .u64 (wd t4 2).toNat, .int .u64 (wd t4 3).toNat] 33 := by rw [hV2]; exact ((((Blk.new _ _ _).at (by simp)).alloc _).alloc _).alloc _
  have HS := isSetsC_of [t4] hs rfl rfl
  have hk : Blk V2 (w8.heap.size + 1) #[.int .i64 0] 3 := by rw [hV2]; exact (((Blk.new _ _ _).at (by simp)).alloc _).alloc _
  have R0 : IsSl encZ V2 (.slice (some ⟨w8.heap.size + 1, 0, none⟩) 1 1) [0] := row_of [0] hk rfl rfl
  clear hk
  have hk : Blk V2 (w8.heap.size + 1 + 1) #[.slice (some ⟨w8.heap.size + 1, 0, none⟩) 1 1] 36 := by rw [hV2]; exact ((Blk.new _ _ _).at (by simp)).alloc _
  have R1 : IsLL V2 (.slice (some ⟨w8.heap.size + 1 + 1, 0, none⟩) 1 1) [[0]] := isLL_of [.slice (some ⟨w8.heap.size + 1, 0, none⟩) 1 1] hk rfl rfl ⟨R0, trivial⟩
  clear hk
  have hk : Blk V2 (w8.heap.size + 1 + 1 + 1) #[.slice none 0 0] 36 := by rw [hV2]; exact (Blk.new _ _ _).at (by simp)
  have R2 : IsLL V2 (.slice (some ⟨w8.heap.size + 1 + 1 + 1, 0, none⟩) 1 1) [[]] := isLL_of [.slice none 0 0] hk rfl rfl ⟨row_nil, trivial⟩
  clear hk
  have D8 : Hid (IsDf V2 (.agg #[.slice (some ⟨w8.heap.size, 0, none⟩) 1 1, .slice (some ⟨w8.heap.size + 1 + 1, 0, none⟩) 1 1, .slice (some ⟨w8.heap.size + 1 + 1 + 1, 0, none⟩) 1 1]) ⟨[t4], [[0]], [[]]⟩) := Lib.hid ⟨_, _, _, rfl, HS, R1, R2⟩
  have S8 : Hid (Sm ⟨[t4], [[0]], [[]]⟩) := Lib.hid ⟨by simp, by simp, by simp, by simp, by simp⟩
  clear hV2 hs HS R0 R1 R2
  refine (CX.out V2 ⟨#[]⟩ [] rfl (by decide)).mono ?_
  rintro e w9 ⟨t5, rfl, hx⟩
  replace X := Lib.hid (X.out.trans (hx.mono X.out.size))
  replace D1 := Lib.hid (D1.out.below hx)
  replace D2 := Lib.hid (D2.out.below hx)
  replace D3 := Lib.hid (D3.out.below hx)
  replace D4 := Lib.hid (D4.out.below hx)
  replace D5 := Lib.hid (D5.out.below hx)
  replace D6 := Lib.hid (D6.out.below hx)
  replace D7 := Lib.hid (D7.out.below hx)
  replace D8 := Lib.hid (D8.out.below hx)
  clear hx
  skip --A5
  go_wp2_with fail
  refine calls_named ?_
  intro V3 hV3
  have hb : Below w9.heap.size w9 V3 := by rw [hV3]; exact ((((((Ext.refl w9).alloc _).alloc _).alloc _).alloc _).alloc _).below
  replace X := Lib.hid (X.out.trans (hb.mono X.out.size))
  replace D1 := Lib.hid (D1.out.below hb)
  replace D2 := Lib.hid (D2.out.below hb)
  replace D3 := Lib.hid (D3.out.below hb)
  replace D4 := Lib.hid (D4.out.below hb)
  replace D5 := Lib.hid (D5.out.below hb)
  replace D6 := Lib.hid (D6.out.below hb)
  replace D7 := Lib.hid (D7.out.below hb)
  replace D8 := Lib.hid (D8.out.below hb)
  clear hb
  have hs : Blk V3 (w9.heap.size) #[.int .u64 (wd t5 0).toNat, .int .u64 (wd t5 1).toNat, .int .u64 (wd t5 2).toNat, .int .u64 (wd t5 3).toNat] 33 := by rw [hV3]; exact (((((Blk.new _ _ _).at (by simp)).alloc _).alloc _).alloc _).alloc _
  have HS := isSetsC_of [t5] hs rfl rfl
  have hk : Blk V3 (w9.heap.size + 1) #[.int .i64 0] 3 := by rw [hV3]; exact ((((Blk.new _ _ _).at (by simp)).alloc _).alloc _).alloc _
  have R0 : IsSl encZ V3 (.slice (some ⟨w9.heap.size + 1, 0, none⟩) 1 1) [0] := row_of [0] hk rfl rfl
  clear hk
  have hk : Blk V3 (w9.heap.size + 1 + 1) #[.slice (some ⟨w9.heap.size + 1, 0, none⟩) 1 1] 36 := by rw [hV3]; exact (((Blk.new _ _ _).at (by simp)).alloc _).alloc _
  have R1 : IsLL V3 (.slice (some ⟨w9.heap.size + 1 + 1, 0, none⟩) 1 1) [[0]] := isLL_of [.slice (some ⟨w9.heap.size + 1, 0, none⟩) 1 1] hk rfl rfl ⟨R0, trivial⟩
  clear hk
  have hk : Blk V3 (w9.heap.size + 1 + 1 + 1) #[.int .i64 9] 3 := by rw [hV3]; exact ((Blk.new _ _ _).at (by simp)).alloc _
  have R2 : IsSl encZ V3 (.slice (some ⟨w9.heap.size + 1 + 1 + 1, 0, none⟩) 1 1) [9] := row_of [9] hk rfl rfl
  clear hk
  have hk : Blk V3 (w9.heap.size + 1 + 1 + 1 + 1) #[.slice (some ⟨w9.heap.size + 1 + 1 + 1, 0, none⟩) 1 1] 36 := by rw [hV3]; exact (Blk.new _ _ _).at (by simp)
  have R3 : IsLL V3 (.slice (some ⟨w9.heap.size + 1 + 1 + 1 + 1, 0, none⟩) 1 1) [[9]] := isLL_of [.slice (some ⟨w9.heap.size + 1 + 1 + 1, 0, none⟩) 1 1] hk rfl rfl ⟨R2, trivial⟩
  clear hk
  have D9 : Hid (IsDf V3 (.agg #[.slice (some ⟨w9.heap.size, 0, none⟩) 1 1, .slice (some ⟨w9.heap.size + 1 + 1, 0, none⟩) 1 1, .slice (some ⟨w9.heap.size + 1 + 1 + 1 + 1, 0, none⟩) 1 1]) ⟨[t5], [[0]], [[9]]⟩) := Lib.hid ⟨_, _, _, rfl, HS, R1, R3⟩
  have S9 : Hid (Sm ⟨[t5], [[0]], [[9]]⟩) := Lib.hid ⟨by simp, by simp, by simp, by simp, by simp⟩
  clear hV3 hs HS R0 R1 R2 R3
  refine (CY.out V3 ⟨#[97, 98]⟩ [97, 98] rfl (by decide)).mono ?_
  rintro e w10 ⟨t6, rfl, hx⟩
  replace X := Lib.hid (X.out.trans (hx.mono X.out.size))
  replace D1 := Lib.hid (D1.out.below hx)
  replace D2 := Lib.hid (D2.out.below hx)
  replace D3 := Lib.hid (D3.out.below hx)
  replace D4 := Lib.hid (D4.out.below hx)
  replace D5 := Lib.hid (D5.out.below hx)
  replace D6 := Lib.hid (D6.out.below hx)
  replace D7 := Lib.hid (D7.out.below hx)
  replace D8 := Lib.hid (D8.out.below hx)
  replace D9 := Lib.hid (D9.out.below hx)
  clear hx
  go_wp2_with fail
  refine (CX.out w10 ⟨#[97, 98]⟩ [97, 98] rfl (by decide)).mono ?_
  rintro e w11 ⟨t7, rfl, hx⟩
  replace X := Lib.hid (X.out.trans (hx.mono X.out.size))
  replace D1 := Lib.hid (D1.out.below hx)
  replace D2 := Lib.hid (D2.out.below hx)
  replace D3 := Lib.hid (D3.out.below hx)
  replace D4 := Lib.hid (D4.out.below hx)
  replace D5 := Lib.hid (D5.out.below hx)
  replace D6 := Lib.hid (D6.out.below hx)
  replace D7 := Lib.hid (D7.out.below hx)
  replace D8 := Lib.hid (D8.out.below hx)
  replace D9 := Lib.hid (D9.out.below hx)
  clear hx
  skip --A6
  clear CX CY
  go_wp2
  skip --A7
  refine wp_named ?_
  intro V4 hV4
  have hb : Below w11.heap.size w11 V4 := by rw [hV4]; exact ((((((Ext.refl w11).alloc _).alloc _).alloc _).alloc _).alloc _).below
  replace X := Lib.hid (X.out.trans (hb.mono X.out.size))
  replace D1 := Lib.hid (D1.out.below hb)
  replace D2 := Lib.hid (D2.out.below hb)
  replace D3 := Lib.hid (D3.out.below hb)
  replace D4 := Lib.hid (D4.out.below hb)
  replace D5 := Lib.hid (D5.out.below hb)
  replace D6 := Lib.hid (D6.out.below hb)
  replace D7 := Lib.hid (D7.out.below hb)
  replace D8 := Lib.hid (D8.out.below hb)
  replace D9 := Lib.hid (D9.out.below hb)
  clear hb
  have hs : Blk V4 (w11.heap.size) #[.int .u64 (wd t6 0).toNat, .int .u64 (wd t6 1).toNat, .int .u64 (wd t6 2).toNat, .int .u64 (wd t6 3).toNat, .int .u64 (wd t7 0).toNat, .int .u64 (wd t7 1).toNat, .int .u64 (wd t7 2).toNat, .int .u64 (wd t7 3).toNat] 33 := by rw [hV4]; exact (((((Blk.new _ _ _).at (by simp)).alloc _).alloc _).alloc _).alloc _
  have HS := isSetsC_of [t6, t7] hs rfl rfl
  have hk : Blk V4 (w11.heap.size + 1) #[.int .i64 0, .int .i64 0] 3 := by rw [hV4]; exact ((((Blk.new _ _ _).at (by simp)).alloc _).alloc _).alloc _
  have R0 : IsSl encZ V4 (.slice (some ⟨w11.heap.size + 1, 0, none⟩) 2 2) [0, 0] := row_of [0, 0] hk rfl rfl
  clear hk
  have hk : Blk V4 (w11.heap.size + 1 + 1) #[.slice (some ⟨w11.heap.size + 1, 0, none⟩) 2 2] 36 := by rw [hV4]; exact (((Blk.new _ _ _).at (by simp)).alloc _).alloc _
  have R1 : IsLL V4 (.slice (some ⟨w11.heap.size + 1 + 1, 0, none⟩) 1 1) [[0, 0]] := isLL_of [.slice (some ⟨w11.heap.size + 1, 0, none⟩) 2 2] hk rfl rfl ⟨R0, trivial⟩
  clear hk
  have hk : Blk V4 (w11.heap.size + 1 + 1 + 1) #[.slice none 0 0] 36 := by rw [hV4]; exact ((Blk.new _ _ _).at (by simp)).alloc _
  have R2 : IsLL V4 (.slice (some ⟨w11.heap.size + 1 + 1 + 1, 0, none⟩) 1 1) [[]] := isLL_of [.slice none 0 0] hk rfl rfl ⟨row_nil, trivial⟩
  clear hk
  have D10 : Hid (IsDf V4 (.agg #[.slice (some ⟨w11.heap.size, 0, none⟩) 2 2, .slice (some ⟨w11.heap.size + 1 + 1, 0, none⟩) 1 1, .slice (some ⟨w11.heap.size + 1 + 1 + 1, 0, none⟩) 1 1]) ⟨[t6, t7], [[0, 0]], [[]]⟩) := Lib.hid ⟨_, _, _, rfl, HS, R1, R2⟩
  have S10 : Hid (Sm ⟨[t6, t7], [[0, 0]], [[]]⟩) := Lib.hid ⟨by simp, by simp, by simp, by simp, by simp⟩
  have hk : Blk V4 (w11.heap.size + 1 + 1 + 1 + 1) #[.slice pa0 pn0 pc0, .slice pa1 pn1 pc1, .slice pa2 pn2 pc2, .slice qa0 qn0 qc0, .slice qa1 qn1 qc1, .slice qa2 qn2 qc2, .slice ra0 rn0 rc0, .slice ra1 rn1 rc1, .slice ra2 rn2 rc2, .slice sa0 sn0 sc0, .slice sa1 sn1 sc1, .slice sa2 sn2 sc2, .slice (some ⟨w3.heap.size, 0, none⟩) 3 3, .slice (some ⟨w7.heap.size + 1 + 1 + 1, 0, none⟩) 3 3, .slice (some ⟨w7.heap.size + 1 + 1 + 1 + 1 + 1, 0, none⟩) 3 3, .slice (some ⟨w3.heap.size, 0, none⟩) 3 3, .slice (some ⟨w7.heap.size + 1 + 1 + 1 + 1 + 1 + 1 + 1 + 1, 0, none⟩) 2 2, .slice (some ⟨w7.heap.size + 1 + 1 + 1 + 1 + 1 + 1 + 1 + 1 + 1 + 1, 0, none⟩) 2 2, .slice (some ⟨w3.heap.size, 0, none⟩) 3 3, .slice (some ⟨w7.heap.size + 1 + 1 + 1 + 1 + 1 + 1 + 1 + 1 + 1 + 1 + 1 + 1 + 1 + 1 + 1, 0, none⟩) 4 4, .slice (some ⟨w7.heap.size + 1 + 1 + 1 + 1 + 1 + 1 + 1 + 1 + 1 + 1 + 1 + 1 + 1 + 1 + 1 + 1 + 1 + 1, 0, none⟩) 4 4, .slice (some ⟨w8.heap.size, 0, none⟩) 1 1, .slice (some ⟨w8.heap.size + 1 + 1, 0, none⟩) 1 1, .slice (some ⟨w8.heap.size + 1 + 1 + 1, 0, none⟩) 1 1, .slice (some ⟨w9.heap.size, 0, none⟩) 1 1, .slice (some ⟨w9.heap.size + 1 + 1, 0, none⟩) 1 1, .slice (some ⟨w9.heap.size + 1 + 1 + 1 + 1, 0, none⟩) 1 1, .slice (some ⟨w11.heap.size, 0, none⟩) 2 2, .slice (some ⟨w11.heap.size + 1 + 1, 0, none⟩) 1 1, .slice (some ⟨w11.heap.size + 1 + 1 + 1, 0, none⟩) 1 1] 25 := by rw [hV4]; exact (Blk.new _ _ _).at (by simp)
  have DR : Hid (DfRow V4 (w11.heap.size + 1 + 1 + 1 + 1) 10) := Lib.hid ⟨_, hk, fun k hk => by
    match k, hk with
    | 0, _ => exact ⟨_, _, _, _, _, _, _, _, _, _, rfl, rfl, rfl, D1.out, S1.out⟩
    | 1, _ => exact ⟨_, _, _, _, _, _, _, _, _, _, rfl, rfl, rfl, D2.out, S2.out⟩
    | 2, _ => exact ⟨_, _, _, _, _, _, _, _, _, _, rfl, rfl, rfl, D3.out, S3.out⟩
    | 3, _ => exact ⟨_, _, _, _, _, _, _, _, _, _, rfl, rfl, rfl, D4.out, S4.out⟩
    | 4, _ => exact ⟨_, _, _, _, _, _, _, _, _, _, rfl, rfl, rfl, D5.out, S5.out⟩
    | 5, _ => exact ⟨_, _, _, _, _, _, _, _, _, _, rfl, rfl, rfl, D6.out, S6.out⟩
    | 6, _ => exact ⟨_, _, _, _, _, _, _, _, _, _, rfl, rfl, rfl, D7.out, S7.out⟩
    | 7, _ => exact ⟨_, _, _, _, _, _, _, _, _, _, rfl, rfl, rfl, D8.out, S8.out⟩
    | 8, _ => exact ⟨_, _, _, _, _, _, _, _, _, _, rfl, rfl, rfl, D9.out, S9.out⟩
    | 9, _ => exact ⟨_, _, _, _, _, _, _, _, _, _, rfl, rfl, rfl, D10.out, S10.out⟩
    | k + 10, h => omega⟩
  clear hV4 hs HS hk R0 R1 R2 D1 S1 D2 S2 D3 S3 D4 S4 D5 S5 D6 S6 D7 S7 D8 S8 D9 S9 D10 S10
  obtain ⟨S, hS⟩ : ∃ S, S = w11.heap.size + 1 + 1 + 1 + 1 := ⟨_, rfl⟩
  rw [← hS] at DR ⊢
  clear hS
  skip --B0
  have B0 : Hid (Bag [Sp.dfrow S 10, Sp.since w] V4) := Lib.hid (((Bag.nil _).cons (s := Sp.since w) X.out).cons (s := Sp.dfrow S 10) DR.out)
  clear X DR
  go_loopw [69] (fun i wr => ∃ d : Nat, d ≤ 10 ∧ i = .int .i64 d ∧ Below V4.heap.size V4 wr) (fun i _ => 10 - (intOf i).toNat)
  case atStart => exact ⟨0, by omega, rfl, Below.refl _ _⟩
  case round =>
    obtain ⟨d, hd, rfl, hx⟩ := hrel
    obtain ⟨wo, rfl⟩ : ∃ wo : World, wo = wr := ⟨_, rfl⟩
    have B1 := Lib.hid ((B0.out.step hx).cons (s := Sp.since V4) hx)
    clear hx
    by_cases hd10 : d < 10
    · obtain ⟨pa0, pn0, pc0, pa1, pn1, pc1, pa2, pn2, pc2, dA, e0, e1, e2, hA, smA⟩ := (B1.out.dfrow 1 rfl).at hd10
      have hdi : (d : Int) < 10 := by omega
      have SA := Lib.hid smA
      have HA := Lib.hid hA
      clear smA hA
      go_wp2
      clear e0 e1 e2
      skip --C1
      refine wp_named ?_
      intro W1 hW1
      have hx : Below wo.heap.size wo W1 := by rw [hW1]; exact ((Ext.refl _).alloc _).below
      have hb : Blk W1 wo.heap.size #[.slice pa0 pn0 pc0, .slice pa1 pn1 pc1, .slice pa2 pn2 pc2] 25 := by rw [hW1]; exact Blk.new _ _ _
      have B2 := Lib.hid (((B1.out.step hx).cons (s := Sp.df _ dA) (HA.out.below hx)).cons (s := Sp.blk wo.heap.size _ _) hb)
      clear hW1 hx hb HA
      -- 0 blkA, 1 dfA, 2 since V4, 3 dfrow, 4 since w
      go_loopw [76] (fun i wr => ∃ k : Nat, k ≤ 10 ∧ i = .int .i64 k ∧ Below W1.heap.size W1 wr) (fun i _ => 10 - (intOf i).toNat)
      case atStart => exact ⟨0, by omega, rfl, Below.refl _ _⟩
      case round =>
        obtain ⟨k, hk, rfl, hx⟩ := hrel
        obtain ⟨wi, rfl⟩ : ∃ wi : World, wi = wr := ⟨_, rfl⟩
        have B3 := Lib.hid ((B2.out.step hx).cons (s := Sp.since W1) hx)
        clear hx
        -- 0 since W1, 1 blkA, 2 dfA, 3 since V4, 4 dfrow, 5 since w
        by_cases hk10 : k < 10
        · obtain ⟨qa0, qn0, qc0, qa1, qn1, qc1, qa2, qn2, qc2, dB, e0, e1, e2, hB, smB⟩ := (B3.out.dfrow 4 rfl).at hk10
          have hki : (k : Int) < 10 := by omega
          have SB := Lib.hid smB
          have HB := Lib.hid hB
          clear smB hB
          go_wp2
          clear e0 e1 e2
          skip --C2
          refine wp_named ?_
          intro W2 hW2
          have hx : Below wi.heap.size wi W2 := by rw [hW2]; exact ((Ext.refl _).alloc _).below
          have hb : Blk W2 wi.heap.size #[.slice qa0 qn0 qc0, .slice qa1 qn1 qc1, .slice qa2 qn2 qc2] 25 := by rw [hW2]; exact Blk.new _ _ _
          have B4 := Lib.hid (((B3.out.step hx).cons (s := Sp.df _ dB) (HB.out.below hx)).cons (s := Sp.blk wi.heap.size _ _) hb)
          clear hW2 hx hb HB
          -- 0 blkB, 1 dfB, 2 since W1, 3 blkA, 4 dfA
          go_loopw [80] (fun i wr => ∃ op : Nat, op ≤ 6 ∧ i = .int .u8 op ∧ Below W2.heap.size W2 wr) (fun i _ => 6 - (intOf i).toNat)
          case atStart => exact ⟨0, by omega, rfl, Below.refl _ _⟩
          case round =>
            obtain ⟨op, hop, rfl, hx⟩ := hrel
            obtain ⟨wj, rfl⟩ : ∃ wj : World, wj = wr := ⟨_, rfl⟩
            have B5 := Lib.hid ((B4.out.step hx).cons (s := Sp.since W2) hx)
            clear hx
            -- 0 since W2, 1 blkB, 2 dfB, 3 since W1, 4 blkA, 5 dfA
            by_cases hop6 : op < 6
            · have hopi : (op : Int) < 6 := by omega
              obtain ⟨x, hx2, hxe⟩ := tmod2_nat (op + d) 2 (by decide)
              rw [Int.natCast_add] at hxe
              have hxe' : ((op : Int) + (d : Int)).tmod 2 = (x : Int) := hxe
              have u1 : IntKind.i64.wrap ((op : Int) + (d : Int)) = (op : Int) + (d : Int) := IntWalk.i64_in _ (by omega)
              have u2 : IntKind.i64.wrap (x : Int) = (x : Int) := IntWalk.i64_in _ (by omega)
              have u3 : IntKind.u8.wrap ((op : Int) + 1) = (op : Int) + 1 := IntWalk.u8_in _ (by omega)
              have u4 : IntKind.i64.wrap (op : Int) = (op : Int) := IntWalk.i64_in _ (by omega)
              clear hxe
              by_cases hx1 : x = 1
              · have heq : ((x : Int) == 1) = true := by rw [hx1]; rfl
                clear hx1 hx2
                go_wp2
                skip --C3
                exact ⟨⟨op + 1, by omega, by go_num, B5.out.since 0 rfl⟩, by simp [intOf]; omega⟩
              · have heq : ((x : Int) == 1) = false := by rw [beq_eq_false_iff_ne]; omega
                clear hx1 hx2
                go_wp2
                skip --C4
                refine wp_named ?_
                intro W3 hW3
                have hx : Below wj.heap.size wj W3 := by rw [hW3]; exact ((Ext.refl _).alloc _).below
                have hb : Blk W3 wj.heap.size (([0, 1, 5, 6, 7, 30] : List Int).map encZ).toArray 3 := by rw [hW3]; exact Blk.new _ _ _
                have B6 := Lib.hid ((B5.out.step hx).cons (s := Sp.blk wj.heap.size _ _) hb)
                clear hW3 hx hb hxe' u1 u2 heq
                -- 0 blkF, 1 since W2, 2 blkB, 3 dfB, 4 since W1, 5 blkA, 6 dfA
                go_loopw [91] (fun i wr => ∃ m : Nat, m ≤ 6 ∧ i = .int .i64 m ∧ Below W3.heap.size W3 wr) (fun i _ => 6 - (intOf i).toNat)
                case atStart => exact ⟨0, by omega, rfl, Below.refl _ _⟩
                case round =>
                  obtain ⟨m, hm, rfl, hx⟩ := hrel
                  obtain ⟨wk, rfl⟩ : ∃ wk : World, wk = wr := ⟨_, rfl⟩
                  have B7 := Lib.hid ((B6.out.step hx).cons (s := Sp.since W3) hx)
                  clear hx
                  -- 0 since W3, 1 blkF, 2 since W2, 3 blkB, 4 dfB, 5 since W1, 6 blkA, 7 dfA
                  by_cases hm6 : m < 6
                  · obtain ⟨f, hf⟩ : ∃ f : Int, wk.cell? ⟨wj.heap.size, m, none⟩ = some (.int .i64 f) := by
                      have hc := (B7.out.blk 1 rfl).cell m
                      rw [List.getElem?_toArray, List.getElem?_map, List.getElem?_eq_getElem (by simpa using hm6)] at hc
                      exact ⟨_, hc⟩
                    have hmi : (m : Int) < 6 := by omega
                    obtain ⟨⟨i0, i1, i2⟩, _⟩ := (B7.out.blk 6 rfl).three
                    obtain ⟨⟨j0, j1, j2⟩, _⟩ := (B7.out.blk 3 rfl).three
                    go_wp2_with fail
                    clear hf i0 i1 i2 j0 j1 j2
                    refine (MK.out wk _ _ dA dB op f (B7.out.df 7 rfl) (B7.out.df 4 rfl) SA.out SB.out (by omega)).mono ?_
                    rintro e wl ⟨rfl, hx⟩
                    have B8 := Lib.hid (B7.out.step hx)
                    clear hx
                    go_wp2
                    exact ⟨⟨m + 1, by omega, by go_num, B8.out.since 0 rfl⟩, by simp [intOf]; omega⟩
                  · have hm6' : 6 ≤ m := by omega
                    go_wp2
                    skip --C5
                    exact ⟨⟨op + 1, by omega, by go_num, B7.out.since 2 rfl⟩, by simp [intOf]; omega⟩
            · have hop6' : 6 ≤ op := by omega
              go_wp2
              exact ⟨⟨k + 1, by omega, by go_num, B5.out.since 3 rfl⟩, by simp [intOf]; omega⟩
        · have hk10' : 10 ≤ k := by omega
          go_wp2
          skip --C6
          go_loopw [10] (fun i wr => ∃ n : Int, -1 ≤ n ∧ n ≤ 8 ∧ i = .int .i64 n ∧ Below wi.heap.size wi wr) (fun i _ => (8 - intOf i).toNat)
          case atStart => exact ⟨-1, by omega, by omega, rfl, Below.refl _ _⟩
          case round =>
            obtain ⟨n, hn1, hn8, rfl, hx⟩ := hrel
            obtain ⟨wj, rfl⟩ : ∃ wj : World, wj = wr := ⟨_, rfl⟩
            have B9 := Lib.hid ((B3.out.step hx).cons (s := Sp.since wi) hx)
            clear hx
            -- 0 since wi, 1 since W1, 2 blkA, 3 dfA, 4 since V4
            by_cases hn : n < 8
            · have u1 : IntKind.i64.wrap (n + 1) = n + 1 := IntWalk.i64_in _ (by omega)
              obtain ⟨⟨i0, i1, i2⟩, _⟩ := (B9.out.blk 2 rfl).three
              go_wp2_with fail
              clear i0 i1 i2
              refine (TL.out wj _ dA n _ (B9.out.df 3 rfl) SA.out).mono ?_
              rintro e wl ⟨rfl, hx⟩
              have B10 := Lib.hid (B9.out.step hx)
              clear hx
              go_wp2
              exact ⟨⟨n + 1, by omega, by omega, rfl, B10.out.since 0 rfl⟩, by simp [intOf]; omega⟩
            · have hn' : 8 ≤ n := by omega
              go_wp2
              exact ⟨⟨d + 1, by omega, by go_num, B9.out.since 4 rfl⟩, by simp [intOf]; omega⟩
    · have hd10' : 10 ≤ d := by omega
      go_wp2
      skip --D1
      refine wp_named ?_
      intro W8 hW8
      obtain ⟨nb, hnb⟩ : ∃ nb, nb = wo.heap.size := ⟨_, rfl⟩
      have hx : Below wo.heap.size wo W8 := by rw [hW8]; exact ((Ext.refl _).alloc _).below
      have hb : Blk W8 nb (([-9223372036854775808, -1, 0, 1, 63, 64, 65, 4000, 4001, 1099511627776, 1099511627777, 9223372036854775807] : List Int).map encZ).toArray 3 := by rw [hW8, hnb]; exact Blk.new _ _ _
      rw [← hnb]
      have C0 := Lib.hid ((B1.out.step hx).cons (s := Sp.blk nb _ _) hb)
      clear hW8 hx hb hnb
      -- 0 blkN, 1 since V4, 2 dfrow, 3 since w
      go_loopw [120] (fun i wr => ∃ j : Nat, j ≤ 12 ∧ i = .int .i64 j ∧ Below W8.heap.size W8 wr) (fun i _ => 12 - (intOf i).toNat)
      case atStart => exact ⟨0, by omega, rfl, Below.refl _ _⟩
      case round =>
        obtain ⟨j, hj, rfl, hx⟩ := hrel
        obtain ⟨wk, rfl⟩ : ∃ wk : World, wk = wr := ⟨_, rfl⟩
        have C1 := Lib.hid ((C0.out.step hx).cons (s := Sp.since W8) hx)
        clear hx
        -- 0 since W8, 1 blkN, 2 since V4, 3 dfrow, 4 since w
        have hBl := (C1.out.dfrow 3 rfl).lt
        by_cases hj12 : j < 12
        · obtain ⟨z, hz⟩ : ∃ z : Int, wk.cell? ⟨nb, j, none⟩ = some (.int .i64 z) := by
            have hc := (C1.out.blk 1 rfl).cell j
            rw [List.getElem?_toArray, List.getElem?_map, List.getElem?_eq_getElem (by simpa using hj12)] at hc
            exact ⟨_, hc⟩
          have hji : (j : Int) < 12 := by omega
          go_wp2
          clear hz
          skip --D2
          obtain ⟨ra0, rn0, rc0, ra1, rn1, rc1, ra2, rn2, rc2, dr, r0, r1, r2, hr, sr⟩ := (C1.out.dfrow 3 rfl).at (k := 4) (by decide)
          obtain ⟨ta0, tn0, tc0, ta1, tn1, tc1, ta2, tn2, tc2, dt, t0, t1, t2, ht, st⟩ := (C1.out.dfrow 3 rfl).at (k := 8) (by decide)
          obtain ⟨ua0, un0, uc0, ua1, un1, uc1, ua2, un2, uc2, du, u0, u1, u2, hu, su⟩ := (C1.out.dfrow 3 rfl).at (k := 1) (by decide)
          obtain ⟨va0, vn0, vc0, va1, vn1, vc1, va2, vn2, vc2, dv, v0, v1, v2, hv, sv⟩ := (C1.out.dfrow 3 rfl).at (k := 2) (by decide)
          refine wp_region_reg false (fun _ => False) (by kernel_rfl) 33 [0, 1, 3, 0, 15, 31, 63, 127, 255, 511, 127, 2047, 4095, 8191, 16383, 32767, 65535, 131071, 32767, 524287, 1048575, 2097151, 4194303, 8388607, 16777215, 33554431, 8388607, 75497471, 209715199, 8388607, 1073741823, 2147483647, 4294967295] (fun i => i == 4 || i == 11 || i == 19 || i == 30) (by kernel_rfl) (fun _ => Eff.det _ (.bool true)) ?_
          intro C hC hne
          have HC := Lib.hid hC
          have fr0 := regCell hC (p := ⟨S, 12, none⟩) hBl (fun h => h) r0
          have fr1 := regCell hC (p := ⟨S, 13, none⟩) hBl (fun h => h) r1
          have fr2 := regCell hC (p := ⟨S, 14, none⟩) hBl (fun h => h) r2
          have Hr := Lib.hid hr
          have Sr := Lib.hid sr
          have ft0 := regCell hC (p := ⟨S, 24, none⟩) hBl (fun h => h) t0
          have ft1 := regCell hC (p := ⟨S, 25, none⟩) hBl (fun h => h) t1
          have ft2 := regCell hC (p := ⟨S, 26, none⟩) hBl (fun h => h) t2
          have Ht := Lib.hid ht
          have St := Lib.hid st
          have fu0 := regCell hC (p := ⟨S, 3, none⟩) hBl (fun h => h) u0
          have fu1 := regCell hC (p := ⟨S, 4, none⟩) hBl (fun h => h) u1
          have fu2 := regCell hC (p := ⟨S, 5, none⟩) hBl (fun h => h) u2
          have Hu := Lib.hid hu
          have Su := Lib.hid su
          have fv0 := regCell hC (p := ⟨S, 6, none⟩) hBl (fun h => h) v0
          have fv1 := regCell hC (p := ⟨S, 7, none⟩) hBl (fun h => h) v1
          have fv2 := regCell hC (p := ⟨S, 8, none⟩) hBl (fun h => h) v2
          have Hv := Lib.hid hv
          have Sv := Lib.hid sv
          clear hC r0 r1 r2 hr sr t0 t1 t2 ht st u0 u1 u2 hu su v0 v1 v2 hv sv
          repeat (refine regStep (fun K hK => ?_); first | (refine regN rfl ?_; try go_simp; refine hK _ _ ?_; clear hK K) | (refine regF rfl rfl ?_; unfold floatAt; go_simp; refine hK _ _ ?_; clear hK K))
          refine regStep (fun K hK => ?_)
          refine regE rfl rfl (Eff.det _ (.bool true)) rfl (fun W hW hN => ?_) (fun v hv => ?_)
          · have hM := (HC.out W).1 hW
            clear hW
            go_simp
            refine effT_call ((TL.out _ _ dr z 100 (Hr.out.below hM.below) Sr.out).mono ?_)
            rintro e w2 ⟨rfl, hx⟩
            exact ⟨_, rfl, Move.of_below hx, rfl, trivial⟩
          replace hv : v = _ := hv
          subst hv
          go_simp
          refine hK _ _ ?_
          clear hK K
          repeat (refine regStep (fun K hK => ?_); first | (refine regN rfl ?_; try go_simp; refine hK _ _ ?_; clear hK K) | (refine regF rfl rfl ?_; unfold floatAt; go_simp; refine hK _ _ ?_; clear hK K))
          refine regStep (fun K hK => ?_)
          refine regE rfl rfl (Eff.det _ (.bool true)) rfl (fun W hW hN => ?_) (fun v hv => ?_)
          · have hM := (HC.out W).1 hW
            clear hW
            go_simp
            refine effT_call ((TL.out _ _ dr 9 z (Hr.out.below hM.below) Sr.out).mono ?_)
            rintro e w2 ⟨rfl, hx⟩
            exact ⟨_, rfl, Move.of_below hx, rfl, trivial⟩
          replace hv : v = _ := hv
          subst hv
          go_simp
          refine hK _ _ ?_
          clear hK K
          repeat (refine regStep (fun K hK => ?_); first | (refine regN rfl ?_; try go_simp; refine hK _ _ ?_; clear hK K) | (refine regF rfl rfl ?_; unfold floatAt; go_simp; refine hK _ _ ?_; clear hK K))
          refine regStep (fun K hK => ?_)
          refine regE rfl rfl (Eff.det _ (.bool true)) rfl (fun W hW hN => ?_) (fun v hv => ?_)
          · have hM := (HC.out W).1 hW
            clear hW
            go_simp
            refine effT_call ((TL.out _ _ dt 64 z (Ht.out.below hM.below) St.out).mono ?_)
            rintro e w2 ⟨rfl, hx⟩
            exact ⟨_, rfl, Move.of_below hx, rfl, trivial⟩
          replace hv : v = _ := hv
          subst hv
          go_simp
          refine hK _ _ ?_
          clear hK K
          repeat (refine regStep (fun K hK => ?_); first | (refine regN rfl ?_; try go_simp; refine hK _ _ ?_; clear hK K) | (refine regF rfl rfl ?_; unfold floatAt; go_simp; refine hK _ _ ?_; clear hK K))
          skip --D3
          refine regStep (fun K hK => ?_)
          refine regE rfl rfl (Eff.det _ (.bool true)) rfl (fun W hW hN => ?_) (fun v hv => ?_)
          · have hM := (HC.out W).1 hW
            clear hW
            go_simp
            refine effT_call ((MK.out _ _ _ du dv 1 z (Hu.out.below hM.below) (Hv.out.below hM.below) Su.out Sv.out (by decide)).mono ?_)
            rintro e w2 ⟨rfl, hx⟩
            exact ⟨_, rfl, Move.of_below hx, rfl, trivial⟩
          replace hv : v = _ := hv
          subst hv
          go_simp
          refine hK _ _ ?_
          clear hK K
          repeat (refine regStep (fun K hK => ?_); first | (refine regN rfl ?_; try go_simp; refine hK _ _ ?_; clear hK K) | (refine regF rfl rfl ?_; unfold floatAt; go_simp; refine hK _ _ ?_; clear hK K))
          refine regNil (fun W9 hW hH => ?_)
          have hM := ((HC.out W9).1 hW).below
          have C2 := Lib.hid (C1.out.step hM)
          clear hM hW hH HC hne fr0 fr1 fr2 ft0 ft1 ft2 fu0 fu1 fu2 fv0 fv1 fv2
          go_wp2
          exact ⟨⟨j + 1, by omega, by go_num, C2.out.since 0 rfl⟩, by simp [intOf]; omega⟩
        · have hj12' : 12 ≤ j := by omega
          skip --E1
          go_wp2
          skip --E2
          obtain ⟨ra0, rn0, rc0, ra1, rn1, rc1, ra2, rn2, rc2, dr, r0, r1, r2, hr, sr⟩ := (C1.out.dfrow 3 rfl).at (k := 0) (by decide)
          obtain ⟨ta0, tn0, tc0, ta1, tn1, tc1, ta2, tn2, tc2, dt, t0, t1, t2, ht, st⟩ := (C1.out.dfrow 3 rfl).at (k := 1) (by decide)
          obtain ⟨ua0, un0, uc0, ua1, un1, uc1, ua2, un2, uc2, du, u0, u1, u2, hu, su⟩ := (C1.out.dfrow 3 rfl).at (k := 9) (by decide)
          refine wp_region_reg false (fun _ => False) (by kernel_rfl) 29 [0, 1, 3, 0, 8, 24, 63, 127, 255, 511, 1023, 255, 2303, 6399, 16383, 32767, 65535, 131071, 262143, 524287, 131071, 1179647, 3276799, 8388607, 16777215, 33554431, 67108863, 134217727, 268435455] (fun i => i == 6 || i == 14 || i == 23 || i == 26) (by kernel_rfl) (fun _ => Eff.det _ (.bool true)) ?_
          intro C hC hne
          have HC := Lib.hid hC
          have fr0 := regCell hC (p := ⟨S, 0, none⟩) hBl (fun h => h) r0
          have fr1 := regCell hC (p := ⟨S, 1, none⟩) hBl (fun h => h) r1
          have fr2 := regCell hC (p := ⟨S, 2, none⟩) hBl (fun h => h) r2
          have Hr := Lib.hid hr
          have Sr := Lib.hid sr
          have ft0 := regCell hC (p := ⟨S, 3, none⟩) hBl (fun h => h) t0
          have ft1 := regCell hC (p := ⟨S, 4, none⟩) hBl (fun h => h) t1
          have ft2 := regCell hC (p := ⟨S, 5, none⟩) hBl (fun h => h) t2
          have Ht := Lib.hid ht
          have St := Lib.hid st
          have fu0 := regCell hC (p := ⟨S, 27, none⟩) hBl (fun h => h) u0
          have fu1 := regCell hC (p := ⟨S, 28, none⟩) hBl (fun h => h) u1
          have fu2 := regCell hC (p := ⟨S, 29, none⟩) hBl (fun h => h) u2
          have Hu := Lib.hid hu
          have Su := Lib.hid su
          clear hC r0 r1 r2 hr sr t0 t1 t2 ht st u0 u1 u2 hu su
          repeat (refine regStep (fun K hK => ?_); first | (refine regN rfl ?_; try go_simp; refine hK _ _ ?_; clear hK K) | (refine regF rfl rfl ?_; unfold floatAt; go_simp; refine hK _ _ ?_; clear hK K))
          refine regStep (fun K hK => ?_)
          refine regE rfl rfl (Eff.det _ (.bool true)) rfl (fun W hW hN => ?_) (fun v hv => ?_)
          · have hM := (HC.out W).1 hW
            clear hW
            go_simp
            refine effT_call ((MK.out _ _ _ dr dt 255 (-1) (Hr.out.below hM.below) (Ht.out.below hM.below) Sr.out St.out (by decide)).mono ?_)
            rintro e w2 ⟨rfl, hx⟩
            exact ⟨_, rfl, Move.of_below hx, rfl, trivial⟩
          replace hv : v = _ := hv
          subst hv
          go_simp
          refine hK _ _ ?_
          clear hK K
          repeat (refine regStep (fun K hK => ?_); first | (refine regN rfl ?_; try go_simp; refine hK _ _ ?_; clear hK K) | (refine regF rfl rfl ?_; unfold floatAt; go_simp; refine hK _ _ ?_; clear hK K))
          refine regStep (fun K hK => ?_)
          refine regE rfl rfl (Eff.det _ (.bool true)) rfl (fun W hW hN => ?_) (fun v hv => ?_)
          · have hM := (HC.out W).1 hW
            clear hW
            go_simp
            refine effT_call ((MK.out _ _ _ du dt 0 (-1) (Hu.out.below hM.below) (Ht.out.below hM.below) Su.out St.out (by decide)).mono ?_)
            rintro e w2 ⟨rfl, hx⟩
            exact ⟨_, rfl, Move.of_below hx, rfl, trivial⟩
          replace hv : v = _ := hv
          subst hv
          go_simp
          refine hK _ _ ?_
          clear hK K
          repeat (refine regStep (fun K hK => ?_); first | (refine regN rfl ?_; try go_simp; refine hK _ _ ?_; clear hK K) | (refine regF rfl rfl ?_; unfold floatAt; go_simp; refine hK _ _ ?_; clear hK K))
          refine regStep (fun K hK => ?_)
          refine regE rfl rfl (Eff.det _ (.bool true)) rfl (fun W hW hN => ?_) (fun v hv => ?_)
          · have hM := (HC.out W).1 hW
            clear hW
            go_simp
            refine effT_call ((MK.out _ _ _ dt du 0 (-1) (Ht.out.below hM.below) (Hu.out.below hM.below) St.out Su.out (by decide)).mono ?_)
            rintro e w2 ⟨rfl, hx⟩
            exact ⟨_, rfl, Move.of_below hx, rfl, trivial⟩
          replace hv : v = _ := hv
          subst hv
          go_simp
          refine hK _ _ ?_
          clear hK K
          repeat (refine regStep (fun K hK => ?_); first | (refine regN rfl ?_; try go_simp; refine hK _ _ ?_; clear hK K) | (refine regF rfl rfl ?_; unfold floatAt; go_simp; refine hK _ _ ?_; clear hK K))
          refine regStep (fun K hK => ?_)
          refine regE rfl rfl (Eff.det _ (.bool true)) rfl (fun W hW hN => ?_) (fun v hv => ?_)
          · have hM := (HC.out W).1 hW
            clear hW
            go_simp
            refine effT_call ((AW.out _).mono ?_)
            rintro e w2 ⟨rfl, hx⟩
            exact ⟨_, rfl, Move.of_below hx, rfl, trivial⟩
          replace hv : v = _ := hv
          subst hv
          go_simp
          refine hK _ _ ?_
          clear hK K
          repeat (refine regStep (fun K hK => ?_); first | (refine regN rfl ?_; try go_simp; refine hK _ _ ?_; clear hK K) | (refine regF rfl rfl ?_; unfold floatAt; go_simp; refine hK _ _ ?_; clear hK K))
          refine regNil (fun W9 hW hH => ?_)
          have hM := ((HC.out W9).1 hW).below
          have C2 := Lib.hid (C1.out.step hM)
          clear hM hW hH HC hne fr0 fr1 fr2 ft0 ft1 ft2 fu0 fu1 fu2
          skip --E3
          go_wp2
          go_ret
          exact ⟨rfl, C2.out.since 4 rfl⟩
end Go.Proofs.YtiegfnmpknmbmaaGreat
