/-
  The law's awake. Printed by wip/gen/awk18.py.
-/
import Derived.Test.YtbiboekhakbnpaaGreatDoorOB51
import Derived.Lib.SlBytesConst
import Derived.Lib.SlBytesRow
set_option maxRecDepth 100000
set_option maxHeartbeats 16000000
open Go.Lib (hid)
namespace Go.Proofs.YtbiboekhakbnpaaGreatDoor
open Go Go.RowKit Go.Shelf Go.Maps
attribute [local go_sem] encS

theorem awake18_any (w : World) (hT : ∀ W, Below w.heap.size w W -> TabW W) :
  Calls Tryz.prog 9 #[] w fun e w' => e = .returned (.bool true) /\ Below w.heap.size w w' := by
 have HT := hid hT
 clear hT
 have TT : Hid (∀ A, Below w.heap.size w A -> ∀ V, Below A.heap.size A V -> TabW V) := hid fun A hA V hV => HT.out V (hA.trans (hV.mono hA.size))
 obtain ⟨sab, hsab⟩ : ∃ s, s = letW [97, 98] := ⟨_, rfl⟩
 have C1 : Hid (∀ W, Calls Tryz.prog 37 #[.string ⟨#[97, 98]⟩] W fun e w' => e = .returned (.agg (encS sab)) /\ Below W.heap.size W w') := hid fun W => by rw [hsab]; exact one18_any ⟨#[97, 98]⟩ [97, 98] rfl (by decide) W
 have G8 := hid hsab
 have kc := fun (w : World) (C : Array Value) (n c : Nat) => Lib.run_convert_bytes_const (P := Tryz.prog) w 23 5 C n c Tryz.underlying23 Tryz.underlying5
 have GE := fun (w : World) (o : Obj) (C : Array Value) (n c : Nat) => kc_one8 w o C n c
 clear hsab HT
 go_enter Tryz.func9, Tryz.ntmps9
 go_wp2_with fail
 refine (word_ab w).mono ?_
 rintro e w1 ⟨⟨xa0, xn0, xc0, xa1, xn1, xc1, xa2, xn2, xc2, xa3, xn3, xc3, rfl, hd⟩, hx⟩
 have X := hid hx
 have NW := hid hd
 clear hd hx
 go_wp2_with fail
 refine calls_named ?_
 intro V1 hV
 have hb : Below w1.heap.size w1 V1 := by rw [hV]; exact ((Ext.refl w1).alloc _).below
 have BP : Hid (Blk V1 w1.heap.size #[.slice xa0 xn0 xc0, .slice xa1 xn1 xc1, .slice xa2 xn2 xc2, .slice xa3 xn3 xc3, .bool false, .bool false, .int .i64 5] 46) := hid (by rw [hV]; exact Blk.new _ _ _)
 replace X := hid (X.out.trans (hb.mono X.out.size))
 replace NW := hid (NW.out.below hb)
 clear hb hV 
 have PT := hid (pts_one (x := ⟨wordN [97, 98], false, 5⟩) BP.out NW.out.nf)
 replace PT : Hid (IsPts V1 (.slice (some ⟨w1.heap.size, 0, none⟩) 1 1) pAB) := PT
 clear BP
 clear NW
 refine (of_at mk_ab pAB_sm (n0 := 3) (n1 := 3) (n2 := 3) rfl rfl rfl V1 _ PT.out (TT.out V1 X.out)).mono ?_
 rintro e w2 ⟨⟨⟨da0, dc0, da1, dc1, da2, dc2, rfl, hd⟩, _⟩, hx⟩
 replace X := hid (X.out.trans (hx.mono X.out.size))
 replace PT := hid (PT.out.below hx)
 have DF := hid hd
 clear hd hx
 go_wp2_with fail
 refine calls_named ?_
 intro V2 hV
 have hb : Below w2.heap.size w2 V2 := by rw [hV]; exact ((Ext.refl w2).alloc _).below
 have B2 : Hid (Blk V2 w2.heap.size #[.slice da0 3 dc0, .slice da1 3 dc1, .slice da2 3 dc2] 31) := hid (by rw [hV]; exact Blk.new _ _ _)
 replace X := hid (X.out.trans (hb.mono X.out.size))
 replace PT := hid (PT.out.below hb)
 replace DF := hid (DF.out.below hb)
 clear hb hV 
 refine (of_ab2 V2 _ PT.out (TT.out V2 X.out)).mono ?_
 rintro e w3 ⟨⟨ea0, en0, ec0, ea1, en1, ec1, ea2, en2, ec2, rfl⟩, hx⟩
 replace X := hid (X.out.trans (hx.mono X.out.size))
 replace PT := hid (PT.out.below hx)
 replace DF := hid (DF.out.below hx)
 replace B2 := hid (B2.out.below hx B2.out.lt)
 clear hx
 clear PT
 have i0 : ∀ o, (w3.alloc o).cell? ⟨w2.heap.size, 0, none⟩ = some (.slice da0 3 dc0) := fun o => (B2.out.alloc o).cell 0
 have i1 : ∀ o, (w3.alloc o).cell? ⟨w2.heap.size, 1, none⟩ = some (.slice da1 3 dc1) := fun o => (B2.out.alloc o).cell 1
 have i2 : ∀ o, (w3.alloc o).cell? ⟨w2.heap.size, 2, none⟩ = some (.slice da2 3 dc2) := fun o => (B2.out.alloc o).cell 2
 go_wp2_with fail
 refine calls_named ?_
 intro V3 hV
 have hb : Below w3.heap.size w3 V3 := by rw [hV]; exact (((Ext.refl w3).alloc _).alloc _).below
 have G3 : IsSl encB V3 (.slice (some ⟨w3.heap.size + 1, 0, none⟩) 3 3) [120, 97, 98] := by rw [hV]; exact blk_isSl [120, 97, 98] (heap_new_at8 (by simp)) rfl rfl (by decide)
 replace X := hid (X.out.trans (hb.mono X.out.size))
 replace DF := hid (DF.out.below hb)
 replace B2 := hid (B2.out.below hb B2.out.lt)
 clear hb hV i0 i1 i2
 refine (marks_at dAB_rt mk_word_ab (by decide) (by decide) V3 _ _ DF.out G3).mono ?_
 rintro e w4 ⟨⟨ma, mc, rfl, ho⟩, hx⟩
 replace X := hid (X.out.trans (hx.mono X.out.size))
 replace DF := hid (DF.out.below hx)
 replace B2 := hid (B2.out.below hx B2.out.lt)
 have MR := hid ho
 clear G3 hx ho
 obtain ⟨⟨i0, i1, i2⟩, _⟩ := B2.out.three
 go_wp2_with fail
 refine calls_named ?_
 intro V4 hV
 have hb : Below w4.heap.size w4 V4 := by rw [hV]; exact ((Ext.refl w4).alloc _).below
 have G3 : IsSl encB V4 (.slice (some ⟨w4.heap.size, 0, none⟩) 3 3) [97, 98, 120] := by rw [hV]; exact blk_isSl [97, 98, 120] (World.alloc_heap_new _ _) rfl rfl (by decide)
 replace X := hid (X.out.trans (hb.mono X.out.size))
 replace DF := hid (DF.out.below hb)
 replace B2 := hid (B2.out.below hb B2.out.lt)
 replace MR := hid (MR.out.below hb)
 clear hb hV i0 i1 i2
 refine (marks_at dAB_rt mk_word_abx (by decide) (by decide) V4 _ _ DF.out G3).mono ?_
 rintro e w5 ⟨⟨na, nc, rfl, _⟩, hx⟩
 replace X := hid (X.out.trans (hx.mono X.out.size))
 replace DF := hid (DF.out.below hx)
 replace B2 := hid (B2.out.below hx B2.out.lt)
 replace MR := hid (MR.out.below hx)
 clear G3 hx
 obtain ⟨⟨i0, i1, i2⟩, _⟩ := B2.out.three
 go_wp2_with fail
 refine calls_named ?_
 intro V5 hV
 have hb : Below w5.heap.size w5 V5 := by rw [hV]; exact ((Ext.refl w5).alloc _).below
 have G3 : IsSl encB V5 (.slice (some ⟨w5.heap.size, 0, none⟩) 5 5) [97, 97, 98, 97, 98] := by rw [hV]; exact blk_isSl [97, 97, 98, 97, 98] (World.alloc_heap_new _ _) rfl rfl (by decide)
 replace X := hid (X.out.trans (hb.mono X.out.size))
 replace DF := hid (DF.out.below hb)
 replace B2 := hid (B2.out.below hb B2.out.lt)
 replace MR := hid (MR.out.below hb)
 clear hb hV i0 i1 i2
 refine (first_at dAB_rt mk_first_ab (by decide) (by decide) V5 _ _ DF.out G3).mono ?_
 rintro e w6 ⟨rfl, hx⟩
 replace X := hid (X.out.trans (hx.mono X.out.size))
 replace DF := hid (DF.out.below hx)
 replace B2 := hid (B2.out.below hx B2.out.lt)
 replace MR := hid (MR.out.below hx)
 clear G3 hx
 clear DF
 obtain ⟨⟨i0, i1, i2⟩, _⟩ := B2.out.three
 go_wp2_with fail
 refine calls_named ?_
 intro V6 hV
 have hb : Below w6.heap.size w6 V6 := by rw [hV]; exact ((Ext.refl w6).alloc _).below
 have G3 : IsSl encZ V6 (.slice (some ⟨w6.heap.size, 0, none⟩) 1 1) [5] := by rw [hV]; exact blk_isSl [5] (World.alloc_heap_new _ _) rfl rfl (by decide)
 replace X := hid (X.out.trans (hb.mono X.out.size))
 replace B2 := hid (B2.out.below hb B2.out.lt)
 replace MR := hid (MR.out.below hb)
 clear hb hV i0 i1 i2
 refine (equal_at (l := [5]) (by decide) V6 _ _ MR.out G3).mono ?_
 rintro e w7 ⟨rfl, hx⟩
 replace X := hid (X.out.trans (hx.mono X.out.size))
 replace B2 := hid (B2.out.below hx B2.out.lt)
 replace MR := hid (MR.out.below hx)
 clear G3 hx
 clear MR B2
 go_wp2_with fail
 refine (word_ab w7).mono ?_
 rintro e w8 ⟨⟨ya0, yn0, yc0, ya1, yn1, yc1, ya2, yn2, yc2, ya3, yn3, yc3, rfl, hd⟩, hx⟩
 replace X := hid (X.out.trans (hx.mono X.out.size))
 have NW := hid hd
 clear hd hx
 go_wp2_with fail
 refine calls_named ?_
 intro V8 hV
 have hb : Below w8.heap.size w8 V8 := by rw [hV]; exact ((Ext.refl w8).alloc _).below
 have BP : Hid (Blk V8 w8.heap.size #[.slice ya0 yn0 yc0, .slice ya1 yn1 yc1, .slice ya2 yn2 yc2, .slice ya3 yn3 yc3, .bool false, .bool true, .int .i64 0] 46) := hid (by rw [hV]; exact Blk.new _ _ _)
 replace X := hid (X.out.trans (hb.mono X.out.size))
 replace NW := hid (NW.out.below hb)
 clear hb hV 
 have PT := hid (pts_one (x := ⟨wordN [97, 98], true, 0⟩) BP.out NW.out.nf)
 replace PT : Hid (IsPts V8 (.slice (some ⟨w8.heap.size, 0, none⟩) 1 1) pBeg) := PT
 clear BP
 clear NW
 refine (of_at mk_beg pBeg_sm (n0 := 3) (n1 := 4) (n2 := 4) rfl rfl rfl V8 _ PT.out (TT.out V8 X.out)).mono ?_
 rintro e w9 ⟨⟨⟨ba0, bc0, ba1, bc1, ba2, bc2, rfl, _⟩, _⟩, hx⟩
 replace X := hid (X.out.trans (hx.mono X.out.size))
 clear hx PT
 go_wp2_with fail
 refine calls_named ?_
 intro V9 hV
 have hb : Below w9.heap.size w9 V9 := by rw [hV]; exact ((Ext.refl w9).alloc _).below
 have BB : Hid (Blk V9 w9.heap.size #[.slice ba0 3 bc0, .slice ba1 4 bc1, .slice ba2 4 bc2] 31) := hid (by rw [hV]; exact Blk.new _ _ _)
 replace X := hid (X.out.trans (hb.mono X.out.size))
 clear hb hV 
 refine (of_at mk_no (fun _ h => by cases h) (n0 := 1) (n1 := 1) (n2 := 1) rfl rfl rfl V9 (.slice none 0 0) (.inl ⟨rfl, rfl⟩) (TT.out V9 X.out)).mono ?_
 rintro e w10 ⟨⟨⟨na0, nc0, na1, nc1, na2, nc2, rfl, _⟩, _⟩, hx⟩
 replace X := hid (X.out.trans (hx.mono X.out.size))
 replace BB := hid (BB.out.below hx BB.out.lt)
 clear hx
 go_wp2_with fail
 refine calls_named ?_
 intro V10 hV
 have hb : Below w10.heap.size w10 V10 := by rw [hV]; exact ((Ext.refl w10).alloc _).below
 have BN : Hid (Blk V10 w10.heap.size #[.slice na0 1 nc0, .slice na1 1 nc1, .slice na2 1 nc2] 31) := hid (by rw [hV]; exact Blk.new _ _ _)
 replace X := hid (X.out.trans (hb.mono X.out.size))
 replace BB := hid (BB.out.below hb BB.out.lt)
 clear hb hV 
 refine (C1.out V10).mono ?_
 rintro e w11 ⟨rfl, hx⟩
 replace X := hid (X.out.trans (hx.mono X.out.size))
 replace BB := hid (BB.out.below hx BB.out.lt)
 replace BN := hid (BN.out.below hx BN.out.lt)
 clear hx
 go_wp2
 refine wp_named ?_
 intro V11 hV
 have hb : Below w11.heap.size w11 V11 := by rw [hV]; exact ((((((Ext.refl w11).alloc _).alloc _).alloc _).alloc _).alloc _).below
 have GB : V11.heap.size = w11.heap.size + 5 := by rw [hV]; simp
 have K0 : Blk V11 w11.heap.size (encS sab) 70 := by rw [hV]; exact ((((Blk.new _ _ _).alloc _).alloc _).alloc _).alloc _
 have K1 : Blk V11 (w11.heap.size + 1) #[.int .i64 0] 3 := by rw [hV]; exact ((((Blk.new _ _ _).at (by simp)).alloc _).alloc _).alloc _
 have K2 : Blk V11 (w11.heap.size + 2) #[.int .i64 0] 3 := by rw [hV]; exact (((Blk.new _ _ _).at (by simp)).alloc _).alloc _
 have K3 : Blk V11 (w11.heap.size + 3) #[.slice none 0 0] 37 := by rw [hV]; exact ((Blk.new _ _ _).at (by simp)).alloc _
 have BA : Hid (Blk V11 (w11.heap.size + 4) #[.slice (some ⟨w11.heap.size, 0, none⟩) 1 1, .slice (some ⟨w11.heap.size + 3, 0, none⟩) 1 1, .slice (some ⟨w11.heap.size + 1, 0, none⟩) 1 1, .slice (some ⟨w11.heap.size + 2, 0, none⟩) 1 1, .bool false] 44) := hid (by rw [hV]; exact (Blk.new _ _ _).at (by simp))
 have NA : Hid (IsNf V11 (.agg #[.slice (some ⟨w11.heap.size, 0, none⟩) 1 1, .slice (some ⟨w11.heap.size + 3, 0, none⟩) 1 1, .slice (some ⟨w11.heap.size + 1, 0, none⟩) 1 1, .slice (some ⟨w11.heap.size + 2, 0, none⟩) 1 1, .bool false]) anyN) := hid (by
  rw [G8.out] at K0
  refine ⟨_, _, _, _, rfl, isSetsC_of [letW [97, 98]] K0 (by simp [flatS]) rfl, isLL_of [.slice none 0 0] K3 rfl rfl ⟨row_nil, trivial⟩, row_of [0] K1 rfl rfl, row_of [0] K2 rfl rfl⟩)
 replace X := hid (X.out.trans (hb.mono X.out.size))
 replace BB := hid (BB.out.below hb BB.out.lt)
 replace BN := hid (BN.out.below hb BN.out.lt)
 clear hb hV K0 K1 K2 K3
 obtain ⟨DT, hDT⟩ : ∃ d, d = dTwo := ⟨_, rfl⟩
 have G6 := hid hDT
 clear hDT
 have G5 : DT.cl.length = 3 /\ DT.nx.length = 3 /\ DT.mr.length = 3 := by rw [G6.out]; exact ⟨rfl, rfl, rfl⟩
 have G4 := hid G5
 clear G5
 refine RegG.wp_region_regM (MoveS V11 DT) (MoveS.drew) (fun _ _ _ h k => h.trans k) (by kernel_rfl) 11 [0, 1, 0, 4, 15, 31, 63, 127, 127, 0, 767, 2047] (fun i => i == 0 || i == 4 || i == 5 || i == 9 || i == 10) (by kernel_rfl) (fun j => if j = 10 then some 17 else none) (fun j hj => (by first | rfl | (have GD : 12 <= j := hj; first | exact if_neg (by omega) | (split <;> first | omega | rfl)))) (by kernel_rfl) (fun i => if i = 0 then EffS.nf V11 DT (wordN [97]) else if i = 4 then EffS.lit V11 DT (wordN [97]) (.slice (some ⟨w11.heap.size, 0, none⟩) 1 1) (.slice (some ⟨w11.heap.size + 3, 0, none⟩) 1 1) (.slice (some ⟨w11.heap.size + 1, 0, none⟩) 1 1) (.slice (some ⟨w11.heap.size + 2, 0, none⟩) 1 1) else if i = 5 then EffS.ofD V11 DT 3 3 3 else if i = 9 then EffS.alloc V11 DT else if i = 10 then EffS.store V11 DT else RegG.Eff.any _) ?_
 intro C hC hne
 have HC := hid hC
 have o0 : ∀ W : { W // C W }, W.1.cell? ⟨w11.heap.size + 4, 0, none⟩ = some (.slice (some ⟨w11.heap.size, 0, none⟩) 1 1) := fun W => (BA.out.keeps ((hC W.1).1 W.2).keeps BA.out.lt).cell 0
 have o1 : ∀ W : { W // C W }, W.1.cell? ⟨w11.heap.size + 4, 1, none⟩ = some (.slice (some ⟨w11.heap.size + 3, 0, none⟩) 1 1) := fun W => (BA.out.keeps ((hC W.1).1 W.2).keeps BA.out.lt).cell 1
 have o2 : ∀ W : { W // C W }, W.1.cell? ⟨w11.heap.size + 4, 2, none⟩ = some (.slice (some ⟨w11.heap.size + 1, 0, none⟩) 1 1) := fun W => (BA.out.keeps ((hC W.1).1 W.2).keeps BA.out.lt).cell 2
 have o3 : ∀ W : { W // C W }, W.1.cell? ⟨w11.heap.size + 4, 3, none⟩ = some (.slice (some ⟨w11.heap.size + 2, 0, none⟩) 1 1) := fun W => (BA.out.keeps ((hC W.1).1 W.2).keeps BA.out.lt).cell 3
 have o4 : ∀ W : { W // C W }, W.1.cell? ⟨w11.heap.size + 4, 4, none⟩ = some (.bool false) := fun W => (BA.out.keeps ((hC W.1).1 W.2).keeps BA.out.lt).cell 4
 clear hC
 repeat (refine RegG.regStep (fun K hK => ?_); first | (refine RegG.regN rfl ?_; try go_simp; refine hK _ _ ?_; clear hK K) | (refine RegG.regF rfl rfl ?_; unfold floatAt; go_simp; refine hK _ _ ?_; clear hK K))
 refine RegG.regStep (fun K hK => ?_)
 refine RegG.regE rfl rfl (EffS.nf V11 DT (wordN [97])) rfl (fun W hW hN => ?_) (fun v hv => ?_)
 ·have hM := (HC.out W).1 hW
  clear hW hK K
  (go_simp; refine effT_call ((word_a W).mono ?_); rintro e w2 ⟨⟨za0, zn0, zc0, za1, zn1, zc1, za2, zn2, zc2, za3, zn3, zc3, rfl, hd⟩, hx⟩; exact ⟨_, rfl, .below hx hM.size, ⟨_, _, _, _, _, _, _, _, _, _, _, _, rfl⟩, hd.base hM.size⟩)
 obtain ⟨za0, zn0, zc0, za1, zn1, zc1, za2, zn2, zc2, za3, zn3, zc3, rfl⟩ := hv
 go_simp
 refine hK _ _ ?_
 clear hK K
 repeat (refine RegG.regStep (fun K hK => ?_); first | (refine RegG.regN rfl ?_; try go_simp; refine hK _ _ ?_; clear hK K) | (refine RegG.regF rfl rfl ?_; unfold floatAt; go_simp; refine hK _ _ ?_; clear hK K))
 refine RegG.regStep (fun K hK => ?_)
 refine RegG.regE rfl rfl (EffS.lit V11 DT (wordN [97]) (.slice (some ⟨w11.heap.size, 0, none⟩) 1 1) (.slice (some ⟨w11.heap.size + 3, 0, none⟩) 1 1) (.slice (some ⟨w11.heap.size + 1, 0, none⟩) 1 1) (.slice (some ⟨w11.heap.size + 2, 0, none⟩) 1 1)) rfl (fun W hW hN => ?_) (fun v hv => ?_)
 ·have hM := (HC.out W).1 hW
  clear hW hK K
  (have hq : OwnNf V11.heap.size W (.agg #[.slice za0 zn0 zc0, .slice za1 zn1 zc1, .slice za2 zn2 zc2, .slice za3 zn3 zc3, .bool false]) (wordN [97]) := hN.at 0 rfl (by kernel_rfl); clear hN; go_simp; exact ⟨.below ((Ext.refl _).alloc _).below hM.size, ⟨_, rfl⟩, fun b hb => by cases hb; exact ⟨_, _, _, _, Blk.new _ _ _, hq.below ((Ext.refl _).alloc _).below⟩⟩)
 obtain ⟨bl, rfl⟩ := hv
 go_simp
 refine hK _ _ ?_
 clear hK K
 repeat (refine RegG.regStep (fun K hK => ?_); first | (refine RegG.regN rfl ?_; try go_simp; refine hK _ _ ?_; clear hK K) | (refine RegG.regF rfl rfl ?_; unfold floatAt; go_simp; refine hK _ _ ?_; clear hK K))
 refine RegG.regStep (fun K hK => ?_)
 refine RegG.regE rfl rfl (EffS.ofD V11 DT 3 3 3) rfl (fun W hW hN => ?_) (fun v hv => ?_)
 ·have hM := (HC.out W).1 hW
  have hl : ∀ b, (Value.slice (some ⟨bl, 0, none⟩) 2 2) = .slice (some ⟨b, 0, none⟩) 2 2 -> _ := hN.at 0 rfl (by kernel_rfl)
  obtain ⟨y0, y1, y2, y3, hb1, hb2⟩ := hl bl rfl
  have GA : Below w.heap.size w W := X.out.trans (hM.keeps.mono fun x (hx : x < w.heap.size) => Nat.lt_of_lt_of_le hx X.out.size : Keeps (· < w.heap.size) V11 W).below
  have GC : IsNf W (.agg #[.slice (some ⟨w11.heap.size, 0, none⟩) 1 1, .slice (some ⟨w11.heap.size + 3, 0, none⟩) 1 1, .slice (some ⟨w11.heap.size + 1, 0, none⟩) 1 1, .slice (some ⟨w11.heap.size + 2, 0, none⟩) 1 1, .bool false]) anyN := NA.out.below hM.keeps.below
  have hp : IsPts W (.slice (some ⟨bl, 0, none⟩) 2 2) pTwo := pts_two (x := ⟨wordN [97], false, 0⟩) (y := ⟨anyN, false, 7⟩) hb1 hb2.nf GC
  clear hW hK K hN hl hb1 hb2
  go_simp
  refine effT_call ((of_at mk_two pTwo_sm (n0 := 3) (n1 := 3) (n2 := 3) rfl rfl rfl W _ hp (TT.out W GA)).mono ?_)
  rintro e w2 ⟨⟨⟨ta0, tc0, ta1, tc1, ta2, tc2, rfl, _⟩, u, hu, hd⟩, hx⟩
  rw [<- G6.out] at hd
  refine ⟨_, rfl, .below hx hM.size, ⟨_, _, _, _, _, _, rfl⟩, fun u' hu' => ?_⟩
  have e1 : u' = u := by
   have h1 : Ending.returned (.tuple #[u', .int .i64 0]) = .returned (.tuple #[u, .int .i64 0]) := by rw [<- hu, hu']
   injection h1 with h1
   injection h1 with h1
   simpa using h1
  subst e1
  exact hd.base hM.size
 obtain ⟨ta0, tc0, ta1, tc1, ta2, tc2, rfl⟩ := hv
 go_simp
 refine hK _ _ ?_
 clear hK K
 repeat (refine RegG.regStep (fun K hK => ?_); first | (refine RegG.regN rfl ?_; try go_simp; refine hK _ _ ?_; clear hK K) | (refine RegG.regF rfl rfl ?_; unfold floatAt; go_simp; refine hK _ _ ?_; clear hK K))
 refine RegG.regStep (fun K hK => ?_)
 refine RegG.regE rfl rfl (EffS.alloc V11 DT) rfl (fun W hW hN => ?_) (fun v hv => ?_)
 ·have hM := (HC.out W).1 hW
  clear hW hN hK K
  go_simp
  exact ⟨.below ((Ext.refl _).alloc _).below hM.size, ⟨_, hM.size, rfl⟩, fun b hb => by cases hb; exact ⟨hM.size, _, Blk.new _ _ _, rfl⟩⟩
 obtain ⟨bo, hbo, rfl⟩ := hv
 go_simp
 refine hK _ _ ?_
 clear hK K
 refine RegG.regStep (fun K hK => ?_)
 refine RegG.regE rfl rfl (EffS.store V11 DT) rfl (fun W hW hN => ?_) (fun v hv => ?_)
 ·have hM := (HC.out W).1 hW
  obtain ⟨_, c, hb, hcs⟩ := (hN.at 0 rfl (by kernel_rfl)) bo rfl
  have hd : OwnDf V11.heap.size W (.agg #[.slice ta0 3 tc0, .slice ta1 3 tc1, .slice ta2 3 tc2]) DT := (hN.at 1 rfl (by kernel_rfl)) _ rfl
  obtain ⟨x0, x1, x2, rfl⟩ : ∃ x0 x1 x2, c = #[x0, x1, x2] := by
   have h4 : c.toList.length = 3 := by rw [Array.length_toList, hcs]
   match hc : c.toList, h4 with
   | [x0, x1, x2], _ => exact ⟨x0, x1, x2, by rw [<- Array.toArray_toList (xs := c), hc]⟩
  have HB := hid hb
  have HD := hid hd
  have y0 : (W.cell? ⟨bo, 0, none⟩) = some x0 := hb.cell 0
  have y1 : (W.cell? ⟨bo, 1, none⟩) = some x1 := hb.cell 1
  have y2 : (W.cell? ⟨bo, 2, none⟩) = some x2 := hb.cell 2
  have z0 := hb.frozen 0
  have z1 := hb.frozen 1
  have z2 := hb.frozen 2
  clear hW hN hK K hb hcs hM hd
  go_simp
  have hm : Keeps (· ≠ bo) W (((W.setCell ⟨bo, 0, none⟩ (.slice ta0 3 tc0)).setCell ⟨bo, 1, none⟩ (.slice ta1 3 tc1)).setCell ⟨bo, 2, none⟩ (.slice ta2 3 tc2)) :=
   (((Keeps.refl _ _).setCell (p := ⟨bo, 0, none⟩) (fun h => h rfl) _).setCell (p := ⟨bo, 1, none⟩) (fun h => h rfl) _).setCell (p := ⟨bo, 2, none⟩) (fun h => h rfl) _
  have G9 : DfBox V11.heap.size DT (((W.setCell ⟨bo, 0, none⟩ (.slice ta0 3 tc0)).setCell ⟨bo, 1, none⟩ (.slice ta1 3 tc1)).setCell ⟨bo, 2, none⟩ (.slice ta2 3 tc2)) bo := by
   obtain ⟨e0, e1, e2⟩ := G4.out
   refine ⟨ta0, tc0, ta1, tc1, ta2, tc2, ?_, ?_⟩
   ·rw [e0, e1, e2]; exact ((HB.out.set 0 _).set 1 _).set 2 _
   ·rw [e0, e1, e2]; exact HD.out.past HB.out (by decide) (by decide) (by decide) hm
  refine ⟨MoveS.store hbo HB.out hm G9, trivial, fun b e _ => ?_⟩
  have e' : (Value.pointer (some ⟨bo, 0, none⟩)) = .pointer (some ⟨b, 0, none⟩) := e
  cases e'
  exact G9
 go_simp
 refine hK _ _ ?_
 clear hK K hv
 repeat (refine RegG.regStep (fun K hK => ?_); first | (refine RegG.regN rfl ?_; try go_simp; refine hK _ _ ?_; clear hK K) | (refine RegG.regF rfl rfl ?_; unfold floatAt; go_simp; refine hK _ _ ?_; clear hK K))
 refine RegG.regNil (fun W hW hH => ?_)
 have hM := (HC.out W).1 hW
 have G7 : DfBox V11.heap.size DT W bo := (hH _ (List.mem_of_getElem? (show _ = some _ from rfl : _[0]? = some _))) bo rfl hbo
 have hb : Below V11.heap.size V11 W := hM.keeps.below
 clear hW hH HC hM hne
 replace X := hid (X.out.trans (hb.mono X.out.size))
 replace BB := hid (BB.out.below hb BB.out.lt)
 replace BN := hid (BN.out.below hb BN.out.lt)
 replace BA := hid (BA.out.below hb BA.out.lt)
 replace NA := hid (NA.out.below hb)
 obtain ⟨qa0, qc0, qa1, qc1, qa2, qc2, hbk, hod⟩ := G7
 obtain ⟨e0, e1, e2⟩ := G4.out
 rw [e0, e1, e2, G6.out] at hod
 rw [e0, e1, e2] at hbk
 have BQ := hid hbk
 have DQ := hid hod.df
 clear hbk hod e0 e1 e2 hb G4 G6 o0 o1 o2 o3 o4
 clear BA NA
 obtain ⟨⟨i0, i1, i2⟩, _⟩ := BQ.out.three
 go_wp2_with fail
 refine calls_named ?_
 intro V13 hV
 have hb : Below W.heap.size W V13 := by rw [hV]; exact ((Ext.refl W).alloc _).below
 have G3 : IsSl encB V13 (.slice (some ⟨W.heap.size, 0, none⟩) 2 2) [120, 97] := by rw [hV]; exact blk_isSl [120, 97] (World.alloc_heap_new _ _) rfl rfl (by decide)
 replace X := hid (X.out.trans (hb.mono X.out.size))
 replace BB := hid (BB.out.below hb BB.out.lt)
 replace BN := hid (BN.out.below hb BN.out.lt)
 replace BQ := hid (BQ.out.below hb BQ.out.lt)
 replace DQ := hid (DQ.out.below hb)
 clear hb hV i0 i1 i2
 refine (marks_at dTwo_rt mk_word_two (by decide) (by decide) V13 _ _ DQ.out G3).mono ?_
 rintro e w14 ⟨⟨ra, rc, rfl, ho⟩, hx⟩
 replace X := hid (X.out.trans (hx.mono X.out.size))
 replace BB := hid (BB.out.below hx BB.out.lt)
 replace BN := hid (BN.out.below hx BN.out.lt)
 replace BQ := hid (BQ.out.below hx BQ.out.lt)
 replace DQ := hid (DQ.out.below hx)
 have MR := hid ho
 clear G3 hx ho
 obtain ⟨⟨i0, i1, i2⟩, _⟩ := BQ.out.three
 go_wp2_with fail
 refine calls_named ?_
 intro V14 hV
 have hb : Below w14.heap.size w14 V14 := by rw [hV]; exact ((Ext.refl w14).alloc _).below
 have G3 : IsSl encB V14 (.slice (some ⟨w14.heap.size, 0, none⟩) 2 2) [120, 97] := by rw [hV]; exact blk_isSl [120, 97] (World.alloc_heap_new _ _) rfl rfl (by decide)
 replace X := hid (X.out.trans (hb.mono X.out.size))
 replace BB := hid (BB.out.below hb BB.out.lt)
 replace BN := hid (BN.out.below hb BN.out.lt)
 replace BQ := hid (BQ.out.below hb BQ.out.lt)
 replace DQ := hid (DQ.out.below hb)
 replace MR := hid (MR.out.below hb)
 clear hb hV i0 i1 i2
 refine (first_at dTwo_rt mk_first_two (by decide) (by decide) V14 _ _ DQ.out G3).mono ?_
 rintro e w15 ⟨rfl, hx⟩
 replace X := hid (X.out.trans (hx.mono X.out.size))
 replace BB := hid (BB.out.below hx BB.out.lt)
 replace BN := hid (BN.out.below hx BN.out.lt)
 replace BQ := hid (BQ.out.below hx BQ.out.lt)
 replace DQ := hid (DQ.out.below hx)
 replace MR := hid (MR.out.below hx)
 clear G3 hx
 clear BQ DQ
 obtain ⟨⟨i0, i1, i2⟩, _⟩ := BB.out.three
 obtain ⟨⟨j0, j1, j2⟩, _⟩ := BN.out.three
 go_wp2_with fail
 refine calls_named ?_
 intro V15 hV
 have hb : Below w15.heap.size w15 V15 := by rw [hV]; exact ((Ext.refl w15).alloc _).below
 have G3 : IsSl encZ V15 (.slice (some ⟨w15.heap.size, 0, none⟩) 2 2) [0, 7] := by rw [hV]; exact blk_isSl [0, 7] (World.alloc_heap_new _ _) rfl rfl (by decide)
 replace X := hid (X.out.trans (hb.mono X.out.size))
 replace BB := hid (BB.out.below hb BB.out.lt)
 replace BN := hid (BN.out.below hb BN.out.lt)
 replace MR := hid (MR.out.below hb)
 clear hb hV i0 i1 i2 j0 j1 j2
 refine (equal_at (l := [0, 7]) (by decide) V15 _ _ MR.out G3).mono ?_
 rintro e w16 ⟨rfl, hx⟩
 replace X := hid (X.out.trans (hx.mono X.out.size))
 replace BB := hid (BB.out.below hx BB.out.lt)
 replace BN := hid (BN.out.below hx BN.out.lt)
 replace MR := hid (MR.out.below hx)
 clear G3 hx
 go_wp2
 go_ret
 exact ⟨rfl, X.out⟩
end Go.Proofs.YtbiboekhakbnpaaGreatDoor
