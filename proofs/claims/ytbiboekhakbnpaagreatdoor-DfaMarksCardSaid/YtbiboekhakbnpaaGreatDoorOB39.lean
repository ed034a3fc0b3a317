/-
  The law's Made of small steps: its block A. Printed by wip/gen/made08.py.
  The law's Made of small steps: its block B. Printed by wip/gen/made08.py.
  The law's Made of small steps: its block C. Printed by wip/gen/made08.py.
-/
import Derived.Test.YtbiboekhakbnpaaGreatDoorOB38
set_option maxRecDepth 100000
set_option maxHeartbeats 16000000
open Go.Lib (hid)
namespace Go.Proofs.YtbiboekhakbnpaaGreatDoor
open Go Go.RowKit Go.Shelf Go.Maps

theorem made08_A (b off c : Nat) (l : List (Nat × Nat × Nat)) (w : World) (hb : b < w.heap.size) (hc : l.length <= c) (hl9 : l.length <= 1000000000000000) (hS : ∀ (i : Nat) (s : Nat × Nat × Nat), l[i]? = some s -> s.1 < 256 /\ s.2.1 < 256 /\ s.2.2 < 256 /\ w.cell? ⟨b, off + i * 3, none⟩ = some (.int .u8 s.1) /\ w.cell? ⟨b, off + i * 3 + 1, none⟩ = some (.int .u8 s.2.1) /\ w.cell? ⟨b, off + i * 3 + 2, none⟩ = some (.int .u8 s.2.2)) : (made08_cut b off c l w hb hc hl9 hS).A := by
 have HS := hid hS
 intro iN hiN hzN0 hzN1 hzN2 R HR n hl9 hc N hmin hNn hN25 hNc HNN HN in0 in1 in2 V R0 X0 HVS
 intros
 rename_i k hk wo hlt hki s0 s1 s2 PP u8a u8b u8c ru rc m hm25 uf gr huf16 HST HOK HM HUF HGR HLK in3 in4 in5 in6 in7 W1 B1 ROW1 HX1 d0 d1 d2 kd htm hkd12 hbase HKD hA
 have a1 : (kd : Int) < 4 := by omega
 have hst : PP.step (s0, s1, s2) = ⟨PP.all ++ [classR s1], PP.unf, PP.grp⟩ := by
  unfold Pile.step
  dsimp only
  rw [<- HKD.out, if_pos hA]
  unfold Pile.put
  rw [Nat.sub_zero, List.take_length]
 have HS9 := hid hst
 clear hst hA
 go_wp2_with fail
 refine (letters08_any s1 u8b W1).mono ?_
 rintro e W2 ⟨str, rfl, hstr, hx2⟩
 have HSTR := hid hstr
 have hl7 : (lettersB s1).length <= 1000000 := by
  have q : ∀ r : Nat, ([[97], [98], [97, 98], [97], [98], [99], [97, 98, 99], [98, 99], [10], [0, 255], [97], [98]].getD r [] : List Nat).length <= 3 := fun r => by
   rcases Nat.lt_or_ge r 12 with h | h
   ·have hc : r = 0 \/ r = 1 \/ r = 2 \/ r = 3 \/ r = 4 \/ r = 5 \/ r = 6 \/ r = 7 \/ r = 8 \/ r = 9 \/ r = 10 \/ r = 11 := by omega
    rcases hc with rfl | rfl | rfl | rfl | rfl | rfl | rfl | rfl | rfl | rfl | rfl | rfl <;> decide
   ·rw [List.getD_eq_getElem?_getD, List.getElem?_eq_none (by simpa using h)]; decide
  unfold lettersB
  exact Nat.le_trans (q _) (by decide)
 have ROW2 := hid (ROW1.out.below hx2)
 have HX2 : Hid (Keeps (· < V.heap.size) V W2) := hid (HX1.out.tr (Keeps.of_below hx2 fun x (hx : x < V.heap.size) => Nat.lt_of_lt_of_le hx hbase))
 clear hx2 hstr
 go_wp2_with fail
 refine (class08_any str _ HSTR.out hl7 W2).mono ?_
 rintro e W3 ⟨rfl, hx3⟩
 obtain ⟨S, hS⟩ : ∃ S, S = bsOf fun c => (lettersB s1).contains c := ⟨_, rfl⟩
 rw [<- hS]
 have hcl : classR s1 = .nd 2 S 0 0 [] := by unfold classR; rw [<- hS]
 rw [hcl] at HS9
 have ROW3 := hid (ROW2.out.below hx3)
 have HX3 : Hid (Keeps (· < V.heap.size) V W3) := hid (HX2.out.tr (Keeps.of_below hx3 fun x (hx : x < V.heap.size) => Nat.lt_of_lt_of_le hx HX2.out.size))
 have hb3 : V.heap.size <= W3.heap.size := HX3.out.size
 clear hS hcl hx3 ROW1 ROW2 HX2 d0 d1 d2 B1 hl7 HSTR
 unfold nodeV
 go_wp2_with (at_builtin; refine wpList_stopA rfl ?_)
 refine hid ?_
 refine wpList_named ?_
 intro W4 hW4
 have B4 : Hid (Blk W4 W3.heap.size (nodeV 2 S 0 0 (.slice none 0 0)) 86) := by rw [hW4]; exact hid (Blk.new _ _ _)
 have E4 : Hid (Ext W3 W4) := by rw [hW4]; exact hid ((Ext.refl _).alloc _)
 clear hW4
 have ROW4 := hid (ROW3.out.below E4.out.below)
 have hs4 : W3.heap.size <= W4.heap.size := E4.out.size
 obtain ⟨cs, g1, g2, g3, g4⟩ := ROW4.out
 rw [<- HM.out] at g1 g2
 have G1 := hid g1
 have G2 := hid g2
 have G3 := hid g3
 have G4 := hid g4
 clear g1 g2 g3 g4 ROW4 ROW3
 refine wpList_appendT rfl (.tmp 34) (.tmp 39) 84 rfl V.heap.size 86 iN (.agg zeroN) 8 80 Tryz.underlying84 hiN hzN0 hzN1 hzN2 rfl (by decide) (.slice ru m rc) m (cellsN cs) rfl G2.out ⟨W3.heap.size, 0, none⟩ 1 1 (nodeV 2 S 0 0 (.slice none 0 0)).toList rfl (news_blk B4.out) rfl (nodeV_eight _ _ _ _ _ _ _).2 (by unfold maxLen; omega) (by omega) (by omega) ?_
 intro v' w' ho hg hor
 have K9 : Hid (Keeps (· < V.heap.size) V w') := hid ((HX3.out.tr (E4.out.keeps.mono fun x (hx : x < V.heap.size) => Nat.lt_of_lt_of_le hx hb3)).tr (Keeps.of_grown hg fun x (hx : x < V.heap.size) => ⟨by omega, fun e => by have := (G2.out.lt x e.symm).1; omega⟩))
 have R9 : Hid (IsNrow V.heap.size w' v' (PP.all ++ [.nd 2 S 0 0 []])) := hid (IsNrow.push (cs := cs) (c := nodeV 2 S 0 0 (.slice none 0 0)) (by rw [<- HM.out]; exact G1.out) G3.out G4.out (nodeV_eight _ _ _ _ _ _ _) (IsRx.leaf _ _ _ _ _ _ _ _) (by rw [<- HM.out]; exact ho) hg hor)
 obtain ⟨va', vc', rfl⟩ := ownsRow_form ho
 clear ho hg hor
 go_wp2
 go_roundw
 case rel =>
  refine ⟨k + 1, by omega, by go_num, by rw [HST.out, HS9.out, <- HUF.out], by rw [HST.out, HS9.out, <- HGR.out], by rw [HST.out, HS9.out]; exact R9.out, K9.out⟩
 case measure => simp [intOf]; omega
theorem made08_B (b off c : Nat) (l : List (Nat × Nat × Nat)) (w : World) (hb : b < w.heap.size) (hc : l.length <= c) (hl9 : l.length <= 1000000000000000) (hS : ∀ (i : Nat) (s : Nat × Nat × Nat), l[i]? = some s -> s.1 < 256 /\ s.2.1 < 256 /\ s.2.2 < 256 /\ w.cell? ⟨b, off + i * 3, none⟩ = some (.int .u8 s.1) /\ w.cell? ⟨b, off + i * 3 + 1, none⟩ = some (.int .u8 s.2.1) /\ w.cell? ⟨b, off + i * 3 + 2, none⟩ = some (.int .u8 s.2.2)) : (made08_cut b off c l w hb hc hl9 hS).B := by
 have HS := hid hS
 intro iN hiN hzN0 hzN1 hzN2 R HR n hl9 hc N hmin hNn hN25 hNc HNN HN in0 in1 in2 V R0 X0 HVS u7 u8 u9 u10 u11 u12 u23 u24 u25 u26 u27 u28 u29 u30 u31 u32 u33 u34 u35 u36 u37 u38 u39 u40 u41 u42 u43 u44 u45 u46 u47 u48 u49 u50 u51 u52 u53 u54 u55 u56 u57 u58 u59 u60 u61 u62 u63 u64 u65 u66 u67 u68 u69 u70 u71 u72 u73 u74 u75 u76 u77 u78 u79 u80 u81 u82 u83 u84 u85 u86 u87 u88 u89 u90 u91 u92 u93 u94 u95 u96 u97 u98 u99 u100 u101 u102 u103 u104 u105 u106 u107 u108 u109 u110 u111 u112 u113 u114 u115 u116 u117 u118 u119 u120 u121 u122 u123 u124 u125 u126 u127 u128 u129 u130 u131 u132 u133 u134 u135 u136 u137 u138 u139 u140 u141 u142 u143 u144 u145 u146 u147 u148 u149 u150 u151 u152 u153 u154 u155 u156 u157 u158 u159 u160 u161 u162 u163 u164 u165 u166 u167 u168 u169 u170 u171 u172 u173 u174 u175 u176 u177 u178 u179 u180 u181 u182 u183 u184 k hk wo hlt hki s0 s1 s2 PP u8a u8b u8c ru rc m hm25 uf gr huf16 HST HOK HM HUF HGR HLK in3 in4 in5 in6 in7 W1 B1 ROW1 HX1 d0 d1 d2 kd htm hkd12 hbase HKD hA hB
 have a1 : ¬ ((kd : Int) < 4) := by omega
 have a2 : ((kd : Int) == 4) = true := by simp [hB]
 have hst : PP.step (s0, s1, s2) = ⟨PP.all ++ [.nd 1 0 0 0 []], PP.unf, PP.grp⟩ := by
  unfold Pile.step
  dsimp only
  rw [<- HKD.out, if_neg hA, if_pos hB]
  unfold Pile.put
  rw [Nat.sub_zero, List.take_length]
  rfl
 have HS9 := hid hst
 clear hst hA hB
 go_wp2_with (at_builtin; refine wpList_stopA rfl ?_)
 refine hid ?_
 clear d0 d1 d2 B1
 refine wpList_named ?_
 intro W4 hW4
 have B4 : Hid (Blk W4 W1.heap.size (nodeV 1 0 0 0 (.slice none 0 0)) 86) := by rw [hW4, nodeV_zero]; exact hid (Blk.new _ _ _)
 have E4 : Hid (Ext W1 W4) := by rw [hW4]; exact hid ((Ext.refl _).alloc _)
 clear hW4
 have ROW3 := ROW1
 have HX3 := HX1
 have hb3 := hbase
 have ROW4 := hid (ROW3.out.below E4.out.below)
 have hs4 : W1.heap.size <= W4.heap.size := E4.out.size
 obtain ⟨cs, g1, g2, g3, g4⟩ := ROW4.out
 rw [<- HM.out] at g1 g2
 have G1 := hid g1
 have G2 := hid g2
 have G3 := hid g3
 have G4 := hid g4
 clear g1 g2 g3 g4 ROW4 ROW3
 refine wpList_appendT rfl (.tmp 44) (.tmp 46) 84 rfl V.heap.size 86 iN (.agg zeroN) 8 80 Tryz.underlying84 hiN hzN0 hzN1 hzN2 rfl (by decide) (.slice ru m rc) m (cellsN cs) rfl G2.out ⟨W1.heap.size, 0, none⟩ 1 1 (nodeV 1 0 0 0 (.slice none 0 0)).toList rfl (news_blk B4.out) rfl (nodeV_eight _ _ _ _ _ _ _).2 (by unfold maxLen; omega) (by omega) (by omega) ?_
 intro v' w' ho hg hor
 have K9 : Hid (Keeps (· < V.heap.size) V w') := hid ((HX3.out.tr (E4.out.keeps.mono fun x (hx : x < V.heap.size) => Nat.lt_of_lt_of_le hx hb3)).tr (Keeps.of_grown hg fun x (hx : x < V.heap.size) => ⟨by omega, fun e => by have := (G2.out.lt x e.symm).1; omega⟩))
 have R9 : Hid (IsNrow V.heap.size w' v' (PP.all ++ [.nd 1 0 0 0 []])) := hid (IsNrow.push (cs := cs) (c := nodeV 1 0 0 0 (.slice none 0 0)) (by rw [<- HM.out]; exact G1.out) G3.out G4.out (nodeV_eight _ _ _ _ _ _ _) (IsRx.leaf _ _ _ _ _ _ _ _) (by rw [<- HM.out]; exact ho) hg hor)
 obtain ⟨va', vc', rfl⟩ := ownsRow_form ho
 clear ho hg hor
 go_wp2
 go_roundw
 case rel =>
  refine ⟨k + 1, by omega, by go_num, by rw [HST.out, HS9.out, <- HUF.out], by rw [HST.out, HS9.out, <- HGR.out], by rw [HST.out, HS9.out]; exact R9.out, K9.out⟩
 case measure => simp [intOf]; omega
theorem made08_C (b off c : Nat) (l : List (Nat × Nat × Nat)) (w : World) (hb : b < w.heap.size) (hc : l.length <= c) (hl9 : l.length <= 1000000000000000) (hS : ∀ (i : Nat) (s : Nat × Nat × Nat), l[i]? = some s -> s.1 < 256 /\ s.2.1 < 256 /\ s.2.2 < 256 /\ w.cell? ⟨b, off + i * 3, none⟩ = some (.int .u8 s.1) /\ w.cell? ⟨b, off + i * 3 + 1, none⟩ = some (.int .u8 s.2.1) /\ w.cell? ⟨b, off + i * 3 + 2, none⟩ = some (.int .u8 s.2.2)) : (made08_cut b off c l w hb hc hl9 hS).C := by
 have HS := hid hS
 intro iN hiN hzN0 hzN1 hzN2 R HR n hl9 hc N hmin hNn hN25 hNc HNN HN in0 in1 in2 V R0 X0 HVS u7 u8 u9 u10 u11 u12 u23 u24 u25 u26 u27 u28 u29 u30 u31 u32 u33 u34 u35 u36 u37 u38 u39 u40 u41 u42 u43 u44 u45 u46 u47 u48 u49 u50 u51 u52 u53 u54 u55 u56 u57 u58 u59 u60 u61 u62 u63 u64 u65 u66 u67 u68 u69 u70 u71 u72 u73 u74 u75 u76 u77 u78 u79 u80 u81 u82 u83 u84 u85 u86 u87 u88 u89 u90 u91 u92 u93 u94 u95 u96 u97 u98 u99 u100 u101 u102 u103 u104 u105 u106 u107 u108 u109 u110 u111 u112 u113 u114 u115 u116 u117 u118 u119 u120 u121 u122 u123 u124 u125 u126 u127 u128 u129 u130 u131 u132 u133 u134 u135 u136 u137 u138 u139 u140 u141 u142 u143 u144 u145 u146 u147 u148 u149 u150 u151 u152 u153 u154 u155 u156 u157 u158 u159 u160 u161 u162 u163 u164 u165 u166 u167 u168 u169 u170 u171 u172 u173 u174 u175 u176 u177 u178 u179 u180 u181 u182 u183 u184 k hk wo hlt hki s0 s1 s2 PP u8a u8b u8c ru rc m hm25 uf gr huf16 HST HOK HM HUF HGR HLK in3 in4 in5 in6 in7 W1 B1 ROW1 HX1 d0 d1 d2 kd htm hkd12 hbase HKD hA hB hC
 have a1 : ¬ ((kd : Int) < 4) := by omega
 have a2 : ((kd : Int) == 4) = false := by simp; omega
 have a3 : (kd : Int) < 7 := by omega
 have a4 : (1 : Int) < m := by omega
 obtain ⟨q, hq⟩ : ∃ q, q = m - 2 := ⟨_, rfl⟩
 obtain ⟨r, hr⟩ : ∃ r, r = m - 1 := ⟨_, rfl⟩
 have hw2 : IntKind.i64.wrap ((m : Int) - 2) = (q : Int) := by rw [IntWalk.i64_in _ (by omega)]; omega
 have hw1 : IntKind.i64.wrap ((m : Int) - 1) = (r : Int) := by rw [IntWalk.i64_in _ (by omega)]; omega
 have hqm : q < m := by omega
 have hrm : r < m := by omega
 have hqi : (q : Int) < m := by omega
 have hri : (r : Int) < m := by omega
 have hx2 : PP.all[q]? = some PP.last2 := by unfold Pile.last2; rw [<- HM.out, <- hq]; exact some_getD _ (by rw [<- HM.out]; exact hqm)
 have hx1 : PP.all[r]? = some PP.last := by unfold Pile.last; rw [<- HM.out, <- hr]; exact some_getD _ (by rw [<- HM.out]; exact hrm)
 have f2 : PP.last2.fine /\ PP.last2.size <= 1000 := ⟨HOK.out.fine _ (List.mem_of_getElem? hx2), by have := sub_len (List.mem_of_getElem? hx2); have := HOK.out.size; have := HLK.out; omega⟩
 have f1 : PP.last.fine /\ PP.last.size <= 1000 := ⟨HOK.out.fine _ (List.mem_of_getElem? hx1), by have := sub_len (List.mem_of_getElem? hx1); have := HOK.out.size; have := HLK.out; omega⟩
 have hst : PP.step (s0, s1, s2) = ⟨PP.all.take q ++ [joinsR 3 PP.last2 PP.last], PP.unf, PP.grp⟩ := by
  unfold Pile.step
  dsimp only
  rw [<- HKD.out, <- HM.out, if_neg hA, if_neg hB, if_pos hC]
  unfold Pile.put
  rw [<- HM.out, <- hq]
 obtain ⟨y2, hy2⟩ : ∃ y, y = PP.last2 := ⟨_, rfl⟩
 obtain ⟨y1, hy1⟩ : ∃ y, y = PP.last := ⟨_, rfl⟩
 rw [<- hy2] at hx2 f2 hst
 rw [<- hy1] at hx1 f1 hst
 obtain ⟨JJ, hJJ⟩ : ∃ J, J = joinsR 3 y2 y1 := ⟨_, rfl⟩
 rw [<- hJJ] at hst
 have HS9 := hid hst
 obtain ⟨g, p2, c2, e9, hcap, hgb, hgl, rg2, t2⟩ := ROW1.out.rng hx2
 subst e9
 obtain ⟨g', p1, c1, e9, _, _, _, rg1, t1⟩ := ROW1.out.rng hx1
 cases e9
 have hqc : q <= rc := by omega
 have hqci : (q : Int) <= rc := by omega
 have F2 := hid f2
 have F1 := hid f1
 have RG2 := hid rg2
 have RG1 := hid rg1
 have T2 := hid t2
 have T1 := hid t1
 have HJJ := hid hJJ
 have HQ := hid hq
 clear hst hx2 hx1 f2 f1 rg2 rg1 t2 t1 hy2 hy1 hJJ hq hr hA hB hC
 obtain ⟨ka, hka⟩ : ∃ x, x = y2.kind := ⟨_, rfl⟩
 obtain ⟨na, hna⟩ : ∃ x, x = y2.subs.length := ⟨_, rfl⟩
 obtain ⟨sa, hsa⟩ : ∃ x, x = y2.set := ⟨_, rfl⟩
 obtain ⟨ma, hma⟩ : ∃ x, x = y2.mn := ⟨_, rfl⟩
 obtain ⟨xa, hxa⟩ : ∃ x, x = y2.mx := ⟨_, rfl⟩
 obtain ⟨kb, hkb⟩ : ∃ x, x = y1.kind := ⟨_, rfl⟩
 obtain ⟨nb, hnb⟩ : ∃ x, x = y1.subs.length := ⟨_, rfl⟩
 obtain ⟨sb, hsb⟩ : ∃ x, x = y1.set := ⟨_, rfl⟩
 obtain ⟨mb, hmb⟩ : ∃ x, x = y1.mn := ⟨_, rfl⟩
 obtain ⟨xb, hxb⟩ : ∃ x, x = y1.mx := ⟨_, rfl⟩
 rw [<- hka, <- hna, <- hsa, <- hma, <- hxa] at RG2 T2
 rw [<- hkb, <- hnb, <- hsb, <- hmb, <- hxb] at RG1 T1
 clear hka hna hsa hma hxa hkb hnb hsb hmb hxb
 have CJ : Hid (∀ W, Move false (fun _ => False) W1 W -> Calls Tryz.prog 72 #[.int .u8 3, .agg (nodeV ka sa ma xa (.slice p2 na c2)), .agg (nodeV kb sb mb xb (.slice p1 nb c1))] W fun e w' => ∃ u, e = .returned u /\ IsRx (fun x => V.heap.size <= x /\ x < w'.heap.size) w' u JJ /\ Below W.heap.size W w') := hid fun W hW => by
  have hKW : Keeps (· < W1.heap.size) W1 W := Keeps.of_below hW.below fun _ h => h
  rw [HJJ.out]
  refine (joinsF08_any (fun x => V.heap.size <= x /\ x < W1.heap.size) 3 (.inl rfl) _ _ y2 y1 F2.out.1 F1.out.1 F2.out.2 F1.out.2 W (fun x hx => Nat.lt_of_lt_of_le hx.2 hW.size) ((T2.out.keeps hKW fun x hx => hx.2.1).mono fun x hx => ⟨hx.1, hx.2.1⟩) ((T1.out.keeps hKW fun x hx => hx.2.1).mono fun x hx => ⟨hx.1, hx.2.1⟩)).mono ?_
  rintro e w' ⟨u, he, hu, hb⟩
  exact ⟨u, he, hu.mono fun x hx => ⟨by have := hW.size; have := hbase; rcases hx.2 with h | h; exact h.1; omega, hx.1⟩, hb⟩
 clear F2 F1 T2 T1
 go_upto_region 13 with fail
 refine wp_region_reg false (fun _ => False) (by kernel_rfl) 18 [0, 0, 2, 0, 8, 31, 0, 0, 128, 448, 960, 0, 0, 4096, 14336, 30720, 65472, 131008, 262143, 524287] (fun i => i == 16 || i == 17 || i == 18) (by kernel_rfl) (fun i => if i = 16 then EffX.tree V.heap.size JJ else if i = 17 then EffX.box V.heap.size JJ else Eff.any _) ?_
 intro C hC hne
 have HC := hid hC
 clear hC d0 d1 d2
 repeat (refine regStep (fun K hK => ?_); first | (refine regN rfl ?_; try go_simp; refine hK _ _ ?_; clear hK K) | (refine regF rfl rfl ?_; unfold floatAt; go_simp; refine hK _ _ ?_; clear hK K))
 refine regStep (fun K hK => ?_)
 refine regL rfl rfl (.agg (nodeV ka sa ma xa (.slice p2 na c2))) (fun W hW hN => have hM := (HC.out W).1 hW; floatAt_load 86 (.tmp 64) rfl (g) (q * 8) rfl (nodeV ka sa ma xa (.slice p2 na c2)) _ (rangeAt_keeps RG2.out (Keeps.of_below hM.below fun _ h => h : Keeps (· < W1.heap.size) W1 W) hgl) Tryz.underlying86 rfl (sizeNode _ _ _ _ _)) ?_
 go_simp
 refine hK _ _ ?_
 clear hK K
 repeat (refine regStep (fun K hK => ?_); first | (refine regN rfl ?_; try go_simp; refine hK _ _ ?_; clear hK K) | (refine regF rfl rfl ?_; unfold floatAt; go_simp; refine hK _ _ ?_; clear hK K))
 refine regStep (fun K hK => ?_)
 refine regL rfl rfl (.agg (nodeV kb sb mb xb (.slice p1 nb c1))) (fun W hW hN => have hM := (HC.out W).1 hW; floatAt_load 86 (.tmp 69) rfl (g) (r * 8) rfl (nodeV kb sb mb xb (.slice p1 nb c1)) _ (rangeAt_keeps RG1.out (Keeps.of_below hM.below fun _ h => h : Keeps (· < W1.heap.size) W1 W) hgl) Tryz.underlying86 rfl (sizeNode _ _ _ _ _)) ?_
 go_simp
 refine hK _ _ ?_
 clear hK K
 refine regStep (fun K hK => ?_)
 refine regE rfl rfl (EffX.tree V.heap.size JJ) rfl (fun W hW hN => ?_) (fun v hv => ?_)
 ·have hM := (HC.out W).1 hW
  clear hW hN hK K
  go_simp
  refine effT_call ((CJ.out W hM).mono ?_)
  rintro e w2 ⟨u, rfl, ht, hx⟩
  exact ⟨_, rfl, Move.of_below hx, ht.form, ht⟩
 obtain ⟨pj, cj, rfl⟩ := hv
 unfold nodeV
 go_simp
 refine hK _ _ ?_
 clear hK K
 refine regStep (fun K hK => ?_)
 refine regE rfl rfl (EffX.box V.heap.size JJ) rfl (fun W hW hN => ?_) (fun v hv => ?_)
 ·have hM := (HC.out W).1 hW
  have hT : IsRx (fun x => V.heap.size <= x /\ x < W.heap.size) W (.agg (nodeV JJ.kind JJ.set JJ.mn JJ.mx (.slice pj JJ.subs.length cj))) JJ := hN.at 0 rfl (by kernel_rfl)
  have HT := hid hT
  clear hW hN hK K hT
  go_simp
  exact ⟨Move.ext ((Ext.refl _).alloc _), ⟨_, rfl⟩, fun b hb => by cases hb; exact ⟨_, _, Blk.new _ _ _, (HT.out.keeps ((Ext.refl _).alloc _).keeps fun _ hx => hx.2).mono fun x hx => by simp; omega⟩⟩
 obtain ⟨bz, rfl⟩ := hv
 go_simp
 refine hK _ _ ?_
 clear hK K
 refine regNil (fun W hW hH => ?_)
 have hM := (HC.out W).1 hW
 obtain ⟨pz, cz, hbz, hjz⟩ : ∃ p c, Blk W bz (nodeV JJ.kind JJ.set JJ.mn JJ.mx (.slice p JJ.subs.length c)) 86 /\ IsRx (fun x => V.heap.size <= x /\ x < W.heap.size) W (.agg (nodeV JJ.kind JJ.set JJ.mn JJ.mx (.slice p JJ.subs.length c))) JJ := (hH _ (List.mem_of_getElem? (show _ = some _ from rfl : _[0]? = some _))) bz rfl
 have BZ := hid hbz
 have TZ := hid hjz
 have ROWW := hid (ROW1.out.below hM.below)
 have HXW : Hid (Keeps (· < V.heap.size) V W) := hid (HX1.out.tr (Keeps.of_below hM.below fun x (hx : x < V.heap.size) => Nat.lt_of_lt_of_le hx hbase))
 have hbW : V.heap.size <= W.heap.size := HXW.out.size
 clear hM hW hH HC hne hbz hjz ROW1 HX1 RG2 RG1 CJ
 obtain ⟨cs, g1, g2, g3, g4⟩ := ROWW.out
 rw [<- HM.out] at g2
 have hcs : (cs.take q).length = q := by rw [List.length_take, g1, <- HM.out]; omega
 refine wpList_appendF rfl (.tmp 60) (.tmp 72) 84 rfl V.heap.size 86 iN (.agg zeroN) 8 80 Tryz.underlying84 hiN hzN0 hzN1 hzN2 rfl (by decide) ⟨g, 0, none⟩ q (cellsN (cs.take q)) rfl (by rw [cellsN_len fun c hc => (g3 c (List.mem_of_mem_take hc)).1, hcs]) (fun j u hj => g2.cells (g := g) rfl _ _ (cellsN_take hj)) ⟨bz, 0, none⟩ 1 1 (nodeV JJ.kind JJ.set JJ.mn JJ.mx (.slice pz JJ.subs.length cz)).toList rfl (news_blk BZ.out) rfl (by decide) (by unfold maxLen; omega) (by omega) hbW ?_
 intro v' w' ho hx hv'
 have R9 : Hid (IsNrow V.heap.size w' v' (PP.all.take q ++ [JJ])) := hid (IsNrow.fresh (cs := cs) (c := nodeV JJ.kind JJ.set JJ.mn JJ.mx (.slice pz JJ.subs.length cz)) (by rw [<- HM.out]; omega) g1 g3 (fun i c t hi ht => (g4 i c t hi ht).mono fun x hx => ⟨hx.1, hx.2.1⟩) (nodeV_eight _ _ _ _ _ _ _) TZ.out ho hx hv')
 have K9 : Hid (Keeps (· < V.heap.size) V w') := hid (HXW.out.tr (Keeps.of_below hx fun x (hx : x < V.heap.size) => Nat.lt_of_lt_of_le hx hbW))
 obtain ⟨va', vc', rfl⟩ := ownsRow_form ho
 clear ho hx hv' g1 g2 g3 g4 hcs ROWW BZ TZ HXW
 go_wp2
 go_roundw
 case rel =>
  refine ⟨k + 1, by omega, by go_num, by rw [HST.out, HS9.out, <- HUF.out], by rw [HST.out, HS9.out, <- HGR.out], ?_, K9.out⟩
  rw [HST.out, HS9.out]
  have e8 : (PP.all.take q ++ [JJ]).length = q + 1 := by rw [List.length_append, List.length_take, <- HM.out]; simp; omega
  exact R9.out
 case measure => simp [intOf]; omega
end Go.Proofs.YtbiboekhakbnpaaGreatDoor
