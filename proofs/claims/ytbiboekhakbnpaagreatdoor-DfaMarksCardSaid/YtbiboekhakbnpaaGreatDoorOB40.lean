/-
  The law's Made of small steps: its block D. Printed by wip/gen/made08.py.
  The law's Made of small steps: its block E. Printed by wip/gen/made08.py.
-/
import Derived.Test.YtbiboekhakbnpaaGreatDoorOB38
set_option maxRecDepth 100000
set_option maxHeartbeats 16000000
open Go.Lib (hid)
namespace Go.Proofs.YtbiboekhakbnpaaGreatDoor
open Go Go.RowKit Go.Shelf Go.Maps

theorem made08_D (b off c : Nat) (l : List (Nat × Nat × Nat)) (w : World) (hb : b < w.heap.size) (hc : l.length <= c) (hl9 : l.length <= 1000000000000000) (hS : ∀ (i : Nat) (s : Nat × Nat × Nat), l[i]? = some s -> s.1 < 256 /\ s.2.1 < 256 /\ s.2.2 < 256 /\ w.cell? ⟨b, off + i * 3, none⟩ = some (.int .u8 s.1) /\ w.cell? ⟨b, off + i * 3 + 1, none⟩ = some (.int .u8 s.2.1) /\ w.cell? ⟨b, off + i * 3 + 2, none⟩ = some (.int .u8 s.2.2)) : (made08_cut b off c l w hb hc hl9 hS).D := by
 have HS := hid hS
 intro iN hiN hzN0 hzN1 hzN2 R HR n hl9 hc N hmin hNn hN25 hNc HNN HN in0 in1 in2 V R0 X0 HVS u7 u8 u9 u10 u11 u12 u23 u24 u25 u26 u27 u28 u29 u30 u31 u32 u33 u34 u35 u36 u37 u38 u39 u40 u41 u42 u43 u44 u45 u46 u47 u48 u49 u50 u51 u52 u53 u54 u55 u56 u57 u58 u59 u60 u61 u62 u63 u64 u65 u66 u67 u68 u69 u70 u71 u72 u73 u74 u75 u76 u77 u78 u79 u80 u81 u82 u83 u84 u85 u86 u87 u88 u89 u90 u91 u92 u93 u94 u95 u96 u97 u98 u99 u100 u101 u102 u103 u104 u105 u106 u107 u108 u109 u110 u111 u112 u113 u114 u115 u116 u117 u118 u119 u120 u121 u122 u123 u124 u125 u126 u127 u128 u129 u130 u131 u132 u133 u134 u135 u136 u137 u138 u139 u140 u141 u142 u143 u144 u145 u146 u147 u148 u149 u150 u151 u152 u153 u154 u155 u156 u157 u158 u159 u160 u161 u162 u163 u164 u165 u166 u167 u168 u169 u170 u171 u172 u173 u174 u175 u176 u177 u178 u179 u180 u181 u182 u183 u184 k hk wo hlt hki s0 s1 s2 PP u8a u8b u8c ru rc m hm25 uf gr huf16 HST HOK HM HUF HGR HLK in3 in4 in5 in6 in7 W1 B1 ROW1 HX1 d0 d1 d2 kd htm hkd12 hbase HKD hA hB hC hD
 have a1 : ¬ ((kd : Int) < 4) := by omega
 have a2 : ((kd : Int) == 4) = false := by simp; omega
 have a3 : ¬ ((kd : Int) < 7) := by omega
 have a4 : (1 : Int) < m := by omega
 have a5 : (kd : Int) < 9 := by omega
 obtain ⟨q, hq⟩ : ∃ q, q = m - 2 := ⟨_, rfl⟩
 obtain ⟨r, hr⟩ : ∃ r, r = m - 1 := ⟨_, rfl⟩
 have hw2 : IntKind.i64.wrap ((m : Int) - 2) = (q : Int) := by rw [IntWalk.i64_in _ (by omega)]; omega
 have hw1 : IntKind.i64.wrap ((m : Int) - 1) = (r : Int) := by rw [IntWalk.i64_in _ (by omega)]; omega
 have hqm : q < m := by omega
 have hrm : r < m := by omega
 have hqi : (q : Int) < m := by omega
 have hri : (r : Int) < m := by omega
 have hx2 : PP.all[q]? = some PP.last2 := by unfold Pile.last2; rw [<- HM.out, <- hq]; exact some_getD _ (by rw [<- HM.out]; exact hqm)
 have hx1 : PP.all[r]? = some PP.last := by unfold Pile.last; rw [<- HM.out, <- hr]; exact some_getD _ (by rw [<- HM.out]; exact hrm)
 have f2 : PP.last2.fine /\ PP.last2.size <= 1000 := ⟨HOK.out.fine _ (List.mem_of_getElem? hx2), by have := sub_len (List.mem_of_getElem? hx2); have := HOK.out.size; have := HLK.out; omega⟩
 have f1 : PP.last.fine /\ PP.last.size <= 1000 := ⟨HOK.out.fine _ (List.mem_of_getElem? hx1), by have := sub_len (List.mem_of_getElem? hx1); have := HOK.out.size; have := HLK.out; omega⟩
 have hst : PP.step (s0, s1, s2) = ⟨PP.all.take q ++ [joinsR 4 PP.last2 PP.last], PP.unf, PP.grp⟩ := by
  unfold Pile.step
  dsimp only
  rw [<- HKD.out, <- HM.out, if_neg hA, if_neg hB, if_neg hC, if_pos hD]
  unfold Pile.put
  rw [<- HM.out, <- hq]
 obtain ⟨y2, hy2⟩ : ∃ y, y = PP.last2 := ⟨_, rfl⟩
 obtain ⟨y1, hy1⟩ : ∃ y, y = PP.last := ⟨_, rfl⟩
 rw [<- hy2] at hx2 f2 hst
 rw [<- hy1] at hx1 f1 hst
 obtain ⟨JJ, hJJ⟩ : ∃ J, J = joinsR 4 y2 y1 := ⟨_, rfl⟩
 rw [<- hJJ] at hst
 have HS9 := hid hst
 obtain ⟨g, p2, c2, e9, hcap, hgb, hgl, rg2, t2⟩ := ROW1.out.rng hx2
 subst e9
 obtain ⟨g', p1, c1, e9, _, _, _, rg1, t1⟩ := ROW1.out.rng hx1
 cases e9
 have hqc : q <= rc := by omega
 have hqci : (q : Int) <= rc := by omega
 have F2 := hid f2
 have F1 := hid f1
 have RG2 := hid rg2
 have RG1 := hid rg1
 have T2 := hid t2
 have T1 := hid t1
 have HJJ := hid hJJ
 have HQ := hid hq
 clear hst hx2 hx1 f2 f1 rg2 rg1 t2 t1 hy2 hy1 hJJ hq hr hA hB hC hD
 obtain ⟨ka, hka⟩ : ∃ x, x = y2.kind := ⟨_, rfl⟩
 obtain ⟨na, hna⟩ : ∃ x, x = y2.subs.length := ⟨_, rfl⟩
 obtain ⟨sa, hsa⟩ : ∃ x, x = y2.set := ⟨_, rfl⟩
 obtain ⟨ma, hma⟩ : ∃ x, x = y2.mn := ⟨_, rfl⟩
 obtain ⟨xa, hxa⟩ : ∃ x, x = y2.mx := ⟨_, rfl⟩
 obtain ⟨kb, hkb⟩ : ∃ x, x = y1.kind := ⟨_, rfl⟩
 obtain ⟨nb, hnb⟩ : ∃ x, x = y1.subs.length := ⟨_, rfl⟩
 obtain ⟨sb, hsb⟩ : ∃ x, x = y1.set := ⟨_, rfl⟩
 obtain ⟨mb, hmb⟩ : ∃ x, x = y1.mn := ⟨_, rfl⟩
 obtain ⟨xb, hxb⟩ : ∃ x, x = y1.mx := ⟨_, rfl⟩
 rw [<- hka, <- hna, <- hsa, <- hma, <- hxa] at RG2 T2
 rw [<- hkb, <- hnb, <- hsb, <- hmb, <- hxb] at RG1 T1
 clear hka hna hsa hma hxa hkb hnb hsb hmb hxb
 have CJ : Hid (∀ W, Move false (fun _ => False) W1 W -> Calls Tryz.prog 72 #[.int .u8 4, .agg (nodeV ka sa ma xa (.slice p2 na c2)), .agg (nodeV kb sb mb xb (.slice p1 nb c1))] W fun e w' => ∃ u, e = .returned u /\ IsRx (fun x => V.heap.size <= x /\ x < w'.heap.size) w' u JJ /\ Below W.heap.size W w') := hid fun W hW => by
  have hKW : Keeps (· < W1.heap.size) W1 W := Keeps.of_below hW.below fun _ h => h
  rw [HJJ.out]
  refine (joinsF08_any (fun x => V.heap.size <= x /\ x < W1.heap.size) 4 (.inr rfl) _ _ y2 y1 F2.out.1 F1.out.1 F2.out.2 F1.out.2 W (fun x hx => Nat.lt_of_lt_of_le hx.2 hW.size) ((T2.out.keeps hKW fun x hx => hx.2.1).mono fun x hx => ⟨hx.1, hx.2.1⟩) ((T1.out.keeps hKW fun x hx => hx.2.1).mono fun x hx => ⟨hx.1, hx.2.1⟩)).mono ?_
  rintro e w' ⟨u, he, hu, hb⟩
  exact ⟨u, he, hu.mono fun x hx => ⟨by have := hW.size; have := hbase; rcases hx.2 with h | h; exact h.1; omega, hx.1⟩, hb⟩
 clear F2 F1 T2 T1
 go_upto_region 15 with fail
 refine wp_region_reg false (fun _ => False) (by kernel_rfl) 18 [0, 0, 2, 0, 8, 31, 0, 0, 128, 448, 960, 0, 0, 4096, 14336, 30720, 65472, 131008, 262143, 524287] (fun i => i == 16 || i == 17 || i == 18) (by kernel_rfl) (fun i => if i = 16 then EffX.tree V.heap.size JJ else if i = 17 then EffX.box V.heap.size JJ else Eff.any _) ?_
 intro C hC hne
 have HC := hid hC
 clear hC d0 d1 d2
 repeat (refine regStep (fun K hK => ?_); first | (refine regN rfl ?_; try go_simp; refine hK _ _ ?_; clear hK K) | (refine regF rfl rfl ?_; unfold floatAt; go_simp; refine hK _ _ ?_; clear hK K))
 refine regStep (fun K hK => ?_)
 refine regL rfl rfl (.agg (nodeV ka sa ma xa (.slice p2 na c2))) (fun W hW hN => have hM := (HC.out W).1 hW; floatAt_load 86 (.tmp 90) rfl (g) (q * 8) rfl (nodeV ka sa ma xa (.slice p2 na c2)) _ (rangeAt_keeps RG2.out (Keeps.of_below hM.below fun _ h => h : Keeps (· < W1.heap.size) W1 W) hgl) Tryz.underlying86 rfl (sizeNode _ _ _ _ _)) ?_
 go_simp
 refine hK _ _ ?_
 clear hK K
 repeat (refine regStep (fun K hK => ?_); first | (refine regN rfl ?_; try go_simp; refine hK _ _ ?_; clear hK K) | (refine regF rfl rfl ?_; unfold floatAt; go_simp; refine hK _ _ ?_; clear hK K))
 refine regStep (fun K hK => ?_)
 refine regL rfl rfl (.agg (nodeV kb sb mb xb (.slice p1 nb c1))) (fun W hW hN => have hM := (HC.out W).1 hW; floatAt_load 86 (.tmp 95) rfl (g) (r * 8) rfl (nodeV kb sb mb xb (.slice p1 nb c1)) _ (rangeAt_keeps RG1.out (Keeps.of_below hM.below fun _ h => h : Keeps (· < W1.heap.size) W1 W) hgl) Tryz.underlying86 rfl (sizeNode _ _ _ _ _)) ?_
 go_simp
 refine hK _ _ ?_
 clear hK K
 refine regStep (fun K hK => ?_)
 refine regE rfl rfl (EffX.tree V.heap.size JJ) rfl (fun W hW hN => ?_) (fun v hv => ?_)
 ·have hM := (HC.out W).1 hW
  clear hW hN hK K
  go_simp
  refine effT_call ((CJ.out W hM).mono ?_)
  rintro e w2 ⟨u, rfl, ht, hx⟩
  exact ⟨_, rfl, Move.of_below hx, ht.form, ht⟩
 obtain ⟨pj, cj, rfl⟩ := hv
 unfold nodeV
 go_simp
 refine hK _ _ ?_
 clear hK K
 refine regStep (fun K hK => ?_)
 refine regE rfl rfl (EffX.box V.heap.size JJ) rfl (fun W hW hN => ?_) (fun v hv => ?_)
 ·have hM := (HC.out W).1 hW
  have hT : IsRx (fun x => V.heap.size <= x /\ x < W.heap.size) W (.agg (nodeV JJ.kind JJ.set JJ.mn JJ.mx (.slice pj JJ.subs.length cj))) JJ := hN.at 0 rfl (by kernel_rfl)
  have HT := hid hT
  clear hW hN hK K hT
  go_simp
  exact ⟨Move.ext ((Ext.refl _).alloc _), ⟨_, rfl⟩, fun b hb => by cases hb; exact ⟨_, _, Blk.new _ _ _, (HT.out.keeps ((Ext.refl _).alloc _).keeps fun _ hx => hx.2).mono fun x hx => by simp; omega⟩⟩
 obtain ⟨bz, rfl⟩ := hv
 go_simp
 refine hK _ _ ?_
 clear hK K
 refine regNil (fun W hW hH => ?_)
 have hM := (HC.out W).1 hW
 obtain ⟨pz, cz, hbz, hjz⟩ : ∃ p c, Blk W bz (nodeV JJ.kind JJ.set JJ.mn JJ.mx (.slice p JJ.subs.length c)) 86 /\ IsRx (fun x => V.heap.size <= x /\ x < W.heap.size) W (.agg (nodeV JJ.kind JJ.set JJ.mn JJ.mx (.slice p JJ.subs.length c))) JJ := (hH _ (List.mem_of_getElem? (show _ = some _ from rfl : _[0]? = some _))) bz rfl
 have BZ := hid hbz
 have TZ := hid hjz
 have ROWW := hid (ROW1.out.below hM.below)
 have HXW : Hid (Keeps (· < V.heap.size) V W) := hid (HX1.out.tr (Keeps.of_below hM.below fun x (hx : x < V.heap.size) => Nat.lt_of_lt_of_le hx hbase))
 have hbW : V.heap.size <= W.heap.size := HXW.out.size
 clear hM hW hH HC hne hbz hjz ROW1 HX1 RG2 RG1 CJ
 obtain ⟨cs, g1, g2, g3, g4⟩ := ROWW.out
 rw [<- HM.out] at g2
 have hcs : (cs.take q).length = q := by rw [List.length_take, g1, <- HM.out]; omega
 refine wpList_appendF rfl (.tmp 86) (.tmp 98) 84 rfl V.heap.size 86 iN (.agg zeroN) 8 80 Tryz.underlying84 hiN hzN0 hzN1 hzN2 rfl (by decide) ⟨g, 0, none⟩ q (cellsN (cs.take q)) rfl (by rw [cellsN_len fun c hc => (g3 c (List.mem_of_mem_take hc)).1, hcs]) (fun j u hj => g2.cells (g := g) rfl _ _ (cellsN_take hj)) ⟨bz, 0, none⟩ 1 1 (nodeV JJ.kind JJ.set JJ.mn JJ.mx (.slice pz JJ.subs.length cz)).toList rfl (news_blk BZ.out) rfl (by decide) (by unfold maxLen; omega) (by omega) hbW ?_
 intro v' w' ho hx hv'
 have R9 : Hid (IsNrow V.heap.size w' v' (PP.all.take q ++ [JJ])) := hid (IsNrow.fresh (cs := cs) (c := nodeV JJ.kind JJ.set JJ.mn JJ.mx (.slice pz JJ.subs.length cz)) (by rw [<- HM.out]; omega) g1 g3 (fun i c t hi ht => (g4 i c t hi ht).mono fun x hx => ⟨hx.1, hx.2.1⟩) (nodeV_eight _ _ _ _ _ _ _) TZ.out ho hx hv')
 have K9 : Hid (Keeps (· < V.heap.size) V w') := hid (HXW.out.tr (Keeps.of_below hx fun x (hx : x < V.heap.size) => Nat.lt_of_lt_of_le hx hbW))
 obtain ⟨va', vc', rfl⟩ := ownsRow_form ho
 clear ho hx hv' g1 g2 g3 g4 hcs ROWW BZ TZ HXW
 go_wp2
 go_roundw
 case rel =>
  refine ⟨k + 1, by omega, by go_num, by rw [HST.out, HS9.out, <- HUF.out], by rw [HST.out, HS9.out, <- HGR.out], ?_, K9.out⟩
  rw [HST.out, HS9.out]
  have e8 : (PP.all.take q ++ [JJ]).length = q + 1 := by rw [List.length_append, List.length_take, <- HM.out]; simp; omega
  exact R9.out
 case measure => simp [intOf]; omega
theorem made08_E (b off c : Nat) (l : List (Nat × Nat × Nat)) (w : World) (hb : b < w.heap.size) (hc : l.length <= c) (hl9 : l.length <= 1000000000000000) (hS : ∀ (i : Nat) (s : Nat × Nat × Nat), l[i]? = some s -> s.1 < 256 /\ s.2.1 < 256 /\ s.2.2 < 256 /\ w.cell? ⟨b, off + i * 3, none⟩ = some (.int .u8 s.1) /\ w.cell? ⟨b, off + i * 3 + 1, none⟩ = some (.int .u8 s.2.1) /\ w.cell? ⟨b, off + i * 3 + 2, none⟩ = some (.int .u8 s.2.2)) : (made08_cut b off c l w hb hc hl9 hS).E := by
 have HS := hid hS
 intro iN hiN hzN0 hzN1 hzN2 R HR n hl9 hc N hmin hNn hN25 hNc HNN HN in0 in1 in2 V R0 X0 HVS u7 u8 u9 u10 u11 u12 u23 u24 u25 u26 u27 u28 u29 u30 u31 u32 u33 u34 u35 u36 u37 u38 u39 u40 u41 u42 u43 u44 u45 u46 u47 u48 u49 u50 u51 u52 u53 u54 u55 u56 u57 u58 u59 u60 u61 u62 u63 u64 u65 u66 u67 u68 u69 u70 u71 u72 u73 u74 u75 u76 u77 u78 u79 u80 u81 u82 u83 u84 u85 u86 u87 u88 u89 u90 u91 u92 u93 u94 u95 u96 u97 u98 u99 u100 u101 u102 u103 u104 u105 u106 u107 u108 u109 u110 u111 u112 u113 u114 u115 u116 u117 u118 u119 u120 u121 u122 u123 u124 u125 u126 u127 u128 u129 u130 u131 u132 u133 u134 u135 u136 u137 u138 u139 u140 u141 u142 u143 u144 u145 u146 u147 u148 u149 u150 u151 u152 u153 u154 u155 u156 u157 u158 u159 u160 u161 u162 u163 u164 u165 u166 u167 u168 u169 u170 u171 u172 u173 u174 u175 u176 u177 u178 u179 u180 u181 u182 u183 u184 k hk wo hlt hki s0 s1 s2 PP u8a u8b u8c ru rc m hm25 uf gr huf16 HST HOK HM HUF HGR HLK in3 in4 in5 in6 in7 W1 B1 ROW1 HX1 d0 d1 d2 kd htm hkd12 hbase HKD hA hB hC hD hE
 have a1 : ¬ ((kd : Int) < 4) := by omega
 have a2 : ((kd : Int) == 4) = false := by simp; omega
 have a3 : ¬ ((kd : Int) < 7) := by omega
 have a5 : ¬ ((kd : Int) < 9) := by omega
 have a6 : ((kd : Int) == 9) = true := by simp [hE.1]
 have a8 : (0 : Int) < m := by omega
 have a9 : (gr : Int) < 9 := by omega
 obtain ⟨r, hr⟩ : ∃ r, r = m - 1 := ⟨_, rfl⟩
 have hw1 : IntKind.i64.wrap ((m : Int) - 1) = (r : Int) := by rw [IntWalk.i64_in _ (by omega)]; omega
 have hrm : r < m := by omega
 have hri : (r : Int) < m := by omega
 have hx1 : PP.all[r]? = some PP.last := by unfold Pile.last; rw [<- HM.out, <- hr]; exact some_getD _ (by rw [<- HM.out]; exact hrm)
 obtain ⟨y1, hy1⟩ : ∃ y, y = PP.last := ⟨_, rfl⟩
 rw [<- hy1] at hx1
 have hst : PP.step (s0, s1, s2) = ⟨PP.all.take r ++ [.nd 6 0 0 0 [y1]], PP.unf, PP.grp + 1⟩ := by
  unfold Pile.step
  dsimp only
  rw [<- HKD.out, <- HM.out, <- HGR.out, if_neg hA, if_neg hB, if_neg hC, if_neg hD, if_pos hE]
  unfold Pile.put
  rw [<- HM.out, <- hr, <- hy1]
 have HS9 := hid hst
 clear hst hy1 hA hB hC hD hE
 obtain ⟨g, p1, c1, e9, hmc, hcap, hgb, hgl, ⟨f0, f1, f2, f3, f4, f5, f6, f7⟩, t1⟩ := ROW1.out.elem hx1
 subst e9
 have T1 := hid t1
 clear t1
 obtain ⟨kb, hkb⟩ : ∃ x, x = y1.kind := ⟨_, rfl⟩
 obtain ⟨nb, hnb⟩ : ∃ x, x = y1.subs.length := ⟨_, rfl⟩
 obtain ⟨sb, hsb⟩ : ∃ x, x = y1.set := ⟨_, rfl⟩
 obtain ⟨mb, hmb⟩ : ∃ x, x = y1.mn := ⟨_, rfl⟩
 obtain ⟨xb, hxb⟩ : ∃ x, x = y1.mx := ⟨_, rfl⟩
 rw [<- hkb] at f0
 rw [<- hsb] at f1 f2 f3 f4
 rw [<- hmb] at f5
 rw [<- hxb] at f6
 rw [<- hnb] at f7
 rw [<- hkb, <- hnb, <- hsb, <- hmb, <- hxb] at T1
 have HKB := hid hkb
 have HX11 := hid hx1
 have HR1 := hid hr
 clear hkb hnb hsb hmb hxb hx1 hr hmc
 have hgw : IntKind.i64.wrap ((gr : Int) + 1) = ((gr + 1 : Nat) : Int) := by rw [IntWalk.i64_in _ (by omega)]; omega
 go_wp2_with fail
 refine (group08_any _ y1 (fun x => V.heap.size <= x /\ x < W1.heap.size /\ x ≠ g) W1 (fun x hx => hx.2.1) T1.out).mono ?_
 rintro e W2 ⟨u, rfl, hu, hx2⟩
 have HU := hid hu
 obtain ⟨pu, cu, rfl⟩ := hu.form
 have ROW2 := hid (ROW1.out.below hx2)
 have HX2 : Hid (Keeps (· < V.heap.size) V W2) := hid (HX1.out.tr (Keeps.of_below hx2 fun x (hx : x < V.heap.size) => Nat.lt_of_lt_of_le hx hbase))
 obtain ⟨cs, q1, q2, q3, q4⟩ := ROW2.out
 rw [<- HM.out] at q2
 have kc : ∀ (o : Nat) (v : Value), W1.cell? ⟨g, o, none⟩ = some v -> W2.cell? ⟨g, o, none⟩ = some v := fun o v h => ((Keeps.of_below hx2 fun _ h => h : Keeps (· < W1.heap.size) W1 W2).cell (p := ⟨g, o, none⟩) hgl).trans h
 replace f0 := kc _ _ f0
 replace f1 := kc _ _ f1
 replace f2 := kc _ _ f2
 replace f3 := kc _ _ f3
 replace f4 := kc _ _ f4
 replace f5 := kc _ _ f5
 replace f6 := kc _ _ f6
 replace f7 := kc _ _ f7
 have z0 : W2.frozen? ⟨g, r * 8, none⟩ = false := q2.frozenAt _
 have z1 : W2.frozen? ⟨g, r * 8 + 1, none⟩ = false := q2.frozenAt _
 have z2 : W2.frozen? ⟨g, r * 8 + 2, none⟩ = false := q2.frozenAt _
 have z3 : W2.frozen? ⟨g, r * 8 + 3, none⟩ = false := q2.frozenAt _
 have z4 : W2.frozen? ⟨g, r * 8 + 4, none⟩ = false := q2.frozenAt _
 have z5 : W2.frozen? ⟨g, r * 8 + 5, none⟩ = false := q2.frozenAt _
 have z6 : W2.frozen? ⟨g, r * 8 + 6, none⟩ = false := q2.frozenAt _
 have z7 : W2.frozen? ⟨g, r * 8 + 7, none⟩ = false := q2.frozenAt _
 have Q1 := hid q1
 have Q2 := hid q2
 have Q3 := hid q3
 have Q4 := hid q4
 have hgb2 : V.heap.size <= g := hgb
 have hs2 : W1.heap.size <= W2.heap.size := hx2.size
 clear hu hx2 kc q1 q2 q3 q4 ROW2 ROW1 HX1 d0 d1 d2 B1
 simp only [RX.kind, RX.set, RX.mn, RX.mx, RX.subs, List.length_cons, List.length_nil, Nat.zero_add] at HU ⊢
 unfold nodeV
 go_upto_region 18 with fail
 refine wp_named ?_
 intro W3 hW3
 have K3 : Hid (Keeps (· ≠ g) W2 W3) := by rw [hW3]; exact hid (((((((((Keeps.refl _ _).setCell (fun e => e rfl) _).setCell (fun e => e rfl) _).setCell (fun e => e rfl) _).setCell (fun e => e rfl) _).setCell (fun e => e rfl) _).setCell (fun e => e rfl) _).setCell (fun e => e rfl) _).setCell (fun e => e rfl) _)
 have R9 : Hid (IsNrow V.heap.size W3 (.slice (some ⟨g, 0, none⟩) m rc) (PP.all.set r (.nd 6 0 0 0 [y1]))) := by
  rw [hW3, HM.out]
  refine hid (IsNrow.turned (by rw [<- HM.out]; exact hrm) Q1.out (by rw [<- HM.out]; exact Q2.out) Q3.out (fun i c t hi ht => (Q4.out i c t hi ht).mono fun x hx => ⟨hx.1, hx.2.1, fun e => hx.2.2 (by rw [e]; rfl)⟩) ?_ ?_)
  ·exact (nodeV_eight _ _ _ _ _ _ _).2
  ·exact HU.out.mono fun x hx => ⟨by rcases hx.2 with h | h; exact h.1; omega, hx.1, fun e => by rcases hx.2 with h | h; exact h.2.2 e; omega⟩
 have K9 : Hid (Keeps (· < V.heap.size) V W3) := hid (HX2.out.tr (K3.out.mono fun x (hx : x < V.heap.size) => by show x ≠ g; omega))
 clear hW3 f0 f1 f2 f3 f4 f5 f6 f7 z0 z1 z2 z3 z4 z5 z6 z7 Q1 Q2 Q3 Q4 HU HX2 K3
 have hset : PP.all.set r (.nd 6 0 0 0 [y1]) = PP.all.take r ++ [.nd 6 0 0 0 [y1]] := by
  have e := take_last (l := PP.all) (by rw [<- HM.out]; omega)
  rw [<- HM.out, <- HR1.out] at e
  conv => lhs; rw [e]
  rw [List.set_append_right _ _ (by rw [List.length_take]; omega), List.length_take, Nat.min_eq_left (by rw [<- HM.out]; omega), Nat.sub_self]
  rfl
 have HSET := hid hset
 clear hset
 go_wp2
 go_roundw
 case rel =>
  refine ⟨k + 1, by omega, by go_num, ?_, ?_, ?_, K9.out⟩
  ·have e7 : (pileR (l.take (k + 1))).unf = uf := by rw [HST.out, HS9.out]; exact HUF.out.symm
   rw [e7]
   try rfl
   try go_num
  ·have e7 : (pileR (l.take (k + 1))).grp = gr + 1 := by rw [HST.out, HS9.out]; rw [HGR.out]
   rw [e7]
   try rfl
   try go_num
  ·rw [HST.out, HS9.out, <- HSET.out]
   have e8 : (PP.all.set r (.nd 6 0 0 0 [y1])).length = m := by rw [List.length_set]; exact HM.out.symm
   exact R9.out
 case measure => simp [intOf]; omega
end Go.Proofs.YtbiboekhakbnpaaGreatDoor
