/-
  The law's Made of small steps: its block G. Printed by wip/gen/made08.py.
  The law's Made of small steps: its block H. Printed by wip/gen/made08.py.
-/
import Derived.Test.YtbiboekhakbnpaaGreatDoorOB38
set_option maxRecDepth 100000
set_option maxHeartbeats 16000000
open Go.Lib (hid)
namespace Go.Proofs.YtbiboekhakbnpaaGreatDoor
open Go Go.RowKit Go.Shelf Go.Maps

theorem made08_G (b off c : Nat) (l : List (Nat × Nat × Nat)) (w : World) (hb : b < w.heap.size) (hc : l.length <= c) (hl9 : l.length <= 1000000000000000) (hS : ∀ (i : Nat) (s : Nat × Nat × Nat), l[i]? = some s -> s.1 < 256 /\ s.2.1 < 256 /\ s.2.2 < 256 /\ w.cell? ⟨b, off + i * 3, none⟩ = some (.int .u8 s.1) /\ w.cell? ⟨b, off + i * 3 + 1, none⟩ = some (.int .u8 s.2.1) /\ w.cell? ⟨b, off + i * 3 + 2, none⟩ = some (.int .u8 s.2.2)) : (made08_cut b off c l w hb hc hl9 hS).G := by
 have HS := hid hS
 intro iN hiN hzN0 hzN1 hzN2 R HR n hl9 hc N hmin hNn hN25 hNc HNN HN in0 in1 in2 V R0 X0 HVS u7 u8 u9 u10 u11 u12 u23 u24 u25 u26 u27 u28 u29 u30 u31 u32 u33 u34 u35 u36 u37 u38 u39 u40 u41 u42 u43 u44 u45 u46 u47 u48 u49 u50 u51 u52 u53 u54 u55 u56 u57 u58 u59 u60 u61 u62 u63 u64 u65 u66 u67 u68 u69 u70 u71 u72 u73 u74 u75 u76 u77 u78 u79 u80 u81 u82 u83 u84 u85 u86 u87 u88 u89 u90 u91 u92 u93 u94 u95 u96 u97 u98 u99 u100 u101 u102 u103 u104 u105 u106 u107 u108 u109 u110 u111 u112 u113 u114 u115 u116 u117 u118 u119 u120 u121 u122 u123 u124 u125 u126 u127 u128 u129 u130 u131 u132 u133 u134 u135 u136 u137 u138 u139 u140 u141 u142 u143 u144 u145 u146 u147 u148 u149 u150 u151 u152 u153 u154 u155 u156 u157 u158 u159 u160 u161 u162 u163 u164 u165 u166 u167 u168 u169 u170 u171 u172 u173 u174 u175 u176 u177 u178 u179 u180 u181 u182 u183 u184 k hk wo hlt hki s0 s1 s2 PP u8a u8b u8c ru rc m hm25 uf gr huf16 HST HOK HM HUF HGR HLK in3 in4 in5 in6 in7 W1 B1 ROW1 HX1 d0 d1 d2 kd htm hkd12 hbase HKD hA hB hC hD hE hG
 have a1 : ¬ ((kd : Int) < 4) := by omega
 have a2 : ((kd : Int) == 4) = false := by simp; omega
 have a3 : ¬ ((kd : Int) < 7) := by omega
 have a5 : ¬ ((kd : Int) < 9) := by omega
 have a6 : ((kd : Int) == 9) = false := by simp; omega
 have a7 : (9 : Int) < kd := by omega
 have a8 : (0 : Int) < m := by omega
 obtain ⟨r, hr⟩ : ∃ r, r = m - 1 := ⟨_, rfl⟩
 have hw1 : IntKind.i64.wrap ((m : Int) - 1) = (r : Int) := by rw [IntWalk.i64_in _ (by omega)]; omega
 have hrm : r < m := by omega
 have hri : (r : Int) < m := by omega
 have hx1 : PP.all[r]? = some PP.last := by unfold Pile.last; rw [<- HM.out, <- hr]; exact some_getD _ (by rw [<- HM.out]; exact hrm)
 obtain ⟨y1, hy1⟩ : ∃ y, y = PP.last := ⟨_, rfl⟩
 rw [<- hy1] at hx1
 have hstp : PP.step (s0, s1, s2) = if 9 < kd /\ 0 < m /\ y1.kind ≠ 1 then (if PP.unf * timesS s1 s2 <= 16 then ⟨PP.put 1 (.nd 5 0 (leastS s1) (mostS s1 s2) [y1]), PP.unf * timesS s1 s2, PP.grp⟩ else PP) else PP := by
  unfold Pile.step
  dsimp only
  rw [<- HKD.out, <- HM.out, if_neg hA, if_neg hB, if_neg hC, if_neg hD, <- HGR.out, if_neg hE, <- hy1]
 obtain ⟨g, p1, c1, e9, hmc, hcap, hgb, hgl, ⟨f0, f1, f2, f3, f4, f5, f6, f7⟩, t1⟩ := ROW1.out.elem hx1
 subst e9
 have T1 := hid t1
 clear t1
 obtain ⟨kb, hkb⟩ : ∃ x, x = y1.kind := ⟨_, rfl⟩
 obtain ⟨nb, hnb⟩ : ∃ x, x = y1.subs.length := ⟨_, rfl⟩
 obtain ⟨sb, hsb⟩ : ∃ x, x = y1.set := ⟨_, rfl⟩
 obtain ⟨mb, hmb⟩ : ∃ x, x = y1.mn := ⟨_, rfl⟩
 obtain ⟨xb, hxb⟩ : ∃ x, x = y1.mx := ⟨_, rfl⟩
 rw [<- hkb] at f0
 rw [<- hsb] at f1 f2 f3 f4
 rw [<- hmb] at f5
 rw [<- hxb] at f6
 rw [<- hnb] at f7
 rw [<- hkb, <- hnb, <- hsb, <- hmb, <- hxb] at T1
 have HKB := hid hkb
 have HX11 := hid hx1
 have HR1 := hid hr
 clear hkb hnb hsb hmb hxb hx1 hr hmc
 have rg1 : W1.rangeAt g (r * 8) (nodeV kb sb mb xb (.slice p1 nb c1)).toList := fun j v hj => by
  have hl := (List.getElem?_eq_some_iff.1 hj).1
  have h8 : (nodeV kb sb mb xb (.slice p1 nb c1)).toList.length = 8 := rfl
  rw [h8] at hl
  have hc : j = 0 \/ j = 1 \/ j = 2 \/ j = 3 \/ j = 4 \/ j = 5 \/ j = 6 \/ j = 7 := by omega
  rcases hc with rfl | rfl | rfl | rfl | rfl | rfl | rfl | rfl <;> cases hj <;> assumption
 have RG1 := hid rg1
 clear rg1
 by_cases hk1 : kb = 1
 ·have b0 : ((kb : Int) == 1) = true := by simp [hk1]
  have b0' : ((kb : Int) != 1) = false := by simp [hk1]
  have hst : PP.step (s0, s1, s2) = PP := by rw [hstp, if_neg (fun h => h.2.2 (by rw [<- HKB.out]; exact hk1))]
  have HS9 := hid hst
  clear hst hstp hy1 hA hB hC hD hE hG hk1
  go_wp2
  go_roundw
  case rel =>
   refine ⟨k + 1, by omega, by go_num, by rw [HST.out, HS9.out, <- HUF.out], by rw [HST.out, HS9.out, <- HGR.out], by rw [HST.out, HS9.out]; exact ROW1.out, HX1.out⟩
  case measure => simp [intOf]; omega
 ·have b0 : ((kb : Int) == 1) = false := by simp; omega
  have b0' : ((kb : Int) != 1) = true := by simp; omega
  rw [if_pos ⟨hG.1, hG.2, by rw [<- HKB.out]; exact hk1⟩] at hstp
  have HSTP := hid hstp
  obtain ⟨n3, hn3⟩ : ∃ x, x = s1 % 3 := ⟨_, rfl⟩
  obtain ⟨m4, hm4⟩ : ∃ x, x = s2 % 4 := ⟨_, rfl⟩
  have hn33 : n3 < 3 := by omega
  have hm44 : m4 < 4 := by omega
  have htm3 : Int.tmod (s1 : Int) 3 = (n3 : Int) := by rw [Int.tmod_eq_emod_of_nonneg (by omega)]; omega
  have htm4 : Int.tmod (s2 : Int) 4 = (m4 : Int) := by rw [Int.tmod_eq_emod_of_nonneg (by omega)]; omega
  have hcv3 : IntKind.i64.wrap (n3 : Int) = (n3 : Int) := IntWalk.i64_in _ (by omega)
  have hcv4 : IntKind.i64.wrap (m4 : Int) = (m4 : Int) := IntWalk.i64_in _ (by omega)
  have hts := timesS_le s1 s2
  obtain ⟨T, hTT⟩ : ∃ T, T = timesS s1 s2 := ⟨_, rfl⟩
  have HTS : Hid (max (max (leastS s1 : Int) (mostS s1 s2)) 1 = (timesS s1 s2 : Int)) := hid hts.2.2
  have hT13 : 1 <= T /\ T <= 3 := by omega
  obtain ⟨UT, hUT⟩ : ∃ U, U = uf * T := ⟨_, rfl⟩
  have hUTi : (uf : Int) * (T : Int) = (UT : Int) := by rw [hUT]; simp
  have hUT48 : UT <= 48 := by rw [hUT]; exact Nat.le_trans (Nat.mul_le_mul huf16 hT13.2) (by decide)
  have hwUT : IntKind.i64.wrap ((UT : Nat) : Int) = (UT : Int) := IntWalk.i64_in _ (by omega)
  have HN3 := hid hn3
  have HM4 := hid hm4
  have HTT := hid hTT
  have HUT := hid hUT
  clear hstp hy1 hA hB hC hD hE hG hk1 hn3 hm4 hts hTT hUT
  go_upto_region 20 with fail
  refine wp_region_reg false (fun _ => False) (by kernel_rfl) 9 [0, 1, 3, 7, 0, 16, 48, 112, 15, 511] (fun i => i == 99) (by kernel_rfl) (fun _ => Eff.any _) ?_
  intro C hC hne
  have HC := hid hC
  have q1 := regCell hC (p := ⟨wo.heap.size, 1, none⟩) B1.out.lt (fun h => h) d1
  have q2 := regCell hC (p := ⟨wo.heap.size, 2, none⟩) B1.out.lt (fun h => h) d2
  clear hC
  repeat (refine regStep (fun K hK => ?_); first | (refine regN rfl ?_; try go_simp; refine hK _ _ ?_; clear hK K) | (refine regF rfl rfl ?_; unfold floatAt; go_simp; refine hK _ _ ?_; clear hK K))
  refine regNil (fun W hW hH => ?_)
  have hM := (HC.out W).1 hW
  have hKW : Keeps (· < W1.heap.size) W1 W := Keeps.of_below hM.below fun _ h => h
  have ROW1 := hid (ROW1.out.below hM.below)
  have HX1 : Hid (Keeps (· < V.heap.size) V W) := hid (HX1.out.tr (hKW.mono fun x (hx : x < V.heap.size) => Nat.lt_of_lt_of_le hx hbase))
  have hsW : W1.heap.size <= W.heap.size := hM.size
  have hbase : V.heap.size <= W.heap.size := HX1.out.size
  have T1 : Hid (IsRx (fun x => V.heap.size <= x /\ x < W.heap.size /\ x ≠ g) W (.agg (nodeV kb sb mb xb (.slice p1 nb c1))) y1) := hid ((T1.out.keeps hKW fun x hx => hx.2.1).mono fun x hx => ⟨hx.1, by have := hx.2.1; omega, hx.2.2⟩)
  have RG1 := hid (rangeAt_keeps RG1.out hKW hgl)
  have kw : ∀ (o : Nat) (v : Value), W1.cell? ⟨g, o, none⟩ = some v -> W.cell? ⟨g, o, none⟩ = some v := fun o v h => (hKW.cell (p := ⟨g, o, none⟩) hgl).trans h
  replace f0 := kw _ _ f0
  replace f1 := kw _ _ f1
  replace f2 := kw _ _ f2
  replace f3 := kw _ _ f3
  replace f4 := kw _ _ f4
  replace f5 := kw _ _ f5
  replace f6 := kw _ _ f6
  replace f7 := kw _ _ f7
  have hgl : g < W.heap.size := by omega
  clear hM hKW kw hW hH HC hne q1 q2 d0 d1 d2 B1
  obtain ⟨mv, hmv⟩ : ∃ mv : Int, mv = mostS s1 s2 := ⟨_, rfl⟩
  have hmv2 : mv = if m4 < n3 \/ m4 = 0 \/ (n3 = 1 /\ m4 = 1) then -1 else (m4 : Int) := by rw [hmv]; unfold mostS leastS; rw [<- HN3.out, <- HM4.out]
  have HMV := hid hmv
  have HMV2 := hid hmv2
  clear hmv hmv2
  go_upto_region 21 with fail
  go_cut [161] from 147 to 161 (fun b wx => b = .bool (decide (m4 < n3 \/ m4 = 0 \/ (n3 = 1 /\ m4 = 1))) /\ wx = W)
  case first =>
   by_cases b1 : m4 < n3
   ·have b1i : (m4 : Int) < n3 := by omega
    have D := hid (decide_eq_true (.inl b1 : m4 < n3 \/ m4 = 0 \/ (n3 = 1 /\ m4 = 1)))
    clear b1
    go_wp2_with fail
    go_meet
    exact ⟨by rw [D.out], rfl⟩
   ·have b1i : ¬ ((m4 : Int) < n3) := by omega
    by_cases b2 : m4 = 0
    ·have b2i : ((m4 : Int) == 0) = true := by simp [b2]
     have D := hid (decide_eq_true (.inr (.inl b2) : m4 < n3 \/ m4 = 0 \/ (n3 = 1 /\ m4 = 1)))
     clear b1 b2
     go_wp2_with fail
     go_meet
     exact ⟨by rw [D.out], rfl⟩
    ·have b2i : ((m4 : Int) == 0) = false := by simp; omega
     by_cases b3 : n3 = 1
     ·have b3i : ((n3 : Int) == 1) = true := by simp [b3]
      by_cases b4 : m4 = 1
      ·have b4i : ((m4 : Int) == 1) = true := by simp [b4]
       have D := hid (decide_eq_true (.inr (.inr ⟨b3, b4⟩) : m4 < n3 \/ m4 = 0 \/ (n3 = 1 /\ m4 = 1)))
       clear b1 b2 b3 b4
       go_wp2_with fail
       go_meet
       exact ⟨by rw [D.out], rfl⟩
      ·have b4i : ((m4 : Int) == 1) = false := by simp; omega
       have D := hid (decide_eq_false (by omega : ¬ (m4 < n3 \/ m4 = 0 \/ (n3 = 1 /\ m4 = 1))))
       clear b1 b2 b3 b4
       go_wp2_with fail
       go_meet
       exact ⟨by rw [D.out], rfl⟩
     ·have b3i : ((n3 : Int) == 1) = false := by simp; omega
      have D := hid (decide_eq_false (by omega : ¬ (m4 < n3 \/ m4 = 0 \/ (n3 = 1 /\ m4 = 1))))
      clear b1 b2 b3
      go_wp2_with fail
      go_meet
      exact ⟨by rw [D.out], rfl⟩
  case rest =>
  obtain ⟨rfl, hwc⟩ := hcut
  replace hwc := hwc.symm
  subst hwc
  go_upto_if 161 with fail
  go_cut [11] from 161 to 161 (fun x wx => x = .int .i64 mv /\ wx = W)
  case first =>
   by_cases e : m4 < n3 \/ m4 = 0 \/ (n3 = 1 /\ m4 = 1)
   ·have d := decide_eq_true e
    go_wp2_with fail
    go_meet
    exact ⟨by rw [HMV2.out, if_pos e], rfl⟩
   ·have d := decide_eq_false e
    go_wp2_with fail
    go_meet
    exact ⟨by rw [HMV2.out, if_neg e], rfl⟩
  case rest =>
  obtain ⟨rfl, hwc⟩ := hcut
  replace hwc := hwc.symm
  subst hwc
  have hT3 := HTS.out
  rw [<- HMV.out] at hT3
  have hT2' : max (max (n3 : Int) mv) 1 = (T : Int) := by rw [HN3.out, HTT.out]; exact hT3
  have hT2 := (max3_if (n3 : Int) mv).trans hT2'
  have HMX : Hid (mostS s1 s2 = mv) := hid HMV.out.symm
  clear hT3 hT2'
  by_cases hfit : UT <= 16
  ·have hf1 : (UT : Int) <= 16 := by omega
   have hst : PP.step (s0, s1, s2) = ⟨PP.all.take r ++ [.nd 5 0 (n3 : Int) mv [y1]], UT, PP.grp⟩ := by
    rw [HSTP.out, if_pos (by rw [<- HTT.out, <- HUF.out, <- HUT.out]; exact hfit), HMX.out]
    have e1 : ((leastS s1 : Nat) : Int) = (n3 : Int) := by unfold leastS; rw [HN3.out]
    rw [e1, <- HTT.out, <- HUF.out, <- HUT.out]
    unfold Pile.put
    rw [<- HM.out, <- HR1.out]
   have HS9 := hid hst
   clear hst hfit
   go_wp2_with (first | (refine wpList_load_wo rfl 86 (.tmp 178) rfl g (r * 8) rfl (nodeV kb sb mb xb (.slice p1 nb c1)) _ RG1.out Tryz.underlying86 rfl (sizeNode _ _ _ _ _) ?_) | (go_at_call 74; refine Hid.out ?_))
   refine hid ?_
   refine (rep08_any _ y1 (n3 : Int) mv (fun x => V.heap.size <= x /\ x < W.heap.size /\ x ≠ g) W (fun x hx => hx.2.1) T1.out).mono ?_
   rintro e W2 ⟨u, rfl, hu, hx2⟩
   have HU := hid hu
   obtain ⟨pu, cu, rfl⟩ := hu.form
   have ROW2 := hid (ROW1.out.below hx2)
   have HX2 : Hid (Keeps (· < V.heap.size) V W2) := hid (HX1.out.tr (Keeps.of_below hx2 fun x (hx : x < V.heap.size) => Nat.lt_of_lt_of_le hx hbase))
   obtain ⟨cs, q1, q2, q3, q4⟩ := ROW2.out
   rw [<- HM.out] at q2
   have kc : ∀ (o : Nat) (v : Value), W.cell? ⟨g, o, none⟩ = some v -> W2.cell? ⟨g, o, none⟩ = some v := fun o v h => ((Keeps.of_below hx2 fun _ h => h : Keeps (· < W.heap.size) W W2).cell (p := ⟨g, o, none⟩) hgl).trans h
   replace f0 := kc _ _ f0
   replace f1 := kc _ _ f1
   replace f2 := kc _ _ f2
   replace f3 := kc _ _ f3
   replace f4 := kc _ _ f4
   replace f5 := kc _ _ f5
   replace f6 := kc _ _ f6
   replace f7 := kc _ _ f7
   have z0 : W2.frozen? ⟨g, r * 8, none⟩ = false := q2.frozenAt _
   have z1 : W2.frozen? ⟨g, r * 8 + 1, none⟩ = false := q2.frozenAt _
   have z2 : W2.frozen? ⟨g, r * 8 + 2, none⟩ = false := q2.frozenAt _
   have z3 : W2.frozen? ⟨g, r * 8 + 3, none⟩ = false := q2.frozenAt _
   have z4 : W2.frozen? ⟨g, r * 8 + 4, none⟩ = false := q2.frozenAt _
   have z5 : W2.frozen? ⟨g, r * 8 + 5, none⟩ = false := q2.frozenAt _
   have z6 : W2.frozen? ⟨g, r * 8 + 6, none⟩ = false := q2.frozenAt _
   have z7 : W2.frozen? ⟨g, r * 8 + 7, none⟩ = false := q2.frozenAt _
   have Q1 := hid q1
   have Q2 := hid q2
   have Q3 := hid q3
   have Q4 := hid q4
   have hgb2 : V.heap.size <= g := hgb
   have hs2 : W.heap.size <= W2.heap.size := hx2.size
   clear hu hx2 kc q1 q2 q3 q4 ROW2 ROW1 HX1
   simp only [RX.kind, RX.set, RX.mn, RX.mx, RX.subs, List.length_cons, List.length_nil, Nat.zero_add] at HU ⊢
   unfold nodeV
   go_upto_region 27 with fail
   refine wp_named ?_
   intro W3 hW3
   have K3 : Hid (Keeps (· ≠ g) W2 W3) := by rw [hW3]; exact hid (((((((((Keeps.refl _ _).setCell (fun e => e rfl) _).setCell (fun e => e rfl) _).setCell (fun e => e rfl) _).setCell (fun e => e rfl) _).setCell (fun e => e rfl) _).setCell (fun e => e rfl) _).setCell (fun e => e rfl) _).setCell (fun e => e rfl) _)
   have R9 : Hid (IsNrow V.heap.size W3 (.slice (some ⟨g, 0, none⟩) m rc) (PP.all.set r (.nd 5 0 (n3 : Int) mv [y1]))) := by
    rw [hW3, HM.out]
    refine hid (IsNrow.turned (by rw [<- HM.out]; exact hrm) Q1.out (by rw [<- HM.out]; exact Q2.out) Q3.out (fun i c t hi ht => (Q4.out i c t hi ht).mono fun x hx => ⟨hx.1, hx.2.1, fun e => hx.2.2 (by rw [e]; rfl)⟩) ?_ ?_)
    ·exact (nodeV_eight _ _ _ _ _ _ _).2
    ·exact HU.out.mono fun x hx => ⟨by rcases hx.2 with h | h; exact h.1; omega, hx.1, fun e => by rcases hx.2 with h | h; exact h.2.2 e; omega⟩
   have K9 : Hid (Keeps (· < V.heap.size) V W3) := hid (HX2.out.tr (K3.out.mono fun x (hx : x < V.heap.size) => by show x ≠ g; omega))
   clear hW3 f0 f1 f2 f3 f4 f5 f6 f7 z0 z1 z2 z3 z4 z5 z6 z7 Q1 Q2 Q3 Q4 HU HX2 K3
   have hset : PP.all.set r (.nd 5 0 (n3 : Int) mv [y1]) = PP.all.take r ++ [.nd 5 0 (n3 : Int) mv [y1]] := by
    have e := take_last (l := PP.all) (by rw [<- HM.out]; omega)
    rw [<- HM.out, <- HR1.out] at e
    conv => lhs; rw [e]
    rw [List.set_append_right _ _ (by rw [List.length_take]; omega), List.length_take, Nat.min_eq_left (by rw [<- HM.out]; omega), Nat.sub_self]
    rfl
   have HSET := hid hset
   clear hset
   go_wp2
   go_roundw
   case rel =>
    refine ⟨k + 1, by omega, by go_num, ?_, ?_, ?_, K9.out⟩
    ·have e7 : (pileR (l.take (k + 1))).unf = UT := by rw [HST.out, HS9.out]
     rw [e7]
     try rfl
     try go_num
    ·have e7 : (pileR (l.take (k + 1))).grp = gr := by rw [HST.out, HS9.out]; exact HGR.out.symm
     rw [e7]
     try rfl
     try go_num
    ·rw [HST.out, HS9.out, <- HSET.out]
     have e8 : (PP.all.set r (.nd 5 0 (n3 : Int) mv [y1])).length = m := by rw [List.length_set]; exact HM.out.symm
     exact R9.out
   case measure => simp [intOf]; omega
  ·have hf1 : ¬ ((UT : Int) <= 16) := by omega
   have hst : PP.step (s0, s1, s2) = PP := by rw [HSTP.out, if_neg (by rw [<- HTT.out, <- HUF.out, <- HUT.out]; exact hfit)]
   have HS9 := hid hst
   clear hst hfit
   go_wp2
   go_roundw
   case rel =>
    refine ⟨k + 1, by omega, by go_num, by rw [HST.out, HS9.out, <- HUF.out], by rw [HST.out, HS9.out, <- HGR.out], by rw [HST.out, HS9.out]; exact ROW1.out, HX1.out⟩
   case measure => simp [intOf]; omega
theorem made08_H (b off c : Nat) (l : List (Nat × Nat × Nat)) (w : World) (hb : b < w.heap.size) (hc : l.length <= c) (hl9 : l.length <= 1000000000000000) (hS : ∀ (i : Nat) (s : Nat × Nat × Nat), l[i]? = some s -> s.1 < 256 /\ s.2.1 < 256 /\ s.2.2 < 256 /\ w.cell? ⟨b, off + i * 3, none⟩ = some (.int .u8 s.1) /\ w.cell? ⟨b, off + i * 3 + 1, none⟩ = some (.int .u8 s.2.1) /\ w.cell? ⟨b, off + i * 3 + 2, none⟩ = some (.int .u8 s.2.2)) : (made08_cut b off c l w hb hc hl9 hS).H := by
 have HS := hid hS
 intro iN hiN hzN0 hzN1 hzN2 R HR n hl9 hc N hmin hNn hN25 hNc HNN HN in0 in1 in2 V R0 X0 HVS u7 u8 u9 u10 u11 u12 u23 u24 u25 u26 u27 u28 u29 u30 u31 u32 u33 u34 u35 u36 u37 u38 u39 u40 u41 u42 u43 u44 u45 u46 u47 u48 u49 u50 u51 u52 u53 u54 u55 u56 u57 u58 u59 u60 u61 u62 u63 u64 u65 u66 u67 u68 u69 u70 u71 u72 u73 u74 u75 u76 u77 u78 u79 u80 u81 u82 u83 u84 u85 u86 u87 u88 u89 u90 u91 u92 u93 u94 u95 u96 u97 u98 u99 u100 u101 u102 u103 u104 u105 u106 u107 u108 u109 u110 u111 u112 u113 u114 u115 u116 u117 u118 u119 u120 u121 u122 u123 u124 u125 u126 u127 u128 u129 u130 u131 u132 u133 u134 u135 u136 u137 u138 u139 u140 u141 u142 u143 u144 u145 u146 u147 u148 u149 u150 u151 u152 u153 u154 u155 u156 u157 u158 u159 u160 u161 u162 u163 u164 u165 u166 u167 u168 u169 u170 u171 u172 u173 u174 u175 u176 u177 u178 u179 u180 u181 u182 u183 u184 k hk wo hlt hki s0 s1 s2 PP u8a u8b u8c ru rc m hm25 uf gr huf16 HST HOK HM HUF HGR HLK in3 in4 in5 in6 in7 W1 B1 ROW1 HX1 d0 d1 d2 kd htm hkd12 hbase HKD hA hB hC hD hE hG HS9 a1 a2
 go_upto_region 12 with fail
 go_cut [48] from 49 to 54 (fun x wx => x = .bool false /\ wx = W1)
 case first =>
  by_cases hq : kd < 7
  ·have a3 : (kd : Int) < 7 := by omega
   have a4 : ¬ ((1 : Int) < m) := by omega
   go_wp2_with fail
   go_meet
   exact ⟨rfl, rfl⟩
  ·have a3 : ¬ ((kd : Int) < 7) := by omega
   go_wp2_with fail
   go_meet
   exact ⟨rfl, rfl⟩
 case rest =>
 obtain ⟨rfl, hwc⟩ := hcut
 replace hwc := hwc.symm
 subst hwc
 go_upto_region 14 with fail
 go_cut [74] from 75 to 80 (fun x wx => x = .bool false /\ wx = W1)
 case first =>
  by_cases hq : kd < 9
  ·have a3 : (kd : Int) < 9 := by omega
   have a4 : ¬ ((1 : Int) < m) := by omega
   go_wp2_with fail
   go_meet
   exact ⟨rfl, rfl⟩
  ·have a3 : ¬ ((kd : Int) < 9) := by omega
   go_wp2_with fail
   go_meet
   exact ⟨rfl, rfl⟩
 case rest =>
 obtain ⟨rfl, hwc⟩ := hcut
 replace hwc := hwc.symm
 subst hwc
 go_upto_region 16 with fail
 go_cut [100] from 101 to 110 (fun x wx => x = .bool false /\ wx = W1)
 case first =>
  by_cases hq : kd = 9
  ·have a6 : ((kd : Int) == 9) = true := by simp [hq]
   by_cases h0 : 0 < m
   ·have a8 : (0 : Int) < m := by omega
    have a9 : ¬ ((gr : Int) < 9) := by omega
    clear hq
    go_wp2_with fail
    go_meet
    exact ⟨rfl, rfl⟩
   ·have a8 : ¬ ((0 : Int) < m) := by omega
    clear hq
    go_wp2_with fail
    go_meet
    exact ⟨rfl, rfl⟩
  ·have a6 : ((kd : Int) == 9) = false := by simp; omega
   go_wp2_with fail
   go_meet
   exact ⟨rfl, rfl⟩
 case rest =>
 obtain ⟨rfl, hwc⟩ := hcut
 replace hwc := hwc.symm
 subst hwc
 go_upto_region 19 with fail
 go_cut [123] from 124 to 138 (fun x wx => x = .bool false /\ wx = W1)
 case first =>
  by_cases hq : 9 < kd
  ·have a7 : (9 : Int) < kd := by omega
   have a8 : ¬ ((0 : Int) < m) := by omega
   go_wp2_with fail
   go_meet
   exact ⟨rfl, rfl⟩
  ·have a7 : ¬ ((9 : Int) < kd) := by omega
   go_wp2_with fail
   go_meet
   exact ⟨rfl, rfl⟩
 case rest =>
 obtain ⟨rfl, hwc⟩ := hcut
 replace hwc := hwc.symm
 subst hwc
 go_wp2
 go_roundw
 case rel =>
  refine ⟨k + 1, by omega, by go_num, by rw [HST.out, HS9.out, <- HUF.out], by rw [HST.out, HS9.out, <- HGR.out], by rw [HST.out, HS9.out]; exact ROW1.out, HX1.out⟩
 case measure => simp [intOf]; omega
end Go.Proofs.YtbiboekhakbnpaaGreatDoor
