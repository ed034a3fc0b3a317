/-
  The maker of automata of positions: a repetition with a bound. Printed by wip/gen/mrep.py.
  The maker of automata of positions: the kinds' table, and make.
-/
import Derived.Test.YtbiboekhakbnpaaGreatDoorOB29
import Derived.Test.YtbiboekhakbnpaaGreatDoorOB08
import Derived.Test.YtbiboekhakbnpaaGreatDoorOB30
import Derived.Test.YtbiboekhakbnpaaGreatDoorOB21
set_option maxRecDepth 100000
set_option maxHeartbeats 16000000
open Go.Lib (hid)
namespace Go.Proofs.YtbiboekhakbnpaaGreatDoor
open Go Go.RowKit Go.Shelf Go.Maps

theorem mrepB (n0 base M : Nat) (F : Nat -> Prop) (m : GM) (k0 : Nat) (s : BS) (mn : Int) (N : Nat) (t : RX) (l : List RX) (p : Option Addr) (n c : Nat) (w : World) (hn0 : n0 <= base) (h : MkS base M F w m) (hr : IsRx (· < n0) w (.agg (nodeV k0 s mn (N : Int) (.slice p n c))) (.nd k0 s mn (N : Int) (t :: l))) (ht : MkOK n0 t) (hf : t.full = true)
  (ok : m.ok) (hm : m.fol.length = m.sets.length) (hN : 1 <= N) (hN16 : N <= 16) (hG : manyG mn (N : Int) = N) (hn : m.sets.length + N * t.cnt <= 448) :
  Calls Tryz.prog 146 #[.pointer (some ⟨M, 0, none⟩), .agg (nodeV k0 s mn (N : Int) (.slice p n c))] w (MkAft base M F w (repsG mn (N : Int) (fun m => t.mkG m) m N).1 (repsG mn (N : Int) (fun m => t.mkG m) m N).2) := by
 have hlen : n = l.length + 1 := by
  obtain ⟨p2, c2, e⟩ := hr.form
  simp [nodeV, RX.subs, RX.kind, RX.set, RX.mn, RX.mx] at e
  exact e.2.1
 have hn1 : 0 < n := by omega
 obtain ⟨b, off, p', c', rfl, hb, hbw, hcap, ⟨e0, e1, e2, e3, e4, e5, e6, e7⟩, hrt⟩ := hr.elem (i := 0) (t := t) rfl
 simp only [Nat.zero_mul, Nat.add_zero] at e0 e1 e2 e3 e4 e5 e6 e7
 have HM := hid h
 have HRT := hid hrt
 have HT := hid ht
 have HFu := hid hf
 have HOK := hid ok
 have HGG := hid hG
 have HFL := hid hm
 have EE := hid (And.intro e0 (And.intro e1 (And.intro e2 (And.intro e3 (And.intro e4 (And.intro e5 (And.intro e6 e7)))))))
 have hMw : M < w.heap.size := (h.lt M h.fm).2
 have hbw0 : n0 <= w.heap.size := by have := (h.lt M h.fm).1; omega
 have hnFb : ¬ F b := fun e => by have := (h.lt b e).1; omega
 obtain ⟨st, hst⟩ : ∃ st, st = repsG mn (N : Int) (fun m => t.mkG m) m N := ⟨_, rfl⟩
 rw [<- hst]
 have HST := hid hst
 have HMU := hid hn
 clear h hr hrt ht hf ok hm hlen hst hG e0 e1 e2 e3 e4 e5 e6 e7 hn
 have hmx : ¬ ((N : Int) = -1) := by omega
 have hmx1 : ((N : Int) == -1) = false := by simp [hmx]
 unfold nodeV
 go_enter Tryz.func146, Tryz.ntmps146
 go_upto_region 5 with fail
 refine wp_named ?_
 intro V hV
 have N0 : Hid (Blk V w.heap.size #[.int .u8 k0, .int .u64 (wd s 0).toNat, .int .u64 (wd s 1).toNat, .int .u64 (wd s 2).toNat, .int .u64 (wd s 3).toNat, .int .i64 mn, .int .i64 (N : Int), .slice (some ⟨b, off, none⟩) n c] 86) := by rw [hV]; exact hid (((Blk.new _ _ _).alloc _).alloc _)
 have R0 : Hid (Blk V (w.heap.size + 1) (zeroV false) 131) := by rw [hV]; exact hid ((Blk.at (Blk.new _ _ _) (by simp)).alloc _)
 have O0 : Hid (Blk V (w.heap.size + 1 + 1) (zeroV true) 131) := by rw [hV]; exact hid (Blk.at (Blk.new _ _ _) (by simp))
 have E0 : Hid (Ext w V) := by rw [hV]; exact hid ((((Ext.refl w).alloc _).alloc _).alloc _)
 have HSZ : Hid (V.heap.size = w.heap.size + 1 + 1 + 1) := hid (by rw [hV]; simp)
 clear hV
 have hVs : w.heap.size + 1 + 1 < V.heap.size := by rw [HSZ.out]; omega
 have MV : Hid (MkS base M F V m) := hid (HM.out.keeps E0.out.keeps fun x hx => (HM.out.lt x hx).2)
 go_wp2
 go_loopw [18] (fun iv W => ∃ k : Nat, k <= N /\ iv = .int .i64 k /\ PreI base M F (repsG mn (N : Int) (fun m => t.mkG m) m k) (w.heap.size + 1 + 1) V W) (fun iv _ => N - (intOf iv).toNat)
 case atStart =>
  refine ⟨0, by omega, rfl, ?_⟩
  exact ⟨⟨F, MV.out, fun _ h => h, fun _ h => .inl h⟩, by show Blk _ _ (partV ⟨0, 0, true⟩) _; rw [partV_zero]; exact O0.out, Keeps.refl _ _⟩
 case round =>
  obtain ⟨k, hk, rfl, hI⟩ := hrel
  obtain ⟨wo, rfl⟩ : ∃ wo : World, wo = wr := ⟨_, rfl⟩
  have HI := hid hI
  clear hI
  by_cases hlt : k < N
  ·have hki : (k : Int) < N := by omega
   obtain ⟨⟨F', hM', hF1, hF2⟩, hO, hKI⟩ := HI.out
   have hpre := reps_pre HFu.out HOK.out mn (N : Int) k
   have hmk := mkG_ok t HFu.out _ hpre.ok
   have hal : repsG mn (N : Int) (fun m => t.mkG m) m (k + 1) = repG mn (N : Int) k (repsG mn (N : Int) (fun m => t.mkG m) m k).2 (t.mkG (repsG mn (N : Int) (fun m => t.mkG m) m k).1) := rfl
   have hmul : (k + 1) * t.cnt <= N * t.cnt := Nat.mul_le_mul_right _ hlt
   have hmul2 : (k + 1) * t.cnt = k * t.cnt + t.cnt := Nat.succ_mul _ _
   have hmu := HMU.out
   obtain ⟨sk, hsk⟩ : ∃ sk, sk = repsG mn (N : Int) (fun m => t.mkG m) m k := ⟨_, rfl⟩
   rw [<- hsk] at hO hM' hal hpre hmk
   obtain ⟨m2, p2, hmp⟩ : ∃ m2 p2, t.mkG sk.1 = (m2, p2) := ⟨_, _, rfl⟩
   rw [hmp] at hal hmk
   have hl1 := hmk.len
   have hl2 := hpre.len
   have hl3 := hmk.ok.len
   have hgp := hmk.gp
   dsimp only at hl1 hl3 hgp
   have HPB : Hid (PBlt sk.2.lst m2.fol.length) := hid (hpre.gp.lst.mono (by omega))
   have HP2 : Hid (PBlt p2.lst m2.fol.length) := hid (hgp.lst.mono (by omega))
   have HP4 : Hid (m2.fol.length <= 448) := hid (by omega)
   have CM : Hid (∀ W, MkS base M F' W sk.1 -> IsRx (· < n0) W (.agg (nodeV t.kind t.set t.mn t.mx (.slice p' t.subs.length c'))) t -> Calls Tryz.prog 68 #[.pointer (some ⟨M, 0, none⟩), .agg (nodeV t.kind t.set t.mn t.mx (.slice p' t.subs.length c'))] W (MkAft base M F' W m2 p2)) := hid fun W h1 h2 => by
    have := HT.out base M F' sk.1 W _ hn0 h1 h2 hpre.ok hpre.ok.len (by omega)
    rw [hmp] at this
    exact this
   have HAL := hid hal
   have hnO : ¬ F' (w.heap.size + 1 + 1) := fun e => by rcases hF2 _ e with h | h; exact absurd (HM.out.lt _ h).2 (by omega); omega
   have hnN : ¬ F' w.heap.size := fun e => by rcases hF2 _ e with h | h; exact absurd (HM.out.lt _ h).2 (by omega); omega
   have KO : Hid (Keeps (fun x => x < w.heap.size /\ ¬ F x) w wo) := hid ((E0.out.keeps.mono fun x hx => hx.1).tr (hKI.mono fun x hx => ⟨by have := hx.1; omega, hx.2, by have := hx.1; omega⟩))
   have hws := hKI.size
   have NO : Hid (Blk wo w.heap.size #[.int .u8 k0, .int .u64 (wd s 0).toNat, .int .u64 (wd s 1).toNat, .int .u64 (wd s 2).toNat, .int .u64 (wd s 3).toNat, .int .i64 mn, .int .i64 (N : Int), .slice (some ⟨b, off, none⟩) n c] 86) := hid (N0.out.keeps hKI ⟨by omega, fun e => by have := (HM.out.lt _ e).2; omega, by omega⟩)
   have O1 := hid hO
   have M1 := hid hM'
   have R1 : Hid (IsRx (· < n0) wo (.agg (nodeV t.kind t.set t.mn t.mx (.slice p' t.subs.length c'))) t) := hid (HRT.out.keeps KO.out fun x hx => ⟨by omega, fun e => by have := (HM.out.lt x e).1; omega⟩)
   have ec : ∀ (o : Nat) (u : Value), w.cell? ⟨b, o, none⟩ = some u -> wo.cell? ⟨b, o, none⟩ = some u := fun o u h => (KO.out.cell (p := ⟨b, o, none⟩) ⟨hbw, hnFb⟩).trans h
   obtain ⟨e0, e1, e2, e3, e4, e5, e6, e7⟩ := EE.out
   replace e0 := ec _ _ e0
   replace e1 := ec _ _ e1
   replace e2 := ec _ _ e2
   replace e3 := ec _ _ e3
   replace e4 := ec _ _ e4
   replace e5 := ec _ _ e5
   replace e6 := ec _ _ e6
   replace e7 := ec _ _ e7
   have n5 : wo.cell? ⟨w.heap.size, 5, none⟩ = some (.int .i64 mn) := NO.out.cell 5
   have n6 : wo.cell? ⟨w.heap.size, 6, none⟩ = some (.int .i64 (N : Int)) := NO.out.cell 6
   have n7 : wo.cell? ⟨w.heap.size, 7, none⟩ = some (.slice (some ⟨b, off, none⟩) n c) := NO.out.cell 7
   have HF1 := hid hF1
   have HF2 := hid hF2
   have HKI := hid hKI
   have HNO := hid hnO
   have HNN := hid hnN
   have CM1 := hid (CM.out wo M1.out R1.out)
   clear hal hmp hsk hO hM' hF1 hF2 hKI hnO hnN HI hpre hmk hl1 hl2 hl3 hgp hmul hmul2 hmu ec CM M1 R1
   go_wp2_with fail
   refine CM1.out.mono ?_
   rintro e w2 ⟨rfl, hF'', hx, hsz⟩
   have hOl : w.heap.size + 1 + 1 < wo.heap.size := O1.out.lt
   have O2 := hid (O1.out.keeps hx ⟨O1.out.lt, HNO.out⟩)
   have N2 := hid (NO.out.keeps hx ⟨NO.out.lt, HNN.out⟩)
   obtain ⟨F2, g1, g2, g3⟩ := hF''
   have hn2 : ¬ F2 (w.heap.size + 1 + 1) := fun e => by rcases g3 _ e with h | h; exact HNO.out h; omega
   have hnn2 : ¬ F2 w.heap.size := fun e => by rcases g3 _ e with h | h; exact HNN.out h; omega
   have M2 := hid g1
   have G2 := hid g2
   have G3 := hid g3
   have HN2 := hid hn2
   have HNN2 := hid hnn2
   have HKx := hid hx
   have HS2 := hid hsz
   clear hx g1 g2 g3 hn2 hnn2 hsz CM1 O1 NO e0 e1 e2 e3 e4 e5 e6 e7 n5 n6 n7
   unfold partV
   go_upto_region 9 with fail
   refine wp_named ?_
   intro W3 hW3
   have X3 : Hid (Blk W3 w2.heap.size (partV p2) 131) := by rw [hW3]; exact hid (Blk.new _ _ _)
   have E3 : Hid (Ext w2 W3) := by rw [hW3]; exact hid ((Ext.refl w2).alloc _)
   have O3 := hid (O2.out.ext E3.out)
   have N3 := hid (N2.out.ext E3.out)
   have M3 : Hid (MkS base M F2 W3 m2) := hid (M2.out.keeps E3.out.keeps fun x hx => (M2.out.lt x hx).2)
   have hx2 : ¬ F2 w2.heap.size := fun e => by have := (M2.out.lt _ e).2; omega
   have HX2 := hid hx2
   clear hW3 hx2 O2 N2
   have n5 : W3.cell? ⟨w.heap.size, 5, none⟩ = some (.int .i64 mn) := N3.out.cell 5
   have n6 : W3.cell? ⟨w.heap.size, 6, none⟩ = some (.int .i64 (N : Int)) := N3.out.cell 6
   obtain ⟨a0, a1, a2, a3, a4, a5, a6, a7, a8, a9, a10, a11, a12, a13, a14⟩ := X3.out.part
   try dsimp only at a0 a1 a2 a3 a4 a5 a6 a7 a8 a9 a10 a11 a12 a13 a14
   obtain ⟨m4, hm4⟩ : ∃ m4, m4 = m2 := ⟨_, rfl⟩
   obtain ⟨W5, hW5⟩ : ∃ W5, W5 = W3 := ⟨_, rfl⟩
   have K5 : Hid (Keeps (fun x => x < W3.heap.size /\ ¬ F2 x) W3 W3) := hid (Keeps.refl _ _)
   have X5 := X3
   have O5 := O3
   have M5 : Hid (MkS base M F2 W3 m4) := hid (by rw [hm4]; exact M3.out)
   have P5 : Hid (PBlt sk.2.lst m4.fol.length /\ m4.fol.length <= 448) := hid (by rw [hm4]; exact ⟨HPB.out, HP4.out⟩)
   have HM4 := hid hm4
   clear hm4 W5 hW5
   obtain ⟨eb, heb⟩ : ∃ eb, eb = p2.emp := ⟨_, rfl⟩
   rw [<- heb] at a14
   have HEB := hid heb
   clear heb
   have hz14 : W3.frozen? ⟨w2.heap.size, 14, none⟩ = false := X5.out.frozen 14
   cases eb
   all_goals
    go_upto_region 12 with fail
    refine wp_named ?_
    intro W6 hW6
    obtain ⟨e6, he6⟩ : ∃ e6, e6 = (p2.emp || decide (mn <= (k : Int))) := ⟨_, rfl⟩
    obtain ⟨p6, hp6⟩ : ∃ p6 : GP, p6 = ⟨p2.fst, p2.lst, e6⟩ := ⟨_, rfl⟩
    have X6 : Hid (Blk W6 w2.heap.size (partV p6) 131) := by
     rw [hp6, hW6, he6, <- HEB.out]
     exact hid (X5.out.set 14 _)
    have K6 : Hid (Keeps (· ≠ w2.heap.size) W3 W6) := by rw [hW6]; exact hid ((Keeps.refl (· ≠ w2.heap.size) _).setCell (p := ⟨w2.heap.size, 14, none⟩) (fun h => h rfl) _)
    have O6 := hid (O5.out.keeps K6.out (by have := O3.out.lt; have := HS2.out; omega))
    have M6 : Hid (MkS base M F2 W6 m4) := hid (M5.out.keeps K6.out fun x hx e => HX2.out (e ▸ hx))
    try clear n6
    clear hW6 n5 a0 a1 a2 a3 a4 a5 a6 a7 a8 a9 a10 a11 a12 a13 a14 hz14
    have HE6 := hid he6
    clear he6
    have HP6 := hid hp6
    clear hp6
    have CT : Hid (Calls Tryz.prog 143 #[.pointer (some ⟨M, 0, none⟩), .agg (partV sk.2), .agg (partV p6)] W6 fun e w' => e = .returned (.agg (partV (thenG m4 sk.2 p6).2)) /\ MkS base M F2 w' (thenG m4 sk.2 p6).1 /\ Keeps (fun x => x < W6.heap.size /\ ¬ F2 x) W6 w') := hid (mthen_any base M F2 m4 sk.2 p6 W6 M6.out P5.out.1 P5.out.2)
    have hfin : repsG mn (N : Int) (fun m => t.mkG m) m (k + 1) = thenG m4 sk.2 p6 := by
     rw [HAL.out, HP6.out, HE6.out]
     unfold repG
     rw [if_neg (fun h => hmx h.1), <- HM4.out]
    have HFIN := hid hfin
    clear hfin
    obtain ⟨m7, p7, hmp7⟩ : ∃ m7 p7, thenG m4 sk.2 p6 = (m7, p7) := ⟨_, _, rfl⟩
    rw [hmp7] at CT HFIN
    dsimp only at CT
    clear hmp7
    go_wp2_with (first | (refine wpList_load_w rfl 131 (.tmp 6) rfl (w.heap.size + 1 + 1) rfl (partV sk.2) _ O6.out.range Tryz.underlying131 rfl (sizePart _) ?_) | (refine wpList_load_w rfl 131 (.tmp 8) rfl w2.heap.size rfl (partV p6) _ X6.out.range Tryz.underlying131 rfl (sizePart _) ?_))
    refine CT.out.mono ?_
    rintro e w8 ⟨rfl, hF3, hx⟩
    have O8 := hid (O6.out.keeps hx ⟨O6.out.lt, HN2.out⟩)
    have M8 := hid hF3
    have HKy := hid hx
    clear hx hF3 CT
    go_wp2_with (refine wpList_store_row rfl 131 (.tmp 6) (.tmp 54) rfl (w.heap.size + 1 + 1) (partV p7) rfl rfl 131 (partV sk.2) O8.out (sizePart _) rfl (onePart _) ?_; refine Hid.out ?_)
    refine hid ?_
    obtain ⟨W9, hW9⟩ : ∃ W, W = w8.setRow (w.heap.size + 1 + 1) (partV p7) := ⟨_, rfl⟩
    rw [<- hW9]
    have O9 : Hid (Blk W9 (w.heap.size + 1 + 1) (partV p7) 131) := by rw [hW9]; exact hid O8.out.setRow
    have K9 : Hid (Keeps (· ≠ w.heap.size + 1 + 1) w8 W9) := by rw [hW9]; exact hid (keeps_row _ _ _)
    clear hW9
    go_wp2
    go_roundw
    case rel =>
     refine ⟨k + 1, by omega, by go_num, ?_⟩
     rw [HFIN.out]
     have h1 := HKI.out.size
     have h2 := HS2.out
     have h3 := E3.out.size
     have h4 := K6.out.size
     have h5 := K5.out.size
     refine ⟨⟨F2, M8.out.keeps K9.out fun x hx e => HN2.out (e ▸ hx), fun x h => G2.out x (HF1.out x h), fun x h => by rcases G3.out x h with h | h; exact HF2.out x h; exact .inr (by omega)⟩, O9.out, ?_⟩
     have hq : ∀ x, x < V.heap.size -> ¬ F x -> ¬ F2 x := fun x h h6 e => by rcases G3.out x e with h7 | h7; (rcases HF2.out x h7 with h8 | h8; exact h6 h8; omega); omega
     have hq1 : ∀ x, x < V.heap.size -> ¬ F x -> ¬ F' x := fun x h h6 e => hq x h h6 (G2.out x e)
     exact HKI.out.tr ((HKx.out.mono fun x hx => ⟨by have := hx.1; omega, hq1 x hx.1 hx.2.1⟩).tr ((E3.out.keeps.mono fun x hx => by have := hx.1; omega).tr ((K5.out.mono fun x hx => ⟨by have := hx.1; omega, hq x hx.1 hx.2.1⟩).tr ((K6.out.mono fun x hx => by have := hx.1; omega).tr ((HKy.out.mono fun x hx => ⟨by have := hx.1; omega, hq x hx.1 hx.2.1⟩).tr (K9.out.mono fun x hx => hx.2.2))))))
    case measure => simp [intOf]; omega
  ·obtain rfl : k = N := by omega
   have hkn : ¬ ((k : Int) < k) := by omega
   obtain ⟨hF', hO, hK⟩ := HI.out
   rw [<- HST.out] at hF' hO
   have HF' := hid hF'
   have O3 := hid hO
   have HK := hid hK
   have R3 : Hid (Blk wo (w.heap.size + 1) (zeroV false) 131) := hid (R0.out.keeps hK ⟨R0.out.lt, fun e => by have := (HM.out.lt _ e).2; omega, by omega⟩)
   clear hF' hO hK HI
   go_wp2_with (first | (refine wpList_load_w rfl 131 (.tmp 6) rfl (w.heap.size + 1 + 1) rfl (partV st.2) _ O3.out.range Tryz.underlying131 rfl (sizePart _) ?_) | (refine wpList_store_row rfl 131 (.tmp 4) (.tmp 56) rfl (w.heap.size + 1) (partV st.2) rfl rfl 131 (zeroV false) R3.out (sizePart _) rfl (onePart _) ?_; refine Hid.out ?_))
   refine hid ?_
   obtain ⟨V3, hV3⟩ : ∃ W, W = wo.setRow (w.heap.size + 1) (partV st.2) := ⟨_, rfl⟩
   rw [<- hV3]
   have R9 : Hid (Blk V3 (w.heap.size + 1) (partV st.2) 131) := by rw [hV3]; exact hid R3.out.setRow
   have K9 : Keeps (· ≠ w.heap.size + 1) wo V3 := by rw [hV3]; exact keeps_row _ _ _
   clear hV3
   go_wp2
   obtain ⟨m0, m1, m2, m3, m4, m5, m6, m7, m8, m9, m10, m11, m12, m13, m14⟩ := R9.out.part
   refine bodyPost_ret (v := .agg (partV st.2)) (by simp [results, Tryz.results146, partV, go_sem, m0, m1, m2, m3, m4, m5, m6, m7, m8, m9, m10, m11, m12, m13, m14]) rfl ⟨rfl, ?_, ?_, ?_⟩
   ·obtain ⟨F', h1, h2, h3⟩ := HF'.out
    exact ⟨F', h1.keeps K9 fun x hx e => by (rcases h3 x hx with h | h; · exact absurd (HM.out.lt x h).2 (by omega)); omega, h2, fun x hx => (h3 x hx).imp id fun h => by omega⟩
   ·exact (E0.out.keeps.mono fun x hx => hx.1).tr ((HK.out.mono fun x hx => ⟨by have := hx.1; omega, hx.2, by have := hx.1; omega⟩).tr (K9.mono fun x hx => by have := hx.1; omega))
   ·have := K9.size; have := HK.out.size; omega
def kindsV (M X : Nat) : Array Value := #[.func (.func 139) #[] #[], .func (.func 140) #[] #[], .func (.func 141) #[] #[.pointer (some ⟨X, 0, none⟩)], .func (.func 142) #[] #[.pointer (some ⟨X, 0, none⟩)],
 .func (.func 144) #[] #[.pointer (some ⟨X, 0, none⟩)], .func (.func 146) #[.pointer (some ⟨M, 0, none⟩)] #[], .func (.func 147) #[] #[.pointer (some ⟨X, 0, none⟩)]]
theorem kinds_any (M : Nat) (w : World) : Calls Tryz.prog 113 #[.pointer (some ⟨M, 0, none⟩)] w fun e w' => e = .returned (.agg (kindsV M w.heap.size)) /\ Ext w w' /\ w'.cell? ⟨w.heap.size, 0, none⟩ = some (.pointer (some ⟨M, 0, none⟩)) := by
 go_enter Tryz.func113, Tryz.ntmps113
 go_wp2
 refine post_named ?_
 intro V hV
 have R1 : Hid (Blk V (w.heap.size + 1) (kindsV M w.heap.size) 172) := by
  rw [hV]
  exact hid (Blk.at (Blk.new _ _ _) (by simp))
 have B0 : Hid (Blk V w.heap.size #[.pointer (some ⟨M, 0, none⟩)] 124) := by rw [hV]; exact hid ((Blk.new _ _ _).alloc _)
 have X1 : Ext w V := by
  rw [hV]
  exact ((Ext.refl w).alloc _).alloc _
 clear hV
 have m0 := R1.out.cell 0
 have m1 := R1.out.cell 1
 have m2 := R1.out.cell 2
 have m3 := R1.out.cell 3
 have m4 := R1.out.cell 4
 have m5 := R1.out.cell 5
 have m6 := R1.out.cell 6
 simp only [kindsV, List.getElem?_toArray, List.getElem?_cons_zero, List.getElem?_cons_succ] at m0 m1 m2 m3 m4 m5 m6
 refine bodyPost_ret (v := .agg (kindsV M w.heap.size)) (by simp [results, Tryz.results113, kindsV, go_sem, m0, m1, m2, m3, m4, m5, m6]) rfl ⟨rfl, X1, B0.out.cell 0⟩
def MkClo (base M : Nat) (F : Nat -> Prop) (w : World) (m : GM) (p : GP) (e : Ending) (w' : World) : Prop :=
 e = .returned (.agg (partV p)) /\ (∃ F', MkS base M F' w' m /\ (∀ x, F x -> F' x) /\ ∀ x, F' x -> F x \/ w.heap.size <= x) /\ Keeps (fun x => x < w.heap.size /\ ¬ F x) w w'
def kF (k : Nat) : FuncId := if k = 1 then 140 else if k = 2 then 141 else if k = 3 then 142 else if k = 4 then 144 else if k = 5 then 146 else 147
def kArgs (k M X : Nat) (v : Value) : Array Value := if k = 1 then #[v] else if k = 5 then #[.pointer (some ⟨M, 0, none⟩), v] else #[v, .pointer (some ⟨X, 0, none⟩)]
def EffK.tab (M n9 : Nat) : Eff (Move false (fun _ => False)) where
 P := fun v => ∃ X, v = .agg (kindsV M X) /\ n9 <= X
 H := fun v W => ∀ X, v = .agg (kindsV M X) -> X < W.heap.size /\ W.cell? ⟨X, 0, none⟩ = some (.pointer (some ⟨M, 0, none⟩))
 wit := .agg (kindsV M n9)
 pw := ⟨n9, rfl, Nat.le_refl _⟩
 st := fun _ _ _ hm _ h X e => ⟨Nat.lt_of_lt_of_le (h X e).1 hm.size, ((Keeps.of_below hm.below fun _ h => h : Keeps (· < _) _ _).cell (p := ⟨X, 0, none⟩) (h X e).1).trans (h X e).2⟩
theorem kindsV_inj {M X Y : Nat} (h : Value.agg (kindsV M X) = .agg (kindsV M Y)) : X = Y := by
 injection h with h
 have := congrArg (fun a : Array Value => a[2]?) h
 simp [kindsV] at this
 exact this
theorem kinds_ix (M X : Nat) (W : World) :
  (Instr.index 172 (.agg (kindsV M X)) (.int .u8 1)).run Tryz.prog W = .ok (.func (.func 140) #[] #[]) W /\
  (Instr.index 172 (.agg (kindsV M X)) (.int .u8 2)).run Tryz.prog W = .ok (.func (.func 141) #[] #[.pointer (some ⟨X, 0, none⟩)]) W /\
  (Instr.index 172 (.agg (kindsV M X)) (.int .u8 3)).run Tryz.prog W = .ok (.func (.func 142) #[] #[.pointer (some ⟨X, 0, none⟩)]) W /\
  (Instr.index 172 (.agg (kindsV M X)) (.int .u8 4)).run Tryz.prog W = .ok (.func (.func 144) #[] #[.pointer (some ⟨X, 0, none⟩)]) W /\
  (Instr.index 172 (.agg (kindsV M X)) (.int .u8 5)).run Tryz.prog W = .ok (.func (.func 146) #[.pointer (some ⟨M, 0, none⟩)] #[]) W /\
  (Instr.index 172 (.agg (kindsV M X)) (.int .u8 6)).run Tryz.prog W = .ok (.func (.func 147) #[] #[.pointer (some ⟨X, 0, none⟩)]) W := by
 refine ⟨?_, ?_, ?_, ?_, ?_, ?_⟩ <;> simp [Instr.index, asIntOf, run_underlying Tryz.underlying172, part, Tryz.isAgg132, Tryz.sizeOf132, kindsV, go_sem]
theorem mmake_core (n0 base M : Nat) (F : Nat -> Prop) (m m2 : GM) (p2 : GP) (k : Nat) (s : BS) (mn mx : Int) (l : List RX) (p : Option Addr) (n c : Nat) (w : World) (hn0 : n0 <= base) (h : MkS base M F w m) (hr : IsRx (· < n0) w (.agg (nodeV k s mn mx (.slice p n c))) (.nd k s mn mx l)) (h1 : 1 <= k) (h6 : k <= 6)
  (HCl : ∀ (W : World) (X : Nat), MkS base M F W m -> IsRx (· < n0) W (.agg (nodeV k s mn mx (.slice p n c))) (.nd k s mn mx l) -> W.cell? ⟨X, 0, none⟩ = some (.pointer (some ⟨M, 0, none⟩)) -> ¬ F X -> Calls Tryz.prog (kF k) (kArgs k M X (.agg (nodeV k s mn mx (.slice p n c)))) W (MkClo base M F W m2 p2)) :
  Calls Tryz.prog 68 #[.pointer (some ⟨M, 0, none⟩), .agg (nodeV k s mn mx (.slice p n c))] w (MkAft base M F w m2 p2) := by
 have HM := hid h
 have HR := hid hr
 have HCL := hid HCl
 have hMw : M < w.heap.size := (h.lt M h.fm).2
 have hbw0 : n0 <= w.heap.size := by have := (h.lt M h.fm).1; omega
 clear h hr HCl
 unfold nodeV
 go_enter Tryz.func68, Tryz.ntmps68
 go_upto_region 1 with fail
 refine wp_named ?_
 intro V hV
 have N0 : Hid (Blk V w.heap.size (nodeV k s mn mx (.slice p n c)) 86) := by rw [hV]; exact hid ((Blk.new _ _ _).alloc _)
 have R0 : Hid (Blk V (w.heap.size + 1) (zeroV false) 131) := by rw [hV]; exact hid (Blk.at (Blk.new _ _ _) (by simp))
 have E0 : Hid (Ext w V) := by rw [hV]; exact hid (((Ext.refl w).alloc _).alloc _)
 have HSZ : Hid (V.heap.size = w.heap.size + 1 + 1) := hid (by rw [hV]; simp)
 clear hV
 have hVs : w.heap.size + 1 < V.heap.size := by rw [HSZ.out]; omega
 have e0 : V.cell? ⟨w.heap.size, 0, none⟩ = some (.int .u8 k) := N0.out.cell 0
 have e1 : V.cell? ⟨w.heap.size, 1, none⟩ = some (.int .u64 (wd s 0).toNat) := N0.out.cell 1
 have e2 : V.cell? ⟨w.heap.size, 2, none⟩ = some (.int .u64 (wd s 1).toNat) := N0.out.cell 2
 have e3 : V.cell? ⟨w.heap.size, 3, none⟩ = some (.int .u64 (wd s 2).toNat) := N0.out.cell 3
 have e4 : V.cell? ⟨w.heap.size, 4, none⟩ = some (.int .u64 (wd s 3).toNat) := N0.out.cell 4
 have e5 : V.cell? ⟨w.heap.size, 5, none⟩ = some (.int .i64 mn) := N0.out.cell 5
 have e6 : V.cell? ⟨w.heap.size, 6, none⟩ = some (.int .i64 mx) := N0.out.cell 6
 have e7 : V.cell? ⟨w.heap.size, 7, none⟩ = some (.slice p n c) := N0.out.cell 7
 have hNl : w.heap.size < V.heap.size := N0.out.lt
 have hk : k = 1 \/ k = 2 \/ k = 3 \/ k = 4 \/ k = 5 \/ k = 6 := by omega
 clear h1 h6
 rcases hk with rfl | rfl | rfl | rfl | rfl | rfl
 all_goals
  refine wp_region_reg false (fun _ => False) (by kernel_rfl) 6 [0, 1, 0, 4, 15, 0, 63, 127] (fun i => i == 1 || i == 6 || i == 7) (by kernel_rfl) (fun i => if i = 1 then EffK.tab M w.heap.size else Eff.any _) ?_
  intro C hC hne
  have HC := hid hC
  have f0 := regCell hC (p := ⟨w.heap.size, 0, none⟩) hNl (fun h => h) e0
  have f1 := regCell hC (p := ⟨w.heap.size, 1, none⟩) hNl (fun h => h) e1
  have f2 := regCell hC (p := ⟨w.heap.size, 2, none⟩) hNl (fun h => h) e2
  have f3 := regCell hC (p := ⟨w.heap.size, 3, none⟩) hNl (fun h => h) e3
  have f4 := regCell hC (p := ⟨w.heap.size, 4, none⟩) hNl (fun h => h) e4
  have f5 := regCell hC (p := ⟨w.heap.size, 5, none⟩) hNl (fun h => h) e5
  have f6 := regCell hC (p := ⟨w.heap.size, 6, none⟩) hNl (fun h => h) e6
  have f7 := regCell hC (p := ⟨w.heap.size, 7, none⟩) hNl (fun h => h) e7
  clear hC e0 e1 e2 e3 e4 e5 e6 e7
  repeat (refine regStep (fun K hK => ?_); first | (refine regN rfl ?_; try go_simp; refine hK _ _ ?_; clear hK K) | (refine regF rfl rfl ?_; unfold floatAt; go_simp; refine hK _ _ ?_; clear hK K))
  refine regStep (fun K hK => ?_)
  refine regE rfl rfl (EffK.tab M w.heap.size) rfl (fun W hW hN => ?_) (fun v hv => ?_)
  ·have hM := (HC.out W).1 hW
   clear hW hN hK K
   go_simp
   refine effT_call ((kinds_any M W).mono ?_)
   rintro e w' ⟨rfl, hx, hc⟩
   have hz := hM.size
   exact ⟨_, rfl, Move.ext hx, ⟨_, rfl, by omega⟩, fun Y hY => by have := kindsV_inj hY; subst this; exact ⟨World.block_lt_of_cell? _ _ hc, hc⟩⟩
  obtain ⟨X, rfl, hXn⟩ := hv
  have ix1 := fun W => (kinds_ix M X W).1
  have ix2 := fun W => (kinds_ix M X W).2.1
  have ix3 := fun W => (kinds_ix M X W).2.2.1
  have ix4 := fun W => (kinds_ix M X W).2.2.2.1
  have ix5 := fun W => (kinds_ix M X W).2.2.2.2.1
  have ix6 := fun W => (kinds_ix M X W).2.2.2.2.2
  go_simp
  refine hK _ _ ?_
  clear hK K
  repeat (refine regStep (fun K hK => ?_); first | (refine regN rfl ?_; try go_simp; refine hK _ _ ?_; clear hK K) | (refine regF rfl rfl ?_; unfold floatAt; go_simp; refine hK _ _ ?_; clear hK K))
  refine regNil (fun W hW hH => ?_)
  have hMv := (HC.out W).1 hW
  obtain ⟨hXl, hXc⟩ : X < W.heap.size /\ W.cell? ⟨X, 0, none⟩ = some (.pointer (some ⟨M, 0, none⟩)) := (hH _ (List.mem_of_getElem? (show _ = some _ from rfl : _[0]? = some _))) X rfl
  have MW : Hid (MkS base M F W m) := hid ((HM.out.keeps E0.out.keeps fun x hx => (HM.out.lt x hx).2).keeps (Keeps.of_below hMv.below fun _ h => h : Keeps (· < V.heap.size) V W) fun x hx => by have := (HM.out.lt x hx).2; omega)
  have IW := hid ((HR.out.keeps E0.out.keeps fun x hx => by omega).keeps (Keeps.of_below hMv.below fun _ h => h : Keeps (· < V.heap.size) V W) fun x hx => by omega)
  have RW := hid (R0.out.below hMv.below R0.out.lt)
  have KW : Hid (Keeps (· < w.heap.size) w W) := hid (E0.out.keeps.tr (Keeps.of_below hMv.below fun x hx => by omega : Keeps (· < w.heap.size) V W))
  have hsW : w.heap.size + 1 < W.heap.size := by have := hMv.size; omega
  have hnX : ¬ F X := fun e => by have := (HM.out.lt X e).2; omega
  have CC := hid (HCL.out W X MW.out IW.out hXc hnX)
  clear hMv hW hH HC hne f0 f1 f2 f3 f4 f5 f6 f7 MW IW HCL hXc ix1 ix2 ix3 ix4 ix5 ix6
  go_wp2_with fail
  refine CC.out.mono ?_
  rintro e w3 ⟨rfl, hF', hx⟩
  have hnF : ∀ k, w.heap.size <= k -> ¬ F k := fun k hk e => by have := (HM.out.lt k e).2; omega
  have R3 : Hid (Blk w3 (w.heap.size + 1) (zeroV false) 131) := hid (RW.out.keeps hx ⟨by omega, hnF _ (by omega)⟩)
  have HF' := hid hF'
  have HK := hid hx
  have hs3 := hx.size
  clear hx hF' CC
  go_wp2_with (refine wpList_store_row rfl 131 (.tmp 4) (.tmp 11) rfl (w.heap.size + 1) (partV p2) rfl rfl 131 (zeroV false) R3.out (sizePart _) rfl (onePart _) ?_; refine Hid.out ?_)
  refine hid ?_
  obtain ⟨V3, hV3⟩ : ∃ W, W = w3.setRow (w.heap.size + 1) (partV p2) := ⟨_, rfl⟩
  rw [<- hV3]
  have R9 : Hid (Blk V3 (w.heap.size + 1) (partV p2) 131) := by rw [hV3]; exact hid R3.out.setRow
  have K9 : Keeps (· ≠ w.heap.size + 1) w3 V3 := by rw [hV3]; exact keeps_row _ _ _
  clear hV3
  go_wp2
  obtain ⟨m0, m1, m2, m3, m4, m5, m6, m7, m8, m9, m10, m11, m12, m13, m14⟩ := R9.out.part
  refine bodyPost_ret (v := .agg (partV p2)) (by simp [results, Tryz.results68, partV, go_sem, m0, m1, m2, m3, m4, m5, m6, m7, m8, m9, m10, m11, m12, m13, m14]) rfl ⟨rfl, ?_, ?_, ?_⟩
  ·obtain ⟨F', h1, h2, h3⟩ := HF'.out
   refine ⟨F', h1.keeps K9 fun x hx e => by (rcases h3 x hx with h | h; exact hnF _ (by omega) h; omega), h2, fun x hx => (h3 x hx).imp id fun h => by omega⟩
  ·exact (KW.out.mono fun x hx => hx.1).tr ((HK.out.mono fun x hx => ⟨by have := hx.1; omega, hx.2⟩).tr (K9.mono fun x hx => by have := hx.1; omega))
  ·have := K9.size; omega
theorem MkAft.clo {base M : Nat} {F : Nat -> Prop} {w : World} {m : GM} {p : GP} {e : Ending} {w' : World} (h : MkAft base M F w m p e w') : MkClo base M F w m p e w' := ⟨h.1, h.2.1, h.2.2.1⟩
theorem sub_len {l : List RX} : ∀ {t : RX}, t ∈ l -> t.size <= RX.sizes l := by
 induction l with
 | nil => intro t h; cases h
 | cons x l ih =>
  intro t h
  rw [RX.sizes]
  rcases List.mem_cons.1 h with rfl | h
  ·omega
  ·have := ih h; omega
theorem len_sz : ∀ (l : List RX), l.length <= RX.sizes l
 | [] => Nat.zero_le _
 | t :: l => by rw [RX.sizes, List.length_cons]; have := size_pos t; have := len_sz l; omega
theorem mkOK_any (n0 : Nat) (t : RX) : t.fine -> t.size <= 10000 -> MkOK n0 t := by
 induction t using RX.ind with
 | h k s mn mx l ih =>
  intro hf hs
  obtain ⟨hr, hl⟩ := fine_nd.1 hf
  obtain ⟨_, q2, q3, q4, q5, q6, _⟩ := right_set hr
  rw [RX.size] at hs
  have hlen := len_sz l
  have ih : ∀ t ∈ l, MkOK n0 t := fun t ht => ih t ht (hl t ht) (by have := sub_len ht; omega)
  have hfull : ∀ t ∈ l, t.full = true := fun t ht => clean_full t (hl t ht)
  intro base M F m w v hn0 hm hv ok hfl hcnt
  obtain ⟨p, c, rfl⟩ := hv.form
  simp only [RX.kind, RX.set, RX.mn, RX.mx, RX.subs] at hv ⊢
  refine mmake_core n0 base M F m _ _ k s mn mx l p _ c w hn0 hm hv (by omega) q4 fun W X hW hvW hX hXF => ?_
  have hk : k = 1 \/ k = 2 \/ k = 3 \/ k = 4 \/ k = 5 \/ k = 6 := by omega
  rcases hk with rfl | rfl | rfl | rfl | rfl | rfl
  ·have e : (RX.nd 1 s mn mx l).mkG m = (m, ⟨0, 0, true⟩) := by rw [RX.mkG]; rfl
   rw [e]
   refine (mkind2_any 1 s mn mx _ W).mono ?_
   rintro e w' ⟨rfl, hx⟩
   exact ⟨by show _ = Ending.returned (.agg (partV ⟨0, 0, true⟩)); rw [partV_zero], ⟨F, hW.keeps hx fun x h => (hW.lt x h).2, fun _ h => h, fun _ h => .inl h⟩, hx.mono fun _ h => h.1⟩
  ·have e : (RX.nd 2 s mn mx l).mkG m = (⟨m.sets ++ [s], m.fol ++ [0]⟩, ⟨bitG m.sets.length, bitG m.sets.length, false⟩) := by rw [RX.mkG]; rfl
   rw [e]
   have hc1 : (RX.nd 2 s mn mx l).cnt = 1 := by rw [RX.cnt]; rfl
   exact (mclass_any base M F m s mn mx _ X W hW hX hXF hfl (by omega)).mono fun e w' h => h
  ·have e : (RX.nd 3 s mn mx l).mkG m = RX.catG l (m, ⟨0, 0, true⟩) := by rw [RX.mkG]; rfl
   have hc1 : (RX.nd 3 s mn mx l).cnt = RX.cnts l := by rw [RX.cnt]; rfl
   rw [e]
   exact (mcat_any n0 base M F m 3 s mn mx l p _ c X W hn0 hW hvW ih hfull hX hXF ok hfl (by omega) (by omega)).mono fun e w' h => h.clo
  ·have e : (RX.nd 4 s mn mx l).mkG m = RX.altG l (m, ⟨0, 0, false⟩) := by rw [RX.mkG]; rfl
   have hc1 : (RX.nd 4 s mn mx l).cnt = RX.cnts l := by rw [RX.cnt]; rfl
   rw [e]
   exact (malt_any n0 base M F m 4 s mn mx l p _ c X W hn0 hW hvW ih hfull hX hXF ok hfl (by omega) (by omega)).mono fun e w' h => h.clo
  ·have hb := q6 rfl
   obtain ⟨g1, g2, g3⟩ := manyG_times hb
   obtain ⟨t, l', rfl⟩ : ∃ t l', l = t :: l' := by
    cases l with
    | nil => have := q5 (.inl rfl); simp at this
    | cons t l' => exact ⟨t, l', rfl⟩
   have e : (RX.nd 5 s mn mx (t :: l')).mkG m = repsG mn mx (fun m => t.mkG m) m (manyG mn mx) := by rw [RX.mkG]; show RX.rpG mn mx (t :: l') m = _; rw [RX.rpG]
   have hc1 : (RX.nd 5 s mn mx (t :: l')).cnt = manyG mn mx * t.cnt := by rw [RX.cnt]; show manyG mn mx * RX.cnt1 (t :: l') = _; rw [RX.cnt1]
   rw [e]
   have hmx : mx = -1 \/ (1 <= mx /\ mx ≠ -1) := by
    unfold bounds8 at hb
    split at hb
    ·cases hb
    ·simp at hb
     omega
   rcases hmx with rfl | ⟨hmx, hne⟩
   ·refine (mrepA n0 base M F m 5 s mn (manyG mn (-1)) t l' p _ c W hn0 hW hvW (ih t (List.mem_cons_self ..)) (hfull t (List.mem_cons_self ..)) ok hfl ?_ g3 rfl (by omega)).mono fun e w' h => h.clo
    unfold manyG
    rw [if_pos rfl]
    omega
   ·obtain ⟨N, rfl⟩ : ∃ N : Nat, mx = N := ⟨mx.toNat, by omega⟩
    have hN : manyG mn (N : Int) = N := by unfold manyG; rw [if_neg hne]; simp
    rw [hN] at g3 hc1 ⊢
    exact (mrepB n0 base M F m 5 s mn N t l' p _ c W hn0 hW hvW (ih t (List.mem_cons_self ..)) (hfull t (List.mem_cons_self ..)) ok hfl (by omega) g3 hN (by omega)).mono fun e w' h => h.clo
  ·obtain ⟨t, l', rfl⟩ : ∃ t l', l = t :: l' := by
    cases l with
    | nil => have := q5 (.inr rfl); simp at this
    | cons t l' => exact ⟨t, l', rfl⟩
   have e : (RX.nd 6 s mn mx (t :: l')).mkG m = t.mkG m := by rw [RX.mkG]; show RX.hdG (t :: l') m = _; rw [RX.hdG]
   have hc1 : (RX.nd 6 s mn mx (t :: l')).cnt = t.cnt := by rw [RX.cnt]; show RX.cnt1 (t :: l') = _; rw [RX.cnt1]
   rw [e]
   exact (mhd_any n0 base M F m 6 s mn mx t l' p _ c X W hn0 hW hvW (ih t (List.mem_cons_self ..)) hX hXF ok hfl (by omega)).mono fun e w' h => h.clo
end Go.Proofs.YtbiboekhakbnpaaGreatDoor
