/-
  The law's Made of small steps: its block Z. Printed by wip/gen/made08.py.
-/
import Derived.Test.YtbiboekhakbnpaaGreatDoorOB38
set_option maxRecDepth 100000
set_option maxHeartbeats 16000000
open Go.Lib (hid)
namespace Go.Proofs.YtbiboekhakbnpaaGreatDoor
open Go Go.RowKit Go.Shelf Go.Maps

theorem made08_Z (b off c : Nat) (l : List (Nat × Nat × Nat)) (w : World) (hb : b < w.heap.size) (hc : l.length <= c) (hl9 : l.length <= 1000000000000000) (hS : ∀ (i : Nat) (s : Nat × Nat × Nat), l[i]? = some s -> s.1 < 256 /\ s.2.1 < 256 /\ s.2.2 < 256 /\ w.cell? ⟨b, off + i * 3, none⟩ = some (.int .u8 s.1) /\ w.cell? ⟨b, off + i * 3 + 1, none⟩ = some (.int .u8 s.2.1) /\ w.cell? ⟨b, off + i * 3 + 2, none⟩ = some (.int .u8 s.2.2)) : (made08_cut b off c l w hb hc hl9 hS).Z := by
 have HS := hid hS
 intro iN hiN hzN0 hzN1 hzN2 R HR n hl9 hc HNN in0 in1 in2 V R0 X0 HVS u3
 intros
 rename_i k wo hrow HX hmin hNn hN25 hNc HN hk hlt hkn
 obtain ⟨PP, hPP⟩ : ∃ PP, PP = pileR (l.take k) := ⟨_, rfl⟩
 rw [<- hPP] at hrow ⊢
 have htk : l.take k = l.take 25 := by
  rw [HN.out, HNN.out]
  rcases Nat.le_total l.length 25 with h | h
  ·rw [Nat.min_eq_left h, List.take_length, List.take_of_length_le h]
  ·rw [Nat.min_eq_right h]
 have hok := pileR_ok (l.take 25)
 have hRR : R = sumR PP.all := by rw [HR.out, hPP, htk]; rfl
 rw [<- htk, <- hPP] at hok
 have hfA := hok.fine
 have hsA : RX.sizes PP.all <= 25 := Nat.le_trans hok.size (by rw [List.length_take]; omega)
 obtain ⟨ru, rc, rfl⟩ := hrow.form
 have HROW := hid hrow
 obtain ⟨A, hA⟩ : ∃ A, A = PP.all := ⟨_, rfl⟩
 rw [<- hA] at HROW hfA hsA hRR ⊢
 have HFA := hid hfA
 have HSA := hid hsA
 have HRR := hid hRR
 clear hrow hfA hsA hRR hok htk hPP hA
 have hwV : w.heap.size < V.heap.size := by have := HVS.out; omega
 have hVo : V.heap.size <= wo.heap.size := HX.out.size
 have X9 : Hid (Below w.heap.size w wo) := hid (X0.out.below.trans (HX.out.mono fun x (hx : x < w.heap.size) => by show x < V.heap.size; omega : Keeps (· < w.heap.size) V wo).below)
 have R9 := hid (R0.out.keeps HX.out R0.out.lt)
 match A, HROW, HFA, HSA, HRR with
 | [], HROW, HFA, HSA, HRR =>
  simp only [List.length_nil]
  go_wp2_with fail
  refine (class08_any _ [97] rfl (by decide) wo).mono ?_
  rintro e w2 ⟨rfl, hx2⟩
  obtain ⟨S, hS⟩ : ∃ S, S = bsOf fun c => ([97] : List Nat).contains c := ⟨_, rfl⟩
  rw [<- hS]
  have hcl : R = .nd 2 S 0 0 [] := by rw [HRR.out, hS]; rfl
  have R2 := hid (R9.out.below hx2 R9.out.lt)
  have X2 : Hid (Below w.heap.size w w2) := hid (X9.out.trans (hx2.mono X9.out.size))
  clear hS hx2
  go_wp2_with (refine wpList_store_row rfl 86 (.tmp 2) (.tmp 188) rfl w.heap.size (nodeV 2 S 0 0 (.slice none 0 0)) rfl rfl 86 zeroN R2.out (sizeNode _ _ _ _ _) rfl (oneNode _ _ _ _ _ _ _) ?_; refine Hid.out ?_)
  refine hid ?_
  obtain ⟨V3, hV3⟩ : ∃ W, W = w2.setRow w.heap.size (nodeV 2 S 0 0 (.slice none 0 0)) := ⟨_, rfl⟩
  rw [<- hV3]
  have RR : Hid (Blk V3 w.heap.size (nodeV 2 S 0 0 (.slice none 0 0)) 86) := by rw [hV3]; exact hid R2.out.setRow
  have KK : Keeps (· ≠ w.heap.size) w2 V3 := by rw [hV3]; exact keeps_row _ _ _
  clear hV3
  go_wp2
  obtain ⟨m0, m1, m2, m3, m4, m5, m6, m7⟩ := RR.out.eight
  refine bodyPost_ret (v := .agg (nodeV 2 S 0 0 (.slice none 0 0))) (by simp [results, Tryz.results39, nodeV, go_sem, m0, m1, m2, m3, m4, m5, m6, m7]) rfl ⟨_, rfl, ?_, X2.out.trans (KK.mono fun x (hx : x < w.heap.size) => by show x ≠ _; omega : Keeps (· < w.heap.size) w2 V3).below⟩
  rw [hcl]
  exact IsRx.leaf _ _ _ _ _ _ _ _
 | x :: r, HROW, HFA, HSA, HRR =>
  obtain ⟨m, hm⟩ : ∃ m, m = (x :: r).length := ⟨_, rfl⟩
  have hmr : m = r.length + 1 := by rw [hm]; rfl
  have hm26 : m <= 25 := by have := len_sz (x :: r); have := HSA.out; omega
  rw [<- hm] at HROW ⊢
  obtain ⟨g, p1, c1, e9, hmc, hcap, hgb, hgl, ⟨f0, f1, f2, f3, f4, f5, f6, f7⟩, t1⟩ := HROW.out.elem (i := 0) (t := x) rfl
  clear hmc
  subst e9
  simp only [Nat.zero_mul, Nat.zero_add] at f0 f1 f2 f3 f4 f5 f6 f7
  have T1 := hid t1
  have hm0 : (0 : Int) < m := by omega
  have hm1 : (1 : Int) <= m := by omega
  have hm2 : 1 <= m := by omega
  have hc2 : 1 <= rc := by omega
  have hc3 : (1 : Int) <= rc := by omega
  have hmb : ((m : Int) == 0) = false := by simp; omega
  have HMR := hid hmr
  clear t1 hm hmr
  go_upto_region 31 with fail
  refine wp_named ?_
  intro W1 hW1
  have B13 : Hid (Blk W1 wo.heap.size (nodeV x.kind x.set x.mn x.mx (.slice p1 x.subs.length c1)) 86) := by rw [hW1]; exact hid (Blk.new _ _ _)
  have E1 : Hid (Ext wo W1) := by rw [hW1]; exact hid ((Ext.refl wo).alloc _)
  clear hW1 f0 f1 f2 f3 f4 f5 f6 f7
  by_cases hrc : rc = 1
  ·skip --Y3a
   obtain rfl : m = 1 := by omega
   subst hrc
   have hr0 : r = [] := List.eq_nil_of_length_eq_zero (by have := HMR.out; omega)
   have HTR : R = x := by rw [HRR.out, hr0]; rfl
   have T2 : Hid (IsRx (fun y => V.heap.size <= y /\ y < W1.heap.size) W1 (.agg (nodeV x.kind x.set x.mn x.mx (.slice p1 x.subs.length c1))) x) := hid ((T1.out.keeps E1.out.keeps fun y hy => hy.2.1).mono fun y hy => ⟨hy.1, by have := hy.2.1; have := E1.out.size; omega⟩)
   have X1 : Hid (Below w.heap.size w W1) := hid (X9.out.trans (E1.out.below.mono X9.out.size))
   have R1 := hid (R9.out.ext E1.out)
   clear T1 X9 R9 hr0 HROW
   go_wp2
   go_loopw [195] (fun i wr => i = .int .i64 0 /\ wr = W1) (fun _ _ => 0)
   case atStart => exact ⟨rfl, rfl⟩
   case round =>
    obtain ⟨rfl, hwr⟩ := hrel
    replace hwr := hwr.symm
    subst hwr
    go_wp2_with (first | (refine wpList_load_w rfl 86 (.tmp 13) rfl wo.heap.size rfl (nodeV x.kind x.set x.mn x.mx (.slice p1 x.subs.length c1)) _ B13.out.range Tryz.underlying86 rfl (sizeNode _ _ _ _ _) ?_) | (refine wpList_store_row rfl 86 (.tmp 2) (.tmp 203) rfl w.heap.size (nodeV x.kind x.set x.mn x.mx (.slice p1 x.subs.length c1)) rfl rfl 86 zeroN R1.out (sizeNode _ _ _ _ _) rfl (oneNode _ _ _ _ _ _ _) ?_; refine Hid.out ?_))
    refine hid ?_
    obtain ⟨V3, hV3⟩ : ∃ W, W = W1.setRow w.heap.size (nodeV x.kind x.set x.mn x.mx (.slice p1 x.subs.length c1)) := ⟨_, rfl⟩
    rw [<- hV3]
    have RR : Hid (Blk V3 w.heap.size (nodeV x.kind x.set x.mn x.mx (.slice p1 x.subs.length c1)) 86) := by rw [hV3]; exact hid R1.out.setRow
    have KK : Keeps (· ≠ w.heap.size) W1 V3 := by rw [hV3]; exact keeps_row _ _ _
    clear hV3
    go_wp2
    obtain ⟨m0, m1, m2, m3, m4, m5, m6, m7⟩ := RR.out.eight
    refine bodyPost_ret (v := .agg (nodeV x.kind x.set x.mn x.mx (.slice p1 x.subs.length c1))) (by simp [results, Tryz.results39, nodeV, go_sem, m0, m1, m2, m3, m4, m5, m6, m7]) rfl ⟨_, rfl, ?_, X1.out.trans (KK.mono fun z (hz : z < w.heap.size) => by show z ≠ _; omega : Keeps (· < w.heap.size) W1 V3).below⟩
    rw [HTR]
    exact (T2.out.keeps KK fun z hz => by have := hz.1; show z ≠ _; omega).mono fun z hz => Nat.lt_of_lt_of_le hz.2 KK.size
  have hrc2 : 1 < rc := by omega
  have hrc3 : (1 : Int) < rc := by omega
  have hrc4 : rc - 1 ≠ 0 := by omega
  have hrc5 : ¬ (rc = 1) := hrc
  have hrc6 : ¬ ((rc : Int) = 1) := by omega
  have hrc7 : ¬ (rc <= 1) := by omega
  go_wp2
  obtain ⟨J0, hJ0⟩ : ∃ b, b = wo.heap.size := ⟨_, rfl⟩
  have hJ1 : J0 < W1.heap.size := by rw [hJ0]; exact B13.out.lt
  have HJ0 := hid hJ0
  have ROW1 := hid (HROW.out.below E1.out.below)
  have T2 : Hid (IsRx (fun y => V.heap.size <= y /\ y < W1.heap.size /\ y ≠ J0) W1 (.agg (nodeV x.kind x.set x.mn x.mx (.slice p1 x.subs.length c1))) x) := hid ((T1.out.keeps E1.out.keeps fun y hy => hy.2.1).mono fun y hy => ⟨hy.1, by have := hy.2.1; have := E1.out.size; omega, fun e => by have := hy.2.1; omega⟩)
  have X1 : Hid (Below w.heap.size w W1) := hid (X9.out.trans (E1.out.below.mono X9.out.size))
  have R1 := hid (R9.out.ext E1.out)
  have hgJ : g < J0 := by omega
  have hRJ : w.heap.size < J0 := by omega
  rw [<- hJ0] at B13 ⊢
  clear T1 X9 R9 hJ0
  go_loopw [195] (fun i wr => ∃ (j : Nat) (t : RX) (p' : Option Addr) (c' : Nat), j <= r.length /\ i = .int .i64 j /\ t = (r.take j).foldl (joinsR 4) x /\ Blk wr J0 (nodeV t.kind t.set t.mn t.mx (.slice p' t.subs.length c')) 86 /\ IsRx (fun y => V.heap.size <= y /\ y < wr.heap.size /\ y ≠ J0) wr (.agg (nodeV t.kind t.set t.mn t.mx (.slice p' t.subs.length c'))) t /\ Keeps (fun y => y < W1.heap.size /\ y ≠ J0) W1 wr) (fun i _ => r.length - (intOf i).toNat)
  case atStart => exact ⟨0, x, p1, c1, by omega, rfl, rfl, B13.out, T2.out, Keeps.refl _ _⟩
  case round =>
   obtain ⟨j, t, p', c', hj, rfl, ht, hB, hT, hK⟩ := hrel
   obtain ⟨w5, rfl⟩ : ∃ w5 : World, w5 = wr := ⟨_, rfl⟩
   have HB := hid hB
   have HT := hid hT
   have HK := hid hK
   have HTT := hid ht
   clear hB hT hK ht
   have hR := HMR.out
   by_cases hlt : j < r.length
   ·obtain ⟨y, hy⟩ : ∃ y, r[j]? = some y := ⟨_, List.getElem?_eq_getElem hlt⟩
    have hyA : (x :: r)[j + 1]? = some y := by simpa using hy
    have hK2 : Keeps (fun y => y < J0) wo w5 := (E1.out.keeps.mono fun y (hy : y < J0) => by have := HJ0.out; show y < wo.heap.size; omega).tr (HK.out.mono fun y (hy : y < J0) => ⟨by omega, by omega⟩)
    obtain ⟨g', p2, c2, e9, hmc, hcap', hgb', hgl', ⟨f0, f1, f2, f3, f4, f5, f6, f7⟩, t2⟩ := HROW.out.elem hyA
    cases e9
    clear hmc
    have kc : ∀ (o : Nat) (v : Value), wo.cell? ⟨g, o, none⟩ = some v -> w5.cell? ⟨g, o, none⟩ = some v := fun o v h => (hK2.cell (p := ⟨g, o, none⟩) hgJ).trans h
    have fx : ∀ (o : Nat) (v : Value), wo.cell? ⟨g, (j + 1) * 8 + o, none⟩ = some v -> w5.cell? ⟨g, 8 + j * 8 + o, none⟩ = some v := fun o v h => by
     have := kc _ _ h
     rwa [show (j + 1) * 8 + o = 8 + j * 8 + o by omega] at this
    have e0 := fx 0 _ f0
    have e1 := fx 1 _ f1
    have e2 := fx 2 _ f2
    have e3 := fx 3 _ f3
    have e4 := fx 4 _ f4
    have e5 := fx 5 _ f5
    have e6 := fx 6 _ f6
    have e7 := fx 7 _ f7
    simp only [Nat.add_zero] at e0
    have T2' : Hid (IsRx (fun y => V.heap.size <= y /\ y < w5.heap.size /\ y ≠ J0) w5 (.agg (nodeV y.kind y.set y.mn y.mx (.slice p2 y.subs.length c2))) y) := hid ((t2.keeps hK2 fun y hy => by have := HJ0.out; have := hy.2.1; show y < J0; omega).mono fun y hy => ⟨hy.1, by have := hy.2.1; have := hK2.size; omega, fun e => by have := hy.2.1; have := HJ0.out; omega⟩)
    have hji : (j : Int) < m - 1 := by omega
    clear f0 f1 f2 f3 f4 f5 f6 f7 kc fx
    have hyf : y.fine := HFA.out y (List.mem_cons_of_mem _ (List.mem_of_getElem? hy))
    have hys : y.size <= 1000 := by have := sub_len (List.mem_cons_of_mem x (List.mem_of_getElem? hy)); have := HSA.out; omega
    have hff := foldR_fine (r.take j) x (HFA.out x (List.mem_cons_self ..)) fun z hz => HFA.out z (List.mem_cons_of_mem _ (List.mem_of_mem_take hz))
    have htf : t.fine := by rw [HTT.out]; exact hff.1
    have hts : t.size <= 1000 := by
     have h1 := hff.2.1
     rw [<- HTT.out] at h1
     have h2 := sizes_append (r.take j) (r.drop j)
     rw [List.take_append_drop] at h2
     have h3 := HSA.out
     rw [RX.sizes] at h3
     have h4 : (r.take j).length <= 25 := by rw [List.length_take]; omega
     omega
    have htn : (r.take (j + 1)).foldl (joinsR 4) x = joinsR 4 t y := by rw [List.take_add_one, hy, List.foldl_append, <- HTT.out]; rfl
    have HTN := hid htn
    have CJ : Hid (∀ W, Below w5.heap.size w5 W -> Calls Tryz.prog 72 #[.int .u8 4, .agg (nodeV t.kind t.set t.mn t.mx (.slice p' t.subs.length c')), .agg (nodeV y.kind y.set y.mn y.mx (.slice p2 y.subs.length c2))] W fun e w' => ∃ u, e = .returned u /\ IsRx (fun z => z < w'.heap.size /\ ((V.heap.size <= z /\ z < w5.heap.size /\ z ≠ J0) \/ W.heap.size <= z)) w' u (joinsR 4 t y) /\ Below W.heap.size W w') := hid fun W hW => by
     have hKW : Keeps (· < w5.heap.size) w5 W := Keeps.of_below hW fun _ h => h
     exact joinsF08_any (fun z => V.heap.size <= z /\ z < w5.heap.size /\ z ≠ J0) 4 (.inr rfl) _ _ t y htf hyf hts hys W (fun z hz => Nat.lt_of_lt_of_le hz.2.1 hW.size) (HT.out.keeps hKW fun z hz => hz.2.1) (T2'.out.keeps hKW fun z hz => hz.2.1)
    obtain ⟨JJ, hJJ⟩ : ∃ J, J = joinsR 4 t y := ⟨_, rfl⟩
    rw [<- hJJ] at CJ HTN
    clear hyf hys hff htf hts htn hJJ hy hyA
    clear hR
    go_upto_region 34 with fail
    refine wp_named ?_
    intro W6 hW6
    have B15 : Hid (Blk W6 w5.heap.size (nodeV y.kind y.set y.mn y.mx (.slice p2 y.subs.length c2)) 86) := by rw [hW6]; exact hid (Blk.new _ _ _)
    have E6 : Hid (Ext w5 W6) := by rw [hW6]; exact hid ((Ext.refl w5).alloc _)
    clear hW6 e0 e1 e2 e3 e4 e5 e6 e7
    have B6 := hid (HB.out.ext E6.out)
    have CJ6 := hid (CJ.out W6 E6.out.below)
    have hJ5 : J0 < w5.heap.size := HB.out.lt
    have h56 : w5.heap.size <= W6.heap.size := E6.out.size
    clear CJ
    go_wp2_with (first | (refine wpList_load_w rfl 86 (.tmp 13) rfl J0 rfl (nodeV t.kind t.set t.mn t.mx (.slice p' t.subs.length c')) _ B6.out.range Tryz.underlying86 rfl (sizeNode _ _ _ _ _) ?_) | (refine wpList_load_w rfl 86 (.tmp 15) rfl w5.heap.size rfl (nodeV y.kind y.set y.mn y.mx (.slice p2 y.subs.length c2)) _ B15.out.range Tryz.underlying86 rfl (sizeNode _ _ _ _ _) ?_) | (go_at_call 72; refine Hid.out ?_))
    refine hid ?_
    refine CJ6.out.mono ?_
    rintro e w7 ⟨u, rfl, hu, hx7⟩
    obtain ⟨pu, cu, rfl⟩ := hu.form
    have HU := hid hu
    have B7 := hid (B6.out.below hx7 B6.out.lt)
    have K7 : Hid (Keeps (· < w5.heap.size) w5 w7) := hid (E6.out.keeps.tr (Keeps.of_below hx7 fun z (hz : z < w5.heap.size) => Nat.lt_of_lt_of_le hz h56))
    clear hu hx7 B6 B15 CJ6
    go_wp2_with (refine wpList_store_row rfl 86 (.tmp 13) (.tmp 201) rfl J0 (nodeV JJ.kind JJ.set JJ.mn JJ.mx (.slice pu JJ.subs.length cu)) rfl rfl 86 (nodeV t.kind t.set t.mn t.mx (.slice p' t.subs.length c')) B7.out (sizeNode _ _ _ _ _) rfl (oneNode _ _ _ _ _ _ _) ?_; refine Hid.out ?_)
    refine hid ?_
    obtain ⟨W8, hW8⟩ : ∃ W, W = w7.setRow J0 (nodeV JJ.kind JJ.set JJ.mn JJ.mx (.slice pu JJ.subs.length cu)) := ⟨_, rfl⟩
    rw [<- hW8]
    have B8 : Hid (Blk W8 J0 (nodeV JJ.kind JJ.set JJ.mn JJ.mx (.slice pu JJ.subs.length cu)) 86) := by rw [hW8]; exact hid B7.out.setRow
    have K8 : Hid (Keeps (· ≠ J0) w7 W8) := by rw [hW8]; exact hid (keeps_row _ _ _)
    clear hW8
    go_wp2
    go_roundw
    case rel =>
     have q1 : IsRx (fun z => V.heap.size <= z /\ z < W8.heap.size /\ z ≠ J0) W8 (.agg (nodeV JJ.kind JJ.set JJ.mn JJ.mx (.slice pu JJ.subs.length cu))) JJ := (HU.out.keeps K8.out fun z hz => by (rcases hz.2 with h | h; exact h.2.2; show z ≠ J0; omega)).mono fun z hz => ⟨by (rcases hz.2 with h | h; exact h.1; omega), Nat.lt_of_lt_of_le hz.1 K8.out.size, by (rcases hz.2 with h | h; exact h.2.2; omega)⟩
     have hW5 := HK.out.size
     exact ⟨j + 1, JJ, pu, cu, by omega, by go_num, HTN.out.symm, B8.out, q1, HK.out.tr ((K7.out.mono fun z (hz : z < W1.heap.size /\ z ≠ J0) => by have := hz.1; show z < w5.heap.size; omega).tr (K8.out.mono fun z (hz : z < W1.heap.size /\ z ≠ J0) => hz.2))⟩
    case measure => simp [intOf]; omega
   ·skip --Yd
    obtain rfl : j = r.length := by omega
    have hji : ¬ ((r.length : Int) < m - 1) := by omega
    have htR : R = t := by rw [HRR.out, HTT.out, List.take_length]; rfl
    have HTR := hid htR
    have hRl : w.heap.size < W1.heap.size := R1.out.lt
    have R5 := hid (R1.out.keeps HK.out ⟨R1.out.lt, by omega⟩)
    have X5 : Hid (Below w.heap.size w w5) := hid (X1.out.trans (HK.out.mono fun z (hz : z < w.heap.size) => ⟨by omega, by omega⟩ : Keeps (· < w.heap.size) W1 w5).below)
    clear hR htR
    go_wp2_with (first | (refine wpList_load_w rfl 86 (.tmp 13) rfl J0 rfl (nodeV t.kind t.set t.mn t.mx (.slice p' t.subs.length c')) _ HB.out.range Tryz.underlying86 rfl (sizeNode _ _ _ _ _) ?_) | (refine wpList_store_row rfl 86 (.tmp 2) (.tmp 203) rfl w.heap.size (nodeV t.kind t.set t.mn t.mx (.slice p' t.subs.length c')) rfl rfl 86 zeroN R5.out (sizeNode _ _ _ _ _) rfl (oneNode _ _ _ _ _ _ _) ?_; refine Hid.out ?_))
    refine hid ?_
    obtain ⟨V3, hV3⟩ : ∃ W, W = w5.setRow w.heap.size (nodeV t.kind t.set t.mn t.mx (.slice p' t.subs.length c')) := ⟨_, rfl⟩
    rw [<- hV3]
    have RR : Hid (Blk V3 w.heap.size (nodeV t.kind t.set t.mn t.mx (.slice p' t.subs.length c')) 86) := by rw [hV3]; exact hid R5.out.setRow
    have KK : Keeps (· ≠ w.heap.size) w5 V3 := by rw [hV3]; exact keeps_row _ _ _
    clear hV3
    go_wp2
    obtain ⟨m0, m1, m2, m3, m4, m5, m6, m7⟩ := RR.out.eight
    refine bodyPost_ret (v := .agg (nodeV t.kind t.set t.mn t.mx (.slice p' t.subs.length c'))) (by simp [results, Tryz.results39, nodeV, go_sem, m0, m1, m2, m3, m4, m5, m6, m7]) rfl ⟨_, rfl, ?_, X5.out.trans (KK.mono fun z (hz : z < w.heap.size) => by show z ≠ _; omega : Keeps (· < w.heap.size) w5 V3).below⟩
    rw [HTR.out]
    exact (HT.out.keeps KK fun z hz => by have := hz.1; show z ≠ _; omega).mono fun z hz => Nat.lt_of_lt_of_le hz.2.1 KK.size
end Go.Proofs.YtbiboekhakbnpaaGreatDoor
