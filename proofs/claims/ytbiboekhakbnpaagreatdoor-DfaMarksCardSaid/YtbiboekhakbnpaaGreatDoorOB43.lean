/-
  The law's Made of small steps. Printed by wip/gen/made08.py.
  The law's Made: parts of small ones.
  dfa.table, Run, Marks.
-/
import Derived.Test.YtbiboekhakbnpaaGreatDoorOB39
import Derived.Test.YtbiboekhakbnpaaGreatDoorOB40
import Derived.Test.YtbiboekhakbnpaaGreatDoorOB41
import Derived.Test.YtbiboekhakbnpaaGreatDoorOB42
import Derived.Test.YtbiboekhakbnpaaGreatDoorOB22
import Derived.Test.YtbiboekhakbnpaaGreatDoorOB35
import Derived.Test.YtbiboekhakbnpaaGreatDoorOB11
set_option maxRecDepth 100000
set_option maxHeartbeats 16000000
open Go.Lib (hid)
namespace Go.Proofs.YtbiboekhakbnpaaGreatDoor
open Go Go.RowKit Go.Shelf Go.Maps

theorem made08_main (b off c : Nat) (l : List (Nat × Nat × Nat)) (w : World) (hb : b < w.heap.size) (hc : l.length <= c) (hl9 : l.length <= 1000000000000000) (hS : ∀ (i : Nat) (s : Nat × Nat × Nat), l[i]? = some s -> s.1 < 256 /\ s.2.1 < 256 /\ s.2.2 < 256 /\ w.cell? ⟨b, off + i * 3, none⟩ = some (.int .u8 s.1) /\ w.cell? ⟨b, off + i * 3 + 1, none⟩ = some (.int .u8 s.2.1) /\ w.cell? ⟨b, off + i * 3 + 2, none⟩ = some (.int .u8 s.2.2)) :
  Calls Tryz.prog 39 #[.slice (some ⟨b, off, none⟩) l.length c] w fun e w' => ∃ u, e = .returned u /\ IsRx (· < w'.heap.size) w' u (madeR l) /\ Below w.heap.size w w' :=
 (made08_cut b off c l w hb hc hl9 hS).out (made08_A b off c l w hb hc hl9 hS) (made08_B b off c l w hb hc hl9 hS) (made08_C b off c l w hb hc hl9 hS) (made08_D b off c l w hb hc hl9 hS) (made08_E b off c l w hb hc hl9 hS) (made08_G b off c l w hb hc hl9 hS) (made08_H b off c l w hb hc hl9 hS) (made08_Z b off c l w hb hc hl9 hS)
theorem made08_nil (p : Option Addr) (c : Nat) (w : World) :
  Calls Tryz.prog 39 #[.slice p 0 c] w fun e w' => ∃ u, e = .returned u /\ IsRx (· < w'.heap.size) w' u (madeR []) /\ Below w.heap.size w w' := by
 go_enter Tryz.func39, Tryz.ntmps39
 have hmin : min (0 : Int) 25 = 0 := by decide
 go_wp2
 refine wp_named ?_
 intro V hV
 have R0 : Hid (Blk V w.heap.size zeroN 86) := by rw [hV]; exact hid (Blk.new _ _ _)
 have X0 : Hid (Below w.heap.size w V) := by rw [hV]; exact hid ((Ext.refl w).alloc _).below
 clear hV
 go_loopw [3, 4, 5, 22] (fun u x y i wr => u = .slice none 0 0 /\ x = .int .i64 1 /\ y = .int .i64 0 /\ i = .int .i64 0 /\ wr = V) (fun _ _ _ _ _ => 0)
 case atStart => exact ⟨rfl, rfl, rfl, rfl, rfl⟩
 case round =>
  obtain ⟨rfl, rfl, rfl, rfl, hwr⟩ := hrel
  replace hwr := hwr.symm
  subst hwr
  go_wp2_with fail
  refine (class08_any _ [97] rfl (by decide) V).mono ?_
  rintro e w2 ⟨rfl, hx2⟩
  obtain ⟨S, hS⟩ : ∃ S, S = bsOf fun c => ([97] : List Nat).contains c := ⟨_, rfl⟩
  rw [<- hS]
  have hcl : madeR [] = .nd 2 S 0 0 [] := by rw [hS]; rfl
  have R2 := hid (R0.out.below hx2 R0.out.lt)
  have X2 : Hid (Below w.heap.size w w2) := hid (X0.out.trans (hx2.mono X0.out.size))
  clear hS hx2
  go_wp2_with (refine wpList_store_row rfl 86 (.tmp 2) (.tmp 188) rfl w.heap.size (nodeV 2 S 0 0 (.slice none 0 0)) rfl rfl 86 zeroN R2.out (sizeNode _ _ _ _ _) rfl (oneNode _ _ _ _ _ _ _) ?_; refine Hid.out ?_)
  refine hid ?_
  obtain ⟨V3, hV3⟩ : ∃ W, W = w2.setRow w.heap.size (nodeV 2 S 0 0 (.slice none 0 0)) := ⟨_, rfl⟩
  rw [<- hV3]
  have RR : Hid (Blk V3 w.heap.size (nodeV 2 S 0 0 (.slice none 0 0)) 86) := by rw [hV3]; exact hid R2.out.setRow
  have KK : Keeps (· ≠ w.heap.size) w2 V3 := by rw [hV3]; exact keeps_row _ _ _
  clear hV3
  go_wp2
  obtain ⟨m0, m1, m2, m3, m4, m5, m6, m7⟩ := RR.out.eight
  refine bodyPost_ret (v := .agg (nodeV 2 S 0 0 (.slice none 0 0))) (by simp [results, Tryz.results39, nodeV, go_sem, m0, m1, m2, m3, m4, m5, m6, m7]) rfl ⟨_, rfl, ?_, X2.out.trans (KK.mono fun x (hx : x < w.heap.size) => by show x ≠ _; omega : Keeps (· < w.heap.size) w2 V3).below⟩
  rw [hcl]
  exact IsRx.leaf _ _ _ _ _ _ _ _
theorem IsSteps.form {w : World} {v : Value} {l : List (Nat × Nat × Nat)} (h : IsSteps w v l) : ∃ a c, v = .slice a l.length c := by
 rcases h with ⟨rfl, rfl⟩ | ⟨ad, c, rfl, rfl⟩ | ⟨b, off, c, rfl, _⟩
 ·exact ⟨_, _, rfl⟩
 ·exact ⟨_, _, rfl⟩
 ·exact ⟨_, _, rfl⟩
theorem made08_any (v : Value) (l : List (Nat × Nat × Nat)) (hl9 : l.length <= 1000000000000000) (w : World) (h : IsSteps w v l) :
  Calls Tryz.prog 39 #[v] w fun e w' => ∃ u, e = .returned u /\ IsRx (· < w'.heap.size) w' u (madeR l) /\ Below w.heap.size w w' := by
 rcases h with ⟨rfl, rfl⟩ | ⟨ad, c, rfl, rfl⟩ | ⟨b, off, c, rfl, hb, hc, _, h⟩
 ·exact made08_nil none 0 w
 ·exact made08_nil (some ad) c w
 ·exact made08_main b off c l w hb hc hl9 h
def IsS18 (w : World) (v : Value) (l : List (List (Nat × Nat × Nat) × Bool × Nat)) : Prop := (∃ p c, v = .slice p 0 c /\ l = []) \/
 ∃ b off c, v = .slice (some ⟨b, off, none⟩) l.length c /\ b < w.heap.size /\ l.length <= c /\ l ≠ [] /\ ∀ (i : Nat) (s : List (Nat × Nat × Nat) × Bool × Nat), l[i]? = some s -> s.1.length <= 1000000000000000 /\ s.2.2 < 256 /\ ∃ u, IsSteps w u s.1 /\ w.cell? ⟨b, off + i * 3, none⟩ = some u /\ w.cell? ⟨b, off + i * 3 + 1, none⟩ = some (.bool s.2.1) /\ w.cell? ⟨b, off + i * 3 + 2, none⟩ = some (.int .u8 s.2.2)
theorem IsS18.below {w w' : World} {v : Value} {l : List (List (Nat × Nat × Nat) × Bool × Nat)} (h : IsS18 w v l) (hk : Below w.heap.size w w') : IsS18 w' v l := by
 rcases h with h | ⟨b, off, c, hv, hb, hc, hl, h⟩
 ·exact .inl h
 ·have hcell : ∀ j, w'.cell? ⟨b, j, none⟩ = w.cell? ⟨b, j, none⟩ := fun j => (Keeps.of_below hk fun _ h => h : Keeps (· < w.heap.size) w w').cell (p := ⟨b, j, none⟩) hb
  refine .inr ⟨b, off, c, hv, Nat.lt_of_lt_of_le hb hk.size, hc, hl, fun i s hi => ?_⟩
  rw [hcell, hcell, hcell]
  obtain ⟨h1, h2, u, h3, h4⟩ := h i s hi
  exact ⟨h1, h2, u, h3.below hk, h4⟩
theorem made18_main (b off c : Nat) (l : List (List (Nat × Nat × Nat) × Bool × Nat)) (w : World) (hb : b < w.heap.size) (hc : l.length <= c) (hl9 : l.length <= 1000000000000000) (hS : ∀ (i : Nat) (s : List (Nat × Nat × Nat) × Bool × Nat), l[i]? = some s -> s.1.length <= 1000000000000000 /\ s.2.2 < 256 /\ ∃ u, IsSteps w u s.1 /\ w.cell? ⟨b, off + i * 3, none⟩ = some u /\ w.cell? ⟨b, off + i * 3 + 1, none⟩ = some (.bool s.2.1) /\ w.cell? ⟨b, off + i * 3 + 2, none⟩ = some (.int .u8 s.2.2)) :
  Calls Tryz.prog 10 #[.slice (some ⟨b, off, none⟩) l.length c] w fun e w' => ∃ u, e = .returned (.tuple #[u, .bool true]) /\ OwnPts w.heap.size w' u (parts18 l) /\ Below w.heap.size w w' := by
 obtain ⟨iP, hiP, hzP0, hzP1, hzP2⟩ := info_parts Tryz.infoPt
 have HS := hid hS
 obtain ⟨n, hn⟩ : ∃ n, n = l.length := ⟨_, rfl⟩
 obtain ⟨N, hN⟩ : ∃ N, N = min n 4 := ⟨_, rfl⟩
 have hmin : min (n : Int) 4 = (N : Int) := by omega
 have hNn : N <= n := by omega
 have hN4 : N <= 4 := by omega
 rw [<- hn] at hc hl9 ⊢
 have hNc : N <= c := by omega
 have HNN := hid hn
 have HN := hid hN
 clear hS hn hN
 go_enter Tryz.func10, Tryz.ntmps10
 go_wp2
 go_loopw [4, 15] (fun pv iv wr => ∃ k : Nat, k <= N /\ iv = .int .i64 k /\ OwnPts w.heap.size wr pv ((l.take k).map part18) /\ Below w.heap.size w wr) (fun _ iv _ => N - (intOf iv).toNat)
 case atStart => exact ⟨0, by omega, rfl, OwnPts.nil _ _, Below.refl _ _⟩
 case round =>
  obtain ⟨k, hk, rfl, hI, hx⟩ := hrel
  obtain ⟨wo, rfl⟩ : ∃ wo : World, wo = wr := ⟨_, rfl⟩
  have HI := hid hI
  have HX := hid hx
  clear hI hx
  by_cases hlt : k < N
  ·have hki : (k : Int) < N := by omega
   obtain ⟨s, hsk⟩ : ∃ s, l[k]? = some s := ⟨_, List.getElem?_eq_getElem (by have := HNN.out; omega)⟩
   obtain ⟨hs9, hs8, u, hu, c0, c1, c2⟩ := HS.out k _ hsk
   have wc : ∀ (o : Nat) (u : Value), w.cell? ⟨b, o, none⟩ = some u -> wo.cell? ⟨b, o, none⟩ = some u := fun o u h => ((Keeps.of_below HX.out fun _ h => h : Keeps (· < w.heap.size) w wo).cell (p := ⟨b, o, none⟩) hb).trans h
   replace c0 := wc _ _ c0
   replace c1 := wc _ _ c1
   replace c2 := wc _ _ c2
   obtain ⟨ua, uc, rfl⟩ := hu.form
   obtain ⟨m, hm⟩ : ∃ m, m = ((l.take k).map part18).length := ⟨_, rfl⟩
   obtain ⟨pa, pc, hpe, HI2⟩ : ∃ pa pc, _ = Value.slice pa m pc /\ Hid (OwnPts w.heap.size wo (.slice pa m pc) ((l.take k).map part18)) := by
    obtain ⟨pa, pc, e⟩ := HI.out.form
    rw [<- hm] at e
    exact ⟨pa, pc, e, hid (e ▸ HI.out)⟩
   subst hpe
   have HM := hid hm
   have HU := hid hu
   have hmN : m <= 4 := by rw [hm, List.length_map, List.length_take]; omega
   have HSK := hid hsk
   clear HI hm hu hsk wc
   go_upto_region 5 with fail
   refine wp_named ?_
   intro V hV
   have BX : Hid (Blk V wo.heap.size #[.slice ua s.1.length uc, .bool s.2.1, .int .u8 s.2.2] 81) := hid (by rw [hV]; exact Blk.new wo _ _)
   have XV : Hid (Below wo.heap.size wo V) := hid (by rw [hV]; exact ((Ext.refl wo).alloc _).below)
   clear hV c0 c1 c2
   have d0 : V.cell? ⟨wo.heap.size, 0, none⟩ = some (.slice ua s.1.length uc) := BX.out.cell 0
   have HWV : Hid (Below w.heap.size w V) := hid (HX.out.trans (XV.out.mono HX.out.size))
   go_wp2_with fail
   refine (made08_any _ s.1 hs9 V (HU.out.below HWV.out)).mono ?_
   rintro e w1 ⟨t, rfl, ht, hx1⟩
   have HT := hid ht
   have B1 := hid (BX.out.below hx1 BX.out.lt)
   have X1 : Hid (Below w.heap.size w w1) := hid (HWV.out.trans (hx1.mono HWV.out.size))
   have P1 := hid ((HI2.out.below XV.out).below hx1)
   obtain ⟨tp, tc, rfl⟩ := ht.form
   clear ht hx1 BX XV HWV HI2 d0
   go_wp2_with fail
   refine (nfaOf_any _ (madeR s.1) w1 HT.out (madeR_ok s.1).fine (by have := (madeR_ok s.1).size; omega) (madeR_ok s.1).posn).mono ?_
   rintro e w2 ⟨u2, rfl, ho, hx2⟩
   obtain ⟨xa0, xn0, xc0, xa1, xn1, xc1, xa2, xn2, xc2, xa3, xn3, xc3, rfl⟩ := ho.form
   have HO := hid (ho.base (base' := w.heap.size) X1.out.size)
   have B2 := hid (B1.out.below hx2 B1.out.lt)
   have X2 : Hid (Below w.heap.size w w2) := hid (X1.out.trans (hx2.mono X1.out.size))
   have P2 := hid (P1.out.below hx2)
   clear ho hx2 B1 X1 P1 HT
   go_upto_region 6 with fail
   refine wp_named ?_
   intro V2 hV2
   have BN : Hid (Blk V2 w2.heap.size #[.slice xa0 xn0 xc0, .slice xa1 xn1 xc1, .slice xa2 xn2 xc2, .slice xa3 xn3 xc3, .bool (madeR s.1).nf.emp] 44) := hid (by rw [hV2]; exact Blk.new w2 _ _)
   have XV2 : Hid (Below w2.heap.size w2 V2) := hid (by rw [hV2]; exact ((Ext.refl w2).alloc _).below)
   clear hV2
   have B3 := hid (B2.out.below XV2.out B2.out.lt)
   have e1 : V2.cell? ⟨wo.heap.size, 1, none⟩ = some (.bool s.2.1) := B3.out.cell 1
   have e2 : V2.cell? ⟨wo.heap.size, 2, none⟩ = some (.int .u8 s.2.2) := B3.out.cell 2
   have f0 : V2.cell? ⟨w2.heap.size, 0, none⟩ = some (.slice xa0 xn0 xc0) := BN.out.cell 0
   have f1 : V2.cell? ⟨w2.heap.size, 1, none⟩ = some (.slice xa1 xn1 xc1) := BN.out.cell 1
   have f2 : V2.cell? ⟨w2.heap.size, 2, none⟩ = some (.slice xa2 xn2 xc2) := BN.out.cell 2
   have f3 : V2.cell? ⟨w2.heap.size, 3, none⟩ = some (.slice xa3 xn3 xc3) := BN.out.cell 3
   have f4 : V2.cell? ⟨w2.heap.size, 4, none⟩ = some (.bool (madeR s.1).nf.emp) := BN.out.cell 4
   have hcv : IntKind.i64.wrap (s.2.2 : Int) = (s.2.2 : Int) := IntWalk.i64_in _ (by omega)
   go_wp2_with (at_builtin; refine wpList_stopA rfl ?_)
   refine hid ?_
   refine wpList_named ?_
   intro W4 hW4
   have B4 : Hid (Blk W4 V2.heap.size #[.slice xa0 xn0 xc0, .slice xa1 xn1 xc1, .slice xa2 xn2 xc2, .slice xa3 xn3 xc3, .bool (madeR s.1).nf.emp, .bool s.2.1, .int .i64 s.2.2] 46) := by rw [hW4]; exact hid (Blk.new _ _ _)
   have E4 : Hid (Below V2.heap.size V2 W4) := by rw [hW4]; exact hid ((Ext.refl _).alloc _).below
   clear hW4 e1 e2 f0 f1 f2 f3 f4
   have hs2 : w.heap.size <= w2.heap.size := X2.out.size
   have X4 : Hid (Below w.heap.size w W4) := hid (X2.out.trans ((XV2.out.trans (E4.out.mono XV2.out.size)).mono hs2))
   have P4 := hid ((P2.out.below XV2.out).below E4.out)
   have O4 := hid ((HO.out.below XV2.out).below E4.out)
   have hsW4 : w.heap.size <= W4.heap.size := X4.out.size
   clear P2 XV2 E4 HO BN B2 B3
   obtain ⟨cs, g1, g2⟩ := P4.out
   rw [<- HM.out] at g1
   have G1 := hid g1
   have G2 := hid g2
   clear g1 g2 P4
   refine wpList_append_own_at _ rfl (.tmp 28) (.tmp 36) 25 rfl w.heap.size 46 iP (.agg #[.slice none 0 0, .slice none 0 0, .slice none 0 0, .slice none 0 0, .bool false, .bool false, .int .i64 0]) 7 120 Tryz.underlying25 hiP hzP0 hzP1 hzP2 rfl (by decide) _ _ _ rfl G1.out ⟨V2.heap.size, 0, none⟩ 1 1 (cells7 (.slice xa0 xn0 xc0) (.slice xa1 xn1 xc1) (.slice xa2 xn2 xc2) (.slice xa3 xn3 xc3) (part18 s)) rfl rfl (news_blk B4.out) (by
    intro u hu
    simp only [cells7, List.mem_cons, List.not_mem_nil, or_false] at hu
    rcases hu with rfl | rfl | rfl | rfl | rfl | rfl | rfl <;> rfl) (by unfold maxLen; omega) (by omega) hsW4 ?_
   intro v' w5 hown' hgrow hh hat
   obtain ⟨pa3, pc3, rfl⟩ := ownsRow_form hown'
   have P5 : Hid (OwnPts w.heap.size w5 (.slice pa3 (m + 1) pc3) ((l.take k).map part18 ++ [part18 s])) := hid (OwnPts.more (by rw [<- HM.out]; exact G1.out) G2.out O4.out hgrow (by rw [<- HM.out]; exact hown'))
   have X5 : Hid (Below w.heap.size w w5) := hid (X4.out.trans ((Below.refl _ _).grown hgrow X4.out.size (fun c e => (G1.out.lt c e).1)))
   clear hown' hgrow hh hat
   go_wp2
   go_roundw
   case rel =>
    refine ⟨k + 1, by omega, by go_num, ?_, X5.out⟩
    rw [List.take_add_one, HSK.out]
    simp only [Option.toList_some, List.map_append, List.map_cons, List.map_nil]
    exact P5.out
   case measure => simp [intOf]; omega
  ·obtain rfl : k = N := by omega
   have hkn : ¬ ((k : Int) < k) := by omega
   have htk : l.take k = l.take 4 := by
    rw [HN.out, HNN.out]
    rcases Nat.le_total l.length 4 with h | h
    ·rw [Nat.min_eq_left h, List.take_length, List.take_of_length_le h]
    ·rw [Nat.min_eq_right h]
   have HPP : Hid (OwnPts w.heap.size wo _ (parts18 l)) := hid (by unfold parts18; rw [<- htk]; exact HI.out)
   clear htk HI
   obtain ⟨pa, pc, rfl⟩ := HPP.out.form
   go_wp2
   refine bodyPost_ret (v := .tuple #[.slice pa (parts18 l).length pc, .bool true]) (by simp [results, Tryz.results10, go_sem]) rfl ⟨_, rfl, HPP.out, HX.out⟩
theorem made18_nil (p : Option Addr) (c : Nat) (w : World) :
  Calls Tryz.prog 10 #[.slice p 0 c] w fun e w' => ∃ u, e = .returned (.tuple #[u, .bool true]) /\ OwnPts w.heap.size w' u (parts18 []) /\ Below w.heap.size w w' := by
 go_enter Tryz.func10, Tryz.ntmps10
 have hmin : min (0 : Int) 4 = 0 := by decide
 go_wp2
 go_loopw [4, 15] (fun pv iv wr => pv = .slice none 0 0 /\ iv = .int .i64 0 /\ wr = w) (fun _ _ _ => 0)
 case atStart => exact ⟨rfl, rfl, rfl⟩
 case round =>
  obtain ⟨rfl, rfl, rfl⟩ := hrel
  go_wp2
  refine bodyPost_ret (v := .tuple #[.slice none 0 0, .bool true]) (by simp [results, Tryz.results10, go_sem]) rfl ⟨_, rfl, OwnPts.nil _ _, Below.refl _ _⟩
theorem made18_any (v : Value) (l : List (List (Nat × Nat × Nat) × Bool × Nat)) (hl9 : l.length <= 1000000000000000) (w : World) (h : IsS18 w v l) :
  Calls Tryz.prog 10 #[v] w fun e w' => ∃ u, e = .returned (.tuple #[u, .bool true]) /\ OwnPts w.heap.size w' u (parts18 l) /\ Below w.heap.size w w' := by
 rcases h with ⟨p, c, rfl, rfl⟩ | ⟨b, off, c, rfl, hb, hc, _, h⟩
 ·exact made18_nil p c w
 ·exact made18_main b off c l w hb hc hl9 h
theorem dfaTable_any (v : Value) (d : DF) (rt : Rt d) (w : World) (h : IsDf w v d) :
  Calls Tryz.prog 46 #[v] w fun e w' => e = .returned (.agg (tabArr d.cl)) /\ Below w.heap.size w w' := by
 obtain ⟨v0, v1, v2, rfl, h0, h1, h2⟩ := h
 obtain ⟨a0, c0, rfl⟩ := h0.1.form
 obtain ⟨a1, c1, rfl⟩ := h1.form
 obtain ⟨a2, c2, rfl⟩ := h2.form
 have H0 := hid h0.1
 have CO : Hid (∀ W, IsSets W (.slice a0 d.cl.length c0) d.cl -> Calls Tryz.prog 41 #[.slice a0 d.cl.length c0] W fun e w' => ∃ b, e = .returned (.pointer (some ⟨b, 0, none⟩)) /\ IsAl w' W.heap.size (.pointer (some ⟨b, 0, none⟩)) d.cl /\ Below W.heap.size W w') := fun W h => by
  have := alphOf_any d.cl _ W h (by have := rt.clle; omega)
  rwa [rt.cl] at this
 have CT : Hid (∀ b base W, IsAl W base (.pointer (some ⟨b, 0, none⟩)) d.cl -> Calls Tryz.prog 84 #[.pointer (some ⟨b, 0, none⟩)] W fun e w' => e = .returned (.agg (tabArr d.cl)) /\ Ext W w') := fun b base W h => table_any _ base d.cl W h
 clear h0 h1 h2
 have hsz := size_tab
 have hz := tabArr_nil
 generalize d.cl.length = n0 at *
 go_enter Tryz.func46, Tryz.ntmps46
 go_wp2_with fail
 refine calls_named ?_
 intro V hV
 have B2 : Hid (Blk V (w.heap.size + 1) (tabArr []) 102) := by rw [hV]; exact (Blk.new (w.alloc _) _ _).at (by simp)
 have X1 : Hid (Below w.heap.size w V) := by rw [hV]; exact (((Ext.refl w).alloc _).alloc _).below
 clear hV
 refine (CO.out _ (H0.out.below X1.out)).mono ?_
 rintro e w2 ⟨b, rfl, ha, hx⟩
 have B3 := hid (B2.out.below hx B2.out.lt)
 have X2 := hid (X1.out.trans (hx.mono X1.out.size))
 have A2 := hid ha
 clear ha hx B2 X1
 go_wp2_with fail
 refine (CT.out _ _ _ A2.out).mono ?_
 rintro e w3 ⟨rfl, hx⟩
 have B4 := hid (B3.out.ext hx)
 have X3 := hid (X2.out.trans (hx.below.mono X2.out.size))
 clear hx B3 X2
 go_wp2_with (refine wpList_store_row rfl 102 (.tmp 2) (.tmp 6) rfl (w.heap.size + 1) (tabArr d.cl) rfl rfl 102 (tabArr []) B4.out (by rw [tabArr_size]; exact hsz) (by rw [tabArr_size, tabArr_size]) (tabArr_one _) ?_)
 refine bodyPost_ret (results_cell_row rfl _ _ (w.heap.size + 1) 102 (tabArr d.cl) (0, 0) _ rfl B4.out.setRow Tryz.underlying102 rfl (by rw [tabArr_size]; exact size_tab)) rfl ⟨rfl, Below.setRow' X3.out (by omega) _⟩

def runD (d : DF) (s : Nat) (b : List Nat) : Nat := b.foldl (fun s c => nxt d s (cls d.cl c)) s
theorem runD_take {d : DF} {s : Nat} {b : List Nat} {k c : Nat} (h : b[k]? = some c) : runD d s (b.take (k + 1)) = nxt d (runD d s (b.take k)) (cls d.cl c) := by
 unfold runD
 rw [List.take_add_one, h, List.foldl_append]; rfl
theorem runD_lt {d : DF} (rt : Rt d) {s : Nat} (hs : s < d.nx.length) : ∀ (b : List Nat), (∀ c ∈ b, c < 256) -> runD d s b < d.nx.length := by
 intro b
 induction b generalizing s with
 | nil => intro _; exact hs
 | cons c r ih => intro h; exact ih (rt.nxt_lt hs (rt.part.cls_lt (h c (by simp)))) (fun x hx => h x (by simp [hx]))

theorem dfaRun_any (v bv : Value) (d : DF) (rt : Rt d) (sm : Sm d) (s : Nat) (hs : s < d.nx.length) (b : List Nat) (hb : ∀ c ∈ b, c < 256) (hbn : b.length <= 1000000) (w : World) (h : IsDf w v d) (hbv : IsSl encB w bv b) :
  Calls Tryz.prog 17 #[v, .int .i64 s, bv] w fun e w' => e = .returned (.tuple #[.int .i64 (runD d s b), .int .i64 0]) /\ Below w.heap.size w w' := by
 have CR : Hid (∀ W, Below w.heap.size w W -> Calls Tryz.prog 21 #[v] W fun e w' => e = .returned (.bool true) /\ Below W.heap.size W w') := fun W hW => by
  have := right_any v d W (h.below hW) sm
  rwa [(right_iff d).2 rt] at this
 have CT : Hid (∀ W, Below w.heap.size w W -> Calls Tryz.prog 46 #[v] W fun e w' => e = .returned (.agg (tabArr d.cl)) /\ Below W.heap.size W w') := fun W hW => dfaTable_any v d rt W (h.below hW)
 obtain ⟨v0, v1, v2, rfl, h0, h1, h2⟩ := h
 obtain ⟨a0, c0, rfl⟩ := h0.1.form
 obtain ⟨a1, c1, rfl⟩ := h1.form
 obtain ⟨a2, c2, rfl⟩ := h2.form
 obtain ⟨ab, cb, rfl⟩ := hbv.form
 obtain ⟨n1, hn1⟩ : ∃ n, n = d.nx.length := ⟨_, rfl⟩
 obtain ⟨nb, hnb⟩ : ∃ n, n = b.length := ⟨_, rfl⟩
 have HN1 := hid hn1
 have HNB := hid hnb
 have hs1 : s < n1 := by omega
 have hn4 : n1 <= 4000 := by rw [hn1]; exact rt.le
 rw [<- hn1] at h1 CR CT ⊢
 rw [<- hnb] at hbv hbn ⊢
 have H1 := hid h1
 have HBV := hid hbv
 have HB := hid hb
 have RT := hid rt
 have e1 : decide ((s : Int) < 0) = false := decide_eq_false (by omega)
 have e2 : decide ((n1 : Int) <= s) = false := decide_eq_false (by omega)
 have e3 : decide (n1 <= s) = false := decide_eq_false (by omega)
 have hsz := size_tab
 have hz := tabArr_nil
 clear h0 h1 h2 hbv hn1 hnb hb
 go_enter Tryz.func17, Tryz.ntmps17
 go_wp2_with fail
 refine calls_named ?_
 intro V hV
 have B1 : Hid (Blk V w.heap.size #[.slice a0 d.cl.length c0, .slice a1 n1 c1, .slice a2 d.mr.length c2] 31) := by rw [hV]; exact Blk.new w _ _
 have X1 : Hid (Below w.heap.size w V) := by rw [hV]; exact ((Ext.refl w).alloc _).below
 clear hV
 refine (CR.out _ X1.out).mono ?_
 rintro e w2 ⟨rfl, hx⟩
 have B2 := hid (B1.out.below hx B1.out.lt)
 have X2 := hid (X1.out.trans (hx.mono X1.out.size))
 clear hx B1 X1
 obtain ⟨⟨k0, k1, k2⟩, _⟩ := B2.out.three
 go_wp2_with fail
 refine (CT.out _ X2.out).mono ?_
 rintro e w3 ⟨rfl, hx⟩
 have B3 := hid (B2.out.below hx B2.out.lt)
 have X3 := hid (X2.out.trans (hx.mono X2.out.size))
 clear hx B2 X2 k0 k1 k2 e1 e2 e3 CR CT
 have hst := run_storeCells_new (P := Tryz.prog) w3 102 (tabArr []) (tabArr d.cl) (by rw [tabArr_size]; exact hsz) (by rw [tabArr_size, tabArr_size]) (tabArr_one _)
 have hs0 := tabArr_size d.cl
 go_wp2
 refine wp_named ?_
 intro V2 hV2
 have B4 : Hid (Blk V2 w.heap.size #[.slice a0 d.cl.length c0, .slice a1 n1 c1, .slice a2 d.mr.length c2] 31) := by rw [hV2]; exact B3.out.alloc _
 have T4 : Hid (Blk V2 w3.heap.size (tabArr d.cl) 102) := by rw [hV2]; exact Blk.new _ _ _
 have X4 : Hid (Below w.heap.size w V2) := by rw [hV2]; exact X3.out.alloc X3.out.size _
 clear hV2 hst hs0 hz hsz B3 X3
 go_loopw [29, 1] (fun i sv wr => ∃ k : Nat, k <= nb /\ i = .int .i64 k /\ sv = .int .i64 (runD d s (b.take k)) /\ Below V2.heap.size V2 wr) (fun i _ _ => nb - (intOf i).toNat)
 case atStart => exact ⟨0, by omega, rfl, rfl, Below.refl _ _⟩
 case round =>
  obtain ⟨k, hk, rfl, rfl, hx⟩ := hrel
  obtain ⟨wo, rfl⟩ : ∃ wo : World, wo = wr := ⟨_, rfl⟩
  have HX := hid hx
  have B5 := hid (B4.out.below hx B4.out.lt)
  have T5 := hid (T4.out.below hx T4.out.lt)
  have X5 := hid (X4.out.trans (hx.mono X4.out.size))
  clear hx
  by_cases hlt : k < nb
  ·obtain ⟨c, hc⟩ : ∃ c, b[k]? = some c := ⟨_, List.getElem?_eq_getElem (by have := HNB.out; omega)⟩
   have hc256 := HB.out c (List.mem_of_getElem? hc)
   have HT := hid (runD_take (d := d) (s := s) hc)
   have hsl := runD_lt RT.out (s := s) (by rw [<- HN1.out]; exact hs1) (b.take k) (fun x hx => HB.out x (List.mem_of_mem_take hx))
   obtain ⟨g0, o0, rfl, hg0, x0⟩ := (HBV.out.below X5.out).elem hc
   replace x0 : wo.cell? ⟨g0, o0 + k, none⟩ = some (.int .u8 c) := x0
   generalize runD d s (b.take k) = sv at HT hsl ⊢
   obtain ⟨l, hl⟩ : ∃ l, d.nx[sv]? = some l := ⟨_, List.getElem?_eq_getElem hsl⟩
   obtain ⟨g1, o1, e1, k1, rfl, hg1, x1, y1⟩ := (H1.out.below X5.out).elem hl
   obtain ⟨q, hq⟩ : ∃ q, q = cls d.cl c := ⟨_, rfl⟩
   have hql : q < d.cl.length := by rw [hq]; exact RT.out.part.cls_lt hc256
   have hll : l.length = d.cl.length := by have := RT.out.len sv hsl; rwa [getD_some hl] at this
   obtain ⟨r, hr⟩ : ∃ r, r = nxt d sv q := ⟨_, rfl⟩
   have hlr : l[q]? = some (r : Int) := by have := RT.out.nxt_cell hsl hql; rwa [getD_some hl, <- hr] at this
   obtain ⟨g2, o2, rfl, hg2, x2⟩ := y1.elem hlr
   replace x2 : wo.cell? ⟨g2, o2 + q, none⟩ = some (.int .i64 r) := x2
   have x3 : wo.cell? ⟨w3.heap.size, c, none⟩ = some (.int .u8 q) := by rw [hq]; exact (T5.out.cell c).trans (tabArr_get _ hc256)
   have b1 := B5.out.cell 1
   simp only [List.getElem?_toArray, List.getElem?_cons_zero, List.getElem?_cons_succ] at b1
   have hsn : sv < n1 := by rw [HN1.out]; exact hsl
   have hci : (c : Int) < 256 := by omega
   have hsi : (sv : Int) < n1 := by omega
   obtain ⟨j, hj⟩ : ∃ j, j = l.length := ⟨_, rfl⟩
   have hqj : q < j := by omega
   have hqi : (q : Int) < j := by omega
   rw [<- hj] at x1
   have hki : (k : Int) < nb := by omega
   have HRQ := hid hr
   have HQ := hid hq
   clear hc hl y1 hlr hll hql hq hr hj hsl
   go_wp2
   refine wp_region_reg false (fun _ => False) (by kernel_rfl) 11 [0, 1, 0, 7, 15, 0, 32, 96, 255, 511, 1023] (fun i => false) (by kernel_rfl) (fun i => Eff.any _) ?_
   intro C hC hne
   have HC := hid hC
   have f0 := regCell hC (p := ⟨w.heap.size, 1, none⟩) (by have := B5.out.lt; exact this) (fun h => h) b1
   have f1 := regCell hC (p := ⟨g1, o1 + sv, none⟩) hg1 (fun h => h) x1
   have f2 := regCell hC (p := ⟨g2, o2 + q, none⟩) hg2 (fun h => h) x2
   have f3 := regCell hC (p := ⟨w3.heap.size, c, none⟩) (by have := T5.out.lt; exact this) (fun h => h) x3
   clear hC b1 x1 x2 x3 x0
   repeat (refine regStep (fun K hK => ?_); first | (refine regN rfl ?_; try go_simp; refine hK _ _ ?_; clear hK K) | (refine regF rfl rfl ?_; unfold floatAt; go_simp; refine hK _ _ ?_; clear hK K))
   refine regNil (fun W hW hH => ?_)
   have hM := (HC.out W).1 hW
   have XX := hid (HX.out.trans (hM.below.mono HX.out.size))
   clear hM hW hH HC HX f0 f1 f2 f3
   go_wp2
   go_roundw
   case rel => exact ⟨k + 1, by omega, by go_num, by rw [HT.out, <- HQ.out, <- HRQ.out], XX.out⟩
   case measure => simp [intOf]; omega
  ·obtain rfl : k = nb := by omega
   have htk : b.take k = b := by rw [HNB.out]; exact List.take_length
   rw [htk]
   clear htk
   go_wp2
   go_ret2
   exact ⟨rfl, X5.out⟩

theorem dfaMarks_any (v bv : Value) (d : DF) (rt : Rt d) (sm : Sm d) (b : List Nat) (hb : ∀ c ∈ b, c < 256) (hbn : b.length <= 1000000) (w : World) (h : IsDf w v d) (hbv : IsSl encB w bv b) :
  Calls Tryz.prog 13 #[v, bv] w fun e w' => ∃ u, e = .returned (.tuple #[u, .int .i64 0]) /\ w'.ownsRow w.heap.size 3 1 u (d.mr.getD (runD d 0 b) []).length ((d.mr.getD (runD d 0 b) []).map encZ) /\ Below w.heap.size w w' := by
 have CR : Hid (∀ W, Below w.heap.size w W -> Calls Tryz.prog 17 #[v, .int .i64 0, bv] W fun e w' => e = .returned (.tuple #[.int .i64 (runD d 0 b), .int .i64 0]) /\ Below W.heap.size W w') := fun W hW => dfaRun_any v bv d rt sm 0 rt.pos b hb hbn W (h.below hW) (hbv.below hW)
 obtain ⟨v0, v1, v2, rfl, h0, h1, h2⟩ := h
 obtain ⟨a0, c0, rfl⟩ := h0.1.form
 obtain ⟨a1, c1, rfl⟩ := h1.form
 obtain ⟨a2, c2, rfl⟩ := h2.form
 obtain ⟨ab, cb, rfl⟩ := hbv.form
 have hsl := runD_lt rt rt.pos b hb
 rw [<- rt.mr] at hsl
 generalize runD d 0 b = sv at CR hsl ⊢
 obtain ⟨m, hm⟩ : ∃ m, d.mr[sv]? = some m := ⟨_, List.getElem?_eq_getElem hsl⟩
 rw [getD_some hm]
 obtain ⟨g1, o1, e1, k1, rfl, hg1, x1, y1⟩ := h2.elem hm
 have lm := sm.mks m (List.mem_of_getElem? hm)
 have hsi : (sv : Int) < (d.mr.length : Nat) := by omega
 obtain ⟨n2, hn2⟩ : ∃ n, n = d.mr.length := ⟨_, rfl⟩
 rw [<- hn2] at hsl hsi CR ⊢
 have Y1 := hid y1
 obtain ⟨j, hj⟩ : ∃ j, j = m.length := ⟨_, rfl⟩
 rw [<- hj] at x1 Y1
 have HJ := hid hj
 have LM := hid lm
 have X0 := hid x1
 clear h0 h1 h2 hm y1 hbv hb hbn rt sm hn2 hj lm x1
 go_enter Tryz.func13, Tryz.ntmps13
 go_wp2_with fail
 refine calls_named ?_
 intro V hV
 have B1 : Hid (Blk V w.heap.size #[.slice a0 d.cl.length c0, .slice a1 d.nx.length c1, .slice (some ⟨g1, o1, none⟩) n2 c2] 31) := by rw [hV]; exact Blk.new w _ _
 have X1 : Hid (Below w.heap.size w V) := by rw [hV]; exact ((Ext.refl w).alloc _).below
 clear hV
 refine (CR.out _ X1.out).mono ?_
 rintro e w2 ⟨rfl, hx⟩
 have B2 := hid (B1.out.below hx B1.out.lt)
 have X2 := hid (X1.out.trans (hx.mono X1.out.size))
 clear hx B1 X1 CR
 have b2 := B2.out.cell 2
 simp only [List.getElem?_toArray, List.getElem?_cons_zero, List.getElem?_cons_succ] at b2
 have x2 : w2.cell? ⟨g1, o1 + sv, none⟩ = some (.slice e1 j k1) := (belowCells X2.out).1 g1 (o1 + sv) hg1 ▸ X0.out
 go_wp2_with fail
 refine (cloneInts_any _ m _ (Y1.out.below X2.out) LM.out).mono ?_
 rintro e w3 ⟨ur, rfl, ho, hx⟩
 have O3 := hid (ownsRow_base ho X2.out.size)
 have X3 := hid (X2.out.trans (hx.mono X2.out.size))
 clear ho hx b2 x2
 go_wp2
 go_ret2
 exact ⟨_, rfl, O3.out, X3.out⟩
end Go.Proofs.YtbiboekhakbnpaaGreatDoor
