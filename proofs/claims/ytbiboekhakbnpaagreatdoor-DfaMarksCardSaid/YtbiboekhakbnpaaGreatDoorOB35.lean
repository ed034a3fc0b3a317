/-
  nfa.Of: the automaton of a clean tree. Printed by wip/gen/nof.py.
-/
import Derived.Test.YtbiboekhakbnpaaGreatDoorOB31
import Derived.Test.YtbiboekhakbnpaaGreatDoorOB34
set_option maxRecDepth 100000
set_option maxHeartbeats 16000000
open Go.Lib (hid)
namespace Go.Proofs.YtbiboekhakbnpaaGreatDoor
open Go Go.RowKit Go.Shelf Go.Maps
attribute [local go_sem] encW

theorem posG_row (x : PB) : (posW (bW x) 448).length = (posG x).length /\ (posW (bW x) 448).map encP = (posG x).map encZ := by
 rw [<- posW_posG]
 refine ⟨by simp, ?_⟩
 rw [List.map_map]
 rfl
theorem listG_any (x : PB) (b off : Nat) (w : World) (hb : WdAt w b off (bW x)) : Calls Tryz.prog 69 #[.pointer (some ⟨b, off, none⟩)] w fun e w' => ∃ v, e = .returned v /\ w'.ownsRow w.heap.size 3 1 v (posG x).length ((posG x).map encZ) /\ Below w.heap.size w w' := by
 have h := listAt_any (bW x) b off w hb
 rw [(posG_row x).1, (posG_row x).2] at h
 exact h
theorem GM.ok0 : (⟨[], []⟩ : GM).ok := ⟨rfl, fun f h => (by cases h), fun s h => (by cases h)⟩
theorem MkS.new {base M : Nat} {w : World} (h : Blk w M #[.slice none 0 0, .slice none 0 0] 127) (hb : base <= M) : MkS base M (· = M) w ⟨[], []⟩ :=
 ⟨rfl, (fun x hx => by subst hx; exact ⟨hb, h.lt⟩), _, _, h, World.ownsRow_nil _ _ _ _, (fun x e => by cases e), World.ownsRow_nil _ _ _ _, (fun x e => by cases e)⟩
theorem nfaOf_any (v : Value) (t : RX) (w : World) (h : IsRx (· < w.heap.size) w v t) (hf : t.fine) (hs : t.size <= 120) (hp : t.posn <= 400) :
  Calls Tryz.prog 38 #[v] w fun e w' => ∃ u, e = .returned (.tuple #[u, .int .i64 0]) /\ OwnNf w.heap.size w' u t.nf /\ Below w.heap.size w w' := by
 obtain ⟨iL, hiL, hzL0, hzL1, hzL2⟩ := info_parts Tryz.infoL
 obtain ⟨p, c, rfl⟩ := h.form
 have hfull := clean_full t hf
 have hcnt := cnt_posn t hf hp
 have hmk := mkG_ok t hfull ⟨[], []⟩ GM.ok0
 obtain ⟨v, hv⟩ : ∃ v, v = Value.agg (nodeV t.kind t.set t.mn t.mx (.slice p t.subs.length c)) := ⟨_, rfl⟩
 rw [<- hv] at h
 have CC : Hid (∀ W, Below w.heap.size w W -> Calls Tryz.prog 65 #[v] W fun e w' => e = .returned (.bool true) /\ Below W.heap.size W w') := hid fun W hW => rxClean_any v t hf (by omega) W ((h.belw hW).mono fun b hb => Nat.lt_of_lt_of_le hb hW.size)
 have CS : Hid (∀ W, Below w.heap.size w W -> Calls Tryz.prog 66 #[v] W fun e w' => e = .returned (.int .i64 t.size) /\ Below W.heap.size W w') := hid fun W hW => rxSize_any v t (by omega) W ((h.belw hW).mono fun b hb => Nat.lt_of_lt_of_le hb hW.size)
 have CP : Hid (∀ W, Below w.heap.size w W -> Calls Tryz.prog 67 #[v] W fun e w' => e = .returned (.int .i64 t.posn) /\ Below W.heap.size W w') := hid fun W hW => rxPositions_any v t (by omega) W ((h.belw hW).mono fun b hb => Nat.lt_of_lt_of_le hb hW.size)
 obtain ⟨m2, p2, hmp⟩ : ∃ m2 p2, t.mkG ⟨[], []⟩ = (m2, p2) := ⟨_, _, rfl⟩
 have CM : Hid (∀ W M, Below w.heap.size w W -> w.heap.size <= M -> Blk W M #[.slice none 0 0, .slice none 0 0] 127 -> Calls Tryz.prog 68 #[.pointer (some ⟨M, 0, none⟩), v] W (MkAft w.heap.size M (· = M) W m2 p2)) := hid fun W M hW hM hB => by
  have := mkOK_any w.heap.size t hf (by omega) w.heap.size M (· = M) ⟨[], []⟩ W v (Nat.le_refl _) (MkS.new hB hM) (h.belw hW) GM.ok0 rfl (by show 0 + t.cnt <= 448; omega)
  rw [hmp] at this
  exact this
 rw [hv] at CC CS CP CM
 rw [hmp] at hmk
 have hl1 := hmk.len
 have hl3 := hmk.ok.len
 dsimp only at hl1 hl3
 have hl1 : m2.sets.length = 0 + t.cnt := hl1
 have enf : t.nf = ⟨m2.sets, m2.fol.map posG, posG p2.fst, posG p2.lst, p2.emp⟩ := by unfold RX.nf; rw [hmp]
 have hk0 : t.kind ≠ 0 := fine_kind hf
 obtain ⟨k, hk⟩ : ∃ k, k = t.kind := ⟨_, rfl⟩
 obtain ⟨sz, hsz⟩ : ∃ k, k = t.size := ⟨_, rfl⟩
 obtain ⟨ps, hps⟩ : ∃ k, k = t.posn := ⟨_, rfl⟩
 obtain ⟨nl, hnl⟩ : ∃ k, k = t.subs.length := ⟨_, rfl⟩
 rw [enf]
 rw [<- hk, <- hnl] at CC CS CP CM ⊢
 rw [<- hk] at hk0
 rw [<- hsz] at CS hs
 rw [<- hps] at CP hp
 obtain ⟨n, hn⟩ : ∃ n, n = m2.sets.length := ⟨_, rfl⟩
 rw [<- hn] at hl3 hl1
 have hn4 : n <= 400 := by omega
 obtain ⟨st, hst⟩ : ∃ st, st = t.set := ⟨_, rfl⟩
 obtain ⟨tn, htn⟩ : ∃ x, x = t.mn := ⟨_, rfl⟩
 obtain ⟨tx, htx⟩ : ∃ x, x = t.mx := ⟨_, rfl⟩
 rw [<- hst, <- htn, <- htx] at CC CS CP CM ⊢
 have HN := hid hn
 have HL3 := hid hl3
 have HS := hid hs
 have HP := hid hp
 clear hmk h hv hf hfull hcnt hmp hl1 hl3 enf hk hsz hps hnl hn hst htn htx v
 unfold nodeV at CC CS CP CM ⊢
 have hs9 : ¬ ((120 : Int) < sz) := by have := HS.out; omega
 have hp9 : ¬ ((400 : Int) < ps) := by have := HP.out; omega
 go_enter Tryz.func38, Tryz.ntmps38
 go_upto_region 1 with fail
 refine wp_named ?_
 intro V hV
 have B1 : Hid (Blk V w.heap.size #[.int .u8 k, .int .u64 (wd st 0).toNat, .int .u64 (wd st 1).toNat, .int .u64 (wd st 2).toNat, .int .u64 (wd st 3).toNat, .int .i64 tn, .int .i64 tx, .slice p nl c] 86) := by rw [hV]; exact hid ((Blk.new w _ _).alloc _)
 have B2 : Hid (Blk V (w.heap.size + 1) #[.slice none 0 0, .slice none 0 0, .slice none 0 0, .slice none 0 0, .bool false] 44) := by rw [hV]; exact hid ((Blk.new (w.alloc _) _ _).at (by simp))
 have HX : Hid (Below w.heap.size w V) := by rw [hV]; exact hid (((Ext.refl w).alloc _).alloc _).below
 have hVs : V.heap.size = w.heap.size + 1 + 1 := by rw [hV]; simp
 have HVS := hid hVs
 clear hV hVs
 have e0 : V.cell? ⟨w.heap.size, 0, none⟩ = some (.int .u8 k) := B1.out.cell 0
 have e1 : V.cell? ⟨w.heap.size, 1, none⟩ = some (.int .u64 (wd st 0).toNat) := B1.out.cell 1
 have e2 : V.cell? ⟨w.heap.size, 2, none⟩ = some (.int .u64 (wd st 1).toNat) := B1.out.cell 2
 have e3 : V.cell? ⟨w.heap.size, 3, none⟩ = some (.int .u64 (wd st 2).toNat) := B1.out.cell 3
 have e4 : V.cell? ⟨w.heap.size, 4, none⟩ = some (.int .u64 (wd st 3).toNat) := B1.out.cell 4
 have e5 : V.cell? ⟨w.heap.size, 5, none⟩ = some (.int .i64 tn) := B1.out.cell 5
 have e6 : V.cell? ⟨w.heap.size, 6, none⟩ = some (.int .i64 tx) := B1.out.cell 6
 have e7 : V.cell? ⟨w.heap.size, 7, none⟩ = some (.slice p nl c) := B1.out.cell 7
 have hk1 : ¬ ((k : Int) = 0) := by omega
 go_wp2_with fail
 refine (CC.out V HX.out).mono ?_
 rintro e V2 ⟨rfl, hx⟩
 have B1 := hid (B1.out.below hx B1.out.lt)
 have B2 := hid (B2.out.below hx B2.out.lt)
 have HX := hid (HX.out.trans (hx.mono HX.out.size))
 have HVS2 : Hid (w.heap.size + 1 + 1 <= V2.heap.size) := hid (by have := hx.size; have := HVS.out; omega)
 clear hx e0 e1 e2 e3 e4 e5 e6 e7 HVS CC
 have e0 : V2.cell? ⟨w.heap.size, 0, none⟩ = some (.int .u8 k) := B1.out.cell 0
 have e1 : V2.cell? ⟨w.heap.size, 1, none⟩ = some (.int .u64 (wd st 0).toNat) := B1.out.cell 1
 have e2 : V2.cell? ⟨w.heap.size, 2, none⟩ = some (.int .u64 (wd st 1).toNat) := B1.out.cell 2
 have e3 : V2.cell? ⟨w.heap.size, 3, none⟩ = some (.int .u64 (wd st 2).toNat) := B1.out.cell 3
 have e4 : V2.cell? ⟨w.heap.size, 4, none⟩ = some (.int .u64 (wd st 3).toNat) := B1.out.cell 4
 have e5 : V2.cell? ⟨w.heap.size, 5, none⟩ = some (.int .i64 tn) := B1.out.cell 5
 have e6 : V2.cell? ⟨w.heap.size, 6, none⟩ = some (.int .i64 tx) := B1.out.cell 6
 have e7 : V2.cell? ⟨w.heap.size, 7, none⟩ = some (.slice p nl c) := B1.out.cell 7
 go_wp2_with fail
 refine (CS.out V2 HX.out).mono ?_
 rintro e V3 ⟨rfl, hx⟩
 have B1 := hid (B1.out.below hx B1.out.lt)
 have B2 := hid (B2.out.below hx B2.out.lt)
 have HX := hid (HX.out.trans (hx.mono HX.out.size))
 have HVS2 : Hid (w.heap.size + 1 + 1 <= V3.heap.size) := hid (by have := hx.size; have := HVS2.out; omega)
 clear hx e0 e1 e2 e3 e4 e5 e6 e7 CS
 have e0 : V3.cell? ⟨w.heap.size, 0, none⟩ = some (.int .u8 k) := B1.out.cell 0
 have e1 : V3.cell? ⟨w.heap.size, 1, none⟩ = some (.int .u64 (wd st 0).toNat) := B1.out.cell 1
 have e2 : V3.cell? ⟨w.heap.size, 2, none⟩ = some (.int .u64 (wd st 1).toNat) := B1.out.cell 2
 have e3 : V3.cell? ⟨w.heap.size, 3, none⟩ = some (.int .u64 (wd st 2).toNat) := B1.out.cell 3
 have e4 : V3.cell? ⟨w.heap.size, 4, none⟩ = some (.int .u64 (wd st 3).toNat) := B1.out.cell 4
 have e5 : V3.cell? ⟨w.heap.size, 5, none⟩ = some (.int .i64 tn) := B1.out.cell 5
 have e6 : V3.cell? ⟨w.heap.size, 6, none⟩ = some (.int .i64 tx) := B1.out.cell 6
 have e7 : V3.cell? ⟨w.heap.size, 7, none⟩ = some (.slice p nl c) := B1.out.cell 7
 go_wp2_with fail
 refine (CP.out V3 HX.out).mono ?_
 rintro e V4 ⟨rfl, hx⟩
 have B1 := hid (B1.out.below hx B1.out.lt)
 have B2 := hid (B2.out.below hx B2.out.lt)
 have HX := hid (HX.out.trans (hx.mono HX.out.size))
 have HVS2 : Hid (w.heap.size + 1 + 1 <= V4.heap.size) := hid (by have := hx.size; have := HVS2.out; omega)
 clear hx e0 e1 e2 e3 e4 e5 e6 e7 CP
 go_upto_region 6 with fail
 refine wp_named ?_
 intro V5 hV5
 have BM : Hid (Blk V5 V4.heap.size #[.slice none 0 0, .slice none 0 0] 127) := by rw [hV5]; exact hid (Blk.new _ _ _)
 have E5 : Hid (Ext V4 V5) := by rw [hV5]; exact hid ((Ext.refl _).alloc _)
 clear hV5
 obtain ⟨M, hMe⟩ : ∃ M, M = V4.heap.size := ⟨_, rfl⟩
 rw [<- hMe] at BM ⊢
 have B1 := hid (B1.out.ext E5.out)
 have B2 := hid (B2.out.ext E5.out)
 have HX := hid (HX.out.trans (E5.out.below.mono HX.out.size))
 have hM2 : w.heap.size + 1 + 1 <= M := by have := HVS2.out; omega
 have hMl : M < V5.heap.size := BM.out.lt
 have CM := hid (CM.out V5 M HX.out (by omega) BM.out)
 clear E5 HVS2 BM hMe
 have e0 : V5.cell? ⟨w.heap.size, 0, none⟩ = some (.int .u8 k) := B1.out.cell 0
 have e1 : V5.cell? ⟨w.heap.size, 1, none⟩ = some (.int .u64 (wd st 0).toNat) := B1.out.cell 1
 have e2 : V5.cell? ⟨w.heap.size, 2, none⟩ = some (.int .u64 (wd st 1).toNat) := B1.out.cell 2
 have e3 : V5.cell? ⟨w.heap.size, 3, none⟩ = some (.int .u64 (wd st 2).toNat) := B1.out.cell 3
 have e4 : V5.cell? ⟨w.heap.size, 4, none⟩ = some (.int .u64 (wd st 3).toNat) := B1.out.cell 4
 have e5 : V5.cell? ⟨w.heap.size, 5, none⟩ = some (.int .i64 tn) := B1.out.cell 5
 have e6 : V5.cell? ⟨w.heap.size, 6, none⟩ = some (.int .i64 tx) := B1.out.cell 6
 have e7 : V5.cell? ⟨w.heap.size, 7, none⟩ = some (.slice p nl c) := B1.out.cell 7
 go_wp2_with fail
 refine CM.out.mono ?_
 rintro e V6 ⟨rfl, ⟨F, hF, hFM, hFo⟩, hx, hsz⟩
 have B2 := hid (B2.out.keeps hx ⟨B2.out.lt, by omega⟩)
 have HX := hid (HX.out.trans (hx.mono fun x (hx : x < w.heap.size) => ⟨by omega, by omega⟩ : Keeps (· < w.heap.size) V5 V6).below)
 have MF := hid hF
 have FO := hid hFo
 have hV6 : M < V6.heap.size := (hF.lt M hF.fm).2
 clear hx hF hFM hFo hsz CM B1 e0 e1 e2 e3 e4 e5 e6 e7
 unfold partV
 go_upto_region 7 with fail
 refine wp_named ?_
 intro V7 hV7
 have X7 : Hid (Blk V7 V6.heap.size (partV p2) 131) := by rw [hV7]; exact hid (Blk.new _ _ _)
 have E7 : Hid (Ext V6 V7) := by rw [hV7]; exact hid ((Ext.refl _).alloc _)
 clear hV7
 obtain ⟨sv, fv, hM, r1, r1F, r2, r2F⟩ := MF.out.row
 obtain ⟨bq, hbq⟩ : ∃ b, b = V6.heap.size := ⟨_, rfl⟩
 rw [<- hbq] at X7 ⊢
 have hbq1 : M < bq := by omega
 have BM := hid (hM.ext E7.out)
 have HX := hid (HX.out.trans (E7.out.below.mono HX.out.size))
 have B2 := hid (B2.out.ext E7.out)
 rw [HL3.out] at r2
 rw [<- HN.out] at r1
 obtain ⟨sa, sc, rfl⟩ := ownsRow_form r1
 obtain ⟨fa, fc, rfl⟩ := ownsRow_form r2
 have R1 := hid (ownsRow_below r1 E7.out.below)
 have R2 := hid (ownsRow_below r2 E7.out.below)
 have hbql : bq < V7.heap.size := X7.out.lt
 clear MF FO hM r1 r2 r1F r2F E7 hbq hV6
 obtain ⟨n2, hn2⟩ : ∃ n, n = (posG p2.fst).length := ⟨_, rfl⟩
 obtain ⟨n3, hn3⟩ : ∃ n, n = (posG p2.lst).length := ⟨_, rfl⟩
 obtain ⟨X2s, hX2⟩ : ∃ n, n = (posG p2.fst).map encZ := ⟨_, rfl⟩
 obtain ⟨X3s, hX3⟩ : ∃ n, n = (posG p2.lst).map encZ := ⟨_, rfl⟩
 obtain ⟨em, hem⟩ : ∃ n, n = p2.emp := ⟨_, rfl⟩
 have L2 : Hid (∀ W, Below V7.heap.size V7 W -> Calls Tryz.prog 69 #[.pointer (some ⟨bq, 0, none⟩)] W fun e w' => ∃ v, e = .returned v /\ w'.ownsRow W.heap.size 3 1 v n2 X2s /\ Below W.heap.size W w') := hid fun W hW => by rw [hn2, hX2]; exact listG_any p2.fst bq 0 W (WdAt.fst (X7.out.below hW X7.out.lt))
 have L3 : Hid (∀ W, Below V7.heap.size V7 W -> Calls Tryz.prog 69 #[.pointer (some ⟨bq, 7, none⟩)] W fun e w' => ∃ v, e = .returned v /\ w'.ownsRow W.heap.size 3 1 v n3 X3s /\ Below W.heap.size W w') := hid fun W hW => by rw [hn3, hX3]; exact listG_any p2.lst bq 7 W (WdAt.lst (X7.out.below hW X7.out.lt))
 have b0 : V7.cell? ⟨M, 0, none⟩ = some (.slice sa n sc) := BM.out.cell 0
 have b14 : V7.cell? ⟨bq, 14, none⟩ = some (.bool em) := by rw [hem]; exact X7.out.cell 14
 have HN2 := hid hn2
 have HN3 := hid hn3
 have HX2 := hid hX2
 have HX3 := hid hX3
 have HEM := hid hem
 clear hn2 hn3 hX2 hX3 hem X7
 have hMl7 : M < V7.heap.size := by omega
 refine wp_region_reg false (fun _ => False) (by kernel_rfl) 12 [0, 1, 3, 7, 0, 16, 0, 112, 0, 256, 1023, 0, 4095] (fun i => i == 5 || i == 7 || i == 11 || i == 12) (by kernel_rfl) (fun i => if i = 5 then Eff.rowJ V7.heap.size n2 X2s else if i = 7 then Eff.rowJ V7.heap.size n3 X3s else if i = 11 then Eff.zbox V7.heap.size #[.slice none 0 0, .slice none 0 0, .slice none 0 0, .slice none 0 0, .bool false] 44 else Eff.any _) ?_
 intro C hC hne
 have HC := hid hC
 have f1 := regCell hC (p := ⟨M, 0, none⟩) hMl7 (fun h => h) b0
 have f2 := regCell hC (p := ⟨bq, 14, none⟩) hbql (fun h => h) b14
 clear hC b0 b14
 repeat (refine regStep (fun K hK => ?_); first | (refine regN rfl ?_; try go_simp; refine hK _ _ ?_; clear hK K) | (refine regF rfl rfl ?_; unfold floatAt; go_simp; refine hK _ _ ?_; clear hK K))
 refine regStep (fun K hK => ?_)
 refine regE rfl rfl (Eff.rowJ V7.heap.size n2 X2s) rfl (fun W hW hN => ?_) (fun v hv => ?_)
 ·have hM := (HC.out W).1 hW
  clear hW
  go_simp
  refine effT_call ((L2.out W hM.below).mono ?_)
  rintro e w2 ⟨u, rfl, ho, hx⟩
  exact ⟨_, rfl, Move.of_below hx, ownsRow_form ho, ownsRow_base ho hM.size⟩
 obtain ⟨a5, c5, rfl⟩ := hv
 go_simp
 refine hK _ _ ?_
 clear hK K
 repeat (refine regStep (fun K hK => ?_); first | (refine regN rfl ?_; try go_simp; refine hK _ _ ?_; clear hK K) | (refine regF rfl rfl ?_; unfold floatAt; go_simp; refine hK _ _ ?_; clear hK K))
 refine regStep (fun K hK => ?_)
 refine regE rfl rfl (Eff.rowJ V7.heap.size n3 X3s) rfl (fun W hW hN => ?_) (fun v hv => ?_)
 ·have hM := (HC.out W).1 hW
  clear hW
  go_simp
  refine effT_call ((L3.out W hM.below).mono ?_)
  rintro e w2 ⟨u, rfl, ho, hx⟩
  exact ⟨_, rfl, Move.of_below hx, ownsRow_form ho, ownsRow_base ho hM.size⟩
 obtain ⟨a6, c6, rfl⟩ := hv
 go_simp
 refine hK _ _ ?_
 clear hK K
 repeat (refine regStep (fun K hK => ?_); first | (refine regN rfl ?_; try go_simp; refine hK _ _ ?_; clear hK K) | (refine regF rfl rfl ?_; unfold floatAt; go_simp; refine hK _ _ ?_; clear hK K))
 refine regStep (fun K0 hK => ?_)
 refine regE rfl rfl (Eff.zbox V7.heap.size #[.slice none 0 0, .slice none 0 0, .slice none 0 0, .slice none 0 0, .bool false] 44) rfl (fun W hW hN => ?_) (fun v hv => ?_)
 ·have hM := (HC.out W).1 hW
  have hsW := hM.size
  clear hW hN hK K0
  go_simp
  exact ⟨Move.of_below ((Ext.refl _).alloc _).below, ⟨_, rfl⟩, fun b hb => by cases hb; exact ⟨Blk.new _ _ _, hsW⟩⟩
 obtain ⟨bx, rfl⟩ := hv
 go_simp
 refine hK _ _ ?_
 clear hK K0
 refine regNil (fun W hW hH => ?_)
 have hM := (HC.out W).1 hW
 have hb8 : (Eff.zbox V7.heap.size #[.slice none 0 0, .slice none 0 0, .slice none 0 0, .slice none 0 0, .bool false] 44).H (.pointer (some ⟨bx, 0, none⟩)) W := hH _ (List.mem_of_getElem? (show _ = some _ from rfl : _[0]? = some _))
 have L6 : Hid (W.ownsRow V7.heap.size 3 1 (.slice a6 n3 c6) n3 X3s) := hid (hH _ (List.mem_of_getElem? (show _ = some _ from rfl : _[1]? = some _)))
 have L5 : Hid (W.ownsRow V7.heap.size 3 1 (.slice a5 n2 c5) n2 X2s) := hid (hH _ (List.mem_of_getElem? (show _ = some _ from rfl : _[2]? = some _)))
 have BX := hid (hb8 bx rfl)
 have XW := hid hM.below
 have hszW : V7.heap.size <= W.heap.size := hM.size
 have L4 := hid (ownsRow_below R1.out hM.below)
 have LF := hid (ownsRow_below R2.out hM.below)
 have DM := hid (BM.out.below hM.below BM.out.lt)
 clear hM hW hH HC hne f1 f2 hb8 L2 L3 R1 R2 BM
 obtain ⟨x0, x1, x2, x3, x4⟩ := BX.out.1.five
 have z0 := BX.out.1.frozen 0
 have z1 := BX.out.1.frozen 1
 have z2 := BX.out.1.frozen 2
 have z3 := BX.out.1.frozen 3
 have z4 := BX.out.1.frozen 4
 have hbx : bx ≠ M := by have := BX.out.2; omega
 have D2 := (((((DM.out.other (p := ⟨bx, 0, none⟩) hbx (.slice sa n sc)).other (p := ⟨bx, 1, none⟩) hbx (.slice none 0 0)).other (p := ⟨bx, 2, none⟩) hbx (.slice a5 n2 c5)).other (p := ⟨bx, 3, none⟩) hbx (.slice a6 n3 c6)).other (p := ⟨bx, 4, none⟩) hbx (.bool em))
 have k0 := D2.cell 1
 simp only [List.getElem?_toArray, List.getElem?_cons_zero, List.getElem?_cons_succ] at k0
 clear D2
 go_wp2
 clear k0
 refine wp_named ?_
 intro W2 hW2
 have BD : Hid (Blk W2 bx #[.slice sa n sc, .slice none 0 0, .slice a5 n2 c5, .slice a6 n3 c6, .bool em] 44) := by rw [hW2]; exact hid BX.out.1.set5
 have K2 : Keeps (· ≠ bx) W W2 := by rw [hW2]; exact keeps_set5 _ _ _ _ _ _ _
 clear hW2 x0 x1 x2 x3 x4 z0 z1 z2 z3 z4
 have hbl : ∀ {base : Nat} {e : TypeId} {size n : Nat} {u : Value} {xs : List Value}, W.ownsRow base e size u n xs -> 44 ≠ e -> W2.ownsRow base e size u n xs := fun h he => ownsRow_keeps h K2 fun x hx => row_ne BX.out.1 h he x hx
 have M4 := hid (hbl L4.out (by decide))
 have M5 := hid (hbl L5.out (by decide))
 have M6 := hid (hbl L6.out (by decide))
 have MF := hid (hbl LF.out (by decide))
 have hVb : V7.heap.size <= bx := BX.out.2
 have E2 := hid ((B2.out.below XW.out B2.out.lt).keeps K2 (by have := B2.out.lt; show w.heap.size + 1 ≠ bx; omega))
 have X2 : Hid (Below w.heap.size w W2) := hid ((HX.out.trans (XW.out.mono HX.out.size)).trans (K2.mono fun x (hx : x < w.heap.size) => by have := B2.out.lt; omega : Keeps (· < w.heap.size) W W2).below)
 have hszW2 : W.heap.size <= W2.heap.size := K2.size
 have hb22 := B2.out.lt
 have hb3 : bx < W2.heap.size := BD.out.lt
 clear K2 hbl L4 L5 L6 LF BX XW DM B2 HX
 go_loopw [53] (fun i wr => ∃ (kk : Nat) (u : Value), kk <= n /\ i = .int .i64 kk /\ Blk wr bx #[.slice sa n sc, u, .slice a5 n2 c5, .slice a6 n3 c6, .bool em] 44 /\ OwnLL W2.heap.size wr u ((m2.fol.map posG).take kk) /\ Keeps (fun x => x < W2.heap.size /\ x ≠ bx) W2 wr) (fun i _ => n - (intOf i).toNat)
 case atStart => exact ⟨0, _, by omega, rfl, BD.out, OwnLL.nil _ _, Keeps.refl _ _⟩
 case round =>
  obtain ⟨kk, u, hk, rfl, hb, ho, hx⟩ := hrel
  obtain ⟨w5, rfl⟩ : ∃ w5 : World, w5 = wr := ⟨_, rfl⟩
  have hXw : Below w.heap.size w w5 := X2.out.trans (hx.mono fun x (hx' : x < w.heap.size) => ⟨Nat.lt_of_lt_of_le hx' X2.out.size, by omega⟩ : Keeps (· < w.heap.size) W2 w5).below
  by_cases hlt : kk < n
  ·obtain ⟨f, hl⟩ : ∃ l, m2.fol[kk]? = some l := ⟨_, List.getElem?_eq_getElem (by have := HL3.out; omega)⟩
   have htk : (m2.fol.map posG).take (kk + 1) = (m2.fol.map posG).take kk ++ [posG f] := by rw [List.take_add_one, List.getElem?_map, hl]; rfl
   have hlen : ((m2.fol.map posG).take kk).length <= 1000000 := by rw [List.length_take]; omega
   have hki : (kk : Int) < n := by omega
   have hrow := ownsRow_keeps MF.out hx fun x hx' => ⟨(MF.out.lt x hx').2, row_ne BD.out MF.out (by decide) x hx'⟩
   obtain ⟨g, cap, efv⟩ : ∃ g cap, Value.slice fa n fc = .slice (some ⟨g, 0, none⟩) n cap := by
    rcases hrow.2 with ⟨_, e2⟩ | ⟨g, cap, cur, e2, _⟩
    ·exfalso; omega
    ·exact ⟨g, cap, e2⟩
   injection efv with e1 e2 e3
   subst e1 e3
   have hgl : g < w5.heap.size := (hrow.lt g rfl).2
   have hcap : n <= fc := by
    rcases hrow.2 with ⟨e, _⟩ | ⟨g', c', cur, e4, _, _, h9, _⟩
    ·cases e
    ·cases e4; omega
   have ce : ∀ i, i < 7 -> w5.cell? ⟨g, kk * 7 + i, none⟩ = some (.int .u64 (bW f i).toNat) := fun i hi => by
    have := hrow.cells (g := g) rfl _ _ (flatB_at hl hi)
    rw [Addr.add_mid] at this
    simpa using this
   have e0 := ce 0 (by decide)
   have e1 := ce 1 (by decide)
   have e2 := ce 2 (by decide)
   have e3 := ce 3 (by decide)
   have e4 := ce 4 (by decide)
   have e5 := ce 5 (by decide)
   have e6 := ce 6 (by decide)
   simp only [Nat.add_zero] at e0
   obtain ⟨us, u1, u2, u3⟩ := ho
   obtain ⟨ml, hml⟩ : ∃ m, m = us.length := ⟨_, rfl⟩
   have hmm : ml <= 1000000 := by omega
   obtain ⟨j, hj⟩ : ∃ j, j = (posG f).length := ⟨_, rfl⟩
   rw [<- hml] at u1 u2
   have HML := hid hml
   have HJ := hid hj
   obtain ⟨ua5, uc5, rfl⟩ := ownsRow_form u2
   have U2 := hid u2
   have U3 := hid u3
   have U1 := hid u1
   have HB := hid hb
   have HK := hid hx
   have HT := hid htk
   have hgz : g < w5.heap.size := hgl
   clear hl hb hx htk hXw u1 u2 u3 hml hj hlen hrow ce
   go_upto_region 11 with fail
   refine wp_named ?_
   intro W6 hW6
   have Z6 : Hid (Blk W6 w5.heap.size (encW (bW f)) 129) := by rw [hW6]; exact hid (Blk.new _ _ _)
   have E6 : Hid (Ext w5 W6) := by rw [hW6]; exact hid ((Ext.refl _).alloc _)
   clear hW6 e0 e1 e2 e3 e4 e5 e6
   have U2 := hid (ownsRow_below U2.out E6.out.below)
   have U3 := hid fun i u l hu hl => ownsRow_below (U3.out i u l hu hl) E6.out.below
   have HB := hid (HB.out.ext E6.out)
   have HK := hid (HK.out.tr (E6.out.keeps.mono fun x hx => Nat.lt_of_lt_of_le hx.1 HK.out.size))
   have CL : Hid (∀ W, Below W6.heap.size W6 W -> Calls Tryz.prog 69 #[.pointer (some ⟨w5.heap.size, 0, none⟩)] W fun e w' => ∃ v, e = .returned v /\ w'.ownsRow W.heap.size 3 1 v j ((posG f).map encZ) /\ Below W.heap.size W w') := hid fun W hW => by rw [HJ.out]; exact listG_any f _ 0 W (WdAt.of_blk (Z6.out.below hW Z6.out.lt))
   clear E6 Z6
   refine wp_region_reg false (fun _ => False) (by kernel_rfl) 4 [0, 1, 0, 4, 15, 31, 63] (fun i => i == 2 || i == 3 || i == 4 || i == 6) (by kernel_rfl) (fun i => if i = 2 then Eff.row W2.heap.size 3 1 j ((posG f).map encZ) else if i = 3 then Eff.headRow W2.heap.size j ((posG f).map encZ) else Eff.any _) ?_
   intro C hC hne
   have HC := hid hC
   have f0 := regCell hC (p := ⟨bx, 1, none⟩) (by have := HB.out.lt; exact this) (fun h => h) (HB.out.cell 1)
   clear hC
   repeat (refine regStep (fun K hK => ?_); first | (refine regN rfl ?_; try go_simp; refine hK _ _ ?_; clear hK K) | (refine regF rfl rfl ?_; unfold floatAt; go_simp; refine hK _ _ ?_; clear hK K))
   refine regStep (fun K hK => ?_)
   refine regE rfl rfl (Eff.row W2.heap.size 3 1 j ((posG f).map encZ)) rfl (fun W hW hN => ?_) (fun v hv => ?_)
   ·have hM := (HC.out W).1 hW
    clear hW
    go_simp
    refine effT_call ((CL.out W hM.below).mono ?_)
    rintro e w2 ⟨vp, rfl, ho, hx⟩
    exact ⟨_, rfl, Move.of_below hx, ownsRow_form ho, ownsRow_base ho (Nat.le_trans HK.out.size hM.size)⟩
   obtain ⟨a7, c7, rfl⟩ := hv
   go_simp
   refine hK _ _ ?_
   clear hK K
   refine regStep (fun K hK => ?_)
   refine regE rfl rfl (Eff.headRow W2.heap.size j ((posG f).map encZ)) rfl (fun W hW hN => ?_) (fun v hv => ?_)
   ·have hro : W.ownsRow W2.heap.size 3 1 (.slice a7 j c7) j ((posG f).map encZ) := hN.at 0 rfl (by kernel_rfl)
    have HRO := hid hro
    clear hW hN hK K hro
    go_simp
    exact ⟨Move.ext ((Ext.refl _).alloc _), ⟨_, rfl⟩, fun b hb => by cases hb; exact ⟨_, Blk.new _ _ _, HRO.out.alloc _⟩⟩
   obtain ⟨bz, rfl⟩ := hv
   go_simp
   refine hK _ _ ?_
   clear hK K
   refine regNil (fun W hW hH => ?_)
   have hM := (HC.out W).1 hW
   obtain ⟨ux, hbx9, hux⟩ : ∃ ux, Blk W bz #[ux] 37 /\ W.ownsRow W2.heap.size 3 1 ux j ((posG f).map encZ) := hH _ (List.mem_cons_self ..) bz rfl
   obtain ⟨a8, c8, rfl⟩ := ownsRow_form hux
   have HBX := hid hbx9
   have HUX := hid hux
   have YB := hid (HB.out.below hM.below HB.out.lt)
   have YO := hid (ownsRow_below U2.out hM.below)
   have Y3 := hid fun i u l hu hl => ownsRow_below (U3.out i u l hu hl) hM.below
   have YK := hid (HK.out.tr (Keeps.of_below hM.below fun x hx => Nat.lt_of_lt_of_le hx.1 HK.out.size))
   have hVs : W2.heap.size <= W.heap.size := Nat.le_trans HK.out.size hM.size
   clear hM hW hH f0 HC HB HK hbx9 hux U2 U3
   go_wp2_with (at_builtin; refine Hid.out ?_)
   refine hid ?_
   refine wpList_append_own_at _ rfl (.tmp 58) (.tmp 60) 29 rfl W2.heap.size 37 iL (.slice none 0 0) 1 24 Tryz.underlying29 hiL hzL0 hzL1 hzL2 rfl (by decide) _ _ _ rfl YO.out ⟨bz, 0, none⟩ 1 1 [.slice a8 j c8] rfl rfl HBX.out.news1 (by simp [Value.oneCell']) (by unfold maxLen; omega) (by omega) hVs ?_
   intro v' w3 hown' hgrow hh hat
   have HO3 := hid hown'
   have HG := hid hgrow
   obtain ⟨ua3, uc3, rfl⟩ := ownsRow_form hown'
   have hne9 : ∀ x, (Value.slice ua5 ml uc5).ownBlock = some x -> W2.heap.size <= x := (fun x e => (YO.out.lt x e).1)
   have ZB := hid (YB.out.grown hgrow (fun e => by have := hne9 _ e.symm; omega))
   have ZK := hid (YK.out.tr (Keeps.of_grown hgrow fun x hx => ⟨Nat.lt_of_lt_of_le hx.1 hVs, fun e => by have := hne9 x e.symm; omega⟩))
   have hsz3 : W.heap.size <= w3.heap.size := hgrow.size
   have p1 := ZB.out.cell 1
   have q1 := ZB.out.frozen 1
   clear hown' hgrow hh hat hne9
   go_wp2
   go_roundw
   case rel =>
    refine ⟨kk + 1, _, by omega, by go_num, ZB.out.set 1 _, ?_, ZK.out.setCell (p := ⟨bx, 1, none⟩) (fun h => h.2 rfl) _⟩
    have hs : OwnLL W2.heap.size w3 (.slice ua3 (ml + 1) uc3) ((m2.fol.map posG).take kk ++ [posG f]) := OwnLL.snoc (w := W) (v := .slice ua5 ml uc5) (us := us) (u := .slice a8 j c8) (by rw [<- HML.out]; exact U1.out) (by rw [<- HML.out]; exact YO.out) (fun i u l hu hl => Y3.out i u l hu hl) (by rw [<- HJ.out]; exact HUX.out) HG.out (by rw [<- HML.out]; exact HO3.out)
    rw [HT.out]
    exact hs.keeps ((Keeps.refl (· ≠ bx) _).setCell (p := ⟨bx, 1, none⟩) (fun h => h rfl) _) (fun x h1 _ e => by omega)
   case measure => simp [intOf]; omega
  ·obtain rfl : kk = n := by omega
   clear hlt hk
   have hki : ¬ ((kk : Int) < kk) := by omega
   have htk : (m2.fol.map posG).take kk = m2.fol.map posG := by rw [show kk = (m2.fol.map posG).length by rw [List.length_map, HL3.out]]; exact List.take_length
   rw [htk] at ho
   obtain ⟨ua, uc, hua1⟩ := ho.form
   rw [List.length_map, HL3.out] at hua1
   subst hua1
   have R0 := hid ho
   have XA := hid hXw
   have CB := hid hb
   have HK := hid hx
   have C2 := hid (E2.out.keeps hx ⟨E2.out.lt, by omega⟩)
   clear ho hb hx htk hXw
   obtain ⟨p0, p1, p2, p3, p4⟩ := CB.out.five
   obtain ⟨y0, y1, y2, y3, y4⟩ := C2.out.five
   have z0 := C2.out.frozen 0
   have z1 := C2.out.frozen 1
   have z2 := C2.out.frozen 2
   have z3 := C2.out.frozen 3
   have z4 := C2.out.frozen 4
   go_wp2
   refine post_named ?_
   intro W9 hW9
   have E9 : Hid (Blk W9 (w.heap.size + 1) #[.slice sa kk sc, .slice ua kk uc, .slice a5 n2 c5, .slice a6 n3 c6, .bool em] 44 /\ Keeps (· ≠ w.heap.size + 1) w5 W9) := by
    rw [hW9]
    exact hid ⟨C2.out.set5, keeps_set5 _ _ _ _ _ _ _⟩
   clear hW9 z0 z1 z2 z3 z4 y0 y1 y2 y3 y4 p0 p1 p2 p3 p4
   obtain ⟨m0, m1, m2', m3, m4⟩ := E9.out.1.five
   have key : ∀ {base : Nat} {e : TypeId} {size n : Nat} {u : Value} {xs : List Value}, w.heap.size <= base -> W2.ownsRow base e size u n xs -> 44 ≠ e -> W9.ownsRow w.heap.size e size u n xs := fun hb h he => ownsRow_base (ownsRow_keeps (ownsRow_keeps h HK.out fun x hx => ⟨(h.lt x hx).2, row_ne BD.out h he x hx⟩) E9.out.2 fun x hx => row_ne E2.out h he x hx) hb
   refine bodyPost_ret (v := .tuple #[.agg #[.slice sa kk sc, .slice ua kk uc, .slice a5 n2 c5, .slice a6 n3 c6, .bool em], .int .i64 0]) (by simp [results, Tryz.results38, go_sem, m0, m1, m2', m3, m4]) rfl ⟨_, rfl, ⟨_, _, _, _, by rw [HEM.out], ?_, ?_, ?_, ?_⟩, XA.out.trans (E9.out.2.mono fun x (hx : x < w.heap.size) => by show x ≠ w.heap.size + 1; omega : Keeps (· < w.heap.size) w5 W9).below⟩
   ·show W9.ownsRow _ _ _ _ m2.sets.length _; rw [<- HN.out]; exact key (Nat.le_refl _) M4.out (by decide)
   ·exact (R0.out.keeps E9.out.2 fun x h1 _ => by show x ≠ w.heap.size + 1; omega).base (by omega)
   ·show W9.ownsRow _ _ _ _ (posG p2.fst).length ((posG p2.fst).map encZ); rw [<- HN2.out, <- HX2.out]; exact key (by omega) M5.out (by decide)
   ·show W9.ownsRow _ _ _ _ (posG p2.lst).length ((posG p2.lst).map encZ); rw [<- HN3.out, <- HX3.out]; exact key (by omega) M6.out (by decide)
end Go.Proofs.YtbiboekhakbnpaaGreatDoor
