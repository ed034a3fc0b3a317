/-
  The maker of automata of positions: a concatenation.
  The maker of automata of positions: a repetition, in plain words. Printed by wip/gen/mrep.py.
-/
import Derived.Test.YtbiboekhakbnpaaGreatDoorOB28
import Derived.Test.YtbiboekhakbnpaaGreatDoorOB08
set_option maxRecDepth 100000
set_option maxHeartbeats 16000000
open Go.Lib (hid)
namespace Go.Proofs.YtbiboekhakbnpaaGreatDoor
open Go Go.RowKit Go.Shelf Go.Maps

structure McC (base M n9 : Nat) (F : Nat -> Prop) (m2 : GM) (A B : World) : Prop where
 keep : Keeps (fun x => x < n9 /\ ¬ F x) A B
 mkr : n9 < A.heap.size -> ∀ F2, MkS base M F2 A m2 -> MkS base M F2 B m2
theorem McC.trans {base M n9 : Nat} {F : Nat -> Prop} {m2 : GM} {A B C : World} (h : McC base M n9 F m2 A B) (k : McC base M n9 F m2 B C) : McC base M n9 F m2 A C :=
 ⟨h.keep.tr k.keep, fun hn F2 hF => k.mkr (Nat.lt_of_lt_of_le hn h.keep.size) F2 (h.mkr hn F2 hF)⟩
theorem McC.ext {base M n9 : Nat} {F : Nat -> Prop} {m2 : GM} {A B : World} (hn : n9 <= A.heap.size) (h : Ext A B) : McC base M n9 F m2 A B :=
 ⟨h.mono fun _ hx => Nat.lt_of_lt_of_le hx.1 hn, fun _ _ hF => hF.keeps h.keeps fun x hx => (hF.lt x hx).2⟩
def EffC.mk (base M n9 : Nat) (F : Nat -> Prop) (m2 : GM) (p2 : GP) : Eff (McC base M n9 F m2) where
 P := fun v => v = .agg (partV p2)
 H := fun _ W => n9 < W.heap.size /\ ∃ F2, MkS base M F2 W m2 /\ (∀ x, F x -> F2 x) /\ ∀ x, F2 x -> F x \/ n9 <= x
 wit := .agg (partV p2)
 pw := rfl
 st := fun _ _ _ hm _ ⟨hn, F2, h1, h2, h3⟩ => ⟨Nat.lt_of_lt_of_le hn hm.keep.size, F2, hm.mkr hn F2 h1, h2, h3⟩
def McCD (base M n9 : Nat) (F : Nat -> Prop) (m : GM) (j : Nat) (W : World) : Prop := j = 4 -> W.heap.size = n9 /\ MkS base M F W m
theorem mcat_any (n0 base M : Nat) (F : Nat -> Prop) (m : GM) (k : Nat) (s : BS) (mn mx : Int) (l : List RX) (p : Option Addr) (n c : Nat) (X : Nat) (w : World) (hn0 : n0 <= base) (h : MkS base M F w m) (hr : IsRx (· < n0) w (.agg (nodeV k s mn mx (.slice p n c))) (.nd k s mn mx l)) (ht : ∀ t ∈ l, MkOK n0 t) (hf : ∀ t ∈ l, t.full = true)
  (hX : w.cell? ⟨X, 0, none⟩ = some (.pointer (some ⟨M, 0, none⟩))) (hXF : ¬ F X) (ok : m.ok) (hm : m.fol.length = m.sets.length) (hn : m.sets.length + RX.cnts l <= 448) (hL : l.length <= 10000) :
  Calls Tryz.prog 142 #[.agg (nodeV k s mn mx (.slice p n c)), .pointer (some ⟨X, 0, none⟩)] w (MkAft base M F w (RX.catG l (m, ⟨0, 0, true⟩)).1 (RX.catG l (m, ⟨0, 0, true⟩)).2) := by
 have hlen : n = l.length := by
  obtain ⟨p2, c2, e⟩ := hr.form
  simp [nodeV, RX.subs, RX.kind, RX.set, RX.mn, RX.mx] at e
  exact e.2.1
 have hn9 : n <= 10000 := by omega
 have HM := hid h
 have HR := hid hr
 have HT := hid ht
 have HFu := hid hf
 have HOK := hid ok
 have HFL := hid hm
 have HX := hid hX
 have HXF := hid hXF
 have HLN := hid hlen
 have hXw : X < w.heap.size := World.block_lt_of_cell? _ _ hX
 have hMw : M < w.heap.size := (h.lt M h.fm).2
 have hbw : n0 <= w.heap.size := by have := (h.lt M h.fm).1; omega
 obtain ⟨st, hst⟩ : ∃ st, st = RX.catG l (m, ⟨0, 0, true⟩) := ⟨_, rfl⟩
 rw [<- hst]
 have HST := hid hst
 clear h hr ht hf ok hm hX hXF hlen hst
 unfold nodeV
 go_enter Tryz.func142, Tryz.ntmps142
 go_upto_region 2 with fail
 refine wp_named ?_
 intro V hV
 have N0 : Hid (Blk V w.heap.size #[.int .u8 k, .int .u64 (wd s 0).toNat, .int .u64 (wd s 1).toNat, .int .u64 (wd s 2).toNat, .int .u64 (wd s 3).toNat, .int .i64 mn, .int .i64 mx, .slice p n c] 86) := by rw [hV]; exact hid (((Blk.new _ _ _).alloc _).alloc _)
 have R0 : Hid (Blk V (w.heap.size + 1) (zeroV false) 131) := by rw [hV]; exact hid ((Blk.at (Blk.new _ _ _) (by simp)).alloc _)
 have O0 : Hid (Blk V (w.heap.size + 1 + 1) (zeroV true) 131) := by rw [hV]; exact hid (Blk.at (Blk.new _ _ _) (by simp))
 have E0 : Hid (Ext w V) := by rw [hV]; exact hid ((((Ext.refl w).alloc _).alloc _).alloc _)
 have HSZ : Hid (V.heap.size = w.heap.size + 1 + 1 + 1) := hid (by rw [hV]; simp)
 clear hV
 have n7 : V.cell? ⟨w.heap.size, 7, none⟩ = some (.slice p n c) := N0.out.cell 7
 have hVs : w.heap.size + 1 + 1 < V.heap.size := by rw [HSZ.out]; omega
 have MV : Hid (MkS base M F V m) := hid (HM.out.keeps E0.out.keeps fun x hx => (HM.out.lt x hx).2)
 have hXV : V.cell? ⟨X, 0, none⟩ = some (.pointer (some ⟨M, 0, none⟩)) := (E0.out.keeps.cell (p := ⟨X, 0, none⟩) hXw).trans HX.out
 have HXV := hid hXV
 clear hXV
 go_wp2
 clear n7
 go_loopw [11] (fun iv W => ∃ k : Nat, k <= n /\ iv = .int .i64 k /\ PreI base M F (RX.catG (l.take k) (m, ⟨0, 0, true⟩)) (w.heap.size + 1 + 1) V W) (fun iv _ => n - (intOf iv).toNat)
 case atStart =>
  refine ⟨0, by omega, rfl, ?_⟩
  rw [List.take_zero, RX.catG]
  exact ⟨⟨F, MV.out, fun _ h => h, fun _ h => .inl h⟩, by rw [partV_zero]; exact O0.out, Keeps.refl _ _⟩
 case round =>
  obtain ⟨k, hk, rfl, hI⟩ := hrel
  obtain ⟨wo, rfl⟩ : ∃ wo : World, wo = wr := ⟨_, rfl⟩
  have HI := hid hI
  clear hI
  by_cases hlt : k < n
  ·have hki : (k : Int) < n := by omega
   obtain ⟨t, htk⟩ : ∃ t, l[k]? = some t := ⟨_, List.getElem?_eq_getElem (by have := HLN.out; omega)⟩
   have hnFb : ∀ x, x < n0 -> ¬ F x := fun x hx e => by have := (HM.out.lt x e).1; omega
   obtain ⟨b, off, p', c', rfl, hb, hbw2, hcap, ⟨e0, e1, e2, e3, e4, e5, e6, e7⟩, hrt⟩ := HR.out.elem htk
   have HTK := hid htk
   have KO : Hid (Keeps (fun x => x < w.heap.size /\ ¬ F x) w wo) := hid ((E0.out.keeps.mono fun x hx => hx.1).tr (HI.out.2.2.mono fun x hx => ⟨by have := hx.1; omega, hx.2, by have := hx.1; omega⟩))
   have ec : ∀ (o : Nat) (u : Value), w.cell? ⟨b, o, none⟩ = some u -> wo.cell? ⟨b, o, none⟩ = some u := fun o u h => (KO.out.cell (p := ⟨b, o, none⟩) ⟨hbw2, hnFb b hb⟩).trans h
   replace e0 := ec _ _ e0
   replace e1 := ec _ _ e1
   replace e2 := ec _ _ e2
   replace e3 := ec _ _ e3
   replace e4 := ec _ _ e4
   replace e5 := ec _ _ e5
   replace e6 := ec _ _ e6
   replace e7 := ec _ _ e7
   have hXo : wo.cell? ⟨X, 0, none⟩ = some (.pointer (some ⟨M, 0, none⟩)) := (KO.out.cell (p := ⟨X, 0, none⟩) ⟨hXw, HXF.out⟩).trans HX.out
   have HXo := hid hXo
   have hbo : b < wo.heap.size := World.block_lt_of_cell? _ _ e0
   have HRT : Hid (IsRx (· < n0) wo (.agg (nodeV t.kind t.set t.mn t.mx (.slice p' t.subs.length c'))) t) := hid (hrt.keeps KO.out fun x hx => ⟨by omega, hnFb x hx⟩)
   clear ec htk hrt hnFb hXo
   go_upto_region 5 with fail
   refine wp_named ?_
   intro W1 hW1
   have N1 : Hid (Blk W1 wo.heap.size (nodeV t.kind t.set t.mn t.mx (.slice p' t.subs.length c')) 86) := by rw [hW1]; exact hid (Blk.new _ _ _)
   have E1 : Hid (Ext wo W1) := by rw [hW1]; exact hid ((Ext.refl wo).alloc _)
   clear hW1 e0 e1 e2 e3 e4 e5 e6 e7
   have e0 : W1.cell? ⟨wo.heap.size, 0, none⟩ = some (.int .u8 t.kind) := N1.out.cell 0
   have e1 : W1.cell? ⟨wo.heap.size, 1, none⟩ = some (.int .u64 (wd t.set 0).toNat) := N1.out.cell 1
   have e2 : W1.cell? ⟨wo.heap.size, 2, none⟩ = some (.int .u64 (wd t.set 1).toNat) := N1.out.cell 2
   have e3 : W1.cell? ⟨wo.heap.size, 3, none⟩ = some (.int .u64 (wd t.set 2).toNat) := N1.out.cell 3
   have e4 : W1.cell? ⟨wo.heap.size, 4, none⟩ = some (.int .u64 (wd t.set 3).toNat) := N1.out.cell 4
   have e5 : W1.cell? ⟨wo.heap.size, 5, none⟩ = some (.int .i64 t.mn) := N1.out.cell 5
   have e6 : W1.cell? ⟨wo.heap.size, 6, none⟩ = some (.int .i64 t.mx) := N1.out.cell 6
   have e7 : W1.cell? ⟨wo.heap.size, 7, none⟩ = some (.slice p' t.subs.length c') := N1.out.cell 7
   have hXo : W1.cell? ⟨X, 0, none⟩ = some (.pointer (some ⟨M, 0, none⟩)) := (E1.out.keeps.cell (p := ⟨X, 0, none⟩) (World.block_lt_of_cell? _ _ HXo.out)).trans HXo.out
   obtain ⟨⟨F', hM', hF1, hF2⟩, hO, hKI⟩ := HI.out
   have hpre := catG_pre HFu.out HOK.out true k
   have hmk := mkG_ok t (HFu.out t (List.mem_of_getElem? HTK.out)) _ hpre.ok
   have hcs := cnts_snoc HTK.out
   have hct := cnts_take l (k + 1)
   have hal := catG_snoc HTK.out (m, (⟨0, 0, true⟩ : GP))
   obtain ⟨sk, hsk⟩ : ∃ sk, sk = RX.catG (l.take k) (m, (⟨0, 0, true⟩ : GP)) := ⟨_, rfl⟩
   rw [<- hsk] at hO hM' hal hpre hmk
   obtain ⟨m2, p2, hmp⟩ : ∃ m2 p2, t.mkG sk.1 = (m2, p2) := ⟨_, _, rfl⟩
   rw [hmp] at hal hmk
   dsimp only at hal
   have hl1 := hmk.len
   have hl2 := hpre.len
   have hl3 := hmk.ok.len
   dsimp only at hl1 hl3
   have HPB : Hid (PBlt sk.2.lst m2.fol.length) := hid (hpre.gp.lst.mono (by omega))
   have HP4 : Hid (m2.fol.length <= 448) := hid (by omega)
   have CM : Hid (∀ W, MkS base M F' W sk.1 -> IsRx (· < n0) W (.agg (nodeV t.kind t.set t.mn t.mx (.slice p' t.subs.length c'))) t -> Calls Tryz.prog 68 #[.pointer (some ⟨M, 0, none⟩), .agg (nodeV t.kind t.set t.mn t.mx (.slice p' t.subs.length c'))] W (MkAft base M F' W m2 p2)) := hid fun W h1 h2 => by
    have := HT.out t (List.mem_of_getElem? HTK.out) base M F' sk.1 W _ hn0 h1 h2 hpre.ok hpre.ok.len (by rw [hpre.len]; omega)
    rw [hmp] at this
    exact this
   have HAL := hid hal
   have hnO : ¬ F' (w.heap.size + 1 + 1) := fun e => by rcases hF2 _ e with h | h; exact absurd (HM.out.lt _ h).2 (by omega); omega
   have hnX : ¬ F' X := fun e => by rcases hF2 _ e with h | h; exact HXF.out h; omega
   have O1 := hid (hO.ext E1.out)
   have M1 : Hid (MkS base M F' W1 sk.1) := hid (hM'.keeps E1.out.keeps fun x hx => (hM'.lt x hx).2)
   have R1 : Hid (IsRx (· < n0) W1 (.agg (nodeV t.kind t.set t.mn t.mx (.slice p' t.subs.length c'))) t) := hid (HRT.out.keeps E1.out.keeps fun x hx => by have := KO.out.size; omega)
   have hnF' : ∀ x, x < n0 -> ¬ F' x := fun x hx e => by have := (hM'.lt x e).1; omega
   have hnB : ¬ F' wo.heap.size := fun e => by have := (hM'.lt _ e).2; omega
   have HF1 := hid hF1
   have HF2 := hid hF2
   have HKI := hid hKI
   have HNO := hid hnO
   have HNF := hid hnF'
   have hX1 : X < W1.heap.size := by have := KO.out.size; have := E1.out.size; omega
   have hN01 : n0 <= W1.heap.size := by have := KO.out.size; have := E1.out.size; omega
   clear hal hmp hsk hO hM' hF1 hF2 hKI hnO HI hpre hmk hcs hct hl1 hl2 hl3 hnF'
   refine RegQ.wp_region_regM (McC base M W1.heap.size F' m2) (McC.ext (Nat.le_refl _) (Ext.refl _).drew) (fun _ _ _ h k => h.trans k) (by kernel_rfl) 5 [0, 0, 0, 0, 12, 31, 63] (fun i => i == 4 || i == 5 || i == 6) (by kernel_rfl) (fun i => if i = 4 then EffC.mk _ _ _ _ _ p2 else Eff.any _) (McCD base M W1.heap.size F' sk.1) (fun _ _ _ => ⟨rfl, M1.out.keeps (Ext.refl _).drew.keeps fun x hx => (M1.out.lt x hx).2⟩) ?_
   intro C hC hne
   have HC := hid hC
   have fc : ∀ (b o : Nat) (u : Value), b < W1.heap.size -> ¬ F' b -> W1.cell? ⟨b, o, none⟩ = some u -> ∀ W : { W // C W }, W.1.cell? ⟨b, o, none⟩ = some u := fun b o u h1 h2 h3 W => (((hC W.1).1 W.2).keep.cell (p := ⟨b, o, none⟩) ⟨h1, h2⟩).trans h3
   have fX := fc _ _ _ hX1 hnX hXo
   obtain ⟨o0, o1, o2, o3, o4, o5, o6, o7, o8, o9, o10, o11, o12, o13, o14⟩ := O1.out.part
   have q0 := fc _ _ _ O1.out.lt HNO.out o0
   have q1 := fc _ _ _ O1.out.lt HNO.out o1
   have q2 := fc _ _ _ O1.out.lt HNO.out o2
   have q3 := fc _ _ _ O1.out.lt HNO.out o3
   have q4 := fc _ _ _ O1.out.lt HNO.out o4
   have q5 := fc _ _ _ O1.out.lt HNO.out o5
   have q6 := fc _ _ _ O1.out.lt HNO.out o6
   have q7 := fc _ _ _ O1.out.lt HNO.out o7
   have q8 := fc _ _ _ O1.out.lt HNO.out o8
   have q9 := fc _ _ _ O1.out.lt HNO.out o9
   have q10 := fc _ _ _ O1.out.lt HNO.out o10
   have q11 := fc _ _ _ O1.out.lt HNO.out o11
   have q12 := fc _ _ _ O1.out.lt HNO.out o12
   have q13 := fc _ _ _ O1.out.lt HNO.out o13
   have q14 := fc _ _ _ O1.out.lt HNO.out o14
   have f0 := fc _ _ _ N1.out.lt hnB e0
   have f1 := fc _ _ _ N1.out.lt hnB e1
   have f2 := fc _ _ _ N1.out.lt hnB e2
   have f3 := fc _ _ _ N1.out.lt hnB e3
   have f4 := fc _ _ _ N1.out.lt hnB e4
   have f5 := fc _ _ _ N1.out.lt hnB e5
   have f6 := fc _ _ _ N1.out.lt hnB e6
   have f7 := fc _ _ _ N1.out.lt hnB e7
   clear hC fc e0 e1 e2 e3 e4 e5 e6 e7 hXo o0 o1 o2 o3 o4 o5 o6 o7 o8 o9 o10 o11 o12 o13 o14
   repeat (refine RegQ.regStep (fun K hK => ?_); first | (refine RegQ.regN rfl ?_; try go_simp; refine hK _ _ ?_; clear hK K) | (refine RegQ.regF rfl rfl ?_; unfold floatAt; go_simp; refine hK _ _ ?_; clear hK K))
   refine RegQ.regStep (fun K hK => ?_)
   refine RegQ.regE rfl rfl (EffC.mk base M W1.heap.size F' m2 p2) rfl (fun W hW hD hN => ?_) (fun v hv => ?_)
   ·have hM := (HC.out W).1 hW
    obtain ⟨hsW, hMW⟩ := hD rfl
    clear hW hN hK K hD
    go_simp
    refine effT_call ((CM.out W hMW (R1.out.keeps hM.keep fun x hx => ⟨by omega, HNF.out x hx⟩)).mono ?_)
    rintro e w2 ⟨rfl, hF'', hx, hsz⟩
    rw [hsW] at hF'' hx hsz
    exact ⟨_, rfl, ⟨⟨hx, fun h => by omega⟩, fun j hj _ _ e => absurd e hj⟩, rfl, hsz, hF''⟩
   replace hv : v = _ := hv
   subst hv
   go_simp
   refine hK _ _ ?_
   clear hK K
   refine RegQ.regNil (fun W hW hH => ?_)
   have hMv := (HC.out W).1 hW
   obtain ⟨hsz, F2, g1, g2, g3⟩ : W1.heap.size < W.heap.size /\ ∃ F2, MkS base M F2 W m2 /\ (∀ x, F' x -> F2 x) /\ ∀ x, F2 x -> F' x \/ W1.heap.size <= x := hH _ (List.mem_of_getElem? (show _ = some _ from rfl : _[0]? = some _))
   have hO1 : w.heap.size + 1 + 1 < W1.heap.size := O1.out.lt
   have hn2 : ¬ F2 (w.heap.size + 1 + 1) := fun e => by rcases g3 _ e with h | h; exact HNO.out h; omega
   have O2 := hid (O1.out.keeps hMv.keep ⟨O1.out.lt, HNO.out⟩)
   have HKx := hid hMv.keep
   have CT : Hid (Calls Tryz.prog 143 #[.pointer (some ⟨M, 0, none⟩), .agg (partV sk.2), .agg (partV p2)] W fun e w' => e = .returned (.agg (partV (thenG m2 sk.2 p2).2)) /\ MkS base M F2 w' (thenG m2 sk.2 p2).1 /\ Keeps (fun x => x < W.heap.size /\ ¬ F2 x) W w') := hid (mthen_any base M F2 m2 sk.2 p2 W g1 HPB.out HP4.out)
   obtain ⟨m3, p3, hmp3⟩ : ∃ m3 p3, thenG m2 sk.2 p2 = (m3, p3) := ⟨_, _, rfl⟩
   rw [hmp3] at CT
   dsimp only at CT
   have hal := HAL.out
   rw [hmp3] at hal
   have HAL3 := hid hal
   have G2 := hid g2
   have G3 := hid g3
   have HN2 := hid hn2
   clear hMv hW hH HC hne fX q0 q1 q2 q3 q4 q5 q6 q7 q8 q9 q10 q11 q12 q13 q14 f0 f1 f2 f3 f4 f5 f6 f7 g1 g2 g3 hn2 hmp3 hal HAL CM O1
   go_wp2_with fail
   refine CT.out.mono ?_
   rintro e w2 ⟨rfl, hF3, hx⟩
   have O3 := hid (O2.out.keeps hx ⟨O2.out.lt, HN2.out⟩)
   have M3 := hid hF3
   have HKy := hid hx
   clear hx hF3 CT
   obtain ⟨z0, z1, z2, z3, z4, z5, z6, z7, z8, z9, z10, z11, z12, z13, z14⟩ := O3.out.partZ
   obtain ⟨o0, o1, o2, o3, o4, o5, o6, o7, o8, o9, o10, o11, o12, o13, o14⟩ := O3.out.part
   unfold partV
   go_upto_region 6 with fail
   refine wp_named ?_
   intro W4 hW4
   have O4 : Hid (Blk W4 (w.heap.size + 1 + 1) (partV p3) 131) := by rw [hW4]; exact hid (O3.out.setPart p3)
   have K4 : Hid (Keeps (· ≠ w.heap.size + 1 + 1) w2 W4) := by rw [hW4]; exact hid (keeps_setPart _ _ p3)
   clear hW4 o0 o1 o2 o3 o4 o5 o6 o7 o8 o9 o10 o11 o12 o13 o14 z0 z1 z2 z3 z4 z5 z6 z7 z8 z9 z10 z11 z12 z13 z14
   go_wp2
   go_roundw
   case rel =>
    refine ⟨k + 1, by omega, by go_num, ?_⟩
    rw [HAL3.out]
    have h1 := E1.out.keeps.size
    have h2 := HKI.out.size
    have h3 := HKx.out.size
    refine ⟨⟨F2, M3.out.keeps K4.out fun x hx e => HN2.out (e ▸ hx), fun x h => G2.out x (HF1.out x h), fun x h => by rcases G3.out x h with h | h; exact HF2.out x h; exact .inr (by omega)⟩, O4.out, ?_⟩
    exact HKI.out.tr ((E1.out.keeps.mono fun x hx => by have := hx.1; omega).tr ((HKx.out.mono fun x hx => ⟨by have := hx.1; omega, fun e => by rcases HF2.out x e with h | h; exact hx.2.1 h; have := hx.1; omega⟩).tr ((HKy.out.mono fun x hx => ⟨by have := hx.1; omega, fun e => by rcases G3.out x e with h | h; rcases HF2.out x h with h | h; exact hx.2.1 h; have := hx.1; omega; have := hx.1; omega⟩).tr (K4.out.mono fun x hx => hx.2.2))))
   case measure => simp [intOf]; omega
  ·obtain rfl : k = n := by omega
   have hkn : ¬ ((k : Int) < k) := by omega
   obtain ⟨hF', hO, hK⟩ := HI.out
   rw [HLN.out, List.take_length, <- HST.out] at hF' hO
   have HF' := hid hF'
   have O3 := hid hO
   have HK := hid hK
   have R3 : Hid (Blk wo (w.heap.size + 1) (zeroV false) 131) := hid (R0.out.keeps hK ⟨R0.out.lt, fun e => by have := (HM.out.lt _ e).2; omega, by omega⟩)
   obtain ⟨o0, o1, o2, o3, o4, o5, o6, o7, o8, o9, o10, o11, o12, o13, o14⟩ := O3.out.part
   obtain ⟨r0, r1, r2, r3, r4, r5, r6, r7, r8, r9, r10, r11, r12, r13, r14⟩ := R3.out.zero
   obtain ⟨f0, f1, f2, f3, f4, f5, f6, f7, f8, f9, f10, f11, f12, f13, f14⟩ : wo.frozen? ⟨w.heap.size + 1, 0, none⟩ = false /\ wo.frozen? ⟨w.heap.size + 1, 1, none⟩ = false /\ wo.frozen? ⟨w.heap.size + 1, 2, none⟩ = false /\ wo.frozen? ⟨w.heap.size + 1, 3, none⟩ = false /\ wo.frozen? ⟨w.heap.size + 1, 4, none⟩ = false /\ wo.frozen? ⟨w.heap.size + 1, 5, none⟩ = false /\ wo.frozen? ⟨w.heap.size + 1, 6, none⟩ = false /\ wo.frozen? ⟨w.heap.size + 1, 7, none⟩ = false /\ wo.frozen? ⟨w.heap.size + 1, 8, none⟩ = false /\ wo.frozen? ⟨w.heap.size + 1, 9, none⟩ = false /\ wo.frozen? ⟨w.heap.size + 1, 10, none⟩ = false /\ wo.frozen? ⟨w.heap.size + 1, 11, none⟩ = false /\ wo.frozen? ⟨w.heap.size + 1, 12, none⟩ = false /\ wo.frozen? ⟨w.heap.size + 1, 13, none⟩ = false /\ wo.frozen? ⟨w.heap.size + 1, 14, none⟩ = false := ⟨R3.out.frozen 0, R3.out.frozen 1, R3.out.frozen 2, R3.out.frozen 3, R3.out.frozen 4, R3.out.frozen 5, R3.out.frozen 6, R3.out.frozen 7, R3.out.frozen 8, R3.out.frozen 9, R3.out.frozen 10, R3.out.frozen 11, R3.out.frozen 12, R3.out.frozen 13, R3.out.frozen 14⟩
   clear hF' hO hK HI
   go_wp2
   refine post_named ?_
   intro V3 hV3
   have R9 : Hid (Blk V3 (w.heap.size + 1) (partV st.2) 131) := by rw [hV3]; exact hid (R3.out.setPart st.2)
   have K9 : Keeps (· ≠ w.heap.size + 1) wo V3 := by rw [hV3]; exact keeps_setPart _ _ st.2
   clear hV3
   obtain ⟨m0, m1, m2, m3, m4, m5, m6, m7, m8, m9, m10, m11, m12, m13, m14⟩ := R9.out.part
   refine bodyPost_ret (v := .agg (partV st.2)) (by simp [results, Tryz.results142, partV, go_sem, m0, m1, m2, m3, m4, m5, m6, m7, m8, m9, m10, m11, m12, m13, m14]) rfl ⟨rfl, ?_, ?_, ?_⟩
   ·obtain ⟨F', h1, h2, h3⟩ := HF'.out
    exact ⟨F', h1.keeps K9 fun x hx e => by (rcases h3 x hx with h | h; · exact absurd (HM.out.lt x h).2 (by omega)); omega, h2, fun x hx => (h3 x hx).imp id fun h => by omega⟩
   ·exact (E0.out.keeps.mono fun x hx => hx.1).tr ((HK.out.mono fun x hx => ⟨by have := hx.1; omega, hx.2, by have := hx.1; omega⟩).tr (K9.mono fun x hx => by have := hx.1; omega))
   ·have := K9.size; have := HK.out.size; omega
theorem sizePart (a : GP) : (Tryz.prog.info? 131).map (·.size) = some (partV a).size := by show _ = some 15; kernel_rfl
theorem onePart (a : GP) : (partV a).all (·.oneCell') = true := by unfold partV; simp [Value.oneCell']
theorem keeps_row (W : World) (b : Nat) (c : Array Value) : Keeps (· ≠ b) W (W.setRow b c) := (Keeps.refl _ _).setRow (fun h => h rfl) c
theorem reps_pre {t : RX} (ht : t.full = true) {m : GM} (hm : m.ok) (mn mx : Int) (k : Nat) : MadeG m (repsG mn mx (fun m => t.mkG m) m k) (k * t.cnt) := repsG_ok (fun m hm => mkG_ok t ht m hm) hm k
end Go.Proofs.YtbiboekhakbnpaaGreatDoor
