/-
  The law's awake.
-/
import Derived.Test.YtiegfnmpknmbmaaGreatK40
import Derived.Test.YtiegfnmpknmbmaaGreatK45
import Derived.Test.YtiegfnmpknmbmaaGreatK46
import Derived.Test.YtiegfnmpknmbmaaGreatK47
import Derived.Test.YtiegfnmpknmbmaaGreatK22
import Derived.Test.YtiegfnmpknmbmaaGreatK48
import Derived.Lib.SlBytesConst
import Derived.Lib.SlBytesRow
namespace Go.Proofs.YtiegfnmpknmbmaaGreat
open Go Go.RowKit Go.Shelf Go.Maps
attribute [local go_sem] encS

theorem IsDf.form3 {w : World} {v : Value} {d : DF} (h : IsDf w v d) : ∃ a0 n0 c0 a1 n1 c1 a2 n2 c2, v = .agg #[.slice a0 n0 c0, .slice a1 n1 c1, .slice a2 n2 c2] := by
  obtain ⟨v0, v1, v2, rfl, h0, h1, h2⟩ := h
  obtain ⟨a0, c0, rfl⟩ := h0.1.form
  obtain ⟨a1, c1, rfl⟩ := h1.form
  obtain ⟨a2, c2, rfl⟩ := h2.form
  exact ⟨_, _, _, _, _, _, _, _, _, rfl⟩
theorem str_one {W : World} {base n : Nat} {a : Option Addr} {c : Nat} (hn : n = 1) (h : W.ownsRow base 5 1 (.slice a n c) 1 [encB 97]) : (convert 47 9 (.slice a n c)).run Tryz.prog W = .ok (.string ⟨#[97]⟩) W := by
  subst hn
  obtain ⟨g, u, rfl, _, _, hu, cu, _⟩ := rowCell h (show 0 < 1 by decide)
  cases hu
  exact Lib.run_convert_whole W 47 5 9 Tryz.underlying47 Tryz.underlying5 Tryz.underlying9 g 0 ⟨#[97]⟩ (fun i hi => by
    obtain rfl : i = 0 := by have : i < 1 := hi; omega
    exact cu) c
theorem heap_new_at {w : World} {o : Obj} {b : Nat} (e : w.heap.size = b) : (w.alloc o).heap[b]? = some o := e ▸ World.alloc_heap_new w o
theorem kc_one (w : World) (o : Obj) (C : Array Value) (n c : Nat) : (convert 47 47 (.slice (some ⟨w.heap.size + 1, 0, none⟩) n c)).run Tryz.prog ((w.alloc o).alloc (.cells C 5)) = .ok (.slice (some ⟨w.heap.size + 1, 0, none⟩) n c) ((w.alloc o).alloc (.cells C 5 (C.size, C.size + 1))) := by
  have h := Lib.run_convert_bytes_const (P := Tryz.prog) (w.alloc o) 47 5 C n c Tryz.underlying47 Tryz.underlying5
  have e : (w.alloc o).heap.size = w.heap.size + 1 := by simp
  rw [e] at h
  exact h
def DfOut (e : Ending) (w' : World) (d : DF) : Prop := ∃ a0 n0 c0 a1 n1 c1 a2 n2 c2, e = .returned (.agg #[.slice a0 n0 c0, .slice a1 n1 c1, .slice a2 n2 c2]) ∧ IsDf w' (.agg #[.slice a0 n0 c0, .slice a1 n1 c1, .slice a2 n2 c2]) d
def DfOutE (e : Ending) (w' : World) (d : DF) : Prop := ∃ a0 n0 c0 a1 n1 c1 a2 n2 c2, e = .returned (.tuple #[.agg #[.slice a0 n0 c0, .slice a1 n1 c1, .slice a2 n2 c2], .int .i64 0]) ∧ IsDf w' (.agg #[.slice a0 n0 c0, .slice a1 n1 c1, .slice a2 n2 c2]) d
def RowOut (base : Nat) (e : Ending) (w' : World) (l : List Nat) (b : Bool) : Prop := ∃ a c, e = .returned (.tuple #[.slice a l.length c, .bool b, .int .i64 0]) ∧ w'.ownsRow base 5 1 (.slice a l.length c) l.length (l.map encB)
theorem aw_first_any (u : Value) (d : DF) (rt : d.right = true) (sm : Sm d) (l : List Nat) (h : firstR d = some l) (W : World) (hd : IsDf W u d) : Calls Tryz.prog 26 #[u] W fun e w' => RowOut W.heap.size e w' l true ∧ Below W.heap.size W w' := by
  refine (pfirst_any u d sm W hd).mono ?_
  rintro e w' ⟨v, rfl, ho, hx⟩
  rw [show firstE d = (l, true, 0) by unfold firstE; rw [rt, h]; rfl] at ho ⊢
  obtain ⟨a, c, rfl⟩ := ownsRow_form ho
  exact ⟨⟨a, c, rfl, ho⟩, hx⟩
theorem aw_parts (f : Nat) (u u' : Value) (a b : DF) (op : Int) (l : List Nat) (bo : Bool) (hp : partsE a b op 99 = (l, bo, 0)) (W : World)
    (h : Calls Tryz.prog f #[u, u', .int .i64 99] W fun e w' => ∃ u, e = .returned (.tuple #[u, .bool (partsE a b op 99).2.1, .int .i64 (partsE a b op 99).2.2]) ∧ w'.ownsRow W.heap.size 5 1 u (partsE a b op 99).1.length ((partsE a b op 99).1.map encB) ∧ Below W.heap.size W w') :
    Calls Tryz.prog f #[u, u', .int .i64 99] W fun e w' => RowOut W.heap.size e w' l bo ∧ Below W.heap.size W w' := by
  refine h.mono ?_
  rintro e w' ⟨v, rfl, ho, hx⟩
  rw [hp] at ho ⊢
  obtain ⟨a, c, rfl⟩ := ownsRow_form ho
  exact ⟨⟨a, c, rfl, ho⟩, hx⟩
theorem any_sm : Sm dAny := ⟨by decide, by decide, by decide, by decide, by decide⟩
theorem and_sm : Sm dAnd := ⟨by decide, by decide, by decide, by decide, by decide⟩
theorem less_sm : Sm dLess := ⟨by decide, by decide, by decide, by decide, by decide⟩
theorem not_sm : Sm (notOf (roundsD 1)) := (notOf_right ((right_iff _).1 r1_right)).2
set_option maxRecDepth 100000 in
set_option maxHeartbeats 8000000 in
theorem awakeP_any (w : World) : Calls Tryz.prog 8 #[] w fun e w' => e = .returned (.bool true) ∧ Below w.heap.size w w' := by
  have s1 := rounds_sm 1 (by decide)
  have s2 := rounds_sm 2 (by decide)
  obtain ⟨D1, hD1⟩ : ∃ d, d = roundsD 1 := ⟨_, rfl⟩
  obtain ⟨D2, hD2⟩ : ∃ d, d = roundsD 2 := ⟨_, rfl⟩
  obtain ⟨DA, hDA⟩ : ∃ d, d = dAnd := ⟨_, rfl⟩
  obtain ⟨DL, hDL⟩ : ∃ d, d = dLess := ⟨_, rfl⟩
  obtain ⟨DN, hDN⟩ : ∃ d, d = notOf (roundsD 1) := ⟨_, rfl⟩
  have R1 : Hid (∀ W, Calls Tryz.prog 12 #[.int .i64 1] W fun e w' => DfOut e w' D1 ∧ Below W.heap.size W w') := Lib.hid fun W => (rounds_any 1 (by decide) (by decide) W).mono fun e w' ⟨u, he, hd, hx⟩ => by
    obtain ⟨a0, n0, c0, a1, n1, c1, a2, n2, c2, rfl⟩ := hd.form3
    rw [hD1]; exact ⟨⟨_, _, _, _, _, _, _, _, _, he, hd⟩, hx⟩
  have R2 : Hid (∀ W, Calls Tryz.prog 12 #[.int .i64 2] W fun e w' => DfOut e w' D2 ∧ Below W.heap.size W w') := Lib.hid fun W => (rounds_any 2 (by decide) (by decide) W).mono fun e w' ⟨u, he, hd, hx⟩ => by
    obtain ⟨a0, n0, c0, a1, n1, c1, a2, n2, c2, rfl⟩ := hd.form3
    rw [hD2]; exact ⟨⟨_, _, _, _, _, _, _, _, _, he, hd⟩, hx⟩
  have CA : Hid (∀ W u u', IsDf W u D1 → IsDf W u' D2 → Calls Tryz.prog 19 #[u, u', .int .u8 1, .int .i64 99] W fun e w' => DfOutE e w' DA ∧ Below W.heap.size W w') := Lib.hid fun W u u' h h' => by
    rw [hD1] at h; rw [hD2] at h'
    refine (prod_any u u' _ _ s1 s2 1 99 W h h').mono fun e w' ⟨u, he, hd, hx⟩ => ?_
    rw [show prodE (roundsD 1) (roundsD 2) ((1 : Nat) : Int) 99 = (dAnd, 0) from aw_and] at he hd
    obtain ⟨a0, n0, c0, a1, n1, c1, a2, n2, c2, rfl⟩ := hd.df.form3
    rw [hDA]; exact ⟨⟨_, _, _, _, _, _, _, _, _, he, hd.df⟩, hx⟩
  have CL : Hid (∀ W u u', IsDf W u D1 → IsDf W u' D2 → Calls Tryz.prog 19 #[u, u', .int .u8 3, .int .i64 99] W fun e w' => DfOutE e w' DL ∧ Below W.heap.size W w') := Lib.hid fun W u u' h h' => by
    rw [hD1] at h; rw [hD2] at h'
    refine (prod_any u u' _ _ s1 s2 3 99 W h h').mono fun e w' ⟨u, he, hd, hx⟩ => ?_
    rw [show prodE (roundsD 1) (roundsD 2) ((3 : Nat) : Int) 99 = (dLess, 0) from aw_less] at he hd
    obtain ⟨a0, n0, c0, a1, n1, c1, a2, n2, c2, rfl⟩ := hd.df.form3
    rw [hDL]; exact ⟨⟨_, _, _, _, _, _, _, _, _, he, hd.df⟩, hx⟩
  have CM : Hid (∀ W u b, IsDf W u DA → IsSl encB W b [97, 97] → Calls Tryz.prog 25 #[u, b] W fun e w' => (∃ a c, e = .returned (.tuple #[.slice a 1 c, .int .i64 0])) ∧ Below W.heap.size W w') := Lib.hid fun W u b h hb => by
    rw [hDA] at h
    refine (dfaMarks_any u b dAnd ((right_iff _).1 dAnd_right) and_sm [97, 97] (by decide) (by decide) W h hb).mono fun e w' ⟨v, he, ho, hx⟩ => ?_
    rw [aw_yes] at ho
    obtain ⟨a, c, rfl⟩ := ownsRow_form ho
    exact ⟨⟨a, c, he⟩, hx⟩
  have CN : Hid (∀ W u b, IsDf W u DA → IsSl encB W b [97] → Calls Tryz.prog 25 #[u, b] W fun e w' => (∃ a c, e = .returned (.tuple #[.slice a 0 c, .int .i64 0])) ∧ Below W.heap.size W w') := Lib.hid fun W u b h hb => by
    rw [hDA] at h
    refine (dfaMarks_any u b dAnd ((right_iff _).1 dAnd_right) and_sm [97] (by decide) (by decide) W h hb).mono fun e w' ⟨v, he, ho, hx⟩ => ?_
    rw [aw_no] at ho
    obtain ⟨a, c, rfl⟩ := ownsRow_form ho
    exact ⟨⟨a, c, he⟩, hx⟩
  have CF : Hid (∀ W u, IsDf W u DL → Calls Tryz.prog 26 #[u] W fun e w' => RowOut W.heap.size e w' [97] true ∧ Below W.heap.size W w') := Lib.hid fun W u h => by
    rw [hDL] at h; exact aw_first_any u _ dLess_right less_sm [97] aw_first W h
  have CW : Hid (∀ W u u', IsDf W u D2 → IsDf W u' D1 → Calls Tryz.prog 20 #[u, u', .int .i64 99] W fun e w' => RowOut W.heap.size e w' [] true ∧ Below W.heap.size W w') := Lib.hid fun W u u' h h' => by
    rw [hD2] at h; rw [hD1] at h'
    exact aw_parts _ u u' _ _ 3 [] true aw_in W (pwithin_any u u' _ _ s2 s1 99 W h h')
  have CV : Hid (∀ W u u', IsDf W u D1 → IsDf W u' D2 → Calls Tryz.prog 20 #[u, u', .int .i64 99] W fun e w' => RowOut W.heap.size e w' [97] false ∧ Below W.heap.size W w') := Lib.hid fun W u u' h h' => by
    rw [hD1] at h; rw [hD2] at h'
    exact aw_parts _ u u' _ _ 3 [97] false aw_within W (pwithin_any u u' _ _ s1 s2 99 W h h')
  have CE : Hid (∀ W u u', IsDf W u D1 → IsDf W u' D1 → Calls Tryz.prog 21 #[u, u', .int .i64 99] W fun e w' => RowOut W.heap.size e w' [] true ∧ Below W.heap.size W w') := Lib.hid fun W u u' h h' => by
    rw [hD1] at h h'
    exact aw_parts _ u u' _ _ 4 [] true aw_equal W (pequal_any u u' _ _ s1 s1 99 W h h')
  have CT : Hid (∀ W u, IsDf W u D1 → Calls Tryz.prog 27 #[u] W fun e w' => DfOutE e w' DN ∧ Below W.heap.size W w') := Lib.hid fun W u h => by
    rw [hD1] at h
    have h5 := pnot_any u _ s1 W h
    rw [r1_right] at h5
    refine h5.mono fun e w' ⟨u, he, hd, hx⟩ => ?_
    obtain ⟨a0, n0, c0, a1, n1, c1, a2, n2, c2, rfl⟩ := hd.df.form3
    rw [hDN]; exact ⟨⟨_, _, _, _, _, _, _, _, _, he, hd.df⟩, hx⟩
  have CG : Hid (∀ W u, IsDf W u DN → Calls Tryz.prog 26 #[u] W fun e w' => RowOut W.heap.size e w' [0] true ∧ Below W.heap.size W w') := Lib.hid fun W u h => by
    rw [hDN] at h; exact aw_first_any u _ aw_not_right not_sm [0] aw_not W h
  have CB : Hid (∀ W u u', IsSl encB W u [0] → IsSl encB W u' [0] → Calls Tryz.prog 22 #[u, u'] W fun e w' => e = .returned (.bool true) ∧ w' = W) := Lib.hid fun W u u' h h' => bytesEq_any u u' [0] [0] W h h' (by decide) (by decide)
  obtain ⟨sab, hsab⟩ : ∃ s, s = letS [97, 98] := ⟨_, rfl⟩
  obtain ⟨tab, htab⟩ : ∃ s, s = ~~~sab := ⟨_, rfl⟩
  obtain ⟨DY, hDY⟩ : ∃ d, d = dAny := ⟨_, rfl⟩
  have hDY2 : DY = ⟨[tab, sab], [[1, 0], [1, 1]], [[0], []]⟩ := by rw [hDY, htab, hsab]; rfl
  have CX : Hid (∀ W, Calls Tryz.prog 10 #[.string ⟨#[97, 98]⟩] W fun e w' => e = .returned (.agg (encS tab)) ∧ Below W.heap.size W w') := Lib.hid fun W => by rw [htab, hsab]; exact others_any ⟨#[97, 98]⟩ [97, 98] rfl (by decide) W
  have CY : Hid (∀ W, Calls Tryz.prog 11 #[.string ⟨#[97, 98]⟩] W fun e w' => e = .returned (.agg (encS sab)) ∧ Below W.heap.size W w') := Lib.hid fun W => by rw [hsab]; exact letter_any ⟨#[97, 98]⟩ [97, 98] rfl (by decide) W
  have CC : Hid (∀ W u, IsDf W u DY → Calls Tryz.prog 28 #[u, .int .i64 3, .int .i64 100] W fun e w' => e = .returned (.tuple #[.int .i64 8, .int .i64 0]) ∧ Below W.heap.size W w') := Lib.hid fun W u h => by
    rw [hDY] at h
    have h5 := pcount_any u _ any_sm 3 100 W h
    rwa [aw_count 100 (.inl rfl)] at h5
  have CD : Hid (∀ W u, IsDf W u DY → Calls Tryz.prog 28 #[u, .int .i64 3, .int .i64 5] W fun e w' => e = .returned (.tuple #[.int .i64 5, .int .i64 0]) ∧ Below W.heap.size W w') := Lib.hid fun W u h => by
    rw [hDY] at h
    have h5 := pcount_any u _ any_sm 3 5 W h
    rwa [aw_count 5 (.inr rfl)] at h5
  have CZ : Hid (∀ W, Calls Tryz.prog 24 #[.int .u8 3] W fun e w' => e = .returned (.string ⟨#[108, 101, 115, 115]⟩) ∧ Ext W w') := Lib.hid fun W => name_any 3 (by decide) W
  have HDY := Lib.hid hDY2
  have kc := fun (w : World) (C : Array Value) (n c : Nat) => Lib.run_convert_bytes_const (P := Tryz.prog) w 47 5 C n c Tryz.underlying47 Tryz.underlying5
  have kc1 := fun (w : World) (o : Obj) (C : Array Value) (n c : Nat) => kc_one w o C n c
  clear s1 s2 hD1 hD2 hDA hDL hDN hsab htab hDY hDY2
  go_enter Tryz.func8, Tryz.ntmps8
  go_wp2_with fail
  refine (R1.out w).mono ?_
  rintro e w1 ⟨⟨pa0, pn0, pc0, pa1, pn1, pc1, pa2, pn2, pc2, rfl, hd⟩, hx⟩
  have D1F := Lib.hid hd
  have X := Lib.hid hx
  clear hd hx R1
  go_wp2_with fail
  refine (R2.out w1).mono ?_
  rintro e w2 ⟨⟨qa0, qn0, qc0, qa1, qn1, qc1, qa2, qn2, qc2, rfl, hd⟩, hx⟩
  replace D1F := Lib.hid (D1F.out.below hx)
  replace X := Lib.hid (X.out.trans (hx.mono X.out.size))
  have D2F := Lib.hid hd
  clear hd hx R2
  skip --M1
  go_wp2_with fail
  refine calls_named ?_
  intro V1 hV1
  have hb : Below w2.heap.size w2 V1 := by rw [hV1]; exact (((Ext.refl w2).alloc _).alloc _).below
  have B1 : Hid (Blk V1 w2.heap.size #[.slice pa0 pn0 pc0, .slice pa1 pn1 pc1, .slice pa2 pn2 pc2] 25) := Lib.hid (by rw [hV1]; exact (Blk.new _ _ _).alloc _)
  have B2 : Hid (Blk V1 (w2.heap.size + 1) #[.slice qa0 qn0 qc0, .slice qa1 qn1 qc1, .slice qa2 qn2 qc2] 25) := Lib.hid (by rw [hV1]; exact (Blk.new _ _ _).at (by simp))
  replace D1F := Lib.hid (D1F.out.below hb)
  replace X := Lib.hid (X.out.trans (hb.mono X.out.size))
  replace D2F := Lib.hid (D2F.out.below hb)
  clear hb hV1
  skip --M2
  refine (CA.out V1 _ _ D1F.out D2F.out).mono ?_
  rintro e w3 ⟨⟨ra0, rn0, rc0, ra1, rn1, rc1, ra2, rn2, rc2, rfl, hd⟩, hx⟩
  replace D1F := Lib.hid (D1F.out.below hx)
  replace X := Lib.hid (X.out.trans (hx.mono X.out.size))
  replace D2F := Lib.hid (D2F.out.below hx)
  replace B1 := Lib.hid (B1.out.below hx B1.out.lt)
  replace B2 := Lib.hid (B2.out.below hx B2.out.lt)
  have DAF := Lib.hid hd
  clear hd hx CA
  have i0 : ∀ o0, (w3.alloc o0).cell? ⟨w2.heap.size, 0, none⟩ = some (.slice pa0 pn0 pc0) := fun o0 => ((B1.out.alloc o0).three).1.1
  have i1 : ∀ o0, (w3.alloc o0).cell? ⟨w2.heap.size, 1, none⟩ = some (.slice pa1 pn1 pc1) := fun o0 => ((B1.out.alloc o0).three).1.2.1
  have i2 : ∀ o0, (w3.alloc o0).cell? ⟨w2.heap.size, 2, none⟩ = some (.slice pa2 pn2 pc2) := fun o0 => ((B1.out.alloc o0).three).1.2.2
  have j0 : ∀ o0, (w3.alloc o0).cell? ⟨w2.heap.size + 1, 0, none⟩ = some (.slice qa0 qn0 qc0) := fun o0 => ((B2.out.alloc o0).three).1.1
  have j1 : ∀ o0, (w3.alloc o0).cell? ⟨w2.heap.size + 1, 1, none⟩ = some (.slice qa1 qn1 qc1) := fun o0 => ((B2.out.alloc o0).three).1.2.1
  have j2 : ∀ o0, (w3.alloc o0).cell? ⟨w2.heap.size + 1, 2, none⟩ = some (.slice qa2 qn2 qc2) := fun o0 => ((B2.out.alloc o0).three).1.2.2
  go_wp2_with fail
  refine calls_named ?_
  intro V2 hV2
  have hb : Below w3.heap.size w3 V2 := by rw [hV2]; exact ((Ext.refl w3).alloc _).below
  have B3 : Hid (Blk V2 w3.heap.size #[.slice ra0 rn0 rc0, .slice ra1 rn1 rc1, .slice ra2 rn2 rc2] 25) := Lib.hid (by rw [hV2]; exact Blk.new _ _ _)
  replace D1F := Lib.hid (D1F.out.below hb)
  replace X := Lib.hid (X.out.trans (hb.mono X.out.size))
  replace D2F := Lib.hid (D2F.out.below hb)
  replace B1 := Lib.hid (B1.out.below hb B1.out.lt)
  replace B2 := Lib.hid (B2.out.below hb B2.out.lt)
  replace DAF := Lib.hid (DAF.out.below hb)
  clear hb hV2 i0 i1 i2 j0 j1 j2
  refine (CL.out V2 _ _ D1F.out D2F.out).mono ?_
  rintro e w4 ⟨⟨sa0, sn0, sc0, sa1, sn1, sc1, sa2, sn2, sc2, rfl, hd⟩, hx⟩
  replace D1F := Lib.hid (D1F.out.below hx)
  replace X := Lib.hid (X.out.trans (hx.mono X.out.size))
  replace D2F := Lib.hid (D2F.out.below hx)
  replace B1 := Lib.hid (B1.out.below hx B1.out.lt)
  replace B2 := Lib.hid (B2.out.below hx B2.out.lt)
  replace DAF := Lib.hid (DAF.out.below hx)
  replace B3 := Lib.hid (B3.out.below hx B3.out.lt)
  have DLF := Lib.hid hd
  clear hd hx CL
  skip --M3
  have i0 : ∀ o0, (w4.alloc o0).cell? ⟨w3.heap.size, 0, none⟩ = some (.slice ra0 rn0 rc0) := fun o0 => ((B3.out.alloc o0).three).1.1
  have i1 : ∀ o0, (w4.alloc o0).cell? ⟨w3.heap.size, 1, none⟩ = some (.slice ra1 rn1 rc1) := fun o0 => ((B3.out.alloc o0).three).1.2.1
  have i2 : ∀ o0, (w4.alloc o0).cell? ⟨w3.heap.size, 2, none⟩ = some (.slice ra2 rn2 rc2) := fun o0 => ((B3.out.alloc o0).three).1.2.2
  go_wp2_with fail
  refine calls_named ?_
  intro V3 hV3
  have hb : Below w4.heap.size w4 V3 := by rw [hV3]; exact (((Ext.refl w4).alloc _).alloc _).below
  have B5 : Hid (Blk V3 w4.heap.size #[.slice sa0 sn0 sc0, .slice sa1 sn1 sc1, .slice sa2 sn2 sc2] 25) := Lib.hid (by rw [hV3]; exact (Blk.new _ _ _).alloc _)
  have hsl : IsSl encB V3 (.slice (some ⟨w4.heap.size + 1, 0, none⟩) 2 2) [97, 97] := by rw [hV3]; exact blk_isSl [97, 97] (heap_new_at (by simp)) rfl rfl (by decide)
  replace D1F := Lib.hid (D1F.out.below hb)
  replace X := Lib.hid (X.out.trans (hb.mono X.out.size))
  replace D2F := Lib.hid (D2F.out.below hb)
  replace B1 := Lib.hid (B1.out.below hb B1.out.lt)
  replace B2 := Lib.hid (B2.out.below hb B2.out.lt)
  replace DAF := Lib.hid (DAF.out.below hb)
  replace B3 := Lib.hid (B3.out.below hb B3.out.lt)
  replace DLF := Lib.hid (DLF.out.below hb)
  clear hb hV3 i0 i1 i2
  skip --M4
  refine (CM.out V3 _ _ DAF.out hsl).mono ?_
  rintro e w5 ⟨⟨ma, mc, rfl⟩, hx⟩
  replace D1F := Lib.hid (D1F.out.below hx)
  replace X := Lib.hid (X.out.trans (hx.mono X.out.size))
  replace D2F := Lib.hid (D2F.out.below hx)
  replace B1 := Lib.hid (B1.out.below hx B1.out.lt)
  replace B2 := Lib.hid (B2.out.below hx B2.out.lt)
  replace DAF := Lib.hid (DAF.out.below hx)
  replace B3 := Lib.hid (B3.out.below hx B3.out.lt)
  replace DLF := Lib.hid (DLF.out.below hx)
  replace B5 := Lib.hid (B5.out.below hx B5.out.lt)
  clear hsl hx CM
  obtain ⟨⟨i0, i1, i2⟩, _⟩ := B3.out.three
  go_wp2_with fail
  refine calls_named ?_
  intro V4 hV4
  have hb : Below w5.heap.size w5 V4 := by rw [hV4]; exact ((Ext.refl w5).alloc _).below
  have hsl : IsSl encB V4 (.slice (some ⟨w5.heap.size, 0, none⟩) 1 1) [97] := by rw [hV4]; exact blk_isSl [97] (World.alloc_heap_new _ _) rfl rfl (by decide)
  replace D1F := Lib.hid (D1F.out.below hb)
  replace X := Lib.hid (X.out.trans (hb.mono X.out.size))
  replace D2F := Lib.hid (D2F.out.below hb)
  replace B1 := Lib.hid (B1.out.below hb B1.out.lt)
  replace B2 := Lib.hid (B2.out.below hb B2.out.lt)
  replace DAF := Lib.hid (DAF.out.below hb)
  replace B3 := Lib.hid (B3.out.below hb B3.out.lt)
  replace DLF := Lib.hid (DLF.out.below hb)
  replace B5 := Lib.hid (B5.out.below hb B5.out.lt)
  clear hb hV4 i0 i1 i2
  refine (CN.out V4 _ _ DAF.out hsl).mono ?_
  rintro e w6 ⟨⟨na, nc, rfl⟩, hx⟩
  replace D1F := Lib.hid (D1F.out.below hx)
  replace X := Lib.hid (X.out.trans (hx.mono X.out.size))
  replace D2F := Lib.hid (D2F.out.below hx)
  replace B1 := Lib.hid (B1.out.below hx B1.out.lt)
  replace B2 := Lib.hid (B2.out.below hx B2.out.lt)
  replace DAF := Lib.hid (DAF.out.below hx)
  replace B3 := Lib.hid (B3.out.below hx B3.out.lt)
  replace DLF := Lib.hid (DLF.out.below hx)
  replace B5 := Lib.hid (B5.out.below hx B5.out.lt)
  clear hsl hx CN
  clear B3 DAF
  skip --M5
  obtain ⟨⟨i0, i1, i2⟩, _⟩ := B5.out.three
  go_wp2_with fail
  refine (CF.out w6 _ DLF.out).mono ?_
  rintro e w7 ⟨⟨fa, fc, rfl, ho⟩, hx⟩
  replace D1F := Lib.hid (D1F.out.below hx)
  replace X := Lib.hid (X.out.trans (hx.mono X.out.size))
  replace D2F := Lib.hid (D2F.out.below hx)
  replace B1 := Lib.hid (B1.out.below hx B1.out.lt)
  replace B2 := Lib.hid (B2.out.below hx B2.out.lt)
  replace DLF := Lib.hid (DLF.out.below hx)
  replace B5 := Lib.hid (B5.out.below hx B5.out.lt)
  have hst := str_one rfl ho
  have hse : ((⟨#[97]⟩ : ByteArray) != ⟨#[97]⟩) = false := by kernel_rfl
  clear hx ho i0 i1 i2 CF
  clear B5 DLF
  obtain ⟨⟨i0, i1, i2⟩, _⟩ := B1.out.three
  obtain ⟨⟨j0, j1, j2⟩, _⟩ := B2.out.three
  skip --M6
  go_wp2_with fail
  skip --M7
  refine (CW.out w7 _ _ D2F.out D1F.out).mono ?_
  rintro e w8 ⟨⟨ga, gc, rfl, _⟩, hx⟩
  replace D1F := Lib.hid (D1F.out.below hx)
  replace X := Lib.hid (X.out.trans (hx.mono X.out.size))
  replace D2F := Lib.hid (D2F.out.below hx)
  replace B1 := Lib.hid (B1.out.below hx B1.out.lt)
  replace B2 := Lib.hid (B2.out.below hx B2.out.lt)
  clear hx i0 i1 i2 j0 j1 j2 CW hst
  obtain ⟨⟨i0, i1, i2⟩, _⟩ := B1.out.three
  obtain ⟨⟨j0, j1, j2⟩, _⟩ := B2.out.three
  go_wp2_with fail
  refine (CV.out w8 _ _ D1F.out D2F.out).mono ?_
  rintro e w9 ⟨⟨ha, hc, rfl, ho⟩, hx⟩
  replace D1F := Lib.hid (D1F.out.below hx)
  replace X := Lib.hid (X.out.trans (hx.mono X.out.size))
  replace D2F := Lib.hid (D2F.out.below hx)
  replace B1 := Lib.hid (B1.out.below hx B1.out.lt)
  replace B2 := Lib.hid (B2.out.below hx B2.out.lt)
  have TS := Lib.hid ho
  clear hx ho i0 i1 i2 j0 j1 j2 CV D2F B2
  obtain ⟨⟨i0, i1, i2⟩, _⟩ := B1.out.three
  skip --M8
  go_wp2_with fail
  refine (CT.out w9 _ D1F.out).mono ?_
  rintro e w10 ⟨⟨ta0, tn0, tc0, ta1, tn1, tc1, ta2, tn2, tc2, rfl, hd⟩, hx⟩
  replace D1F := Lib.hid (D1F.out.below hx)
  replace X := Lib.hid (X.out.trans (hx.mono X.out.size))
  replace B1 := Lib.hid (B1.out.below hx B1.out.lt)
  replace TS := Lib.hid (ownsRow_below TS.out hx)
  have DNF := Lib.hid hd
  clear hx hd i0 i1 i2 CT
  go_wp2_with fail
  refine calls_named ?_
  intro V5 hV5
  have hb : Below w10.heap.size w10 V5 := by rw [hV5]; exact ((Ext.refl w10).alloc _).below
  replace D1F := Lib.hid (D1F.out.below hb)
  replace X := Lib.hid (X.out.trans (hb.mono X.out.size))
  replace B1 := Lib.hid (B1.out.below hb B1.out.lt)
  replace TS := Lib.hid (ownsRow_below TS.out hb)
  replace DNF := Lib.hid (DNF.out.below hb)
  clear hb hV5
  refine (CG.out V5 _ DNF.out).mono ?_
  rintro e w11 ⟨⟨ka, kd, rfl, ho⟩, hx⟩
  replace D1F := Lib.hid (D1F.out.below hx)
  replace X := Lib.hid (X.out.trans (hx.mono X.out.size))
  replace B1 := Lib.hid (B1.out.below hx B1.out.lt)
  replace TS := Lib.hid (ownsRow_below TS.out hx)
  replace DNF := Lib.hid (DNF.out.below hx)
  have US := Lib.hid ho
  clear hx ho CG DNF
  obtain ⟨⟨i0, i1, i2⟩, _⟩ := B1.out.three
  skip --M9
  go_wp2_with fail
  refine (CE.out w11 _ _ D1F.out D1F.out).mono ?_
  rintro e w12 ⟨⟨la, lc, rfl, _⟩, hx⟩
  replace D1F := Lib.hid (D1F.out.below hx)
  replace X := Lib.hid (X.out.trans (hx.mono X.out.size))
  replace B1 := Lib.hid (B1.out.below hx B1.out.lt)
  replace TS := Lib.hid (ownsRow_below TS.out hx)
  replace US := Lib.hid (ownsRow_below US.out hx)
  have hst := str_one rfl TS.out
  clear hx i0 i1 i2 CE D1F B1 TS
  skip --M10
  go_wp2_with fail
  refine calls_named ?_
  intro V6 hV6
  have hb : Below w12.heap.size w12 V6 := by rw [hV6]; exact ((Ext.refl w12).alloc _).below
  have hsl : IsSl encB V6 (.slice (some ⟨w12.heap.size, 0, none⟩) 1 1) [0] := by rw [hV6]; exact blk_isSl [0] (World.alloc_heap_new _ _) rfl rfl (by decide)
  replace X := Lib.hid (X.out.trans (hb.mono X.out.size))
  replace US := Lib.hid (ownsRow_below US.out hb)
  clear hb hV6 hst
  refine (CB.out V6 _ _ (ownsRow_sl (l := [0]) US.out rfl) hsl).mono ?_
  rintro e w13 ⟨rfl, hw⟩
  replace hw := hw.symm
  subst hw
  clear CB US hsl hse
  skip --M11
  go_wp2_with fail
  refine (CX.out _).mono ?_
  rintro e w14 ⟨rfl, hx⟩
  replace X := Lib.hid (X.out.trans (hx.mono X.out.size))
  clear hx CX
  go_wp2_with fail
  refine (CY.out _).mono ?_
  rintro e w15 ⟨rfl, hx⟩
  replace X := Lib.hid (X.out.trans (hx.mono X.out.size))
  clear hx CY
  skip --M12
  go_wp2_with fail
  skip --M13
  refine calls_named ?_
  intro V7 hV7
  have hb : Below w15.heap.size w15 V7 := by rw [hV7]; exact ((((((((Ext.refl w15).alloc _).alloc _).alloc _).alloc _).alloc _).alloc _).alloc _).below
  have k0 : Blk V7 (w15.heap.size) #[.int .u64 (wd tab 0).toNat, .int .u64 (wd tab 1).toNat, .int .u64 (wd tab 2).toNat, .int .u64 (wd tab 3).toNat, .int .u64 (wd sab 0).toNat, .int .u64 (wd sab 1).toNat, .int .u64 (wd sab 2).toNat, .int .u64 (wd sab 3).toNat] 33 := by rw [hV7]; exact (((((((Blk.new _ _ _).at (by simp)).alloc _).alloc _).alloc _).alloc _).alloc _).alloc _
  have k1 : Blk V7 (w15.heap.size + 1) #[.int .i64 1, .int .i64 0] 3 := by rw [hV7]; exact ((((((Blk.new _ _ _).at (by simp)).alloc _).alloc _).alloc _).alloc _).alloc _
  have k2 : Blk V7 (w15.heap.size + 1 + 1) #[.int .i64 1, .int .i64 1] 3 := by rw [hV7]; exact (((((Blk.new _ _ _).at (by simp)).alloc _).alloc _).alloc _).alloc _
  have k3 : Blk V7 (w15.heap.size + 1 + 1 + 1) #[.slice (some ⟨w15.heap.size + 1, 0, none⟩) 2 2, .slice (some ⟨w15.heap.size + 1 + 1, 0, none⟩) 2 2] 36 := by rw [hV7]; exact ((((Blk.new _ _ _).at (by simp)).alloc _).alloc _).alloc _
  have k4 : Blk V7 (w15.heap.size + 1 + 1 + 1 + 1) #[.int .i64 0] 3 := by rw [hV7]; exact (((Blk.new _ _ _).at (by simp)).alloc _).alloc _
  have k5 : Blk V7 (w15.heap.size + 1 + 1 + 1 + 1 + 1) #[.slice (some ⟨w15.heap.size + 1 + 1 + 1 + 1, 0, none⟩) 1 1, .slice none 0 0] 36 := by rw [hV7]; exact ((Blk.new _ _ _).at (by simp)).alloc _
  have k6 : Blk V7 (w15.heap.size + 1 + 1 + 1 + 1 + 1 + 1) #[.slice (some ⟨w15.heap.size, 0, none⟩) 2 2, .slice (some ⟨w15.heap.size + 1 + 1 + 1, 0, none⟩) 2 2, .slice (some ⟨w15.heap.size + 1 + 1 + 1 + 1 + 1, 0, none⟩) 2 2] 25 := by rw [hV7]; exact (Blk.new _ _ _).at (by simp)
  have hdf : IsDf V7 (.agg #[.slice (some ⟨w15.heap.size, 0, none⟩) 2 2, .slice (some ⟨w15.heap.size + 1 + 1 + 1, 0, none⟩) 2 2, .slice (some ⟨w15.heap.size + 1 + 1 + 1 + 1 + 1, 0, none⟩) 2 2]) DY := by
    rw [HDY.out]
    exact ⟨_, _, _, rfl, isSetsC_of [tab, sab] k0 rfl rfl, isLL_of [.slice (some ⟨w15.heap.size + 1, 0, none⟩) 2 2, .slice (some ⟨w15.heap.size + 1 + 1, 0, none⟩) 2 2] k3 rfl rfl ⟨row_of [1, 0] k1 rfl rfl, row_of [1, 1] k2 rfl rfl, trivial⟩, isLL_of [.slice (some ⟨w15.heap.size + 1 + 1 + 1 + 1, 0, none⟩) 1 1, .slice none 0 0] k5 rfl rfl ⟨row_of [0] k4 rfl rfl, row_nil, trivial⟩⟩
  replace X := Lib.hid (X.out.trans (hb.mono X.out.size))
  have DYF := Lib.hid hdf
  have B23 := Lib.hid k6
  clear hb hV7 hdf k0 k1 k2 k3 k4 k5 k6 HDY
  skip --M14
  refine (CC.out V7 _ DYF.out).mono ?_
  rintro e w16 ⟨rfl, hx⟩
  replace X := Lib.hid (X.out.trans (hx.mono X.out.size))
  replace DYF := Lib.hid (DYF.out.below hx)
  replace B23 := Lib.hid (B23.out.below hx B23.out.lt)
  clear hx CC
  obtain ⟨⟨i0, i1, i2⟩, _⟩ := B23.out.three
  go_wp2_with fail
  refine (CD.out w16 _ DYF.out).mono ?_
  rintro e w17 ⟨rfl, hx⟩
  replace X := Lib.hid (X.out.trans (hx.mono X.out.size))
  replace DYF := Lib.hid (DYF.out.below hx)
  replace B23 := Lib.hid (B23.out.below hx B23.out.lt)
  clear hx CD DYF B23 i0 i1 i2
  skip --M15
  go_wp2_with fail
  refine (CZ.out w17).mono ?_
  rintro e w18 ⟨rfl, hx⟩
  have hs2 : ((⟨#[108, 101, 115, 115]⟩ : ByteArray) == ⟨#[108, 101, 115, 115]⟩) = true := by kernel_rfl
  skip --M16
  go_wp2
  go_ret
  exact ⟨rfl, X.out.trans (hx.below.mono X.out.size)⟩
end Go.Proofs.YtiegfnmpknmbmaaGreat
