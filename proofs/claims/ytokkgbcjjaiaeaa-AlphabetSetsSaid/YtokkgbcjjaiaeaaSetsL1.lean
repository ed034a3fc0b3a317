/-
  The walk of AlphabetSets.
-/
import Derived.Test.YtokkgbcjjaiaeaaGot
import Derived.Test.YtokkgbcjjaiaeaaRegG
import Derived.Test.YtokkgbcjjaiaeaaAwake
import Derived.Test.YtokkgbcjjaiaeaaPlain7
namespace Go.Proofs.Ytokkgbcjjaiaeaa.RegG
open Go Go.RowKit Go.Shelf Go.Maps
attribute [local go_sem] encS

/-- Old blocks stay; a new box of the type stays one, and once it holds x it does. -/
structure MoveN (w0 : World) (t : TypeId) (x : Array Value) (W W' : World) : Prop where
  keeps : Keeps (· < w0.heap.size) W W'
  old : ∀ b, w0.heap.size ≤ b → (∃ c, Blk W b c t ∧ c.size = x.size) → ∃ c, Blk W' b c t ∧ c.size = x.size
  new : ∀ b, w0.heap.size ≤ b → Blk W b x t → Blk W' b x t
theorem MoveN.trans {w0 : World} {t : TypeId} {x : Array Value} {A B C : World} (h : MoveN w0 t x A B) (k : MoveN w0 t x B C) : MoveN w0 t x A C := ⟨h.keeps.tr k.keeps, fun b hb hx => k.old b hb (h.old b hb hx), fun b hb hx => k.new b hb (h.new b hb hx)⟩
theorem MoveN.below {w0 : World} {t : TypeId} {x : Array Value} {W W' : World} (h : Below W.heap.size W W') (hs : w0.heap.size ≤ W.heap.size) : MoveN w0 t x W W' :=
  ⟨Keeps.of_below h fun _ hk => Nat.lt_of_lt_of_le hk hs, fun _ _ ⟨d, hc, hs⟩ => ⟨d, hc.below h hc.lt, hs⟩, fun _ _ hc => hc.below h hc.lt⟩
theorem MoveN.drew (w : World) (t : TypeId) (x : Array Value) : MoveN w t x w w.drew := .below (Ext.refl w).drew.below (Nat.le_refl _)
theorem MoveN.store {w0 : World} {t : TypeId} {x : Array Value} {W W' : World} {b : Nat} (hb : w0.heap.size ≤ b) (hk : Keeps (· ≠ b) W W') (hn : Blk W' b x t) : MoveN w0 t x W W' :=
  ⟨hk.mono fun k hk e => by have : k < w0.heap.size := hk; omega, fun b' _ ⟨d, hc, hs⟩ => by
    by_cases e : b' = b
    · subst e; exact ⟨x, hn, rfl⟩
    · exact ⟨d, hc.keeps hk e, hs⟩, fun b' _ hc => by
    by_cases e : b' = b
    · subst e; exact hn
    · exact hc.keeps hk e⟩
theorem MoveN.since {w0 W : World} {t : TypeId} {x : Array Value} (h : MoveN w0 t x w0 W) : Below w0.heap.size w0 W := h.keeps.below
theorem MoveN.size {w0 W W' : World} {t : TypeId} {x : Array Value} (h : MoveN w0 t x W W') : W.heap.size ≤ W'.heap.size := h.keeps.size
/-- A new box. -/
def Eff.alloc (w0 : World) (t : TypeId) (x : Array Value) : Eff (MoveN w0 t x) where
  P := fun v => ∃ b, w0.heap.size ≤ b ∧ v = .pointer (some ⟨b, 0, none⟩)
  H := fun _ v W => ∀ b, v = .pointer (some ⟨b, 0, none⟩) → w0.heap.size ≤ b ∧ ∃ c, Blk W b c t ∧ c.size = x.size
  wit := .pointer (some ⟨w0.heap.size, 0, none⟩)
  pw := ⟨_, Nat.le_refl _, rfl⟩
  st := fun _ _ _ _ hm _ h b e => ⟨(h b e).1, hm.old b (h b e).1 (h b e).2⟩
/-- A box that was new is written. -/
def Eff.store (w0 : World) (t : TypeId) (x : Array Value) : Eff (MoveN w0 t x) where
  P := fun _ => True
  H := fun y _ W => ∀ b, y = .pointer (some ⟨b, 0, none⟩) → w0.heap.size ≤ b → Blk W b x t
  wit := undef
  pw := trivial
  st := fun _ _ _ _ hm _ h b e hb => hm.new b hb (h b e hb)
/-- A row that a literal laid. -/
def Eff.lit (n : Nat) (c : Array Value) (t : TypeId) : Eff (Move false (fun _ => False)) where
  P := fun v => ∃ b, v = .slice (some ⟨b, 0, none⟩) n n
  H := fun _ v W => ∀ b, v = .slice (some ⟨b, 0, none⟩) n n → Blk W b c t
  wit := .slice (some ⟨0, 0, none⟩) n n
  pw := ⟨0, rfl⟩
  st := fun _ _ _ _ hm _ h b e => (h b e).below hm.below (h b e).lt

def pick3 (j : Nat) (x y z : Bool) : Bool := match j with | 0 => x | 1 => y | _ => z
theorem tri_cell (w : World) (x y z : Bool) (t : TypeId) {j : Nat} (hj : j < 3) : (w.alloc (.cells #[.bool x, .bool y, .bool z] t)).cell? ⟨w.heap.size, j, none⟩ = some (.bool (pick3 j x y z)) := by
  rw [(Blk.new w #[.bool x, .bool y, .bool z] t).cell]
  rcases (show j = 0 ∨ j = 1 ∨ j = 2 by omega) with rfl | rfl | rfl <;> rfl

theorem cell_two_new (w : World) (o : Obj) (x : Value) (t : TypeId) : ∀ j u, [x][j]? = some u → ((w.alloc o).alloc (.cells #[x] t)).cell? ((⟨w.heap.size + 1, 0, none⟩ : Addr).add j) = some u := fun j u h => by
  have := cell_one_new (w.alloc o) x t j u h
  rwa [show (w.alloc o).heap.size = w.heap.size + 1 by simp] at this
theorem contains_cast (K : List Nat) (d : Nat) : (K.map Int.ofNat).contains (d : Int) = K.contains d := by
  rw [Bool.eq_iff_iff, List.contains_iff_mem, List.contains_iff_mem, List.mem_map]
  exact ⟨fun ⟨k, hk, e⟩ => by have : k = d := Int.ofNat.inj e
                              rw [← this]; exact hk, fun h => ⟨d, h, rfl⟩⟩

set_option maxRecDepth 100000 in
set_option maxHeartbeats 16000000 in
theorem alphabetSets_any (v0 v1 v2 : Value) (l0 : List BS) (b1 b2 : List Nat) (cc : Nat) (w : World) (h0 : IsSetsC w v0 l0) (h1 : IsSl encB w v1 b1) (hb1 : ∀ c ∈ b1, c < 256) (h2 : IsSl encB w v2 b2) (hb2 : ∀ c ∈ b2, c < 256) (hn0 : l0.length ≤ 9223372036854775807) (hn1 : b1.length ≤ 9223372036854775807) (hn2 : b2.length ≤ 9223372036854775807) (hcc : cc < 256) :
    Calls Try.prog 10 #[v0, v1, v2, .int .u8 cc] w fun e w' => e = .returned (.bool true) ∧ Below w.heap.size w w' := by
  obtain ⟨i0, hi, hz0, hz1, hz2⟩ := info_parts Try.infoI
  have H0 := Lib.hid h0
  have HN0 := Lib.hid hn0
  have HN1 := Lib.hid hn1
  have HN2 := Lib.hid hn2
  have HB1 := Lib.hid hb1
  have HB2 := Lib.hid hb2
  have HS1 := Lib.hid h1
  have HS2 := Lib.hid h2
  clear h0 hn0 hn1 hn2 hb1 hb2 h1 h2
  go_enter Try.func10, Try.ntmps10
  go_wp2_with fail
  refine (awake_any _).mono ?_
  rintro e w1 ⟨rfl, hx⟩
  have B1 := Lib.hid ((((Bag.nil w1).cons (s := Sp.sl encB v2 b2) (HS2.out.below hx)).cons (s := Sp.sl encB v1 b1) (HS1.out.below hx)).cons (s := Sp.since w) hx)
  clear hx HS1 HS2
  go_wp2_with fail
  refine (few_any _ l0 _ (⟨H0.out.1.below (B1.out.since 0 rfl), H0.out.2⟩) HN0.out).mono ?_
  rintro e w' ⟨u, rfl, hu, hw⟩
  replace hw := hw.symm
  subst hw
  obtain ⟨l, hl⟩ : ∃ l, l = l0.take 6 := ⟨_, rfl⟩
  have h6 : l.length ≤ 6 := by rw [hl, List.length_take]; omega
  rw [← hl] at hu
  have HU := Lib.hid hu.1
  have H6 := Lib.hid h6
  clear hu hl h6 H0 HN0
  go_wp2_with fail
  refine (alphOf_any l _ _ HU.out (by have := H6.out; omega)).mono ?_
  rintro e w2 ⟨ba, rfl, ha, hx⟩
  obtain ⟨p, hp⟩ : ∃ p, p = partsOf l := ⟨_, rfl⟩
  rw [← hp] at ha
  have hp1 : 1 ≤ p.length := by rw [hp]; exact partsOf_pos l
  have hp64 : p.length ≤ 64 := by rw [hp]; exact partsOf_len64 l H6.out
  have HP : Hid (IsPart p (Alike l)) := Lib.hid (by rw [hp]; exact IsPart.of_parts l)
  have B2 := Lib.hid ((B1.out.step hx).cons (s := Sp.al w1.heap.size (.pointer (some ⟨ba, 0, none⟩)) p) ha)
  obtain ⟨n, hn⟩ : ∃ n, n = p.length := ⟨_, rfl⟩
  rw [← hn] at hp1 hp64
  have HN := Lib.hid hn
  obtain ⟨base, hbase⟩ : ∃ b, b = w1.heap.size := ⟨_, rfl⟩
  rw [← hbase] at B2
  have CL : Hid (∀ W, IsAl W base (.pointer (some ⟨ba, 0, none⟩)) p → Calls Try.prog 28 #[.pointer (some ⟨ba, 0, none⟩)] W fun e w' => e = .returned (.int .i64 n) ∧ w' = W) := fun W h => by rw [HN.out]; exact len_any _ _ p _ h
  have d1 : decide ((n : Int) < 1) = false := decide_eq_false (by omega)
  have d1' : decide (n < 1) = false := decide_eq_false (by omega)
  clear ha hx hp hn HU H6 B1 hbase
  -- 0 al, 1 since w, 2 bytes 1, 3 bytes 2
  go_wp2_with fail
  refine calls_named ?_
  intro V0 hV
  have hx : Below w2.heap.size w2 V0 := by rw [hV]; exact ((Ext.refl _).alloc _).below
  obtain ⟨g9, hg9⟩ : ∃ b, b = w2.heap.size := ⟨_, rfl⟩
  have hZ : Blk V0 g9 #[.pointer (some ⟨ba, 0, none⟩)] 31 := by rw [hV, hg9]; exact Blk.new _ _ _
  rw [← hg9]
  have C0 := Lib.hid ((B2.out.step hx).cons (s := Sp.blk g9 #[.pointer (some ⟨ba, 0, none⟩)] 31) hZ)
  clear hx hZ hV hg9 B2
  -- 0 blk g9, 1 al, 2 since w, 3 bytes 1, 4 bytes 2
  refine (CL.out _ (C0.out.al 1 rfl)).mono ?_
  rintro e w' ⟨rfl, hw⟩
  replace hw := hw.symm
  subst hw
  clear d1 d1'
  have HPL : Hid (1 ≤ p.length ∧ p.length ≤ 64) := Lib.hid (by rw [← HN.out]; exact ⟨hp1, hp64⟩)
  go_wp2_with fail
  refine (got_any p _ HP.out base ba g9 v1 b1 _ (C0.out.al 1 rfl) (C0.out.blk 0 rfl) (C0.out.sl 3 rfl) HB1.out HN1.out HPL.out.1 HPL.out.2).mono ?_
  rintro e w3 ⟨u1, K1, s1, rfl, hu1, hU1, hK1, hx⟩
  have HU1 := Lib.hid hU1
  have HK1 := Lib.hid hK1
  have C1 := Lib.hid ((C0.out.step hx).cons (s := Sp.sl encZ u1 (K1.map Int.ofNat)) hu1)
  clear hu1 hU1 hK1 hx C0
  go_wp2_with fail
  refine calls_named ?_
  intro V1 hV
  have hx : Below w3.heap.size w3 V1 := by rw [hV]; exact ((Ext.refl _).alloc _).below
  obtain ⟨g12, hg⟩ : ∃ b, b = w3.heap.size := ⟨_, rfl⟩
  have hZ : Blk V1 g12 (encS s1) 25 := by rw [hV, hg]; exact Blk.new _ _ _
  rw [← hg]
  have C2 := Lib.hid ((C1.out.step hx).cons (s := Sp.blk g12 (encS s1) 25) hZ)
  clear hx hZ hV hg C1
  -- 0 blk g12, 1 sl u1, 2 blk g9, 3 al, 4 since w, 5 bytes 1, 6 bytes 2
  refine (got_any p _ HP.out base ba g9 v2 b2 _ (C2.out.al 3 rfl) (C2.out.blk 2 rfl) (C2.out.sl 6 rfl) HB2.out HN2.out HPL.out.1 HPL.out.2).mono ?_
  rintro e w4 ⟨u2, K2, s2, rfl, hu2, hU2, hK2, hx⟩
  have HU2 := Lib.hid hU2
  have HK2 := Lib.hid hK2
  have C3 := Lib.hid ((C2.out.step hx).cons (s := Sp.sl encZ u2 (K2.map Int.ofNat)) hu2)
  clear hu2 hU2 hK2 hx C2
  go_wp2
  refine wp_named ?_
  intro V2 hV
  have hx : Below w4.heap.size w4 V2 := by rw [hV]; exact ((Ext.refl _).alloc _).below
  obtain ⟨g15, hg⟩ : ∃ b, b = w4.heap.size := ⟨_, rfl⟩
  have hZ : Blk V2 g15 (encS s2) 25 := by rw [hV, hg]; exact Blk.new _ _ _
  rw [← hg]
  have C4 := Lib.hid ((C3.out.step hx).cons (s := Sp.blk g15 (encS s2) 25) hZ)
  clear hx hZ hV hg C3
  -- 0 blk g15, 1 sl u2, 2 blk g12, 3 sl u1, 4 blk g9, 5 al, 6 since w
  obtain ⟨X, hX⟩ : ∃ X : Nat → BS, X = fun j => match j with | 0 => s1 ||| s2 | 1 => s1 &&& s2 | _ => ~~~s1 := ⟨_, rfl⟩
  have hX0 : s1 ||| s2 = X 0 := (congrFun hX 0).symm
  have hX1 : s1 &&& s2 = X 1 := (congrFun hX 1).symm
  have hX2 : ~~~s1 = X 2 := (congrFun hX 2).symm
  obtain ⟨S, hS⟩ : ∃ S : Nat → Nat → Bool, S = fun j i => pick3 j (K1.contains i || K2.contains i) (K1.contains i && K2.contains i) (!K1.contains i) := ⟨_, rfl⟩
  have HSX : Hid (∀ j, j < 3 → Uni p (S j) (X j)) := fun j hj => by
    rw [hX, hS]
    rcases (show j = 0 ∨ j = 1 ∨ j = 2 by omega) with rfl | rfl | rfl
    · exact HU1.out.or HU2.out
    · exact HU1.out.and HU2.out
    · exact HU1.out.not
  have COr : Hid (∀ W, Calls Try.prog 40 #[.agg (encS s1), .agg (encS s2)] W fun e w' => e = .returned (.agg (encS (X 0))) ∧ Ext W w') := fun W => by rw [← hX0]; exact or_any s1 s2 W
  have CAnd : Hid (∀ W, Calls Try.prog 52 #[.agg (encS s1), .agg (encS s2)] W fun e w' => e = .returned (.agg (encS (X 1))) ∧ Ext W w') := fun W => by rw [← hX1]; exact and_any s1 s2 W
  have CNot : Hid (∀ W, Calls Try.prog 53 #[.agg (encS s1)] W fun e w' => e = .returned (.agg (encS (X 2))) ∧ Ext W w') := fun W => by rw [← hX2]; exact not_any s1 W
  have HS := Lib.hid hS
  clear hX0 hX1 hX2 hX hS HU2
  obtain ⟨XC, hXC⟩ : ∃ XC : Array Value, XC = #[.int .u64 (wd (X 0) 0).toNat, .int .u64 (wd (X 0) 1).toNat, .int .u64 (wd (X 0) 2).toNat, .int .u64 (wd (X 0) 3).toNat, .int .u64 (wd (X 1) 0).toNat, .int .u64 (wd (X 1) 1).toNat, .int .u64 (wd (X 1) 2).toNat, .int .u64 (wd (X 1) 3).toNat, .int .u64 (wd (X 2) 0).toNat, .int .u64 (wd (X 2) 1).toNat, .int .u64 (wd (X 2) 2).toNat, .int .u64 (wd (X 2) 3).toNat] := ⟨_, rfl⟩
  have HXC := Lib.hid hXC
  have XCG : Hid (∀ (W : World) (b j : Nat), j < 3 → Blk W b XC 25 → W.cell? ⟨b, j * 4, none⟩ = some (.int .u64 (wd (X j) 0).toNat) ∧ W.cell? ⟨b, j * 4 + 1, none⟩ = some (.int .u64 (wd (X j) 1).toNat) ∧ W.cell? ⟨b, j * 4 + 2, none⟩ = some (.int .u64 (wd (X j) 2).toNat) ∧ W.cell? ⟨b, j * 4 + 3, none⟩ = some (.int .u64 (wd (X j) 3).toNat)) := fun W b j hj hb => by
    rw [hb.cell, hb.cell, hb.cell, hb.cell, hXC]
    rcases (show j = 0 ∨ j = 1 ∨ j = 2 by omega) with rfl | rfl | rfl <;> exact ⟨rfl, rfl, rfl, rfl⟩
  clear hXC
  refine wp_region_regM (Move false (fun _ => False)) (Move.ext (Ext.refl _).drew) (fun _ _ _ h k => h.trans k) (by kernel_rfl) 11 [0, 0, 3, 0, 0, 31, 0, 127, 255, 511, 0] (fun i => i == 2 || i == 5 || i == 7 || i == 8) (by kernel_rfl) (fun _ => none) (by kernel_rfl) (fun i => if i = 2 then Eff.det _ (.agg (encS (X 0))) else if i = 5 then Eff.det _ (.agg (encS (X 1))) else if i = 7 then Eff.det _ (.agg (encS (X 2))) else if i = 8 then Eff.lit 3 XC 25 else Eff.any _) ?_
  intro C hC _
  have HC := Lib.hid hC
  obtain ⟨k0, k1, k2, k3⟩ := regSet hC (C4.out.blk 2 rfl : Blk V2 g12 (encS s1) 25)
  obtain ⟨m0, m1, m2, m3⟩ := regSet hC (C4.out.blk 0 rfl : Blk V2 g15 (encS s2) 25)
  clear hC
  repeat (refine regStep (fun K hK => ?_); first | (refine regN rfl ?_; try go_simp; refine hK _ _ ?_; clear hK K) | (refine regF rfl rfl ?_; unfold floatAt; go_simp; refine hK _ _ ?_; clear hK K))
  refine regStep (fun K hK => ?_)
  refine regE rfl rfl (Eff.det _ (.agg (encS (X 0)))) rfl (fun W hW hN => ?_) (fun v hv => ?_)
  · have hM := (HC.out W).1 hW
    clear hW
    go_simp
    refine effT_call ((COr.out _).mono ?_)
    rintro e w2 ⟨rfl, hx⟩
    exact ⟨_, rfl, Move.of_ext hx, rfl, trivial⟩
  replace hv : v = _ := hv
  subst hv
  go_simp
  refine hK _ _ ?_
  clear hK K
  repeat (refine regStep (fun K hK => ?_); first | (refine regN rfl ?_; try go_simp; refine hK _ _ ?_; clear hK K) | (refine regF rfl rfl ?_; unfold floatAt; go_simp; refine hK _ _ ?_; clear hK K))
  refine regStep (fun K hK => ?_)
  refine regE rfl rfl (Eff.det _ (.agg (encS (X 1)))) rfl (fun W hW hN => ?_) (fun v hv => ?_)
  · have hM := (HC.out W).1 hW
    clear hW
    go_simp
    refine effT_call ((CAnd.out _).mono ?_)
    rintro e w2 ⟨rfl, hx⟩
    exact ⟨_, rfl, Move.of_ext hx, rfl, trivial⟩
  replace hv : v = _ := hv
  subst hv
  go_simp
  refine hK _ _ ?_
  clear hK K
  repeat (refine regStep (fun K hK => ?_); first | (refine regN rfl ?_; try go_simp; refine hK _ _ ?_; clear hK K) | (refine regF rfl rfl ?_; unfold floatAt; go_simp; refine hK _ _ ?_; clear hK K))
  refine regStep (fun K hK => ?_)
  refine regE rfl rfl (Eff.det _ (.agg (encS (X 2)))) rfl (fun W hW hN => ?_) (fun v hv => ?_)
  · have hM := (HC.out W).1 hW
    clear hW
    go_simp
    refine effT_call ((CNot.out _).mono ?_)
    rintro e w2 ⟨rfl, hx⟩
    exact ⟨_, rfl, Move.of_ext hx, rfl, trivial⟩
  replace hv : v = _ := hv
  subst hv
  go_simp
  refine hK _ _ ?_
  clear hK K
  repeat (refine regStep (fun K hK => ?_); first | (refine regN rfl ?_; try go_simp; refine hK _ _ ?_; clear hK K) | (refine regF rfl rfl ?_; unfold floatAt; go_simp; refine hK _ _ ?_; clear hK K))
  clear k0 k1 k2 k3 m0 m1 m2 m3 COr CAnd CNot
  refine regStep (fun K hK => ?_)
  refine regE rfl rfl (Eff.lit 3 XC 25) rfl (fun W hW hN => ?_) (fun v hv => ?_)
  · clear hW hN hK K
    go_simp
    rw [HXC.out]
    exact ⟨Move.ext ((Ext.refl _).alloc _), ⟨_, rfl⟩, fun b hb => by cases hb; exact Blk.new _ _ _⟩
  obtain ⟨gx, rfl⟩ := hv
  go_simp
  refine hK _ _ ?_
  clear hK K
  repeat (refine regStep (fun K hK => ?_); first | (refine regN rfl ?_; try go_simp; refine hK _ _ ?_; clear hK K) | (refine regF rfl rfl ?_; unfold floatAt; go_simp; refine hK _ _ ?_; clear hK K))
  refine regNil (fun w5 hW hH => ?_)
  have hM := (HC.out w5).1 hW
  have hBX : Blk w5 gx XC 25 := hH _ (List.mem_cons_self ..) gx rfl
  have D0 := Lib.hid ((C4.out.step hM.below).cons (s := Sp.blk gx XC 25) hBX)
  clear hM hW hH HC hBX C4
  clear HXC
  go_wp2
  go_loopw [73] (fun i wr => ∃ j : Nat, j ≤ 3 ∧ i = .int .i64 j ∧ Below w5.heap.size w5 wr) (fun i _ => 3 - (intOf i).toNat)
  case atStart => exact ⟨0, by omega, rfl, Below.refl _ _⟩
  case round =>
    obtain ⟨j, hj, rfl, hx⟩ := hrel
    obtain ⟨wo, rfl⟩ : ∃ wo : World, wo = wr := ⟨_, rfl⟩
    have D1 := Lib.hid ((D0.out.step hx).cons (s := Sp.since w5) hx)
    clear hx
    -- 0 since w5, 1 blk gx, 2 blk g15, 3 sl u2, 4 blk g12, 5 sl u1, 6 blk g9, 7 al, 8 since w
    by_cases hj3 : j < 3
    · have hjz : (j : Int) < 3 := by omega
      obtain ⟨k0, k1, k2, k3⟩ := XCG.out wo gx j hj3 (D1.out.blk 1 rfl)
      have c9 : ∀ o, (wo.alloc o).cell? ⟨g9, 0, none⟩ = some (.pointer (some ⟨ba, 0, none⟩)) := fun o => ((D1.out.blk 6 rfl).below ((Ext.refl wo).alloc o).below (D1.out.blk 6 rfl).lt).cell 0
      obtain ⟨T, hT⟩ : ∃ T : List Nat, T = (List.range n).filter (S j) := ⟨_, rfl⟩
      have HTT := Lib.hid hT
      have CK : Hid (∀ W, IsAl W base (.pointer (some ⟨ba, 0, none⟩)) p → Calls Try.prog 34 #[.pointer (some ⟨ba, 0, none⟩), .agg (encS (X j))] W fun e w' => ∃ u, e = .returned (.tuple #[u, .int .i64 0]) ∧ IsSl encZ w' u (T.map Int.ofNat) ∧ Below W.heap.size W w') := fun W h => by
        have := classes_any _ _ p (X j) W h
        rw [HP.out.uni_classes (HSX.out j hj3), ← HN.out, ← hT] at this
        refine this.mono fun _ _ ⟨u, he, ho, hx⟩ => ⟨u, he, ?_, hx⟩
        have hm : (T.map Int.ofNat).map encZ = T.map encN := by rw [List.map_map]; rfl
        rw [← hm] at ho
        exact ownsRow_sl ho (by rw [List.length_map])
      clear hT
      go_wp2_with fail
      refine calls_named ?_
      intro V3 hV
      have hx : Below wo.heap.size wo V3 := by rw [hV]; exact ((Ext.refl _).alloc _).below
      have D2 := Lib.hid (D1.out.step hx)
      clear hx hV k0 k1 k2 k3 c9
      refine (CK.out _ (D2.out.al 7 rfl)).mono ?_
      rintro e w6 ⟨ug, rfl, hug, hx⟩
      have D3 := Lib.hid ((D2.out.step hx).cons (s := Sp.sl encZ ug (T.map Int.ofNat)) hug)
      clear hug hx CK D2
      have c9 : w6.cell? ⟨g9, 0, none⟩ = some (.pointer (some ⟨ba, 0, none⟩)) := (D3.out.blk 7 rfl).cell 0
      -- 0 sl ug, 1 since w5, 2 blk gx, 3 blk g15, 4 sl u2, 5 blk g12, 6 sl u1, 7 blk g9, 8 al, 9 since w
      go_wp2_with fail
      refine (CL.out _ (D3.out.al 8 rfl)).mono ?_
      rintro e w' ⟨rfl, hw⟩
      replace hw := hw.symm
      subst hw
      go_wp2
      clear c9
      go_loopw [86, 21] (fun i v wr => ∃ d : Nat, d ≤ n ∧ i = .int .i64 d ∧ wr.ownsRow w6.heap.size 3 1 v (((List.range d).filter (S j)).map Int.ofNat).length ((((List.range d).filter (S j)).map Int.ofNat).map encZ) ∧ Below w6.heap.size w6 wr) (fun i _ _ => n - (intOf i).toNat)
      case atStart => exact ⟨0, by omega, rfl, World.ownsRow_nil _ _ _ _, Below.refl _ _⟩
      case round =>
        obtain ⟨d, hd, rfl, ho, hx⟩ := hrel
        obtain ⟨wi, rfl⟩ : ∃ wi : World, wi = wr := ⟨_, rfl⟩
        have E1 := Lib.hid ((D3.out.step hx).cons (s := Sp.since w6) hx)
        have HO := Lib.hid ho
        clear ho hx
        -- 0 since w6, 1 sl ug, 2 since w5, 3 blk gx, 4 blk g15, 5 sl u2, 6 blk g12, 7 sl u1, 8 blk g9, 9 al, 10 since w
        by_cases hlt : d < n
        · have hdi : (d : Int) < n := by omega
          have CC1 : Hid (Calls Try.prog 54 #[u1, .int .i64 d] wi fun e w' => e = .returned (.bool (K1.contains d)) ∧ w' = wi) := Lib.hid (by
            have := containsI_any u1 (K1.map Int.ofNat) d wi (E1.out.sl 7 rfl) (by rw [List.length_map]; have := HK1.out; omega)
            rwa [contains_cast] at this)
          have CC2 : Hid (Calls Try.prog 54 #[u2, .int .i64 d] wi fun e w' => e = .returned (.bool (K2.contains d)) ∧ w' = wi) := Lib.hid (by
            have := containsI_any u2 (K2.map Int.ofNat) d wi (E1.out.sl 5 rfl) (by rw [List.length_map]; have := HK2.out; omega)
            rwa [contains_cast] at this)
          obtain ⟨r, hr⟩ : ∃ r, r = S j d := ⟨_, rfl⟩
          have hr' : r = pick3 j (K1.contains d || K2.contains d) (K1.contains d && K2.contains d) (!K1.contains d) := by rw [hr, HS.out]
          have HSN := Lib.hid (show ((List.range (d + 1)).filter (S j)).map Int.ofNat = ((List.range d).filter (S j)).map Int.ofNat ++ if r then [(d : Int)] else [] by
            rw [List.range_succ, List.filter_append, List.map_append, hr]
            cases hc : S j d <;> simp [hc])
          clear hr
          generalize K1.contains d = x1 at CC1 hr'
          generalize K2.contains d = x2 at CC2 hr'
          obtain ⟨L, hL⟩ : ∃ L, L = ((List.range d).filter (S j)).map Int.ofNat := ⟨_, rfl⟩
          rw [← hL] at HO HSN
          obtain ⟨M, hM⟩ : ∃ M, M = L.length := ⟨_, rfl⟩
          have hMd : M ≤ d := by
            rw [hM, hL, List.length_map]
            have := List.length_filter_le (S j) (List.range d)
            rwa [List.length_range] at this
          rw [← hM] at HO
          have HM := Lib.hid hM
          have ho := HO.out
          obtain ⟨av, cv, rfl⟩ := ownsRow_form ho
          have tc := tri_cell wi (x1 || x2) (x1 && x2) (!x1) 4 hj3
          rw [← hr'] at tc
          have hsz : w6.heap.size ≤ wi.heap.size := (E1.out.since 0 rfl).size
          clear hL hM ho hr'
          have e1 : IntKind.i64.wrap ((d : Int) + 1) = (d : Int) + 1 := IntWalk.i64_in _ (by omega)
          cases r <;> cases x1 <;> simp only [Bool.true_or, Bool.false_or, Bool.true_and, Bool.false_and, Bool.not_true, Bool.not_false] at tc
          all_goals go_wp2_with (first
            | (go_at_call 54; refine CC1.out.mono ?_; rintro e w' ⟨rfl, hw⟩; replace hw := hw.symm; subst hw)
            | (go_at_call 54; refine CC2.out.mono ?_; rintro e w' ⟨rfl, hw⟩; replace hw := hw.symm; subst hw)
            | (at_builtin; refine wpList_append_own_at _ rfl _ _ 26 rfl w6.heap.size 3 i0 (.int .i64 0) 1 8 Try.underlying26 hi hz0 hz1 hz2 rfl (by decide) _ _ _ rfl ((HO.out.alloc _).alloc _) ⟨_, 0, none⟩ 1 1 [encZ (d : Int)] rfl rfl (cell_two_new _ _ _ _) (by simp [Value.oneCell', encZ]) (by unfold maxLen; omega) (by omega) (by simp; omega) ?_; intro v' w3 hown' hgrow hh hat; have HO3 := Lib.hid hown'; have HG := Lib.hid hgrow; clear hown' hgrow hh hat))
          · exact ⟨⟨d + 1, by omega, by go_num, by rw [HSN.out, if_neg (by decide), List.append_nil, ← HM.out]; exact HO.out.alloc _, (E1.out.since 0 rfl).alloc hsz _⟩, by simp [intOf]; omega⟩
          · exact ⟨⟨d + 1, by omega, by go_num, by rw [HSN.out, if_neg (by decide), List.append_nil, ← HM.out]; exact HO.out.alloc _, (E1.out.since 0 rfl).alloc hsz _⟩, by simp [intOf]; omega⟩
          · have hx : ∀ o1 o2, Below w6.heap.size w6 ((wi.alloc o1).alloc o2) := fun o1 o2 => ((E1.out.since 0 rfl).alloc hsz o1).alloc (by simp; omega) o2
            have hx3 := (hx _ _).grown HG.out (by simp; omega) (fun c e => (HO.out.lt c e).1)
            exact ⟨⟨d + 1, by omega, by go_num, by rw [HSN.out, if_pos trivial, List.length_append, List.map_append, ← HM.out]; exact HO3.out, hx3⟩, by simp [intOf]; omega⟩
          · have hx : ∀ o1 o2, Below w6.heap.size w6 ((wi.alloc o1).alloc o2) := fun o1 o2 => ((E1.out.since 0 rfl).alloc hsz o1).alloc (by simp; omega) o2
            have hx3 := (hx _ _).grown HG.out (by simp; omega) (fun c e => (HO.out.lt c e).1)
            exact ⟨⟨d + 1, by omega, by go_num, by rw [HSN.out, if_pos trivial, List.length_append, List.map_append, ← HM.out]; exact HO3.out, hx3⟩, by simp [intOf]; omega⟩
        · obtain rfl : d = n := by omega
          rw [← HTT.out] at HO
          obtain ⟨M, hM⟩ : ∃ M, M = (T.map Int.ofNat).length := ⟨_, rfl⟩
          rw [← hM] at HO
          have ho := HO.out
          obtain ⟨av, cv, rfl⟩ := ownsRow_form ho
          have hsl := ownsRow_sl HO.out hM
          have F1 := Lib.hid (E1.out.cons (s := Sp.sl encZ (.slice av M cv) (T.map Int.ofNat)) hsl)
          -- 0 sl v, 1 since w6, 2 sl ug
          have hEq : Calls Try.prog 17 #[ug, .slice av M cv] wi fun e w' => e = .returned (.bool true) ∧ Below wi.heap.size wi w' :=
            (slEqual_any _ _ _ _ wi (F1.out.sl 2 rfl) (F1.out.sl 0 rfl) (by
              rw [List.length_map, HTT.out]
              have := List.length_filter_le (S j) (List.range d)
              rw [List.length_range] at this
              omega)).mono fun e w' ⟨he, hx⟩ => ⟨by rw [he, beq_self_eq_true], hx.below⟩
          have CE := Lib.hid hEq
          clear ho hsl hEq HO hM
          go_wp2_with fail
          refine (CE.out).mono ?_
          rintro e w7 ⟨rfl, hx⟩
          have F2 := Lib.hid (F1.out.step hx)
          clear hx F1
          go_wp2
          exact ⟨⟨j + 1, by omega, by go_num, F2.out.since 3 rfl⟩, by simp [intOf]; omega⟩
    · have hj3' : 3 ≤ j := by omega
      have hjz : ¬ (j : Int) < 3 := by omega
      clear hj3 hj3'
      obtain ⟨q, hq1, hq2⟩ := HP.out.cls_at hcc
      obtain ⟨kk, hkk⟩ : ∃ kk, kk = cls p cc := ⟨_, rfl⟩
      have CCl : Hid (∀ W, IsAl W base (.pointer (some ⟨ba, 0, none⟩)) p → Calls Try.prog 21 #[.pointer (some ⟨ba, 0, none⟩), .int .u8 cc] W fun e w' => e = .returned (.int .i64 kk) ∧ w' = W) := fun W h => by rw [hkk]; exact class_any _ _ p cc hcc _ h
      have CSe : Hid (∀ W, IsAl W base (.pointer (some ⟨ba, 0, none⟩)) p → Calls Try.prog 19 #[.pointer (some ⟨ba, 0, none⟩), .int .i64 kk] W fun e w' => e = .returned (.tuple #[.agg (encS q), .bool true]) ∧ Below W.heap.size W w') := fun W h => by
        have := set_any _ _ p (kk : Int) W h
        rw [setOf_nat, hkk, hq1] at this
        rw [hkk]
        exact this.mono fun _ _ ⟨he, hx⟩ => ⟨he, hx.below⟩
      have HQ := Lib.hid hq1
      clear hq1 hq2 hkk
      go_wp2
      refine wp_region_regM (MoveN wo 25 (encS q)) (MoveN.drew _ _ _) (fun _ _ _ h k => h.trans k) (by kernel_rfl) 10 [0, 0, 0, 6, 15, 31, 63, 63, 0, 383, 1023] (fun i => i == 3 || i == 4 || i == 8 || i == 9) (by kernel_rfl) (fun i => if i = 9 then some 25 else none) (by kernel_rfl) (fun i => if i = 3 then Eff.det _ (.int .i64 kk) else if i = 4 then Eff.det _ (.tuple #[.agg (encS q), .bool true]) else if i = 8 then Eff.alloc wo 25 (encS q) else if i = 9 then Eff.store wo 25 (encS q) else Eff.any _) ?_
      intro C hC _
      have HC := Lib.hid hC
      have c9 : ∀ W : { W // C W }, W.1.cell? ⟨g9, 0, none⟩ = some (.pointer (some ⟨ba, 0, none⟩)) := fun W => ((D1.out.blk 6 rfl).below ((hC W.1).1 W.2).since (D1.out.blk 6 rfl).lt).cell 0
      clear hC
      repeat (refine regStep (fun K hK => ?_); first | (refine regN rfl ?_; try go_simp; refine hK _ _ ?_; clear hK K) | (refine regF rfl rfl ?_; unfold floatAt; go_simp; refine hK _ _ ?_; clear hK K))
      refine regStep (fun K hK => ?_)
      refine regE rfl rfl (Eff.det _ (.int .i64 kk)) rfl (fun W hW hN => ?_) (fun v hv => ?_)
      · have hM := (HC.out W).1 hW
        clear hW
        go_simp
        refine effT_call ((CCl.out _ ((D1.out.al 7 rfl).below hM.since)).mono ?_)
        rintro e w2 ⟨rfl, rfl⟩
        exact ⟨_, rfl, MoveN.below (Below.refl _ _) hM.size, rfl, trivial⟩
      replace hv : v = _ := hv
      subst hv
      go_simp
      refine hK _ _ ?_
      clear hK K
      repeat (refine regStep (fun K hK => ?_); first | (refine regN rfl ?_; try go_simp; refine hK _ _ ?_; clear hK K) | (refine regF rfl rfl ?_; unfold floatAt; go_simp; refine hK _ _ ?_; clear hK K))
      refine regStep (fun K hK => ?_)
      refine regE rfl rfl (Eff.det _ (.tuple #[.agg (encS q), .bool true])) rfl (fun W hW hN => ?_) (fun v hv => ?_)
      · have hM := (HC.out W).1 hW
        clear hW
        go_simp
        refine effT_call ((CSe.out _ ((D1.out.al 7 rfl).below hM.since)).mono ?_)
        rintro e w2 ⟨rfl, hx⟩
        exact ⟨_, rfl, MoveN.below hx hM.size, rfl, trivial⟩
      replace hv : v = _ := hv
      subst hv
      go_simp
      refine hK _ _ ?_
      clear hK K
      repeat (refine regStep (fun K hK => ?_); first | (refine regN rfl ?_; try go_simp; refine hK _ _ ?_; clear hK K) | (refine regF rfl rfl ?_; unfold floatAt; go_simp; refine hK _ _ ?_; clear hK K))
      clear c9
      refine regStep (fun K hK => ?_)
      refine regE rfl rfl (Eff.alloc wo 25 (encS q)) rfl (fun W hW hN => ?_) (fun v hv => ?_)
      · have hM := (HC.out W).1 hW
        clear hW hN hK K
        go_simp
        exact ⟨MoveN.below ((Ext.refl _).alloc _).below hM.size, ⟨_, hM.size, rfl⟩, fun b hb => by cases hb; exact ⟨hM.size, _, Blk.new _ _ _, rfl⟩⟩
      obtain ⟨bo, hbo, rfl⟩ := hv
      go_simp
      refine hK _ _ ?_
      clear hK K
      refine regStep (fun K hK => ?_)
      refine regE rfl rfl (Eff.store wo 25 (encS q)) rfl (fun W hW hN => ?_) (fun v hv => ?_)
      · have hM := (HC.out W).1 hW
        obtain ⟨_, c, hb, hcs⟩ := (hN.at 0 rfl (by kernel_rfl)) bo rfl
        obtain ⟨x0, x1, x2, x3, rfl⟩ : ∃ x0 x1 x2 x3, c = #[x0, x1, x2, x3] := by
          have h4 : c.toList.length = 4 := by rw [Array.length_toList, hcs]; rfl
          match hc : c.toList, h4 with
          | [x0, x1, x2, x3], _ => exact ⟨x0, x1, x2, x3, by rw [← Array.toArray_toList (xs := c), hc]⟩
        have HB := Lib.hid hb
        have y0 : (W.cell? ⟨bo, 0, none⟩) = some x0 := hb.cell 0
        have y1 : (W.cell? ⟨bo, 1, none⟩) = some x1 := hb.cell 1
        have y2 : (W.cell? ⟨bo, 2, none⟩) = some x2 := hb.cell 2
        have y3 : (W.cell? ⟨bo, 3, none⟩) = some x3 := hb.cell 3
        have z0 := hb.frozen 0
        have z1 := hb.frozen 1
        have z2 := hb.frozen 2
        have z3 := hb.frozen 3
        clear hW hN hK K hb hcs hM
        go_simp
        have hb := (((HB.out.set 0 (.int .u64 (wd q 0).toNat)).set 1 (.int .u64 (wd q 1).toNat)).set 2 (.int .u64 (wd q 2).toNat)).set 3 (.int .u64 (wd q 3).toNat)
        have hm : Keeps (· ≠ bo) W ((((W.setCell ⟨bo, 0, none⟩ (.int .u64 (wd q 0).toNat)).setCell ⟨bo, 1, none⟩ (.int .u64 (wd q 1).toNat)).setCell ⟨bo, 2, none⟩ (.int .u64 (wd q 2).toNat)).setCell ⟨bo, 3, none⟩ (.int .u64 (wd q 3).toNat)) :=
          ((((Keeps.refl _ _).setCell (p := ⟨bo, 0, none⟩) (fun h => h rfl) _).setCell (p := ⟨bo, 1, none⟩) (fun h => h rfl) _).setCell (p := ⟨bo, 2, none⟩) (fun h => h rfl) _).setCell (p := ⟨bo, 3, none⟩) (fun h => h rfl) _
        refine ⟨MoveN.store hbo hm hb, trivial, fun b e _ => ?_⟩
        have e' : (Value.pointer (some ⟨bo, 0, none⟩)) = .pointer (some ⟨b, 0, none⟩) := e
        cases e'
        exact hb
      go_simp
      refine hK _ _ ?_
      clear hK K hv
      repeat (refine regStep (fun K hK => ?_); first | (refine regN rfl ?_; try go_simp; refine hK _ _ ?_; clear hK K) | (refine regF rfl rfl ?_; unfold floatAt; go_simp; refine hK _ _ ?_; clear hK K))
      refine regNil (fun w9 hW hH => ?_)
      have hM := (HC.out w9).1 hW
      have HO9 : Blk w9 bo (encS q) 25 := hH _ (List.mem_cons_self ..) bo rfl hbo
      have G0 := Lib.hid ((D1.out.step hM.since).cons (s := Sp.blk bo (encS q) 25) HO9)
      clear hM hW hH HC HO9 D1 CCl CSe hbo
      -- 0 blk bo, 1 since w5, 2 blk gx, 3 blk g15, 4 sl u2, 5 blk g12, 6 sl u1, 7 blk g9, 8 al, 9 since w
      obtain ⟨LE, hLE⟩ : ∃ LE, LE = (s1 ||| q) &&& ~~~oneB cc := ⟨_, rfl⟩
      have CO : Hid (∀ W, Calls Try.prog 40 #[.agg (encS s1), .agg (encS q)] W fun e w' => e = .returned (.agg (encS (s1 ||| q))) ∧ Ext W w') := fun W => or_any s1 q W
      have CLs : Hid (∀ W, Calls Try.prog 55 #[.agg (encS (s1 ||| q)), .agg (encS (oneB cc))] W fun e w' => e = .returned (.agg (encS LE)) ∧ Ext W w') := fun W => by rw [hLE]; exact less_any _ _ W
      have COf : Hid (∀ W b, Blk W b #[.int .u8 cc] 5 → Calls Try.prog 56 #[.slice (some ⟨b, 0, none⟩) 1 1] W fun e w' => e = .returned (.agg (encS (oneB cc))) ∧ Ext W w') := fun W b hb => of_any [cc] (fun c h => by rw [List.mem_singleton.1 h]; exact hcc) b 0 1 W (by simp) hb.lt fun i x hi => by
        have : i = 0 := by
          rcases Nat.eq_zero_or_pos i with h | h
          · exact h
          · rw [List.getElem?_eq_none (by simp; omega)] at hi; cases hi
        subst this
        have hx : cc = x := by simpa using hi
        rw [← hx, hb.cell]; rfl
      have CLess := Lib.hid (HP.out.less HU1.out hcc HQ.out)
      rw [← hLE] at CLess
      clear hLE
      obtain ⟨k0, k1, k2, k3⟩ := (G0.out.blk 5 rfl : Blk w9 g12 (encS s1) 25).set4
      obtain ⟨m0, m1, m2, m3⟩ := (G0.out.blk 0 rfl : Blk w9 bo (encS q) 25).set4
      go_wp2_with fail
      refine (CO.out _).mono ?_
      rintro e w10 ⟨rfl, hx⟩
      have G1 := Lib.hid (G0.out.step hx.below)
      clear k0 k1 k2 k3 m0 m1 m2 m3 hx G0 CO
      go_wp2_with fail
      refine calls_named ?_
      intro V4 hV
      have hx : Below w10.heap.size w10 V4 := by rw [hV]; exact ((Ext.refl _).alloc _).below
      have hZ : Blk V4 w10.heap.size #[.int .u8 cc] 5 := by rw [hV]; exact Blk.new _ _ _
      have HZ := Lib.hid hZ
      have G2 := Lib.hid (G1.out.step hx)
      clear hx hZ hV G1
      refine (COf.out _ _ HZ.out).mono ?_
      rintro e w11 ⟨rfl, hx⟩
      have G3 := Lib.hid (G2.out.step hx.below)
      clear hx G2 HZ COf
      go_wp2_with fail
      refine (CLs.out _).mono ?_
      rintro e w12 ⟨rfl, hx⟩
      have G4 := Lib.hid (G3.out.step hx.below)
      clear hx G3 CLs
      have c9 : ∀ o, (w12.alloc o).cell? ⟨g9, 0, none⟩ = some (.pointer (some ⟨ba, 0, none⟩)) := fun o => ((G4.out.blk 7 rfl).below ((Ext.refl w12).alloc o).below (G4.out.blk 7 rfl).lt).cell 0
      go_wp2_with fail
      refine calls_named ?_
      intro V5 hV
      have hx : Below w12.heap.size w12 V5 := by rw [hV]; exact ((Ext.refl _).alloc _).below
      obtain ⟨gl, hgl⟩ : ∃ b, b = w12.heap.size := ⟨_, rfl⟩
      have hZ : Blk V5 gl (encS LE) 25 := by rw [hV, hgl]; exact Blk.new _ _ _
      rw [← hgl]
      have G5 := Lib.hid ((G4.out.step hx).cons (s := Sp.blk gl (encS LE) 25) hZ)
      clear hx hZ hV hgl c9 G4
      -- 0 blk gl, 1 blk bo, 2 since w5, .. 8 blk g9, 9 al, 10 since w
      refine (classes_any _ _ p LE _ (G5.out.al 9 rfl)).mono ?_
      rintro e w13 ⟨ug, rfl, hug, hx⟩
      have G6 := Lib.hid (G5.out.step hx)
      obtain ⟨ax, cx, rfl⟩ := ownsRow_form hug
      clear hx hug G5
      obtain ⟨m0, m1, m2, m3⟩ := (G6.out.blk 1 rfl : Blk w13 bo (encS q) 25).set4
      go_wp2_with fail
      refine (size_any q _).mono ?_
      rintro e w14 ⟨rfl, hx⟩
      have G7 := Lib.hid (G6.out.step hx.below)
      clear hx m0 m1 m2 m3 G6
      by_cases h1 : (bytesTo q 256).length = 1
      · rw [CLess.out.1 h1, h1]
        go_wp2
        go_ret
        exact ⟨rfl, G7.out.since 10 rfl⟩
      · have he := CLess.out.2 h1
        have CF : Hid (∀ W, IsAl W base (.pointer (some ⟨ba, 0, none⟩)) p → Calls Try.prog 37 #[.pointer (some ⟨ba, 0, none⟩), .agg (encS LE)] W fun e w' => e = .returned (.bool false) ∧ Below W.heap.size W w') := fun W h => by
          have := fits_any _ _ p LE W h
          rw [he] at this
          exact this
        rw [he]
        have h1z : ¬ ((bytesTo q 256).length : Int) = 1 := by omega
        have h1b : (((bytesTo q 256).length : Int) == 1) = false := by rw [beq_eq_false_iff_ne]; exact h1z
        have c9 : w14.cell? ⟨g9, 0, none⟩ = some (.pointer (some ⟨ba, 0, none⟩)) := (G7.out.blk 8 rfl).cell 0
        obtain ⟨m0, m1, m2, m3⟩ := (G7.out.blk 0 rfl : Blk w14 gl (encS LE) 25).set4
        clear he h1
        go_wp2_with fail
        refine (CF.out _ (G7.out.al 9 rfl)).mono ?_
        rintro e w15 ⟨rfl, hx⟩
        have G8 := Lib.hid (G7.out.step hx)
        clear hx
        go_wp2
        go_ret
        exact ⟨rfl, G8.out.since 10 rfl⟩
end Go.Proofs.Ytokkgbcjjaiaeaa.RegG
