/-
  Automata of positions in memory; nfa.Right.
  The law's machine: an automaton of positions for the reference. Printed by wip/gen/mach.py.
  nfa.Copy. Printed by wip/gen/ncopy.py.
  nfa.check: what is wrong with an automaton, or a state set.
  Sets of positions: seven words in a block.
-/
import Derived.Test.YthdnlndpmmiboaaGreatDoorR22
import Derived.Test.YthdnlndpmmiboaaGreatDoorR21
import Derived.Test.YthdnlndpmmiboaaGreatDoorR12
import Derived.Test.YthdnlndpmmiboaaGreatDoorR08
namespace Go.Proofs.YthdnlndpmmiboaaGreatDoor
open Go Go.RowKit Go.Shelf Go.Maps
attribute [local go_sem] encS

/-- An automaton of positions, to be read. -/
def IsNf (w : World) (v : Value) (a : NF) : Prop := ∃ v0 v1 v2 v3, v = .agg #[v0, v1, v2, v3, .bool a.emp] ∧ IsSetsC w v0 a.sets ∧ IsLL w v1 a.fol ∧ IsSl encZ w v2 a.fst ∧ IsSl encZ w v3 a.lst
theorem IsNf.below {w w' : World} {v : Value} {a : NF} (h : IsNf w v a) (hk : Below w.heap.size w w') : IsNf w' v a := by
  obtain ⟨v0, v1, v2, v3, e, h0, h1, h2, h3⟩ := h
  exact ⟨v0, v1, v2, v3, e, ⟨h0.1.below hk, h0.2⟩, h1.below hk, h2.below hk, h3.below hk⟩
/-- No list is longer than a million. -/
structure SmN (a : NF) : Prop where
  sets : a.sets.length ≤ 1000000
  fol : a.fol.length ≤ 1000000
  fst : a.fst.length ≤ 1000000
  lst : a.lst.length ≤ 1000000
  row : ∀ l ∈ a.fol, l.length ≤ 1000000
theorem Blk.five {w : World} {b : Nat} {x y z u t : Value} {ty : TypeId} (h : Blk w b #[x, y, z, u, t] ty) : w.cell? ⟨b, 0, none⟩ = some x ∧ w.cell? ⟨b, 1, none⟩ = some y ∧ w.cell? ⟨b, 2, none⟩ = some z ∧ w.cell? ⟨b, 3, none⟩ = some u ∧ w.cell? ⟨b, 4, none⟩ = some t :=
  ⟨h.cell 0, h.cell 1, h.cell 2, h.cell 3, h.cell 4⟩
theorem nright_no {a : NF} (h : 400 < a.sets.length ∨ a.fol.length ≠ a.sets.length ∨ risG 0 ((a.sets.length : Int) - 1) a.fst = false ∨ risG 0 ((a.sets.length : Int) - 1) a.lst = false) : a.right = false := by
  rw [Bool.eq_false_iff]
  intro hr
  have h1 := (nright_iff a).1 hr
  rcases h with h | h | h | h
  · have := h1.le; omega
  · exact h h1.fol
  · rw [h1.fst] at h; cases h
  · rw [h1.lst] at h; cases h
theorem nright_row {a : NF} {p : Nat} (hp : p < a.sets.length) (h : risG 0 ((a.sets.length : Int) - 1) (a.fol.getD p []) = false ∨ a.sets.getD p 0 = 0) : a.right = false := by
  rw [Bool.eq_false_iff]
  intro hr
  have h1 := (nright_iff a).1 hr
  rcases h with h | h
  · rw [h1.row p hp] at h; cases h
  · exact h1.ne p hp h
theorem nright_yes {a : NF} (h1 : a.sets.length ≤ 400) (h2 : a.fol.length = a.sets.length) (h3 : risG 0 ((a.sets.length : Int) - 1) a.fst = true) (h4 : risG 0 ((a.sets.length : Int) - 1) a.lst = true)
    (h5 : ∀ p, p < a.sets.length → risG 0 ((a.sets.length : Int) - 1) (a.fol.getD p []) = true ∧ a.sets.getD p 0 ≠ 0) : a.right = true := (nright_iff a).2 ⟨h1, h2, h3, h4, fun p hp => (h5 p hp).1, fun p hp => (h5 p hp).2⟩

set_option maxRecDepth 100000 in
set_option maxHeartbeats 4000000 in
theorem nright_any (v : Value) (a : NF) (w : World) (h : IsNf w v a) (sm : SmN a) :
    Calls Tryz.prog 53 #[v] w fun e w' => e = .returned (.bool a.right) ∧ Below w.heap.size w w' := by
  obtain ⟨v0, v1, v2, v3, rfl, h0, h1, h2, h3⟩ := h
  obtain ⟨a0, c0, rfl⟩ := h0.1.form
  obtain ⟨a1, c1, rfl⟩ := h1.form
  obtain ⟨a2, c2, rfl⟩ := h2.form
  obtain ⟨a3, c3, rfl⟩ := h3.form
  have CN : Hid (∀ (W : World) (v : Value) (l : List Int) (high : Int), IsSl encZ W v l → l.length ≤ 1000000 → Calls Tryz.prog 73 #[v, .int .i64 0, .int .i64 high] W fun e w' => e = .returned (.bool (risG 0 high l)) ∧ w' = W) := Lib.hid fun W v l high h hn => nrising_any v l 0 high (.inl rfl) W h hn
  obtain ⟨n0, hn0⟩ : ∃ n, n = a.sets.length := ⟨_, rfl⟩
  obtain ⟨n1, hn1⟩ : ∃ n, n = a.fol.length := ⟨_, rfl⟩
  obtain ⟨n2, hn2⟩ : ∃ n, n = a.fst.length := ⟨_, rfl⟩
  obtain ⟨n3, hn3⟩ : ∃ n, n = a.lst.length := ⟨_, rfl⟩
  obtain ⟨R, hR⟩ : ∃ R, R = a.right := ⟨_, rfl⟩
  have SM := Lib.hid sm
  have m0 : n0 ≤ 1000000 := by rw [hn0]; exact sm.sets
  have m1 : n1 ≤ 1000000 := by rw [hn1]; exact sm.fol
  rw [← hn0] at h0 ⊢
  rw [← hn1] at h1 ⊢
  rw [← hn2] at h2 ⊢
  rw [← hn3] at h3 ⊢
  rw [← hR]
  have HR := Lib.hid hR
  have HN0 := Lib.hid hn0
  have HN1 := Lib.hid hn1
  have HN2 := Lib.hid hn2
  have HN3 := Lib.hid hn3
  have H0 := Lib.hid h0
  have H1 := Lib.hid h1
  have H2 := Lib.hid h2
  have H3 := Lib.hid h3
  clear h0 h1 h2 h3 hn0 hn1 hn2 hn3 hR sm
  by_cases g1 : 400 < n0
  · have RR := Lib.hid (HR.out.trans (nright_no (.inl (by rw [← HN0.out]; exact g1))))
    have g1i : (400 : Int) < n0 := by omega
    go_enter Tryz.func53, Tryz.ntmps53
    go_wp2
    go_ret
    exact ⟨by rw [RR.out]; rfl, ((Ext.refl _).alloc _).below⟩
  by_cases g2 : n1 ≠ n0
  · have RR := Lib.hid (HR.out.trans (nright_no (.inr (.inl (by rw [← HN0.out, ← HN1.out]; exact g2)))))
    have g1i : ¬ ((400 : Int) < n0) := by omega
    have g2i : ((n1 : Int) != (n0 : Int)) = true := by rw [bne_iff_ne]; omega
    go_enter Tryz.func53, Tryz.ntmps53
    go_wp2
    go_ret
    exact ⟨by rw [RR.out]; rfl, ((Ext.refl _).alloc _).below⟩
  replace g2 : n1 = n0 := Decidable.not_not.1 g2
  subst g2
  have g1i : ¬ ((400 : Int) < n1) := by omega
  have wn : IntKind.i64.wrap ((n1 : Int) - 1) = (n1 : Int) - 1 := IntWalk.i64_in _ (by omega)
  go_enter Tryz.func53, Tryz.ntmps53
  go_wp2_with fail
  skip --M1
  refine calls_named ?_
  intro V hV
  have B1 : Hid (Blk V w.heap.size #[.slice a0 n1 c0, .slice a1 n1 c1, .slice a2 n2 c2, .slice a3 n3 c3, .bool a.emp] 35) := Lib.hid (by rw [hV]; exact Blk.new w _ _)
  have X1 : Hid (Below w.heap.size w V) := Lib.hid (by rw [hV]; exact ((Ext.refl w).alloc _).below)
  clear hV
  refine (CN.out V _ a.fst _ (H2.out.below X1.out) SM.out.fst).mono ?_
  rintro e w1 ⟨rfl, hw⟩
  replace hw := hw.symm
  subst hw
  cases r1 : risG 0 ((n1 : Int) - 1) a.fst
  · have RR := Lib.hid (HR.out.trans (nright_no (.inr (.inr (.inl (by rw [← HN0.out]; exact r1))))))
    clear r1
    go_wp2
    go_ret
    exact ⟨by rw [RR.out]; rfl, X1.out⟩
  have R1 := Lib.hid r1
  clear r1
  obtain ⟨i0, i1, i2, i3, i4⟩ := B1.out.five
  go_wp2_with fail
  clear i0 i1 i2 i3 i4
  refine (CN.out V _ a.lst _ (H3.out.below X1.out) SM.out.lst).mono ?_
  rintro e w2 ⟨rfl, hw⟩
  replace hw := hw.symm
  subst hw
  cases r2 : risG 0 ((n1 : Int) - 1) a.lst
  · have RR := Lib.hid (HR.out.trans (nright_no (.inr (.inr (.inr (by rw [← HN0.out]; exact r2))))))
    clear r2
    go_wp2
    go_ret
    exact ⟨by rw [RR.out]; rfl, X1.out⟩
  have R2 := Lib.hid r2
  clear r2
  obtain ⟨i0, i1, i2, i3, i4⟩ := B1.out.five
  go_wp2
  clear i0 i1 i2 i3 i4
  skip --M2
  go_loopw [37] (fun iv wr => ∃ k : Nat, k ≤ n1 ∧ iv = .int .i64 k ∧ (∀ p, p < k → risG 0 ((n1 : Int) - 1) (a.fol.getD p []) = true ∧ a.sets.getD p 0 ≠ 0) ∧ wr = V) (fun iv _ => n1 - (intOf iv).toNat)
  case atStart => exact ⟨0, by omega, rfl, fun p hp => by omega, rfl⟩
  case round =>
    obtain ⟨k, hk, rfl, ha, rfl⟩ := hrel
    have HA := Lib.hid ha
    clear ha
    by_cases hlt : k < n1
    · have hki : (k : Int) < n1 := by omega
      obtain ⟨l, hl⟩ : ∃ l, a.fol[k]? = some l := ⟨_, List.getElem?_eq_getElem (by have := HN1.out; omega)⟩
      obtain ⟨s, hs⟩ : ∃ s, a.sets[k]? = some s := ⟨_, List.getElem?_eq_getElem (by have := HN0.out; omega)⟩
      obtain ⟨b, off, a', c', rfl, hb, cl, hsl⟩ := (H1.out.below X1.out).elem hl
      have HSL := Lib.hid hsl
      have HL := Lib.hid hl
      have HS := Lib.hid hs
      have hln : l.length ≤ 1000000 := SM.out.row l (List.mem_of_getElem? hl)
      clear hsl hl hs
      go_wp2_with fail
      clear cl
      refine (CN.out wr _ l _ HSL.out hln).mono ?_
      rintro e w3 ⟨rfl, hw⟩
      replace hw := hw.symm
      subst hw
      cases r3 : risG 0 ((n1 : Int) - 1) l
      · have RR := Lib.hid (HR.out.trans (nright_row (p := k) (by rw [← HN0.out]; exact hlt) (.inl (by rw [getD_some HL.out, ← HN0.out]; exact r3))))
        clear r3
        go_wp2
        go_ret
        exact ⟨by rw [RR.out]; rfl, X1.out⟩
      have R3 := Lib.hid r3
      clear r3
      obtain ⟨i0, i1, i2, i3, i4⟩ := B1.out.five
      obtain ⟨b2, off2, rfl, hb2, d0, d1, d2, d3⟩ := (H0.out.1.below X1.out).elem HS.out
      skip --M3
      by_cases hz : s = 0#256
      · have he : ∀ W, (Op.equalIn 10000 65 (.agg #[.int .u64 (wd s 0).toNat, .int .u64 (wd s 1).toNat, .int .u64 (wd s 2).toNat, .int .u64 (wd s 3).toNat]) (.agg #[.int .u64 0, .int .u64 0, .int .u64 0, .int .u64 0])).run Tryz.prog W = .ok true W := fun W => by
          have h1 := set_equal s 0 W
          rw [encS_zero, hz] at h1
          rw [hz]
          exact h1
        have RR := Lib.hid (HR.out.trans (nright_row (p := k) (by rw [← HN0.out]; exact hlt) (.inr (by rw [getD_some HS.out]; exact hz))))
        clear hz
        go_wp2
        go_ret
        exact ⟨by rw [RR.out]; rfl, X1.out⟩
      · have he : ∀ W, (Op.equalIn 10000 65 (.agg #[.int .u64 (wd s 0).toNat, .int .u64 (wd s 1).toNat, .int .u64 (wd s 2).toNat, .int .u64 (wd s 3).toNat]) (.agg #[.int .u64 0, .int .u64 0, .int .u64 0, .int .u64 0])).run Tryz.prog W = .ok false W := fun W => by
          have h1 := set_equal s 0 W
          rw [encS_zero, show (s == 0) = false from by simpa using hz] at h1
          exact h1
        have HZ := Lib.hid hz
        clear hz
        go_wp2
        exact ⟨⟨k + 1, by omega, by go_num, fun p hp => by
          rcases Nat.lt_or_ge p k with h3 | h3
          · exact HA.out p h3
          · obtain rfl : p = k := by omega
            rw [getD_some HL.out, getD_some HS.out]
            exact ⟨R3.out, HZ.out⟩, by trivial⟩, by simp [intOf]; omega⟩
    · have hk' : k = n1 := by omega
      have RR := Lib.hid (HR.out.trans (nright_yes (by rw [← HN0.out]; omega) (by rw [← HN0.out, ← HN1.out]) (by rw [← HN0.out]; exact R1.out) (by rw [← HN0.out]; exact R2.out) (by rw [← HN0.out]; exact fun p hp => HA.out p (by omega))))
      go_wp2
      go_ret
      exact ⟨by rw [RR.out]; rfl, X1.out⟩
end Go.Proofs.YthdnlndpmmiboaaGreatDoor
namespace Go.Proofs.YthdnlndpmmiboaaGreatDoor
open Go Go.RowKit Go.Shelf Go.Maps
attribute [local go_sem] encS

/-- An automaton of positions whose empty rows may lie anywhere. -/
def IsNfe (w : World) (v : Value) (a : NF) : Prop := ∃ v0 v1 v2 v3, v = .agg #[v0, v1, v2, v3, .bool a.emp] ∧ IsSetsE w v0 a.sets ∧ IsLLE w v1 a.fol ∧ IsSlE encZ w v2 a.fst ∧ IsSlE encZ w v3 a.lst
theorem IsNfe.below {w w' : World} {v : Value} {a : NF} (h : IsNfe w v a) (hk : Below w.heap.size w w') : IsNfe w' v a := by
  obtain ⟨v0, v1, v2, v3, e, h0, h1, h2, h3⟩ := h
  exact ⟨v0, v1, v2, v3, e, h0.below hk, h1.below hk, h2.below hk, h3.below hk⟩
def OwnRn (base : Nat) (w : World) (v : Value) (a : NF) : Prop := ∃ v0 v1 v2 v3, v = .agg #[v0, v1, v2, v3, .bool a.emp] ∧ w.ownsRow base 91 256 v0 (a.sets.map refS).length (flatA (a.sets.map refS)) ∧ OwnLL base w v1 a.fol ∧ w.ownsRow base 3 1 v2 a.fst.length (a.fst.map encZ) ∧ w.ownsRow base 3 1 v3 a.lst.length (a.lst.map encZ)
theorem Blk.set5 {w : World} {b : Nat} {x y z u t x' y' z' u' t' : Value} {ty : TypeId} (h : Blk w b #[x, y, z, u, t] ty) : Blk (((((w.setCell ⟨b, 0, none⟩ x').setCell ⟨b, 1, none⟩ y').setCell ⟨b, 2, none⟩ z').setCell ⟨b, 3, none⟩ u').setCell ⟨b, 4, none⟩ t') b #[x', y', z', u', t'] ty := ((((h.set 0 x').set 1 y').set 2 z').set 3 u').set 4 t'
theorem keeps_set5 (W : World) (b : Nat) (x y z u t : Value) : Keeps (· ≠ b) W (((((W.setCell ⟨b, 0, none⟩ x).setCell ⟨b, 1, none⟩ y).setCell ⟨b, 2, none⟩ z).setCell ⟨b, 3, none⟩ u).setCell ⟨b, 4, none⟩ t) :=
  (((((Keeps.refl _ W).setCell (p := ⟨b, 0, none⟩) (fun h => h rfl) _).setCell (p := ⟨b, 1, none⟩) (fun h => h rfl) _).setCell (p := ⟨b, 2, none⟩) (fun h => h rfl) _).setCell (p := ⟨b, 3, none⟩) (fun h => h rfl) _).setCell (p := ⟨b, 4, none⟩) (fun h => h rfl) _
end Go.Proofs.YthdnlndpmmiboaaGreatDoor
namespace Go.Proofs.YthdnlndpmmiboaaGreatDoor
open Go Go.RowKit Go.Shelf Go.Maps
attribute [local go_sem] encS

def OwnNf (base : Nat) (w : World) (v : Value) (a : NF) : Prop := ∃ v0 v1 v2 v3, v = .agg #[v0, v1, v2, v3, .bool a.emp] ∧ w.ownsRow base 65 4 v0 a.sets.length (flatS a.sets) ∧ OwnLL base w v1 a.fol ∧ w.ownsRow base 3 1 v2 a.fst.length (a.fst.map encZ) ∧ w.ownsRow base 3 1 v3 a.lst.length (a.lst.map encZ)
theorem OwnNf.nf {base : Nat} {w : World} {v : Value} {a : NF} (h : OwnNf base w v a) : IsNf w v a := by
  obtain ⟨v0, v1, v2, v3, e, h0, h1, h2, h3⟩ := h
  exact ⟨v0, v1, v2, v3, e, ownsRow_setsC h0, h1.ll, ownsRow_sl h2 rfl, ownsRow_sl h3 rfl⟩
end Go.Proofs.YthdnlndpmmiboaaGreatDoor
namespace Go.Proofs.YthdnlndpmmiboaaGreatDoor
open Go Go.RowKit Go.Shelf Go.Maps

def NF.chk (a : NF) (l : List Int) : Int := if a.right = false then 171 else if a.st l = false then 172 else 0
theorem IsNf.form5 {w : World} {v : Value} {a : NF} (h : IsNf w v a) : ∃ a0 c0 a1 n1 c1 a2 n2 c2 a3 n3 c3, v = .agg #[.slice a0 a.sets.length c0, .slice a1 n1 c1, .slice a2 n2 c2, .slice a3 n3 c3, .bool a.emp] := by
  obtain ⟨v0, v1, v2, v3, rfl, h0, h1, h2, h3⟩ := h
  obtain ⟨a0, c0, rfl⟩ := h0.1.form
  obtain ⟨a1, c1, rfl⟩ := h1.form
  obtain ⟨a2, c2, rfl⟩ := h2.form
  obtain ⟨a3, c3, rfl⟩ := h3.form
  exact ⟨_, _, _, _, _, _, _, _, _, _, _, rfl⟩
set_option maxRecDepth 100000 in
set_option maxHeartbeats 4000000 in
theorem ncheck_any (v u : Value) (a : NF) (l : List Int) (w : World) (h : IsNf w v a) (sm : SmN a) (hu : IsSl encZ w u l) (hl : l.length ≤ 1000000) :
    Calls Tryz.prog 114 #[v, u] w fun e w' => e = .returned (.int .i64 (a.chk l)) ∧ Below w.heap.size w w' := by
  have CR : Hid (∀ W, Below w.heap.size w W → Calls Tryz.prog 53 #[v] W fun e w' => e = .returned (.bool a.right) ∧ Below W.heap.size W w') := Lib.hid fun W hW => nright_any v a W (h.below hW) sm
  have CN : Hid (∀ W, Below w.heap.size w W → Calls Tryz.prog 73 #[u, .int .i64 (-1), .int .i64 ((a.sets.length : Int) - 1)] W fun e w' => e = .returned (.bool (a.st l)) ∧ w' = W) := Lib.hid fun W hW => nrising_any u l (-1) _ (.inr rfl) W (hu.below hW) hl
  have HS := Lib.hid sm.sets
  obtain ⟨a0, c0, a1, n1, c1, a2, n2, c2, a3, n3, c3, rfl⟩ := h.form5
  obtain ⟨ua, uc, rfl⟩ := hu.form
  obtain ⟨n0, hn0⟩ : ∃ n, n = a.sets.length := ⟨_, rfl⟩
  obtain ⟨m, hm⟩ : ∃ n, n = l.length := ⟨_, rfl⟩
  obtain ⟨r1, hr1⟩ : ∃ r, r = a.right := ⟨_, rfl⟩
  obtain ⟨r2, hr2⟩ : ∃ r, r = a.st l := ⟨_, rfl⟩
  have hc : a.chk l = if r1 = false then 171 else if r2 = false then 172 else 0 := by unfold NF.chk; rw [hr1, hr2]
  rw [hc]
  rw [← hn0] at CR CN HS ⊢
  rw [← hm] at CN ⊢
  rw [← hr1] at CR
  rw [← hr2] at CN
  have m0 : n0 ≤ 1000000 := HS.out
  have wn : IntKind.i64.wrap ((n0 : Int) - 1) = (n0 : Int) - 1 := IntWalk.i64_in _ (by omega)
  clear h hu hl sm hn0 hm hr1 hr2 hc HS
  go_enter Tryz.func114, Tryz.ntmps114
  go_wp2_with fail
  refine calls_named ?_
  intro V hV
  have B1 : Hid (Blk V w.heap.size #[.slice a0 n0 c0, .slice a1 n1 c1, .slice a2 n2 c2, .slice a3 n3 c3, .bool a.emp] 35) := Lib.hid (by rw [hV]; exact Blk.new w _ _)
  have X1 : Hid (Below w.heap.size w V) := Lib.hid (by rw [hV]; exact ((Ext.refl w).alloc _).below)
  clear hV
  refine (CR.out V X1.out).mono ?_
  rintro e w1 ⟨rfl, hx⟩
  have B2 := Lib.hid (B1.out.below hx B1.out.lt)
  have X2 := Lib.hid (X1.out.trans (hx.mono X1.out.size))
  clear hx B1 X1 CR
  cases r1
  · go_wp2
    go_ret
    exact ⟨rfl, X2.out⟩
  obtain ⟨i0, i1, i2, i3, i4⟩ := B2.out.five
  go_wp2_with fail
  refine (CN.out w1 X2.out).mono ?_
  rintro e w2 ⟨rfl, hw⟩
  replace hw := hw.symm
  subst hw
  clear i0 i1 i2 i3 i4 CN
  cases r2
  · go_wp2
    go_ret
    exact ⟨rfl, X2.out⟩
  · go_wp2
    go_ret
    exact ⟨rfl, X2.out⟩
end Go.Proofs.YthdnlndpmmiboaaGreatDoor
namespace Go.Proofs.YthdnlndpmmiboaaGreatDoor
open Go Go.RowKit Go.Shelf Go.Maps

/-- Seven words. -/
def encW (s : Nat → BitVec 64) : Array Value := #[.int .u64 (s 0).toNat, .int .u64 (s 1).toNat, .int .u64 (s 2).toNat, .int .u64 (s 3).toNat, .int .u64 (s 4).toNat, .int .u64 (s 5).toNat, .int .u64 (s 6).toNat]
theorem encW_get (s : Nat → BitVec 64) {i : Nat} (hi : i < 7) : (encW s)[i]? = some (.int .u64 (s i).toNat) := by
  match i, hi with
  | 0, _ => rfl
  | 1, _ => rfl
  | 2, _ => rfl
  | 3, _ => rfl
  | 4, _ => rfl
  | 5, _ => rfl
  | 6, _ => rfl
def inW (s : Nat → BitVec 64) (p : Nat) : Bool := (s (p / 64)).getLsbD (p % 64)
theorem word_bit (x : BitVec 64) (n : Nat) : x.toNat / 2 ^ n % 2 = (x.getLsbD n).toNat := by
  have h : x.getLsbD n = decide (x.toNat / 2 ^ n % 2 = 1) := Nat.testBit_eq_decide_div_mod_eq
  rw [h]
  rcases Nat.mod_two_eq_zero_or_one (x.toNat / 2 ^ n) with e | e <;> simp [e]
theorem word_test (x : BitVec 64) (n : Nat) : (bits .and .u64 ((x.toNat : Int) / 2 ^ n) 1 == 1) = x.getLsbD n := by
  have h : ((x.toNat : Int) / 2 ^ n) = ((x.toNat / 2 ^ n : Nat) : Int) := by simp
  rw [h, bits_one _ (Nat.lt_of_le_of_lt (Nat.div_le_self _ _) x.isLt), word_bit]
  cases x.getLsbD n <;> rfl
set_option maxRecDepth 100000 in
set_option maxHeartbeats 2000000 in
theorem bitsHas_any (s : Nat → BitVec 64) (b p : Nat) (hp : p < 448) (w : World) (h : Blk w b (encW s) 200) :
    Calls Tryz.prog 137 #[.pointer (some ⟨b, 0, none⟩), .int .i64 p] w fun e w' => e = .returned (.bool (inW s p)) ∧ w' = w := by
  obtain ⟨q, hq⟩ : ∃ q, q = p / 64 := ⟨_, rfl⟩
  obtain ⟨r, hr⟩ : ∃ r, r = p % 64 := ⟨_, rfl⟩
  have hq7 : q < 7 := by omega
  have hr64 : r < 64 := by omega
  have c1 : w.cell? ⟨b, q, none⟩ = some (.int .u64 (s q).toNat) := (h.cell q).trans (encW_get s hq7)
  have e1 : (p : Int).tdiv 64 = (q : Int) := by rw [Int.tdiv_eq_ediv_of_nonneg (by omega)]; omega
  have e2 : (p : Int).tmod 64 = (r : Int) := by rw [Int.tmod_eq_emod_of_nonneg (by omega)]; omega
  have w1 : IntKind.i64.wrap (q : Int) = q := IntWalk.i64_in _ (by omega)
  have w2 : IntKind.i64.wrap (r : Int) = r := IntWalk.i64_in _ (by omega)
  have q7i : (q : Int) < 7 := by omega
  have r0i : ¬ ((r : Int) < 0) := by omega
  have hin : inW s p = (s q).getLsbD r := by unfold inW; rw [← hq, ← hr]
  rw [hin]
  clear hin hq hr h
  go_enter Tryz.func137, Tryz.ntmps137
  go_wp2
  go_ret
  exact ⟨congrArg (fun b => Ending.returned (.bool b)) (word_test (s q) r), rfl⟩
end Go.Proofs.YthdnlndpmmiboaaGreatDoor
