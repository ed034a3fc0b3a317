/-
  The law's machine: an automaton of positions for the reference. Printed by wip/gen/mach.py.
  nfa.Copy. Printed by wip/gen/ncopy.py.
  nfa.check: what is wrong with an automaton, or a state set.
  Sets of positions: seven words in a block.
  A position put into a set of positions.
  nfa.set: a list of positions as a set.
  The closure of nfa.accepts.
  slices.ContainsFunc at ints, whose closure need serve the list's members alone.
  What a state set leads to, as a set of bits: plain laws.
-/
import Derived.Test.YtbiboekhakbnpaaGreatDoorOB12
import Derived.Test.YtbiboekhakbnpaaGreatDoorOB13
import Derived.Test.YtbiboekhakbnpaaGreatDoorOB09
import Derived.Test.YtbiboekhakbnpaaGreatDoorOB05
import Derived.Test.YtbiboekhakbnpaaGreatDoorOB08
import Derived.Lib.SliceRun
import Derived.Test.YtbiboekhakbnpaaGreatDoorOB06
set_option maxRecDepth 100000
set_option maxHeartbeats 16000000
open Go.Lib (hid)
namespace Go.Proofs.YtbiboekhakbnpaaGreatDoor
open Go Go.RowKit Go.Shelf Go.Maps
attribute [local go_sem] encS

def Eff.rowJ (base n : Nat) (xs : List Value) : Eff (Move false (fun _ => False)) where
 P := fun v => ∃ a c, v = .slice a n c
 H := fun v W => W.ownsRow base 3 1 v n xs
 wit := .slice none n 0
 pw := ⟨none, 0, rfl⟩
 st := fun _ _ _ hm _ h => ownsRow_below h hm.below
theorem Blk.set5 {w : World} {b : Nat} {x y z u t x' y' z' u' t' : Value} {ty : TypeId} (h : Blk w b #[x, y, z, u, t] ty) : Blk (((((w.setCell ⟨b, 0, none⟩ x').setCell ⟨b, 1, none⟩ y').setCell ⟨b, 2, none⟩ z').setCell ⟨b, 3, none⟩ u').setCell ⟨b, 4, none⟩ t') b #[x', y', z', u', t'] ty := ((((h.set 0 x').set 1 y').set 2 z').set 3 u').set 4 t'
theorem keeps_set5 (W : World) (b : Nat) (x y z u t : Value) : Keeps (· ≠ b) W (((((W.setCell ⟨b, 0, none⟩ x).setCell ⟨b, 1, none⟩ y).setCell ⟨b, 2, none⟩ z).setCell ⟨b, 3, none⟩ u).setCell ⟨b, 4, none⟩ t) :=
 (((((Keeps.refl _ W).setCell (p := ⟨b, 0, none⟩) (fun h => h rfl) _).setCell (p := ⟨b, 1, none⟩) (fun h => h rfl) _).setCell (p := ⟨b, 2, none⟩) (fun h => h rfl) _).setCell (p := ⟨b, 3, none⟩) (fun h => h rfl) _).setCell (p := ⟨b, 4, none⟩) (fun h => h rfl) _
end Go.Proofs.YtbiboekhakbnpaaGreatDoor
namespace Go.Proofs.YtbiboekhakbnpaaGreatDoor
open Go Go.RowKit Go.Shelf Go.Maps
attribute [local go_sem] encS

def OwnNf (base : Nat) (w : World) (v : Value) (a : NF) : Prop := ∃ v0 v1 v2 v3, v = .agg #[v0, v1, v2, v3, .bool a.emp] /\ w.ownsRow base 70 4 v0 a.sets.length (flatS a.sets) /\ OwnLL base w v1 a.fol /\ w.ownsRow base 3 1 v2 a.fst.length (a.fst.map encZ) /\ w.ownsRow base 3 1 v3 a.lst.length (a.lst.map encZ)
theorem OwnNf.nf {base : Nat} {w : World} {v : Value} {a : NF} (h : OwnNf base w v a) : IsNf w v a := by
 obtain ⟨v0, v1, v2, v3, e, h0, h1, h2, h3⟩ := h
 exact ⟨v0, v1, v2, v3, e, ownsRow_setsC h0, h1.ll, ownsRow_sl h2 rfl, ownsRow_sl h3 rfl⟩
end Go.Proofs.YtbiboekhakbnpaaGreatDoor
namespace Go.Proofs.YtbiboekhakbnpaaGreatDoor
open Go Go.RowKit Go.Shelf Go.Maps

def NF.chk (a : NF) (l : List Int) : Int := if a.right = false then 171 else if a.st l = false then 172 else 0
theorem IsNf.form5 {w : World} {v : Value} {a : NF} (h : IsNf w v a) : ∃ a0 c0 a1 n1 c1 a2 n2 c2 a3 n3 c3, v = .agg #[.slice a0 a.sets.length c0, .slice a1 n1 c1, .slice a2 n2 c2, .slice a3 n3 c3, .bool a.emp] := by
 obtain ⟨v0, v1, v2, v3, rfl, h0, h1, h2, h3⟩ := h
 obtain ⟨a0, c0, rfl⟩ := h0.1.form
 obtain ⟨a1, c1, rfl⟩ := h1.form
 obtain ⟨a2, c2, rfl⟩ := h2.form
 obtain ⟨a3, c3, rfl⟩ := h3.form
 exact ⟨_, _, _, _, _, _, _, _, _, _, _, rfl⟩
theorem ncheck_any (v u : Value) (a : NF) (l : List Int) (w : World) (h : IsNf w v a) (sm : SmN a) (hu : IsSl encZ w u l) (hl : l.length <= 1000000) :
  Calls Tryz.prog 157 #[v, u] w fun e w' => e = .returned (.int .i64 (a.chk l)) /\ Below w.heap.size w w' := by
 have CR : Hid (∀ W, Below w.heap.size w W -> Calls Tryz.prog 40 #[v] W fun e w' => e = .returned (.bool a.right) /\ Below W.heap.size W w') := hid fun W hW => nright_any v a W (h.below hW) sm
 have CN : Hid (∀ W, Below w.heap.size w W -> Calls Tryz.prog 75 #[u, .int .i64 (-1), .int .i64 ((a.sets.length : Int) - 1)] W fun e w' => e = .returned (.bool (a.st l)) /\ w' = W) := hid fun W hW => nrising_any u l (-1) _ (.inr rfl) W (hu.below hW) hl
 have HS := hid sm.sets
 obtain ⟨a0, c0, a1, n1, c1, a2, n2, c2, a3, n3, c3, rfl⟩ := h.form5
 obtain ⟨ua, uc, rfl⟩ := hu.form
 obtain ⟨n0, hn0⟩ : ∃ n, n = a.sets.length := ⟨_, rfl⟩
 obtain ⟨m, hm⟩ : ∃ n, n = l.length := ⟨_, rfl⟩
 obtain ⟨r1, hr1⟩ : ∃ r, r = a.right := ⟨_, rfl⟩
 obtain ⟨r2, hr2⟩ : ∃ r, r = a.st l := ⟨_, rfl⟩
 have hc : a.chk l = if r1 = false then 171 else if r2 = false then 172 else 0 := by unfold NF.chk; rw [hr1, hr2]
 rw [hc]
 rw [<- hn0] at CR CN HS ⊢
 rw [<- hm] at CN ⊢
 rw [<- hr1] at CR
 rw [<- hr2] at CN
 have m0 : n0 <= 1000000 := HS.out
 have wn : IntKind.i64.wrap ((n0 : Int) - 1) = (n0 : Int) - 1 := IntWalk.i64_in _ (by omega)
 clear h hu hl sm hn0 hm hr1 hr2 hc HS
 go_enter Tryz.func157, Tryz.ntmps157
 go_wp2_with fail
 refine calls_named ?_
 intro V hV
 have B1 : Hid (Blk V w.heap.size #[.slice a0 n0 c0, .slice a1 n1 c1, .slice a2 n2 c2, .slice a3 n3 c3, .bool a.emp] 44) := hid (by rw [hV]; exact Blk.new w _ _)
 have X1 : Hid (Below w.heap.size w V) := hid (by rw [hV]; exact ((Ext.refl w).alloc _).below)
 clear hV
 refine (CR.out V X1.out).mono ?_
 rintro e w1 ⟨rfl, hx⟩
 have B2 := hid (B1.out.below hx B1.out.lt)
 have X2 := hid (X1.out.trans (hx.mono X1.out.size))
 clear hx B1 X1 CR
 cases r1
 ·go_wp2
  go_ret
  exact ⟨rfl, X2.out⟩
 obtain ⟨i0, i1, i2, i3, i4⟩ := B2.out.five
 go_wp2_with fail
 refine (CN.out w1 X2.out).mono ?_
 rintro e w2 ⟨rfl, hw⟩
 replace hw := hw.symm
 subst hw
 clear i0 i1 i2 i3 i4 CN
 cases r2
 ·go_wp2
  go_ret
  exact ⟨rfl, X2.out⟩
 ·go_wp2
  go_ret
  exact ⟨rfl, X2.out⟩
def encW (s : Nat -> BitVec 64) : Array Value := #[.int .u64 (s 0).toNat, .int .u64 (s 1).toNat, .int .u64 (s 2).toNat, .int .u64 (s 3).toNat, .int .u64 (s 4).toNat, .int .u64 (s 5).toNat, .int .u64 (s 6).toNat]
theorem encW_get (s : Nat -> BitVec 64) {i : Nat} (hi : i < 7) : (encW s)[i]? = some (.int .u64 (s i).toNat) := by
 match i, hi with
 | 0, _ => rfl
 | 1, _ => rfl
 | 2, _ => rfl
 | 3, _ => rfl
 | 4, _ => rfl
 | 5, _ => rfl
 | 6, _ => rfl
def inW (s : Nat -> BitVec 64) (p : Nat) : Bool := (s (p / 64)).getLsbD (p % 64)
theorem word_bit (x : BitVec 64) (n : Nat) : x.toNat / 2 ^ n % 2 = (x.getLsbD n).toNat := by
 have h : x.getLsbD n = decide (x.toNat / 2 ^ n % 2 = 1) := Nat.testBit_eq_decide_div_mod_eq
 rw [h]
 rcases Nat.mod_two_eq_zero_or_one (x.toNat / 2 ^ n) with e | e <;> simp [e]
theorem word_test (x : BitVec 64) (n : Nat) : (bits .and .u64 ((x.toNat : Int) / 2 ^ n) 1 == 1) = x.getLsbD n := by
 have h : ((x.toNat : Int) / 2 ^ n) = ((x.toNat / 2 ^ n : Nat) : Int) := by simp
 rw [h, bits_one _ (Nat.lt_of_le_of_lt (Nat.div_le_self _ _) x.isLt), word_bit]
 cases x.getLsbD n <;> rfl
theorem bitsHas_any (s : Nat -> BitVec 64) (b p : Nat) (hp : p < 448) (w : World) (h : Blk w b (encW s) 129) :
  Calls Tryz.prog 94 #[.pointer (some ⟨b, 0, none⟩), .int .i64 p] w fun e w' => e = .returned (.bool (inW s p)) /\ w' = w := by
 obtain ⟨q, hq⟩ : ∃ q, q = p / 64 := ⟨_, rfl⟩
 obtain ⟨r, hr⟩ : ∃ r, r = p % 64 := ⟨_, rfl⟩
 have hq7 : q < 7 := by omega
 have hr64 : r < 64 := by omega
 have c1 : w.cell? ⟨b, q, none⟩ = some (.int .u64 (s q).toNat) := (h.cell q).trans (encW_get s hq7)
 have e1 : (p : Int).tdiv 64 = (q : Int) := by rw [Int.tdiv_eq_ediv_of_nonneg (by omega)]; omega
 have e2 : (p : Int).tmod 64 = (r : Int) := by rw [Int.tmod_eq_emod_of_nonneg (by omega)]; omega
 have w1 : IntKind.i64.wrap (q : Int) = q := IntWalk.i64_in _ (by omega)
 have w2 : IntKind.i64.wrap (r : Int) = r := IntWalk.i64_in _ (by omega)
 have q7i : (q : Int) < 7 := by omega
 have r0i : ¬ ((r : Int) < 0) := by omega
 have hin : inW s p = (s q).getLsbD r := by unfold inW; rw [<- hq, <- hr]
 rw [hin]
 clear hin hq hr h
 go_enter Tryz.func94, Tryz.ntmps94
 go_wp2
 go_ret
 exact ⟨congrArg (fun b => Ending.returned (.bool b)) (word_test (s q) r), rfl⟩
def putW (s : Nat -> BitVec 64) (p : Nat) : Nat -> BitVec 64 := fun i => if i = p / 64 then s i ||| (1#64 <<< (p % 64)) else s i
theorem putW_in (s : Nat -> BitVec 64) (p : Nat) {x : Nat} : inW (putW s p) x = (inW s x || (x == p)) := by
 unfold inW putW
 by_cases h : x / 64 = p / 64
 ·rw [if_pos h, BitVec.getLsbD_or]
  congr 1
  rw [BitVec.getLsbD_shiftLeft]
  have hx : x % 64 < 64 := by omega
  by_cases e : x = p
  ·subst e; simp [hx]
  ·have h1 : x % 64 ≠ p % 64 := by omega
   rw [show (x == p) = false from by simpa using e]
   simp only [hx, decide_true, Bool.true_and]
   by_cases h2 : x % 64 < p % 64
   ·simp [h2]
   ·simp [h2, show x % 64 - p % 64 ≠ 0 by omega]
 ·rw [if_neg h, show (x == p) = false from by rw [beq_eq_false_iff_ne]; intro e; subst e; exact h rfl, Bool.or_false]
theorem encW_put (s : Nat -> BitVec 64) {p : Nat} (hp : p < 448) : (encW s).setIfInBounds (p / 64) (.int .u64 (s (p / 64) ||| (1#64 <<< (p % 64))).toNat) = encW (putW s p) := by
 obtain ⟨q, hq⟩ : ∃ q, q = p / 64 := ⟨_, rfl⟩
 have h7 : q < 7 := by omega
 unfold putW
 rw [<- hq]
 match q, h7 with
 | 0, _ => rfl
 | 1, _ => rfl
 | 2, _ => rfl
 | 3, _ => rfl
 | 4, _ => rfl
 | 5, _ => rfl
 | 6, _ => rfl
theorem shl_twoPow (n : Nat) : (1#64 <<< n) = BitVec.twoPow 64 n := rfl
theorem bitsPut_any (s : Nat -> BitVec 64) (b p : Nat) (hp : p < 448) (w : World) (h : Blk w b (encW s) 129) :
  Calls Tryz.prog 129 #[.pointer (some ⟨b, 0, none⟩), .int .i64 p] w fun e w' => (∃ u, e = .returned u) /\ Blk w' b (encW (putW s p)) 129 /\ Keeps (fun x => x < w.heap.size /\ x ≠ b) w w' := by
 have hput := encW_put s hp
 obtain ⟨q, hq⟩ : ∃ q, q = p / 64 := ⟨_, rfl⟩
 obtain ⟨r, hr⟩ : ∃ r, r = p % 64 := ⟨_, rfl⟩
 have hq7 : q < 7 := by omega
 have hr64 : r < 64 := by omega
 have c1 : w.cell? ⟨b, q, none⟩ = some (.int .u64 (s q).toNat) := (h.cell q).trans (encW_get s hq7)
 have z1 : w.frozen? ⟨b, q, none⟩ = false := h.frozen q
 have e1 : (p : Int).tdiv 64 = (q : Int) := by rw [Int.tdiv_eq_ediv_of_nonneg (by omega)]; omega
 have e2 : (p : Int).tmod 64 = (r : Int) := by rw [Int.tmod_eq_emod_of_nonneg (by omega)]; omega
 have w1 : IntKind.i64.wrap (q : Int) = q := IntWalk.i64_in _ (by omega)
 have w2 : IntKind.i64.wrap (r : Int) = r := IntWalk.i64_in _ (by omega)
 have q7i : (q : Int) < 7 := by omega
 have r0i : ¬ ((r : Int) < 0) := by omega
 have q0i : ¬ ((q : Int) < 0) := by omega
 rw [<- hq, <- hr] at hput
 rw [shl_twoPow] at hput
 have hor := or_bit (s q) hr64
 have HP := hid hput
 have H := hid h
 clear hq hr h hput
 go_enter Tryz.func129, Tryz.ntmps129
 go_wp2
 refine wp_region_reg false (fun _ => False) (by kernel_rfl) 11 [0, 0, 2, 1, 15, 31, 0, 64, 192, 511, 1, 2047, 4095] (fun i => i == 12) (by kernel_rfl) (fun _ => Eff.any _) ?_
 intro C hC hne
 have HC := hid hC
 have hbl := H.out.lt
 have f1 := regCell hC (p := ⟨b, q, none⟩) hbl (fun h => h) c1
 clear hC c1
 repeat (refine regStep (fun K hK => ?_); first | (refine regN rfl ?_; try go_simp; refine hK _ _ ?_; clear hK K) | (refine regF rfl rfl ?_; unfold floatAt; go_simp; refine hK _ _ ?_; clear hK K))
 refine regNil (fun W hW hH => ?_)
 have hM := ((HC.out W).1 hW)
 have HB := hid (H.out.below hM.below H.out.lt)
 have HX := hid hM.below
 have c2 : W.cell? ⟨b, q, none⟩ = some (.int .u64 (s q).toNat) := (HB.out.cell q).trans (encW_get s hq7)
 have z2 : W.frozen? ⟨b, q, none⟩ = false := HB.out.frozen q
 clear hM hW hH HC hne f1 z1
 go_wp2
 have hval : ((s q).toNat ||| 2 ^ r % 18446744073709551616) = (s q ||| BitVec.twoPow 64 r).toNat := by
  rw [BitVec.toNat_or, BitVec.toNat_twoPow]
 refine bodyPost_end (v := .tuple #[]) (by simp [results, Tryz.results129, go_sem]) rfl ⟨⟨_, rfl⟩, ?_, ?_⟩
 ·rw [hval]
  have hb := HB.out.set q (.int .u64 (s q ||| BitVec.twoPow 64 r).toNat)
  rw [HP.out] at hb
  exact hb
 ·exact (Keeps.of_below HX.out fun _ hx => hx.1 : Keeps (fun x => x < w.heap.size /\ x ≠ b) w W).setCell (p := ⟨b, q, none⟩) (fun h => h.2 rfl) _
attribute [local go_sem] encW

def setW (l : List Nat) : Nat -> BitVec 64 := l.foldl putW fun _ => 0
theorem setW_snoc (l : List Nat) (p : Nat) : setW (l ++ [p]) = putW (setW l) p := by unfold setW; rw [List.foldl_append]; rfl
theorem setW_in (l : List Nat) (x : Nat) : inW (setW l) x = l.contains x := by
 have h : ∀ (l : List Nat) (s : Nat -> BitVec 64), inW (l.foldl putW s) x = (inW s x || l.contains x) := by
  intro l
  induction l with
  | nil => intro s; simp
  | cons p l ih =>
   intro s
   rw [List.foldl_cons, ih, putW_in, List.contains_cons, Bool.or_assoc]
 unfold setW
 rw [h]
 simp [inW]
theorem bitsSet_any (v : Value) (l : List Nat) (w : World) (h : IsSl (fun p : Nat => .int .i64 p) w v l) (hl : ∀ p ∈ l, p < 448) (hn : l.length <= 1000000) :
  Calls Tryz.prog 92 #[v] w fun e w' => e = .returned (.agg (encW (setW l))) /\ Below w.heap.size w w' := by
 obtain ⟨a, cap, rfl⟩ := h.form
 obtain ⟨n, hnn⟩ : ∃ n, n = l.length := ⟨_, rfl⟩
 rw [<- hnn] at h hn ⊢
 have H := hid h
 have HN := hid hnn
 have HL := hid hl
 clear h hnn hl
 go_enter Tryz.func92, Tryz.ntmps92
 go_wp2
 refine wp_named ?_
 intro V hV
 have B1 : Hid (Blk V w.heap.size (encW fun _ => 0) 129) := hid (by rw [hV]; exact (Blk.new w _ _).alloc _)
 have B2 : Hid (Blk V (w.heap.size + 1) (encW fun _ => 0) 129) := hid (by rw [hV]; exact (Blk.new _ _ _).at (by simp))
 have X1 : Hid (Below w.heap.size w V) := hid (by rw [hV]; exact (((Ext.refl w).alloc _).alloc _).below)
 clear hV
 go_loopw [8] (fun iv wr => ∃ k : Nat, k <= n /\ iv = .int .i64 k /\ Blk wr (w.heap.size + 1) (encW (setW (l.take k))) 129 /\ Keeps (fun x => x < V.heap.size /\ x ≠ w.heap.size + 1) V wr) (fun iv _ => n - (intOf iv).toNat)
 case atStart => exact ⟨0, by omega, rfl, B2.out, Keeps.refl _ _⟩
 case round =>
  obtain ⟨k, hk, rfl, hb, hx⟩ := hrel
  have HB := hid hb
  have HX := hid hx
  have XX : Hid (Below w.heap.size w wr) := hid (X1.out.trans (hx.mono fun x hx' => ⟨Nat.lt_of_lt_of_le hx' X1.out.size, by have : x < w.heap.size := hx'; omega⟩ : Keeps (· < w.heap.size) V wr).below)
  clear hb hx
  by_cases hlt : k < n
  ·obtain ⟨p, hp⟩ : ∃ p, l[k]? = some p := ⟨_, List.getElem?_eq_getElem (by have := HN.out; omega)⟩
   obtain ⟨g, off, rfl, hg, c1⟩ := (H.out.below XX.out).elem hp
   replace c1 : wr.cell? ⟨g, off + k, none⟩ = some (.int .i64 p) := c1
   have hki : (k : Int) < n := by omega
   have HP := hid hp
   have hp4 := HL.out p (List.mem_of_getElem? hp)
   clear hp
   go_wp2_with fail
   clear c1
   refine (bitsPut_any _ _ p hp4 wr HB.out).mono ?_
   rintro e w2 ⟨⟨u, rfl⟩, hb2, hx2⟩
   have HB2 := hid hb2
   have HX2 := hid (HX.out.trans hx2 fun x hx' => ⟨Nat.lt_of_lt_of_le hx'.1 HX.out.size, hx'.2⟩)
   clear hb2 hx2
   go_wp2
   exact ⟨⟨k + 1, by omega, by go_num, by rw [List.take_add_one, HP.out]; show Blk _ _ (encW (setW (l.take k ++ [p]))) _; rw [setW_snoc]; exact HB2.out, HX2.out⟩, by simp [intOf]; omega⟩
  ·have hk' : k = n := by omega
   have hkn : ¬ ((k : Int) < n) := by omega
   have htk : l.take k = l := by rw [hk', HN.out, List.take_length]
   rw [htk] at HB
   obtain ⟨S, hS⟩ : ∃ S, S = setW l := ⟨_, rfl⟩
   rw [<- hS] at HB
   have HS := hid hS
   have R0 := hid (B1.out.keeps HX.out ⟨B1.out.lt, by omega⟩)
   have c0 : wr.cell? ⟨w.heap.size + 1, 0, none⟩ = some (.int .u64 (S 0).toNat) := HB.out.cell 0
   have r0 : wr.cell? ⟨w.heap.size, 0, none⟩ = some (.int .u64 0) := R0.out.cell 0
   have c1 : wr.cell? ⟨w.heap.size + 1, 1, none⟩ = some (.int .u64 (S 1).toNat) := HB.out.cell 1
   have r1 : wr.cell? ⟨w.heap.size, 1, none⟩ = some (.int .u64 0) := R0.out.cell 1
   have c2 : wr.cell? ⟨w.heap.size + 1, 2, none⟩ = some (.int .u64 (S 2).toNat) := HB.out.cell 2
   have r2 : wr.cell? ⟨w.heap.size, 2, none⟩ = some (.int .u64 0) := R0.out.cell 2
   have c3 : wr.cell? ⟨w.heap.size + 1, 3, none⟩ = some (.int .u64 (S 3).toNat) := HB.out.cell 3
   have r3 : wr.cell? ⟨w.heap.size, 3, none⟩ = some (.int .u64 0) := R0.out.cell 3
   have c4 : wr.cell? ⟨w.heap.size + 1, 4, none⟩ = some (.int .u64 (S 4).toNat) := HB.out.cell 4
   have r4 : wr.cell? ⟨w.heap.size, 4, none⟩ = some (.int .u64 0) := R0.out.cell 4
   have c5 : wr.cell? ⟨w.heap.size + 1, 5, none⟩ = some (.int .u64 (S 5).toNat) := HB.out.cell 5
   have r5 : wr.cell? ⟨w.heap.size, 5, none⟩ = some (.int .u64 0) := R0.out.cell 5
   have c6 : wr.cell? ⟨w.heap.size + 1, 6, none⟩ = some (.int .u64 (S 6).toNat) := HB.out.cell 6
   have r6 : wr.cell? ⟨w.heap.size, 6, none⟩ = some (.int .u64 0) := R0.out.cell 6
   have rf := fun i => R0.out.frozen i
   clear hS htk HL HN H
   go_wp2
   refine bodyPost_ret (v := .agg (encW S)) ?_ rfl ⟨by rw [HS.out]; rfl, ?_⟩
   ·simp [results, Tryz.results92, go_sem, r0, r1, r2, r3, r4, r5, r6]
   ·refine XX.out.trans (Keeps.below (((((((Keeps.refl (· < w.heap.size) _).setCell ?_ _).setCell ?_ _).setCell ?_ _).setCell ?_ _).setCell ?_ _).setCell ?_ _ |>.setCell ?_ _)) <;> (intro h; simp at h)
end Go.Proofs.YtbiboekhakbnpaaGreatDoor
namespace Go.Proofs.YtbiboekhakbnpaaGreatDoor
open Go Go.RowKit Go.Shelf Go.Maps

theorem accepts1_any (x : Int) (em : Bool) (s : Nat -> BitVec 64) (B b : Nat) (W : World) (hB : W.cell? ⟨B, 4, none⟩ = some (.bool em)) (hb : Blk W b (encW s) 129) (hx : x = -1 \/ (0 <= x /\ x < 448)) :
  Calls Tryz.prog 93 #[.int .i64 x, .pointer (some ⟨B, 0, none⟩), .pointer (some ⟨b, 0, none⟩)] W fun e w' => e = .returned (.bool (if x = -1 then em else inW s x.toNat)) /\ w' = W := by
 by_cases h1 : x = -1
 ·subst h1
  rw [if_pos rfl]
  cases em
  ·go_enter Tryz.func93, Tryz.ntmps93
   go_wp2
   go_ret
   exact ⟨rfl, rfl⟩
  ·go_enter Tryz.func93, Tryz.ntmps93
   go_wp2
   go_ret
   exact ⟨rfl, rfl⟩
 ·rw [if_neg h1]
  obtain ⟨p, rfl⟩ : ∃ p : Nat, x = p := ⟨x.toNat, by omega⟩
  have hp : p < 448 := by omega
  have d1 : ((p : Int) == -1) = false := by rw [beq_eq_false_iff_ne]; omega
  have d2 : ((p : Int) != -1) = true := by rw [bne_iff_ne]; omega
  have CH := hid (bitsHas_any s b p hp W hb)
  rw [Int.toNat_natCast]
  clear h1 hx hb
  go_enter Tryz.func93, Tryz.ntmps93
  go_wp2_with fail
  refine CH.out.mono ?_
  rintro e w2 ⟨rfl, hw⟩
  replace hw := hw.symm
  subst hw
  go_wp2
  go_ret
  exact ⟨rfl, rfl⟩
theorem indexFuncM_any (g : Nat) (lb : Array Value) (f : Int -> Bool) (v : Value) (l : List Int) (w : World) (h : IsSl encZ w v l) (hn : l.length <= 1000000)
  (eg : ∀ args w, (callFunc g args).run Tryz.prog w = .ok (.enter g args) w)
  (hf : ∀ s ∈ l, ∀ W, Below w.heap.size w W -> Calls Tryz.prog g (#[.int .i64 s] ++ lb) W fun e w' => e = .returned (.bool (f s)) /\ w' = W) :
  Calls Tryz.prog 90 #[v, .func (.func g) #[] lb] w fun e w' => e = .returned (.int .i64 (indexG f l)) /\ w' = w := by
 obtain ⟨a, cap, rfl⟩ := h.form
 obtain ⟨n, hnn⟩ : ∃ n, n = l.length := ⟨_, rfl⟩
 rw [<- hnn] at h hn ⊢
 have H := hid h
 have HN := hid hnn
 have HF := hid fun s hs => hf s hs w (Below.refl _ _)
 obtain ⟨r, hr⟩ : ∃ r, r = indexG f l := ⟨_, rfl⟩
 rw [<- hr]
 have HR := hid hr
 clear h hnn hf hr
 go_enter Tryz.func90, Tryz.ntmps90
 go_wp2
 go_loop [8] (fun i => ∃ k : Nat, k <= n /\ i = .int .i64 k /\ (∀ s ∈ l.take k, f s = false)) (fun i => n - (intOf i).toNat)
 case atStart => exact ⟨0, by omega, rfl, fun s hs => by simp at hs⟩
 case round =>
  obtain ⟨k, hk, rfl, ha⟩ := hrel
  by_cases hlt : k < n
  ·obtain ⟨s, hs⟩ : ∃ s, l[k]? = some s := ⟨_, List.getElem?_eq_getElem (by have := HN.out; omega)⟩
   obtain ⟨b, off, rfl, hb, d0⟩ := H.out.elem hs
   have d0' : w.cell? ⟨b, off + k, none⟩ = some (.int .i64 s) := d0
   have HFs := hid (HF.out s (List.mem_of_getElem? hs))
   have HA := hid ha
   have HS := hid hs
   clear ha hs d0
   obtain ⟨b1, hb1⟩ : ∃ b1, b1 = f s := ⟨_, rfl⟩
   rw [<- hb1] at HFs
   have HB1 := hid hb1
   clear hb1
   cases b1 with
   | true =>
    have HRR := hid (HR.out.trans (indexG_some HS.out HB1.out.symm HA.out))
    go_wp2
    refine HFs.out.mono ?_
    rintro e w2 ⟨rfl, hw⟩
    replace hw := hw.symm
    subst hw
    go_wp2
    go_ret
    exact ⟨by rw [HRR.out]; rfl, rfl⟩
   | false =>
    go_wp2
    refine HFs.out.mono ?_
    rintro e w2 ⟨rfl, hw⟩
    replace hw := hw.symm
    subst hw
    go_wp2
    go_round
    case rel => exact ⟨k + 1, by omega, by go_num, take_step HS.out HB1.out.symm HA.out⟩
    case measure => simp [intOf]; omega
  ·obtain rfl : k = n := by omega
   have HRR := hid (HR.out.trans (indexG_none fun y hy => ha y (by rw [HN.out, List.take_length]; exact hy)))
   clear ha
   go_wp2
   go_ret
   exact ⟨by rw [HRR.out]; rfl, rfl⟩
theorem containsFuncM_any (g : Nat) (lb : Array Value) (f : Int -> Bool) (v : Value) (l : List Int) (w : World) (h : IsSl encZ w v l) (hn : l.length <= 1000000)
  (eg : ∀ args w, (callFunc g args).run Tryz.prog w = .ok (.enter g args) w)
  (hf : ∀ s ∈ l, ∀ W, Below w.heap.size w W -> Calls Tryz.prog g (#[.int .i64 s] ++ lb) W fun e w' => e = .returned (.bool (f s)) /\ w' = W) :
  Calls Tryz.prog 51 #[v, .func (.func g) #[] lb] w fun e w' => e = .returned (.bool (l.any f)) /\ w' = w := by
 have HI := hid (indexFuncM_any g lb f v l w h hn eg hf)
 rw [<- indexG_any]
 obtain ⟨a, cap, rfl⟩ := h.form
 clear h hf eg
 generalize indexG f l = z at HI ⊢
 go_enter Tryz.func51, Tryz.ntmps51
 go_wp2_with (go_at_call 90; refine HI.out.mono ?_; rintro e w2 ⟨rfl, hw⟩; replace hw := hw.symm; subst hw)
 go_ret
 exact ⟨rfl, rfl⟩
def posW (s : Nat -> BitVec 64) (n : Nat) : List Nat := (List.range n).filter (inW s)
theorem posW_succ (s : Nat -> BitVec 64) (k : Nat) : posW s (k + 1) = posW s k ++ if inW s k then [k] else [] := by
 unfold posW
 rw [List.range_succ, List.filter_append]
 by_cases h : inW s k = true <;> simp [h]
theorem posW_prefix (s : Nat -> BitVec 64) {k n : Nat} (h : k <= n) : posW s k <+: posW s n := by
 induction n with
 | zero => rw [show k = 0 from by omega]; exact List.prefix_rfl
 | succ n ih =>
  by_cases hk : k = n + 1
  ·subst hk; exact List.prefix_rfl
  ·exact (ih (by omega)).trans (by rw [posW_succ]; exact List.prefix_append _ _)
theorem posW_len (s : Nat -> BitVec 64) (n : Nat) : (posW s n).length <= n := by
 unfold posW; exact Nat.le_trans (List.length_filter_le _ _) (by simp)

def NF.on (a : NF) (c q : Nat) : Bool := (a.sets.getD q 0).getLsbD c
def hitP (a : NF) (c : Nat) (l : List Int) : List Nat := (l.map Int.toNat).filter (a.on c)
theorem hitP_snoc (a : NF) (c : Nat) (l : List Int) (q : Int) : hitP a c (l ++ [q]) = hitP a c l ++ if a.on c q.toNat then [q.toNat] else [] := by
 unfold hitP
 rw [List.map_append, List.filter_append]
 by_cases h : a.on c q.toNat = true <;> simp [h]
def hitsL (a : NF) (c : Nat) (l : List Int) : List Nat := l.flatMap fun p => hitP a c (a.frm p)
theorem hitsL_snoc (a : NF) (c : Nat) (l : List Int) (p : Int) : hitsL a c (l ++ [p]) = hitsL a c l ++ hitP a c (a.frm p) := by unfold hitsL; rw [List.flatMap_append]; simp
theorem Nt.frm_in {a : NF} (h : Nt a) {l : List Int} (hl : a.st l = true) {p : Int} (hp : p ∈ l) : risG 0 ((a.sets.length : Int) - 1) (a.frm p) = true := by
 have h1 := (risG_pair hl).2 p hp
 unfold NF.frm
 split
 ·exact h.fst
 ·exact h.row _ (by omega)
theorem step_hits {a : NF} (h : Nt a) {l : List Int} (hl : a.st l = true) (c : Nat) : (posW (setW (hitsL a c l)) 448).map Int.ofNat = a.step l c := by
 have hin : ∀ q, inW (setW (hitsL a c l)) q = (decide (q < a.sets.length) && a.hit l c q) := by
  intro q
  rw [setW_in, Bool.eq_iff_iff, List.contains_iff_mem, Bool.and_eq_true, decide_eq_true_eq]
  unfold hitsL NF.hit hitP
  rw [List.mem_flatMap, List.any_eq_true]
  constructor
  ·rintro ⟨p, hp, hq⟩
   rw [List.mem_filter, List.mem_map] at hq
   obtain ⟨⟨x, hx, rfl⟩, hon⟩ := hq
   have h2 := (risG_pair (h.frm_in hl hp)).2 x hx
   refine ⟨by omega, p, hp, ?_⟩
   rw [Bool.and_eq_true, List.contains_iff_mem, Int.toNat_of_nonneg h2.1]
   exact ⟨hx, hon⟩
  ·rintro ⟨hq, p, hp, h3⟩
   rw [Bool.and_eq_true, List.contains_iff_mem] at h3
   exact ⟨p, hp, List.mem_filter.2 ⟨List.mem_map.2 ⟨_, h3.1, by simp⟩, h3.2⟩⟩
 have hle := h.le
 unfold NF.step posW
 congr 1
 obtain ⟨m, hm⟩ : ∃ m, 448 = a.sets.length + m := ⟨448 - a.sets.length, by omega⟩
 rw [hm, List.range_add, List.filter_append]
 have e2 : (List.map (fun x => a.sets.length + x) (List.range m)).filter (inW (setW (hitsL a c l))) = [] := by
  rw [List.filter_eq_nil_iff]
  intro x hx
  obtain ⟨y, _, rfl⟩ := List.mem_map.1 hx
  rw [hin, decide_eq_false (show ¬ a.sets.length + y < a.sets.length by omega)]
  simp
 rw [e2, List.append_nil]
 refine List.filter_congr fun q hq => ?_
 rw [hin, decide_eq_true (List.mem_range.1 hq), Bool.true_and]
end Go.Proofs.YtbiboekhakbnpaaGreatDoor
