/-
  The law's letter and others.
  Sets of positions anywhere in a block: has, put, or.
-/
import Derived.Test.YtbiboekhakbnpaaGreatDoorOB06
import Derived.Test.YtbiboekhakbnpaaGreatDoorOB05
import Derived.Test.YtbiboekhakbnpaaGreatDoorOB08
import Derived.Lib.SliceRun
import Derived.Lib.ConvBytes
import Derived.Test.YtbiboekhakbnpaaGreatDoorOB14
import Derived.Test.YtbiboekhakbnpaaGreatDoorOB20
set_option maxRecDepth 100000
set_option maxHeartbeats 16000000
open Go.Lib (hid)
namespace Go.Proofs.YtbiboekhakbnpaaGreatDoor
open Go Go.RowKit Go.Shelf Go.Maps
attribute [local go_sem] encS

theorem bytes_below8 (W : World) (e : TypeId) (s : ByteArray) : Below W.heap.size W (Lib.bytesWorld W e s) := by
 refine ⟨?_, ?_, ?_, by rw [Lib.bytesWorld_size]; omega, fun k hk => Lib.bytesWorld_at_old W e s k hk⟩ <;> (unfold Lib.bytesWorld World.freeze; split <;> rfl)
theorem one18_any (s : ByteArray) (l : List Nat) (hsl : s.data.toList.map (·.toNat) = l) (hn : l.length <= 1000000) (w : World) :
  Calls Tryz.prog 37 #[.string s] w fun e w' => e = .returned (.agg (encS (bsOf fun c => l.contains c))) /\ Below w.heap.size w w' := by
 obtain ⟨u, hu⟩ : ∃ u, u = bsOf fun c => l.contains c := ⟨_, rfl⟩
 rw [<- hu]
 have HU := hid hu
 have hcv : ∀ W : World, (convert 9 23 (.string s)).run Tryz.prog W = .ok (.slice (some ⟨W.heap.size, 0, none⟩) s.size (grownCap W s.size 0 5)) (Lib.bytesWorld W 5 s) := fun W => Lib.run_convert_string_bytes W 9 23 5 s Tryz.underlying9 Tryz.underlying23 Tryz.underlying5
 have hsz : s.size = l.length := by rw [<- hsl]; simp
 have HCE : Hid (∀ (W : World) (i x : Nat), l[i]? = some x -> (Lib.bytesWorld W 5 s).cell? ⟨W.heap.size, i, none⟩ = some (.int .u8 x)) := hid fun W i x h => by
  have hi : i < s.size := by rw [hsz]; exact (List.getElem?_eq_some_iff.1 h).1
  rw [Lib.bytesWorld_cell W 5 s i hi]
  rw [<- hsl, List.getElem?_map] at h
  cases hq : s.data.toList[i]? with
  | none => rw [hq] at h; cases h
  | some b => rw [hq] at h; cases h; rw [List.getD_eq_getElem?_getD, hq]; rfl
 have HL : Hid (∀ c ∈ l, c < 256) := hid fun c hc => by
  rw [<- hsl] at hc
  obtain ⟨b, _, rfl⟩ := List.mem_map.1 hc
  exact b.toNat_lt
 rw [hsz] at hcv
 have HBB : Hid (∀ W : World, Below W.heap.size W (Lib.bytesWorld W 5 s)) := hid fun W => bytes_below8 W _ s
 have HBS : Hid (∀ W : World, (Lib.bytesWorld W 5 s).heap.size = W.heap.size + 1) := hid fun W => Lib.bytesWorld_size W _ s
 clear hu hsl hsz
 go_enter Tryz.func37, Tryz.ntmps37
 go_wp2
 obtain ⟨W2, hW2⟩ : ∃ W, W = (w.alloc (.cells #[.int .u64 0, .int .u64 0, .int .u64 0, .int .u64 0] 70)).alloc (.cells #[.int .u64 0, .int .u64 0, .int .u64 0, .int .u64 0] 70) := ⟨_, rfl⟩
 have hs2 : W2.heap.size = w.heap.size + 2 := by rw [hW2]; simp
 have B2 : Hid (Blk W2 (w.heap.size + 1) (encS 0) 70) := hid (by rw [hW2, encS_zero]; exact (Blk.new _ _ _).at (by simp))
 have R2 : Hid (Blk W2 w.heap.size #[.int .u64 0, .int .u64 0, .int .u64 0, .int .u64 0] 70) := hid (by rw [hW2]; exact (Blk.new _ _ _).alloc _)
 have X2 : Hid (Below w.heap.size w W2) := hid (by rw [hW2]; exact (((Ext.refl w).alloc _).alloc _).below)
 have HW2 := hid hW2
 clear hW2
 go_loopw [9] (fun i wr => ∃ (k : Nat) (s' : BS), k <= l.length /\ i = .int .i64 k /\ (∀ c, c < 256 -> s'.getLsbD c = (l.take k).contains c) /\ Blk wr (w.heap.size + 1) (encS s') 70 /\ Blk wr w.heap.size #[.int .u64 0, .int .u64 0, .int .u64 0, .int .u64 0] 70 /\ (∀ i x : Nat, l[i]? = some x -> wr.cell? ⟨w.heap.size + 1 + 1, i, none⟩ = some (.int .u8 x)) /\ Below w.heap.size w wr) (fun i _ => l.length - (intOf i).toNat)
 case atStart =>
  rw [<- HW2.out]
  have hb := HBB.out W2
  refine ⟨0, 0, by omega, rfl, fun c hc => by simp, B2.out.below hb (by omega), R2.out.below hb (by omega), fun i x h => ?_, X2.out.trans (hb.mono X2.out.size)⟩
  have := HCE.out W2 i x h
  rw [hs2] at this
  exact this
 case round =>
  obtain ⟨k, s', hk, rfl, hs, hB, hR, hce, hx⟩ := hrel
  have HS := hid hs
  have HCR := hid hce
  clear hs hce
  by_cases hlt : k < l.length
  ·obtain ⟨c, hcl⟩ : ∃ c, l[k]? = some c := ⟨l[k], List.getElem?_eq_getElem hlt⟩
   have hc256 : c < 256 := HL.out c (List.mem_of_getElem? hcl)
   have hcc : wr.cell? ⟨w.heap.size + 1 + 1, k, none⟩ = some (.int .u8 c) := HCR.out k c hcl
   have hw : (encS s')[c / 64]? = some (.int .u64 (wd s' (c / 64)).toNat) := encS_get s' (by omega)
   have hc1 : wr.cell? ⟨w.heap.size + 1, c / 64, none⟩ = some (.int .u64 (wd s' (c / 64)).toNat) := (hB.cell _).trans hw
   have hf := hB.frozen (c / 64)
   have htk : l.take (k + 1) = l.take k ++ [c] := by rw [List.take_add_one, hcl]; rfl
   have HT := hid htk
   have HB := hid hB
   have HR := hid hR
   have HX := hid hx
   have HCl := hid hcl
   have hki : (k : Int) < l.length := by omega
   clear hB hR hx hw htk hcl HBB HBS hcv
   go_wp2
   go_roundw
   case rel =>
    refine ⟨k + 1, withB s' c, by omega, by go_num, fun d hd => ?_, ?_, ?_, fun i x h => ?_, ?_⟩
    ·rw [withB_bit s' hc256, HS.out d hd, HT.out, List.contains_eq_any_beq, List.contains_eq_any_beq, List.any_append]
     simp
    ·rw [<- encS_withB s' hc256]; exact HB.out.set _ _
    ·exact HR.out.other (by simp) _
    ·rw [cell_far _ _ _ _ (by simp)]; exact HCR.out i x h
    ·exact HX.out.trans (((Keeps.refl (· < w.heap.size) _).setCell (p := ⟨w.heap.size + 1, c / 64, none⟩) (fun h => by have h' : w.heap.size + 1 < w.heap.size := h; omega) _).below)
   case measure => simp [intOf]; omega
  ·have hus : s' = u := by rw [HU.out]; exact BS.eq_bsOf fun c hc => by rw [HS.out c hc, List.take_of_length_le (by omega)]
   subst hus
   obtain rfl : k = l.length := by omega
   obtain ⟨c0, c1, c2, c3⟩ := hB.set4
   have r0 : wr.cell? ⟨w.heap.size, 0, none⟩ = some (.int .u64 0) := hR.cell 0
   have r1 : wr.cell? ⟨w.heap.size, 1, none⟩ = some (.int .u64 0) := hR.cell 1
   have r2 : wr.cell? ⟨w.heap.size, 2, none⟩ = some (.int .u64 0) := hR.cell 2
   have r3 : wr.cell? ⟨w.heap.size, 3, none⟩ = some (.int .u64 0) := hR.cell 3
   have rf := hR.frozen
   have HX := hid hx
   clear hB hR hx HBB HBS hcv
   go_wp2
   refine bodyPost_ret (v := .agg (encS s')) ?_ rfl ⟨rfl, ?_⟩
   ·simp [results, Tryz.results37, go_sem, r0, r1, r2, r3]
   ·refine HX.out.trans (Keeps.below ((((Keeps.refl (· < w.heap.size) _).setCell ?_ _).setCell ?_ _).setCell ?_ _ |>.setCell ?_ _)) <;> (intro h; simp at h)
end Go.Proofs.YtbiboekhakbnpaaGreatDoor
namespace Go.Proofs.YtbiboekhakbnpaaGreatDoor
open Go Go.RowKit Go.Shelf Go.Maps

def WdAt (w : World) (g off : Nat) (s : Nat -> BitVec 64) : Prop := g < w.heap.size /\ ∀ i, i < 7 -> w.cell? ⟨g, off + i, none⟩ = some (.int .u64 (s i).toNat)
theorem WdAt.keeps {w w' : World} {g off : Nat} {s : Nat -> BitVec 64} (h : WdAt w g off s) {R : Nat -> Prop} (hk : Keeps R w w') (hR : R g) : WdAt w' g off s := ⟨Nat.lt_of_lt_of_le h.1 hk.size, fun i hi => (hk.cell (p := ⟨g, off + i, none⟩) hR).trans (h.2 i hi)⟩
theorem WdAt.of_blk {w : World} {b : Nat} {s : Nat -> BitVec 64} {t : TypeId} (h : Blk w b (encW s) t) : WdAt w b 0 s := ⟨h.lt, fun i hi => by rw [Nat.zero_add]; exact (h.cell i).trans (encW_get s hi)⟩
theorem keeps_setBoth {R : Nat -> Prop} {w W : World} (h : Keeps R w W) (p : Addr) (u : Value) : Keeps R (w.setCell p u) (W.setCell p u) := by
 refine ⟨h.os, h.tape, h.output, by simpa [World.setCell] using h.size, fun k hk => ?_⟩
 by_cases e : k = p.block
 ·have h1 := h.keep k hk
  subst e
  unfold World.setCell
  simp only [Array.getElem?_modify, h1]
 ·rw [Below.heap_setCell _ _ _ _ e, Below.heap_setCell _ _ _ _ e]
  exact h.keep k hk
theorem hasAt_any (s : Nat -> BitVec 64) (b off p : Nat) (hp : p < 448) (w : World) (h : WdAt w b off s) :
  Calls Tryz.prog 94 #[.pointer (some ⟨b, off, none⟩), .int .i64 p] w fun e w' => e = .returned (.bool (inW s p)) /\ w' = w := by
 obtain ⟨q, hq⟩ : ∃ q, q = p / 64 := ⟨_, rfl⟩
 obtain ⟨r, hr⟩ : ∃ r, r = p % 64 := ⟨_, rfl⟩
 have hq7 : q < 7 := by omega
 have hr64 : r < 64 := by omega
 have c1 : w.cell? ⟨b, off + q, none⟩ = some (.int .u64 (s q).toNat) := h.2 q hq7
 have e1 : (p : Int).tdiv 64 = (q : Int) := by rw [Int.tdiv_eq_ediv_of_nonneg (by omega)]; omega
 have e2 : (p : Int).tmod 64 = (r : Int) := by rw [Int.tmod_eq_emod_of_nonneg (by omega)]; omega
 have w1 : IntKind.i64.wrap (q : Int) = q := IntWalk.i64_in _ (by omega)
 have w2 : IntKind.i64.wrap (r : Int) = r := IntWalk.i64_in _ (by omega)
 have q7i : (q : Int) < 7 := by omega
 have r0i : ¬ ((r : Int) < 0) := by omega
 have hin : inW s p = (s q).getLsbD r := by unfold inW; rw [<- hq, <- hr]
 rw [hin]
 clear hin hq hr h
 go_enter Tryz.func94, Tryz.ntmps94
 go_wp2
 go_ret
 exact ⟨congrArg (fun b => Ending.returned (.bool b)) (word_test (s q) r), rfl⟩
theorem putAt_any (s : Nat -> BitVec 64) (b off p : Nat) (hp : p < 448) (w : World) (h : WdAt w b off s) (hz : w.frozen? ⟨b, off + p / 64, none⟩ = false) :
  Calls Tryz.prog 129 #[.pointer (some ⟨b, off, none⟩), .int .i64 p] w fun e w' => (∃ u, e = .returned u) /\ Keeps (· < w.heap.size) (w.setCell ⟨b, off + p / 64, none⟩ (.int .u64 (putW s p (p / 64)).toNat)) w' := by
 obtain ⟨q, hq⟩ : ∃ q, q = p / 64 := ⟨_, rfl⟩
 obtain ⟨r, hr⟩ : ∃ r, r = p % 64 := ⟨_, rfl⟩
 have hq7 : q < 7 := by omega
 have hr64 : r < 64 := by omega
 have hpw : putW s p (p / 64) = s q ||| BitVec.twoPow 64 r := by unfold putW; rw [if_pos rfl, <- hq, <- hr]; rfl
 rw [hpw]
 rw [<- hq] at hz ⊢
 have c1 : w.cell? ⟨b, off + q, none⟩ = some (.int .u64 (s q).toNat) := h.2 q hq7
 have e1 : (p : Int).tdiv 64 = (q : Int) := by rw [Int.tdiv_eq_ediv_of_nonneg (by omega)]; omega
 have e2 : (p : Int).tmod 64 = (r : Int) := by rw [Int.tmod_eq_emod_of_nonneg (by omega)]; omega
 have w1 : IntKind.i64.wrap (q : Int) = q := IntWalk.i64_in _ (by omega)
 have w2 : IntKind.i64.wrap (r : Int) = r := IntWalk.i64_in _ (by omega)
 have q7i : (q : Int) < 7 := by omega
 have r0i : ¬ ((r : Int) < 0) := by omega
 have q0i : ¬ ((q : Int) < 0) := by omega
 have hor := or_bit (s q) hr64
 have H := hid h
 have HZ := hid hz
 clear hq hr h hpw hz
 go_enter Tryz.func129, Tryz.ntmps129
 go_wp2
 refine wp_region_reg false (fun _ => False) (by kernel_rfl) 11 [0, 0, 2, 1, 15, 31, 0, 64, 192, 511, 1, 2047, 4095] (fun i => i == 12) (by kernel_rfl) (fun _ => Eff.any _) ?_
 intro C hC hne
 have HC := hid hC
 have f1 := regCell hC (p := ⟨b, off + q, none⟩) H.out.1 (fun h => h) c1
 clear hC c1
 repeat (refine regStep (fun K hK => ?_); first | (refine regN rfl ?_; try go_simp; refine hK _ _ ?_; clear hK K) | (refine regF rfl rfl ?_; unfold floatAt; go_simp; refine hK _ _ ?_; clear hK K))
 refine regNil (fun W hW hH => ?_)
 have hM := ((HC.out W).1 hW)
 have HX := hid hM.below
 have c2 : W.cell? ⟨b, off + q, none⟩ = some (.int .u64 (s q).toNat) := (hM.keeps.cell (p := ⟨b, off + q, none⟩) ⟨H.out.1, fun h => h⟩).trans (H.out.2 q hq7)
 have z2 : W.frozen? ⟨b, off + q, none⟩ = false := by
  have e : W.heap[b]? = w.heap[b]? := hM.keeps.keep b ⟨H.out.1, fun h => h⟩
  have e3 := HZ.out
  unfold World.frozen? at e3 ⊢
  rw [e]; exact e3
 clear hM hW hH HC hne f1
 go_wp2
 have hval : ((s q).toNat ||| 2 ^ r % 18446744073709551616) = (s q ||| BitVec.twoPow 64 r).toNat := by
  rw [BitVec.toNat_or, BitVec.toNat_twoPow]
 refine bodyPost_end (v := .tuple #[]) (by simp [results, Tryz.results129, go_sem]) rfl ⟨⟨_, rfl⟩, ?_⟩
 rw [hval]
 exact keeps_setBoth (Keeps.of_below HX.out fun _ h => h) _ _
def setWds (w : World) (g off : Nat) (z : Nat -> BitVec 64) : Nat -> World
 | 0 => w
 | i + 1 => (setWds w g off z i).setCell ⟨g, off + i, none⟩ (.int .u64 (z i).toNat)
theorem setWds_keeps (w : World) (g off : Nat) (z : Nat -> BitVec 64) : ∀ i, Keeps (· ≠ g) w (setWds w g off z i)
 | 0 => Keeps.refl _ _
 | i + 1 => (setWds_keeps w g off z i).setCell (fun h => h rfl) _
theorem setWds_cell (w : World) (g off : Nat) (z : Nat -> BitVec 64) {j : Nat} {v : Value} (h : w.cell? ⟨g, j, none⟩ = some v) : ∀ i, (off + i <= j) -> (setWds w g off z i).cell? ⟨g, j, none⟩ = some v
 | 0, _ => h
 | i + 1, hj => by
  have ih := setWds_cell w g off z h i (by omega)
  exact (World.cell?_setCell_other _ _ _ _ (by intro e; injection e with _ e2; omega)).trans ih
theorem setWds_frozen (w : World) (g off : Nat) (z : Nat -> BitVec 64) {j : Nat} (h : w.frozen? ⟨g, j, none⟩ = false) : ∀ i, (setWds w g off z i).frozen? ⟨g, j, none⟩ = false
 | 0 => h
 | i + 1 => by
  have ih := setWds_frozen w g off z h i
  show ((setWds w g off z i).setCell _ _).frozen? _ = false
  rw [World.frozen?_setCell]; exact ih
theorem orAt_any (s c : Nat -> BitVec 64) (b off : Nat) (w : World) (h : WdAt w b off s) (hz : ∀ i, i < 7 -> w.frozen? ⟨b, off + i, none⟩ = false) :
  Calls Tryz.prog 145 #[.pointer (some ⟨b, off, none⟩), .agg (encW c)] w fun e w' => (∃ u, e = .returned u) /\ Keeps (· < w.heap.size) (setWds w b off (fun i => s i ||| c i) 7) w' := by
 have H := hid h
 have HZ := hid hz
 have hbs := h.1
 obtain ⟨z, hz0⟩ : ∃ z : Nat -> BitVec 64, z = fun i => s i ||| c i := ⟨_, rfl⟩
 rw [<- hz0]
 have HZ0 := hid hz0
 clear h hz hz0
 obtain ⟨cv, hcv⟩ : ∃ v, v = encW c := ⟨_, rfl⟩
 rw [<- hcv]
 have HCV := hid hcv
 clear hcv
 unfold encW at HCV
 rw [HCV.out]
 go_enter Tryz.func145, Tryz.ntmps145
 go_wp2
 refine wp_named ?_
 intro V hV
 have B1 : Hid (Blk V w.heap.size (encW c) 129) := by rw [hV]; exact hid (Blk.new _ _ _)
 have X1 : Hid (Keeps (· < w.heap.size) w V) := by rw [hV]; exact hid ((Ext.refl _).alloc _).keeps
 have hVs : V.heap.size = w.heap.size + 1 := by rw [hV]; simp
 clear hV
 go_loopw [5] (fun iv wr => ∃ i : Nat, i <= 7 /\ iv = .int .i64 i /\ Blk wr w.heap.size (encW c) 129 /\ Keeps (· < w.heap.size) (setWds w b off z i) wr) (fun iv _ => 7 - (intOf iv).toNat)
 case atStart => exact ⟨0, by omega, rfl, B1.out, X1.out⟩
 case round =>
  obtain ⟨i, hi, rfl, hb, hx⟩ := hrel
  obtain ⟨wo, rfl⟩ : ∃ wo : World, wo = wr := ⟨_, rfl⟩
  have HB := hid hb
  have HX := hid hx
  clear hb hx
  by_cases hlt : i < 7
  ·have hki : (i : Int) < 7 := by omega
   have c1 : wo.cell? ⟨b, off + i, none⟩ = some (.int .u64 (s i).toNat) := (HX.out.cell (p := ⟨b, off + i, none⟩) hbs).trans (setWds_cell w b off z (H.out.2 i hlt) i (Nat.le_refl _))
   have c2 : wo.cell? ⟨w.heap.size, i, none⟩ = some (.int .u64 (c i).toNat) := (HB.out.cell i).trans (encW_get c hlt)
   have z1 : wo.frozen? ⟨b, off + i, none⟩ = false := by
    have e : wo.heap[b]? = (setWds w b off z i).heap[b]? := HX.out.keep b hbs
    have e3 := setWds_frozen w b off z (HZ.out i hlt) i
    unfold World.frozen? at e3 ⊢
    rw [e]; exact e3
   have hbo : b < wo.heap.size := Nat.lt_of_lt_of_le hbs (Nat.le_trans (setWds_keeps w b off z i).size HX.out.size)
   have Z1 := hid z1
   clear z1
   go_upto_region 4 with fail
   refine wp_region_reg false (fun _ => False) (by kernel_rfl) 10 [0, 0, 1, 7, 15, 0, 32, 96, 255, 1, 1023, 2047] (fun i => i == 11) (by kernel_rfl) (fun _ => Eff.any _) ?_
   intro C hC hne
   have HC := hid hC
   have f1 := regCell hC (p := ⟨b, off + i, none⟩) hbo (fun h => h) c1
   have f2 := regCell hC (p := ⟨w.heap.size, i, none⟩) HB.out.lt (fun h => h) c2
   clear hC c1 c2
   repeat (refine regStep (fun K hK => ?_); first | (refine regN rfl ?_; try go_simp; refine hK _ _ ?_; clear hK K) | (refine regF rfl rfl ?_; unfold floatAt; go_simp; refine hK _ _ ?_; clear hK K))
   refine regNil (fun W hW hH => ?_)
   have hM := ((HC.out W).1 hW)
   have KX : Hid (Keeps (· < wo.heap.size) wo W) := hid (hM.keeps.mono fun k hk => ⟨hk, fun h => h⟩)
   have z2 : W.frozen? ⟨b, off + i, none⟩ = false := by
    have e : W.heap[b]? = wo.heap[b]? := KX.out.keep b hbo
    have e3 := Z1.out
    unfold World.frozen? at e3 ⊢
    rw [e]; exact e3
   have c3 : W.cell? ⟨b, off + i, none⟩ = some (.int .u64 (s i).toNat) := (KX.out.cell (p := ⟨b, off + i, none⟩) hbo).trans ((HX.out.cell (p := ⟨b, off + i, none⟩) hbs).trans (setWds_cell w b off z (H.out.2 i hlt) i (Nat.le_refl _)))
   clear hM hW hH HC hne f1 f2
   go_wp2
   go_roundw
   case rel =>
    refine ⟨i + 1, by omega, by go_num, ?_, ?_⟩
    ·exact (HB.out.keeps KX.out HB.out.lt).other (by show b ≠ _; omega) _
    ·rw [bits_or]
     have e : (s i ||| c i) = z i := by rw [HZ0.out]
     rw [e]
     exact keeps_setBoth (HX.out.tr (KX.out.mono fun k hk => by have h1 := HX.out.size; have h2 := (setWds_keeps w b off z i).size; have h3 : k < w.heap.size := hk; omega)) _ _
   case measure => simp [intOf]; omega
  ·obtain rfl : i = 7 := by omega
   have hki : ¬ (((7 : Nat) : Int) < 7) := by omega
   go_wp2
   refine bodyPost_end (v := .tuple #[]) (by simp [results, Tryz.results145, go_sem]) rfl ⟨⟨_, rfl⟩, HX.out⟩
end Go.Proofs.YtbiboekhakbnpaaGreatDoor
