/-
  Arrays of 256 numbers by value, told by a function.
    A slice of one element of many cells, made at once: no unrolling.
    Effects of a drawn region: whole arrays read and stored.
    Walks of the reference of layer 1: Words.
    Walks of the reference of layer 16: Leasts, Is, Class, Set.
    Walks of the reference of layer 16: All, Word.
    Walks of the references: Both (Or), Join.
    Walks of the references: Parts, Of.
    Walks for the laws on alphabets: words (a set of the reference as that of the program), the reference's Finer.
-/
import Derived.Test.YthdnlndpmmiboaaGreatDoorR05
import Derived.Deep.WholeRow
import Derived.Test.YthdnlndpmmiboaaGreatDoorR01
import Derived.Laws.Tables
import Derived.Test.YthdnlndpmmiboaaGreatDoorR06
import Derived.RegionTactic
import Derived.BigRegion
namespace Go.Proofs.YthdnlndpmmiboaaGreatDoor
open Go Go.RowKit Go.Shelf Go.Maps

/-- The array of the numbers f 0, .. f 255. -/
def aI (f : Nat → Int) : Array Value := ((List.range 256).map fun c => Value.int .i64 (f c)).toArray
theorem aI_size (f : Nat → Int) : (aI f).size = 256 := by simp [aI]
theorem aI_get (f : Nat → Int) {c : Nat} (hc : c < 256) : (aI f)[c]? = some (.int .i64 (f c)) := by
  unfold aI
  rw [List.getElem?_toArray, List.getElem?_map, List.getElem?_range hc]; rfl
theorem aI_one (f : Nat → Int) : (aI f).all (·.oneCell') = true := by simp [aI, Value.oneCell']
theorem aI_congr {f g : Nat → Int} (h : ∀ c, c < 256 → f c = g c) : aI f = aI g := by
  unfold aI
  congr 1
  exact List.map_congr_left fun c hc => by rw [h c (List.mem_range.1 hc)]
theorem aI_set (f : Nat → Int) {c : Nat} (hc : c < 256) (x : Int) : (aI f).setIfInBounds c (.int .i64 x) = aI fun d => if d = c then x else f d := by
  apply Array.ext_getElem?
  intro i
  rw [Array.getElem?_setIfInBounds]
  by_cases hi : i < 256
  · rw [aI_get _ hi, aI_get _ hi]
    by_cases h : c = i
    · subst h; simp [aI_size, hi]
    · rw [if_neg h, if_neg (fun e => h e.symm)]
  · have h1 : ∀ f, (aI f)[i]? = none := fun f => Array.getElem?_eq_none (by rw [aI_size]; omega)
    rw [h1, h1]
    split
    · rw [if_neg (by rw [aI_size]; omega)]
    · rfl
theorem zeroA56 : Tryz.zeroCells91 = aI fun _ => 0 := by kernel_rfl
theorem zeroA87 : Tryz.zeroCells95 = aI fun _ => 0 := by kernel_rfl
theorem zeroA55 : Tryz.zeroCells90 = aI fun _ => 0 := by kernel_rfl
theorem sizeA56 (f : Nat → Int) : (Tryz.prog.info? 91).map (·.size) = some (aI f).size := by rw [aI_size]; kernel_rfl
theorem sizeA87 (f : Nat → Int) : (Tryz.prog.info? 95).map (·.size) = some (aI f).size := by rw [aI_size]; kernel_rfl
theorem sizeA55 (f : Nat → Int) : (Tryz.prog.info? 90).map (·.size) = some (aI f).size := by rw [aI_size]; kernel_rfl
theorem Blk.range {w : World} {b : Nat} {c : Array Value} {t : TypeId} (h : Blk w b c t) : w.rangeAt b 0 c.toList := fun j v hj => by
  rw [Nat.zero_add, h.cell j, ← Array.getElem?_toList]; exact hj
theorem Blk.aI {w : World} {b : Nat} {f : Nat → Int} {t : TypeId} (h : Blk w b (aI f) t) {c : Nat} (hc : c < 256) : w.cell? ⟨b, c, none⟩ = some (.int .i64 (f c)) := (h.cell c).trans (aI_get f hc)
theorem Ext.setRow {A B : World} (h : Ext A B) {g : Nat} (hg : A.heap.size ≤ g) (c : Array Value) : Ext A (B.setRow g c) :=
  ⟨h.os, h.tape, h.output, h.drawn, Nat.le_trans h.size (by simp), fun k hk => (setRow_other B g k c (by omega)).trans (h.keep k hk)⟩
theorem Below.setRow' {A B : World} {n : Nat} (h : Below n A B) {g : Nat} (hg : n ≤ g) (c : Array Value) : Below n A (B.setRow g c) :=
  ⟨h.os, h.tape, h.output, Nat.le_trans h.size (by simp), fun k hk => (setRow_other B g k c (by omega)).trans (h.block k hk)⟩
theorem Blk.setRow {w : World} {b : Nat} {c c' : Array Value} {t : TypeId} (h : Blk w b c t) : Blk (w.setRow b c') b c' t := setRow_heap w b c c' t _ h
theorem Blk.setRow_other {w : World} {b g : Nat} {c c' : Array Value} {t : TypeId} (h : Blk w b c t) (hg : b ≠ g) : Blk (w.setRow g c') b c t := (Go.setRow_other w g b c' hg).trans h

theorem wpList_wantedA {P : Program} {ops : Array Oper} {Q : Exit → Act → World → Prop} {a : Act} {w : World} {rest : List Oper} {o : Oper} (hw : Region.wanted o (yielded ops a.tmps) = true)
    (h : ∀ K : Act → World → Prop, (∀ a w, wpList P ops Q rest a w → K a w) → o.wp P a w K Q) : wpList P ops Q (o :: rest) a w := by
  unfold wpList
  rw [if_pos hw]
  exact .inl (h _ fun _ _ h => h)
/-- A whole array read, where the guard lets it. -/
theorem wpList_load_w {P : Program} {ops : Array Oper} {rest : List Oper} {op : Oper} {a : Act} {w : World} {Q : Exit → Act → World → Prop} (hw : Region.wanted op (yielded ops a.tmps) = true) (ty : TypeId) (x : Operand) (ho : op.op = .load ty x)
    (b : Nat) (hx : a.eval x = .pointer (some ⟨b, 0, none⟩)) (cs : Array Value) (d : TypeDesc) (hc : w.rangeAt b 0 cs.toList)
    (hu : P.underlying ty = some d) (hd : d.isRow = true) (hi : (P.info? ty).map (·.size) = some cs.size)
    (h : wpList P ops Q rest (a.put op.dst (.agg cs)) w) : wpList P ops Q (op :: rest) a w :=
  wpList_wantedA hw fun _ hK => wp_load_mid ty x ho b 0 hx cs.toList d hc hu hd (by rw [Array.length_toList]; exact hi) (hK _ _ h)

/-- A set of the reference: 1 for each byte that it has. -/
def refS (s : BS) (c : Nat) : Int := if s.getLsbD c then 1 else 0
theorem refS_val (s : BS) (c : Nat) : (((wd s (c / 64)).toNat / 2 ^ (c % 64) % 2 : Nat) : Int) = refS s c := by
  rw [wd_bit]
  unfold refS
  cases s.getLsbD c <;> rfl
end Go.Proofs.YthdnlndpmmiboaaGreatDoor

namespace Go.Proofs.YthdnlndpmmiboaaGreatDoor
open Go Go.RowKit

theorem fold_set (o : Nat) (l : List Value) : ∀ (k : Nat) (X : Array Value) (i : Nat), o + k + l.length ≤ X.size →
    ((l.zipIdx k).foldl (fun a (x : Value × Nat) => a.setIfInBounds (o + x.2) x.1) X)[i]? = if o + k ≤ i ∧ i < o + k + l.length then l[i - (o + k)]? else X[i]? := by
  induction l with
  | nil => intro k X i _; simp only [List.zipIdx_nil, List.foldl_nil, List.length_nil]; rw [if_neg (by omega)]
  | cons c l ih =>
    intro k X i hs
    rw [List.length_cons] at hs
    rw [List.zipIdx_cons, List.foldl_cons, ih (k + 1) _ i (by simp; omega), List.length_cons]
    by_cases h1 : o + (k + 1) ≤ i ∧ i < o + (k + 1) + l.length
    · rw [if_pos h1, if_pos (by omega), show i - (o + k) = (i - (o + (k + 1))) + 1 by omega, List.getElem?_cons_succ]
    · rw [if_neg h1, Array.getElem?_setIfInBounds]
      by_cases h2 : o + k = i
      · rw [if_pos h2, if_pos (by omega), if_pos (by omega), show i - (o + k) = 0 by omega]; rfl
      · rw [if_neg h2, if_neg (by omega)]
theorem run_buildSlice_one {P : Program} {t e : TypeId} {i : TypeInfo} {z : Value} {m : Nat} (ht : P.underlying t = some (.slice e)) (hi : P.info? e = some i) (hz : i.zero = some z) (hsz : i.size = m) (hm : 0 < m) (hm2 : m ≤ 16777216)
    (cs : Array Value) (hc : cs.size = m) (w : World) :
    (Instr.buildSlice t 1 #[(0, .agg cs)]).run P w = .ok (.slice (some ⟨w.heap.size, 0, none⟩) 1 1) (w.alloc (.cells cs e)) := by
  have hfill : ∀ X : Array Value, X.size = m → Instr.fill (fun i => some (i * m, m)) X [(0, .agg cs)] = some cs := fun X hX => by
    have h1 : (Value.agg cs).cells = cs := rfl
    unfold Instr.fill
    simp only [h1, hc, Nat.zero_mul, Nat.zero_add, hX, ne_eq, not_true, decide_false, Bool.false_or]
    rw [if_neg (by simp)]
    unfold Instr.fill
    congr 1
    rw [← Array.foldl_toList, Array.toList_zipIdx]
    apply Array.ext_getElem?
    intro j
    have := fold_set 0 cs.toList 0 X j (by rw [Array.length_toList]; omega)
    simp only [Nat.zero_add] at this
    rw [this, Array.length_toList, Nat.sub_zero]
    by_cases hj : j < cs.size
    · rw [if_pos ⟨Nat.zero_le _, hj⟩, Array.getElem?_toList]
    · rw [if_neg (fun h => hj h.2), Array.getElem?_eq_none (by omega), Array.getElem?_eq_none (by omega)]
  have hs : ∀ w, (sizeOf e).run P w = .ok m w := fun w => by simp [sizeOf, typeInfo, hi, hsz]
  have hz' : ∀ w, (zeroValue e).run P w = .ok z w := fun w => by simp [zeroValue, typeInfo, hi, hz]
  unfold Instr.buildSlice
  simp only [Sem.run_bind, run_underlying ht, Result.andThen_ok, hs, Nat.one_mul]
  rw [if_neg (by omega), if_neg (by omega)]
  simp only [Sem.run_bind, hz', Result.andThen_ok, Sem.run_pure]
  rw [hfill _ (by simp)]
  rfl
theorem wpList_build1 {P : Program} {ops : Array Oper} {rest : List Oper} {o : Oper} {a : Act} {w : World} {Q : Exit → Act → World → Prop} (hg : o.guard = none) (t e : TypeId) (x : Operand) (ho : o.op = .buildSlice t 1 #[(0, x)]) (d : Option Tmp) (hd : o.dst = d)
    {i : TypeInfo} {z : Value} {m : Nat} (ht : P.underlying t = some (.slice e)) (hi : P.info? e = some i) (hz : i.zero = some z) (hsz : i.size = m) (hm : 0 < m) (hm2 : m ≤ 16777216)
    (cs : Array Value) (hx : a.eval x = .agg cs) (hc : cs.size = m)
    (h : wpList P ops Q rest (a.put d (.slice (some ⟨w.heap.size, 0, none⟩) 1 1)) (w.alloc (.cells cs e))) : wpList P ops Q (o :: rest) a w := by
  subst hd
  refine wpList_plain hg fun K hK => ?_
  unfold Oper.wp execOp
  have e1 : (#[((0 : Nat), x)].map fun p => (p.1, a.eval p.2)) = #[(0, .agg cs)] := by rw [← hx]; simp
  simp only [ho, Sem.run_bind, e1, run_buildSlice_one ht hi hz hsz hm hm2 cs hc w, Result.andThen_ok]
  exact hK _ _ h
end Go.Proofs.YthdnlndpmmiboaaGreatDoor

namespace Go.Proofs.YthdnlndpmmiboaaGreatDoor
open Go Go.RowKit
section
variable {F : Fence} {n : Nat} {P : Program} {C : World → Prop}

end
end Go.Proofs.YthdnlndpmmiboaaGreatDoor

namespace Go.Proofs.YthdnlndpmmiboaaGreatDoor
open Go Go.RowKit Go.Shelf Go.Maps
attribute [local go_sem] encS

set_option maxRecDepth 100000 in
set_option maxHeartbeats 1000000 in
theorem refWords_any (s : BS) (w : World) :
    Calls Tryz.prog 44 #[.agg (encS s)] w fun e w' => e = .returned (.agg (aI (refS s))) ∧ Ext w w' := by
  have hz := zeroA56
  go_enter Tryz.func44, Tryz.ntmps44
  go_wp2
  clear hz
  go_loopw [4] (fun i wr => ∃ c : Nat, c ≤ 256 ∧ i = .int .i64 c ∧ Blk wr w.heap.size (encS s) 64 ∧ Blk wr (w.heap.size + 1) (aI fun _ => 0) 91 ∧ Blk wr (w.heap.size + 1 + 1) (aI fun d => if d < c then refS s d else 0) 91 ∧ Ext w wr) (fun i _ => 256 - (intOf i).toNat)
  case atStart =>
    refine ⟨0, by omega, rfl, ?_, ?_, ?_, (((Ext.refl w).alloc _).alloc _).alloc _⟩
    · exact ((Blk.new _ _ _).alloc _).alloc _
    · exact ((Blk.new _ _ _).at (by simp)).alloc _
    · exact (Blk.new _ (aI fun _ => 0) _).at (by simp)
  case round =>
    obtain ⟨c, hc, rfl, h1, h2, h3, hx⟩ := hrel
    obtain ⟨wo, rfl⟩ : ∃ wo : World, wo = wr := ⟨_, rfl⟩
    by_cases hlt : c < 256
    · have c4 : c / 64 < 4 := by omega
      have hcell := (h1.cell (c / 64)).trans (encS_get s c4)
      have H1 := Lib.hid h1
      have H2 := Lib.hid h2
      have H3 := Lib.hid h3
      have HX := Lib.hid hx
      clear h1 h2 h3 hx
      obtain ⟨n0, hn0⟩ : ∃ n0, n0 = (wd s (c / 64)).toNat := ⟨_, rfl⟩
      rw [← hn0] at hcell
      have hlt0 : n0 < 18446744073709551616 := by rw [hn0]; exact (wd s (c / 64)).isLt
      have HN0 := Lib.hid hn0
      obtain ⟨r, hr⟩ : ∃ r, r = c % 64 := ⟨_, rfl⟩
      have HR := Lib.hid hr
      have hri : (c : Int) % 64 = (r : Int) := by omega
      clear hn0 hr
      go_wp2
      clear hcell
      go_loop [6, 5] (fun i x => ∃ k : Nat, k ≤ r ∧ i = .int .i64 k ∧ ∃ n : Nat, x = .int .u64 n ∧ n = n0 / 2 ^ k) (fun i _ => r - (intOf i).toNat)
      case atStart => exact ⟨0, by omega, rfl, n0, rfl, by simp⟩
      case round =>
        obtain ⟨k, hk, rfl, n, rfl, hn⟩ := hrel
        have hnn : n < 18446744073709551616 := by rw [hn]; exact Nat.lt_of_le_of_lt (Nat.div_le_self _ _) hlt0
        have HN := Lib.hid hn
        clear hn
        by_cases hkr : k < r
        · go_wp2
          go_round
          case rel => exact ⟨k + 1, by omega, by go_num, n / 2, by simp, by rw [HN.out, Nat.pow_succ, Nat.div_div_eq_div_mul]⟩
          case measure => simp [intOf]; omega
        · obtain rfl : k = r := by omega
          have hst := H3.out.cell c
          rw [aI_get _ hlt] at hst
          have hfr := H3.out.frozen c
          obtain ⟨z, hz⟩ : ∃ z : Int, (n : Int) % 2 = z := ⟨_, rfl⟩
          have hz0 : 0 ≤ z := by omega
          have hz1 : z ≤ 1 := by omega
          have hzv : z = refS s c := by
            rw [← refS_val, ← HN0.out, ← HR.out, ← HN.out, ← hz]; omega
          have HZ := Lib.hid hzv
          clear hzv
          go_wp2
          go_roundw
          case rel =>
            refine ⟨c + 1, by omega, by go_num, H1.out.other (by simp; omega) _, H2.out.other (by simp) _, ?_, HX.out.setCell (by simp; omega) _⟩
            have h := H3.out.set c (.int .i64 z)
            rw [aI_set _ hlt] at h
            refine Eq.mp ?_ h
            rw [HZ.out]
            congr 1
            refine aI_congr fun d hd => ?_
            by_cases e : d = c
            · subst e; simp
            · rw [if_neg e]
              by_cases e2 : d < c
              · rw [if_pos e2, if_pos (by omega)]
              · rw [if_neg e2, if_neg (by omega)]
          case measure => simp [intOf]; omega
    · obtain rfl : c = 256 := by omega
      have h3' : Blk wo (w.heap.size + 1 + 1) (aI (refS s)) 91 := by
        rw [show aI (refS s) = aI (fun d => if d < 256 then refS s d else 0) from aI_congr fun d hd => by rw [if_pos hd]]; exact h3
      have H3 := Lib.hid h3'
      have H2 := Lib.hid h2
      have HX := Lib.hid hx
      clear h1 h2 h3 hx h3'
      go_wp2_with (first | (refine wpList_load_mid rfl 91 (.tmp 3) rfl (w.heap.size + 1 + 1) 0 rfl (aI (refS s)).toList _ H3.out.range Tryz.underlying91 rfl (by rw [Array.length_toList]; exact sizeA56 _) ?_) | (refine wpList_store_row rfl 91 (.tmp 2) (.tmp 28) rfl (w.heap.size + 1) (aI (refS s)) rfl rfl 91 (aI fun _ => 0) H2.out (sizeA56 _) (by rw [aI_size, aI_size]) (aI_one _) ?_))
      refine bodyPost_ret (results_cell_row rfl _ _ (w.heap.size + 1) 91 (aI (refS s)) (0, 0) _ rfl (H2.out.setRow) Tryz.underlying91 rfl (sizeA56 _)) rfl ⟨rfl, HX.out.setRow (by omega) _⟩
end Go.Proofs.YthdnlndpmmiboaaGreatDoor

namespace Go.Proofs.YthdnlndpmmiboaaGreatDoor
open Go Go.RowKit Go.Shelf Go.Maps

/-- The bytes that are their class's own least ones. -/
def leastsTo (f : Nat → Int) (k : Nat) : List Nat := (List.range k).filter fun c => f c == (c : Int)
theorem leastsTo_succ (f : Nat → Int) (k : Nat) : leastsTo f (k + 1) = if f k = k then leastsTo f k ++ [k] else leastsTo f k := by
  unfold leastsTo
  rw [List.range_succ, List.filter_append]
  by_cases h : f k = k
  · rw [if_pos h]; simp [h]
  · rw [if_neg h]; simp [h]
theorem leastsTo_len (f : Nat → Int) (k : Nat) : (leastsTo f k).length ≤ k := by
  unfold leastsTo; exact Nat.le_trans (List.length_filter_le _ _) (by simp)

set_option maxRecDepth 100000 in
set_option maxHeartbeats 1000000 in
theorem leasts_any (f : Nat → Int) (w : World) :
    Calls Tryz.prog 48 #[.agg (aI f)] w fun e w' => ∃ u, e = .returned u ∧ w'.ownsRow w.heap.size 3 1 u (leastsTo f 256).length ((leastsTo f 256).map encN) ∧ Below w.heap.size w w' := by
  obtain ⟨i0, hi, hz0, hz1, hz2⟩ := info_parts Tryz.infoI
  go_enter Tryz.func48, Tryz.ntmps48
  go_wp2
  go_loopw [4, 3] (fun i u wr => ∃ k : Nat, k ≤ 256 ∧ i = .int .i64 k ∧ wr.ownsRow (w.heap.size + 1) 3 1 u (leastsTo f k).length ((leastsTo f k).map encN) ∧ Blk wr w.heap.size (aI f) 95 ∧ Below w.heap.size w wr) (fun i _ _ => 256 - (intOf i).toNat)
  case atStart => exact ⟨0, by omega, rfl, World.ownsRow_nil _ _ _ _, Blk.new _ _ _, (Below.refl _ _).alloc (Nat.le_refl _) _⟩
  case round =>
    obtain ⟨k, hk, rfl, ho, hb, hx⟩ := hrel
    obtain ⟨wo, rfl⟩ : ∃ wo : World, wo = wr := ⟨_, rfl⟩
    by_cases hlt : k < 256
    · have c0 := hb.aI hlt
      have hsz := hb.lt
      have hlen := leastsTo_len f k
      have hT := leastsTo_succ f k
      obtain ⟨a5, c5, rfl⟩ := ownsRow_form ho
      have HO := Lib.hid ho
      have HB := Lib.hid hb
      have HX := Lib.hid hx
      by_cases hfk : f k = k
      · rw [if_pos hfk] at hT
        rw [hfk] at c0
        have HT := Lib.hid hT
        clear ho hb hx hT hfk
        generalize leastsTo f k = xs at HO hlen HT
        go_wp2_with (at_builtin; refine wpList_append_own_at _ rfl _ _ 33 rfl (w.heap.size + 1) 3 i0 (.int .i64 0) 1 8 Tryz.underlying33 hi hz0 hz1 hz2 rfl (by decide) _ _ _ rfl (HO.out.alloc _) ⟨_, 0, none⟩ 1 1 [encN k] rfl rfl (cell_one_new _ _ _) (by simp [Value.oneCell', encN]) (by unfold maxLen; omega) (by omega) (by simp; omega) ?_; intro v' w2 hown' hgrow hh hat; have HO2 := Lib.hid hown'; have HG := Lib.hid hgrow; clear hown' hgrow hh hat)
        go_roundw
        case rel =>
          refine ⟨k + 1, by omega, by go_num, ?_, ?_, ?_⟩
          · rw [HT.out, List.length_append, List.map_append]; exact HO2.out
          · exact (HB.out.alloc _).grown HG.out (fun e => by have := (HO.out.lt _ e.symm).1; omega)
          · exact (HX.out.alloc HX.out.size _).grown HG.out (by have := HX.out.size; simp; omega) (fun c e => by have := (HO.out.lt c e).1; omega)
        case measure => simp [intOf]; omega
      · rw [if_neg hfk] at hT
        have HT := Lib.hid hT
        have h1 : (f k == (k : Int)) = false := by simpa using hfk
        clear ho hb hx hT
        generalize leastsTo f k = xs at HO hlen HT
        generalize f k = z at *
        go_wp2
        go_roundw
        case rel =>
          refine ⟨k + 1, by omega, by go_num, ?_, HB.out, HX.out⟩
          rw [HT.out]; exact HO.out
        case measure => simp [intOf]; omega
    · obtain rfl : k = 256 := by omega
      have HO := Lib.hid (ownsRow_base ho (show w.heap.size ≤ w.heap.size + 1 by omega))
      have HX := Lib.hid hx
      clear ho hb hx
      go_wp2
      go_ret
      exact ⟨_, rfl, HO.out, HX.out⟩



/-- The set of a class, by its least byte. -/
def refSetOf (f : Nat → Int) (m : Nat) (c : Nat) : Int := if f c = m then 1 else 0

set_option maxRecDepth 100000 in
set_option maxHeartbeats 1000000 in
theorem refSet_any (f : Nat → Int) (n m : Nat) (hn : (leastsTo f 256)[n]? = some m) (w : World) :
    Calls Tryz.prog 70 #[.agg (aI f), .int .i64 n] w fun e w' => e = .returned (.agg (aI (refSetOf f m))) ∧ Below w.heap.size w w' := by
  have HL := Lib.hid fun W => leasts_any f W
  have hnl := (List.getElem?_eq_some_iff.1 hn).1
  have hll := leastsTo_len f 256
  have HN := Lib.hid hn
  obtain ⟨z, hz⟩ : ∃ z, z = (leastsTo f 256).length := ⟨_, rfl⟩
  have HZ := Lib.hid hz
  rw [← hz] at hnl hll
  have hz0 := zeroA56
  clear hn hz
  go_enter Tryz.func70, Tryz.ntmps70
  have HB : Hid (Blk (((w.alloc (.cells (aI f) 95)).alloc (.cells (aI fun _ => 0) 91)).alloc (.cells (aI fun _ => 0) 91)) w.heap.size (aI f) 95) := ((Blk.new _ _ _).alloc _).alloc _
  go_wp2_with (first | (refine wpList_load_w rfl 95 (.tmp 2) rfl w.heap.size rfl (aI f) _ HB.out.range Tryz.underlying95 rfl (sizeA87 f) ?_))
  clear hz0
  refine (HL.out _).mono ?_
  rintro e w1 ⟨u, rfl, h1, hx⟩
  rw [← HZ.out] at h1
  obtain ⟨a1, c1, rfl⟩ := ownsRow_form h1
  have hsl := ownsRow_sl (l := leastsTo f 256) h1 HZ.out
  have B1 := Lib.hid (HB.out.below hx (by simp; omega))
  have B2 : Hid (Blk w1 (w.heap.size + 1) (aI fun _ => 0) 91) := Blk.below (((Blk.new (w.alloc (.cells (aI f) 95)) (aI fun _ => 0) 91).at (by simp)).alloc (.cells (aI fun _ => 0) 91 (0, 0))) hx (by simp)
  have B3 : Hid (Blk w1 (w.heap.size + 1 + 1) (aI fun _ => 0) 91) := Blk.below ((Blk.new ((w.alloc (.cells (aI f) 95)).alloc (.cells (aI fun _ => 0) 91)) (aI fun _ => 0) 91).at (by simp)) hx (by simp)
  have X1 := Lib.hid ((((Below.refl w.heap.size w).alloc (Nat.le_refl _) (.cells (aI f) 95 (0, 0))).alloc (by simp) (.cells (aI fun _ => 0) 91 (0, 0))).alloc (by simp; omega) (.cells (aI fun _ => 0) 91 (0, 0)) |>.trans (hx.mono (by simp; omega)))
  obtain ⟨g, o, rfl, hg, hcx⟩ := hsl.elem HN.out
  have d1 : w1.cell? ⟨g, o + n, none⟩ = some (.int .i64 m) := hcx
  have hni : (n : Int) < z := by omega
  clear h1 hx hsl hcx
  go_wp2
  clear d1
  go_loopw [7] (fun i wr => ∃ c : Nat, c ≤ 256 ∧ i = .int .i64 c ∧ Blk wr w.heap.size (aI f) 95 ∧ Blk wr (w.heap.size + 1) (aI fun _ => 0) 91 ∧ Blk wr (w.heap.size + 1 + 1) (aI fun d => if d < c then refSetOf f m d else 0) 91 ∧ Below w.heap.size w wr) (fun i _ => 256 - (intOf i).toNat)
  case atStart => exact ⟨0, by omega, rfl, B1.out, B2.out, B3.out, X1.out⟩
  case round =>
    obtain ⟨c, hc, rfl, h1, h2, h3, hx⟩ := hrel
    obtain ⟨wo, rfl⟩ : ∃ wo : World, wo = wr := ⟨_, rfl⟩
    have H1 := Lib.hid h1
    have H2 := Lib.hid h2
    have H3 := Lib.hid h3
    have HX := Lib.hid hx
    by_cases hlt : c < 256
    · have hca := h1.aI hlt
      have hst := h3.cell c
      rw [aI_get _ hlt] at hst
      have hfr := h3.frozen c
      have key : ∀ (x : Int), x = refSetOf f m c → (fun d => if d = c then x else if d < c then refSetOf f m d else 0) = fun d => if d < c + 1 then refSetOf f m d else 0 := fun x hx => by
        funext d
        by_cases e : d = c
        · subst e; rw [if_pos rfl, if_pos (by omega)]; exact hx
        · rw [if_neg e]
          by_cases e2 : d < c
          · rw [if_pos e2, if_pos (by omega)]
          · rw [if_neg e2, if_neg (by omega)]
      have KEY := Lib.hid key
      clear h1 h2 h3 hx key
      by_cases hfm : f c = m
      · have hv : Hid ((1 : Int) = refSetOf f m c) := by unfold refSetOf; rw [if_pos hfm]; rfl
        rw [hfm] at hca
        clear hfm
        go_wp2
        go_roundw
        case rel =>
          refine ⟨c + 1, by omega, by go_num, H1.out.other (by simp; omega) _, H2.out.other (by simp) _, ?_, HX.out.setCell (by simp; omega) _⟩
          have h := H3.out.set c (.int .i64 1)
          rw [aI_set _ hlt, KEY.out 1 hv.out] at h
          exact h
        case measure => simp [intOf]; omega
      · have hv : Hid ((0 : Int) = refSetOf f m c) := by unfold refSetOf; rw [if_neg hfm]; rfl
        have hne : (f c == (m : Int)) = false := by simpa using hfm
        have hb : Hid (aI (fun d => if d < c then refSetOf f m d else 0) = aI (fun d => if d < c + 1 then refSetOf f m d else 0)) := by
          rw [← KEY.out 0 hv.out]
          refine aI_congr fun d _ => ?_
          by_cases e : d = c
          · subst e; simp
          · rw [if_neg e]
        clear hfm
        generalize f c = x at *
        go_wp2
        go_roundw
        case rel => exact ⟨c + 1, by omega, by go_num, H1.out, H2.out, by rw [← hb.out]; exact H3.out, HX.out⟩
        case measure => simp [intOf]; omega
    · obtain rfl : c = 256 := by omega
      have h3' : Hid (Blk wo (w.heap.size + 1 + 1) (aI (refSetOf f m)) 91) := by
        rw [show aI (refSetOf f m) = aI (fun d => if d < 256 then refSetOf f m d else 0) from aI_congr fun d hd => by rw [if_pos hd]]; exact h3
      clear h1 h2 h3 hx
      go_wp2_with (first | (refine wpList_load_w rfl 91 (.tmp 5) rfl (w.heap.size + 1 + 1) rfl (aI (refSetOf f m)) _ h3'.out.range Tryz.underlying91 rfl (sizeA56 _) ?_) | (refine wpList_store_row rfl 91 (.tmp 4) (.tmp 24) rfl (w.heap.size + 1) (aI (refSetOf f m)) rfl rfl 91 (aI fun _ => 0) H2.out (sizeA56 _) (by rw [aI_size, aI_size]) (aI_one _) ?_))
      refine bodyPost_ret (results_cell_row rfl _ _ (w.heap.size + 1) 91 (aI (refSetOf f m)) (0, 0) _ rfl (H2.out.setRow) Tryz.underlying91 rfl (sizeA56 _)) rfl ⟨rfl, Below.setRow' HX.out (by omega) _⟩
end Go.Proofs.YthdnlndpmmiboaaGreatDoor

namespace Go.Proofs.YthdnlndpmmiboaaGreatDoor
open Go Go.RowKit Go.Shelf Go.Maps


end Go.Proofs.YthdnlndpmmiboaaGreatDoor

namespace Go.Proofs.YthdnlndpmmiboaaGreatDoor
open Go Go.RowKit Go.Shelf Go.Maps

/-- The array so far. -/
theorem aI_step {R : Nat → Int} {c : Nat} {x : Int} (hx : x = R c) (hc : c < 256) : (aI fun d => if d < c then R d else 0).setIfInBounds c (.int .i64 x) = aI fun d => if d < c + 1 then R d else 0 := by
  rw [aI_set _ hc]
  refine aI_congr fun d _ => ?_
  by_cases e : d = c
  · subst e; rw [if_pos rfl, if_pos (by omega)]; exact hx
  · rw [if_neg e]
    by_cases e2 : d < c
    · rw [if_pos e2, if_pos (by omega)]
    · rw [if_neg e2, if_neg (by omega)]
theorem aI_done (R : Nat → Int) : aI R = aI fun d => if d < 256 then R d else 0 := aI_congr fun d hd => by rw [if_pos hd]
theorem aI_start (R : Nat → Int) : (aI fun _ => 0) = aI fun d => if d < 0 then R d else 0 := aI_congr fun d _ => by rw [if_neg (by omega)]

/-- The least byte that p takes, up to c (c itself, if none before it). -/
def leastR (p : Nat → Nat → Bool) (c : Nat) : Nat := ((List.range c).find? (p c)).getD c
theorem leastR_eq {p : Nat → Nat → Bool} {c d : Nat} (hd : d ≤ c) (hp : p c d = true) (hn : ∀ e, e < d → p c e = false) : leastR p c = d := by
  unfold leastR
  by_cases hc : d = c
  · subst hc
    rw [List.find?_eq_none.2]
    · rfl
    · intro e he; rw [hn e (List.mem_range.1 he)]; decide
  · have : (List.range c).find? (p c) = some d := by
      rw [List.find?_eq_some_iff_getElem]
      refine ⟨hp, d, by simp; omega, by simp, fun j hj => ?_⟩
      simp only [List.getElem_range]
      rw [hn j hj]; rfl
    rw [this]; rfl
end Go.Proofs.YthdnlndpmmiboaaGreatDoor

namespace Go.Proofs.YthdnlndpmmiboaaGreatDoor
open Go Go.RowKit Go.Shelf Go.Maps

/-- A slice of arrays. -/
def IsArrs (w : World) (v : Value) (fs : List (Nat → Int)) : Prop :=
  (v = .slice none 0 0 ∧ fs = []) ∨ ∃ b off cap, v = .slice (some ⟨b, off, none⟩) fs.length cap ∧ b < w.heap.size ∧ ∀ (i : Nat) (f : Nat → Int), fs[i]? = some f → ∀ c, c < 256 → w.cell? ⟨b, off + i * 256 + c, none⟩ = some (.int .i64 (f c))
theorem IsArrs.below {w w' : World} {v : Value} {fs : List (Nat → Int)} (h : IsArrs w v fs) (hk : Below w.heap.size w w') : IsArrs w' v fs := by
  rcases h with h | ⟨b, off, cap, hv, hb, h⟩
  · exact .inl h
  · exact .inr ⟨b, off, cap, hv, Nat.lt_of_lt_of_le hb hk.size, fun i f hi c hc => (hk.cell (p := ⟨b, off + i * 256 + c, none⟩) hb).trans (h i f hi c hc)⟩
theorem IsArrs.form {w : World} {v : Value} {fs : List (Nat → Int)} (h : IsArrs w v fs) : ∃ a cap, v = .slice a fs.length cap := by
  rcases h with ⟨h, rfl⟩ | ⟨b, off, cap, hv, _⟩
  · exact ⟨_, _, h⟩
  · exact ⟨_, _, hv⟩
theorem IsArrs.elem {w : World} {a : Option Addr} {n cap : Nat} {fs : List (Nat → Int)} (h : IsArrs w (.slice a n cap) fs) {i : Nat} {f : Nat → Int} (hi : fs[i]? = some f) : ∃ b off, a = some ⟨b, off, none⟩ ∧ b < w.heap.size ∧ ∀ c, c < 256 → w.cell? ⟨b, off + i * 256 + c, none⟩ = some (.int .i64 (f c)) := by
  rcases h with ⟨_, rfl⟩ | ⟨b, off, cap', hv, hb, h⟩
  · simp at hi
  · cases hv; exact ⟨b, off, rfl, hb, h i f hi⟩

def partP (fs : List (Nat → Int)) (c d : Nat) : Bool := fs.all fun f => decide (f c = f d)
theorem partP_self (fs : List (Nat → Int)) (c : Nat) : partP fs c c = true := by simp [partP]

set_option maxRecDepth 100000 in
set_option maxHeartbeats 2000000 in
theorem refParts_any (v : Value) (fs : List (Nat → Int)) (w : World) (h : IsArrs w v fs) (hn : fs.length ≤ 1000000) :
    Calls Tryz.prog 69 #[v] w fun e w' => e = .returned (.agg (aI fun c => (leastR (partP fs) c : Int))) ∧ Ext w w' := by
  have hz := zeroA55
  obtain ⟨R, hR⟩ : ∃ R : Nat → Int, R = fun c => (leastR (partP fs) c : Int) := ⟨_, rfl⟩
  rw [← hR]
  have HR := Lib.hid hR
  obtain ⟨sa, cap, rfl⟩ := h.form
  obtain ⟨n, hnn⟩ : ∃ n, n = fs.length := ⟨_, rfl⟩
  rw [← hnn] at h hn ⊢
  have HNN := Lib.hid hnn
  have HA := Lib.hid h
  clear hR h hnn
  go_enter Tryz.func69, Tryz.ntmps69
  go_wp2
  clear hz
  go_loopw [4] (fun i wr => ∃ c : Nat, c ≤ 256 ∧ i = .int .i64 c ∧ Blk wr w.heap.size (aI fun _ => 0) 90 ∧ Blk wr (w.heap.size + 1) (aI fun d => if d < c then R d else 0) 90 ∧ Ext w wr) (fun i _ => 256 - (intOf i).toNat)
  case atStart =>
    refine ⟨0, by omega, rfl, ?_, ?_, ((Ext.refl w).alloc _).alloc _⟩
    · exact (Blk.new _ _ _).alloc _
    · rw [← aI_start]; exact (Blk.new _ _ _).at (by simp)
  case round =>
    obtain ⟨c, hc, rfl, h3, h4, hx⟩ := hrel
    obtain ⟨wo, rfl⟩ : ∃ wo : World, wo = wr := ⟨_, rfl⟩
    by_cases hlt : c < 256
    · have H3 := Lib.hid h3
      have H4 := Lib.hid h4
      have HX := Lib.hid hx
      have hci : (c : Int) < 256 := by omega
      clear h3 h4 hx
      go_wp2
      go_loopw [5] (fun j wr => ∃ d : Nat, d ≤ c ∧ j = .int .i64 d ∧ (∀ e, e < d → partP fs c e = false) ∧ Ext wo wr) (fun j _ => c + 1 - (intOf j).toNat)
      case atStart => exact ⟨0, by omega, rfl, fun e he => by omega, Ext.refl _⟩
      case round =>
        obtain ⟨d, hd, rfl, hnm, hxi⟩ := hrel
        obtain ⟨wi, rfl⟩ : ∃ wi : World, wi = wr := ⟨_, rfl⟩
        have hd256 : d < 256 := by omega
        have hdi : (d : Int) < 256 := by omega
        have hdc : (d : Int) ≤ c := by omega
        have HN := Lib.hid hnm
        have HXI := Lib.hid hxi
        clear hnm hxi
        go_wp2
        go_loopw [7, 6] (fun i s wr => ∃ k : Nat, k ≤ n ∧ i = .int .i64 k ∧ s = .bool ((fs.take k).all fun f => decide (f c = f d)) ∧ Ext wi wr) (fun i _ _ => n - (intOf i).toNat)
        case atStart => exact ⟨0, by omega, rfl, rfl, Ext.refl _⟩
        case round =>
          obtain ⟨k, hk, rfl, rfl, hxj⟩ := hrel
          obtain ⟨wj, rfl⟩ : ∃ wj : World, wj = wr := ⟨_, rfl⟩
          have HXJ := Lib.hid hxj
          clear hxj
          by_cases hkn : k < n
          · obtain ⟨f, hf⟩ : ∃ f, fs[k]? = some f := ⟨_, List.getElem?_eq_getElem (by have := HNN.out; omega)⟩
            have htk : ((fs.take (k + 1)).all fun f => decide (f c = f d)) = (((fs.take k).all fun f => decide (f c = f d)) && decide (f c = f d)) := by rw [List.take_add_one, hf]; simp
            obtain ⟨g, off, rfl, hg, hcell⟩ := HA.out.elem hf
            have hgj : ∀ c, c < 256 → wj.cell? ⟨g, off + k * 256 + c, none⟩ = some (.int .i64 (f c)) := fun c hc =>
              ((((HX.out.trans HXI.out).trans HXJ.out).cell (p := ⟨g, off + k * 256 + c, none⟩) hg)).trans (hcell c hc)
            have c1 := hgj c hlt
            have c2 := hgj d hd256
            have hki : (k : Int) < n := by omega
            have HT := Lib.hid htk
            clear hcell hgj hf htk
            generalize ((fs.take k).all fun f => decide (f c = f d)) = b at *
            generalize f c = x1 at c1 HT
            generalize f d = x2 at c2 HT
            cases b with
            | true =>
              by_cases hxx : x1 = x2
              · subst hxx
                have ht0 : ((fs.take (k + 1)).all fun f => decide (f c = f d)) = true := by rw [HT.out]; simp
                have ht := Lib.hid ht0
                clear ht0
                go_wp2
                go_quiet (fail)
                go_wp2
                exact ⟨⟨k + 1, by omega, by go_num, congrArg Value.bool ht.out.symm, ext_drewN HXJ.out nq⟩, by simp [intOf]; omega⟩
              · have hx1 : (x1 == x2) = false := by simpa using hxx
                have ht0 : ((fs.take (k + 1)).all fun f => decide (f c = f d)) = false := by rw [HT.out]; simp [hxx]
                have ht := Lib.hid ht0
                clear ht0
                go_wp2
                go_quiet (fail)
                go_wp2
                exact ⟨⟨k + 1, by omega, by go_num, congrArg Value.bool ht.out.symm, ext_drewN HXJ.out nq⟩, by simp [intOf]; omega⟩
            | false =>
              have ht0 : ((fs.take (k + 1)).all fun f => decide (f c = f d)) = false := by rw [HT.out]; simp
              have ht := Lib.hid ht0
              clear ht0
              go_wp2
              go_quiet (fail)
              go_wp2
              exact ⟨⟨k + 1, by omega, by go_num, congrArg Value.bool ht.out.symm, ext_drewN HXJ.out nq⟩, by simp [intOf]; omega⟩
          · obtain rfl : k = n := by omega
            have htk : ((fs.take k).all fun f => decide (f c = f d)) = partP fs c d := by rw [HNN.out, List.take_length]; rfl
            rw [htk]
            obtain ⟨b, hb⟩ : ∃ b, b = partP fs c d := ⟨_, rfl⟩
            rw [← hb]
            have ht := Lib.hid hb.symm
            clear htk hb
            cases b with
            | true =>
              have hRv : Hid ((d : Int) = R c) := by
                rw [HR.out]
                show (d : Int) = (leastR (partP fs) c : Int)
                rw [leastR_eq hd ht.out HN.out]
              have HXW := Lib.hid (HXI.out.trans HXJ.out)
              have hst := (H4.out.ext HXW.out).cell c
              rw [aI_get _ hlt] at hst
              have hfr := (H4.out.ext HXW.out).frozen c
              go_wp2
              go_roundw
              case rel =>
                refine ⟨c + 1, by omega, by go_num, (H3.out.ext HXW.out).other (by dsimp only; omega) _, ?_, (HX.out.trans HXW.out).setCell (by simp) _⟩
                have h := (H4.out.ext HXW.out).set c (.int .i64 d)
                rw [aI_step hRv.out hlt] at h
                exact h
              case measure => simp [intOf]; omega
            | false =>
              have hdlt : d < c := by
                by_cases e : d = c
                · subst e; have := ht.out; rw [partP_self] at this; cases this
                · omega
              have HNe : Hid (∀ e, e < d + 1 → partP fs c e = false) := fun e he => by
                by_cases h : e = d
                · subst h; exact ht.out
                · exact HN.out e (by omega)
              go_wp2
              go_roundw
              case rel => exact ⟨d + 1, by omega, by go_num, HNe.out, HXI.out.trans HXJ.out⟩
              case measure => simp [intOf]; omega
    · obtain rfl : c = 256 := by omega
      have h4' : Hid (Blk wo (w.heap.size + 1) (aI R) 90) := by rw [aI_done R]; exact h4
      have H3 := Lib.hid h3
      have HX := Lib.hid hx
      clear h3 h4 hx
      go_wp2_with (first | (refine wpList_load_w rfl 90 (.tmp 3) rfl (w.heap.size + 1) rfl (aI R) _ h4'.out.range Tryz.underlying90 rfl (sizeA55 _) ?_) | (refine wpList_store_row rfl 90 (.tmp 2) (.tmp 43) rfl w.heap.size (aI R) rfl rfl 90 (aI fun _ => 0) H3.out (sizeA55 _) (by rw [aI_size, aI_size]) (aI_one _) ?_))
      refine bodyPost_ret (results_cell_row rfl _ _ w.heap.size 90 (aI R) (0, 0) _ rfl (H3.out.setRow) Tryz.underlying90 rfl (sizeA55 _)) rfl ⟨rfl, HX.out.setRow (Nat.le_refl _) _⟩

set_option maxRecDepth 100000 in
set_option maxHeartbeats 1000000 in
theorem refOf_any (v : Value) (fs : List (Nat → Int)) (w : World) (h : IsArrs w v fs) (hn : fs.length ≤ 1000000) :
    Calls Tryz.prog 47 #[v] w fun e w' => e = .returned (.agg (aI fun c => (leastR (partP fs) c : Int))) ∧ Ext w w' := by
  obtain ⟨R, hR⟩ : ∃ R : Nat → Int, R = fun c => (leastR (partP fs) c : Int) := ⟨_, rfl⟩
  have HP : Hid (∀ W, Below w.heap.size w W → Calls Tryz.prog 69 #[v] W fun e w' => e = .returned (.agg (aI R)) ∧ Ext W w') := fun W hx => by
    have := refParts_any v fs W (h.below hx) hn
    rw [hR]; exact this
  rw [← hR]
  clear hR h
  have hz := zeroA87
  go_enter Tryz.func47, Tryz.ntmps47
  go_wp2_with fail
  clear hz
  refine (HP.out _ ((Ext.refl _).alloc _).below).mono ?_
  rintro e w1 ⟨rfl, hx⟩
  have B1 := Lib.hid ((Blk.new w (aI fun _ => 0) 95).ext hx)
  have X1 := Lib.hid (((Ext.refl w).alloc (.cells (aI fun _ => 0) 95 (0, 0))).trans hx)
  clear hx
  go_wp2_with (refine wpList_store_row rfl 95 (.tmp 2) (.tmp 4) rfl w.heap.size (aI R) rfl rfl 95 (aI fun _ => 0) B1.out (sizeA87 _) (by rw [aI_size, aI_size]) (aI_one _) ?_)
  refine bodyPost_ret (results_cell_row rfl _ _ w.heap.size 95 (aI R) (0, 0) _ rfl (B1.out.setRow) Tryz.underlying95 rfl (sizeA87 _)) rfl ⟨rfl, X1.out.setRow (Nat.le_refl _) _⟩
end Go.Proofs.YthdnlndpmmiboaaGreatDoor

namespace Go.Proofs.YthdnlndpmmiboaaGreatDoor
open Go Go.RowKit Go.Shelf Go.Maps
attribute [local go_sem] encS

/-- The set of the program. -/
def backS (f : Nat → Int) : BS := bsOf fun c => f c == 1
theorem backS_refS (s : BS) : backS (refS s) = s := by
  refine (BS.eq_bsOf fun c _ => ?_).symm
  unfold refS
  cases s.getLsbD c <;> rfl

end Go.Proofs.YthdnlndpmmiboaaGreatDoor
