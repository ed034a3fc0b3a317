/-
  The walk of makes (AlphabetMakes): the program's alphabets against the reference's.
-/
import Derived.Test.YtokkgbcjjaiaeaaSame
import Derived.Test.YtokkgbcjjaiaeaaPlain5
import Derived.Test.YtokkgbcjjaiaeaaBase
import Derived.Test.YtokkgbcjjaiaeaaRefB
import Derived.Test.YtokkgbcjjaiaeaaClone
import Derived.Test.YtokkgbcjjaiaeaaJoins
namespace Go.Proofs.Ytokkgbcjjaiaeaa
open Go Go.RowKit Go.Shelf Go.Maps

theorem ownsRow_setCells {base : Nat} {e : TypeId} {size g n cap : Nat} (o0 : Nat) : ∀ (vs : List Value) (o : Nat) (w : World) (xs : List Value), o0 ≤ o → w.ownsRow base e size (.slice (some ⟨g, 0, none⟩) n cap) n xs →
    ∃ ys, (w.setCells g o vs).ownsRow base e size (.slice (some ⟨g, 0, none⟩) n cap) n ys ∧ Keeps (· ≠ g) w (w.setCells g o vs)
  | [], _, w, xs, _, h => ⟨xs, h, Keeps.refl _ _⟩
  | v :: r, o, w, xs, ho, h => by
    obtain ⟨ys, h1, h2⟩ := ownsRow_setCells o0 r (o + 1) _ _ (by omega) (h.stored o v).1
    exact ⟨ys, h1, ((Keeps.refl (· ≠ g) w).setCell (p := ⟨g, o, none⟩) (fun h => h rfl) v).tr h2⟩
theorem ownsRow_there {base : Nat} {e : TypeId} {size g n cap : Nat} {w : World} {xs : List Value} (h : w.ownsRow base e size (.slice (some ⟨g, 0, none⟩) n cap) n xs) {o k : Nat} (hk : o + k ≤ n * size) : w.there g o k := fun j hj => by
  refine ⟨?_, h.frozenAt _⟩
  rw [h.cellAt _ (by omega)]
  have hl := h.1
  rw [List.getElem?_eq_getElem (by omega)]; rfl
theorem calls_named {P : Program} {f : FuncId} {args : Array Value} {w : World} {R : Ending → World → Prop} (h : ∀ W, W = w → Calls P f args W R) : Calls P f args w R := h w rfl
/-- Two boxes that are laid, and then written. -/
theorem two_boxes (w : World) (f g : Nat → Int) :
    Blk ((w.alloc (.cells (aI fun _ => 0) 87)).alloc (.cells (aI fun _ => 0) 87)) w.heap.size (aI fun _ => 0) 87 ∧
    Blk (((w.alloc (.cells (aI fun _ => 0) 87)).alloc (.cells (aI fun _ => 0) 87)).setRow w.heap.size (aI f)) (w.heap.size + 1) (aI fun _ => 0) 87 ∧
    Blk ((((w.alloc (.cells (aI fun _ => 0) 87)).alloc (.cells (aI fun _ => 0) 87)).setRow w.heap.size (aI f)).setRow (w.heap.size + 1) (aI g)) w.heap.size (aI f) 87 ∧
    Blk ((((w.alloc (.cells (aI fun _ => 0) 87)).alloc (.cells (aI fun _ => 0) 87)).setRow w.heap.size (aI f)).setRow (w.heap.size + 1) (aI g)) (w.heap.size + 1) (aI g) 87 ∧
    Ext w ((((w.alloc (.cells (aI fun _ => 0) 87)).alloc (.cells (aI fun _ => 0) 87)).setRow w.heap.size (aI f)).setRow (w.heap.size + 1) (aI g)) := by
  generalize (aI fun _ => 0) = z
  have h0 : Blk ((w.alloc (.cells z 87)).alloc (.cells z 87)) w.heap.size z 87 := (Blk.new w z 87).alloc _
  have h1 : Blk ((w.alloc (.cells z 87)).alloc (.cells z 87)) (w.heap.size + 1) z 87 := (Blk.new (w.alloc (.cells z 87)) z 87).at (by simp)
  have h2 : Blk (((w.alloc (.cells z 87)).alloc (.cells z 87)).setRow w.heap.size (aI f)) (w.heap.size + 1) z 87 := h1.setRow_other (by omega)
  have h3 : Blk (((w.alloc (.cells z 87)).alloc (.cells z 87)).setRow w.heap.size (aI f)) w.heap.size (aI f) 87 := h0.setRow
  exact ⟨h0, h2, h3.setRow_other (by omega), h2.setRow, ((((Ext.refl w).alloc _).alloc _).setRow (Nat.le_refl _) _).setRow (by omega) _⟩
/-- An alphabet, as what an effect leaves. -/
def Eff.al (base : Nat) (p : List BS) : Eff (Move false (fun _ => False)) where
  P := fun v => ∃ b, v = .pointer (some ⟨b, 0, none⟩)
  H := fun v W => IsAl W base v p
  wit := .pointer (some ⟨0, 0, none⟩)
  pw := ⟨0, rfl⟩
  st := fun _ _ _ hm _ h => h.below hm.below

set_option maxRecDepth 100000 in
set_option maxHeartbeats 8000000 in
theorem makes_any (v0 v1 : Value) (k l : List BS) (n : Int) (c : Nat) (w : World) (h0 : IsSetsC w v0 k) (h1 : IsSets w v1 l) (hk : k.length ≤ 8) (hl : l.length ≤ 8) (hc : c < 256) :
    Calls Try.prog 30 #[v0, v1, .int .i64 n, .int .u8 c] w fun e w' => e = .returned (.bool true) ∧ Below w.heap.size w w' := by
  obtain ⟨p, hp⟩ : ∃ p, p = partsOf k := ⟨_, rfl⟩
  obtain ⟨q, hq⟩ : ∃ q, q = partsOf l := ⟨_, rfl⟩
  obtain ⟨f, hf⟩ : ∃ f, f = refA k := ⟨_, rfl⟩
  obtain ⟨g, hg⟩ : ∃ g, g = refA l := ⟨_, rfl⟩
  have PP : IsPart p (Alike k) := by rw [hp]; exact IsPart.of_parts k
  have PQ : IsPart q (Alike l) := by rw [hq]; exact IsPart.of_parts l
  have RF : IsRef f (Alike k) := by rw [hf]; exact isRef_refA k
  have RG : IsRef g (Alike l) := by rw [hg]; exact isRef_refA l
  have CA : Hid (∀ v W, IsSets W v k → Calls Try.prog 14 #[v] W fun e w' => ∃ b, e = .returned (.pointer (some ⟨b, 0, none⟩)) ∧ IsAl w' W.heap.size (.pointer (some ⟨b, 0, none⟩)) p ∧ Below W.heap.size W w') := fun v W h => by rw [hp]; exact alphOf_any k v W h (by omega)
  have CB : Hid (∀ v W, IsSets W v l → Calls Try.prog 14 #[v] W fun e w' => ∃ b, e = .returned (.pointer (some ⟨b, 0, none⟩)) ∧ IsAl w' W.heap.size (.pointer (some ⟨b, 0, none⟩)) q ∧ Below W.heap.size W w') := fun v W h => by rw [hq]; exact alphOf_any l v W h (by omega)
  have CF : Hid (∀ v W, IsArrs W v (k.map refS) → Calls Try.prog 58 #[v] W fun e w' => e = .returned (.agg (aI f)) ∧ Ext W w') := fun v W h => by rw [hf]; exact refOf_any v _ W h (by rw [List.length_map]; omega)
  have CG : Hid (∀ v W, IsArrs W v (l.map refS) → Calls Try.prog 58 #[v] W fun e w' => e = .returned (.agg (aI g)) ∧ Ext W w') := fun v W h => by rw [hg]; exact refOf_any v _ W h (by rw [List.length_map]; omega)
  have CS1 : Hid (∀ b base W, IsAl W base (.pointer (some ⟨b, 0, none⟩)) p → Calls Try.prog 71 #[.pointer (some ⟨b, 0, none⟩), .agg (aI f), .int .i64 n, .int .u8 c] W fun e w' => e = .returned (.bool true) ∧ Below W.heap.size W w') := fun b base W h => same_law_any b base p f n c hc (PP.agrees RF) W h
  have CS2 : Hid (∀ b base W, IsAl W base (.pointer (some ⟨b, 0, none⟩)) q → Calls Try.prog 71 #[.pointer (some ⟨b, 0, none⟩), .agg (aI g), .int .i64 n, .int .u8 c] W fun e w' => e = .returned (.bool true) ∧ Below W.heap.size W w') := fun b base W h => same_law_any b base q g n c hc (PQ.agrees RG) W h
  obtain ⟨j, hj⟩ : ∃ j : Nat → Int, j = fun c => (leastR (joinP f g) c : Int) := ⟨_, rfl⟩
  obtain ⟨pj, hpj⟩ : ∃ pj, pj = partsOf (p ++ q) := ⟨_, rfl⟩
  have AJ : Agrees pj j := by rw [hpj, hj]; exact agrees_join PP PQ RF RG
  have CS3 : Hid (∀ b base W, IsAl W base (.pointer (some ⟨b, 0, none⟩)) pj → Calls Try.prog 71 #[.pointer (some ⟨b, 0, none⟩), .agg (aI j), .int .i64 n, .int .u8 c] W fun e w' => e = .returned (.bool true) ∧ Below W.heap.size W w') := fun b base W h => same_law_any b base pj j n c hc AJ W h
  have CJ : Hid (∀ b b2 base base2 W, IsAl W base (.pointer (some ⟨b, 0, none⟩)) p → IsAl W base2 (.pointer (some ⟨b2, 0, none⟩)) q → Calls Try.prog 24 #[.pointer (some ⟨b, 0, none⟩), .pointer (some ⟨b2, 0, none⟩)] W fun e w' => ∃ b, e = .returned (.pointer (some ⟨b, 0, none⟩)) ∧ IsAl w' W.heap.size (.pointer (some ⟨b, 0, none⟩)) pj ∧ Below W.heap.size W w') := fun b b2 base base2 W h h' => by rw [hpj]; exact join_some h h' PP.some PQ.some
  have CRJ : Hid (∀ W, Calls Try.prog 73 #[.agg (aI f), .agg (aI g)] W fun e w' => e = .returned (.agg (aI j)) ∧ Ext W w') := fun W => by rw [hj]; exact refJoin_any f g W
  obtain ⟨id, hid⟩ : ∃ id : Nat → Int, id = fun c : Nat => (c : Int) := ⟨_, rfl⟩
  obtain ⟨pa, hpa⟩ : ∃ pa, pa = allTo 256 := ⟨_, rfl⟩
  have AA : Agrees pa id := by rw [hpa, hid]; exact agrees_all
  have CAl : Hid (∀ W, Calls Try.prog 25 #[] W fun e w' => ∃ b, e = .returned (.pointer (some ⟨b, 0, none⟩)) ∧ IsAl w' W.heap.size (.pointer (some ⟨b, 0, none⟩)) pa ∧ Below W.heap.size W w') := fun W => by rw [hpa]; exact alphAll_any W
  have CRA : Hid (∀ W, Calls Try.prog 74 #[] W fun e w' => e = .returned (.agg (aI id)) ∧ Ext W w') := fun W => by rw [hid]; exact refAll_any W
  have CS4 : Hid (∀ b base W, IsAl W base (.pointer (some ⟨b, 0, none⟩)) pa → Calls Try.prog 71 #[.pointer (some ⟨b, 0, none⟩), .agg (aI id), .int .i64 n, .int .u8 c] W fun e w' => e = .returned (.bool true) ∧ Below W.heap.size W w') := fun b base W h => same_law_any b base pa id n c hc AA W h
  obtain ⟨x, hx⟩ : ∃ x, x = finerOf p q := ⟨_, rfl⟩
  obtain ⟨y, hy⟩ : ∃ y, y = finerOf q p := ⟨_, rfl⟩
  obtain ⟨z, hz⟩ : ∃ z, z = sameOf p q := ⟨_, rfl⟩
  have CX : Hid (∀ b b2 base base2 W, IsAl W base (.pointer (some ⟨b, 0, none⟩)) p → IsAl W base2 (.pointer (some ⟨b2, 0, none⟩)) q → Calls Try.prog 26 #[.pointer (some ⟨b, 0, none⟩), .pointer (some ⟨b2, 0, none⟩)] W fun e w' => e = .returned (.bool x) ∧ Below W.heap.size W w') := fun b b2 base base2 W h h' => by rw [hx]; exact finer_any _ _ _ _ _ _ _ h h'
  have CY : Hid (∀ b b2 base base2 W, IsAl W base (.pointer (some ⟨b, 0, none⟩)) q → IsAl W base2 (.pointer (some ⟨b2, 0, none⟩)) p → Calls Try.prog 26 #[.pointer (some ⟨b, 0, none⟩), .pointer (some ⟨b2, 0, none⟩)] W fun e w' => e = .returned (.bool y) ∧ Below W.heap.size W w') := fun b b2 base base2 W h h' => by rw [hy]; exact finer_any _ _ _ _ _ _ _ h h'
  have CZ : Hid (∀ b b2 base base2 W, IsAl W base (.pointer (some ⟨b, 0, none⟩)) p → IsAl W base2 (.pointer (some ⟨b2, 0, none⟩)) q → Calls Try.prog 27 #[.pointer (some ⟨b, 0, none⟩), .pointer (some ⟨b2, 0, none⟩)] W fun e w' => e = .returned (.bool z) ∧ Ext W w') := fun b b2 base base2 W h h' => by rw [hz]; exact same_any _ _ _ _ _ _ _ h h'
  have CRX : Hid (∀ W, Calls Try.prog 75 #[.agg (aI f), .agg (aI g)] W fun e w' => e = .returned (.bool x) ∧ Ext W w') := fun W => by rw [hx, finer_ref PP PQ RF RG]; exact refFiner_any f g W
  have CRY : Hid (∀ W, Calls Try.prog 75 #[.agg (aI g), .agg (aI f)] W fun e w' => e = .returned (.bool y) ∧ Ext W w') := fun W => by rw [hy, finer_ref PQ PP RG RF]; exact refFiner_any g f W
  have CE : Hid (∀ W, (Op.equalIn 10000 87 (.agg (aI f)) (.agg (aI g))).run Try.prog W = .ok z W) := fun W => by rw [hz, same_ref PP PQ RF RG]; exact a87_equal f g W
  have H0 := Lib.hid h0
  have H1 := Lib.hid h1
  have HK := Lib.hid hk
  have HL := Lib.hid hl
  clear h0 h1 hk hl hc hp hq hf hg PP PQ RF RG hj hpj AJ hid hpa AA hx hy hz
  go_enter Try.func30, Try.ntmps30
  go_wp2_with fail
  refine (cloneSets_any _ k _ H0.out (by have := HK.out; omega)).mono ?_
  rintro e w1 ⟨uo, rfl, ho, hx⟩
  obtain ⟨ao, co, rfl⟩ := ownsRow_form ho
  have OS1 := Lib.hid (ownsRow_sets ho)
  obtain ⟨m, hm⟩ : ∃ m, m = k.length := ⟨_, rfl⟩
  rw [← hm] at ho OS1 ⊢
  have O1 := Lib.hid ho
  have X1 := Lib.hid hx
  have HMl := Lib.hid (show m ≤ 8 by have := HK.out; omega)
  clear ho hx hm
  go_wp2_with fail
  refine (CA.out _ _ OS1.out).mono ?_
  rintro e w2 ⟨ba, rfl, ha, hx⟩
  have A2 := Lib.hid ha
  have X2 := Lib.hid (X1.out.trans (hx.mono X1.out.size))
  have O2 := Lib.hid (ownsRow_keeps O1.out (Keeps.of_below hx (R := (· < w1.heap.size)) fun _ h => h) (fun k e => (O1.out.lt k e).2))
  have OS2 := Lib.hid (OS1.out.below hx)
  have hs1 : w1.heap.size ≤ w2.heap.size := hx.size
  have OB := Lib.hid (fun k e => (O1.out.lt k e).2)
  clear ha hx O1 OS1
  go_wp2_with fail
  refine (CB.out _ _ (H1.out.below X2.out)).mono ?_
  rintro e w3 ⟨bb, rfl, hb, hx⟩
  have A3 := Lib.hid (A2.out.below hx)
  have B3 := Lib.hid hb
  have X3 := Lib.hid (X2.out.trans (hx.mono X2.out.size))
  have O3 := Lib.hid (ownsRow_keeps O2.out (Keeps.of_below hx (R := (· < w2.heap.size)) fun _ h => h) (fun k e => (O2.out.lt k e).2))
  have OS3 := Lib.hid (OS2.out.below hx)
  have hs2 : w2.heap.size ≤ w3.heap.size := hx.size
  clear hb hx A2 O2 OS2
  go_wp2_with fail
  refine (theirs_any _ k _ (H0.out.1.below X3.out) (by have := HK.out; omega)).mono ?_
  rintro e w4 ⟨u4, rfl, hq, hx⟩
  have A4 := Lib.hid (A3.out.below hx)
  have B4 := Lib.hid (B3.out.below hx)
  have X4 := Lib.hid (X3.out.trans (hx.mono X3.out.size))
  have Y4 := Lib.hid hx
  have Q4 := Lib.hid hq
  clear hq hx A3 B3
  go_wp2_with fail
  refine (CF.out _ _ Q4.out).mono ?_
  rintro e w5 ⟨rfl, hx⟩
  have A5 := Lib.hid (A4.out.below hx.below)
  have B5 := Lib.hid (B4.out.below hx.below)
  have X5 := Lib.hid (X4.out.trans (hx.below.mono X4.out.size))
  have Y5 := Lib.hid (Y4.out.trans (hx.below.mono Y4.out.size))
  clear hx A4 B4 Q4
  go_wp2_with fail
  refine (theirs_any _ l _ (H1.out.below X5.out) (by have := HL.out; omega)).mono ?_
  rintro e w6 ⟨u6, rfl, hq, hx⟩
  have A6 := Lib.hid (A5.out.below hx)
  have B6 := Lib.hid (B5.out.below hx)
  have X6 := Lib.hid (X5.out.trans (hx.mono X5.out.size))
  have Y6 := Lib.hid (Y5.out.trans (hx.mono Y5.out.size))
  have Q6 := Lib.hid hq
  clear hq hx A5 B5
  go_wp2_with fail
  refine (CG.out _ _ Q6.out).mono ?_
  rintro e w7 ⟨rfl, hx⟩
  have A7 := Lib.hid (A6.out.below hx.below)
  have B7 := Lib.hid (B6.out.below hx.below)
  have X7 := Lib.hid (X6.out.trans (hx.below.mono X6.out.size))
  have Y7 := Lib.hid (Y6.out.trans (hx.below.mono Y6.out.size))
  have hs7 : w3.heap.size ≤ w7.heap.size := Y7.out.size
  clear hx A6 B6 Q6 X1 X2 X3 X4 X5 X6 Y4 Y5 Y6
  have hz := zeroA87
  go_wp2_with (first | (refine wpList_store_row rfl 87 (.tmp 12) (.tmp 23) rfl w7.heap.size (aI f) rfl rfl 87 (aI fun _ => 0) (two_boxes w7 f g).1 (sizeA87 _) (by rw [aI_size, aI_size]) (aI_one _) ?_) | (refine wpList_store_row rfl 87 (.tmp 13) (.tmp 26) rfl (w7.heap.size + 1) (aI g) rfl rfl 87 (aI fun _ => 0) (two_boxes w7 f g).2.1 (sizeA87 _) (by rw [aI_size, aI_size]) (aI_one _) ?_) | (refine wpList_load_w rfl 87 (.tmp 12) rfl w7.heap.size rfl (aI f) _ (Blk.range (two_boxes w7 f g).2.2.1) Try.underlying87 rfl (sizeA87 f) ?_))
  refine calls_named ?_
  intro W8 hW8
  have F8 : Hid (Blk W8 w7.heap.size (aI f) 87) := by rw [hW8]; exact (two_boxes w7 f g).2.2.1
  have G8 : Hid (Blk W8 (w7.heap.size + 1) (aI g) 87) := by rw [hW8]; exact (two_boxes w7 f g).2.2.2.1
  have E8 : Hid (Ext w7 W8) := by rw [hW8]; exact (two_boxes w7 f g).2.2.2.2
  have A8 := Lib.hid (A7.out.below E8.out.below)
  have B8 := Lib.hid (B7.out.below E8.out.below)
  have X8 := Lib.hid (X7.out.trans (E8.out.below.mono X7.out.size))
  have Y8 := Lib.hid (Y7.out.trans (E8.out.below.mono Y7.out.size))
  clear hW8 hz A7 B7 X7 Y7
  refine (CS1.out _ _ _ A8.out).mono ?_
  rintro e w9 ⟨rfl, hx⟩
  have A9 := Lib.hid (A8.out.below hx)
  have B9 := Lib.hid (B8.out.below hx)
  have F9 := Lib.hid (F8.out.below hx F8.out.lt)
  have G9 := Lib.hid (G8.out.below hx G8.out.lt)
  have X9 := Lib.hid (X8.out.trans (hx.mono X8.out.size))
  have Y9 := Lib.hid (Y8.out.trans (hx.mono Y8.out.size))
  clear hx A8 B8 F8 G8 X8 Y8 E8
  go_wp2_with (first | (refine wpList_load_w rfl 87 (.tmp 13) rfl (w7.heap.size + 1) rfl (aI g) _ G9.out.range Try.underlying87 rfl (sizeA87 g) ?_))
  refine (CS2.out _ _ _ B9.out).mono ?_
  rintro e w10 ⟨rfl, hx⟩
  have A10 := Lib.hid (A9.out.below hx)
  have B10 := Lib.hid (B9.out.below hx)
  have F10 := Lib.hid (F9.out.below hx F9.out.lt)
  have G10 := Lib.hid (G9.out.below hx G9.out.lt)
  have X10 := Lib.hid (X9.out.trans (hx.mono X9.out.size))
  have Y10 := Lib.hid (Y9.out.trans (hx.mono Y9.out.size))
  clear hx A9 B9 F9 G9 X9 Y9
  go_wp2_with fail
  refine (setsEqual_any _ _ k _ (OS3.out.below Y10.out) (H0.out.1.below X10.out) (by have := HK.out; omega)).mono ?_
  rintro e w11 ⟨rfl, hx⟩
  have A11 := Lib.hid (A10.out.below hx.below)
  have B11 := Lib.hid (B10.out.below hx.below)
  have F11 := Lib.hid (F10.out.ext hx)
  have G11 := Lib.hid (G10.out.ext hx)
  have X11 := Lib.hid (X10.out.trans (hx.below.mono X10.out.size))
  have Y11 := Lib.hid (Y10.out.trans (hx.below.mono Y10.out.size))
  have O11 := Lib.hid (ownsRow_keeps O3.out (Keeps.of_below Y11.out (R := (· < w3.heap.size)) fun _ h => h) (fun k e => (O3.out.lt k e).2))
  clear hx A10 B10 F10 G10 X10 Y10 OS3 O3
  go_wp2
  clear H1 CA CB CF CG
  go_loopw [49] (fun i wr => ∃ d : Nat, d ≤ m ∧ i = .int .i64 d ∧ (∃ ys, wr.ownsRow w.heap.size 25 4 (.slice ao m co) m ys) ∧ Keeps (fun x => x < w11.heap.size ∧ (Value.slice ao m co).ownBlock ≠ some x) w11 wr) (fun i _ => m - (intOf i).toNat)
  case atStart => exact ⟨0, by omega, rfl, ⟨_, O11.out⟩, Keeps.refl _ _⟩
  case round =>
    obtain ⟨d, hd, rfl, ⟨ys, ho⟩, hx⟩ := hrel
    have HO := Lib.hid ho
    have HX := Lib.hid hx
    clear ho hx
    by_cases hlt : d < m
    · rcases HO.out.2 with ⟨e, _⟩ | ⟨go, cap, cur, e, hbo, hgo, _⟩
      · exfalso; cases e; omega
      · cases e
        have ht : wr.there go (d * 4) 4 := ownsRow_there HO.out (by omega)
        have HT := Lib.hid ht
        have hdm : (d : Int) < m := by omega
        obtain ⟨c0, hc0⟩ := Option.isSome_iff_exists.1 (ht 0 (by decide)).1
        obtain ⟨c1, hc1⟩ := Option.isSome_iff_exists.1 (ht 1 (by decide)).1
        obtain ⟨c2, hc2⟩ := Option.isSome_iff_exists.1 (ht 2 (by decide)).1
        obtain ⟨c3, hc3⟩ := Option.isSome_iff_exists.1 (ht 3 (by decide)).1
        have d0 : wr.cell? ⟨go, d * 4, none⟩ = some c0 := hc0
        have d1 : wr.cell? ⟨go, d * 4 + 1, none⟩ = some c1 := hc1
        have d2 : wr.cell? ⟨go, d * 4 + 2, none⟩ = some c2 := hc2
        have d3 : wr.cell? ⟨go, d * 4 + 3, none⟩ = some c3 := hc3
        have z0 : wr.frozen? ⟨go, d * 4, none⟩ = false := (ht 0 (by decide)).2
        have z1 : wr.frozen? ⟨go, d * 4 + 1, none⟩ = false := (ht 1 (by decide)).2
        have z2 : wr.frozen? ⟨go, d * 4 + 2, none⟩ = false := (ht 2 (by decide)).2
        have z3 : wr.frozen? ⟨go, d * 4 + 3, none⟩ = false := (ht 3 (by decide)).2
        have hm8 : m ≤ 8 := HMl.out
        clear ht hgo hc0 hc1 hc2 hc3
        go_wp2
        obtain ⟨ys2, h1, h2⟩ := ownsRow_setCells (d * 4) [.int .u64 0, .int .u64 0, .int .u64 0, .int .u64 0] (d * 4) wr ys (Nat.le_refl _) HO.out
        exact ⟨⟨d + 1, by omega, by go_num, ⟨ys2, h1⟩, HX.out.trans h2 (fun x hx e => hx.2 (by rw [e]; rfl))⟩, by simp [intOf]; omega⟩
    · obtain rfl : d = m := by omega
      have hob : ∀ i, (Value.slice ao d co).ownBlock = some i → i < w1.heap.size := OB.out
      have hA : Keeps (fun x => w1.heap.size ≤ x ∧ x < w11.heap.size) w11 wr := HX.out.mono fun x hx => ⟨hx.2, fun e => by have := hob x e; omega⟩
      have A12 : Hid (IsAl wr w1.heap.size (.pointer (some ⟨ba, 0, none⟩)) p) := A11.out.keeps hA fun x h1 h2 => ⟨h1, h2⟩
      have B12 : Hid (IsAl wr w2.heap.size (.pointer (some ⟨bb, 0, none⟩)) q) := B11.out.keeps hA fun x h1 h2 => ⟨by omega, h2⟩
      have F12 : Hid (Blk wr w7.heap.size (aI f) 87) := F11.out.keeps hA ⟨by omega, F11.out.lt⟩
      have G12 : Hid (Blk wr (w7.heap.size + 1) (aI g) 87) := G11.out.keeps hA ⟨by omega, G11.out.lt⟩
      have X12 : Hid (Below w.heap.size w wr) := X11.out.trans (HX.out.mono fun x hx => ⟨Nat.lt_of_lt_of_le hx X11.out.size, fun e => by have := (HO.out.lt x e).1; omega⟩ : Keeps (· < w.heap.size) w11 wr).below
      clear hA hob HO HX A11 B11 F11 G11 X11 Y11 O11 OB H0
      go_wp2
      refine wp_region_reg false (fun _ => False) (by kernel_rfl) 51 [0, 0, 0, 0, 15, 31, 63, 63, 255, 63, 63, 2047, 63, 63, 16383, 32767, 65535, 131071, 262143, 131071, 131071, 2097151, 4194303, 8388607, 16777215, 16777215, 67108863, 16777215, 16777215, 536870911, 1073741823, 2147483647, 4294967295, 8589934591, 8589934591, 34359738367, 8589934591, 8589934591, 274877906943, 549755813887, 1099511627775, 2199023255551, 4398046511103, 4398046511103, 17592186044415, 4398046511103, 4398046511103, 109951162777599, 281474976710655, 562949953421311, 1125899906842623] (fun i => i == 4 || i == 8 || i == 11 || i == 14 || i == 17 || i == 18 || i == 21 || i == 26 || i == 29 || i == 35 || i == 38 || i == 44) (by kernel_rfl) (fun i => if i = 4 then Eff.det _ (.bool true) else if i = 8 then Eff.al wr.heap.size pj else if i = 11 then Eff.det _ (.agg (aI j)) else if i = 14 then Eff.det _ (.bool true) else if i = 17 then Eff.al wr.heap.size pa else if i = 18 then Eff.det _ (.agg (aI id)) else if i = 21 then Eff.det _ (.bool true) else if i = 26 then Eff.det _ (.bool x) else if i = 29 then Eff.det _ (.bool x) else if i = 35 then Eff.det _ (.bool y) else if i = 38 then Eff.det _ (.bool y) else if i = 44 then Eff.det _ (.bool z) else Eff.any _) ?_
      intro C hC hne
      have HC := Lib.hid hC
      clear hC
      repeat (refine regStep (fun K hK => ?_); first | (refine regN rfl ?_; try go_simp; refine hK _ _ ?_; clear hK K) | (refine regF rfl rfl ?_; unfold floatAt; go_simp; refine hK _ _ ?_; clear hK K))
      refine regStep (fun K hK => ?_)
      refine regL rfl rfl (.agg (aI f)) (fun W hW hN => have hM := (HC.out W).1 hW; floatAt_load 87 (.tmp 12) rfl (w7.heap.size) 0 rfl (aI f) _ (rangeAt_keeps F12.out.range hM.keeps ⟨F12.out.lt, fun h => h⟩) Try.underlying87 rfl (sizeA87 f)) ?_
      go_simp
      refine hK _ _ ?_
      clear hK K
      repeat (refine regStep (fun K hK => ?_); first | (refine regN rfl ?_; try go_simp; refine hK _ _ ?_; clear hK K) | (refine regF rfl rfl ?_; unfold floatAt; go_simp; refine hK _ _ ?_; clear hK K))
      refine regStep (fun K hK => ?_)
      refine regE rfl rfl (Eff.det _ (.bool true)) rfl (fun W hW hN => ?_) (fun v hv => ?_)
      · have hM := (HC.out W).1 hW
        clear hW
        go_simp
        refine effT_call ((CS1.out _ _ _ (A12.out.below hM.below)).mono ?_)
        rintro e w2 ⟨rfl, hx⟩
        exact ⟨_, rfl, Move.of_below hx, rfl, trivial⟩
      replace hv : v = _ := hv
      subst hv
      go_simp
      refine hK _ _ ?_
      clear hK K
      repeat (refine regStep (fun K hK => ?_); first | (refine regN rfl ?_; try go_simp; refine hK _ _ ?_; clear hK K) | (refine regF rfl rfl ?_; unfold floatAt; go_simp; refine hK _ _ ?_; clear hK K))
      refine regStep (fun K hK => ?_)
      refine regE rfl rfl (Eff.al wr.heap.size pj) rfl (fun W hW hN => ?_) (fun v hv => ?_)
      · have hM := (HC.out W).1 hW
        clear hW
        go_simp
        refine effT_call ((CJ.out _ _ _ _ _ (A12.out.below hM.below) (B12.out.below hM.below)).mono ?_)
        rintro e w2 ⟨b, rfl, ha, hx⟩
        exact ⟨_, rfl, Move.of_below hx, ⟨b, rfl⟩, ha.base hM.size⟩
      obtain ⟨bj, rfl⟩ := hv
      go_simp
      refine hK _ _ ?_
      clear hK K
      repeat (refine regStep (fun K hK => ?_); first | (refine regN rfl ?_; try go_simp; refine hK _ _ ?_; clear hK K) | (refine regF rfl rfl ?_; unfold floatAt; go_simp; refine hK _ _ ?_; clear hK K))
      refine regStep (fun K hK => ?_)
      refine regL rfl rfl (.agg (aI f)) (fun W hW hN => have hM := (HC.out W).1 hW; floatAt_load 87 (.tmp 12) rfl (w7.heap.size) 0 rfl (aI f) _ (rangeAt_keeps F12.out.range hM.keeps ⟨F12.out.lt, fun h => h⟩) Try.underlying87 rfl (sizeA87 f)) ?_
      go_simp
      refine hK _ _ ?_
      clear hK K
      refine regStep (fun K hK => ?_)
      refine regL rfl rfl (.agg (aI g)) (fun W hW hN => have hM := (HC.out W).1 hW; floatAt_load 87 (.tmp 13) rfl (w7.heap.size + 1) 0 rfl (aI g) _ (rangeAt_keeps G12.out.range hM.keeps ⟨G12.out.lt, fun h => h⟩) Try.underlying87 rfl (sizeA87 g)) ?_
      go_simp
      refine hK _ _ ?_
      clear hK K
      refine regStep (fun K hK => ?_)
      refine regE rfl rfl (Eff.det _ (.agg (aI j))) rfl (fun W hW hN => ?_) (fun v hv => ?_)
      · have hM := (HC.out W).1 hW
        clear hW
        go_simp
        refine effT_call ((CRJ.out _).mono ?_)
        rintro e w2 ⟨rfl, hx⟩
        exact ⟨_, rfl, Move.of_ext hx, rfl, trivial⟩
      replace hv : v = _ := hv
      subst hv
      go_simp
      refine hK _ _ ?_
      clear hK K
      repeat (refine regStep (fun K hK => ?_); first | (refine regN rfl ?_; try go_simp; refine hK _ _ ?_; clear hK K) | (refine regF rfl rfl ?_; unfold floatAt; go_simp; refine hK _ _ ?_; clear hK K))
      refine regStep (fun K hK => ?_)
      refine regE rfl rfl (Eff.det _ (.bool true)) rfl (fun W hW hN => ?_) (fun v hv => ?_)
      · have hM := (HC.out W).1 hW
        clear hW
        go_simp
        refine effT_call ((CS3.out _ _ _ (hN.at 1 rfl (by kernel_rfl))).mono ?_)
        rintro e w2 ⟨rfl, hx⟩
        exact ⟨_, rfl, Move.of_below hx, rfl, trivial⟩
      replace hv : v = _ := hv
      subst hv
      go_simp
      refine hK _ _ ?_
      clear hK K
      repeat (refine regStep (fun K hK => ?_); first | (refine regN rfl ?_; try go_simp; refine hK _ _ ?_; clear hK K) | (refine regF rfl rfl ?_; unfold floatAt; go_simp; refine hK _ _ ?_; clear hK K))
      refine regStep (fun K hK => ?_)
      refine regE rfl rfl (Eff.al wr.heap.size pa) rfl (fun W hW hN => ?_) (fun v hv => ?_)
      · have hM := (HC.out W).1 hW
        clear hW
        go_simp
        refine effT_call ((CAl.out _).mono ?_)
        rintro e w2 ⟨b, rfl, ha, hx⟩
        exact ⟨_, rfl, Move.of_below hx, ⟨b, rfl⟩, ha.base hM.size⟩
      obtain ⟨bl, rfl⟩ := hv
      go_simp
      refine hK _ _ ?_
      clear hK K
      refine regStep (fun K hK => ?_)
      refine regE rfl rfl (Eff.det _ (.agg (aI id))) rfl (fun W hW hN => ?_) (fun v hv => ?_)
      · have hM := (HC.out W).1 hW
        clear hW
        go_simp
        refine effT_call ((CRA.out _).mono ?_)
        rintro e w2 ⟨rfl, hx⟩
        exact ⟨_, rfl, Move.of_ext hx, rfl, trivial⟩
      replace hv : v = _ := hv
      subst hv
      go_simp
      refine hK _ _ ?_
      clear hK K
      repeat (refine regStep (fun K hK => ?_); first | (refine regN rfl ?_; try go_simp; refine hK _ _ ?_; clear hK K) | (refine regF rfl rfl ?_; unfold floatAt; go_simp; refine hK _ _ ?_; clear hK K))
      refine regStep (fun K hK => ?_)
      refine regE rfl rfl (Eff.det _ (.bool true)) rfl (fun W hW hN => ?_) (fun v hv => ?_)
      · have hM := (HC.out W).1 hW
        clear hW
        go_simp
        refine effT_call ((CS4.out _ _ _ (hN.at 1 rfl (by kernel_rfl))).mono ?_)
        rintro e w2 ⟨rfl, hx⟩
        exact ⟨_, rfl, Move.of_below hx, rfl, trivial⟩
      replace hv : v = _ := hv
      subst hv
      go_simp
      refine hK _ _ ?_
      clear hK K
      repeat (refine regStep (fun K hK => ?_); first | (refine regN rfl ?_; try go_simp; refine hK _ _ ?_; clear hK K) | (refine regF rfl rfl ?_; unfold floatAt; go_simp; refine hK _ _ ?_; clear hK K))
      refine regStep (fun K hK => ?_)
      refine regE rfl rfl (Eff.det _ (.bool x)) rfl (fun W hW hN => ?_) (fun v hv => ?_)
      · have hM := (HC.out W).1 hW
        clear hW
        go_simp
        refine effT_call ((CX.out _ _ _ _ _ (A12.out.below hM.below) (B12.out.below hM.below)).mono ?_)
        rintro e w2 ⟨rfl, hx⟩
        exact ⟨_, rfl, Move.of_below hx, rfl, trivial⟩
      replace hv : v = _ := hv
      subst hv
      go_simp
      refine hK _ _ ?_
      clear hK K
      refine regStep (fun K hK => ?_)
      refine regL rfl rfl (.agg (aI f)) (fun W hW hN => have hM := (HC.out W).1 hW; floatAt_load 87 (.tmp 12) rfl (w7.heap.size) 0 rfl (aI f) _ (rangeAt_keeps F12.out.range hM.keeps ⟨F12.out.lt, fun h => h⟩) Try.underlying87 rfl (sizeA87 f)) ?_
      go_simp
      refine hK _ _ ?_
      clear hK K
      refine regStep (fun K hK => ?_)
      refine regL rfl rfl (.agg (aI g)) (fun W hW hN => have hM := (HC.out W).1 hW; floatAt_load 87 (.tmp 13) rfl (w7.heap.size + 1) 0 rfl (aI g) _ (rangeAt_keeps G12.out.range hM.keeps ⟨G12.out.lt, fun h => h⟩) Try.underlying87 rfl (sizeA87 g)) ?_
      go_simp
      refine hK _ _ ?_
      clear hK K
      refine regStep (fun K hK => ?_)
      refine regE rfl rfl (Eff.det _ (.bool x)) rfl (fun W hW hN => ?_) (fun v hv => ?_)
      · have hM := (HC.out W).1 hW
        clear hW
        go_simp
        refine effT_call ((CRX.out _).mono ?_)
        rintro e w2 ⟨rfl, hx⟩
        exact ⟨_, rfl, Move.of_ext hx, rfl, trivial⟩
      replace hv : v = _ := hv
      subst hv
      go_simp
      refine hK _ _ ?_
      clear hK K
      repeat (refine regStep (fun K hK => ?_); first | (refine regN rfl ?_; try go_simp; refine hK _ _ ?_; clear hK K) | (refine regF rfl rfl ?_; unfold floatAt; go_simp; refine hK _ _ ?_; clear hK K))
      refine regStep (fun K hK => ?_)
      refine regE rfl rfl (Eff.det _ (.bool y)) rfl (fun W hW hN => ?_) (fun v hv => ?_)
      · have hM := (HC.out W).1 hW
        clear hW
        go_simp
        refine effT_call ((CY.out _ _ _ _ _ (B12.out.below hM.below) (A12.out.below hM.below)).mono ?_)
        rintro e w2 ⟨rfl, hx⟩
        exact ⟨_, rfl, Move.of_below hx, rfl, trivial⟩
      replace hv : v = _ := hv
      subst hv
      go_simp
      refine hK _ _ ?_
      clear hK K
      refine regStep (fun K hK => ?_)
      refine regL rfl rfl (.agg (aI g)) (fun W hW hN => have hM := (HC.out W).1 hW; floatAt_load 87 (.tmp 13) rfl (w7.heap.size + 1) 0 rfl (aI g) _ (rangeAt_keeps G12.out.range hM.keeps ⟨G12.out.lt, fun h => h⟩) Try.underlying87 rfl (sizeA87 g)) ?_
      go_simp
      refine hK _ _ ?_
      clear hK K
      refine regStep (fun K hK => ?_)
      refine regL rfl rfl (.agg (aI f)) (fun W hW hN => have hM := (HC.out W).1 hW; floatAt_load 87 (.tmp 12) rfl (w7.heap.size) 0 rfl (aI f) _ (rangeAt_keeps F12.out.range hM.keeps ⟨F12.out.lt, fun h => h⟩) Try.underlying87 rfl (sizeA87 f)) ?_
      go_simp
      refine hK _ _ ?_
      clear hK K
      refine regStep (fun K hK => ?_)
      refine regE rfl rfl (Eff.det _ (.bool y)) rfl (fun W hW hN => ?_) (fun v hv => ?_)
      · have hM := (HC.out W).1 hW
        clear hW
        go_simp
        refine effT_call ((CRY.out _).mono ?_)
        rintro e w2 ⟨rfl, hx⟩
        exact ⟨_, rfl, Move.of_ext hx, rfl, trivial⟩
      replace hv : v = _ := hv
      subst hv
      go_simp
      refine hK _ _ ?_
      clear hK K
      repeat (refine regStep (fun K hK => ?_); first | (refine regN rfl ?_; try go_simp; refine hK _ _ ?_; clear hK K) | (refine regF rfl rfl ?_; unfold floatAt; go_simp; refine hK _ _ ?_; clear hK K))
      refine regStep (fun K hK => ?_)
      refine regE rfl rfl (Eff.det _ (.bool z)) rfl (fun W hW hN => ?_) (fun v hv => ?_)
      · have hM := (HC.out W).1 hW
        clear hW
        go_simp
        refine effT_call ((CZ.out _ _ _ _ _ (A12.out.below hM.below) (B12.out.below hM.below)).mono ?_)
        rintro e w2 ⟨rfl, hx⟩
        exact ⟨_, rfl, Move.of_ext hx, rfl, trivial⟩
      replace hv : v = _ := hv
      subst hv
      go_simp
      refine hK _ _ ?_
      clear hK K
      refine regStep (fun K hK => ?_)
      refine regL rfl rfl (.agg (aI f)) (fun W hW hN => have hM := (HC.out W).1 hW; floatAt_load 87 (.tmp 12) rfl (w7.heap.size) 0 rfl (aI f) _ (rangeAt_keeps F12.out.range hM.keeps ⟨F12.out.lt, fun h => h⟩) Try.underlying87 rfl (sizeA87 f)) ?_
      go_simp
      refine hK _ _ ?_
      clear hK K
      refine regStep (fun K hK => ?_)
      refine regL rfl rfl (.agg (aI g)) (fun W hW hN => have hM := (HC.out W).1 hW; floatAt_load 87 (.tmp 13) rfl (w7.heap.size + 1) 0 rfl (aI g) _ (rangeAt_keeps G12.out.range hM.keeps ⟨G12.out.lt, fun h => h⟩) Try.underlying87 rfl (sizeA87 g)) ?_
      go_simp
      refine hK _ _ ?_
      clear hK K
      have he := CE.out
      repeat (refine regStep (fun K hK => ?_); first | (refine regN rfl ?_; try go_simp; refine hK _ _ ?_; clear hK K) | (refine regF rfl rfl ?_; unfold floatAt; go_simp; refine hK _ _ ?_; clear hK K))
      refine regNil (fun W hW hH => ?_)
      have hM := (HC.out W).1 hW
      clear hW hH
      go_wp2
      go_ret
      exact ⟨rfl, X12.out.trans (hM.below.mono X12.out.size)⟩
end Go.Proofs.Ytokkgbcjjaiaeaa
