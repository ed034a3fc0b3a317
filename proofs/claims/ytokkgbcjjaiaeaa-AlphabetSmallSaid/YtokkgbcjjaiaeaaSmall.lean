/-
  The walk of AlphabetSmall.
-/
import Derived.Test.YtokkgbcjjaiaeaaTells
import Derived.Test.YtokkgbcjjaiaeaaRefD
import Derived.Test.YtokkgbcjjaiaeaaReg4
import Derived.Test.YtokkgbcjjaiaeaaNil
import Derived.Test.YtokkgbcjjaiaeaaAwake
namespace Go.Proofs.Ytokkgbcjjaiaeaa
open Go Go.RowKit Go.Shelf Go.Maps
attribute [local go_sem] encS

theorem sets_blk {w : World} {b : Nat} {L : List BS} {n : Nat} (h : Blk w b (flatS L).toArray 25) (hn : L.length = n) : IsSets w (.slice (some ⟨b, 0, none⟩) n n) L := by
  refine .inr ⟨b, 0, n, by rw [hn], h.lt, fun i s hi j hj => ?_⟩
  rw [show 0 + i * 4 + j = i * 4 + j by omega, h.cell]
  simp only [List.getElem?_toArray]
  exact flatS_get L hi hj
theorem sl_new {α : Type} {enc : α → Value} (w : World) (l : List α) (n : Nat) (t : TypeId) (fr : Nat × Nat) (cs : Array Value) (hc : cs = (l.map enc).toArray) (hn : l.length = n) : IsSl enc (w.alloc (.cells cs t fr)) (.slice (some ⟨w.heap.size, 0, none⟩) n n) l := by
  refine .inr ⟨w.heap.size, 0, n, by rw [hn], by simp, by omega, fun i x hi => ?_⟩
  rw [Nat.zero_add]
  unfold World.cell?
  rw [World.alloc_heap_new, hc]
  simp [hi]
theorem sets_new (w : World) (L : List BS) (n : Nat) (fr : Nat × Nat) (cs : Array Value) (hc : cs = (flatS L).toArray) (hn : L.length = n) : IsSets (w.alloc (.cells cs 25 fr)) (.slice (some ⟨w.heap.size, 0, none⟩) n n) L := by
  refine .inr ⟨w.heap.size, 0, n, by rw [hn], by simp, fun i s hi j hj => ?_⟩
  rw [show 0 + i * 4 + j = i * 4 + j by omega]
  unfold World.cell?
  rw [World.alloc_heap_new, hc]
  simp only [List.getElem?_toArray]
  exact flatS_get L hi hj
theorem shape_new (w : World) (cs : Array Value) (t : TypeId) (fr : Nat × Nat) : (w.alloc (.cells cs t fr)).shape? w.heap.size = some (t, cs.size) := by
  unfold World.shape?
  rw [World.alloc_heap_new]
theorem tmod_nat (a b : Nat) (hb : 0 < b) : ∃ x : Nat, x < b ∧ ((a : Int)).tmod (b : Int) = (x : Int) := ⟨a % b, Nat.mod_lt _ hb, by rw [Int.tmod_eq_emod_of_nonneg (by omega)]; rfl⟩
theorem setsC_of {W : World} {b n : Nat} {L : List BS} (h : IsSets W (.slice (some ⟨b, 0, none⟩) n n) L) : IsSetsC W (.slice (some ⟨b, 0, none⟩) n n) L := ⟨h, fun a n cap e => by cases e; exact Nat.le_refl _⟩
def Eff.exA (M : World → World → Prop) : Eff M := ⟨fun v => ∃ f, v = .agg (aI f), fun _ _ => True, .agg (aI fun _ => 0), ⟨_, rfl⟩, fun _ _ _ _ _ _ => trivial⟩
def Eff.exS (M : World → World → Prop) : Eff M := ⟨fun v => ∃ s, v = .agg (encS s), fun _ _ => True, .agg (encS 0), ⟨_, rfl⟩, fun _ _ _ _ _ _ => trivial⟩
def Eff.sets1 (w0 : World) : Eff (MoveF w0) := ⟨fun v => ∃ b, v = .slice (some ⟨b, 0, none⟩) 1 1, fun v W => ∃ s, IsSets W v [s], .slice (some ⟨0, 0, none⟩) 1 1, ⟨0, rfl⟩, fun _ _ _ hm _ ⟨s, h⟩ => ⟨s, h.moveF hm⟩⟩
theorem sets_sub {w : World} {b : Nat} {L : List BS} (h : Blk w b (flatS L).toArray 25) (i n cap : Nat) (hn : i + n ≤ L.length) : IsSets w (.slice (some ⟨b, i * 4, none⟩) n cap) ((L.drop i).take n) := by
  refine .inr ⟨b, i * 4, cap, by rw [List.length_take, List.length_drop, Nat.min_eq_left (by omega)], h.lt, fun k s hk j hj => ?_⟩
  rw [List.getElem?_take] at hk
  split at hk
  · rw [List.getElem?_drop] at hk
    rw [show i * 4 + k * 4 + j = (i + k) * 4 + j by omega, h.cell]
    simp only [List.getElem?_toArray]
    exact flatS_get L hk hj
  · cases hk
theorem some_cells (s1 s4 s5 s6 s7 s8 : BS) : ∃ L : List BS, L.length = 10 ∧ (#[.int .u64 0, .int .u64 0, .int .u64 0, .int .u64 0, .int .u64 (wd s1 0).toNat, .int .u64 (wd s1 1).toNat, .int .u64 (wd s1 2).toNat, .int .u64 (wd s1 3).toNat, .int .u64 1, .int .u64 0, .int .u64 0, .int .u64 0, .int .u64 0, .int .u64 0, .int .u64 0, .int .u64 9223372036854775808, .int .u64 (wd s4 0).toNat, .int .u64 (wd s4 1).toNat, .int .u64 (wd s4 2).toNat, .int .u64 (wd s4 3).toNat, .int .u64 (wd s5 0).toNat, .int .u64 (wd s5 1).toNat, .int .u64 (wd s5 2).toNat, .int .u64 (wd s5 3).toNat, .int .u64 (wd s6 0).toNat, .int .u64 (wd s6 1).toNat, .int .u64 (wd s6 2).toNat, .int .u64 (wd s6 3).toNat, .int .u64 (wd s7 0).toNat, .int .u64 (wd s7 1).toNat, .int .u64 (wd s7 2).toNat, .int .u64 (wd s7 3).toNat, .int .u64 (wd s8 0).toNat, .int .u64 (wd s8 1).toNat, .int .u64 (wd s8 2).toNat, .int .u64 (wd s8 3).toNat, .int .u64 9223372036854775808, .int .u64 1, .int .u64 0, .int .u64 0] : Array Value) = (flatS L).toArray :=
  ⟨[0, s1, ofWords 1 0 0 0, ofWords 0 0 0 (BitVec.ofNat 64 9223372036854775808), s4, s5, s6, s7, s8, ofWords (BitVec.ofNat 64 9223372036854775808) 1 0 0], rfl, by
    simp only [flatS, List.flatMap_cons, List.flatMap_nil, encS_zero, encS_ofWords]
    rfl⟩

set_option maxRecDepth 100000 in
set_option maxHeartbeats 16000000 in
theorem alphabetSmall_any (w : World) : Calls Try.prog 7 #[] w fun e w' => e = .returned (.bool true) ∧ Below w.heap.size w w' := by
  have CR : Hid (∀ (lo hi : Nat) W, lo < 256 → hi < 256 → Calls Try.prog 32 #[.int .u8 lo, .int .u8 hi] W fun e w' => ∃ f, e = .returned (.agg (aI f)) ∧ Ext W w') := fun lo hi W h1 h2 => refRange_any lo hi h1 h2 W
  have CO : Hid (∀ v l W, IsSl encB W v l → (∀ c ∈ l, c < 256) → l.length ≤ 1000000 → Calls Try.prog 33 #[v] W fun e w' => ∃ f, e = .returned (.agg (aI f)) ∧ Ext W w') := fun v l W h1 h2 h3 => refOf01_any v l W h1 h2 h3
  have CW : Hid (∀ f W, Calls Try.prog 31 #[.agg (aI f)] W fun e w' => e = .returned (.agg (encS (backS f))) ∧ Ext W w') := fun f W => lawWords_any f W
  have kc := fun (w : World) (C : Array Value) (n c : Nat) => Lib.run_convert_bytes_const (P := Try.prog) w 27 5 C n c Try.underlying27 Try.underlying5
  go_enter Try.func7, Try.ntmps7
  have X0 : Hid (Ext w w) := Ext.refl w
  go_wp2_with fail
  refine (CR.out 0 255 _ (by decide) (by decide)).mono ?_
  rintro e w1 ⟨fs1, rfl, hx⟩
  have X1 := Lib.hid (X0.out.trans hx)
  clear hx X0
  go_wp2_with fail
  refine (CW.out _ _).mono ?_
  rintro e w2 ⟨rfl, hx⟩
  have X2 := Lib.hid (X1.out.trans hx)
  generalize backS fs1 = s1
  clear hx X1
  go_wp2_with fail
  refine (CO.out _ [97, 98] _ (sl_new _ _ _ _ _ _ rfl rfl) (by decide) (by decide)).mono ?_
  rintro e w3 ⟨fs4, rfl, hx⟩
  have X3 := Lib.hid ((X2.out.alloc _).trans hx)
  clear hx X2
  go_wp2_with fail
  refine (CW.out _ _).mono ?_
  rintro e w4 ⟨rfl, hx⟩
  have X4 := Lib.hid (X3.out.trans hx)
  generalize backS fs4 = s4
  clear hx X3
  go_wp2_with fail
  refine (CO.out _ [98, 99] _ (sl_new _ _ _ _ _ _ rfl rfl) (by decide) (by decide)).mono ?_
  rintro e w5 ⟨fs5, rfl, hx⟩
  have X5 := Lib.hid ((X4.out.alloc _).trans hx)
  clear hx X4
  go_wp2_with fail
  refine (CW.out _ _).mono ?_
  rintro e w6 ⟨rfl, hx⟩
  have X6 := Lib.hid (X5.out.trans hx)
  generalize backS fs5 = s5
  clear hx X5
  go_wp2_with fail
  refine (CR.out 97 122 _ (by decide) (by decide)).mono ?_
  rintro e w7 ⟨fs6, rfl, hx⟩
  have X7 := Lib.hid (X6.out.trans hx)
  clear hx X6
  go_wp2_with fail
  refine (CW.out _ _).mono ?_
  rintro e w8 ⟨rfl, hx⟩
  have X8 := Lib.hid (X7.out.trans hx)
  generalize backS fs6 = s6
  clear hx X7
  go_wp2_with fail
  refine (CR.out 60 70 _ (by decide) (by decide)).mono ?_
  rintro e w9 ⟨fs7, rfl, hx⟩
  have X9 := Lib.hid (X8.out.trans hx)
  clear hx X8
  go_wp2_with fail
  refine (CW.out _ _).mono ?_
  rintro e w10 ⟨rfl, hx⟩
  have X10 := Lib.hid (X9.out.trans hx)
  generalize backS fs7 = s7
  clear hx X9
  go_wp2_with fail
  refine (CR.out 0 127 _ (by decide) (by decide)).mono ?_
  rintro e w11 ⟨fs8, rfl, hx⟩
  have X11 := Lib.hid (X10.out.trans hx)
  clear hx X10
  go_wp2_with fail
  refine (CW.out _ _).mono ?_
  rintro e w12 ⟨rfl, hx⟩
  have X12 := Lib.hid (X11.out.trans hx)
  generalize backS fs8 = s8
  clear hx X11
  clear kc CR CO CW
  go_wp2
  refine wp_named ?_
  intro W0 hW0
  obtain ⟨L, hL, hcs⟩ := some_cells s1 s4 s5 s6 s7 s8
  have hB : Blk W0 w12.heap.size (flatS L).toArray 25 := by rw [hW0, ← hcs]; exact Blk.new _ _ _
  have hx : Below w.heap.size w W0 := by rw [hW0]; exact (X12.out.alloc _).below
  obtain ⟨B, hBe⟩ : ∃ B, B = w12.heap.size := ⟨_, rfl⟩
  rw [← hBe] at hB ⊢
  have B0 : Hid (Bag [Sp.blk B (flatS L).toArray 25, Sp.since w] W0) := ((Bag.nil _).cons (s := Sp.since w) hx).cons (s := Sp.blk _ _ _) hB
  have HL := Lib.hid hL
  have LC : Hid (∀ (W : World) (i : Nat), Blk W B (flatS L).toArray 25 → i < 10 → ∃ s : BS, L[i]? = some s ∧ W.cell? ⟨B, i * 4, none⟩ = some (.int .u64 (wd s 0).toNat) ∧ W.cell? ⟨B, i * 4 + 1, none⟩ = some (.int .u64 (wd s 1).toNat) ∧ W.cell? ⟨B, i * 4 + 2, none⟩ = some (.int .u64 (wd s 2).toNat) ∧ W.cell? ⟨B, i * 4 + 3, none⟩ = some (.int .u64 (wd s 3).toNat)) := fun W i h hi => by
    obtain ⟨s, hs⟩ : ∃ s, L[i]? = some s := ⟨_, List.getElem?_eq_getElem (by omega)⟩
    have g := fun (j : Nat) (hj : j < 4) => (h.cell (i * 4 + j)).trans (by simp only [List.getElem?_toArray]; exact flatS_get L hs hj)
    exact ⟨s, hs, g 0 (by decide), g 1 (by decide), g 2 (by decide), g 3 (by decide)⟩
  clear hW0 hcs hB hx hBe hL X12
  go_loopw [45] (fun i wr => ∃ d : Nat, d ≤ 10 ∧ i = .int .i64 d ∧ Below W0.heap.size W0 wr) (fun i _ => 10 - (intOf i).toNat)
  case atStart => exact ⟨0, by omega, rfl, Below.refl _ _⟩
  case round =>
    obtain ⟨d, hd, rfl, hx⟩ := hrel
    obtain ⟨wo, rfl⟩ : ∃ wo : World, wo = wr := ⟨_, rfl⟩
    have B1 := Lib.hid ((B0.out.step hx).cons (s := Sp.since W0) hx)
    clear hx
    by_cases hd10 : d < 10
    · obtain ⟨s, _, c0, c1, c2, c3⟩ := LC.out wo d (B1.out.blk 1 rfl) hd10
      have hdi : (d : Int) < 10 := by omega
      go_wp2
      clear c0 c1 c2 c3
      refine wp_named ?_
      intro W1 hW1
      have hx : Below wo.heap.size wo W1 := by rw [hW1]; exact ((Ext.refl _).alloc _).below
      have hS : Blk W1 wo.heap.size (encS s) 25 := by rw [hW1]; exact Blk.new _ _ _
      have B2 := Lib.hid (((B1.out.step hx).cons (s := Sp.blk wo.heap.size (encS s) 25) hS))
      clear hW1 hx hS
      go_loopw [52] (fun i wr => ∃ k : Nat, k ≤ 10 ∧ i = .int .i64 k ∧ Below W1.heap.size W1 wr) (fun i _ => 10 - (intOf i).toNat)
      case atStart => exact ⟨0, by omega, rfl, Below.refl _ _⟩
      case round =>
        obtain ⟨k, hk, rfl, hx⟩ := hrel
        obtain ⟨wi, rfl⟩ : ∃ wi : World, wi = wr := ⟨_, rfl⟩
        have B3 := Lib.hid ((B2.out.step hx).cons (s := Sp.since W1) hx)
        clear hx
        -- 0 since W1, 1 blk s, 2 since W0, 3 blk L, 4 since w
        by_cases hk10 : k < 10
        · obtain ⟨t, _, c0, c1, c2, c3⟩ := LC.out wi k (B3.out.blk 3 rfl) hk10
          have hki : (k : Int) < 10 := by omega
          go_wp2
          clear c0 c1 c2 c3
          refine wp_named ?_
          intro W2 hW2
          have hx : Below wi.heap.size wi W2 := by rw [hW2]; exact ((Ext.refl _).alloc _).below
          have hT : Blk W2 wi.heap.size (encS t) 25 := by rw [hW2]; exact Blk.new _ _ _
          have B4 := Lib.hid (((B3.out.step hx).cons (s := Sp.blk wi.heap.size (encS t) 25) hT))
          clear hW2 hx hT
          obtain ⟨x, hx10, hxe⟩ := tmod_nat (d + k) 10 (by decide)
          obtain ⟨y, hy10, hye⟩ := tmod_nat (d + 2 * k) 10 (by decide)
          obtain ⟨z4, hz44, hz4⟩ := tmod_nat k 4 (by decide)
          obtain ⟨z3, hz3⟩ : ∃ z3 : Nat, (k : Int).tdiv 3 = (z3 : Int) := ⟨k / 3, rfl⟩
          have hz3b : z3 ≤ 10 := by have : (k : Int).tdiv 3 = (k : Int) / 3 := Int.tdiv_eq_ediv_of_nonneg (by omega); omega
          obtain ⟨c, hc⟩ : ∃ c : Nat, c = d * 28 := ⟨_, rfl⟩
          have hc256 : c < 256 := by omega
          obtain ⟨u, _, e0, e1, e2, e3⟩ := LC.out W2 x (B4.out.blk 4 rfl) hx10
          obtain ⟨u', _, g0, g1, g2, g3⟩ := LC.out W2 y (B4.out.blk 4 rfl) hy10
          have hx10i : (x : Int) < 10 := by omega
          have hy10i : (y : Int) < 10 := by omega
          rw [Int.natCast_add] at hxe hye
          rw [Int.natCast_mul] at hye
          have hxe' : ((d : Int) + (k : Int)).tmod 10 = (x : Int) := hxe
          have hye' : ((d : Int) + 2 * (k : Int)).tmod 10 = (y : Int) := hye
          have hz4' : (k : Int).tmod 4 = (z4 : Int) := hz4
          have w1 : IntKind.i64.wrap ((d : Int) + (k : Int)) = (d : Int) + (k : Int) := IntWalk.i64_in _ (by omega)
          have w2 : IntKind.i64.wrap ((k : Int) - 1) = (k : Int) - 1 := IntWalk.i64_in _ (by omega)
          have w3 : IntKind.i64.wrap ((d : Int) * 28) = (d : Int) * 28 := IntWalk.i64_in _ (by omega)
          have w4 : IntKind.u8.wrap ((d : Int) * 28) = (c : Int) := by rw [IntWalk.u8_in _ (by omega), hc]; rfl
          have w5 : IntKind.i64.wrap (2 * (k : Int)) = 2 * (k : Int) := IntWalk.i64_in _ (by omega)
          have w6 : IntKind.i64.wrap ((d : Int) + 2 * (k : Int)) = (d : Int) + 2 * (k : Int) := IntWalk.i64_in _ (by omega)
          have w7 : IntKind.i64.wrap (x : Int) = (x : Int) := IntWalk.i64_in _ (by omega)
          have w8 : IntKind.i64.wrap (y : Int) = (y : Int) := IntWalk.i64_in _ (by omega)
          have w9 : IntKind.i64.wrap (z4 : Int) = (z4 : Int) := IntWalk.i64_in _ (by omega)
          have wa : IntKind.i64.wrap (z3 : Int) = (z3 : Int) := IntWalk.i64_in _ (by omega)
          have wb : IntKind.i64.wrap ((z3 : Int) - 1) = (z3 : Int) - 1 := IntWalk.i64_in _ (by omega)
          clear hxe hye hz4 hc
          refine wp_region_regM (MoveF W2) (MoveF.drew _) (fun _ _ _ h k => h.trans k) (by kernel_rfl) 42 [0, 0, 3, 0, 0, 0, 0, 96, 224, 496, 1008, 2040, 0, 4096, 0, 16384, 49152, 131071, 262143, 524287, 1048575, 1048575, 4194303, 1048575, 1048575, 1048575, 34603007, 118489087, 252706815, 529530879, 1066401791, 1048575, 2148532223, 1048575, 8590983167, 25770852351, 66573041663, 1048575, 137440002047, 549755813887, 1099511627775, 2199023255551] (fun i => i == 2 || i == 11 || i == 17 || i == 22 || i == 36 || i == 37 || i == 38 || i == 39) (by kernel_rfl) (fun i => if i = 2 then Eff.setsF W2 2 [s, t] else if i = 11 then Eff.setsF W2 2 [t, u] else if i = 17 then Eff.det _ (.bool true) else if i = 22 then Eff.setsF W2 2 [s, t] else if i = 36 then Eff.slF W2 encZ 3 3 [(z4 : Int), 0, (z3 : Int) - 1] else if i = 37 then Eff.slF W2 encB 5 7 [97, 98, 99, 122, 64, 0, 255] else if i = 38 then Eff.slF W2 encB 5 7 [97, 98, 99, 122, 64, 0, 255] else if i = 39 then Eff.det _ (.bool true) else Eff.any _) ?_
          intro C hC hne
          have HC := Lib.hid hC
          obtain ⟨p0, p1, p2, p3⟩ := regSetF hC (B4.out.blk 2 rfl)
          obtain ⟨q0, q1, q2, q3⟩ := regSetF hC (B4.out.blk 0 rfl)
          have hBl := (B4.out.blk 4 rfl).lt
          have r0 := regCellF hC (p := ⟨B, x * 4, none⟩) hBl e0
          have r1 := regCellF hC (p := ⟨B, x * 4 + 1, none⟩) hBl e1
          have r2 := regCellF hC (p := ⟨B, x * 4 + 2, none⟩) hBl e2
          have r3 := regCellF hC (p := ⟨B, x * 4 + 3, none⟩) hBl e3
          have t0 := regCellF hC (p := ⟨B, y * 4, none⟩) hBl g0
          have t1 := regCellF hC (p := ⟨B, y * 4 + 1, none⟩) hBl g1
          have t2 := regCellF hC (p := ⟨B, y * 4 + 2, none⟩) hBl g2
          have t3 := regCellF hC (p := ⟨B, y * 4 + 3, none⟩) hBl g3
          clear hC e0 e1 e2 e3 g0 g1 g2 g3
          repeat (refine regStep (fun K hK => ?_); first | (refine regN rfl ?_; try go_simp; refine hK _ _ ?_; clear hK K) | (refine regF rfl rfl ?_; unfold floatAt; go_simp; refine hK _ _ ?_; clear hK K))
          refine regStep (fun K hK => ?_)
          refine regE rfl rfl (Eff.setsF W2 2 [s, t]) rfl (fun W hW hN => ?_) (fun v hv => ?_)
          · have hM := (HC.out W).1 hW
            clear hW hK K
            go_simp
            exact ⟨MoveF.ext ((Ext.refl _).alloc _) hM.size, ⟨_, rfl⟩, sets_new _ [s, t] 2 _ _ rfl rfl⟩
          obtain ⟨b2, rfl⟩ := hv
          go_simp
          refine hK _ _ ?_
          clear hK K
          repeat (refine regStep (fun K hK => ?_); first | (refine regN rfl ?_; try go_simp; refine hK _ _ ?_; clear hK K) | (refine regF rfl rfl ?_; unfold floatAt; go_simp; refine hK _ _ ?_; clear hK K))
          refine regStep (fun K hK => ?_)
          refine regE rfl rfl (Eff.setsF W2 2 [t, u]) rfl (fun W hW hN => ?_) (fun v hv => ?_)
          · have hM := (HC.out W).1 hW
            clear hW hK K
            go_simp
            exact ⟨MoveF.ext ((Ext.refl _).alloc _) hM.size, ⟨_, rfl⟩, sets_new _ [t, u] 2 _ _ rfl rfl⟩
          obtain ⟨b11, rfl⟩ := hv
          go_simp
          refine hK _ _ ?_
          clear hK K
          repeat (refine regStep (fun K hK => ?_); first | (refine regN rfl ?_; try go_simp; refine hK _ _ ?_; clear hK K) | (refine regF rfl rfl ?_; unfold floatAt; go_simp; refine hK _ _ ?_; clear hK K))
          refine regStep (fun K hK => ?_)
          refine regE rfl rfl (Eff.det _ (.bool true)) rfl (fun W hW hN => ?_) (fun v hv => ?_)
          · have hM := (HC.out W).1 hW
            clear hW
            go_simp
            refine effT_call ((makes_any _ _ [s, t] [t, u] _ c _ (setsC_of (hN.at 1 rfl (by kernel_rfl))) (hN.at 0 rfl (by kernel_rfl)) (by simp) (by simp) hc256).mono ?_)
            rintro e w2 ⟨rfl, hx⟩
            exact ⟨_, rfl, MoveF.below hx hM.size, rfl, trivial⟩
          replace hv : v = _ := hv
          subst hv
          go_simp
          refine hK _ _ ?_
          clear hK K
          repeat (refine regStep (fun K hK => ?_); first | (refine regN rfl ?_; try go_simp; refine hK _ _ ?_; clear hK K) | (refine regF rfl rfl ?_; unfold floatAt; go_simp; refine hK _ _ ?_; clear hK K))
          refine regStep (fun K hK => ?_)
          refine regE rfl rfl (Eff.setsF W2 2 [s, t]) rfl (fun W hW hN => ?_) (fun v hv => ?_)
          · have hM := (HC.out W).1 hW
            clear hW hK K
            go_simp
            exact ⟨MoveF.ext ((Ext.refl _).alloc _) hM.size, ⟨_, rfl⟩, sets_new _ [s, t] 2 _ _ rfl rfl⟩
          obtain ⟨b22, rfl⟩ := hv
          go_simp
          refine hK _ _ ?_
          clear hK K
          repeat (refine regStep (fun K hK => ?_); first | (refine regN rfl ?_; try go_simp; refine hK _ _ ?_; clear hK K) | (refine regF rfl rfl ?_; unfold floatAt; go_simp; refine hK _ _ ?_; clear hK K))
          refine regStep (fun K hK => ?_)
          refine regE rfl rfl (Eff.slF W2 encZ 3 3 [(z4 : Int), 0, (z3 : Int) - 1]) rfl (fun W hW hN => ?_) (fun v hv => ?_)
          · have hM := (HC.out W).1 hW
            clear hW hK K
            go_simp
            exact ⟨MoveF.ext ((Ext.refl _).alloc _) hM.size, ⟨_, hM.size, rfl⟩, sl_new _ _ 3 _ _ _ rfl rfl, fun b e => by cases e; exact ⟨by simp, shape_new _ _ _ _⟩⟩
          obtain ⟨b36, _, rfl⟩ := hv
          go_simp
          refine hK _ _ ?_
          clear hK K
          refine regStep (fun K hK => ?_)
          refine regE rfl rfl (Eff.slF W2 encB 5 7 [97, 98, 99, 122, 64, 0, 255]) rfl (fun W hW hN => ?_) (fun v hv => ?_)
          · have hM := (HC.out W).1 hW
            clear hW hK K
            go_simp
            exact ⟨MoveF.ext ((Ext.refl _).alloc _) hM.size, ⟨_, hM.size, rfl⟩, sl_new _ _ 7 _ _ _ rfl rfl, fun b e => by cases e; exact ⟨by simp, shape_new _ _ _ _⟩⟩
          obtain ⟨b37, hb37, rfl⟩ := hv
          go_simp
          refine hK _ _ ?_
          clear hK K
          refine regStep (fun K hK => ?_)
          refine regE rfl rfl (Eff.slF W2 encB 5 7 [97, 98, 99, 122, 64, 0, 255]) rfl (fun W hW hN => ?_) (fun v hv => ?_)
          · have hM := (HC.out W).1 hW
            have h37 : (Eff.slF W2 encB 5 7 [97, 98, 99, 122, 64, 0, 255]).H (.slice (some ⟨b37, 0, none⟩) 7 7) W := hN.at 0 rfl (by kernel_rfl)
            have hcv := run_convert_bytes_any (P := Try.prog) W 27 5 b37 0 7 7 7 Try.underlying27 Try.underlying5 (h37.2 b37 rfl).2
            have H37 := Lib.hid h37
            clear h37
            clear hW hK K
            go_simp
            exact ⟨MoveF.freeze 1 hb37, ⟨_, hb37, rfl⟩, (Eff.slF W2 encB 5 7 [97, 98, 99, 122, 64, 0, 255]).st _ W _ (MoveF.freeze 1 hb37) ⟨_, hb37, rfl⟩ H37.out⟩
          obtain ⟨b38, _, rfl⟩ := hv
          go_simp
          refine hK _ _ ?_
          clear hK K
          refine regStep (fun K hK => ?_)
          refine regE rfl rfl (Eff.det _ (.bool true)) rfl (fun W hW hN => ?_) (fun v hv => ?_)
          · have hM := (HC.out W).1 hW
            clear hW
            go_simp
            refine effT_call ((tells_any _ _ _ [s, t] u' [(z4 : Int), 0, (z3 : Int) - 1] [97, 98, 99, 122, 64, 0, 255] _ (hN.at 3 rfl (by kernel_rfl)) ((hN.at 2 rfl (by kernel_rfl) : (Eff.slF W2 encZ 3 3 [(z4 : Int), 0, (z3 : Int) - 1]).H _ _)).1 ((hN.at 0 rfl (by kernel_rfl) : (Eff.slF W2 encB 5 7 [97, 98, 99, 122, 64, 0, 255]).H _ _)).1 (by simp) (by simp) (by simp) (by decide)).mono ?_)
            rintro e w2 ⟨rfl, hx⟩
            exact ⟨_, rfl, MoveF.below hx hM.size, rfl, trivial⟩
          replace hv : v = _ := hv
          subst hv
          go_simp
          refine hK _ _ ?_
          clear hK K
          repeat (refine regStep (fun K hK => ?_); first | (refine regN rfl ?_; try go_simp; refine hK _ _ ?_; clear hK K) | (refine regF rfl rfl ?_; unfold floatAt; go_simp; refine hK _ _ ?_; clear hK K))
          refine regNil (fun W3 hW hH => ?_)
          have hM := ((HC.out W3).1 hW).old
          have B5 := Lib.hid (B4.out.step hM)
          clear hM hW hH HC hne p0 p1 p2 p3 q0 q1 q2 q3 r0 r1 r2 r3 t0 t1 t2 t3 hxe' hye' hz4' hz3 w1 w2 w3 w4 w5 w6 w7 w8 w9 wa wb
          go_wp2
          exact ⟨⟨k + 1, by omega, by go_num, B5.out.since 1 rfl⟩, by simp [intOf]; omega⟩
        · have hk10' : 10 ≤ k := by omega
          go_wp2
          go_loopw [100] (fun i wr => ∃ c : Nat, c ≤ 256 ∧ i = .int .i64 c ∧ Below wi.heap.size wi wr) (fun i _ => 256 - (intOf i).toNat)
          case atStart => exact ⟨0, by omega, rfl, Below.refl _ _⟩
          case round =>
            obtain ⟨ch, hch, rfl, hx⟩ := hrel
            obtain ⟨wj, rfl⟩ : ∃ wj : World, wj = wr := ⟨_, rfl⟩
            have B4 := Lib.hid ((B3.out.step hx).cons (s := Sp.since wi) hx)
            clear hx
            -- 0 since wi, 1 since W1, 2 blk s, 3 since W0, 4 blk L, 5 since w
            by_cases hlt : ch < 256
            · have hci : (ch : Int) < 256 := by omega
              go_wp2
              obtain ⟨x, hx5, hxe⟩ := tmod_nat ch 5 (by decide)
              obtain ⟨y, hy5, hye⟩ := tmod_nat d 5 (by decide)
              obtain ⟨z, hz3, hze⟩ := tmod_nat ch 3 (by decide)
              have hxe' : (ch : Int).tmod 5 = (x : Int) := hxe
              have hye' : (d : Int).tmod 5 = (y : Int) := hye
              have hze' : (ch : Int).tmod 3 = (z : Int) := hze
              have w1 : IntKind.i64.wrap (x : Int) = (x : Int) := IntWalk.i64_in _ (by omega)
              have w2 : IntKind.i64.wrap (y : Int) = (y : Int) := IntWalk.i64_in _ (by omega)
              have w3 : IntKind.i64.wrap (z : Int) = (z : Int) := IntWalk.i64_in _ (by omega)
              have w4 : IntKind.u8.wrap (ch : Int) = (ch : Int) := IntWalk.u8_in _ (by omega)
              clear hxe hye hze
              by_cases hxy : x = y
              · have heq : ((x : Int) == (y : Int)) = true := by rw [hxy]; simp
                clear hxy
                refine wp_region_regM (MoveF wj) (MoveF.drew _) (fun _ _ _ h k => h.trans k) (by kernel_rfl) 21 [0, 1, 0, 4, 15, 31, 63, 127, 63, 319, 831, 1855, 3903, 7999, 63, 16447, 63, 65599, 262143, 524287, 1048575] (fun i => i == 7 || i == 10 || i == 11 || i == 12 || i == 13 || i == 18) (by kernel_rfl) (fun i => if i = 7 then Eff.setsF wj 1 [s] else if i = 10 then Eff.slF wj encB 5 1 [ch] else if i = 11 then Eff.exA _ else if i = 12 then Eff.exS _ else if i = 13 then Eff.sets1 wj else if i = 18 then Eff.det _ (.bool true) else Eff.any _) ?_
                intro C hC hne
                have HC := Lib.hid hC
                obtain ⟨p0, p1, p2, p3⟩ := regSetF hC (B4.out.blk 2 rfl)
                clear hC
                repeat (refine regStep (fun K hK => ?_); first | (refine regN rfl ?_; try go_simp; refine hK _ _ ?_; clear hK K) | (refine regF rfl rfl ?_; unfold floatAt; go_simp; refine hK _ _ ?_; clear hK K))
                refine regStep (fun K hK => ?_)
                refine regE rfl rfl (Eff.setsF wj 1 [s]) rfl (fun W hW hN => ?_) (fun v hv => ?_)
                · have hM := (HC.out W).1 hW
                  clear hW hK K
                  go_simp
                  exact ⟨MoveF.ext ((Ext.refl _).alloc _) hM.size, ⟨_, rfl⟩, sets_new _ [s] 1 _ _ rfl rfl⟩
                obtain ⟨b7, rfl⟩ := hv
                go_simp
                refine hK _ _ ?_
                clear hK K
                repeat (refine regStep (fun K hK => ?_); first | (refine regN rfl ?_; try go_simp; refine hK _ _ ?_; clear hK K) | (refine regF rfl rfl ?_; unfold floatAt; go_simp; refine hK _ _ ?_; clear hK K))
                refine regStep (fun K hK => ?_)
                refine regE rfl rfl (Eff.slF wj encB 5 1 [ch]) rfl (fun W hW hN => ?_) (fun v hv => ?_)
                · have hM := (HC.out W).1 hW
                  clear hW hK K
                  go_simp
                  exact ⟨MoveF.ext ((Ext.refl _).alloc _) hM.size, ⟨_, hM.size, rfl⟩, sl_new _ _ 1 _ _ _ rfl rfl, fun b e => by cases e; exact ⟨by simp, shape_new _ _ _ _⟩⟩
                obtain ⟨b10, _, rfl⟩ := hv
                go_simp
                refine hK _ _ ?_
                clear hK K
                refine regStep (fun K hK => ?_)
                refine regE rfl rfl (Eff.exA _) rfl (fun W hW hN => ?_) (fun v hv => ?_)
                · have hM := (HC.out W).1 hW
                  have h10 : (Eff.slF wj encB 5 1 [ch]).H (.slice (some ⟨b10, 0, none⟩) 1 1) W := hN.at 0 rfl (by kernel_rfl)
                  have H10 := Lib.hid h10
                  clear h10
                  clear hW hK K
                  go_simp
                  refine effT_call ((refOf01_any _ [ch] _ H10.out.1 (by simpa using hlt) (by simp)).mono ?_)
                  rintro e w2 ⟨f, rfl, hx⟩
                  exact ⟨_, rfl, MoveF.ext hx hM.size, ⟨f, rfl⟩, trivial⟩
                obtain ⟨f11, rfl⟩ := hv
                go_simp
                refine hK _ _ ?_
                clear hK K
                refine regStep (fun K hK => ?_)
                refine regE rfl rfl (Eff.exS _) rfl (fun W hW hN => ?_) (fun v hv => ?_)
                · have hM := (HC.out W).1 hW
                  clear hW hK K
                  go_simp
                  refine effT_call ((lawWords_any f11 _).mono ?_)
                  rintro e w2 ⟨rfl, hx⟩
                  exact ⟨_, rfl, MoveF.ext hx hM.size, ⟨_, rfl⟩, trivial⟩
                obtain ⟨s12, rfl⟩ := hv
                go_simp
                refine hK _ _ ?_
                clear hK K
                refine regStep (fun K hK => ?_)
                refine regE rfl rfl (Eff.sets1 wj) rfl (fun W hW hN => ?_) (fun v hv => ?_)
                · have hM := (HC.out W).1 hW
                  clear hW hK K
                  go_simp
                  exact ⟨MoveF.ext ((Ext.refl _).alloc _) hM.size, ⟨_, rfl⟩, s12, sets_new _ [s12] 1 _ _ rfl rfl⟩
                obtain ⟨b13, rfl⟩ := hv
                go_simp
                refine hK _ _ ?_
                clear hK K
                repeat (refine regStep (fun K hK => ?_); first | (refine regN rfl ?_; try go_simp; refine hK _ _ ?_; clear hK K) | (refine regF rfl rfl ?_; unfold floatAt; go_simp; refine hK _ _ ?_; clear hK K))
                refine regStep (fun K hK => ?_)
                refine regE rfl rfl (Eff.det _ (.bool true)) rfl (fun W hW hN => ?_) (fun v hv => ?_)
                · have hM := (HC.out W).1 hW
                  have h7 : (Eff.setsF wj 1 [s]).H (.slice (some ⟨b7, 0, none⟩) 1 1) W := hN.at 4 rfl (by kernel_rfl)
                  obtain ⟨sx, h13⟩ : (Eff.sets1 wj).H (.slice (some ⟨b13, 0, none⟩) 1 1) W := hN.at 0 rfl (by kernel_rfl)
                  have H7 := Lib.hid h7
                  have H13 := Lib.hid h13
                  clear hW hK K h7 h13 hN
                  go_simp
                  refine effT_call ((makes_any _ _ [s] [sx] _ ch _ (setsC_of H7.out) H13.out (by simp) (by simp) hlt).mono ?_)
                  rintro e w2 ⟨rfl, hx⟩
                  exact ⟨_, rfl, MoveF.below hx hM.size, rfl, trivial⟩
                replace hv : v = _ := hv
                subst hv
                go_simp
                refine hK _ _ ?_
                clear hK K
                repeat (refine regStep (fun K hK => ?_); first | (refine regN rfl ?_; try go_simp; refine hK _ _ ?_; clear hK K) | (refine regF rfl rfl ?_; unfold floatAt; go_simp; refine hK _ _ ?_; clear hK K))
                refine regNil (fun W3 hW hH => ?_)
                have hM := ((HC.out W3).1 hW).old
                have B5 := Lib.hid (B4.out.step hM)
                clear hM hW hH HC hne hxe' hye' hze' w1 w2 w3 w4 heq p0 p1 p2 p3
                go_wp2
                exact ⟨⟨ch + 1, by omega, by go_num, B5.out.since 0 rfl⟩, by simp [intOf]; omega⟩
              · have heq : ((x : Int) == (y : Int)) = false := by rw [beq_eq_false_iff_ne]; omega
                clear hxy
                refine wp_region_regM (MoveF wj) (MoveF.drew _) (fun _ _ _ h k => h.trans k) (by kernel_rfl) 21 [0, 1, 0, 4, 15, 31, 63, 127, 63, 319, 831, 1855, 3903, 7999, 63, 16447, 63, 65599, 262143, 524287, 1048575] (fun i => i == 7 || i == 10 || i == 11 || i == 12 || i == 13 || i == 18) (by kernel_rfl) (fun _ => Eff.any _) ?_
                intro C hC hne
                have HC := Lib.hid hC
                clear hC
                repeat (refine regStep (fun K hK => ?_); first | (refine regN rfl ?_; try go_simp; refine hK _ _ ?_; clear hK K) | (refine regF rfl rfl ?_; unfold floatAt; go_simp; refine hK _ _ ?_; clear hK K))
                refine regNil (fun W3 hW hH => ?_)
                have hM := ((HC.out W3).1 hW).old
                have B5 := Lib.hid (B4.out.step hM)
                clear hM hW hH HC hne hxe' hye' hze' w1 w2 w3 w4 heq
                go_wp2
                exact ⟨⟨ch + 1, by omega, by go_num, B5.out.since 0 rfl⟩, by simp [intOf]; omega⟩
            · have hlt' : 256 ≤ ch := by omega
              go_wp2
              exact ⟨⟨d + 1, by omega, by go_num, B4.out.since 3 rfl⟩, by simp [intOf]; omega⟩
    · have hd10' : 10 ≤ d := by omega
      go_wp2
      refine wp_named ?_
      intro V0 hV0
      obtain ⟨nb, hnb⟩ : ∃ b, b = wo.heap.size := ⟨_, rfl⟩
      have hx : Below wo.heap.size wo V0 := by rw [hV0]; exact ((Ext.refl _).alloc _).below
      have hN : Blk V0 nb (([-9223372036854775808, -1, 0, 1, 2, 255, 256, 9223372036854775807] : List Int).map encZ).toArray 3 := by rw [hV0, hnb]; exact Blk.new _ _ _
      rw [← hnb]
      have C0 := Lib.hid ((B1.out.step hx).cons (s := Sp.blk nb (([-9223372036854775808, -1, 0, 1, 2, 255, 256, 9223372036854775807] : List Int).map encZ).toArray 3) hN)
      clear hV0 hx hN hnb
      -- 0 blk ints, 1 since W0, 2 blk L, 3 since w
      go_loopw [128] (fun i wr => ∃ j : Nat, j ≤ 8 ∧ i = .int .i64 j ∧ Below V0.heap.size V0 wr) (fun i _ => 8 - (intOf i).toNat)
      case atStart => exact ⟨0, by omega, rfl, Below.refl _ _⟩
      case round =>
        obtain ⟨j, hj, rfl, hx⟩ := hrel
        obtain ⟨wk, rfl⟩ : ∃ wk : World, wk = wr := ⟨_, rfl⟩
        have C1 := Lib.hid ((C0.out.step hx).cons (s := Sp.since V0) hx)
        clear hx
        -- 0 since V0, 1 blk ints, 2 since W0, 3 blk L, 4 since w
        by_cases hj8 : j < 8
        · obtain ⟨z, hz⟩ : ∃ z : Int, wk.cell? ⟨nb, j, none⟩ = some (.int .i64 z) := by
            have hc := (C1.out.blk 1 rfl).cell j
            rw [List.getElem?_toArray, List.getElem?_map, List.getElem?_eq_getElem (by simpa using hj8)] at hc
            exact ⟨_, hc⟩
          have hji : (j : Int) < 8 := by omega
          go_wp2
          clear hz
          obtain ⟨u, _, e0, e1, e2, e3⟩ := LC.out wk 4 (C1.out.blk 3 rfl) (by decide)
          have hsub : Hid (∀ W, Below wk.heap.size wk W → IsSets W (.slice (some ⟨B, 16, none⟩) 2 6) ((L.drop 4).take 2)) := fun W h => sets_sub ((C1.out.step h).blk 3 rfl) 4 2 6 (by have := HL.out; omega)
          have hl2 := Lib.hid (show ((L.drop 4).take 2).length ≤ 8 by rw [List.length_take]; omega)
          refine wp_region_regM (MoveF wk) (MoveF.drew _) (fun _ _ _ h k => h.trans k) (by kernel_rfl) 16 [0, 1, 0, 7, 15, 31, 63, 127, 63, 319, 831, 63, 2111, 8191, 16383, 32767] (fun i => i == 3 || i == 12 || i == 13) (by kernel_rfl) (fun i => if i = 3 then Eff.det _ (.bool true) else if i = 12 then Eff.slF wk encZ 3 2 [0, z] else if i = 13 then Eff.det _ (.bool true) else Eff.any _) ?_
          intro C hC hne
          have HC := Lib.hid hC
          have hBl := (C1.out.blk 3 rfl).lt
          have r0 := regCellF hC (p := ⟨B, 16, none⟩) hBl e0
          have r1 := regCellF hC (p := ⟨B, 17, none⟩) hBl e1
          have r2 := regCellF hC (p := ⟨B, 18, none⟩) hBl e2
          have r3 := regCellF hC (p := ⟨B, 19, none⟩) hBl e3
          clear hC e0 e1 e2 e3
          repeat (refine regStep (fun K hK => ?_); first | (refine regN rfl ?_; try go_simp; refine hK _ _ ?_; clear hK K) | (refine regF rfl rfl ?_; unfold floatAt; go_simp; refine hK _ _ ?_; clear hK K))
          refine regStep (fun K hK => ?_)
          refine regE rfl rfl (Eff.det _ (.bool true)) rfl (fun W hW hN => ?_) (fun v hv => ?_)
          · have hM := (HC.out W).1 hW
            clear hW
            go_simp
            refine effT_call ((makes_any _ _ _ [] z 0 _ ⟨hsub.out _ hM.old, fun a n cap e => by cases e; decide⟩ (.inl ⟨rfl, rfl⟩) hl2.out (by simp) (by decide)).mono ?_)
            rintro e w2 ⟨rfl, hx⟩
            exact ⟨_, rfl, MoveF.below hx hM.size, rfl, trivial⟩
          replace hv : v = _ := hv
          subst hv
          go_simp
          refine hK _ _ ?_
          clear hK K
          repeat (refine regStep (fun K hK => ?_); first | (refine regN rfl ?_; try go_simp; refine hK _ _ ?_; clear hK K) | (refine regF rfl rfl ?_; unfold floatAt; go_simp; refine hK _ _ ?_; clear hK K))
          refine regStep (fun K hK => ?_)
          refine regE rfl rfl (Eff.slF wk encZ 3 2 [0, z]) rfl (fun W hW hN => ?_) (fun v hv => ?_)
          · have hM := (HC.out W).1 hW
            clear hW hK K
            go_simp
            exact ⟨MoveF.ext ((Ext.refl _).alloc _) hM.size, ⟨_, hM.size, rfl⟩, sl_new _ _ 2 _ _ _ rfl rfl, fun b e => by cases e; exact ⟨by simp, shape_new _ _ _ _⟩⟩
          obtain ⟨b12, _, rfl⟩ := hv
          go_simp
          refine hK _ _ ?_
          clear hK K
          refine regStep (fun K hK => ?_)
          refine regE rfl rfl (Eff.det _ (.bool true)) rfl (fun W hW hN => ?_) (fun v hv => ?_)
          · have hM := (HC.out W).1 hW
            clear hW
            go_simp
            refine effT_call ((tells_any _ _ _ _ u [0, z] [] _ (hsub.out _ hM.old) ((hN.at 0 rfl (by kernel_rfl) : (Eff.slF wk encZ 3 2 [0, z]).H _ _)).1 (.inl ⟨rfl, rfl⟩) hl2.out (by simp) (by simp) (by simp)).mono ?_)
            rintro e w2 ⟨rfl, hx⟩
            exact ⟨_, rfl, MoveF.below hx hM.size, rfl, trivial⟩
          replace hv : v = _ := hv
          subst hv
          go_simp
          refine hK _ _ ?_
          clear hK K
          repeat (refine regStep (fun K hK => ?_); first | (refine regN rfl ?_; try go_simp; refine hK _ _ ?_; clear hK K) | (refine regF rfl rfl ?_; unfold floatAt; go_simp; refine hK _ _ ?_; clear hK K))
          refine regNil (fun W3 hW hH => ?_)
          have hM := ((HC.out W3).1 hW).old
          have C2 := Lib.hid (C1.out.step hM)
          clear hM hW hH HC hne r0 r1 r2 r3 hsub hl2
          go_wp2
          exact ⟨⟨j + 1, by omega, by go_num, C2.out.since 0 rfl⟩, by simp [intOf]; omega⟩
        · have hj8' : 8 ≤ j := by omega
          go_wp2_with fail
          refine (alphAll_any _).mono ?_
          rintro e w5 ⟨bA, rfl, ha, hx⟩
          obtain ⟨pA, hpA⟩ : ∃ p, p = allTo 256 := ⟨_, rfl⟩
          rw [← hpA] at ha
          have C2 := Lib.hid ((C1.out.step hx).cons (s := Sp.al wk.heap.size (.pointer (some ⟨bA, 0, none⟩)) pA) ha)
          clear ha hx
          go_wp2_with fail
          refine wp_named ?_
          intro V5 hV5
          obtain ⟨k1, k2, k3⟩ := two_allocs w5 Try.zeroCells60 #[.pointer none, .pointer (some ⟨w5.heap.size, 0, none⟩)] 60 31
          rw [← hV5] at k1 k2 k3
          rw [zeroCells_al0] at k1
          obtain ⟨nc, hnc⟩ : ∃ n, n = w5.heap.size + 1 := ⟨_, rfl⟩
          rw [← hnc] at k2 ⊢
          have hal : IsAl V5 w5.heap.size (.pointer (some ⟨w5.heap.size, 0, none⟩)) [] := .inr ⟨_, _, rfl, Nat.le_refl _, k1, World.ownsRow_nil _ _ _ _, by simp⟩
          have C3 := Lib.hid (((C2.out.step k3.below).cons (s := Sp.al w5.heap.size (.pointer (some ⟨w5.heap.size, 0, none⟩)) []) hal).cons (s := Sp.blk nc #[.pointer none, .pointer (some ⟨w5.heap.size, 0, none⟩)] 31) k2)
          clear hV5 k1 k2 k3 hal hnc
          -- 0 blk nc, 1 al none, 2 al all, 3 since V0, 4 ints, 5 since W0, 6 blk L, 7 since w
          go_loopw [154] (fun i wr => ∃ j : Nat, j ≤ 2 ∧ i = .int .i64 j ∧ Below V5.heap.size V5 wr) (fun i _ => 2 - (intOf i).toNat)
          case atStart => exact ⟨0, by omega, rfl, Below.refl _ _⟩
          case round =>
            obtain ⟨j5, hj5, rfl, hx⟩ := hrel
            obtain ⟨wl, rfl⟩ : ∃ wl : World, wl = wr := ⟨_, rfl⟩
            have C4 := Lib.hid ((C3.out.step hx).cons (s := Sp.since V5) hx)
            clear hx
            -- 0 since V5, 1 blk nc, 2 al none, 3 al all, .. 7 blk L, 8 since w
            by_cases hj2 : j5 < 2
            · obtain ⟨v, hv, hal⟩ : ∃ v : Value, wl.cell? ⟨nc, j5, none⟩ = some v ∧ IsAl wl w5.heap.size v [] := by
                rcases (show j5 = 0 ∨ j5 = 1 by omega) with rfl | rfl
                · exact ⟨_, (C4.out.blk 1 rfl).cell 0, .inl ⟨rfl, rfl⟩⟩
                · exact ⟨_, (C4.out.blk 1 rfl).cell 1, C4.out.al 2 rfl⟩
              have C5 := Lib.hid (C4.out.cons (s := Sp.al w5.heap.size v []) hal)
              -- 0 al v, 1 since V5, 2 blk nc, 3 al none, 4 al all, 5 since V0, 6 ints, 7 since W0, 8 blk L, 9 since w
              have hji : (j5 : Int) < 2 := by omega
              obtain ⟨u, hu, e0, e1, e2, e3⟩ := LC.out wl 0 (C5.out.blk 8 rfl) (by decide)
              have HU := Lib.hid hu
              clear hal hu C4
              go_wp2_with fail
              clear hv e0 e1 e2 e3
              refine (nil_classes u (C5.out.al 0 rfl)).mono ?_
              rintro e w10 ⟨x1, rfl, hx⟩
              have C6 := Lib.hid (C5.out.step hx)
              clear hx C5
              go_wp2_with fail
              refine (nil_together (C6.out.al 0 rfl)).mono ?_
              rintro e w11 ⟨rfl, hx⟩
              have C7 := Lib.hid (C6.out.step hx)
              clear hx C6
              go_wp2_with fail
              refine calls_named ?_
              intro V12 hV
              have hx : Below w11.heap.size w11 V12 := by rw [hV]; exact ((Ext.refl _).alloc _).below
              have C8 := Lib.hid (C7.out.step hx)
              clear hx hV C7
              refine (nil_bytes (C8.out.al 0 rfl)).mono ?_
              rintro e w12 ⟨x2, rfl, hx⟩
              have C9 := Lib.hid (C8.out.step hx)
              clear hx C8
              go_wp2_with fail
              refine (nil_set 0 (C9.out.al 0 rfl)).mono ?_
              rintro e w13 ⟨rfl, hx⟩
              have C10 := Lib.hid (C9.out.step hx)
              clear hx C9
              go_wp2_with fail
              refine calls_named ?_
              intro V14 hV
              have hx : Below w13.heap.size w13 V14 := by rw [hV]; exact ((Ext.refl _).alloc _).below
              have C11 := Lib.hid (C10.out.step hx)
              clear hx hV C10
              refine (nil_least 0 (C11.out.al 0 rfl)).mono ?_
              rintro e w14 ⟨rfl, hx⟩
              have C12 := Lib.hid (C11.out.step hx)
              clear hx C11
              go_wp2_with fail
              refine (nil_len (C12.out.al 0 rfl)).mono ?_
              rintro e w15 ⟨rfl, hx⟩
              have C13 := Lib.hid (C12.out.step hx)
              clear hx C12
              go_wp2_with fail
              refine (nil_class 9 (by decide) (C13.out.al 0 rfl)).mono ?_
              rintro e w16 ⟨rfl, hx⟩
              have C14 := Lib.hid (C13.out.step hx)
              clear hx C13
              obtain ⟨u2, hu2, e0, e1, e2, e3⟩ := LC.out w16 0 (C14.out.blk 8 rfl) (by decide)
              obtain rfl : u2 = u := Option.some.inj (hu2.symm.trans HU.out)
              clear hu2
              go_wp2_with fail
              clear e0 e1 e2 e3
              refine (nil_fits _ (C14.out.al 0 rfl)).mono ?_
              rintro e w17 ⟨rfl, hx⟩
              have C15 := Lib.hid (C14.out.step hx)
              clear hx C14
              have kc := fun (w : World) (C : Array Value) (n c : Nat) => Lib.run_convert_bytes_const (P := Try.prog) w 27 5 C n c Try.underlying27 Try.underlying5
              go_wp2_with fail
              clear kc
              refine calls_named ?_
              intro V18 hV
              have hb : IsSl encB V18 (.slice (some ⟨w17.heap.size, 0, none⟩) 1 1) [97] := by rw [hV]; exact sl_new _ _ _ _ _ _ rfl rfl
              have hx : Below w17.heap.size w17 V18 := by rw [hV]; exact ((Ext.refl _).alloc _).below
              have C16 := Lib.hid (C15.out.step hx)
              clear hx hV C15
              refine (nil_word _ [97] hb (by decide) (by decide) (C16.out.al 0 rfl)).mono ?_
              rintro e w18 ⟨aw, cw, rfl, hx⟩
              have C17 := Lib.hid (C16.out.step hx)
              clear hx C16
              clear hb
              go_wp2_with fail
              refine (nil_table (C17.out.al 0 rfl)).mono ?_
              rintro e w19 ⟨rfl, hx⟩
              have C18 := Lib.hid (C17.out.step hx)
              clear hx C17
              have hz := tabArr_nil
              have hts := tab_self
              go_wp2_with fail
              clear hz hts
              refine (nil_finer1 (C18.out.al 0 rfl) (C18.out.al 4 rfl)).mono ?_
              rintro e w20 ⟨rfl, hx⟩
              have C19 := Lib.hid (C18.out.step hx)
              clear hx C18
              go_wp2_with fail
              refine (nil_finer2 (C19.out.al 0 rfl) (C19.out.al 4 rfl)).mono ?_
              rintro e w21 ⟨rfl, hx⟩
              have C20 := Lib.hid (C19.out.step hx)
              clear hx C19
              go_wp2_with fail
              refine (nil_same1 (C20.out.al 0 rfl) (C20.out.al 0 rfl)).mono ?_
              rintro e w22 ⟨rfl, hx⟩
              have C21 := Lib.hid (C20.out.step hx)
              clear hx C20
              go_wp2_with fail
              refine (nil_same2 (C21.out.al 0 rfl) (C21.out.al 4 rfl)).mono ?_
              rintro e w23 ⟨rfl, hx⟩
              have C22 := Lib.hid (C21.out.step hx)
              clear hx C21
              go_wp2_with fail
              refine (nil_join2 (C22.out.al 0 rfl) (C22.out.al 4 rfl)).mono ?_
              rintro e w24 ⟨rfl, hx⟩
              have C23 := Lib.hid (C22.out.step hx)
              clear hx C22
              go_wp2_with fail
              refine (nil_join1 (C23.out.al 0 rfl) (C23.out.al 4 rfl)).mono ?_
              rintro e w25 ⟨rfl, hx⟩
              have C24 := Lib.hid (C23.out.step hx)
              clear hx C23
              go_wp2
              exact ⟨⟨j5 + 1, by omega, by go_num, C24.out.since 1 rfl⟩, by simp [intOf]; omega⟩
            · have hj2' : 2 ≤ j5 := by omega
              go_wp2_with fail
              refine (awake_any _).mono ?_
              rintro e w7 ⟨rfl, hx⟩
              have C5 := Lib.hid (C4.out.step hx)
              clear hx
              go_wp2
              go_ret
              exact ⟨rfl, C5.out.since 8 rfl⟩
end Go.Proofs.Ytokkgbcjjaiaeaa
