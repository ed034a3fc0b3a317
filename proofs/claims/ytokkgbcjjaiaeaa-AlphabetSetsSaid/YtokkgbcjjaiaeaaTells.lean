/-
  The walk of tells (AlphabetTells): what the program's alphabet tells against the reference's.
-/
import Derived.Test.YtokkgbcjjaiaeaaBag
import Derived.Test.YtokkgbcjjaiaeaaPlain6
import Derived.Test.YtokkgbcjjaiaeaaClone2
import Derived.Test.YtokkgbcjjaiaeaaMakes
namespace Go.Proofs.Ytokkgbcjjaiaeaa
open Go Go.RowKit Go.Shelf Go.Maps
attribute [local go_sem] encS

/-- A list and a number, as what an effect leaves. -/
def Eff.clR {α : Type} (enc : α → Value) (q : List α) (x : Value) : Eff (Move false (fun _ => False)) where
  P := fun v => ∃ a c, v = .tuple #[.slice a q.length c, x]
  H := fun v W => ∀ u, v = .tuple #[u, x] → IsSl enc W u q
  wit := .tuple #[.slice none q.length 0, x]
  pw := ⟨none, 0, rfl⟩
  st := fun _ _ _ hm _ h u hu => (h u hu).below hm.below
/-- A list, as what an effect leaves. -/
def Eff.slN {α : Type} (enc : α → Value) (l : List α) : Eff (Move false (fun _ => False)) where
  P := fun v => ∃ a c, v = .slice a l.length c
  H := fun v W => IsSl enc W v l
  wit := .slice none l.length 0
  pw := ⟨none, 0, rfl⟩
  st := fun _ _ _ hm _ h => h.below hm.below
theorem clR_form {α : Type} {enc : α → Value} {q : List α} {x u : Value} {W : World} (h : IsSl enc W u q) : ∃ a c, (Value.tuple #[u, x]) = .tuple #[.slice a q.length c, x] := by
  obtain ⟨a, c, rfl⟩ := h.form; exact ⟨a, c, rfl⟩
theorem clR_keep {α : Type} {enc : α → Value} {q : List α} {x u : Value} {W : World} (h : IsSl enc W u q) : ∀ u', (Value.tuple #[u, x]) = .tuple #[u', x] → IsSl enc W u' q := fun u' e => by cases e; exact h
theorem regSet {C : World → Prop} {w : World} (hC : ∀ W, C W ↔ Move false (fun _ => False) w W) {b : Nat} {s : BS} {t : TypeId} (h : Blk w b (encS s) t) :
    (∀ W : { W // C W }, W.1.cell? ⟨b, 0, none⟩ = some (.int .u64 (wd s 0).toNat)) ∧ (∀ W : { W // C W }, W.1.cell? ⟨b, 1, none⟩ = some (.int .u64 (wd s 1).toNat)) ∧
    (∀ W : { W // C W }, W.1.cell? ⟨b, 2, none⟩ = some (.int .u64 (wd s 2).toNat)) ∧ (∀ W : { W // C W }, W.1.cell? ⟨b, 3, none⟩ = some (.int .u64 (wd s 3).toNat)) := by
  have k := fun (W : { W // C W }) => (h.below ((hC W.1).1 W.2).below h.lt).set4
  exact ⟨fun W => (k W).1, fun W => (k W).2.1, fun W => (k W).2.2.1, fun W => (k W).2.2.2⟩

set_option maxRecDepth 100000 in
set_option maxHeartbeats 16000000 in
theorem tells_any (v0 v2 v3 : Value) (l : List BS) (s : BS) (ls : List Int) (bs : List Nat) (w : World) (h0 : IsSets w v0 l) (h2 : IsSl encZ w v2 ls) (h3 : IsSl encB w v3 bs) (hl : l.length ≤ 8) (hls : ls.length ≤ 100) (hbs : bs.length ≤ 100) (hb : ∀ c ∈ bs, c < 256) :
    Calls Try.prog 11 #[v0, .agg (encS s), v2, v3] w fun e w' => e = .returned (.bool true) ∧ Below w.heap.size w w' := by
  obtain ⟨p, hp⟩ : ∃ p, p = partsOf l := ⟨_, rfl⟩
  obtain ⟨f, hf⟩ : ∃ f, f = refA l := ⟨_, rfl⟩
  have PP : IsPart p (Alike l) := by rw [hp]; exact IsPart.of_parts l
  have RF : IsRef f (Alike l) := by rw [hf]; exact isRef_refA l
  have AG := PP.agrees RF
  have CA : Hid (∀ v W, IsSets W v l → Calls Try.prog 14 #[v] W fun e w' => ∃ b, e = .returned (.pointer (some ⟨b, 0, none⟩)) ∧ IsAl w' W.heap.size (.pointer (some ⟨b, 0, none⟩)) p ∧ Below W.heap.size W w') := fun v W h => by rw [hp]; exact alphOf_any l v W h (by omega)
  have CF : Hid (∀ v W, IsArrs W v (l.map refS) → Calls Try.prog 58 #[v] W fun e w' => e = .returned (.agg (aI f)) ∧ Ext W w') := fun v W h => by rw [hf]; exact refOf_any v _ W h (by rw [List.length_map]; omega)
  have CT : Hid (∀ v W, IsSets W v l → Calls Try.prog 59 #[v] W fun e w' => ∃ u, e = .returned u ∧ IsArrs w' u (l.map refS) ∧ Below W.heap.size W w') := fun v W h => theirs_any v l W h (by omega)
  obtain ⟨q, x1, hq⟩ : ∃ (q : List Nat) (x1 : Nat), classesOf p s = (q, x1) := ⟨_, _, rfl⟩
  have C1 : Hid (∀ b base W, IsAl W base (.pointer (some ⟨b, 0, none⟩)) p → Calls Try.prog 34 #[.pointer (some ⟨b, 0, none⟩), .agg (encS s)] W fun e w' => ∃ u, e = .returned (.tuple #[u, .int .i64 (x1 : Int)]) ∧ w'.ownsRow W.heap.size 3 1 u q.length (q.map encN) ∧ Below W.heap.size W w') := fun b base W h => by
    have := classes_any _ _ p s W h; rw [hq] at this; exact this
  have C2 : Hid (∀ W, Calls Try.prog 61 #[.agg (encS s)] W fun e w' => e = .returned (.agg (aI (refS s))) ∧ Ext W w') := fun W => refWords_any s W
  have C3 : Hid (∀ W, Calls Try.prog 60 #[.agg (aI f), .agg (aI (refS s))] W fun e w' => ∃ u, e = .returned (.tuple #[u, .int .i64 (x1 : Int)]) ∧ IsSl encN w' u q ∧ Below W.heap.size W w') := fun W => by
    have hm : ∀ c, c < 256 → f c = ((f c).toNat : Nat) ∧ (f c).toNat < 256 := fun c hc => by
      obtain ⟨m, h1, h2, _⟩ := RF.val c hc
      rw [h1, Int.toNat_natCast]; exact ⟨rfl, by omega⟩
    obtain ⟨k1, k2⟩ := classes_link PP RF s
    refine (refClasses_any f (refS s) (fun c => (f c).toNat) hm W).mono fun e w' ⟨u, e', he, hx, h⟩ => ?_
    rcases h with ⟨h, rfl, rfl⟩ | ⟨h, rfl, ho⟩
    · have := (k1 h).symm.trans hq
      cases this
      exact ⟨_, he, .inl ⟨rfl, rfl⟩, hx⟩
    · have := (k2 h).symm.trans hq
      cases this
      exact ⟨_, he, ownsRow_sl ho rfl, hx⟩
  obtain ⟨tf, x2, htf⟩ : ∃ (tf : Nat → Int) (x2 : Int), togR f ls = (tf, x2) := ⟨_, _, rfl⟩
  obtain ⟨t, ht⟩ : ∃ t, t = backS tf := ⟨_, rfl⟩
  have C4 : Hid (∀ b base v W, IsAl W base (.pointer (some ⟨b, 0, none⟩)) p → IsSl encZ W v ls → Calls Try.prog 35 #[.pointer (some ⟨b, 0, none⟩), v] W fun e w' => e = .returned (.tuple #[.agg (encS t), .int .i64 x2]) ∧ Ext W w') := fun b base v W h h' => by
    have := together_any _ _ p v ls W h h' (by omega)
    have k := AG.together ls
    rw [htf] at k
    rw [k.1, Int.toNat_of_nonneg k.2, ← ht] at this; exact this
  have C5 : Hid (∀ v W, IsSl encZ W v ls → Calls Try.prog 62 #[.agg (aI f), v] W fun e w' => e = .returned (.tuple #[.agg (aI tf), .int .i64 x2]) ∧ Below W.heap.size W w') := fun v W h => by
    have := refTogether_any f v ls W h (by omega); rw [htf] at this; exact this
  obtain ⟨wl, hwl⟩ : ∃ wl, wl = bs.map (cls p) := ⟨_, rfl⟩
  have C6 : Hid (∀ b base v W, IsAl W base (.pointer (some ⟨b, 0, none⟩)) p → IsSl encB W v bs → Calls Try.prog 15 #[.pointer (some ⟨b, 0, none⟩), v] W fun e w' => ∃ u, e = .returned u ∧ w'.ownsRow W.heap.size 3 1 u wl.length (wl.map encN) ∧ Below W.heap.size W w') := fun b base v W h h' => by
    have := word_any _ _ p v bs W h h' hb (by omega)
    rw [agrees_word AG, ← hwl] at this; exact this
  have C12 : Hid (∀ v W, IsSl encB W v bs → Calls Try.prog 64 #[.agg (aI f), v] W fun e w' => ∃ u, e = .returned u ∧ IsSl encN w' u wl ∧ Below W.heap.size W w') := fun v W h => by
    refine (refWord_any f (cls p) (fun c hc => ?_) v bs W h hb (by omega)).mono fun e w' ⟨u, he, ho, hx⟩ => ⟨u, he, by rw [hwl]; exact ownsRow_sl ho rfl, hx⟩
    obtain ⟨m, h1, _, h3⟩ := AG.byte c hc
    exact ⟨m, h1, h3⟩
  obtain ⟨yb, x3, hyb⟩ : ∃ (yb : List Nat) (x3 : Int), bytR f ls = (yb, x3) := ⟨_, _, rfl⟩
  have C7 : Hid (∀ b base v W, IsAl W base (.pointer (some ⟨b, 0, none⟩)) p → IsSl encZ W v ls → Calls Try.prog 16 #[.pointer (some ⟨b, 0, none⟩), v] W fun e w' => ∃ u, e = .returned (.tuple #[u, .int .i64 x3]) ∧ w'.ownsRow W.heap.size 5 1 u yb.length (yb.map encB) ∧ Below W.heap.size W w') := fun b base v W h h' => by
    have := alphBytes_any _ _ p v ls W h h' (by omega)
    have k := AG.bytes ls
    rw [hyb] at k
    rw [k.1, Int.toNat_of_nonneg k.2] at this; exact this
  have C8 : Hid (∀ v W, IsSl encZ W v ls → Calls Try.prog 63 #[.agg (aI f), v] W fun e w' => ∃ u, e = .returned (.tuple #[u, .int .i64 x3]) ∧ IsSl encB w' u yb ∧ Below W.heap.size W w') := fun v W h => by
    have := refBytes_any f v ls W h (by omega)
    rw [hyb] at this
    exact this.mono fun e w' ⟨u, he, ho, hx⟩ => ⟨u, he, ownsRow_sl ho rfl, hx⟩
  have hyb256 : ∀ c ∈ yb, c < 256 := fun c hc => by
    have e : yb = (bytR f ls).1 := by rw [hyb]
    rw [e] at hc
    unfold bytR at hc
    split at hc
    · obtain ⟨x, hx, rfl⟩ := List.mem_map.1 hc
      rename_i hall
      obtain ⟨n, m, _, rfl, h1, _⟩ := AG.at (List.all_eq_true.1 hall x hx)
      unfold leastAt
      rw [Int.toNat_natCast, h1]; exact leastsTo_lt h1
    · cases hc
  have hql : q.length ≤ 256 := by
    have e : q = (classesOf p s).1 := by rw [hq]
    rw [e]; unfold classesOf
    split
    · simp
    · split
      · simp
      · refine Nat.le_trans (indsOf_len s p) ?_
        rw [AG.len]; exact leastsTo_len f 256
  have hwll : wl.length ≤ 100 := by rw [hwl, List.length_map]; exact hbs
  have hybl : yb.length ≤ 100 := by
    have e : yb = (bytR f ls).1 := by rw [hyb]
    rw [e]; unfold bytR; split
    · rw [List.length_map]; exact hls
    · simp
  have C9 : Hid (∀ v v' W, IsSl encN W v q → IsSl encN W v' q → Calls Try.prog 17 #[v, v'] W fun e w' => e = .returned (.bool true) ∧ Ext W w') := fun v v' W h h' => by
    have := slEqual_any v v' _ _ W h.nat h'.nat (by rw [List.length_map]; omega)
    rw [show (q.map Int.ofNat == q.map Int.ofNat) = true from by simp] at this; exact this
  have C13 : Hid (∀ v v' W, IsSl encN W v wl → IsSl encN W v' wl → Calls Try.prog 17 #[v, v'] W fun e w' => e = .returned (.bool true) ∧ Ext W w') := fun v v' W h h' => by
    have := slEqual_any v v' _ _ W h.nat h'.nat (by rw [List.length_map]; omega)
    rw [show (wl.map Int.ofNat == wl.map Int.ofNat) = true from by simp] at this; exact this
  have C15 : Hid (∀ v v' W, IsSl encZ W v ls → IsSl encZ W v' ls → Calls Try.prog 17 #[v, v'] W fun e w' => e = .returned (.bool true) ∧ Ext W w') := fun v v' W h h' => by
    have := slEqual_any v v' _ _ W h h' (by omega)
    rw [show (ls == ls) = true from by simp] at this; exact this
  have C14 : Hid (∀ v v' W, IsSl encB W v yb → IsSl encB W v' yb → Calls Try.prog 47 #[v, v'] W fun e w' => e = .returned (.bool true) ∧ Ext W w') := fun v v' W h h' =>
    (bytesEq_any v v' _ _ W h h' hyb256 hyb256).mono fun e w' ⟨he, hw⟩ => ⟨by rw [he, show (yb == yb) = true from by simp], by rw [hw]; exact Ext.refl _⟩
  have C16 : Hid (∀ v v' W, IsSl encB W v bs → IsSl encB W v' bs → Calls Try.prog 47 #[v, v'] W fun e w' => e = .returned (.bool true) ∧ Ext W w') := fun v v' W h h' =>
    (bytesEq_any v v' _ _ W h h' hb hb).mono fun e w' ⟨he, hw⟩ => ⟨by rw [he, show (bs == bs) = true from by simp], by rw [hw]; exact Ext.refl _⟩
  obtain ⟨y1, hy1⟩ : ∃ y1 : Int, y1 = x1 := ⟨_, rfl⟩
  rw [← hy1] at C1 C3
  obtain ⟨z4, hz4⟩ : ∃ z4, z4 = (y1 == 0) := ⟨_, rfl⟩
  have C10 : Hid (∀ b base W, IsAl W base (.pointer (some ⟨b, 0, none⟩)) p → Calls Try.prog 37 #[.pointer (some ⟨b, 0, none⟩), .agg (encS s)] W fun e w' => e = .returned (.bool z4) ∧ Below W.heap.size W w') := fun b base W h => by
    have := fits_any _ _ p s W h
    rw [hq] at this
    have e : z4 = (x1 == 0) := by rw [hz4, hy1, Bool.eq_iff_iff]; simp
    rw [e]; exact this
  have C11 : Hid (∀ W, Calls Try.prog 31 #[.agg (aI tf)] W fun e w' => e = .returned (.agg (encS t)) ∧ Ext W w') := fun W => by rw [ht]; exact lawWords_any tf W
  have CI : Hid (∀ v W, IsSl encZ W v ls → Calls Try.prog 46 #[v] W fun e w' => ∃ u, e = .returned u ∧ IsSl encZ w' u ls ∧ Below W.heap.size W w') := fun v W h =>
    (cloneInts_any v ls W h (by omega)).mono fun e w' ⟨u, he, ho, hx⟩ => ⟨u, he, ownsRow_sl ho rfl, hx⟩
  have CB : Hid (∀ v W, IsSl encB W v bs → Calls Try.prog 48 #[v] W fun e w' => ∃ u, e = .returned u ∧ IsSl encB w' u bs ∧ Below W.heap.size W w') := fun v W h =>
    (cloneBytes_any v bs W h (by omega)).mono fun e w' ⟨u, he, ho, hx⟩ => ⟨u, he, ownsRow_sl ho rfl, hx⟩
  have H0 := Lib.hid h0
  have H2 := Lib.hid h2
  have H3 := Lib.hid h3
  have HZ4 := Lib.hid hz4
  have HY := Lib.hid hyb256
  clear h0 h2 h3 hl hls hbs hb hp hf PP RF AG hq htf ht hwl hyb hyb256 hy1 hz4
  go_enter Try.func11, Try.ntmps11
  have B0 : Hid (Bag [Sp.blk w.heap.size (encS s) 25, Sp.since w, Sp.sets v0 l, Sp.sl encZ v2 ls, Sp.sl encB v3 bs] (w.alloc (.cells (encS s) 25))) := by
    have hx : Below w.heap.size w (w.alloc (.cells (encS s) 25)) := (Below.refl _ _).alloc (Nat.le_refl _) _
    exact (((((Bag.nil _).cons (s := Sp.sl encB v3 bs) (H3.out.below hx)).cons (s := Sp.sl encZ v2 ls) (H2.out.below hx)).cons (s := Sp.sets v0 l) (H0.out.below hx)).cons (s := Sp.since w) hx).cons (s := Sp.blk _ _ _) (Blk.new _ _ _)
  clear H0 H2 H3
  go_wp2_with fail
  refine (CA.out _ _ (B0.out.sets 2 rfl)).mono ?_
  rintro e w1 ⟨ba, rfl, ha, hx⟩
  obtain ⟨base, hba⟩ : ∃ base, base = (w.alloc (.cells (encS s) 25)).heap.size := ⟨_, rfl⟩
  rw [← hba] at ha
  have B1 := Lib.hid ((B0.out.step hx).cons (s := Sp.al base _ p) ha)
  clear ha hx hba B0
  go_wp2_with fail
  refine (CT.out _ _ (B1.out.sets 3 rfl)).mono ?_
  rintro e w2 ⟨ut, rfl, hq, hx⟩
  have B2 := Lib.hid (B1.out.step hx)
  have Q2 := Lib.hid hq
  clear hq hx B1
  go_wp2_with fail
  refine (CF.out _ _ Q2.out).mono ?_
  rintro e w3 ⟨rfl, hx⟩
  have B3 := Lib.hid (B2.out.step hx.below)
  clear hx B2 Q2
  have hz := zeroA87
  have hst := run_storeCells_new (P := Try.prog) w3 87 (aI fun _ => 0) (aI f) (sizeA87 _) (by rw [aI_size, aI_size]) (aI_one _)
  have hs0 := aI_size f
  go_wp2_with fail
  clear hz hst hs0
  refine wp_named ?_
  intro W2 hW2
  have hx : Ext w3 W2 := by rw [hW2]; exact (Ext.refl _).alloc _
  have hF : Blk W2 w3.heap.size (aI f) 87 := by rw [hW2]; exact Blk.new _ _ _
  have B4 := Lib.hid ((B3.out.step hx.below).cons (s := Sp.blk w3.heap.size (aI f) 87) hF)
  clear hx hF hW2 B3
  go_loopw [36] (fun i wr => ∃ j : Nat, j ≤ 2 ∧ i = .int .i64 j ∧ Below W2.heap.size W2 wr) (fun i _ => 2 - (intOf i).toNat)
  case atStart => exact ⟨0, by omega, rfl, Below.refl _ _⟩
  case round =>
    obtain ⟨j, hj, rfl, hx⟩ := hrel
    obtain ⟨wo, rfl⟩ : ∃ wo : World, wo = wr := ⟨_, rfl⟩
    have HX := Lib.hid hx
    -- bag: 0 blk f, 1 al, 2 blk s, 3 since w, 4 sets, 5 ints, 6 bytes
    have B5 := Lib.hid ((B4.out.step hx).cons (s := Sp.since W2) hx)
    clear hx
    by_cases hlt : j < 2
    · have hji : (j : Int) < 2 := by omega

      go_wp2_with fail
      refine (CI.out _ _ (B5.out.sl 6 rfl)).mono ?_
      rintro e w6 ⟨u11, rfl, ho, hx⟩
      have B6 := Lib.hid ((B5.out.step hx).cons (s := Sp.sl encZ u11 ls) ho)
      clear hx B5 ho
      go_wp2_with fail
      refine (CB.out _ _ (B6.out.sl 8 rfl)).mono ?_
      rintro e w7 ⟨u12, rfl, ho, hx⟩
      have B7 := Lib.hid ((B6.out.step hx).cons (s := Sp.sl encB u12 bs) ho)
      clear hx B6 ho
      obtain ⟨q0, q1, q2, q3⟩ := Blk.set4 (w := w7) (b := w.heap.size) (s := s) (t := 25) (B7.out.blk 5 rfl)
      go_wp2_with fail
      refine (C1.out _ _ _ (B7.out.al 4 rfl)).mono ?_
      rintro e w8 ⟨u13, rfl, ho, hx⟩
      obtain ⟨a13, c13, rfl⟩ := ownsRow_form ho
      obtain ⟨base13, hb13⟩ : ∃ z, z = w7.heap.size := ⟨_, rfl⟩
      rw [← hb13] at ho
      have hb13' : W2.heap.size ≤ base13 := by rw [hb13]; exact (B7.out.since 2 rfl : Below _ _ _).size
      clear hb13
      have B8 := Lib.hid ((B7.out.step hx).cons (s := Sp.own base13 3 1 (.slice a13 q.length c13) q.length (q.map encN)) ho)
      clear hx B7 ho
      clear q0 q1 q2 q3
      go_wp2
      refine wp_region_reg false (fun _ => False) (by kernel_rfl) 9 [0, 0, 2, 7, 15, 31, 31, 63, 255] (fun i => i == 2 || i == 3) (by kernel_rfl) (fun i => if i = 2 then Eff.det _ (.agg (aI (refS s))) else if i = 3 then Eff.clR encN q (.int .i64 y1) else Eff.any _) ?_
      intro C hC hne
      have HC := Lib.hid hC
      obtain ⟨q0, q1, q2, q3⟩ := regSet hC (B8.out.blk 6 rfl)
      clear hC
      refine regStep (fun K hK => ?_)
      refine regL rfl rfl (.agg (aI f)) (fun W hW hN => have hM := (HC.out W).1 hW; floatAt_load 87 (.tmp 10) rfl (w3.heap.size) 0 rfl (aI f) _ (rangeAt_keeps (Blk.range (B8.out.blk 4 rfl)) hM.keeps ⟨Blk.lt (B8.out.blk 4 rfl), fun h => h⟩) Try.underlying87 rfl (sizeA87 f)) ?_
      go_simp
      refine hK _ _ ?_
      clear hK K
      repeat (refine regStep (fun K hK => ?_); first | (refine regN rfl ?_; try go_simp; refine hK _ _ ?_; clear hK K) | (refine regF rfl rfl ?_; unfold floatAt; go_simp; refine hK _ _ ?_; clear hK K))
      refine regStep (fun K hK => ?_)
      refine regE rfl rfl (Eff.det _ (.agg (aI (refS s)))) rfl (fun W hW hN => ?_) (fun v hv => ?_)
      · have hM := (HC.out W).1 hW
        clear hW
        go_simp
        refine effT_call ((C2.out _).mono ?_)
        rintro e w2 ⟨rfl, hx⟩
        exact ⟨_, rfl, Move.of_ext hx, rfl, trivial⟩
      replace hv : v = _ := hv
      subst hv
      go_simp
      refine hK _ _ ?_
      clear hK K
      refine regStep (fun K hK => ?_)
      refine regE rfl rfl (Eff.clR encN q (.int .i64 y1)) rfl (fun W hW hN => ?_) (fun v hv => ?_)
      · have hM := (HC.out W).1 hW
        clear hW
        go_simp
        refine effT_call ((C3.out _).mono ?_)
        rintro e w2 ⟨u, rfl, ho, hx⟩
        exact ⟨_, rfl, Move.of_below hx, clR_form ho, (clR_keep ho)⟩
      obtain ⟨a15, c15, rfl⟩ := hv
      go_simp
      refine hK _ _ ?_
      clear hK K
      repeat (refine regStep (fun K hK => ?_); first | (refine regN rfl ?_; try go_simp; refine hK _ _ ?_; clear hK K) | (refine regF rfl rfl ?_; unfold floatAt; go_simp; refine hK _ _ ?_; clear hK K))
      refine regNil (fun w9 hW hH => ?_)
      have hM := (HC.out w9).1 hW
      have hq15 : IsSl encN w9 (.slice a15 q.length c15) q := hH _ (List.mem_cons_self ..) _ rfl
      have B9 := Lib.hid ((B8.out.step hM.below).cons (s := Sp.sl encN (.slice a15 q.length c15) q) hq15)
      clear hq15 hM hW hH HC hne q0 q1 q2 q3 B8
      go_wp2_with fail
      refine (C4.out _ _ _ _ (B9.out.al 6 rfl) (B9.out.sl 3 rfl)).mono ?_
      rintro e w10 ⟨rfl, hx⟩
      have B10 := Lib.hid (B9.out.step hx.below)
      clear hx B9
      go_wp2_with (first | (refine wpList_load_w rfl 87 (.tmp 10) rfl w3.heap.size rfl (aI f) _ (Blk.range ((B10.out.blk 5 rfl).alloc _)) Try.underlying87 rfl (sizeA87 f) ?_))
      refine calls_named ?_
      intro V10 hV
      have hx : Below w10.heap.size w10 V10 := by rw [hV]; exact ((Ext.refl _).alloc _).below
      have hT : Blk V10 w10.heap.size (encS t) 25 := by rw [hV]; exact Blk.new _ _ _
      have B11 := Lib.hid ((B10.out.step hx).cons (s := Sp.blk w10.heap.size (encS t) 25) hT)
      clear hV hx hT B10
      refine (C5.out _ _ (B11.out.sl 11 rfl)).mono ?_
      rintro e w11 ⟨rfl, hx⟩
      have B12 := Lib.hid (B11.out.step hx)
      clear hx B11
      have hz := zeroA56
      have hst := run_storeCells_new (P := Try.prog) w11 56 (aI fun _ => 0) (aI tf) (sizeA56 _) (by rw [aI_size, aI_size]) (aI_one _)
      have hs0 := aI_size tf
      go_wp2_with fail
      clear hz hst hs0
      refine calls_named ?_
      intro V11 hV
      have hx : Below w11.heap.size w11 V11 := by rw [hV]; exact ((Ext.refl _).alloc _).below
      have hT : Blk V11 w11.heap.size (aI tf) 56 := by rw [hV]; exact Blk.new _ _ _
      have B13 := Lib.hid ((B12.out.step hx).cons (s := Sp.blk w11.heap.size (aI tf) 56) hT)
      clear hV hx hT B12
      refine (C6.out _ _ _ _ (B13.out.al 8 rfl) (B13.out.sl 4 rfl)).mono ?_
      rintro e w12 ⟨u21, rfl, ho, hx⟩
      obtain ⟨a21, c21, rfl⟩ := ownsRow_form ho
      obtain ⟨base21, hbb⟩ : ∃ z, z = V11.heap.size := ⟨_, rfl⟩
      rw [← hbb] at ho
      have hb21' : W2.heap.size ≤ base21 := by rw [hbb]; exact (B13.out.since 6 rfl : Below _ _ _).size
      have hp21 : ∀ k, (Value.slice a13 q.length c13).ownBlock = some k → k < base21 := fun k e => by rw [hbb]; exact ((B13.out.own 3 rfl).lt k e).2
      clear hbb
      have B14 := Lib.hid ((B13.out.step hx).cons (s := Sp.own base21 3 1 (.slice a21 wl.length c21) wl.length (wl.map encN)) ho)
      clear hx B13 ho
      go_wp2_with fail
      refine (C7.out _ _ _ _ (B14.out.al 9 rfl) (B14.out.sl 6 rfl)).mono ?_
      rintro e w13 ⟨u22, rfl, ho, hx⟩
      obtain ⟨a22, c22, rfl⟩ := ownsRow_form ho
      obtain ⟨base22, hbb⟩ : ∃ z, z = w12.heap.size := ⟨_, rfl⟩
      rw [← hbb] at ho
      have hb22' : W2.heap.size ≤ base22 := by rw [hbb]; exact (B14.out.since 7 rfl : Below _ _ _).size
      have hp22 : ∀ k, (Value.slice a13 q.length c13).ownBlock = some k → k < base22 := fun k e => by rw [hbb]; exact ((B14.out.own 4 rfl).lt k e).2
      have hw22 : ∀ k, (Value.slice a21 wl.length c21).ownBlock = some k → k < base22 := fun k e => by rw [hbb]; exact ((B14.out.own 0 rfl).lt k e).2
      clear hbb
      have B15 := Lib.hid ((B14.out.step hx).cons (s := Sp.own base22 5 1 (.slice a22 yb.length c22) yb.length (yb.map encB)) ho)
      clear hx B14 ho
      have HP21 := Lib.hid hp21
      have HP22 := Lib.hid hp22
      have HW22 := Lib.hid hw22
      clear hp21 hp22 hw22
      go_wp2_with (first | (refine wpList_load_w rfl 87 (.tmp 10) rfl w3.heap.size rfl (aI f) _ (Blk.range (B15.out.blk 9 rfl)) Try.underlying87 rfl (sizeA87 f) ?_))
      refine (C8.out _ _ (B15.out.sl 14 rfl)).mono ?_
      rintro e w14 ⟨u24, rfl, ho, hx⟩
      obtain ⟨a24, c24, rfl⟩ := ho.form
      have B16 := Lib.hid ((B15.out.step hx).cons (s := Sp.sl encB (.slice a24 yb.length c24) yb) ho)
      clear hx B15 ho
      go_wp2
      refine wp_region_reg false (fun _ => False) (by kernel_rfl) 59 [0, 0, 3, 7, 15, 31, 31, 127, 255, 511, 1023, 1023, 4095, 1023, 9215, 32767, 65535, 131071, 262143, 262143, 786431, 2097151, 4194303, 8388607, 16777215, 16777215, 67108863, 134217727, 268435455, 536870911, 536870911, 536870911, 3758096383, 8589934591, 17179869183, 34359738367, 68719476735, 137438953471, 137438953471, 549755813887, 1099511627775, 2199023255551, 4398046511103, 8796093022207, 8796093022207, 35184372088831, 70368744177663, 140737488355327, 281474976710655, 281474976710655, 1125899906842623, 2251799813685247, 4503599627370495, 9007199254740991, 18014398509481983, 18014398509481983, 72057594037927935, 144115188075855871, 288230376151711743] (fun i => i == 2 || i == 12 || i == 20 || i == 32 || i == 33 || i == 39 || i == 50 || i == 56) (by kernel_rfl) (fun i => if i = 2 then Eff.det _ (.bool true) else if i = 12 then Eff.det _ (.bool z4) else if i = 20 then Eff.det _ (.agg (encS t)) else if i = 32 then Eff.slN encN wl else if i = 33 then Eff.det _ (.bool true) else if i = 39 then Eff.det _ (.bool true) else if i = 50 then Eff.det _ (.bool true) else if i = 56 then Eff.det _ (.bool true) else Eff.any _) ?_
      intro C hC hne
      have HC := Lib.hid hC
      obtain ⟨q0, q1, q2, q3⟩ := regSet hC (B16.out.blk 12 rfl)
      obtain ⟨r0, r1, r2, r3⟩ := regSet hC (B16.out.blk 4 rfl)
      clear hC
      repeat (refine regStep (fun K hK => ?_); first | (refine regN rfl ?_; try go_simp; refine hK _ _ ?_; clear hK K) | (refine regF rfl rfl ?_; unfold floatAt; go_simp; refine hK _ _ ?_; clear hK K))
      refine regStep (fun K hK => ?_)
      refine regE rfl rfl (Eff.det _ (.bool true)) rfl (fun W hW hN => ?_) (fun v hv => ?_)
      · have hM := (HC.out W).1 hW
        clear hW
        go_simp
        refine effT_call ((C9.out _ _ _ (ownsRow_sl ((B16.out.step hM.below).own 6 rfl) rfl) ((B16.out.step hM.below).sl 5 rfl)).mono ?_)
        rintro e w2 ⟨rfl, hx⟩
        exact ⟨_, rfl, Move.of_ext hx, rfl, trivial⟩
      replace hv : v = _ := hv
      subst hv
      go_simp
      refine hK _ _ ?_
      clear hK K
      repeat (refine regStep (fun K hK => ?_); first | (refine regN rfl ?_; try go_simp; refine hK _ _ ?_; clear hK K) | (refine regF rfl rfl ?_; unfold floatAt; go_simp; refine hK _ _ ?_; clear hK K))
      refine regStep (fun K hK => ?_)
      refine regE rfl rfl (Eff.det _ (.bool z4)) rfl (fun W hW hN => ?_) (fun v hv => ?_)
      · have hM := (HC.out W).1 hW
        clear hW
        go_simp
        refine effT_call ((C10.out _ _ _ ((B16.out.step hM.below).al 11 rfl)).mono ?_)
        rintro e w2 ⟨rfl, hx⟩
        exact ⟨_, rfl, Move.of_below hx, rfl, trivial⟩
      replace hv : v = _ := hv
      subst hv
      go_simp
      refine hK _ _ ?_
      clear hK K
      have hz4 := HZ4.out.symm
      repeat (refine regStep (fun K hK => ?_); first | (refine regN rfl ?_; try go_simp; refine hK _ _ ?_; clear hK K) | (refine regF rfl rfl ?_; unfold floatAt; go_simp; refine hK _ _ ?_; clear hK K))
      clear hz4
      refine regStep (fun K hK => ?_)
      refine regL rfl rfl (.agg (aI tf)) (fun W hW hN => have hM := (HC.out W).1 hW; floatAt_load 56 (.tmp 19) rfl (w11.heap.size) 0 rfl (aI tf) _ (Blk.range ((B16.out.step hM.below).blk 3 rfl)) Try.underlying56 rfl (sizeA56 tf)) ?_
      go_simp
      refine hK _ _ ?_
      clear hK K
      refine regStep (fun K hK => ?_)
      refine regE rfl rfl (Eff.det _ (.agg (encS t))) rfl (fun W hW hN => ?_) (fun v hv => ?_)
      · have hM := (HC.out W).1 hW
        clear hW
        go_simp
        refine effT_call ((C11.out _).mono ?_)
        rintro e w2 ⟨rfl, hx⟩
        exact ⟨_, rfl, Move.of_ext hx, rfl, trivial⟩
      replace hv : v = _ := hv
      subst hv
      go_simp
      refine hK _ _ ?_
      clear hK K
      have heq := set_equal_self t
      repeat (refine regStep (fun K hK => ?_); first | (refine regN rfl ?_; try go_simp; refine hK _ _ ?_; clear hK K) | (refine regF rfl rfl ?_; unfold floatAt; go_simp; refine hK _ _ ?_; clear hK K))
      clear heq
      refine regStep (fun K hK => ?_)
      refine regL rfl rfl (.agg (aI f)) (fun W hW hN => have hM := (HC.out W).1 hW; floatAt_load 87 (.tmp 10) rfl (w3.heap.size) 0 rfl (aI f) _ (Blk.range ((B16.out.step hM.below).blk 10 rfl)) Try.underlying87 rfl (sizeA87 f)) ?_
      go_simp
      refine hK _ _ ?_
      clear hK K
      repeat (refine regStep (fun K hK => ?_); first | (refine regN rfl ?_; try go_simp; refine hK _ _ ?_; clear hK K) | (refine regF rfl rfl ?_; unfold floatAt; go_simp; refine hK _ _ ?_; clear hK K))
      refine regStep (fun K hK => ?_)
      refine regE rfl rfl (Eff.slN encN wl) rfl (fun W hW hN => ?_) (fun v hv => ?_)
      · have hM := (HC.out W).1 hW
        clear hW
        go_simp
        refine effT_call ((C12.out _ _ ((B16.out.step hM.below).sl 16 rfl)).mono ?_)
        rintro e w2 ⟨u, rfl, ho, hx⟩
        exact ⟨_, rfl, Move.of_below hx, ho.form, ho⟩
      obtain ⟨a32, c32, rfl⟩ := hv
      go_simp
      refine hK _ _ ?_
      clear hK K
      refine regStep (fun K hK => ?_)
      refine regE rfl rfl (Eff.det _ (.bool true)) rfl (fun W hW hN => ?_) (fun v hv => ?_)
      · have hM := (HC.out W).1 hW
        clear hW
        go_simp
        refine effT_call ((C13.out _ _ _ (ownsRow_sl ((B16.out.step hM.below).own 2 rfl) rfl) (hN.at 0 rfl (by kernel_rfl))).mono ?_)
        rintro e w2 ⟨rfl, hx⟩
        exact ⟨_, rfl, Move.of_ext hx, rfl, trivial⟩
      replace hv : v = _ := hv
      subst hv
      go_simp
      refine hK _ _ ?_
      clear hK K
      repeat (refine regStep (fun K hK => ?_); first | (refine regN rfl ?_; try go_simp; refine hK _ _ ?_; clear hK K) | (refine regF rfl rfl ?_; unfold floatAt; go_simp; refine hK _ _ ?_; clear hK K))
      refine regStep (fun K hK => ?_)
      refine regE rfl rfl (Eff.det _ (.bool true)) rfl (fun W hW hN => ?_) (fun v hv => ?_)
      · have hM := (HC.out W).1 hW
        clear hW
        go_simp
        refine effT_call ((C14.out _ _ _ (ownsRow_sl ((B16.out.step hM.below).own 1 rfl) rfl) ((B16.out.step hM.below).sl 0 rfl)).mono ?_)
        rintro e w2 ⟨rfl, hx⟩
        exact ⟨_, rfl, Move.of_ext hx, rfl, trivial⟩
      replace hv : v = _ := hv
      subst hv
      go_simp
      refine hK _ _ ?_
      clear hK K
      repeat (refine regStep (fun K hK => ?_); first | (refine regN rfl ?_; try go_simp; refine hK _ _ ?_; clear hK K) | (refine regF rfl rfl ?_; unfold floatAt; go_simp; refine hK _ _ ?_; clear hK K))
      refine regStep (fun K hK => ?_)
      refine regE rfl rfl (Eff.det _ (.bool true)) rfl (fun W hW hN => ?_) (fun v hv => ?_)
      · have hM := (HC.out W).1 hW
        clear hW
        go_simp
        refine effT_call ((C15.out _ _ _ ((B16.out.step hM.below).sl 8 rfl) ((B16.out.step hM.below).sl 15 rfl)).mono ?_)
        rintro e w2 ⟨rfl, hx⟩
        exact ⟨_, rfl, Move.of_ext hx, rfl, trivial⟩
      replace hv : v = _ := hv
      subst hv
      go_simp
      refine hK _ _ ?_
      clear hK K
      repeat (refine regStep (fun K hK => ?_); first | (refine regN rfl ?_; try go_simp; refine hK _ _ ?_; clear hK K) | (refine regF rfl rfl ?_; unfold floatAt; go_simp; refine hK _ _ ?_; clear hK K))
      refine regStep (fun K hK => ?_)
      refine regE rfl rfl (Eff.det _ (.bool true)) rfl (fun W hW hN => ?_) (fun v hv => ?_)
      · have hM := (HC.out W).1 hW
        clear hW
        go_simp
        refine effT_call ((C16.out _ _ _ ((B16.out.step hM.below).sl 7 rfl) ((B16.out.step hM.below).sl 16 rfl)).mono ?_)
        rintro e w2 ⟨rfl, hx⟩
        exact ⟨_, rfl, Move.of_ext hx, rfl, trivial⟩
      replace hv : v = _ := hv
      subst hv
      go_simp
      refine hK _ _ ?_
      clear hK K
      repeat (refine regStep (fun K hK => ?_); first | (refine regN rfl ?_; try go_simp; refine hK _ _ ?_; clear hK K) | (refine regF rfl rfl ?_; unfold floatAt; go_simp; refine hK _ _ ?_; clear hK K))
      refine regNil (fun U0 hW hH => ?_)
      have hM := (HC.out U0).1 hW
      have P0 := Lib.hid ((B16.out.step hM.below).own 6 rfl)
      have Q0 := Lib.hid ((B16.out.step hM.below).own 2 rfl)
      have R0 := Lib.hid ((B16.out.step hM.below).own 1 rfl)
      have K0 := Lib.hid ((B16.out.step hM.below).since 9 rfl)
      clear hM hW hH HC hne q0 q1 q2 q3 r0 r1 r2 r3 B16
      obtain ⟨m1, hm1⟩ : ∃ m, m = q.length := ⟨_, rfl⟩
      obtain ⟨m2, hm2⟩ : ∃ m, m = wl.length := ⟨_, rfl⟩
      obtain ⟨m3, hm3⟩ : ∃ m, m = yb.length := ⟨_, rfl⟩
      rw [← hm1, ← hm2, ← hm3]
      rw [← hm1] at P0 HP21 HP22 hql
      rw [← hm2] at Q0 HW22 hwll
      rw [← hm3] at R0 hybl
      clear hm1 hm2 hm3
      go_wp2
      go_loopw [143] (fun i wr => ∃ d : Nat, d ≤ m1 ∧ i = .int .i64 d ∧ (∃ ys, wr.ownsRow base13 3 1 (.slice a13 m1 c13) m1 ys) ∧ Keeps (fun x => x < U0.heap.size ∧ (Value.slice a13 m1 c13).ownBlock ≠ some x) U0 wr) (fun i _ => m1 - (intOf i).toNat)
      case atStart => exact ⟨0, by omega, rfl, ⟨_, P0.out⟩, Keeps.refl _ _⟩
      case round =>
        obtain ⟨d, hd, rfl, ⟨ys, ho⟩, hx⟩ := hrel
        obtain ⟨U1, rfl⟩ : ∃ U1 : World, U1 = wr := ⟨_, rfl⟩
        have HO := Lib.hid ho
        have HX := Lib.hid hx
        clear ho hx
        by_cases hdl : d < m1
        · rcases HO.out.2 with ⟨e, _⟩ | ⟨go, cap, cur, e, hbo, hgo, _⟩
          · exfalso; cases e; omega
          · cases e
            have ht : U1.there go d 1 := ownsRow_there HO.out (by omega)
            obtain ⟨c0, hc0⟩ := Option.isSome_iff_exists.1 (ht 0 (by decide)).1
            have d0 : U1.cell? ⟨go, d, none⟩ = some c0 := hc0
            have z0 : U1.frozen? ⟨go, d, none⟩ = false := (ht 0 (by decide)).2
            have hdi : (d : Int) < m1 := by omega
            clear ht hgo hc0
            go_wp2
            obtain ⟨h1, h2⟩ := HO.out.stored d (.int .i64 (-7))
            exact ⟨⟨d + 1, by omega, by go_num, ⟨_, h1⟩, HX.out.trans ((Keeps.refl (· ≠ go) _).setCell (p := ⟨go, d, none⟩) (fun h => h rfl) _) (fun x hx e => hx.2 (by rw [e]; rfl))⟩, by simp [intOf]; omega⟩
        · obtain rfl : d = m1 := by omega
          have Q1 : Hid (U1.ownsRow base21 3 1 (.slice a21 m2 c21) m2 (wl.map encN)) := ownsRow_keeps Q0.out HX.out fun k e => ⟨(Q0.out.lt k e).2, fun e' => by have := HP21.out k e'; have := (Q0.out.lt k e).1; omega⟩
          have R1 : Hid (U1.ownsRow base22 5 1 (.slice a22 m3 c22) m3 (yb.map encB)) := ownsRow_keeps R0.out HX.out fun k e => ⟨(R0.out.lt k e).2, fun e' => by have := HP22.out k e'; have := (R0.out.lt k e).1; omega⟩
          have K1 : Hid (Below W2.heap.size W2 U1) := K0.out.trans (HX.out.mono fun x hx => ⟨Nat.lt_of_lt_of_le hx K0.out.size, fun e => by have := (HO.out.lt x e).1; omega⟩ : Keeps (· < W2.heap.size) U0 U1).below
          clear HO HX P0 Q0 R0 K0
          go_wp2
          go_loopw [152] (fun i wr => ∃ d : Nat, d ≤ m2 ∧ i = .int .i64 d ∧ (∃ ys, wr.ownsRow base21 3 1 (.slice a21 m2 c21) m2 ys) ∧ Keeps (fun x => x < U1.heap.size ∧ (Value.slice a21 m2 c21).ownBlock ≠ some x) U1 wr) (fun i _ => m2 - (intOf i).toNat)
          case atStart => exact ⟨0, by omega, rfl, ⟨_, Q1.out⟩, Keeps.refl _ _⟩
          case round =>
            obtain ⟨d2, hd2, rfl, ⟨ys, ho⟩, hx⟩ := hrel
            obtain ⟨U2, rfl⟩ : ∃ U2 : World, U2 = wr := ⟨_, rfl⟩
            have HO := Lib.hid ho
            have HX := Lib.hid hx
            clear ho hx
            by_cases hdl2 : d2 < m2
            · rcases HO.out.2 with ⟨e, _⟩ | ⟨go, cap, cur, e, hbo, hgo, _⟩
              · exfalso; cases e; omega
              · cases e
                have ht : U2.there go d2 1 := ownsRow_there HO.out (by omega)
                obtain ⟨c0, hc0⟩ := Option.isSome_iff_exists.1 (ht 0 (by decide)).1
                have d0 : U2.cell? ⟨go, d2, none⟩ = some c0 := hc0
                have z0 : U2.frozen? ⟨go, d2, none⟩ = false := (ht 0 (by decide)).2
                have hdi : (d2 : Int) < m2 := by omega
                clear ht hgo hc0
                go_wp2
                obtain ⟨h1, h2⟩ := HO.out.stored d2 (.int .i64 (-7))
                exact ⟨⟨d2 + 1, by omega, by go_num, ⟨_, h1⟩, HX.out.trans ((Keeps.refl (· ≠ go) _).setCell (p := ⟨go, d2, none⟩) (fun h => h rfl) _) (fun x hx e => hx.2 (by rw [e]; rfl))⟩, by simp [intOf]; omega⟩
            · obtain rfl : d2 = m2 := by omega
              have R2 : Hid (U2.ownsRow base22 5 1 (.slice a22 m3 c22) m3 ((yb.map Int.ofNat).map fun z => Value.int .u8 z)) := by
                have := ownsRow_keeps R1.out HX.out fun k e => ⟨(R1.out.lt k e).2, fun e' => by have := HW22.out k e'; have := (R1.out.lt k e).1; omega⟩
                rw [List.map_map]; exact this
              have K2 : Hid (Below W2.heap.size W2 U2) := K1.out.trans (HX.out.mono fun x hx => ⟨Nat.lt_of_lt_of_le hx K1.out.size, fun e => by have := (HO.out.lt x e).1; omega⟩ : Keeps (· < W2.heap.size) U1 U2).below
              clear HO HX Q1 R1 K1
              go_wp2
              go_loopw [161] (fun i wr => ∃ d : Nat, d ≤ m3 ∧ i = .int .i64 d ∧ (∃ ys : List Int, wr.ownsRow base22 5 1 (.slice a22 m3 c22) m3 (ys.map fun z => Value.int .u8 z)) ∧ Keeps (fun x => x < U2.heap.size ∧ (Value.slice a22 m3 c22).ownBlock ≠ some x) U2 wr) (fun i _ => m3 - (intOf i).toNat)
              case atStart => exact ⟨0, by omega, rfl, ⟨_, R2.out⟩, Keeps.refl _ _⟩
              case round =>
                obtain ⟨d3, hd3, rfl, ⟨ys, ho⟩, hx⟩ := hrel
                obtain ⟨U3, rfl⟩ : ∃ U3 : World, U3 = wr := ⟨_, rfl⟩
                have HO := Lib.hid ho
                have HX := Lib.hid hx
                clear ho hx
                by_cases hdl3 : d3 < m3
                · rcases HO.out.2 with ⟨e, _⟩ | ⟨go, cap, cur, e, hbo, hgo, _⟩
                  · exfalso; cases e; omega
                  · cases e
                    have hyl : ys.length = m3 := by have := HO.out.1; simpa using this
                    have d0 : U3.cell? ⟨go, d3, none⟩ = some (.int .u8 (ys[d3]'(by omega))) := by
                      rw [HO.out.cellAt d3 (by omega), List.getElem?_map, List.getElem?_eq_getElem (by omega)]; rfl
                    have z0 : U3.frozen? ⟨go, d3, none⟩ = false := HO.out.frozenAt _
                    obtain ⟨y, hy⟩ : ∃ y, y = ys[d3]'(by omega) := ⟨_, rfl⟩
                    rw [← hy] at d0
                    have hdi : (d3 : Int) < m3 := by omega
                    clear hgo hy hyl
                    go_wp2
                    obtain ⟨h1, h2⟩ := HO.out.stored d3 (.int .u8 (bits .xor .u8 y 255))
                    rw [← List.map_set] at h1
                    exact ⟨⟨d3 + 1, by omega, by go_num, ⟨_, h1⟩, HX.out.trans ((Keeps.refl (· ≠ go) _).setCell (p := ⟨go, d3, none⟩) (fun h => h rfl) _) (fun x hx e => hx.2 (by rw [e]; rfl))⟩, by simp [intOf]; omega⟩
                · obtain rfl : d3 = m3 := by omega
                  have K3 : Hid (Below W2.heap.size W2 U3) := K2.out.trans (HX.out.mono fun x hx => ⟨Nat.lt_of_lt_of_le hx K2.out.size, fun e => by have := (HO.out.lt x e).1; omega⟩ : Keeps (· < W2.heap.size) U2 U3).below
                  clear HO HX R2 K2
                  go_wp2
                  exact ⟨⟨j + 1, by omega, by go_num, K3.out⟩, by simp [intOf]; omega⟩
    · obtain rfl : j = 2 := by omega
      go_wp2
      go_ret
      exact ⟨rfl, B5.out.since 4 rfl⟩
end Go.Proofs.Ytokkgbcjjaiaeaa
