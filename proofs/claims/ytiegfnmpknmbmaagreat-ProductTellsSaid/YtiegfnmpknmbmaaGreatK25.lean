/-
  product.Of, where it makes an automaton or runs out of fuel.
-/
import Derived.Test.YtiegfnmpknmbmaaGreatK24
namespace Go.Proofs.YtiegfnmpknmbmaaGreat
open Go Go.RowKit Go.Shelf Go.Maps
attribute [local go_sem] encS

/-- A row of heads onto which one known head is laid. -/
def nxApp (lo : Nat) (v : Value) (n : Nat) (us : List Value) (x : Value) : Ap3.App := ⟨36, 1, v, n, us, 1, lo, fun ns _ => ns = [x], fun _ _ _ _ h => h⟩
/-- .. one head of a new row with known cells. -/
def mkApp (lo : Nat) (v : Value) (n : Nat) (us : List Value) (ml : Nat) (mx : List Value) : Ap3.App := ⟨36, 1, v, n, us, 1, lo, fun ns W => ∃ u, ns = [u] ∧ u.oneCell' = true ∧ W.ownsRow lo 3 1 u ml mx, fun _ _ _ hk ⟨u, h1, h2, h3⟩ => ⟨u, h1, h2, ownsRow_keeps h3 hk fun x hx => h3.lt x hx⟩⟩
/-- One more row behind the others, in a later world. -/
theorem OwnLL.more {base : Nat} {W : World} {v : Value} {ll : List (List Int)} {l : List Int} {us : List Value} {u : Value} {n : Nat} (h1 : us.length = ll.length) (hn : us.length = n) (ho : W.ownsRow base 36 1 v (n + 1) (us ++ [u]))
    (h3 : ∀ (i : Nat) (u : Value) (l : List Int), us[i]? = some u → ll[i]? = some l → W.ownsRow base 3 1 u l.length (l.map encZ)) (hu : W.ownsRow base 3 1 u l.length (l.map encZ)) : OwnLL base W v (ll ++ [l]) := by
  subst hn
  refine ⟨us ++ [u], by simp [h1], by simpa using ho, fun i x y hx hy => ?_⟩
  by_cases hi : i < us.length
  · rw [List.getElem?_append_left hi] at hx
    rw [List.getElem?_append_left (by omega)] at hy
    exact h3 i x y hx hy
  · have hil := (List.getElem?_eq_some_iff.1 hx).1
    simp at hil
    obtain rfl : i = us.length := by omega
    simp at hx
    subst hx
    rw [h1] at hy
    simp at hy
    subst hy
    exact hu
theorem push_set {α : Type} (xs : Array α) (x y : α) : (xs.push x).setIfInBounds xs.size y = xs.push y := by
  apply Array.ext
  · simp
  · intro i h1 h2
    rw [Array.getElem_setIfInBounds (by simpa using h1)]
    by_cases e : xs.size = i
    · subst e; simp
    · rw [if_neg e]
      simp at h1 h2
      rw [Array.getElem_push_lt (by omega), Array.getElem_push_lt (by omega)]
theorem put_first (w : World) : (Instr.mapUpdate 94 (.map (some w.heap.size)) (.agg #[.int .i64 0, .int .i64 0]) (.int .i64 0)).run Tryz.prog (w.alloc (.map #[] 0)) = .ok () (w.alloc (.map (entOf 0 [(0, 0)]).toArray 1)) := by
  have h : IsNum (w.alloc (.map #[] 0)) w.heap.size [] := (MapKept.heap_alloc w _).1
  obtain ⟨kl, hk⟩ := keyPair (0, 0) (by decide) (by decide)
  have K := Tryz.keyedPair
  rcases K.find (w.alloc (.map #[] 0)) hk [] (by simp) with ⟨f1, f2⟩ | ⟨j, e0, f1, f2, f3⟩
  · have hb : (w.alloc (.map #[] 0)).heap[w.heap.size]? = some (.map #[] 0) := h
    have hr : (Instr.mapUpdate 94 (.map (some w.heap.size)) (pairV (0, 0)) (.int .i64 0)).run Tryz.prog (w.alloc (.map #[] 0)) = .ok () (w.alloc (.map (entOf 0 [(0, 0)]).toArray 1)) := by
      simp [entOf, Instr.mapUpdate, run_underlying Tryz.underlying94, MapKept.run_getObj_map hb, K.check _ false hk, f1, MapKept.run_setObj_map _ hb, Result.andThen]
      show ({ heap := (w.heap.push (Obj.map #[] 0)).setIfInBounds w.heap.size _, tape := w.tape, drawn := w.drawn, os := w.os, output := w.output } : World) = _
      rw [push_set]
      rfl
    exact hr
  · cases f2
set_option maxRecDepth 100000 in
theorem eq_nilF (g : Nat) (W : World) : (binOp BinOp.eql 87 (.func (.func g) #[] #[]) .nilFunc).run Tryz.prog W = .ok (.bool false) W := by kernel_rfl
set_option maxRecDepth 100000 in
set_option maxHeartbeats 8000000 in
theorem prod_main (v v' : Value) (a b : DF) (ra : Rt a) (rb : Rt b) (sa : Sm a) (sb : Sm b) (op : Nat) (h1p : 1 ≤ op) (h4p : op ≤ 4) (f : Nat) (hf1 : 1 ≤ f) (hf4 : f ≤ 4000) (w : World) (h : IsDf w v a) (h' : IsDf w v' b) :
    Calls Tryz.prog 19 #[v, v', .int .u8 op, .int .i64 f] w fun e w' => ∃ u, e = .returned (.tuple #[u, .int .i64 (prodE a b op f).2]) ∧ OwnDf w.heap.size w' u (prodE a b op f).1 ∧ Below w.heap.size w w' := by
  obtain ⟨iP, hiP, hzP0, hzP1, hzP2⟩ := info_parts Tryz.infoP
  obtain ⟨iL, hiL, hzL0, hzL1, hzL2⟩ := info_parts Tryz.infoL
  obtain ⟨iI, hiI, hzI0, hzI1, hzI2⟩ := info_parts Tryz.infoI
  have CR : Hid (∀ W, Below w.heap.size w W → Calls Tryz.prog 47 #[v] W fun e w' => e = .returned (.bool true) ∧ Below W.heap.size W w') := fun W hW => by
    have := right_any v a W (h.below hW) sa
    rwa [(right_iff a).2 ra] at this
  have CR' : Hid (∀ W, Below w.heap.size w W → Calls Tryz.prog 47 #[v'] W fun e w' => e = .returned (.bool true) ∧ Below W.heap.size W w') := fun W hW => by
    have := right_any v' b W (h'.below hW) sb
    rwa [(right_iff b).2 rb] at this
  have CS : Hid (∀ W, Calls Tryz.prog 46 #[.int .u8 op] W fun e w' => e = .returned (.func (.func (saysF op)) #[] #[]) ∧ w' = W) := fun W => says_some op h1p h4p W
  have CJ : Hid (∀ W, Below w.heap.size w W → Calls Tryz.prog 48 #[v, v', .func (.func (saysF op)) #[] #[]] W fun e w' => ∃ u, e = .returned u ∧ IsBoth W.heap.size w' u a b op ∧ Below W.heap.size W w') := fun W hW => pjoin_any v v' a b ra rb op W (h.below hW) (h'.below hW)
  obtain ⟨K, hK⟩ : ∃ n, n = (partsOf (a.cl ++ b.cl)).length := ⟨_, rfl⟩
  obtain ⟨F, hF⟩ : ∃ g, g = pairF a b := ⟨_, rfl⟩
  obtain ⟨gf, hgf⟩ : ∃ g, g = saysF op := ⟨_, rfl⟩
  have hK256 : K ≤ 256 := by rw [hK, (partsOf_perm _).length_eq]; exact partsRaw_len _
  have OK : Hid (∀ st n, stTo f F K (0, 0) n = some st → StOk f K (PairIn a b) (0, 0) n st) := fun st n h => by rw [hF, hK] at h; rw [hK]; exact prod_st ra rb hf1 h
  have FI : Hid (∀ p k, PairIn a b p → k < K → PairIn a b (F p k)) := fun p k h1 h2 => by rw [hF]; exact pairF_in ra rb p k h1 (by rw [← hK]; exact h2)
  have CN : Hid (∀ W base u p k, IsBoth base W u a b op → PairIn a b p → k < K → Calls Tryz.prog 49 #[u, .agg #[.int .i64 p.1, .int .i64 p.2], .int .i64 k] W fun e w' => e = .returned (.agg #[.int .i64 (F p k).1, .int .i64 (F p k).2]) ∧ Below W.heap.size W w') := fun W base u p k hb hp hk => by
    rw [hF]; exact next_any base u a b ra rb op p hp k (by rw [← hK]; exact hk) W hb
  have CM : Hid (∀ W base u p, IsBoth base W u a b op → PairIn a b p → Calls Tryz.prog 50 #[u, .agg #[.int .i64 p.1, .int .i64 p.2]] W fun e w' => ∃ m, e = .returned m ∧ w'.ownsRow W.heap.size 3 1 m (markOf a b op p).length ((markOf a b op p).map encZ) ∧ Below W.heap.size W w') := fun W base u p hb hp => bothMarks_any base u a b ra rb op h1p h4p p hp sa sb W hb
  have PI : Hid (∀ p, PairIn a b p → p.1 ≤ 4000 ∧ p.2 ≤ 4000) := fun p hp => ⟨Nat.le_of_lt (Nat.lt_of_lt_of_le hp.1 ra.le), Nat.le_of_lt (Nat.lt_of_lt_of_le hp.2 rb.le)⟩
  have EN : Hid (∀ n, stTo f F K (0, 0) n = none → n ≤ f → (prodE a b op f) = (dfZ, 181)) := fun n hn hle => by
    have e1 : prodOf a b op f = none := by unfold prodOf; rw [← hF, ← hK, stTo_none hn f hle]; rfl
    unfold prodE
    rw [(right_iff a).2 ra, (right_iff b).2 rb, if_neg (by decide), if_neg (by omega), if_neg (by omega), if_neg (by omega), Int.toNat_natCast, e1]
  have ES : Hid (∀ n st, stTo f F K (0, 0) n = some st → st.1.length ≤ n → n ≤ f → (prodE a b op f) = (⟨partsOf (a.cl ++ b.cl), st.2.map fun r => r.map Int.ofNat, st.1.map (markOf a b op)⟩, 0)) := fun n st hn hl hle => by
    have e1 : prodOf a b op f = some ⟨partsOf (a.cl ++ b.cl), st.2.map fun r => r.map Int.ofNat, st.1.map (markOf a b op)⟩ := by unfold prodOf; rw [← hF, ← hK, stTo_end hn hl f hle]; rfl
    unfold prodE
    rw [(right_iff a).2 ra, (right_iff b).2 rb, if_neg (by decide), if_neg (by omega), if_neg (by omega), if_neg (by omega), Int.toNat_natCast, e1]
  have HK := Lib.hid hK
  have HFF := Lib.hid hF
  have HGF := Lib.hid hgf
  rw [← hgf] at CS CJ
  obtain ⟨v0, v1, v2, rfl, h0, h1, h2⟩ := h
  obtain ⟨u0, u1, u2, rfl, g0, g1, g2⟩ := h'
  obtain ⟨PE, hPE⟩ : ∃ x, x = prodE a b op f := ⟨_, rfl⟩
  rw [← hPE] at EN ES ⊢
  clear h0 h1 h2 g0 g1 g2 hK hF hgf hPE
  have d1 : decide ((f : Int) < 0) = false := decide_eq_false (by omega)
  have d2 : decide ((4000 : Int) < f) = false := decide_eq_false (by omega)
  have d3 : ((f : Int) == 0) = false := by rw [beq_eq_false_iff_ne]; omega
  go_enter Tryz.func19, Tryz.ntmps19
  go_wp2_with fail
  refine calls_named ?_
  intro V hV
  have B4 : Hid (Blk V w.heap.size #[v0, v1, v2] 25) := by rw [hV]; exact ((Blk.new w _ _).alloc _).alloc _
  have B5 : Hid (Blk V (w.heap.size + 1) #[u0, u1, u2] 25) := by rw [hV]; exact ((Blk.new (w.alloc _) _ _).at (by simp)).alloc _
  have B8 : Hid (Blk V (w.heap.size + 2) #[.slice none 0 0, .slice none 0 0, .slice none 0 0] 25) := by rw [hV]; exact (Blk.new ((w.alloc _).alloc _) _ _).at (by simp)
  have X1 : Hid (Below w.heap.size w V) := by rw [hV]; exact ((((Ext.refl w).alloc _).alloc _).alloc _).below
  clear hV
  refine (CS.out V).mono ?_
  rintro e w' ⟨rfl, hw⟩
  replace hw := hw.symm
  subst hw
  obtain ⟨⟨k0, k1, k2⟩, _⟩ := B4.out.three
  go_wp2_with fail
  refine (CR.out V X1.out).mono ?_
  rintro e w2 ⟨rfl, hx⟩
  have C4 := Lib.hid (B4.out.below hx B4.out.lt)
  have C5 := Lib.hid (B5.out.below hx B5.out.lt)
  have C8 := Lib.hid (B8.out.below hx B8.out.lt)
  have X2 := Lib.hid (X1.out.trans (hx.mono X1.out.size))
  clear hx k0 k1 k2 B4 B5 B8 X1
  obtain ⟨⟨k0, k1, k2⟩, _⟩ := C5.out.three
  go_wp2_with fail
  refine (CR'.out w2 X2.out).mono ?_
  rintro e w3 ⟨rfl, hx⟩
  have D4 := Lib.hid (C4.out.below hx C4.out.lt)
  have D5 := Lib.hid (C5.out.below hx C5.out.lt)
  have D8 := Lib.hid (C8.out.below hx C8.out.lt)
  have X3 := Lib.hid (X2.out.trans (hx.mono X2.out.size))
  clear hx k0 k1 k2 C4 C5 C8 X2
  obtain ⟨⟨k0, k1, k2⟩, _⟩ := D4.out.three
  obtain ⟨⟨l0, l1, l2⟩, _⟩ := D5.out.three
  have hqn := eq_nilF gf
  go_wp2_with fail
  refine (CJ.out w3 X3.out).mono ?_
  rintro e w4 ⟨u, rfl, hb, hx⟩
  obtain ⟨a0, a1, a2, b0, b1, b2, c, o, t, hu, i1, i2, i3, i4, i5, i6, i7⟩ := hb
  obtain ⟨x0, y0, z0⟩ := a0
  obtain ⟨x3, y3, z3⟩ := b0
  replace hu : u = .agg #[.slice x0 y0 z0, a1, a2, .slice x3 y3 z3, b1, b2, c, o, t, .func (.func (saysF op)) #[] #[]] := hu
  subst hu
  obtain ⟨x1, z1, rfl⟩ := i1.form
  obtain ⟨x2, z2, rfl⟩ := i2.form
  obtain ⟨x4, z4, rfl⟩ := i3.form
  obtain ⟨x5, z5, rfl⟩ := i4.form
  obtain ⟨x7, z7, rfl⟩ := i6.form
  obtain ⟨x8, z8, rfl⟩ := i7.form
  generalize a.nx.length = y1 at *
  generalize a.mr.length = y2 at *
  generalize b.nx.length = y4 at *
  generalize b.mr.length = y5 at *
  generalize (oneOf a (partsOf (a.cl ++ b.cl))).length = y7 at *
  generalize (oneOf b (partsOf (a.cl ++ b.cl))).length = y8 at *
  have IB : Hid (IsBoth w3.heap.size w4 (.agg #[.slice x0 y0 z0, .slice x1 y1 z1, .slice x2 y2 z2, .slice x3 y3 z3, .slice x4 y4 z4, .slice x5 y5 z5, c, .slice x7 y7 z7, .slice x8 y8 z8, .func (.func gf) #[] #[]]) a b op) := Lib.hid ⟨(x0, y0, z0), _, _, (x3, y3, z3), _, _, _, _, _, by rw [HGF.out]; rfl, i1, i2, i3, i4, i5, i6, i7⟩
  rw [← HK.out] at i5
  obtain ⟨ca, cc, rfl⟩ := ownsRow_form i5
  have I5 := Lib.hid i5
  have E8 := Lib.hid (D8.out.below hx D8.out.lt)
  have X4 := Lib.hid (X3.out.trans (hx.mono X3.out.size))
  have hs8x : w.heap.size + 2 < w4.heap.size := Nat.lt_of_lt_of_le D8.out.lt hx.size
  have hs34 : w3.heap.size ≤ w4.heap.size := hx.size
  have hs8 : w.heap.size + 2 < w3.heap.size := D8.out.lt
  rw [← HGF.out]
  clear i1 i2 i3 i4 i5 i6 i7 k0 k1 k2 l0 l1 l2 D4 D5 D8 X3 hx CR CR' CS CJ
  have hmm := @run_makeMap Tryz.prog
  have hpf : ∀ o1 o2 : Obj, (Instr.mapUpdate 94 (.map (some (w4.heap.size + 1 + 1))) (.agg #[.int .i64 0, .int .i64 0]) (.int .i64 0)).run Tryz.prog (((w4.alloc o1).alloc o2).alloc (.map #[] 0)) = .ok () (((w4.alloc o1).alloc o2).alloc (.map (entOf 0 [(0, 0)]).toArray 1)) := fun o1 o2 => by
    have := put_first ((w4.alloc o1).alloc o2)
    rwa [show ((w4.alloc o1).alloc o2).heap.size = w4.heap.size + 1 + 1 by simp] at this
  go_wp2
  obtain ⟨g, hg⟩ : ∃ g, g = w4.heap.size := ⟨_, rfl⟩
  have HG4 := Lib.hid hg
  go_loopw [9, 14] (fun er tv wr => er = .int .i64 0 ∧ ∃ (n : Nat) (st : List (Nat × Nat) × List (List Nat)) (nx mk : Value), stTo f F K (0, 0) n = some st ∧ n ≤ st.1.length ∧ wr.ownsRow (w4.heap.size + 3) 93 2 tv st.1.length (flatP st.1) ∧ Blk wr w4.heap.size #[.slice x0 y0 z0, .slice x1 y1 z1, .slice x2 y2 z2, .slice x3 y3 z3, .slice x4 y4 z4, .slice x5 y5 z5, .slice ca K cc, .slice x7 y7 z7, .slice x8 y8 z8, .func (.func gf) #[] #[]] 90 ∧ Blk wr (w4.heap.size + 1) #[.slice ca K cc, nx, mk] 25 ∧ OwnLL (w4.heap.size + 3) wr nx (st.2.map fun r => r.map Int.ofNat) ∧ OwnLL (w4.heap.size + 3) wr mk ((st.1.take n).map (markOf a b op)) ∧ Far nx mk ∧ IsNum wr (w4.heap.size + 2) st.1 ∧ Below w4.heap.size w4 wr) (fun _ _ wr => f - lenAt wr ⟨w4.heap.size + 1, 1, none⟩)
  case atStart =>
    refine ⟨rfl, 0, ([(0, 0)], []), .slice none 0 0, .slice none 0 0, rfl, Nat.zero_le _, ⟨rfl, .inr ⟨_, 1, #[.int .i64 0, .int .i64 0], rfl, Nat.le_refl _, ?_, Nat.le_refl _, by unfold maxLen; omega, rfl, rfl⟩⟩, ?_, ?_, OwnLL.nil _ _, OwnLL.nil _ _, .inl rfl, ?_, ?_⟩
    · exact (Blk.new (((w4.alloc _).alloc _).alloc _) _ _).at (by simp)
    · exact (((Blk.new w4 _ _).alloc _).alloc _).alloc _
    · exact (((Blk.new (w4.alloc _) _ _).at (by simp)).alloc _).alloc _
    · have h1 : IsNum (((w4.alloc (.cells #[.slice x0 y0 z0, .slice x1 y1 z1, .slice x2 y2 z2, .slice x3 y3 z3, .slice x4 y4 z4, .slice x5 y5 z5, .slice ca K cc, .slice x7 y7 z7, .slice x8 y8 z8, .func (.func gf) #[] #[]] 90)).alloc (.cells #[.slice ca K cc, .slice none 0 0, .slice none 0 0] 25)).alloc (.map (entOf 0 [(0, 0)]).toArray 1)) (w4.heap.size + 2) [(0, 0)] := by
        have := (MapKept.heap_alloc ((w4.alloc (.cells #[.slice x0 y0 z0, .slice x1 y1 z1, .slice x2 y2 z2, .slice x3 y3 z3, .slice x4 y4 z4, .slice x5 y5 z5, .slice ca K cc, .slice x7 y7 z7, .slice x8 y8 z8, .func (.func gf) #[] #[]] 90)).alloc (.cells #[.slice ca K cc, .slice none 0 0, .slice none 0 0] 25)) (.map (entOf 0 [(0, 0)]).toArray 1)).1
        unfold IsNum
        rwa [show ((w4.alloc (.cells #[.slice x0 y0 z0, .slice x1 y1 z1, .slice x2 y2 z2, .slice x3 y3 z3, .slice x4 y4 z4, .slice x5 y5 z5, .slice ca K cc, .slice x7 y7 z7, .slice x8 y8 z8, .func (.func gf) #[] #[]] 90)).alloc (.cells #[.slice ca K cc, .slice none 0 0, .slice none 0 0] 25)).heap.size = w4.heap.size + 2 by simp] at this
      exact h1.below ((Ext.refl _).alloc _).below
    · exact (((((Ext.refl w4).alloc _).alloc _).alloc _).alloc _).below
  case round =>
    obtain ⟨rfl, n, st, nx, mk, hst, hn, htv, hb, hbo, hnx, hmk, hfar, hnum, hx⟩ := hrel
    obtain ⟨wo, rfl⟩ : ∃ wo : World, wo = wr := ⟨_, rfl⟩
    have SO := Lib.hid (OK.out st n hst)
    have hl2 : st.2.length = n := by have := SO.out.len; omega
    obtain ⟨L, hL⟩ : ∃ L, L = st.1.length := ⟨_, rfl⟩
    have hLf : L ≤ f := by have := SO.out.le; omega
    rw [← hL] at htv hn
    obtain ⟨ta, tc, rfl⟩ := ownsRow_form htv
    obtain ⟨na, nc, rfl⟩ := hnx.form
    obtain ⟨ma, mc, rfl⟩ := hmk.form
    have e1 : (st.2.map fun r => r.map Int.ofNat).length = n := by simp [hl2]
    have e2 : ((st.1.take n).map (markOf a b op)).length = n := by simp; omega
    rw [e1] at hbo hnx hfar
    rw [e2] at hbo hmk hfar
    have ST := Lib.hid hst
    have TV := Lib.hid htv
    have HB := Lib.hid hb
    have HBO := Lib.hid hbo
    have HNX := Lib.hid hnx
    have HMK := Lib.hid hmk
    have FAR := Lib.hid hfar
    have NUM := Lib.hid hnum
    have HX := Lib.hid hx
    have HL := Lib.hid hL
    have HL2 := Lib.hid hl2
    have hsz : w4.heap.size + 2 < wo.heap.size := NUM.out.lt
    clear hst htv hb hbo hnx hmk hfar hnum hx hL hl2 e1 e2
    have j1 := HBO.out.cell 1
    by_cases hlt : n < L
    · obtain ⟨p, hp⟩ : ∃ p, st.1[n]? = some p := ⟨_, List.getElem?_eq_getElem (by rw [← HL.out]; exact hlt)⟩
      have PP := Lib.hid (SO.out.all p (List.mem_of_getElem? hp))
      obtain ⟨tg, rfl, t1, t2⟩ := rowAt2 TV.out hp
      have HP := Lib.hid hp
      clear hp
      have hni : (n : Int) < L := by omega
      have q6 : ∀ o, (wo.alloc o).cell? ⟨w4.heap.size, 6, none⟩ = some (.slice ca K cc) := fun o => (HB.out.alloc o).cell 6
      go_wp2
      go_loopw [9, 14, 16, 76] (fun er tv nv i wr => er = .int .i64 0 ∧ ∃ (k : Nat) (r : List (Nat × Nat) × List Nat), k ≤ K ∧ rowTo f (F p) st.1 k = some r ∧ i = .int .i64 k ∧ wr.ownsRow (w4.heap.size + 3) 93 2 tv r.1.length (flatP r.1) ∧ (tv.ownBlock = some tg ∨ ∀ x, tv.ownBlock = some x → wo.heap.size + 1 ≤ x) ∧ wr.ownsRow (wo.heap.size + 1) 3 1 nv k ((r.2.map Int.ofNat).map encZ) ∧ Blk wr wo.heap.size #[.int .i64 p.1, .int .i64 p.2] 93 ∧ IsNum wr (w4.heap.size + 2) r.1 ∧ Keeps (fun x => x < wo.heap.size ∧ x ≠ w4.heap.size + 2 ∧ some tg ≠ some x) wo wr) (fun _ _ _ i _ => K - (intOf i).toNat)
      case atStart =>
        refine ⟨rfl, 0, (st.1, []), Nat.zero_le _, rfl, rfl, ?_, .inl rfl, World.ownsRow_nil _ _ _ _, Blk.new _ _ _, NUM.out.below ((Ext.refl _).alloc _).below, Keeps.of_below ((Ext.refl _).alloc _).below fun x hx => hx.1⟩
        have := TV.out.alloc (.cells #[.int .i64 p.1, .int .i64 p.2] 93)
        rwa [HL.out] at this ⊢
      case round =>
        obtain ⟨rfl, k, r, hk, hr, rfl, htv, hob, hnv, hpb, hnum, hkp⟩ := hrel
        obtain ⟨wi, rfl⟩ : ∃ wi : World, wi = wr := ⟨_, rfl⟩
        have RO := Lib.hid (rowTo_ok (P := PairIn a b) SO.out.nodup SO.out.le SO.out.all k (fun j hj => FI.out p j PP.out (by omega)) hr)
        obtain ⟨M, hM⟩ : ∃ M, M = r.1.length := ⟨_, rfl⟩
        have hMf : M ≤ f := by have := RO.out.le; omega
        rw [← hM] at htv
        obtain ⟨ta2, tc2, rfl⟩ := ownsRow_form htv
        obtain ⟨na2, nc2, rfl⟩ := ownsRow_form hnv
        have htg := TV.out.lt tg rfl
        have BI := Lib.hid (HB.out.keeps hkp ⟨by omega, by omega, by intro e; injection e; omega⟩)
        have XI : Hid (Below w4.heap.size w4 wi) := Lib.hid (HX.out.trans (hkp.mono fun x hx => ⟨by omega, by have : x < w4.heap.size := hx; omega, by have : x < w4.heap.size := hx; intro e; injection e; omega⟩ : Keeps (· < w4.heap.size) wo wi).below)
        have TI := Lib.hid htv
        have OI := Lib.hid hob
        have NI := Lib.hid hnv
        have PB := Lib.hid hpb
        have NUI := Lib.hid hnum
        have KP := Lib.hid hkp
        have HR := Lib.hid hr
        have HM := Lib.hid hM
        have hszi : wo.heap.size < wi.heap.size := hpb.lt
        clear htv hob hnv hpb hnum hkp hr hM
        by_cases hkK : k < K
        · obtain ⟨⟨p0, p1, p2, p3, p4, p5, p6, p7, p8, p9⟩, _⟩ := BI.out.ten
          have pc0 := PB.out.cell 0
          have pc1 := PB.out.cell 1
          have hki : (k : Int) < K := by omega
          clear t1 t2 j1 q6
          go_wp2_with fail
          refine (CN.out wi _ _ p k (IB.out.below XI.out) PP.out hkK).mono ?_
          rintro e w6 ⟨rfl, hx⟩
          obtain ⟨q, hq⟩ : ∃ q, q = F p k := ⟨_, rfl⟩
          have QI := Lib.hid (FI.out p k PP.out hkK)
          rw [← hq] at QI ⊢
          have HQ := Lib.hid hq
          have Q4 := Lib.hid (PI.out q QI.out)
          have T6 := Lib.hid (ownsRow_below TI.out hx)
          have N6 := Lib.hid (ownsRow_below NI.out hx)
          have PB6 := Lib.hid (PB.out.below hx PB.out.lt)
          have NU6 := Lib.hid (NUI.out.below hx)
          have K6 := Lib.hid (KP.out.tr (Keeps.of_below hx fun x hx' => by have := hx'.1; omega))
          have X6 := Lib.hid (XI.out.trans (hx.mono XI.out.size))
          have hsz6 : wo.heap.size < w6.heap.size := PB6.out.lt
          have E86 := Lib.hid (E8.out.keeps (Keeps.of_below X6.out fun _ h => h : Keeps (· < w4.heap.size) w4 w6) hs8x)
          clear hq hx p0 p1 p2 p3 p4 p5 p6 p7 p8 p9 pc0 pc1 BI
          have T6o := Lib.hid (T6.out.alloc (.cells #[.int .i64 q.1, .int .i64 q.2] 93))
          have hlook := num_look (w := w6.alloc (.cells #[.int .i64 q.1, .int .i64 q.2] 93)) (NU6.out.below ((Ext.refl _).alloc _).below) RO.out.nodup (fun x hx => PI.out x (RO.out.all x hx)) q Q4.out.1 Q4.out.2
          rcases hlook with ⟨hqn, hl⟩ | ⟨hqi, hl⟩
          · have hl' : (Instr.lookup 94 (.map (some (w4.heap.size + 1 + 1))) (.agg #[.int .i64 q.1, .int .i64 q.2]) true).run Tryz.prog (w6.alloc (.cells #[.int .i64 q.1, .int .i64 q.2] 93)) = .ok (.tuple #[.int .i64 0, .bool false]) (w6.alloc (.cells #[.int .i64 q.1, .int .i64 q.2] 93)) := hl
            clear hl
            by_cases hMe : M = f
            · have d5 : ((M : Int) == f) = true := by rw [beq_iff_eq]; omega
              have z := fun o : Obj => (E86.out.alloc o).three
              have z0 := fun o => (z o).1.1
              have z1 := fun o => (z o).1.2.1
              have z2 := fun o => (z o).1.2.2
              have z3 := fun o => (z o).2.1
              have z4 := fun o => (z o).2.2.1
              have z5 := fun o => (z o).2.2.2
              clear z
              go_wp2
              refine post_named ?_
              intro W9 hW9
              have E9 : Hid (Blk W9 (w.heap.size + 2) #[.slice none 0 0, .slice none 0 0, .slice none 0 0] 25 ∧ Below w.heap.size w W9) := by
                rw [hW9]
                exact Lib.hid ⟨(E86.out.alloc _).set3, below_set3 ((X4.out.trans (X6.out.mono X4.out.size)).alloc (by have h8 := X4.out.size; have h9 := X6.out.size; omega) _) (by omega)⟩
              clear hW9
              obtain ⟨⟨m0, m1, m2⟩, _⟩ := E9.out.1.three
              refine bodyPost_ret (v := .tuple #[.agg #[.slice none 0 0, .slice none 0 0, .slice none 0 0], .int .i64 181]) (by simp [results, Tryz.results19, go_sem, m0, m1, m2]) rfl ?_
              have hnone : rowTo f (F p) st.1 (k + 1) = none := by
                rw [rowTo, HR.out, ← HQ.out]
                exact addQ_full hqn (by rw [← HM.out]; exact hMe)
              have hst1 : stTo f F K (0, 0) (n + 1) = none := by
                rw [stTo, ST.out]
                show stStep f F K n st = none
                unfold stStep
                rw [HP.out]
                show (rowTo f (F p) st.1 K).map _ = none
                rw [rowTo_none hnone K (by omega)]
                rfl
              have hpe := EN.out (n + 1) hst1 (by omega)
              rw [hpe]
              exact ⟨_, rfl, dfZ_own _ _, E9.out.2⟩
            · have d5 : ((M : Int) == f) = false := by rw [beq_eq_false_iff_ne]; omega
              obtain ⟨w7, hput, hnu7, hk7, hsz7⟩ := num_put (w := w6.alloc (.cells #[.int .i64 q.1, .int .i64 q.2] 93)) (NU6.out.below ((Ext.refl _).alloc _).below) (fun x hx => PI.out x (RO.out.all x hx)) q Q4.out.1 Q4.out.2 hqn
              have hput' : (Instr.mapUpdate 94 (.map (some (w4.heap.size + 1 + 1))) (.agg #[.int .i64 q.1, .int .i64 q.2]) (.int .i64 M)).run Tryz.prog (w6.alloc (.cells #[.int .i64 q.1, .int .i64 q.2] 93)) = .ok () w7 := by rw [HM.out]; exact hput
              have NU7 := Lib.hid hnu7
              have hsz7' : wo.heap.size + 1 < w7.heap.size := by rw [hsz7]; simp; omega
              have K67 := Lib.hid hk7
              have T7 := Lib.hid (ownsRow_keepsB T6o.out hk7 fun x h1 _ e => by omega)
              have N7 := Lib.hid (ownsRow_keepsB (N6.out.alloc (.cells #[.int .i64 q.1, .int .i64 q.2] 93)) hk7 fun x h1 _ e => by omega)
              clear hput hnu7 hk7 hsz7
              have qc := (Blk.new w6 #[.int .i64 q.1, .int .i64 q.2] 93)
              have B7 := Lib.hid (qc.keeps K67.out (by show w6.heap.size ≠ w4.heap.size + 2; omega))
              have qc0 := B7.out.cell 0
              have qc1 := B7.out.cell 1
              clear qc
              go_wp2_with (at_builtin; refine wpList_append_own_at _ rfl (.tmp 101) (.tmp 103) 95 rfl (w4.heap.size + 3) 93 iP (.agg #[.int .i64 0, .int .i64 0]) 2 16 Tryz.underlying95 hiP hzP0 hzP1 hzP2 rfl (by decide) _ _ _ rfl (T7.out.alloc _) ⟨_, 0, none⟩ 1 1 [.int .i64 q.1, .int .i64 q.2] rfl rfl (news_blk (Blk.new _ _ _)) (by intro u hu; simp at hu; rcases hu with rfl | rfl <;> rfl) (by unfold maxLen; omega) (by omega) (by simp; omega) ?_; intro v' w8 hown' hgrow hh hat; have HO8 := Lib.hid hown'; have HG := Lib.hid hgrow; have HAT := Lib.hid hat; clear hown' hgrow hh hat; refine Hid.out ?_)
              refine Lib.hid ?_
              have NVf : Hid (w8.ownsRow (wo.heap.size + 1) 3 1 (.slice na2 k nc2) k ((r.2.map Int.ofNat).map encZ)) := Lib.hid ((N7.out.alloc (.cells #[.int .i64 q.1, .int .i64 q.2] 93)).kept HG.out (ownBlock_ne (by decide) (N7.out.alloc (.cells #[.int .i64 q.1, .int .i64 q.2] 93)) (T7.out.alloc (.cells #[.int .i64 q.1, .int .i64 q.2] 93))))
              have h8g : Keeps (fun x => x < wo.heap.size + 1 ∧ some tg ≠ some x) (w7.alloc (.cells #[.int .i64 q.1, .int .i64 q.2] 93)) w8 := Keeps.of_grown HG.out fun x hx => ⟨by have := hx.1; simp; omega, fun e => by
                rcases OI.out with h5 | h5
                · exact hx.2 (h5.symm.trans e.symm)
                · have := h5 x e.symm
                  have := hx.1
                  omega⟩
              have h8k : Keeps (fun x => x < wo.heap.size + 1 ∧ some tg ≠ some x) w7 w8 := ((Keeps.refl _ _).alloc (fun x hx => by have := hx.1; omega) _).tr h8g
              have PBf : Hid (Blk w8 wo.heap.size #[.int .i64 p.1, .int .i64 p.2] 93) := Lib.hid (((PB6.out.alloc _).keeps K67.out (by show wo.heap.size ≠ w4.heap.size + 2; omega)).keeps h8k ⟨by omega, by intro e; injection e; omega⟩)
              have NUf : Hid (IsNum w8 (w4.heap.size + 2) (r.1 ++ [q])) := Lib.hid (NU7.out.keeps h8k ⟨by omega, by intro e; injection e; omega⟩)
              have KPf : Hid (Keeps (fun x => x < wo.heap.size ∧ x ≠ w4.heap.size + 2 ∧ some tg ≠ some x) wo w8) := Lib.hid (((K6.out.alloc (fun x hx => by have := hx.1; omega) (.cells #[.int .i64 q.1, .int .i64 q.2] 93)).tr (K67.out.mono fun x hx => hx.2.1)).tr (h8k.mono fun x hx => ⟨by have := hx.1; omega, hx.2.2⟩))
              obtain ⟨l', hl'⟩ : ∃ l', l' = r.1 ++ [q] := ⟨_, rfl⟩
              obtain ⟨M', hM'⟩ : ∃ M', M' = M + 1 := ⟨_, rfl⟩
              have HM' : Hid (M' = l'.length) := Lib.hid (by rw [hM', hl', HM.out]; simp)
              have TVf : Hid (w8.ownsRow (w4.heap.size + 3) 93 2 v' M' (flatP l')) := Lib.hid (by rw [hl', hM', flatP_append]; exact HO8.out)
              have OBf : Hid (v'.ownBlock = some tg ∨ ∀ x, v'.ownBlock = some x → wo.heap.size + 1 ≤ x) := Lib.hid (by
                rcases HAT.out with h5 | h5
                · rw [h5]; exact OI.out
                · right; intro x e; rw [h5] at e; injection e with e; simp at e; omega)
              have RTf : Hid (rowTo f (F p) st.1 (k + 1) = some (l', r.2 ++ [M])) := Lib.hid (by
                rw [rowTo, HR.out, ← HQ.out]
                show addQ f r q = _
                rw [addQ_new hqn (by rw [← HM.out]; exact hMe), hl', HM.out])
              rw [← hl'] at NUf
              obtain ⟨ta', tc', rfl⟩ := ownsRow_form TVf.out
              clear h8g h8k hl' hM' hput' HO8 HG HAT qc0 qc1 B7 T7 N7 NU7 K67 T6 N6 PB6 NU6 K6 T6o TI OI NI PB NUI KP
              go_wp2_with (at_builtin; refine wpList_append_own_at _ rfl (.tmp 105) (.tmp 107) 36 rfl (wo.heap.size + 1) 3 iI (.int .i64 0) 1 8 Tryz.underlying36 hiI hzI0 hzI1 hzI2 rfl (by decide) _ _ _ rfl (NVf.out.alloc _) ⟨_, 0, none⟩ 1 1 [.int .i64 M] rfl rfl (news_blk (Blk.new _ _ _)) (by intro u hu; simp at hu; rw [hu]; rfl) (by unfold maxLen; omega) (by omega) (by have := PBf.out.lt; simp; omega) ?_; intro v' w9 hown' hgrow hh hat; have HO9 := Lib.hid hown'; have HG := Lib.hid hgrow; clear hown' hgrow hh hat)
              have K9 : Keeps (fun x => x < wo.heap.size + 1) w8 w9 := ((Keeps.refl _ _).alloc (fun x hx => by have := PBf.out.lt; have : x < wo.heap.size + 1 := hx; omega) _).tr (Keeps.of_grown HG.out fun x hx => ⟨by have := PBf.out.lt; have : x < wo.heap.size + 1 := hx; simp; omega, fun e => by have := (NVf.out.lt x e.symm).1; have : x < wo.heap.size + 1 := hx; omega⟩)
              go_roundw
              case rel =>
                refine ⟨rfl, k + 1, (l', r.2 ++ [M]), by omega, RTf.out, by go_num, ?_, OBf.out, ?_, PBf.out.keeps K9 (by show wo.heap.size < wo.heap.size + 1; omega), NUf.out.keeps K9 (by show w4.heap.size + 2 < wo.heap.size + 1; omega), KPf.out.tr (K9.mono fun x hx => by have := hx.1; show x < wo.heap.size + 1; omega)⟩
                · have := (TVf.out.alloc (.cells #[.int .i64 M] 3)).kept HG.out (ownBlock_ne (by decide) (TVf.out.alloc (.cells #[.int .i64 M] 3)) (NVf.out.alloc (.cells #[.int .i64 M] 3)))
                  rwa [HM'.out] at this ⊢
                · have := HO9.out
                  rw [List.map_append, List.map_append]
                  exact this
              case measure => simp [intOf]; omega
          · have hl' : (Instr.lookup 94 (.map (some (w4.heap.size + 1 + 1))) (.agg #[.int .i64 q.1, .int .i64 q.2]) true).run Tryz.prog (w6.alloc (.cells #[.int .i64 q.1, .int .i64 q.2] 93)) = .ok (.tuple #[.int .i64 (ixOf r.1 q), .bool true]) (w6.alloc (.cells #[.int .i64 q.1, .int .i64 q.2] 93)) := hl
            clear hl
            obtain ⟨Wf, hWf⟩ : ∃ W : World, W = w6.alloc (.cells #[.int .i64 q.1, .int .i64 q.2] 93) := ⟨_, rfl⟩
            have hszf : wo.heap.size + 1 < Wf.heap.size := by rw [hWf]; simp; omega
            have NVf : Hid (Wf.ownsRow (wo.heap.size + 1) 3 1 (.slice na2 k nc2) k ((r.2.map Int.ofNat).map encZ)) := Lib.hid (by rw [hWf]; exact N6.out.alloc _)
            have TVf : Hid (Wf.ownsRow (w4.heap.size + 3) 93 2 (.slice ta2 M tc2) M (flatP r.1)) := Lib.hid (by rw [hWf]; exact T6o.out)
            have PBf : Hid (Blk Wf wo.heap.size #[.int .i64 p.1, .int .i64 p.2] 93) := Lib.hid (by rw [hWf]; exact PB6.out.alloc _)
            have NUf : Hid (IsNum Wf (w4.heap.size + 2) r.1) := Lib.hid (by rw [hWf]; exact NU6.out.below ((Ext.refl _).alloc _).below)
            have KPf : Hid (Keeps (fun x => x < wo.heap.size ∧ x ≠ w4.heap.size + 2 ∧ some tg ≠ some x) wo Wf) := Lib.hid (by rw [hWf]; exact K6.out.alloc (fun x hx => by have := hx.1; omega) _)
            have RTf : Hid (rowTo f (F p) st.1 (k + 1) = some (r.1, r.2 ++ [ixOf r.1 q])) := Lib.hid (by
              rw [rowTo, HR.out, ← HQ.out]
              show addQ f r q = _
              exact addQ_old hqi)
            have OBf := OI
            have HM' := HM
            have hl2 : (Instr.lookup 94 (.map (some (w4.heap.size + 1 + 1))) (.agg #[.int .i64 q.1, .int .i64 q.2]) true).run Tryz.prog (w6.alloc (.cells #[.int .i64 q.1, .int .i64 q.2] 93)) = .ok (.tuple #[.int .i64 (ixOf r.1 q), .bool true]) Wf := by rw [hWf]; exact hl'
            obtain ⟨s, hs⟩ : ∃ s, s = ixOf r.1 q := ⟨_, rfl⟩
            rw [← hs] at hl2 RTf
            obtain ⟨l', hl1⟩ : ∃ l', l' = r.1 := ⟨_, rfl⟩
            rw [← hl1] at TVf NUf RTf HM'
            clear hl' hWf hs hl1 T6 N6 PB6 NU6 K6 T6o TI OI NI PB NUI KP hqi
            go_wp2_with (at_builtin; refine wpList_append_own_at _ rfl (.tmp 105) (.tmp 107) 36 rfl (wo.heap.size + 1) 3 iI (.int .i64 0) 1 8 Tryz.underlying36 hiI hzI0 hzI1 hzI2 rfl (by decide) _ _ _ rfl (NVf.out.alloc _) ⟨_, 0, none⟩ 1 1 [.int .i64 s] rfl rfl (news_blk (Blk.new _ _ _)) (by intro u hu; simp at hu; rw [hu]; rfl) (by unfold maxLen; omega) (by omega) (by have := PBf.out.lt; simp; omega) ?_; intro v' w9 hown' hgrow hh hat; have HO9 := Lib.hid hown'; have HG := Lib.hid hgrow; clear hown' hgrow hh hat)
            have K9 : Keeps (fun x => x < wo.heap.size + 1) Wf w9 := ((Keeps.refl _ _).alloc (fun x hx => by have := PBf.out.lt; have : x < wo.heap.size + 1 := hx; omega) _).tr (Keeps.of_grown HG.out fun x hx => ⟨by have := PBf.out.lt; have : x < wo.heap.size + 1 := hx; simp; omega, fun e => by have := (NVf.out.lt x e.symm).1; have : x < wo.heap.size + 1 := hx; omega⟩)
            go_roundw
            case rel =>
              refine ⟨rfl, k + 1, (l', r.2 ++ [s]), by omega, RTf.out, by go_num, ?_, OBf.out, ?_, PBf.out.keeps K9 (by show wo.heap.size < wo.heap.size + 1; omega), NUf.out.keeps K9 (by show w4.heap.size + 2 < wo.heap.size + 1; omega), KPf.out.tr (K9.mono fun x hx => by have := hx.1; show x < wo.heap.size + 1; omega)⟩
              · have := (TVf.out.alloc (.cells #[.int .i64 s] 3)).kept HG.out (ownBlock_ne (by decide) (TVf.out.alloc (.cells #[.int .i64 s] 3)) (NVf.out.alloc (.cells #[.int .i64 s] 3)))
                rwa [HM'.out] at this ⊢
              · have := HO9.out
                rw [List.map_append, List.map_append]
                exact this
            case measure => simp [intOf]; omega
        · obtain rfl : k = K := by omega
          have hrow : stTo f F k (0, 0) (n + 1) = some (r.1, st.2 ++ [r.2]) := by
            rw [stTo, ST.out]
            show stStep f F k n st = _
            unfold stStep
            rw [HP.out]
            show (rowTo f (F p) st.1 k).map _ = _
            rw [HR.out]
            rfl
          have HROW := Lib.hid hrow
          clear hrow t1 t2 j1 q6
          have NXI := Lib.hid (HNX.out.keepsT TV.out KP.out (by omega))
          have MKI := Lib.hid (HMK.out.keepsT TV.out KP.out (by omega))
          have BOI := Lib.hid (HBO.out.keeps KP.out ⟨by omega, by omega, by intro e; injection e; omega⟩)
          have L1 : Hid (∀ x, (Value.slice na n nc).ownBlock = some x → x < wo.heap.size ∧ w4.heap.size + 3 ≤ x) := Lib.hid (by obtain ⟨us, _, h2, _⟩ := HNX.out; exact fun x e => ⟨(h2.lt x e).2, (h2.lt x e).1⟩)
          have L2 : Hid (∀ x, (Value.slice ma n mc).ownBlock = some x → x < wo.heap.size ∧ w4.heap.size + 3 ≤ x) := Lib.hid (by obtain ⟨us, _, h2, _⟩ := HMK.out; exact fun x e => ⟨(h2.lt x e).2, (h2.lt x e).1⟩)
          obtain ⟨us, u1, u2, u3⟩ := NXI.out
          obtain ⟨ms, m1, m2, m3⟩ := MKI.out
          have hus : us.length = n := by rw [u1]; simp [HL2.out]
          have hms : ms.length = n := by rw [m1]; simp; have := HL.out; omega
          rw [hus] at u2
          rw [hms] at m2
          obtain ⟨ml, hml⟩ : ∃ x, x = (markOf a b op p).length := ⟨_, rfl⟩
          obtain ⟨mx, hmx⟩ : ∃ x, x = (markOf a b op p).map encZ := ⟨_, rfl⟩
          have CM1 : Hid (∀ W base u, IsBoth base W u a b op → Calls Tryz.prog 50 #[u, .agg #[.int .i64 p.1, .int .i64 p.2]] W fun e w' => ∃ m, e = .returned m ∧ w'.ownsRow W.heap.size 3 1 m ml mx ∧ Below W.heap.size W w') := Lib.hid fun W base u hb => by rw [hml, hmx]; exact CM.out W base u p hb PP.out
          have U1 := Lib.hid u1
          have U2 := Lib.hid u2
          have U3 := Lib.hid u3
          have M1 := Lib.hid m1
          have M2 := Lib.hid m2
          have M3 := Lib.hid m3
          have HUS := Lib.hid hus
          have HMS := Lib.hid hms
          have HML := Lib.hid hml
          have HMX := Lib.hid hmx
          clear u1 u2 u3 m1 m2 m3 hus hms hml hmx NXI MKI HNX HMK
          obtain ⟨PL, hPL⟩ : ∃ PL : List Ap3.App, PL = [nxApp wi.heap.size (.slice na n nc) n us (.slice na2 k nc2), mkApp wi.heap.size (.slice ma n mc) n ms ml mx] := ⟨_, rfl⟩
          have hp0 : PL[0]? = some (nxApp wi.heap.size (.slice na n nc) n us (.slice na2 k nc2)) := by rw [hPL]; rfl
          have hp1 : PL[1]? = some (mkApp wi.heap.size (.slice ma n mc) n ms ml mx) := by rw [hPL]; rfl
          have hall : ∀ q ∈ PL, q = nxApp wi.heap.size (.slice na n nc) n us (.slice na2 k nc2) ∨ q = mkApp wi.heap.size (.slice ma n mc) n ms ml mx := fun q hq => by rw [hPL] at hq; simpa using hq
          have OKA : Hid (Ap3.AppOk wi PL) := Lib.hid ⟨fun q hq => by rcases hall q hq with rfl | rfl <;> exact Nat.le_refl _, fun q hq x e => by
            rcases hall q hq with rfl | rfl
            · have := L1.out x e; omega
            · have := L2.out x e; omega, fun i j q q' hi hj hij => by
            have hl : PL.length = 2 := by rw [hPL]; rfl
            have h1 := (List.getElem?_eq_some_iff.1 hi).1
            have h2 := (List.getElem?_eq_some_iff.1 hj).1
            rcases (show i = 0 ∨ i = 1 by omega) with rfl | rfl <;> rcases (show j = 0 ∨ j = 1 by omega) with rfl | rfl <;> (first | (exact absurd rfl hij) | skip) <;> (first | rw [hp0] at hi | rw [hp1] at hi) <;> (first | rw [hp0] at hj | rw [hp1] at hj) <;> cases hi <;> cases hj
            · exact FAR.out
            · exact FAR.out.symm⟩
          have hnp : ∀ x, (x < w4.heap.size + 3 ∨ wo.heap.size ≤ x) → ¬ ∃ q ∈ PL, q.v.ownBlock = some x := fun x hx ⟨q, hq, e⟩ => by
            rcases hall q hq with rfl | rfl
            · have := L1.out x e; omega
            · have := L2.out x e; omega
          have HALL := Lib.hid hall
          have HNP := Lib.hid hnp
          have HKW : Hid (∀ W', Ap3.MoveA (w4.heap.size + 3) wi PL wi W' → Below w4.heap.size w4 W') := Lib.hid fun W' h => XI.out.trans (h.keeps.mono fun x hx => ⟨by have : x < w4.heap.size := hx; omega, hnp x (by have : x < w4.heap.size := hx; omega)⟩ : Keeps (· < w4.heap.size) wi W').below
          clear hPL hall hnp hkK
          go_wp2
          have HST : Hid (∀ W W' u, Ap3.MoveA (w4.heap.size + 3) wi PL W W' → (u.oneCell' = true ∧ W.ownsRow wi.heap.size 3 1 u ml mx) → (u.oneCell' = true ∧ W'.ownsRow wi.heap.size 3 1 u ml mx)) := Lib.hid fun W W' u hm h => ⟨h.1, ownsRow_keeps h.2 hm.keeps fun x hx => ⟨(h.2.lt x hx).2, HNP.out x (.inr (by have := (h.2.lt x hx).1; omega))⟩⟩
          refine RegG.wp_region_regM (Ap3.MoveA (w4.heap.size + 3) wi PL) (Ap3.MoveA.drew) (fun _ _ _ h k => h.trans k) (by kernel_rfl) 13 [0, 1, 0, 4, 15, 0, 32, 0, 0, 415, 927, 2047, 127, 8191, 16383, 32767] (fun i => i == 3 || i == 4 || i == 9 || i == 10 || i == 11) (by kernel_rfl) (fun j => if j = 11 then some 114 else none) (fun j hj => (by first | rfl | (have hj2 : 16 ≤ j := hj; first | exact if_neg (by omega) | (split <;> first | omega | rfl)))) (by kernel_rfl) (fun i => if i = 3 then Ap3.EffA.boxA (w4.heap.size + 3) wi PL 1 #[.slice na2 k nc2] 36 else if i = 4 then Ap3.EffA.app (w4.heap.size + 3) wi PL (nxApp wi.heap.size (.slice na n nc) n us (.slice na2 k nc2)) (List.mem_of_getElem? hp0) else if i = 9 then Ap3.EffA.row (w4.heap.size + 3) wi PL OKA.out wi.heap.size (Nat.le_refl _) 3 1 ml mx else if i = 10 then Ap3.EffA.boxH (w4.heap.size + 3) wi PL 36 (fun W u => u.oneCell' = true ∧ W.ownsRow wi.heap.size 3 1 u ml mx) HST.out else if i = 11 then Ap3.EffA.appFar (w4.heap.size + 3) wi PL (mkApp wi.heap.size (.slice ma n mc) n ms ml mx) (List.mem_of_getElem? hp1) else RegG.Eff.any _) ?_
          intro C hC hne
          have HC := Lib.hid hC
          have hin : ∀ {x : Nat}, x < wi.heap.size → (¬ ∃ q ∈ PL, q.v.ownBlock = some x) → ∀ W : { W // C W }, W.1.heap[x]? = wi.heap[x]? := fun {x} h1 h2 W => ((hC W.1).1 W.2).keeps.keep x ⟨h1, h2⟩
          have t10 := fun W : { W // C W } => ((BI.out.same (hin BI.out.lt (HNP.out w4.heap.size (by omega)) W)).ten).1
          have b0 := fun W : { W // C W } => (t10 W).1
          have b1 := fun W : { W // C W } => (t10 W).2.1
          have b2 := fun W : { W // C W } => (t10 W).2.2.1
          have b3 := fun W : { W // C W } => (t10 W).2.2.2.1
          have b4 := fun W : { W // C W } => (t10 W).2.2.2.2.1
          have b5 := fun W : { W // C W } => (t10 W).2.2.2.2.2.1
          have b6 := fun W : { W // C W } => (t10 W).2.2.2.2.2.2.1
          have b7 := fun W : { W // C W } => (t10 W).2.2.2.2.2.2.2.1
          have b8 := fun W : { W // C W } => (t10 W).2.2.2.2.2.2.2.2.1
          have b9 := fun W : { W // C W } => (t10 W).2.2.2.2.2.2.2.2.2
          have pp0 : ∀ W : { W // C W }, W.1.cell? ⟨wo.heap.size, 0, none⟩ = some (.int .i64 p.1) := fun W => (PB.out.same (hin PB.out.lt (HNP.out _ (by omega)) W)).cell 0
          have pp1 : ∀ W : { W // C W }, W.1.cell? ⟨wo.heap.size, 1, none⟩ = some (.int .i64 p.2) := fun W => (PB.out.same (hin PB.out.lt (HNP.out _ (by omega)) W)).cell 1
          have o1 : ∀ W : { W // C W }, W.1.cell? ⟨w4.heap.size + 1, 1, none⟩ = some (.slice na n nc) := fun W => (BOI.out.same (hin BOI.out.lt (HNP.out _ (by omega)) W)).cell 1
          have o2 : ∀ W : { W // C W }, W.1.cell? ⟨w4.heap.size + 1, 2, none⟩ = some (.slice ma n mc) := fun W => (BOI.out.same (hin BOI.out.lt (HNP.out _ (by omega)) W)).cell 2
          clear hC hin t10
          repeat (refine RegG.regStep (fun K hK => ?_); first | (refine RegG.regN rfl ?_; try go_simp; refine hK _ _ ?_; clear hK K) | (refine RegG.regF rfl rfl ?_; unfold floatAt; go_simp; refine hK _ _ ?_; clear hK K))
          refine RegG.regStep (fun K hK => ?_)
          refine RegG.regE rfl rfl (Ap3.EffA.boxA (w4.heap.size + 3) wi PL 1 #[.slice na2 k nc2] 36) rfl (fun W hW hN => ?_) (fun v hv => ?_)
          · have hM := (HC.out W).1 hW
            clear hW hK K
            (go_simp; exact ⟨.below ((Ext.refl _).alloc _).below, ⟨_, rfl⟩, fun b hb => by cases hb; exact ⟨Blk.new _ _ _, OKA.out.fresh hM.size⟩⟩)
          obtain ⟨x3, rfl⟩ := hv
          go_simp
          refine hK _ _ ?_
          clear hK K
          refine RegG.regStep (fun K hK => ?_)
          refine RegG.regE rfl rfl (Ap3.EffA.app (w4.heap.size + 3) wi PL (nxApp wi.heap.size (.slice na n nc) n us (.slice na2 k nc2)) (List.mem_of_getElem? hp0)) rfl (fun W hW hN => ?_) (fun v hv => ?_)
          · have hM := (HC.out W).1 hW
            clear hW hK K
            refine Ap3.effT_appendA (w0 := wi) (PL := PL) (p := (nxApp wi.heap.size (.slice na n nc) n us (.slice na2 k nc2))) (.tmp 111) (.tmp 113) 23 rfl iL (.slice none 0 0) 24 Tryz.underlying23 hiL hzL0 hzL1 hzL2 rfl (show (0 : Nat) < 1 from by decide) OKA.out hp0 rfl (hM.old _ (List.mem_of_getElem? hp0) U2.out) ⟨x3, 0, none⟩ 1 rfl [.slice na2 k nc2] rfl rfl (news_blk (hN.at 0 rfl (by kernel_rfl) x3 rfl).1) (by intro u hu; simp at hu; rw [hu]; rfl) (by show n + 1 ≤ maxLen; unfold maxLen; omega) (by show (n + 1) * 24 ≤ _; omega) (Nat.le_trans (by omega) hM.size) (show (0 : Nat) < 1 from by decide) hM.size (fun v W2 g1 g2 g3 _ => ⟨g1, g2, g3⟩)
          obtain ⟨na3, nc3, hv2⟩ := hv; replace hv2 : v = .slice na3 (n + 1) nc3 := hv2; subst hv2
          go_simp
          refine hK _ _ ?_
          clear hK K
          repeat (refine RegG.regStep (fun K hK => ?_); first | (refine RegG.regN rfl ?_; try go_simp; refine hK _ _ ?_; clear hK K) | (refine RegG.regF rfl rfl ?_; unfold floatAt; go_simp; refine hK _ _ ?_; clear hK K))
          refine RegG.regStep (fun K hK => ?_)
          refine RegG.regE rfl rfl (Ap3.EffA.row (w4.heap.size + 3) wi PL OKA.out wi.heap.size (Nat.le_refl _) 3 1 ml mx) rfl (fun W hW hN => ?_) (fun v hv => ?_)
          · have hM := (HC.out W).1 hW
            clear hW hK K
            (go_simp; refine effT_call ((CM1.out W _ _ (IB.out.below (HKW.out _ hM))).mono ?_); rintro e w2 ⟨um, rfl, ho, hx⟩; exact ⟨_, rfl, .below hx, ownsRow_form ho, ownsRow_base ho hM.size⟩)
          obtain ⟨a9, c9, rfl⟩ := hv
          go_simp
          refine hK _ _ ?_
          clear hK K
          refine RegG.regStep (fun K hK => ?_)
          refine RegG.regE rfl rfl (Ap3.EffA.boxH (w4.heap.size + 3) wi PL 36 (fun W u => u.oneCell' = true ∧ W.ownsRow wi.heap.size 3 1 u ml mx) HST.out) rfl (fun W hW hN => ?_) (fun v hv => ?_)
          · have hM := (HC.out W).1 hW
            clear hW hK K
            (go_simp; exact ⟨.below ((Ext.refl _).alloc _).below, ⟨_, rfl⟩, fun b hb => by cases hb; exact ⟨⟨_, Blk.new _ _ _, rfl, (show W.ownsRow wi.heap.size 3 1 (.slice a9 ml c9) ml mx from hN.at 0 rfl (by kernel_rfl)).alloc _⟩, OKA.out.fresh hM.size⟩⟩)
          obtain ⟨x10, rfl⟩ := hv
          go_simp
          refine hK _ _ ?_
          clear hK K
          refine RegG.regStep (fun K hK => ?_)
          refine RegG.regE rfl rfl (Ap3.EffA.appFar (w4.heap.size + 3) wi PL (mkApp wi.heap.size (.slice ma n mc) n ms ml mx) (List.mem_of_getElem? hp1)) rfl (fun W hW hN => ?_) (fun v hv => ?_)
          · have hM := (HC.out W).1 hW
            have hq : Ap3.After (w4.heap.size + 3) wi (nxApp wi.heap.size (.slice na n nc) n us (.slice na2 k nc2)) W (.slice na3 (n + 1) nc3) := hN.at 2 rfl (by kernel_rfl)
            obtain ⟨⟨ub, hb1, hb2, hb3⟩, _⟩ := hN.at 0 rfl (by kernel_rfl) x10 rfl
            clear hW hK K
            refine Ap3.effT_appendA (w0 := wi) (PL := PL) (p := (mkApp wi.heap.size (.slice ma n mc) n ms ml mx)) (.tmp 116) (.tmp 120) 23 rfl iL (.slice none 0 0) 24 Tryz.underlying23 hiL hzL0 hzL1 hzL2 rfl (show (0 : Nat) < 1 from by decide) OKA.out hp1 rfl (hM.old _ (List.mem_of_getElem? hp1) M2.out) ⟨x10, 0, none⟩ 1 rfl [ub] ⟨ub, rfl, hb2, hb3⟩ rfl (news_blk hb1) (by intro u hu; simp at hu; rw [hu]; exact hb2) (by show n + 1 ≤ maxLen; unfold maxLen; omega) (by show (n + 1) * 24 ≤ _; omega) (Nat.le_trans (by omega) hM.size) (show (0 : Nat) < 1 from by decide) hM.size (fun v W2 g1 g2 g3 g4 => ⟨g1, g2, g3, ?_⟩)
            rcases g4 with g4 | g4
            · exact .inl g4
            · refine .inr (.inr fun e => ?_)
              rw [g4] at e
              obtain ⟨⟨ns, h5, _⟩, _⟩ := hq
              have := (h5.lt _ e.symm).2
              omega
          obtain ⟨ma3, mc3, hv2⟩ := hv
          replace hv2 : v = .slice ma3 (n + 1) mc3 := hv2
          subst hv2
          go_simp
          refine hK _ _ ?_
          clear hK K
          repeat (refine RegG.regStep (fun K hK => ?_); first | (refine RegG.regN rfl ?_; try go_simp; refine hK _ _ ?_; clear hK K) | (refine RegG.regF rfl rfl ?_; unfold floatAt; go_simp; refine hK _ _ ?_; clear hK K))
          refine RegG.regNil (fun W7 hW hH => ?_)
          have hM := (HC.out W7).1 hW
          have Q0 : Hid (Ap3.After (w4.heap.size + 3) wi (nxApp wi.heap.size (.slice na n nc) n us (.slice na2 k nc2)) W7 (.slice na3 (n + 1) nc3)) := Lib.hid (hH _ (List.mem_of_getElem? (show _ = some _ from rfl : _[3]? = some _)))
          have Q1 : Hid (Ap3.After (w4.heap.size + 3) wi (mkApp wi.heap.size (.slice ma n mc) n ms ml mx) W7 (.slice ma3 (n + 1) mc3) ∧ ((Value.slice ma3 (n + 1) mc3).ownBlock = (Value.slice ma n mc).ownBlock ∨ Far (.slice ma3 (n + 1) mc3) (.slice na3 (n + 1) nc3))) := Lib.hid (hH _ (List.mem_of_getElem? (show _ = some _ from rfl : _[0]? = some _)))
          have K7 : Hid (Keeps (fun x => x < wi.heap.size ∧ ¬ ∃ q ∈ PL, q.v.ownBlock = some x) wi W7) := Lib.hid hM.keeps
          have KR : Hid (∀ (e : TypeId) (bs sz m : Nat) (u : Value) (ys : List Value), e ≠ 36 → wi.ownsRow bs e sz u m ys → W7.ownsRow bs e sz u m ys) := Lib.hid (by
            intro e bs sz m u ys he ho
            refine ownsRow_keeps ho K7.out fun x hx => ⟨(ho.lt x hx).2, ?_⟩
            rintro ⟨q, hq, hqb⟩
            rcases HALL.out q hq with rfl | rfl
            · rcases ownBlock_ne he ho U2.out with h5 | h5
              · rw [h5] at hx; cases hx
              · exact h5 (hx.trans hqb.symm)
            · rcases ownBlock_ne he ho M2.out with h5 | h5
              · rw [h5] at hx; cases hx
              · exact h5 (hx.trans hqb.symm))
          have B7 := Lib.hid (BOI.out.keeps K7.out ⟨BOI.out.lt, HNP.out _ (.inl (by omega))⟩)
          have BT := Lib.hid (BI.out.keeps K7.out ⟨BI.out.lt, HNP.out _ (.inl (by omega))⟩)
          have X7 := Lib.hid (HKW.out W7 hM)
          have NU7 := Lib.hid (NUI.out.keeps K7.out ⟨NUI.out.lt, HNP.out _ (.inl (by omega))⟩)
          have T7 : Hid (W7.ownsRow (w4.heap.size + 3) 93 2 (.slice ta2 M tc2) M (flatP r.1)) := Lib.hid (KR.out _ _ _ _ _ _ (by decide) TI.out)
          have hrl : r.2.length = k := RO.out.len
          have O7 : Hid (OwnLL (w4.heap.size + 3) W7 (.slice na3 (n + 1) nc3) ((st.2.map fun r => r.map Int.ofNat) ++ [r.2.map Int.ofNat])) := Lib.hid (by
            obtain ⟨⟨ns, h5, h6⟩, _⟩ := Q0.out
            have h6 : ns = [.slice na2 k nc2] := h6
            subst h6
            refine OwnLL.more U1.out HUS.out h5 (fun i u l hu hl => KR.out _ _ _ _ _ _ (by decide) (U3.out i u l hu hl)) ?_
            rw [show (r.2.map Int.ofNat).length = k by simp [hrl]]
            exact ownsRow_base (KR.out _ _ _ _ _ _ (by decide) NI.out) (by omega))
          have htk : r.1.take (n + 1) = st.1.take n ++ [p] := by
            obtain ⟨ys, hys⟩ := RO.out.pre
            have h5 := (List.getElem?_eq_some_iff.1 HP.out).1
            rw [← hys, List.take_append_of_le_length (by omega), List.take_add_one, HP.out]
            rfl
          have P7 : Hid (OwnLL (w4.heap.size + 3) W7 (.slice ma3 (n + 1) mc3) ((r.1.take (n + 1)).map (markOf a b op))) := Lib.hid (by
            obtain ⟨⟨⟨ns, h5, u, h6, _, h7⟩, _⟩, _⟩ := Q1.out
            have h6 : ns = [u] := h6
            subst h6
            rw [htk, List.map_append]
            refine OwnLL.more M1.out HMS.out h5 (fun i u l hu hl => KR.out _ _ _ _ _ _ (by decide) (M3.out i u l hu hl)) ?_
            rw [← HML.out, ← HMX.out]
            exact ownsRow_base h7 (by omega))
          have FR : Hid (Far (.slice na3 (n + 1) nc3) (.slice ma3 (n + 1) mc3)) := Lib.hid (by
            rcases Q1.out.2 with h | h
            · rcases Q0.out.2 with h' | h'
              · rcases FAR.out with h3 | h3
                · exact .inl (h'.trans h3)
                · exact .inr (by rw [h', h]; exact h3)
              · by_cases e : (Value.slice na3 (n + 1) nc3).ownBlock = none
                · exact .inl e
                · right
                  intro e2
                  rw [h] at e2
                  cases e3 : (Value.slice ma n mc).ownBlock with
                  | none => rw [e3] at e2; exact e e2
                  | some x => rw [e3] at e2; have := h' x e2; have := (L2.out x e3).1; omega
            · exact h.symm)
          have hML : M = r.1.length := HM.out
          have hle : n + 1 ≤ r.1.length := by
            obtain ⟨ys, hys⟩ := RO.out.pre
            have h5 := (List.getElem?_eq_some_iff.1 HP.out).1
            rw [← hys, List.length_append]; omega
          clear hM hW hH HC b0 b1 b2 b3 b4 b5 b6 b7 b8 b9 pp0 pp1 o1 o2 hp0 hp1 OKA HALL HNP HKW HST K7 KR BOI BI NUI TI NI PB Q0 Q1 L1 L2 U1 U2 U3 M1 M2 M3 HUS HMS HML HMX CM1 htk
          obtain ⟨⟨k0, k1, k2⟩, z0, z1, z2⟩ := B7.out.three
          go_wp2
          go_roundw
          case rel =>
            have kg : Keeps (· ≠ w4.heap.size + 1) W7 ((W7.setCell ⟨w4.heap.size + 1, 1, none⟩ (.slice na3 (n + 1) nc3)).setCell ⟨w4.heap.size + 1, 2, none⟩ (.slice ma3 (n + 1) mc3)) :=
              ((Keeps.refl _ _).setCell (p := ⟨w4.heap.size + 1, 1, none⟩) (fun h => h rfl) _).setCell (p := ⟨w4.heap.size + 1, 2, none⟩) (fun h => h rfl) _
            refine ⟨rfl, n + 1, (r.1, st.2 ++ [r.2]), _, _, HROW.out, hle, ?_, BT.out.keeps kg (by omega), (B7.out.set 1 _).set 2 _, ?_, P7.out.keeps kg (fun x h1 _ e => by omega), FR.out, NU7.out.keeps kg (by omega), X7.out.trans (kg.mono fun x hx e => by have : x < w4.heap.size := hx; omega : Keeps (· < w4.heap.size) W7 _).below⟩
            · rw [← hML]
              exact ownsRow_keepsB T7.out kg fun x h1 _ e => by omega
            · rw [List.map_append]
              exact O7.out.keeps kg (fun x h1 _ e => by omega)
          case measure =>
            rw [lenAt_eq (HBO.out.cell 1), lenAt_eq (((B7.out.set 1 _).set 2 _).cell 1)]
            omega
    · obtain rfl : n = L := by omega
      have hst := ST.out
      have hpe := ES.out n st ST.out (by rw [← HL.out]; exact Nat.le_refl _) hLf
      have htk : st.1.take n = st.1 := by rw [HL.out]; exact List.take_length
      have E8o := Lib.hid (E8.out.keeps (Keeps.of_below HX.out fun _ h => h : Keeps (· < w4.heap.size) w4 wo) hs8x)
      have CLo := Lib.hid (ownsRow_keeps I5.out (Keeps.of_below HX.out fun _ h => h : Keeps (· < w4.heap.size) w4 wo) fun x e => (I5.out.lt x e).2)
      have MK2 := HMK
      rw [htk] at MK2
      have hlo := I5.out.lt
      clear hst htk j1
      obtain ⟨⟨k0, k1, k2⟩, _⟩ := HBO.out.three
      obtain ⟨_, z0, z1, z2⟩ := E8o.out.three
      obtain ⟨⟨y0x, y1x, y2x⟩, _⟩ := E8o.out.three
      go_wp2
      refine post_named ?_
      intro W9 hW9
      have E9 : Hid (Blk W9 (w.heap.size + 2) #[.slice ca K cc, .slice na n nc, .slice ma n mc] 25 ∧ Keeps (· ≠ w.heap.size + 2) wo W9) := by
        rw [hW9]
        exact Lib.hid ⟨E8o.out.set3, ((((Keeps.refl _ _).setCell (p := ⟨w.heap.size + 2, 0, none⟩) (fun h => h rfl) _).setCell (p := ⟨w.heap.size + 2, 1, none⟩) (fun h => h rfl) _).setCell (p := ⟨w.heap.size + 2, 2, none⟩) (fun h => h rfl) _)⟩
      clear hW9
      obtain ⟨⟨m0, m1, m2⟩, _⟩ := E9.out.1.three
      refine bodyPost_ret (v := .tuple #[.agg #[.slice ca K cc, .slice na n nc, .slice ma n mc], .int .i64 0]) (by simp [results, Tryz.results19, go_sem, m0, m1, m2]) rfl ?_
      rw [hpe]
      refine ⟨_, rfl, ⟨_, _, _, rfl, ?_, ?_, ?_⟩, (X4.out.trans (HX.out.mono X4.out.size)).trans (E9.out.2.mono fun x hx e => by have : x < w.heap.size := hx; omega : Keeps (· < w.heap.size) wo W9).below⟩
      · show W9.ownsRow w.heap.size 33 4 _ (partsOf (a.cl ++ b.cl)).length _
        rw [← HK.out]
        exact ownsRow_base (ownsRow_keeps CLo.out E9.out.2 fun x e => by have := (hlo x e).1; show x ≠ w.heap.size + 2; omega) (by omega)
      · exact (HNX.out.keeps E9.out.2 fun x h1 _ => by show x ≠ w.heap.size + 2; omega).base (by omega)
      · exact (MK2.out.keeps E9.out.2 fun x h1 _ => by show x ≠ w.heap.size + 2; omega).base (by omega)
end Go.Proofs.YtiegfnmpknmbmaaGreat
