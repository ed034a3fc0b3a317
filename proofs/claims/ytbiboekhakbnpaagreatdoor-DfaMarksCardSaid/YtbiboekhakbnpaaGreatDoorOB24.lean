/-
  The iterator over a set of positions anywhere in a block; its list.
  The maker of automata of positions: how it lies in memory.
  The maker of automata of positions: loop.
-/
import Derived.Test.YtbiboekhakbnpaaGreatDoorOB14
import Derived.Test.YtbiboekhakbnpaaGreatDoorOB15
import Derived.Test.YtbiboekhakbnpaaGreatDoorOB23
set_option maxRecDepth 100000
set_option maxHeartbeats 16000000
open Go.Lib (hid)
namespace Go.Proofs.YtbiboekhakbnpaaGreatDoor
open Go Go.RowKit Go.Shelf Go.Maps
attribute [local go_sem] Oper.semAt_some wide_fn wide_depth

theorem allAt_seq (s : Nat -> BitVec 64) (B b off : Nat) (w : World) (hB : Blk w B #[.pointer (some ⟨b, off, none⟩)] 174) (hb0 : WdAt w b off s) : Seq true Tryz.prog 149 #[.pointer (some ⟨B, 0, none⟩)] (fun p : Nat => #[.int .i64 (p : Int)]) (fun k => k = B \/ k = b) (posW s 448) w := by
 intro l J Jx W hK hJ hJx hY h0
 have HY := hid hY
 have HH := hid (hasAt_any s b off)
 clear hY
 have B0 := hB.keeps hK hB.lt
 have B1 := hb0.keeps hK hb0.1
 clear hB hb0
 refine callsIn_wide (n := 0).1 ?_
 refine callsIn_of_wp Tryz.func149 rfl trivial ?_ rfl
 simp only [Tryz.ntmps149, List.size_toArray, List.length_cons, List.length_nil, Nat.reduceAdd, Nat.reduceSub, Array.replicate_succ, Array.replicate_zero, List.push_toArray, List.append_toArray, List.nil_append, List.cons_append]
 gi_wp2
 gi_loopw [4] (fun i wr => ∃ (k : Nat) (T : Nat -> Prop), k <= 448 /\ i = .int .i64 k /\ Blk wr B #[.pointer (some ⟨b, off, none⟩)] 174 /\ WdAt wr b off s /\ J (posW s k) T wr /\ (∀ k, T k -> W.heap.size <= k /\ k < wr.heap.size) /\ Keeps (fun k => k = B \/ k = b) W wr)
  (fun i _ => 448 - (intOf i).toNat)
 case atStart =>
  exact ⟨0, fun _ => False, by omega, rfl, B0, B1, h0, fun _ h => h.elim, Keeps.refl _ _⟩
 case round =>
  obtain ⟨k, T, hk, rfl, hB, hb, hj, hT, hR⟩ := hrel
  by_cases hlt : k < 448
  ·have c0 : wr.cell? ⟨B, 0, none⟩ = some (.pointer (some ⟨b, off, none⟩)) := hB.cell 0
   have HBB := hid hB
   have HB := hid hb
   have HJ := hid hj
   have HT := hid hT
   have HR := hid hR
   clear hB hb hj hT hR B0 B1
   have hpre := posW_succ s k
   by_cases hbit : inW s k = true
   ·rw [if_pos hbit] at hpre
    have HP := hid hpre
    have hpx : posW s k ++ [k] <+: posW s 448 := by rw [<- hpre]; exact posW_prefix s (by omega)
    have HPX := hid hpx
    have h1 : Calls Tryz.prog 94 #[.pointer (some ⟨b, off, none⟩), .int .i64 k] wr fun e w' => e = .returned (.bool true) /\ w' = wr := by have := HH.out k hlt wr HB.out; rwa [hbit] at this
    have H1 := hid h1
    clear hpre hpx h1 hbit HH
    gi_wp2_with (gi_at_call 94; refine (callsIn_wide.2 H1.out).mono ?_; rintro e w1 ⟨rfl, hw⟩; replace hw := hw.symm; subst hw; obtain ⟨fn, tm, asg, bd, hy, hRd⟩ := HY.out (posW s k) k T _ HPX.out HT.out HR.out HJ.out; have HRd := hid hRd; clear hRd)
    refine HRd.out.mono ?_
    rintro e W2 (⟨rfl, hj2, hk2⟩ | ⟨rfl, hj2, hk2⟩)
    ·have HJ2 := hid hj2
     have HK2 := hid hk2
     clear hj2 hk2 hy
     gi_wp2
     go_roundw
     case rel =>
      refine ⟨k + 1, T, by omega, by go_num, ?_, ?_, ?_, ?_, ?_⟩
      ·exact HBB.out.keeps HK2.out (.inl (.inl rfl))
      ·exact HB.out.keeps HK2.out (.inl (.inr rfl))
      ·rw [HP.out]; exact HJ2.out
      ·exact fun j hj => ⟨(HT.out j hj).1, Nat.lt_of_lt_of_le (HT.out j hj).2 HK2.out.size⟩
      ·exact HR.out.tr (HK2.out.mono fun j hj => .inl hj)
     case measure => simp [intOf]; omega
    ·have HJ2 := hid hj2
     have HK2 := hid hk2
     clear hj2 hk2 hy
     gi_wp2
     refine bodyPost_ret (results_none rfl _ _ _) rfl ?_
     exact ⟨⟨_, rfl⟩, T, fun j hj => ⟨(HT.out j hj).1, Nat.lt_of_lt_of_le (HT.out j hj).2 HK2.out.size⟩, .inr ⟨_, HPX.out, HJ2.out⟩⟩
   ·have hbit' : inW s k = false := by simpa using hbit
    rw [if_neg hbit, List.append_nil] at hpre
    have HP := hid hpre
    have h1 : Calls Tryz.prog 94 #[.pointer (some ⟨b, off, none⟩), .int .i64 k] wr fun e w' => e = .returned (.bool false) /\ w' = wr := by have := HH.out k hlt wr HB.out; rwa [hbit'] at this
    have H1 := hid h1
    clear hpre h1 hbit hbit' HH
    gi_wp2_with (gi_at_call 94; refine (callsIn_wide.2 H1.out).mono ?_; rintro e w1 ⟨rfl, hw⟩; replace hw := hw.symm; subst hw)
    go_roundw
    case rel =>
     refine ⟨k + 1, T, by omega, by go_num, HBB.out, HB.out, ?_, HT.out, HR.out⟩
     rw [HP.out]; exact HJ.out
    case measure => simp [intOf]; omega
  ·obtain rfl : k = 448 := by omega
   gi_wp2
   refine bodyPost_end (results_none rfl _ _ _) rfl ?_
   exact ⟨⟨_, rfl⟩, T, hT, .inl hj⟩

theorem allAt_call (b off : Nat) (w : World) : Calls Tryz.prog 115 #[.pointer (some ⟨b, off, none⟩)] w fun e w' => e = .returned (.func (.func 149) #[] #[.pointer (some ⟨w.heap.size, 0, none⟩)]) /\ w' = w.alloc (.cells #[.pointer (some ⟨b, off, none⟩)] 174 (0, 0)) := by
 go_enter Tryz.func115, Tryz.ntmps115
 go_wp2
 go_ret
 exact ⟨rfl, rfl⟩

theorem listAt_any (s : Nat -> BitVec 64) (b off : Nat) (w : World) (hb : WdAt w b off s) :
  Calls Tryz.prog 69 #[.pointer (some ⟨b, off, none⟩)] w fun e w' => ∃ v, e = .returned v /\ w'.ownsRow w.heap.size 3 1 v (posW s 448).length ((posW s 448).map encP) /\ Below w.heap.size w w' := by
 have eg : ∀ args w, (callFunc 149 args).run Tryz.prog w = .ok (.enter 149 args) w := enters_of Tryz.func149 (by kernel_rfl) rfl
 have hlen : (posW s 448).length <= 1000000 := Nat.le_trans (posW_len _ _) (by decide)
 have H : Hid (∀ (W : World) (B : Nat), Blk W B #[.pointer (some ⟨b, off, none⟩)] 174 -> WdAt W b off s -> Calls Tryz.prog 114 #[.func (.func 149) #[] #[.pointer (some ⟨B, 0, none⟩)]] W fun e w' => ∃ v, e = .returned v /\ w'.ownsRow W.heap.size 3 1 v (posW s 448).length ((posW s 448).map encP) /\ Below W.heap.size W w') :=
  fun W B hB hb => collectI_any _ W (allAt_seq s B b off W hB hb) eg (fun k hk => hk.elim (fun e => by rw [e]; exact hB.lt) (fun e => by rw [e]; exact hb.1)) hlen
 have HB := hid hb
 clear eg hlen hb
 generalize posW s 448 = xs at H ⊢
 go_enter Tryz.func69, Tryz.ntmps69
 go_wp2_with (first | (go_at_call 115; refine (allAt_call b off _).mono ?_; rintro e w1 ⟨rfl, rfl⟩) | (go_at_call 114; refine (H.out _ _ ((Blk.new _ _ _).at (by simp)) (HB.out.keeps ((Ext.refl _).alloc _).keeps HB.out.1)).mono ?_; rintro e w1 ⟨v, rfl, h1, h2⟩; have H1 := hid h1; have H2 := hid h2; clear h1 h2))
 go_ret
 refine ⟨v, rfl, ownsRow_base H1.out (by simp), ?_⟩
 exact ((Ext.refl w).alloc _).below.trans (H2.out.mono (by simp))
end Go.Proofs.YtbiboekhakbnpaaGreatDoor
namespace Go.Proofs.YtbiboekhakbnpaaGreatDoor
open Go Go.RowKit Go.Shelf Go.Maps

def bW (x : PB) : Nat -> BitVec 64 := fun i => x.extractLsb' (64 * i) 64
theorem bW_or (x y : PB) (i : Nat) : bW (x ||| y) i = bW x i ||| bW y i := by
 unfold bW
 apply BitVec.eq_of_getLsbD_eq
 intro j hj
 simp [hj]
theorem bW_in (x : PB) {p : Nat} : inW (bW x) p = x.getLsbD p := by
 unfold inW bW
 rw [BitVec.getLsbD_extractLsb']
 have h1 : p % 64 < 64 := Nat.mod_lt _ (by decide)
 rw [show 64 * (p / 64) + p % 64 = p by omega]
 simp [h1]
theorem bW_put (x : PB) {p : Nat} (hp : p < 448) (i : Nat) : bW (x ||| bitG p) i = putW (bW x) p i := by
 apply BitVec.eq_of_getLsbD_eq
 intro j hj
 have e1 : (bW (x ||| bitG p) i).getLsbD j = (x ||| bitG p).getLsbD (64 * i + j) := by unfold bW; rw [BitVec.getLsbD_extractLsb']; simp [hj]
 have e2 : (bW x i).getLsbD j = x.getLsbD (64 * i + j) := by unfold bW; rw [BitVec.getLsbD_extractLsb']; simp [hj]
 rw [e1, BitVec.getLsbD_or, bitG_at]
 unfold putW
 by_cases hi : i = p / 64
 ·rw [if_pos hi, BitVec.getLsbD_or, e2]
  congr 1
  rw [BitVec.getLsbD_shiftLeft]
  by_cases h : 64 * i + j = p
  ·have hj2 : j = p % 64 := by omega
   have h4 : 64 * i + j < 448 := by omega
   rw [decide_eq_true h4, decide_eq_true h, decide_eq_true hj, hj2]
   simp
  ·by_cases h5 : j < p % 64
   ·simp [h, h5]
   ·have h6 : j - p % 64 ≠ 0 := by omega
    simp [h, h5, h6, hj]
 ·rw [if_neg hi, e2]
  have h : 64 * i + j ≠ p := by omega
  simp [h]
theorem posW_posG (x : PB) : (posW (bW x) 448).map Int.ofNat = posG x := by
 unfold posW posG
 congr 1
 exact List.filter_congr fun p _ => bW_in x
def partV (a : GP) : Array Value := #[.int .u64 (bW a.fst 0).toNat, .int .u64 (bW a.fst 1).toNat, .int .u64 (bW a.fst 2).toNat, .int .u64 (bW a.fst 3).toNat, .int .u64 (bW a.fst 4).toNat, .int .u64 (bW a.fst 5).toNat, .int .u64 (bW a.fst 6).toNat,
 .int .u64 (bW a.lst 0).toNat, .int .u64 (bW a.lst 1).toNat, .int .u64 (bW a.lst 2).toNat, .int .u64 (bW a.lst 3).toNat, .int .u64 (bW a.lst 4).toNat, .int .u64 (bW a.lst 5).toNat, .int .u64 (bW a.lst 6).toNat, .bool a.emp]
theorem partV_fst (a : GP) {i : Nat} (hi : i < 7) : (partV a)[i]? = some (.int .u64 (bW a.fst i).toNat) := by
 match i, hi with
 | 0, _ => rfl
 | 1, _ => rfl
 | 2, _ => rfl
 | 3, _ => rfl
 | 4, _ => rfl
 | 5, _ => rfl
 | 6, _ => rfl
theorem partV_lst (a : GP) {i : Nat} (hi : i < 7) : (partV a)[7 + i]? = some (.int .u64 (bW a.lst i).toNat) := by
 match i, hi with
 | 0, _ => rfl
 | 1, _ => rfl
 | 2, _ => rfl
 | 3, _ => rfl
 | 4, _ => rfl
 | 5, _ => rfl
 | 6, _ => rfl
theorem WdAt.fst {w : World} {b : Nat} {a : GP} {t : TypeId} (h : Blk w b (partV a) t) : WdAt w b 0 (bW a.fst) := ⟨h.lt, fun i hi => by rw [Nat.zero_add]; exact (h.cell i).trans (partV_fst a hi)⟩
theorem WdAt.lst {w : World} {b : Nat} {a : GP} {t : TypeId} (h : Blk w b (partV a) t) : WdAt w b 7 (bW a.lst) := ⟨h.lt, fun _ hi => (h.cell _).trans (partV_lst a hi)⟩
theorem set7_fst (v0 v1 v2 v3 v4 v5 v6 v7 v8 v9 v10 v11 v12 v13 v14 u0 u1 u2 u3 u4 u5 u6 : Value) {w : World} {b : Nat} {t : TypeId} (h : Blk w b #[v0, v1, v2, v3, v4, v5, v6, v7, v8, v9, v10, v11, v12, v13, v14] t) : Blk (((((((w.setCell ⟨b, 0, none⟩ u0).setCell ⟨b, 1, none⟩ u1).setCell ⟨b, 2, none⟩ u2).setCell ⟨b, 3, none⟩ u3).setCell ⟨b, 4, none⟩ u4).setCell ⟨b, 5, none⟩ u5).setCell ⟨b, 6, none⟩ u6) b #[u0, u1, u2, u3, u4, u5, u6, v7, v8, v9, v10, v11, v12, v13, v14] t := by
 have h0 := h.setS 0 u0 (c' := #[u0, v1, v2, v3, v4, v5, v6, v7, v8, v9, v10, v11, v12, v13, v14]) rfl
 have h1 := h0.setS 1 u1 (c' := #[u0, u1, v2, v3, v4, v5, v6, v7, v8, v9, v10, v11, v12, v13, v14]) rfl
 have h2 := h1.setS 2 u2 (c' := #[u0, u1, u2, v3, v4, v5, v6, v7, v8, v9, v10, v11, v12, v13, v14]) rfl
 have h3 := h2.setS 3 u3 (c' := #[u0, u1, u2, u3, v4, v5, v6, v7, v8, v9, v10, v11, v12, v13, v14]) rfl
 have h4 := h3.setS 4 u4 (c' := #[u0, u1, u2, u3, u4, v5, v6, v7, v8, v9, v10, v11, v12, v13, v14]) rfl
 have h5 := h4.setS 5 u5 (c' := #[u0, u1, u2, u3, u4, u5, v6, v7, v8, v9, v10, v11, v12, v13, v14]) rfl
 have h6 := h5.setS 6 u6 (c' := #[u0, u1, u2, u3, u4, u5, u6, v7, v8, v9, v10, v11, v12, v13, v14]) rfl
 exact h6
theorem set7_lst (v0 v1 v2 v3 v4 v5 v6 v7 v8 v9 v10 v11 v12 v13 v14 u0 u1 u2 u3 u4 u5 u6 : Value) {w : World} {b : Nat} {t : TypeId} (h : Blk w b #[v0, v1, v2, v3, v4, v5, v6, v7, v8, v9, v10, v11, v12, v13, v14] t) : Blk (((((((w.setCell ⟨b, 7, none⟩ u0).setCell ⟨b, 8, none⟩ u1).setCell ⟨b, 9, none⟩ u2).setCell ⟨b, 10, none⟩ u3).setCell ⟨b, 11, none⟩ u4).setCell ⟨b, 12, none⟩ u5).setCell ⟨b, 13, none⟩ u6) b #[v0, v1, v2, v3, v4, v5, v6, u0, u1, u2, u3, u4, u5, u6, v14] t := by
 have h0 := h.setS 7 u0 (c' := #[v0, v1, v2, v3, v4, v5, v6, u0, v8, v9, v10, v11, v12, v13, v14]) rfl
 have h1 := h0.setS 8 u1 (c' := #[v0, v1, v2, v3, v4, v5, v6, u0, u1, v9, v10, v11, v12, v13, v14]) rfl
 have h2 := h1.setS 9 u2 (c' := #[v0, v1, v2, v3, v4, v5, v6, u0, u1, u2, v10, v11, v12, v13, v14]) rfl
 have h3 := h2.setS 10 u3 (c' := #[v0, v1, v2, v3, v4, v5, v6, u0, u1, u2, u3, v11, v12, v13, v14]) rfl
 have h4 := h3.setS 11 u4 (c' := #[v0, v1, v2, v3, v4, v5, v6, u0, u1, u2, u3, u4, v12, v13, v14]) rfl
 have h5 := h4.setS 12 u5 (c' := #[v0, v1, v2, v3, v4, v5, v6, u0, u1, u2, u3, u4, u5, v13, v14]) rfl
 have h6 := h5.setS 13 u6 (c' := #[v0, v1, v2, v3, v4, v5, v6, u0, u1, u2, u3, u4, u5, u6, v14]) rfl
 exact h6
theorem setWds_fst {w : World} {b : Nat} {a : GP} {t : TypeId} (h : Blk w b (partV a) t) (x : PB) {z : Nat -> BitVec 64} (hz : ∀ i, i < 7 -> z i = bW x i) : Blk (setWds w b 0 z 7) b (partV ⟨x, a.lst, a.emp⟩) t := by
 have e0 := hz 0 (by decide)
 have e1 := hz 1 (by decide)
 have e2 := hz 2 (by decide)
 have e3 := hz 3 (by decide)
 have e4 := hz 4 (by decide)
 have e5 := hz 5 (by decide)
 have e6 := hz 6 (by decide)
 unfold partV at h ⊢
 dsimp only at h ⊢
 rw [<- e0, <- e1, <- e2, <- e3, <- e4, <- e5, <- e6]
 clear e0 e1 e2 e3 e4 e5 e6 hz
 exact set7_fst _ _ _ _ _ _ _ _ _ _ _ _ _ _ _ _ _ _ _ _ _ _ h
theorem setWds_lst {w : World} {b : Nat} {a : GP} {t : TypeId} (h : Blk w b (partV a) t) (x : PB) {z : Nat -> BitVec 64} (hz : ∀ i, i < 7 -> z i = bW x i) : Blk (setWds w b 7 z 7) b (partV ⟨a.fst, x, a.emp⟩) t := by
 have e0 := hz 0 (by decide)
 have e1 := hz 1 (by decide)
 have e2 := hz 2 (by decide)
 have e3 := hz 3 (by decide)
 have e4 := hz 4 (by decide)
 have e5 := hz 5 (by decide)
 have e6 := hz 6 (by decide)
 unfold partV at h ⊢
 dsimp only at h ⊢
 rw [<- e0, <- e1, <- e2, <- e3, <- e4, <- e5, <- e6]
 clear e0 e1 e2 e3 e4 e5 e6 hz
 exact set7_lst _ _ _ _ _ _ _ _ _ _ _ _ _ _ _ _ _ _ _ _ _ _ h
def flatB (l : List PB) : List Value := l.flatMap fun x => (encW (bW x)).toList
theorem flatB_at : ∀ {l : List PB} {p i : Nat} {x : PB}, l[p]? = some x -> i < 7 -> (flatB l)[p * 7 + i]? = some (.int .u64 (bW x i).toNat)
 | y :: l, 0, _, x, h, hi => by
  simp at h
  subst h
  unfold flatB
  rw [List.flatMap_cons, List.getElem?_append_left (by simp [encW]; omega), Nat.zero_mul, Nat.zero_add]
  have := encW_get (bW y) hi
  simpa using this
 | y :: l, p + 1, i, x, h, hi => by
  have ih := flatB_at (l := l) (p := p) (i := i) (x := x) (by simpa using h) hi
  unfold flatB at ih ⊢
  rw [List.flatMap_cons, List.getElem?_append_right (by simp [encW]; omega)]
  rw [<- ih]
  congr 1
  simp [encW]
  omega
theorem flatB_append (a b : List PB) : flatB (a ++ b) = flatB a ++ flatB b := by unfold flatB; rw [List.flatMap_append]
attribute [local go_sem] Oper.semAt_some wide_fn wide_depth

structure MkS (base M : Nat) (F : Nat -> Prop) (w : World) (m : GM) : Prop where
 fm : F M
 lt : ∀ x, F x -> base <= x /\ x < w.heap.size
 row : ∃ sv fv, Blk w M #[sv, fv] 127 /\ w.ownsRow base 70 4 sv m.sets.length (flatS m.sets) /\ (∀ x, sv.ownBlock = some x -> F x) /\ w.ownsRow base 129 7 fv m.fol.length (flatB m.fol) /\ (∀ x, fv.ownBlock = some x -> F x)
theorem MkS.keeps {base M : Nat} {F R : Nat -> Prop} {w w' : World} {m : GM} (h : MkS base M F w m) (hk : Keeps R w w') (hR : ∀ x, F x -> R x) : MkS base M F w' m := by
 obtain ⟨sv, fv, h1, h2, h3, h4, h5⟩ := h.row
 exact ⟨h.fm, fun x hx => ⟨(h.lt x hx).1, Nat.lt_of_lt_of_le (h.lt x hx).2 hk.size⟩, sv, fv, h1.keeps hk (hR M h.fm), ownsRow_keeps h2 hk fun x e => hR x (h3 x e), h3, ownsRow_keeps h4 hk fun x e => hR x (h5 x e), h5⟩
theorem flatB_set : ∀ {l : List PB} {p : Nat} (y : PB), p < l.length -> ((((((((flatB l).set (p * 7) (.int .u64 (bW y 0).toNat)).set (p * 7 + 1) (.int .u64 (bW y 1).toNat)).set (p * 7 + 2) (.int .u64 (bW y 2).toNat)).set (p * 7 + 3) (.int .u64 (bW y 3).toNat)).set (p * 7 + 4) (.int .u64 (bW y 4).toNat)).set (p * 7 + 5) (.int .u64 (bW y 5).toNat)).set (p * 7 + 6) (.int .u64 (bW y 6).toNat)) = flatB (l.set p y)
 | x :: l, 0, y, _ => by
  unfold flatB
  rw [List.set_cons_zero, List.flatMap_cons, List.flatMap_cons]
  simp [encW]
 | x :: l, p + 1, y, hp => by
  have ih := flatB_set (l := l) (p := p) y (by simpa using hp)
  have e : ∀ (l : List PB), flatB (x :: l) = (encW (bW x)).toList ++ flatB l := fun l => by unfold flatB; rw [List.flatMap_cons]
  rw [List.set_cons_succ, e, e, <- ih]
  have h7 : (encW (bW x)).toList.length = 7 := by simp [encW]
  have hs : ∀ (ys : List Value) (j : Nat) (v : Value), ((encW (bW x)).toList ++ ys).set (7 + j) v = (encW (bW x)).toList ++ ys.set j v := fun ys j v => by
   rw [List.set_append_right _ _ (by omega), h7, Nat.add_sub_cancel_left]
  rw [show (p + 1) * 7 = 7 + p * 7 by omega, hs, show 7 + p * 7 + 1 = 7 + (p * 7 + 1) by omega, hs, show 7 + p * 7 + 2 = 7 + (p * 7 + 2) by omega, hs, show 7 + p * 7 + 3 = 7 + (p * 7 + 3) by omega, hs, show 7 + p * 7 + 4 = 7 + (p * 7 + 4) by omega, hs, show 7 + p * 7 + 5 = 7 + (p * 7 + 5) by omega, hs, show 7 + p * 7 + 6 = 7 + (p * 7 + 6) by omega, hs]
theorem MkS.or {base M : Nat} {F : Nat -> Prop} {w : World} {m : GM} (h : MkS base M F w m) {sv : Value} {g n cap : Nat} (hg : Blk w M #[sv, .slice (some ⟨g, 0, none⟩) n cap] 127) {p : Nat} (hp : p < m.fol.length) (y : PB) {z : Nat -> BitVec 64} (hz : ∀ i, i < 7 -> z i = bW y i) : MkS base M F (setWds w g (p * 7) z 7) ⟨m.sets, m.fol.set p y⟩ := by
 obtain ⟨sv', fv, h1, h2, h3, h4, h5⟩ := h.row
 have e : #[sv', fv] = #[sv, .slice (some ⟨g, 0, none⟩) n cap] := by
  unfold Blk at h1 hg
  rw [h1] at hg
  injection hg with h6
  injection h6
 have e2 : fv = .slice (some ⟨g, 0, none⟩) n cap := by
  have := congrArg (fun a : Array Value => a[1]?) e
  simpa using this
 subst e2
 have hk := setWds_keeps w g (p * 7) z 7
 have hgM : g ≠ M := fun e3 => by
  rcases h4.2 with ⟨e4, _⟩ | ⟨g', c', cur, e4, _, h6, _⟩
  ·cases e4
  ·cases e4
   rw [e3] at h6
   unfold Blk at h1
   rw [h1] at h6
   injection h6 with h7
   injection h7 with _ h8
   exact absurd h8 (by decide)
 have hn : n = m.fol.length := by
  obtain ⟨_, _, e4⟩ := ownsRow_form h4
  injection e4
 have hgs : ∀ x, sv'.ownBlock = some x -> x ≠ g := fun x e3 e4 => by
  rcases ownBlock_ne (by decide) h2 h4 with h6 | h6
  ·rw [h6] at e3; cases e3
  ·exact h6 (by rw [e3, e4]; rfl)
 refine ⟨h.fm, fun x hx => ⟨(h.lt x hx).1, Nat.lt_of_lt_of_le (h.lt x hx).2 hk.size⟩, sv', _, h1.keeps hk (fun e3 => hgM e3.symm), ownsRow_keeps h2 hk hgs, h3, ?_, h5⟩
 subst hn
 rw [List.length_set, <- flatB_set y hp]
 have h7 := ((((((((((((((h4.stored (p * 7 + 0) (.int .u64 (z 0).toNat)).1).stored (p * 7 + 1) (.int .u64 (z 1).toNat)).1).stored (p * 7 + 2) (.int .u64 (z 2).toNat)).1).stored (p * 7 + 3) (.int .u64 (z 3).toNat)).1).stored (p * 7 + 4) (.int .u64 (z 4).toNat)).1).stored (p * 7 + 5) (.int .u64 (z 5).toNat)).1).stored (p * 7 + 6) (.int .u64 (z 6).toNat)).1)
 rw [<- hz 0 (by decide), <- hz 1 (by decide), <- hz 2 (by decide), <- hz 3 (by decide), <- hz 4 (by decide), <- hz 5 (by decide), <- hz 6 (by decide)]
 exact h7
def loopP (m : GM) (pre : List Nat) (first : PB) : GM := ⟨m.sets, m.fol.mapIdx fun p f => if pre.contains p then f ||| first else f⟩
theorem loopP_nil (m : GM) (first : PB) : loopP m [] first = m := by
 unfold loopP
 have : m.fol.mapIdx (fun p f => if ([] : List Nat).contains p then f ||| first else f) = m.fol := by
  apply List.ext_getElem
  ·simp
  ·intro i h1 h2; simp
 rw [this]
theorem loopP_len (m : GM) (pre : List Nat) (first : PB) : (loopP m pre first).fol.length = m.fol.length := by unfold loopP; simp
theorem loopP_snoc (m : GM) (pre : List Nat) (first : PB) {p : Nat} {x : PB} (hx : m.fol[p]? = some x) : (⟨(loopP m pre first).sets, (loopP m pre first).fol.set p (x ||| first)⟩ : GM) = loopP m (pre ++ [p]) first := by
 unfold loopP
 congr 1
 apply List.ext_getElem?
 intro j
 rw [List.getElem?_set, List.getElem?_mapIdx, List.getElem?_mapIdx]
 by_cases e : p = j
 ·subst e
  rw [if_pos rfl, hx]
  have hl := (List.getElem?_eq_some_iff.1 hx).1
  simp [hl]
 ·rw [if_neg e]
  cases m.fol[j]? with
  | none => rfl
  | some f =>
   have : (pre ++ [p]).contains j = pre.contains j := by
    rw [Bool.eq_iff_iff]
    simp
    intro e2; exact absurd e2.symm e
   simp only [Option.map_some, this]
theorem loopP_all (m : GM) (last first : PB) (hl : m.fol.length <= 448) : loopP m (posW (bW last) 448) first = loopG m last first := by
 unfold loopP loopG
 congr 1
 apply List.ext_getElem
 ·simp
 ·intro i h1 h2
  simp only [List.getElem_mapIdx]
  have hi : i < 448 := by simp at h1; omega
  have : (posW (bW last) 448).contains i = last.getLsbD i := by
   rw [Bool.eq_iff_iff, List.contains_iff_mem]
   unfold posW
   rw [List.mem_filter, bW_in, List.mem_range]
   simp [hi]
  rw [this]
theorem mloop_any (base M : Nat) (F : Nat → Prop) (m : GM) (last first : PB) (w : World) (h : MkS base M F w m) (hl : PBlt last m.fol.length) (hn : m.fol.length ≤ 448) :
    Calls Tryz.prog 173 #[.pointer (some ⟨M, 0, none⟩), .agg (encW (bW last)), .agg (encW (bW first))] w fun e w' => (∃ u, e = .returned u) ∧ MkS base M F w' (loopG m last first) ∧ Keeps (fun x => x < w.heap.size ∧ ¬ F x) w w' := by
  have H := hid h
  have HL := hid hl
  have hMw : M < w.heap.size := (h.lt M h.fm).2
  rw [← loopP_all m last first hn]
  clear h hl
  refine calls_of_wp_marks Tryz.func173 rfl ?_
  simp only [Tryz.ntmps173, List.size_toArray, List.length_cons, List.length_nil, Nat.reduceAdd, Nat.reduceSub, Array.replicate_succ, Array.replicate_zero, List.push_toArray, List.append_toArray, List.nil_append, List.cons_append]
  go_wp2_with (go_at_call 115; refine (allAt_call _ 0 _).mono ?_; rintro e w1 ⟨rfl, rfl⟩)
  refine wp_named ?_
  intro W0 hW0
  have B0 : Blk W0 w.heap.size #[.pointer (some ⟨M, 0, none⟩)] 124 := by rw [hW0]; exact (((Blk.new _ _ _).alloc _).alloc _).alloc _
  have B1 : Blk W0 (w.heap.size + 1) (encW (bW last)) 129 := by rw [hW0]; exact (((Blk.new _ _ _).at (by simp)).alloc _).alloc _
  have B2 : Blk W0 (w.heap.size + 1 + 1) (encW (bW first)) 129 := by rw [hW0]; exact ((Blk.new _ _ _).at (by simp)).alloc _
  have B3 : Blk W0 (w.heap.size + 1 + 1 + 1) #[.pointer (some ⟨w.heap.size + 1, 0, none⟩)] 174 := by rw [hW0]; exact (Blk.new _ _ _).at (by simp)
  have hx : Ext w W0 := by rw [hW0]; exact ((((Ext.refl w).alloc _).alloc _).alloc _).alloc _
  have hsz : W0.heap.size = w.heap.size + 1 + 1 + 1 + 1 := by rw [hW0]; simp
  clear hW0
  have hF : ∀ x, F x → x < w.heap.size := fun x hx => (H.out.lt x hx).2
  have HND : Hid (∀ (pre : List Nat) (x : Nat), pre ++ [x] <+: posW (bW last) 448 → pre.contains x = false ∧ x < m.fol.length) := hid fun pre x hp => by
    have hnd : (posW (bW last) 448).Nodup := List.nodup_range.filter _
    have h2 := hnd.sublist hp.sublist
    refine ⟨?_, ?_⟩
    · rw [Bool.eq_false_iff]
      intro e
      rw [List.contains_iff_mem] at e
      exact (List.nodup_append.1 h2).2.2 x e x (by simp) rfl
    · have hm : x ∈ posW (bW last) 448 := hp.subset (by simp)
      unfold posW at hm
      have := (List.mem_filter.1 hm).2
      rw [bW_in] at this
      exact HL.out x this
  have HF := hid hF
  have HMi := hid (H.out.keeps hx.keeps hF)
  have hk0 : Keeps (fun x => x < w.heap.size ∧ ¬ F x) w W0 := hx.mono fun x hx => hx.1
  have eg : ∀ args w, (callFunc 149 args).run Tryz.prog w = .ok (.enter 149 args) w := enters_of Tryz.func149 (by kernel_rfl) rfl
  refine wp_range1 (w := W0) (d := true) (allAt_seq (bW last) (w.heap.size + 1 + 1 + 1) (w.heap.size + 1) 0 W0 B3 (WdAt.of_blk B1)) (by rfl) eg (by intro _; rfl) (by intro k hk; rcases hk with hk | hk <;> omega)
    (fun pre _ W => MkS base M F W (loopP m pre first) ∧ Blk W w.heap.size #[.pointer (some ⟨M, 0, none⟩)] 124 ∧ Blk W (w.heap.size + 1 + 1) (encW (bW first)) 129 ∧ Keeps (fun x => x < w.heap.size ∧ ¬ F x) w W)
    (fun _ _ _ _ => False)
    (fun ys T T' W W' ⟨h1, h2, h3, h4⟩ hT hT' hs hn hk => ⟨h1.keeps hk.1 fun x hx => ⟨(h1.lt x hx).2, fun e => by have := (hT x e).1; have := HF.out x hx; omega⟩, h2.stab hT hk (by omega), h3.stab hT hk (by omega), h4.tr (hk.1.mono fun x hx => ⟨by have := h4.size; have := hx.1; omega, fun e => by have := (hT x e).1; have := hx.1; omega⟩)⟩)
    (fun c ys T T' W W' h => h.elim)
    ⟨by rw [loopP_nil]; exact HMi.out, B0, B2, hk0⟩
    (fun x => ⟨#[.pointer (some ⟨M, 0, none⟩), .agg (encW (bW last)), .agg (encW (bW first)), .pointer (some ⟨w.heap.size, 0, none⟩), .pointer (some ⟨w.heap.size + 1, 0, none⟩), .pointer (some ⟨w.heap.size + 1 + 1, 0, none⟩), .int .i64 (x : Int), .func (.func 149) #[] #[.pointer (some ⟨w.heap.size + 1 + 1 + 1, 0, none⟩)], .int .i64 (x : Int), undef, undef, undef, undef, undef, undef, undef, undef], []⟩) ?assign ?body ?done ?stop
  case assign =>
    intro l x W K hK
    gi_wp2
    exact hK
  case body =>
    rintro lr pre x T W hpre hT hR hTl hl ⟨i1, i2, i3, i4⟩
    obtain ⟨hnc, hxl⟩ := HND.out pre x hpre
    obtain ⟨f, hf⟩ : ∃ f, m.fol[x]? = some f := ⟨_, List.getElem?_eq_getElem hxl⟩
    have hcur : (loopP m pre first).fol[x]? = some f := by
      show (m.fol.mapIdx _)[x]? = _
      rw [List.getElem?_mapIdx, hf]
      simp only [Option.map_some]
      rw [hnc]; rfl
    obtain ⟨sv, fv, r1, r2, r3, r4, r5⟩ := i1.row
    have hll : (loopP m pre first).fol.length = m.fol.length := loopP_len _ _ _
    rw [hll] at r4
    obtain ⟨g, cap, rfl⟩ : ∃ g cap, fv = .slice (some ⟨g, 0, none⟩) m.fol.length cap := by
      rcases r4.2 with ⟨_, e2⟩ | ⟨g, cap, cur, e2, _⟩
      · exfalso; omega
      · exact ⟨g, cap, e2⟩
    have hFg : F g := r5 g rfl
    have hgw : g < w.heap.size := HF.out g hFg
    have hFM : F M := i1.fm
    have hgM : M ≠ g := fun e => by
      subst e
      rcases r4.2 with ⟨e4, _⟩ | ⟨g', c', cur, e4, _, h6, _⟩
      · cases e4
      · cases e4
        unfold Blk at r1
        rw [r1] at h6
        injection h6 with h7
        injection h7 with _ h8
        exact absurd h8 (by decide)
    have hwd : WdAt W g (x * 7) (bW f) := ⟨(i1.lt g hFg).2, fun i hi => by
      have := r4.cells (g := g) rfl _ _ (flatB_at hcur hi)
      rw [Addr.add_mid] at this
      simpa using this⟩
    have hfz : ∀ i, i < 7 → W.frozen? ⟨g, x * 7 + i, none⟩ = false := fun i _ => r4.frozenAt _
    have hsW : w.heap.size + 1 + 1 + 1 + 1 ≤ W.heap.size := by have := hR.size; omega
    have q0 : W.cell? ⟨w.heap.size, 0, none⟩ = some (.pointer (some ⟨M, 0, none⟩)) := i2.cell 0
    have q1 : W.cell? ⟨M, 1, none⟩ = some (.slice (some ⟨g, 0, none⟩) m.fol.length cap) := r1.cell 1
    have hxi : (x : Int) < m.fol.length := by omega
    have I1 := hid i1
    have I2 := hid i2
    have I3 := hid i3
    have I4 := hid i4
    have R1 := hid r1
    have HWD := hid hwd
    have HFZ := hid hfz
    have HT := hid hT
    have HCUR := hid hcur
    have HFX := hid hf
    have hb3 := i3
    obtain ⟨nf, hnf⟩ : ∃ n, n = m.fol.length := ⟨_, rfl⟩
    rw [← hnf] at q1 hxi R1
    have HNF := hid hnf
    clear i1 i2 i3 i4 r1 r2 r3 r4 r5 hwd hfz hT hR hTl hl hpre hcur hf hll hnf B0 B1 B2 B3 hk0
    gi_upto_region 3 with fail
    refine wpIn_region_lexK (fun _ => trivial) rfl (fun k => k < W.heap.size ∧ k ≠ g) (by kernel_rfl) (fun i => i == 7) (by kernel_rfl) ?_
    intro C hC hne W2 hK2 hblk hsz2 hx2
    have HC := hid hC
    have f0 := lexCell hC (p := ⟨w.heap.size, 0, none⟩) ⟨I2.out.lt, by show w.heap.size ≠ g; omega⟩ q0
    have f1 := lexCell hC (p := ⟨M, 1, none⟩) ⟨R1.out.lt, hgM⟩ q1
    have hb2 : w.heap.size + 1 + 1 < W.heap.size := I3.out.lt
    have g0 := lexCell hC (p := ⟨w.heap.size + 1 + 1, 0, none⟩) ⟨hb2, by show w.heap.size + 1 + 1 ≠ g; omega⟩ (I3.out.cell 0)
    have g1 := lexCell hC (p := ⟨w.heap.size + 1 + 1, 1, none⟩) ⟨hb2, by show w.heap.size + 1 + 1 ≠ g; omega⟩ (I3.out.cell 1)
    have g2 := lexCell hC (p := ⟨w.heap.size + 1 + 1, 2, none⟩) ⟨hb2, by show w.heap.size + 1 + 1 ≠ g; omega⟩ (I3.out.cell 2)
    have g3 := lexCell hC (p := ⟨w.heap.size + 1 + 1, 3, none⟩) ⟨hb2, by show w.heap.size + 1 + 1 ≠ g; omega⟩ (I3.out.cell 3)
    have g4 := lexCell hC (p := ⟨w.heap.size + 1 + 1, 4, none⟩) ⟨hb2, by show w.heap.size + 1 + 1 ≠ g; omega⟩ (I3.out.cell 4)
    have g5 := lexCell hC (p := ⟨w.heap.size + 1 + 1, 5, none⟩) ⟨hb2, by show w.heap.size + 1 + 1 ≠ g; omega⟩ (I3.out.cell 5)
    have g6 := lexCell hC (p := ⟨w.heap.size + 1 + 1, 6, none⟩) ⟨hb2, by show w.heap.size + 1 + 1 ≠ g; omega⟩ (I3.out.cell 6)
    simp only [encW, List.getElem?_toArray, List.getElem?_cons_zero, List.getElem?_cons_succ] at g0 g1 g2 g3 g4 g5 g6
    have HK2 := hid hK2
    have HBL := hid hblk
    have HX2 := hid hx2
    clear hC hK2 hblk hx2
    refine Later.out ?_
    repeat (refine laterStep (fun K hK => ?_); first | (refine lexN rfl ?_; try go_simp; refine hK _ _ ?_; clear hK K) | (refine lexF rfl rfl ?_; unfold floatAt; go_simp; refine hK _ _ ?_; clear hK K))
    refine laterStep (fun K hK => ?_)
    refine lexE rfl rfl ?_
    go_simp
    have hwd2 : WdAt W2 g (x * 7) (bW f) := HWD.out.keeps HX2.out.keeps HWD.out.1
    have hfz2 : ∀ i, i < 7 → W2.frozen? ⟨g, x * 7 + i, none⟩ = false := fun i hi => by
      have e3 := HFZ.out i hi
      unfold World.frozen? at e3 ⊢
      rw [HBL.out g]; exact e3
    refine effAt_callR ((orAt_any (bW f) (bW first) g (x * 7) W2 hwd2 hfz2).mono ?_)
    rintro e w2 ⟨⟨u, rfl⟩, hx⟩
    have hsz3 := HX2.out.size
    have k1 : Keeps (· ≠ g) W2 (setWds W2 g (x * 7) (fun i => bW f i ||| bW first i) 7) := setWds_keeps _ _ _ _ _
    have k2 : Keeps (fun k => k < W.heap.size ∧ k ≠ g) W w2 := (HX2.out.mono fun k hk => hk.1 : Keeps (fun k => k < W.heap.size ∧ k ≠ g) W W2).tr ((k1.mono fun k hk => hk.2).tr (hx.mono fun k hk => by have := hk.1; omega))
    refine ⟨_, rfl, (HC.out _).2 k2, hK _ _ ?_⟩
    clear hK K
    refine laterNil ?_
    refine ⟨k2.mono fun k hk => ?_, ?_, ?_, ?_, ?_⟩
    · rcases hk with (hk | hk) | hk
      · exact ⟨by omega, by omega⟩
      · exact ⟨by omega, by omega⟩
      · have h9 := HT.out k hk
        exact ⟨h9.2, by omega⟩
    · have h9 := (I1.out.keeps HX2.out.keeps fun x hx => (I1.out.lt x hx).2)
      have h8 := h9.or (R1.out.keeps HX2.out.keeps R1.out.lt) (p := x) (by rw [loopP_len]; exact hxl) (f ||| first) (z := fun i => bW f i ||| bW first i) fun i _ => (bW_or f first i).symm
      rw [loopP_snoc m pre first HFX.out] at h8
      exact h8.keeps hx fun y hy => by have := (h9.lt y hy).2; omega
    · exact I2.out.keeps k2 ⟨I2.out.lt, by omega⟩
    · exact I3.out.keeps k2 ⟨I3.out.lt, by omega⟩
    · exact I4.out.tr (k2.mono fun k hk => ⟨by have := hk.1; omega, fun e => hk.2 (by rw [e]; exact hFg)⟩)
  case done =>
    rintro D T W hD hTD hT ⟨i1, i2, i3, i4⟩ hDD
    have I1 := hid i1
    have I4 := hid i4
    have HD := hid hD
    have HDD := hid hDD
    clear i1 i2 i3 i4 hTD hT hDD hD B0 B1 B2 B3 hk0
    dsimp only
    go_wp2
    have hDw := HD.out
    refine markPost_normal rfl HDD.out (results_none rfl _ _ _) ⟨⟨_, rfl⟩, ?_, ?_⟩
    · exact I1.out.keeps ((Keeps.refl (fun x => x ≠ D) _).putObj (fun h => h rfl) _) fun x hx e => by have := HF.out x hx; omega
    · exact I4.out.putObj (fun h => by have := h.1; omega) _
  case stop => rintro D c pre T W _ _ _ _ h _; exact h.elim
end Go.Proofs.YtbiboekhakbnpaaGreatDoor
