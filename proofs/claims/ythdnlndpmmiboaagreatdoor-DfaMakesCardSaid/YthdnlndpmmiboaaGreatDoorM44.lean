/-
  The reference's dfa.Of.
-/
import Derived.Test.YthdnlndpmmiboaaGreatDoorM43
import Derived.WalkMore
namespace Go.Proofs.YthdnlndpmmiboaaGreatDoor
open Go Go.RowKit Go.Shelf Go.Maps
attribute [local go_sem] encS

/-- What stands beside the rows: the automaton's block, its classes, the least bytes, the result. -/
def RofC (w : World) (db K : Nat) (cv lv nv kv : Value) (P : List BS) (ls : List Nat) (W : World) : Prop :=
  Blk W db #[cv, nv, kv] 48 ∧ W.ownsRow (w.heap.size + 1) 91 256 cv K (flatA (P.map refS)) ∧ W.ownsRow (w.heap.size + 1) 3 1 lv K (ls.map encN) ∧ Blk W w.heap.size #[.slice none 0 0, .slice none 0 0, .slice none 0 0] 48 ∧ Below w.heap.size w W
theorem RofC.keeps {w W W' : World} {db K : Nat} {cv lv nv kv : Value} {P : List BS} {ls : List Nat} (h : RofC w db K cv lv nv kv P ls W) {R : Nat → Prop} (hk : Keeps R W W') (h1 : R db) (h2 : ∀ x, x < W.heap.size → x ≤ w.heap.size → R x) (h3 : ∀ x, cv.ownBlock = some x → x < W.heap.size → R x) (h4 : ∀ x, lv.ownBlock = some x → x < W.heap.size → R x) : RofC w db K cv lv nv kv P ls W' :=
  ⟨h.1.keeps hk h1, ownsRow_keeps h.2.1 hk fun x hx => h3 x hx (h.2.1.lt x hx).2, ownsRow_keeps h.2.2.1 hk fun x hx => h4 x hx (h.2.2.1.lt x hx).2, h.2.2.2.1.keeps hk (h2 _ h.2.2.2.1.lt (Nat.le_refl _)), h.2.2.2.2.trans (hk.mono fun x (hx : x < w.heap.size) => h2 x (Nat.lt_of_lt_of_le hx h.2.2.2.2.size) (Nat.le_of_lt hx) : Keeps (· < w.heap.size) W W').below⟩
theorem RofC.below {w W W' : World} {db K : Nat} {cv lv nv kv : Value} {P : List BS} {ls : List Nat} (h : RofC w db K cv lv nv kv P ls W) (hk : Below W.heap.size W W') : RofC w db K cv lv nv kv P ls W' :=
  h.keeps (Keeps.of_below hk fun _ h => h : Keeps (· < W.heap.size) W W') h.1.lt (fun _ h _ => h) (fun _ _ h => h) (fun _ _ h => h)
theorem RofC.next {w W W' : World} {db K L : Nat} {cv lv nv kv nv' kv' v0 : Value} {P : List BS} {ls : List Nat} {xs : List Value} (h : RofC w db K cv lv nv kv P ls W) (hk : Keeps (fun x => x < W.heap.size ∧ x ≠ db ∧ v0.ownBlock ≠ some x) W W') (hb : Blk W' db #[cv, nv', kv'] 48) (hdb : w.heap.size < db) (h0 : W.ownsRow (w.heap.size + 1) 33 1 v0 L xs) : RofC w db K cv lv nv' kv' P ls W' := by
  have hlow : ∀ x, x ≤ w.heap.size → v0.ownBlock ≠ some x := fun x hx e => by have := (h0.lt x e).1; omega
  exact ⟨hb, keepR h.1 h0 hk h.2.1 (by decide) (.inl (by decide)), keepR h.1 h0 hk h.2.2.1 (by decide) (.inl (by decide)), h.2.2.2.1.keeps hk ⟨h.2.2.2.1.lt, by omega, hlow _ (Nat.le_refl _)⟩, h.2.2.2.2.trans (hk.mono fun x (hx : x < w.heap.size) => ⟨Nat.lt_of_lt_of_le hx h.2.2.2.2.size, by omega, hlow _ (Nat.le_of_lt hx)⟩ : Keeps (· < w.heap.size) W W').below⟩
def Eff.rowI (base n : Nat) (xs : List Value) : Eff (Move false (fun _ => False)) where
  P := fun v => ∃ a c, v = .slice a n c
  H := fun v W => W.ownsRow base 3 1 v n xs
  wit := .slice none n 0
  pw := ⟨none, 0, rfl⟩
  st := fun _ _ _ hm _ h => ownsRow_below h hm.below
def Eff.boxR (base n : Nat) (xs : List Value) : Eff (Move false (fun _ => False)) where
  P := fun v => ∃ b, v = .slice (some ⟨b, 0, none⟩) 1 1
  H := fun v W => ∀ b, v = .slice (some ⟨b, 0, none⟩) 1 1 → ∃ a c, Blk W b #[.slice a n c] 33 ∧ W.ownsRow base 3 1 (.slice a n c) n xs
  wit := .slice (some ⟨0, 0, none⟩) 1 1
  pw := ⟨_, rfl⟩
  st := fun _ _ _ hm _ h b e => by
    obtain ⟨a, c, h1, h2⟩ := h b e
    exact ⟨a, c, h1.below hm.below h1.lt, ownsRow_below h2 hm.below⟩
set_option maxRecDepth 100000 in
set_option maxHeartbeats 16000000 in
theorem rpOf_any (v : Value) (ps : List PT) (f : Int) (w : World) (h : IsRps w v ps) (sm : ∀ x ∈ ps, SmN x.nf) :
    Calls Tryz.prog 13 #[v, .int .i64 f] w fun e w' => ∃ u, e = .returned (.tuple #[u, .int .i64 (ofE ps f).2]) ∧ OwnRf w.heap.size w' u (ofE ps f).1 ∧ Below w.heap.size w w' := by
  obtain ⟨iA, hiA, hzA0, hzA1, hzA2⟩ := info_parts Tryz.infoA
  obtain ⟨iLL, hiLL, hzLL0, hzLL1, hzLL2⟩ := info_parts Tryz.infoLL
  obtain ⟨iL, hiL, hzL0, hzL1, hzL2⟩ := info_parts Tryz.infoL
  obtain ⟨iI, hiI, hzI0, hzI1, hzI2⟩ := info_parts Tryz.infoI
  obtain ⟨pa, pc, rfl⟩ := h.form
  obtain ⟨n, hpn⟩ : ∃ z, z = ps.length := ⟨_, rfl⟩
  rw [← hpn] at h ⊢
  have HPN := Lib.hid hpn
  have HP := Lib.hid h
  have SM := Lib.hid sm
  have fin : Hid (∀ (W : World) (code : Int), ofE ps f = (⟨[], [], []⟩, code) → Blk W w.heap.size #[.slice none 0 0, .slice none 0 0, .slice none 0 0] 48 → Below w.heap.size w W → ∃ u, Ending.returned (.tuple #[.agg #[.slice none 0 0, .slice none 0 0, .slice none 0 0], .int .i64 code]) = .returned (.tuple #[u, .int .i64 (ofE ps f).2]) ∧ OwnRf w.heap.size W u (ofE ps f).1 ∧ Below w.heap.size w W) := Lib.hid fun W code h1 _ h3 => by
    rw [h1]
    exact ⟨_, rfl, ⟨_, _, _, rfl, World.ownsRow_nil _ _ _ _, OwnLL.nil _ _, OwnLL.nil _ _⟩, h3⟩
  clear h sm hpn
  by_cases hmany : 64 < n
  · have hmi : (64 : Int) < n := by omega
    have hpe := Lib.hid (ofE_many (f := f) (show 64 < ps.length by rw [← HPN.out]; exact hmany))
    go_enter Tryz.func13, Tryz.ntmps13
    go_wp2
    refine post_named ?_
    intro W9 hW9
    have E9 : Hid (Blk W9 w.heap.size #[.slice none 0 0, .slice none 0 0, .slice none 0 0] 48 ∧ Below w.heap.size w W9) := by rw [hW9]; exact Lib.hid ⟨Blk.new _ _ _, ((Ext.refl w).alloc _).below⟩
    clear hW9
    obtain ⟨⟨m0, m1, m2⟩, _⟩ := E9.out.1.three
    refine bodyPost_ret (v := .tuple #[.agg #[.slice none 0 0, .slice none 0 0, .slice none 0 0], .int .i64 5]) (by simp [results, Tryz.results13, go_sem, m0, m1, m2]) rfl (fin.out W9 5 hpe.out E9.out.1 E9.out.2)
  · have hmi : ¬ ((64 : Int) < n) := by omega
    have hn64 : ps.length ≤ 64 := by rw [← HPN.out]; omega
    go_enter Tryz.func13, Tryz.ntmps13
    go_wp2
    go_loopw [6, 7, 8] (fun av rv iv wr => ∃ k : Nat, k ≤ n ∧ iv = .int .i64 k ∧ wr.ownsRow (w.heap.size + 1) 91 256 av (allSets (ps.take k)).length (flatA ((allSets (ps.take k)).map refS)) ∧ (allSets (ps.take k)).length ≤ 400 * k ∧ OwnLL (w.heap.size + 1) wr rv (row0 (ps.take k)) ∧ (∀ (i : Nat) (x : PT), i < k → ps[i]? = some x → x.ok = true) ∧ Blk wr w.heap.size #[.slice none 0 0, .slice none 0 0, .slice none 0 0] 48 ∧ Below w.heap.size w wr) (fun _ _ iv _ => n - (intOf iv).toNat)
    case atStart => exact ⟨0, Nat.zero_le _, rfl, World.ownsRow_nil _ _ _ _, Nat.zero_le _, OwnLL.nil _ _, fun i x h => absurd h (Nat.not_lt_zero _), Blk.new _ _ _, ((Ext.refl w).alloc _).below⟩
    case round =>
      obtain ⟨k, hk, rfl, ho, hal, hll, hall, hb, hx⟩ := hrel
      obtain ⟨wo, rfl⟩ : ∃ wo : World, wo = wr := ⟨_, rfl⟩
      have HO := Lib.hid ho
      have HLL := Lib.hid hll
      have HALL := Lib.hid hall
      have HB := Lib.hid hb
      have HX := Lib.hid hx
      have HPO := Lib.hid (HP.out.below hx)
      have hszo : w.heap.size < wo.heap.size := hb.lt
      obtain ⟨A, hA⟩ : ∃ z, z = (allSets (ps.take k)).length := ⟨_, rfl⟩
      rw [← hA] at HO hal
      have HAn := Lib.hid hA
      clear ho hall hb hx hA hll
      by_cases hlt : k < n
      · have hki : (k : Int) < n := by omega
        obtain ⟨x, hx⟩ : ∃ x, ps[k]? = some x := ⟨_, List.getElem?_eq_getElem (by have := HPN.out; omega)⟩
        obtain ⟨b, off, v0, v1, v2, v3, rfl, hb, hnf, q0, q1, q2, q3, q4, q5, q6⟩ := HPO.out.elem hx
        obtain ⟨x0, n0, c0, x1, n1, c1, x2, n2, c2, x3, n3, c3, rfl, rfl, rfl, rfl⟩ := hnf.form4
        have HNF := Lib.hid hnf
        have HXX := Lib.hid hx
        have SX : Hid (SmN x.nf) := Lib.hid (SM.out x (List.mem_of_getElem? hx))
        have Q0 := Lib.hid q0
        have Q6 := Lib.hid q6
        clear hx hnf
        go_wp2_with fail
        refine (rnRight_any _ x.nf SX.out wo HNF.out).mono ?_
        rintro e w2 ⟨rfl, hx2⟩
        have X2 := Lib.hid hx2
        clear hx2 q0 q1 q2 q3 q4 q5 q6
        have C8 := Lib.hid (HB.out.below X2.out hszo)
        have X9 := Lib.hid (HX.out.trans (X2.out.mono HX.out.size))
        have O2 := Lib.hid (ownsRow_below HO.out X2.out)
        have L2 := Lib.hid (HLL.out.below X2.out)
        have KB := Lib.hid (Keeps.of_below X2.out fun _ h => h : Keeps (· < wo.heap.size) wo w2)
        have r0 : w2.cell? ⟨b, off + k * 7, none⟩ = some (.slice x0 n0 c0) := (KB.out.cell (p := ⟨b, off + k * 7, none⟩) hb).trans Q0.out
        have r6 : w2.cell? ⟨b, off + k * 7 + 2 + 4, none⟩ = some (.int .i64 x.mark) := (KB.out.cell (p := ⟨b, off + k * 7 + 6, none⟩) hb).trans Q6.out
        have r6b : w2.cell? ⟨b, off + k * 7 + 6, none⟩ = some (.int .i64 x.mark) := (KB.out.cell (p := ⟨b, off + k * 7 + 6, none⟩) hb).trans Q6.out
        have S2 : Hid (IsArrs w2 (.slice x0 n0 c0) (x.nf.sets.map refS) ∧ n0 = x.nf.sets.length) := Lib.hid (by
          obtain ⟨u0, u1, u2, u3, e, h0, h1, h2, h3⟩ := HNF.out
          cases e
          obtain ⟨a9, c9, e9⟩ := h0.form
          refine ⟨h0.below X2.out, ?_⟩
          cases e9; simp)
        have hsz2 : wo.heap.size ≤ w2.heap.size := X2.out.size
        obtain ⟨⟨k0, k1, k2⟩, z0, z1, z2⟩ := C8.out.three
        by_cases hr : x.nf.right = true
        · have Ntx := (nright_iff _).1 hr
          rw [hr]
          by_cases hm0 : x.mark < 0
          · have d1 : decide (x.mark < 0) = true := decide_eq_true hm0
            have HPZ := Lib.hid (ofE_bad (f := f) hn64 HXX.out (by rw [PT.ok_iff]; omega))
            go_wp2
            refine post_named ?_
            intro W9 hW9
            have E9 : Hid (Blk W9 w.heap.size #[.slice none 0 0, .slice none 0 0, .slice none 0 0] 48 ∧ Below w.heap.size w W9) := by rw [hW9]; exact Lib.hid ⟨C8.out.set3, below_set3 X9.out (Nat.le_refl _)⟩
            clear hW9 z0 z1 z2 k0 k1 k2
            obtain ⟨⟨m0, m1, m2⟩, _⟩ := E9.out.1.three
            refine bodyPost_ret (v := .tuple #[.agg #[.slice none 0 0, .slice none 0 0, .slice none 0 0], .int .i64 180]) (by simp [results, Tryz.results13, go_sem, m0, m1, m2]) rfl (fin.out W9 180 HPZ.out E9.out.1 E9.out.2)
          · have d1 : decide (x.mark < 0) = false := decide_eq_false hm0
            by_cases hm1 : 255 < x.mark
            · have d2 : decide (255 < x.mark) = true := decide_eq_true hm1
              have HPZ := Lib.hid (ofE_bad (f := f) hn64 HXX.out (by rw [PT.ok_iff]; omega))
              go_wp2
              refine post_named ?_
              intro W9 hW9
              have E9 : Hid (Blk W9 w.heap.size #[.slice none 0 0, .slice none 0 0, .slice none 0 0] 48 ∧ Below w.heap.size w W9) := by rw [hW9]; exact Lib.hid ⟨C8.out.set3, below_set3 X9.out (Nat.le_refl _)⟩
              clear hW9 z0 z1 z2 k0 k1 k2
              obtain ⟨⟨m0, m1, m2⟩, _⟩ := E9.out.1.three
              refine bodyPost_ret (v := .tuple #[.agg #[.slice none 0 0, .slice none 0 0, .slice none 0 0], .int .i64 180]) (by simp [results, Tryz.results13, go_sem, m0, m1, m2]) rfl (fin.out W9 180 HPZ.out E9.out.1 E9.out.2)
            · have d2 : decide (255 < x.mark) = false := decide_eq_false hm1
              have hle := Ntx.le
              go_wp2_with (at_builtin; refine Hid.out ?_)
              refine Lib.hid ?_
              refine wpList_appendS rfl (.tmp 52) (.tmp 58) 40 rfl (w.heap.size + 1) 91 iA (.agg (aI fun _ => 0)) 256 2048 Tryz.underlying40 hiA hzA0 hzA1 hzA2 (aI_size _) (by decide) u6 A _ rfl O2.out (.slice x0 n0 c0) x.nf.sets.length (flatA (x.nf.sets.map refS)) rfl (by have h5 := S2.out.1.src; rw [List.length_map] at h5; exact h5) (by rw [flatA_length, List.length_map]) (flatA_one1 _) (by unfold maxLen; omega) (by omega) (by omega) ?_
              intro v' w5 hown hgrow
              have O5 := Lib.hid hown
              have X5 : Hid (Below (w.heap.size + 1) w2 w5) := Lib.hid ((Below.refl _ w2).grown hgrow (by omega) (fun c e => (O2.out.lt c e).1))
              have L5 : Hid (OwnLL (w.heap.size + 1) w5 u7 (row0 (ps.take k))) := Lib.hid (L2.out.apart O2.out (by decide) (by decide) (Keeps.of_grown hgrow fun x hx => ⟨hx.1, fun e => hx.2 e.symm⟩))
              have hsz5 : w2.heap.size ≤ w5.heap.size := X5.out.size
              clear hown hgrow r0 r6 r6b
              obtain ⟨us, s1, s2, s3⟩ := L5.out
              obtain ⟨m, hm⟩ : ∃ z, z = us.length := ⟨_, rfl⟩
              have hmk : m = k := by rw [hm, s1]; unfold row0; rw [List.length_map, List.length_take]; have := HPN.out; omega
              rw [← hm] at s2
              have HM := Lib.hid hm
              have S1 := Lib.hid s1
              have SS2 := Lib.hid s2
              have S3 := Lib.hid s3
              clear s1 s2 s3 hm
              go_wp2_with (at_builtin; refine Hid.out ?_)
              refine Lib.hid ?_
              have hw5c : ∀ j u, [(.slice (some ⟨w5.heap.size, 0, none⟩) 1 1 : Value)][j]? = some u → ((w5.alloc (.cells #[.int .i64 (-1)] 3)).alloc (.cells #[.slice (some ⟨w5.heap.size, 0, none⟩) 1 1] 33)).cell? ((⟨w5.heap.size + 1, 0, none⟩ : Addr).add j) = some u := by
                have h5 := cell_one (w5.alloc (.cells #[.int .i64 (-1)] 3)) (.slice (some ⟨w5.heap.size, 0, none⟩) 1 1) 33
                rw [World.size_alloc] at h5
                exact h5
              refine wpList_append_own_at _ rfl (.tmp 60) (.tmp 62) 27 rfl (w.heap.size + 1) 33 iL (.slice none 0 0) 1 24 Tryz.underlying27 hiL hzL0 hzL1 hzL2 rfl (by decide) u7 m us rfl ((SS2.out.alloc _).alloc _) ⟨w5.heap.size + 1, 0, none⟩ 1 1 [.slice (some ⟨w5.heap.size, 0, none⟩) 1 1] rfl rfl hw5c (by simp [Value.oneCell']) (by unfold maxLen; omega) (by omega) (by simp; omega) ?_
              intro v7 w7 hown hgrow hh hat
              have O1 : (w5.alloc (.cells #[.int .i64 (-1)] 3)).ownsRow w5.heap.size 3 1 (.slice (some ⟨w5.heap.size, 0, none⟩) 1 1) 1 [.int .i64 (-1)] := ⟨rfl, .inr ⟨w5.heap.size, 1, #[.int .i64 (-1)], rfl, Nat.le_refl _, World.alloc_heap_new _ _, Nat.le_refl _, by unfold maxLen; omega, rfl, rfl⟩⟩
              have LL7 : Hid (OwnLL (w.heap.size + 1) w7 v7 (row0 (ps.take (k + 1)))) := Lib.hid (by
                have e1 : row0 (ps.take (k + 1)) = row0 (ps.take k) ++ [[-1]] := by unfold row0; rw [List.take_add_one, HXX.out]; simp
                rw [e1]
                exact OwnLL.snoc (w := (w5.alloc (.cells #[.int .i64 (-1)] 3)).alloc (.cells #[.slice (some ⟨w5.heap.size, 0, none⟩) 1 1] 33)) (v := u7) (u := .slice (some ⟨w5.heap.size, 0, none⟩) 1 1) S1.out (by rw [← HM.out]; exact (SS2.out.alloc _).alloc _) (fun i u l hu hl => ((S3.out i u l hu hl).alloc _).alloc _) ((ownsRow_base O1 (by omega)).alloc _) hgrow (by rw [← HM.out]; exact hown))
              have X7 : Hid (Below (w.heap.size + 1) w5 w7) := Lib.hid ((((Below.refl _ w5).alloc (by omega) _).alloc (by simp; omega) _).grown hgrow (by simp; omega) (fun c e => (SS2.out.lt c e).1))
              have O7 : Hid (w7.ownsRow (w.heap.size + 1) 91 256 v' (A + x.nf.sets.length) (flatA ((allSets (ps.take k)).map refS) ++ flatA (x.nf.sets.map refS))) := Lib.hid (by
                have h5 := ((O5.out.alloc (.cells #[.int .i64 (-1)] 3)).alloc (.cells #[.slice (some ⟨w5.heap.size, 0, none⟩) 1 1] 33))
                refine ownsRow_keeps h5 (Keeps.of_grown hgrow fun x hx => ⟨hx.1, fun e => hx.2 e.symm⟩ : Keeps (fun x => x < ((w5.alloc (.cells #[.int .i64 (-1)] 3)).alloc (.cells #[.slice (some ⟨w5.heap.size, 0, none⟩) 1 1] 33)).heap.size ∧ u7.ownBlock ≠ some x) _ w7) fun y hy => ⟨(h5.lt y hy).2, fun e2 => ?_⟩
                rcases ownBlock_ne (by decide) h5 ((SS2.out.alloc (.cells #[.int .i64 (-1)] 3)).alloc (.cells #[.slice (some ⟨w5.heap.size, 0, none⟩) 1 1] 33)) with h6 | h6
                · rw [h6] at hy; cases hy
                · exact h6 (by rw [hy, e2]))
              clear hown hgrow hh hat hw5c O1
              go_wp2
              go_roundw
              case rel =>
                refine ⟨k + 1, by omega, by go_num, ?_, ?_, LL7.out, fun i y hi hy => ?_, (C8.out.below X5.out (by omega)).below X7.out (by omega), (X9.out.trans (X5.out.mono (by omega))).trans (X7.out.mono (by omega))⟩
                · rw [allSets_take HXX.out, List.length_append, List.map_append, flatA_append, ← HAn.out]
                  exact O7.out
                · rw [allSets_take HXX.out, List.length_append, ← HAn.out]
                  omega
                · by_cases e : i < k
                  · exact HALL.out i y e hy
                  · obtain rfl : i = k := by omega
                    rw [HXX.out] at hy
                    cases hy
                    exact (PT.ok_iff _).2 ⟨hr, by omega, by omega⟩
              case measure => simp [intOf]; omega
        · rw [Bool.not_eq_true] at hr
          rw [hr]
          have HPZ := Lib.hid (ofE_bad (f := f) hn64 HXX.out (by rw [PT.ok_iff]; rw [hr]; simp))
          go_wp2
          refine post_named ?_
          intro W9 hW9
          have E9 : Hid (Blk W9 w.heap.size #[.slice none 0 0, .slice none 0 0, .slice none 0 0] 48 ∧ Below w.heap.size w W9) := by rw [hW9]; exact Lib.hid ⟨C8.out.set3, below_set3 X9.out (Nat.le_refl _)⟩
          clear hW9 z0 z1 z2 k0 k1 k2
          obtain ⟨⟨m0, m1, m2⟩, _⟩ := E9.out.1.three
          refine bodyPost_ret (v := .tuple #[.agg #[.slice none 0 0, .slice none 0 0, .slice none 0 0], .int .i64 180]) (by simp [results, Tryz.results13, go_sem, m0, m1, m2]) rfl (fin.out W9 180 HPZ.out E9.out.1 E9.out.2)
      · obtain rfl : k = n := by omega
        clear hlt hk
        have hki : ¬ ((k : Int) < k) := by omega
        have htk : ps.take k = ps := by rw [HPN.out]; exact List.take_length
        have HOK : Hid (ps.all PT.ok = true) := Lib.hid (all_ok fun i x hx => HALL.out i x (by have := (List.getElem?_eq_some_iff.1 hx).1; have := HPN.out; omega) hx)
        rw [htk] at HO HAn HLL
        clear htk HALL
        obtain ⟨⟨k0, k1, k2⟩, z0, z1, z2⟩ := HB.out.three
        by_cases hf0 : f < 0
        · have d1 : decide (f < 0) = true := decide_eq_true hf0
          have HPZ := Lib.hid (ofE_fuel (f := f) hn64 HOK.out (.inl hf0))
          go_wp2
          refine post_named ?_
          intro W9 hW9
          have E9 : Hid (Blk W9 w.heap.size #[.slice none 0 0, .slice none 0 0, .slice none 0 0] 48 ∧ Below w.heap.size w W9) := by rw [hW9]; exact Lib.hid ⟨HB.out.set3, below_set3 HX.out (Nat.le_refl _)⟩
          clear hW9 z0 z1 z2 k0 k1 k2
          obtain ⟨⟨m0, m1, m2⟩, _⟩ := E9.out.1.three
          refine bodyPost_ret (v := .tuple #[.agg #[.slice none 0 0, .slice none 0 0, .slice none 0 0], .int .i64 2]) (by simp [results, Tryz.results13, go_sem, m0, m1, m2]) rfl (fin.out W9 2 HPZ.out E9.out.1 E9.out.2)
        · have d1 : decide (f < 0) = false := decide_eq_false hf0
          by_cases hf4 : 4000 < f
          · have d2 : decide (4000 < f) = true := decide_eq_true hf4
            have HPZ := Lib.hid (ofE_fuel (f := f) hn64 HOK.out (.inr hf4))
            go_wp2
            refine post_named ?_
            intro W9 hW9
            have E9 : Hid (Blk W9 w.heap.size #[.slice none 0 0, .slice none 0 0, .slice none 0 0] 48 ∧ Below w.heap.size w W9) := by rw [hW9]; exact Lib.hid ⟨HB.out.set3, below_set3 HX.out (Nat.le_refl _)⟩
            clear hW9 z0 z1 z2 k0 k1 k2
            obtain ⟨⟨m0, m1, m2⟩, _⟩ := E9.out.1.three
            refine bodyPost_ret (v := .tuple #[.agg #[.slice none 0 0, .slice none 0 0, .slice none 0 0], .int .i64 2]) (by simp [results, Tryz.results13, go_sem, m0, m1, m2]) rfl (fin.out W9 2 HPZ.out E9.out.1 E9.out.2)
          · have d2 : decide (4000 < f) = false := decide_eq_false hf4
            obtain ⟨F, rfl⟩ : ∃ F : Nat, f = F := ⟨f.toNat, by omega⟩
            have hF4 : F ≤ 4000 := by omega
            by_cases hf1 : F = 0
            · have d3 : ((F : Int) == 0) = true := by rw [hf1]; rfl
              have HF1 := Lib.hid hf1
              clear hf1
              have HPZ := Lib.hid (ofE_gone (f := F) hn64 HOK.out hF4 (by unfold ofSt; rw [if_pos HF1.out]))
              go_wp2
              refine post_named ?_
              intro W9 hW9
              have E9 : Hid (Blk W9 w.heap.size #[.slice none 0 0, .slice none 0 0, .slice none 0 0] 48 ∧ Below w.heap.size w W9) := by rw [hW9]; exact Lib.hid ⟨HB.out.set3, below_set3 HX.out (Nat.le_refl _)⟩
              clear hW9 z0 z1 z2 k0 k1 k2
              obtain ⟨⟨m0, m1, m2⟩, _⟩ := E9.out.1.three
              refine bodyPost_ret (v := .tuple #[.agg #[.slice none 0 0, .slice none 0 0, .slice none 0 0], .int .i64 181]) (by simp [results, Tryz.results13, go_sem, m0, m1, m2]) rfl (fin.out W9 181 HPZ.out E9.out.1 E9.out.2)
            · have d3 : ((F : Int) == 0) = false := by rw [beq_eq_false_iff_ne]; omega
              clear z0 z1 z2 k0 k1 k2
              have hF1 : 1 ≤ F := by omega
              obtain ⟨P, hP⟩ : ∃ z, z = partsOf (allSets ps) := ⟨_, rfl⟩
              obtain ⟨R, hR⟩ : ∃ z, z = refA (allSets ps) := ⟨_, rfl⟩
              have AG : Hid (Agrees P R) := Lib.hid (by rw [hP, hR]; exact agrees_of _)
              obtain ⟨K, hK⟩ : ∃ z, z = P.length := ⟨_, rfl⟩
              have hK256 : K ≤ 256 := by rw [hK, hP, (partsOf_perm _).length_eq]; exact partsRaw_len _
              have hKl : (leastsTo R 256).length = K := by rw [hK]; exact AG.out.len.symm
              have LE : Hid (∀ k, k < K → (leastsTo R 256)[k]? = some (lb P k)) := Lib.hid fun k hk => by
                obtain ⟨m, hm⟩ : ∃ m, (leastsTo R 256)[k]? = some m := ⟨_, List.getElem?_eq_getElem (by rw [hKl]; exact hk)⟩
                obtain ⟨s, hs, _, hl⟩ := AG.out.cls k m hm
                have h3 : leastOf P k = firstOf s := by
                  unfold leastOf
                  have : setOf P (k : Int) = some s := by
                    unfold setOf
                    simp [hs]
                  rw [this]
                rw [h3] at hl
                have h4 : lb P k = m := by unfold lb; rw [getD_some hs, hl]
                rw [h4]
                exact hm
              have LB : Hid (∀ k, k < K → lb P k < 256) := Lib.hid fun k hk => by rw [hP]; exact lb_lt (by rw [← hP, ← hK]; exact hk)
              have CO : Hid (∀ W u, IsArrs W u ((allSets ps).map refS) → Calls Tryz.prog 47 #[u] W fun e w' => e = .returned (.agg (aI R)) ∧ Ext W w') := Lib.hid fun W u h => by
                rw [hR]; exact refOf_any u _ W h (by rw [List.length_map, ← HAn.out]; omega)
              have CL : Hid (∀ W, Calls Tryz.prog 48 #[.agg (aI R)] W fun e w' => ∃ a c, e = .returned (.slice a K c) ∧ w'.ownsRow W.heap.size 3 1 (.slice a K c) K ((leastsTo R 256).map encN) ∧ Below W.heap.size W w') := Lib.hid fun W => (leasts_any R W).mono fun e w' ⟨u, he, ho, hx⟩ => by
                rw [hKl] at ho
                obtain ⟨a, c, rfl⟩ := ownsRow_form ho
                exact ⟨a, c, he, ho, hx⟩
              have CC : Hid (∀ W, Calls Tryz.prog 49 #[.agg (aI R)] W fun e w' => ∃ u, e = .returned u ∧ w'.ownsRow W.heap.size 91 256 u K (flatA (P.map refS)) ∧ Below W.heap.size W w') := Lib.hid fun W => (refClassesD_any P R AG.out W).mono fun e w' ⟨u, he, ho, hx⟩ => by
                rw [List.length_map, ← hK] at ho
                exact ⟨u, he, ho, hx⟩
              have HST : Hid (mkSt ps (leastsTo R 256) F = ofSt ps F) := Lib.hid (mkSt_of (by rw [hKl, hK, hP]) fun i hi => by
                rw [hKl] at hi
                rw [getD_some (LE.out i hi), hP])
              have HKL := Lib.hid hKl
              have HKK := Lib.hid hK
              have HPP := Lib.hid hP
              clear hP hR hK hKl
              have HIA : Hid (IsArrs wo u6 ((allSets ps).map refS)) := Lib.hid (ownsRow_arrs (base := w.heap.size + 1) (by rw [List.length_map, ← HAn.out]; exact HO.out))
              go_wp2_with fail
              refine (CO.out wo u6 HIA.out).mono ?_
              rintro e w2 ⟨rfl, hx⟩
              have B2 := Lib.hid (HB.out.ext hx)
              have X2 := Lib.hid (HX.out.trans (hx.below.mono HX.out.size))
              have L2 := Lib.hid (HLL.out.below hx.below)
              clear hx HIA HO HB HX HLL CO HPO
              have hz := zeroA87
              have BX0 : Hid (Blk (w2.alloc (.cells (aI fun _ => 0) 95)) w2.heap.size (aI fun _ => 0) 95) := Lib.hid (Blk.new _ _ _)
              have ZX : Hid (Blk ((w2.alloc (.cells (aI fun _ => 0) 95)).setRow w2.heap.size (aI R)) w2.heap.size (aI R) 95) := Lib.hid BX0.out.setRow
              go_wp2_with (first | (refine wpList_store_row rfl 95 (.tmp 9) (.tmp 75) rfl w2.heap.size (aI R) rfl rfl 95 (aI fun _ => 0) BX0.out (sizeA87 _) (by rw [aI_size, aI_size]) (aI_one _) ?_) | (refine wpList_load_w rfl 95 (.tmp 9) rfl w2.heap.size rfl (aI R) _ ZX.out.range Tryz.underlying95 rfl (sizeA87 R) ?_))
              clear hz
              refine calls_named ?_
              intro V hV
              have KV : Keeps (fun x => x < w2.heap.size) w2 V := by rw [hV]; exact ((Keeps.refl _ w2).alloc (fun x hx => hx) _).setRow (fun h => Nat.lt_irrefl _ h) _
              have ZV : Hid (Blk V w2.heap.size (aI R) 95) := by rw [hV]; exact ZX
              clear hV
              have B3 := Lib.hid (B2.out.keeps KV B2.out.lt)
              have X3 := Lib.hid (X2.out.trans (KV.below.mono X2.out.size))
              have L3 := Lib.hid (L2.out.below KV.below)
              clear KV B2 X2 L2 BX0 ZX
              refine (CL.out V).mono ?_
              rintro e w5 ⟨la, lc, rfl, hl, hx⟩
              have LR5 := Lib.hid hl
              have Z5 := Lib.hid (ZV.out.below hx ZV.out.lt)
              have B5 := Lib.hid (B3.out.below hx B3.out.lt)
              have X5 := Lib.hid (X3.out.trans (hx.mono X3.out.size))
              have L5 := Lib.hid (L3.out.below hx)
              have hV5 : V.heap.size ≤ w5.heap.size := hx.size
              have hw2V : w2.heap.size < V.heap.size := ZV.out.lt
              have hcV : w.heap.size < V.heap.size := B3.out.lt
              clear hl hx B3 X3 L3 ZV
              go_wp2_with (refine wpList_load_w rfl 95 (.tmp 9) rfl w2.heap.size rfl (aI R) _ Z5.out.range Tryz.underlying95 rfl (sizeA87 R) ?_)
              refine (CC.out w5).mono ?_
              rintro e w6 ⟨cv, rfl, hc6, hx⟩
              obtain ⟨ca, cc, rfl⟩ := ownsRow_form hc6
              have CR6 := Lib.hid hc6
              have LR6 := Lib.hid (ownsRow_below LR5.out hx)
              have B6 := Lib.hid (B5.out.below hx B5.out.lt)
              have X6 := Lib.hid (X5.out.trans (hx.mono X5.out.size))
              have L6 := Lib.hid (L5.out.below hx)
              have h56 : w5.heap.size ≤ w6.heap.size := hx.size
              clear hc6 hx LR5 B5 X5 L5 Z5 CL CC
              obtain ⟨us7, s1, s2, s3⟩ := L6.out
              obtain ⟨m7, hm7⟩ : ∃ z, z = us7.length := ⟨_, rfl⟩
              rw [← hm7] at s2
              obtain ⟨ra, rc, rfl⟩ := ownsRow_form s2
              clear s1 s2 s3 hm7
              go_wp2
              refine wp_named ?_
              intro w7 hw7
              have D7 : Hid (Blk w7 w6.heap.size #[.slice ca K cc, .slice none 0 0, .slice none 0 0] 48) := Lib.hid (by rw [hw7]; exact (Blk.new w6 _ _).alloc _)
              have R7 : Hid (Blk w7 (w6.heap.size + 1) #[.slice ra m7 rc] 27) := Lib.hid (by rw [hw7]; exact (Blk.new (w6.alloc _) _ _).at (by simp))
              have X67 : Hid (Below w6.heap.size w6 w7) := Lib.hid (by rw [hw7]; exact (((Ext.refl w6).alloc _).alloc _).below)
              clear hw7
              have B7 := Lib.hid (B6.out.below X67.out B6.out.lt)
              have X7 := Lib.hid (X6.out.trans (X67.out.mono X6.out.size))
              have CR7 := Lib.hid (ownsRow_below CR6.out X67.out)
              have LR7 := Lib.hid (ownsRow_below LR6.out X67.out)
              have L7 := Lib.hid (L6.out.below X67.out)
              have h67 : w6.heap.size < w7.heap.size := D7.out.lt
              clear B6 X6 CR6 LR6 L6 X67
              obtain ⟨ls, hls⟩ : ∃ z, z = leastsTo R 256 := ⟨_, rfl⟩
              rw [← hls] at LE LR7 HST HKL
              clear hls
              have HSTn : Hid (∀ n st, stTo F (mkG ps ls) ls.length (row0 ps) n = some st → StOk F ls.length (RowIn ps) (row0 ps) n st) := Lib.hid fun n st h => mk_ok hF1 h
              have PSOK : Hid (PsOk ps) := Lib.hid ⟨hn64, fun x hx => by
                have h5 := (PT.ok_iff x).1 (List.all_eq_true.1 HOK.out x hx)
                exact ⟨(nright_iff _).1 h5.1, SM.out x hx, h5.2.1, h5.2.2⟩⟩
              have hbase : w.heap.size + 1 ≤ w5.heap.size := by omega
              have RK7 : Hid (Rk (fun _ => True) w7 (w.heap.size + 1) [row0 ps] [] [] (.slice (some ⟨w6.heap.size + 1, 0, none⟩) 1 1) (.slice none 0 0) (.slice none 0 0) [.slice ra m7 rc] [] []) := Lib.hid
                { st := ⟨⟨rfl, .inr ⟨w6.heap.size + 1, 1, #[.slice ra m7 rc], rfl, by omega, R7.out, Nat.le_refl _, by unfold maxLen; omega, rfl, rfl⟩⟩, fun _ _ => trivial⟩
                  stI := fun i u r hu hr => by
                    cases i with
                    | succ i => simp at hu
                    | zero =>
                      cases hu
                      cases hr
                      refine ⟨LLF.of L7.out fun _ _ => trivial, ?_, ?_⟩ <;> (cases e : (Value.slice ra m7 rc).ownBlock with
                        | none => exact .inl e
                        | some x => exact .inr (by rw [e]; intro h; cases h))
                  nxr := RowF.nil _ _ _ _
                  nxI := fun i u l hu => by simp at hu
                  mkr := RowF.nil _ _ _ _
                  mkI := fun i u l hu => by simp at hu
                  far := .inl rfl }
              have AX7 : Hid (RofC w w6.heap.size K (.slice ca K cc) (.slice la K lc) (.slice none 0 0) (.slice none 0 0) P ls w7) := Lib.hid ⟨D7.out, ownsRow_base CR7.out hbase, ownsRow_base LR7.out (by omega), B7.out, X7.out⟩
              have hdb : w.heap.size < w6.heap.size := by omega
              clear D7 R7 B7 X7 CR7 LR7 L7
              go_loopw [12, 13] (fun sv iv wr => ∃ (n : Nat) (rows : List (List (List Int))) (nxs : List (List Nat)) (nv kv : Value) (us ns ks : List Value), stTo F (mkG ps ls) ls.length (row0 ps) n = some (rows, nxs) ∧ n ≤ rows.length ∧ iv = .int .i64 n ∧ Rk (fun _ => True) wr (w.heap.size + 1) rows (nxs.map fun r => r.map Int.ofNat) ((rows.take n).map (marksR ps)) sv nv kv us ns ks ∧ RofC w w6.heap.size K (.slice ca K cc) (.slice la K lc) nv kv P ls wr) (fun _ iv _ => F - (intOf iv).toNat)
              case atStart => exact ⟨0, [row0 ps], [], _, _, _, _, _, rfl, Nat.zero_le _, rfl, RK7.out, AX7.out⟩
              case round =>
                obtain ⟨n, rows, nxs, nv, kv, us, ns, ks, hst, hn, rfl, hR, hA⟩ := hrel
                obtain ⟨wo, rfl⟩ : ∃ wo : World, wo = wr := ⟨_, rfl⟩
                have IS := Lib.hid (HSTn.out n _ hst)
                obtain ⟨L, hLn⟩ : ∃ z, z = rows.length := ⟨_, rfl⟩
                have hst1 := hR.st.1
                rw [← hLn] at hst1 hn
                obtain ⟨sa, sc, rfl⟩ := ownsRow_form hst1
                have hLf : L ≤ F := by rw [hLn]; exact IS.out.le
                have RKo := Lib.hid hR
                have AXo := Lib.hid hA
                have HLn := Lib.hid hLn
                have HST2 := Lib.hid hst
                clear hst hR hA hLn hst1 RK7 AX7
                by_cases hlt : n < L
                · have hni : (n : Int) < L := by omega
                  obtain ⟨p, hp⟩ : ∃ p, rows[n]? = some p := ⟨_, List.getElem?_eq_getElem (by have := HLn.out; omega)⟩
                  have HPp := Lib.hid hp
                  clear hp
                  go_wp2
                  go_loopw [12, 14, 15] (fun sv2 xv iv wr => ∃ (j : Nat) (rows2 : List (List (List Int))) (row2 : List Nat) (us2 : List Value), rowTo F (mkG ps ls p) rows j = some (rows2, row2) ∧ j ≤ K ∧ iv = .int .i64 j ∧ wr.ownsRow wo.heap.size 3 1 xv j (row2.map fun t : Nat => .int .i64 t) ∧ Rk (fun x => xv.ownBlock ≠ some x) wr (w.heap.size + 1) rows2 (nxs.map fun r => r.map Int.ofNat) ((rows.take n).map (marksR ps)) sv2 nv kv us2 ns ks ∧ RofC w w6.heap.size K (.slice ca K cc) (.slice la K lc) nv kv P ls wr ∧ wo.heap.size ≤ wr.heap.size) (fun _ _ iv _ => K - (intOf iv).toNat)
                  case atStart => exact ⟨0, rows, [], us, rfl, Nat.zero_le _, rfl, World.ownsRow_nil _ _ _ _, RKo.out.mono (fun x _ _ e => by cases e), AXo.out, Nat.le_refl _⟩
                  case round =>
                    obtain ⟨j, rows2, row2, us2, hr2, hj, rfl, hnx, hR2, hA2, hwoj⟩ := hrel
                    obtain ⟨wj, rfl⟩ : ∃ wj : World, wj = wr := ⟨_, rfl⟩
                    have RO := Lib.hid (rowTo_ok (P := RowIn ps) IS.out.nodup IS.out.le IS.out.all j (fun _ _ => stepR_in (IS.out.all p (List.mem_of_getElem? HPp.out)) _) hr2)
                    have HR2 := Lib.hid hr2
                    obtain ⟨L2, hL2⟩ : ∃ z, z = rows2.length := ⟨_, rfl⟩
                    have hst2 := hR2.st.1
                    rw [← hL2] at hst2
                    obtain ⟨sa2, sc2, rfl⟩ := ownsRow_form hst2
                    have RKj := Lib.hid hR2
                    have AXj := Lib.hid hA2
                    have NXj := Lib.hid hnx
                    have HL2 := Lib.hid hL2
                    have HST3 := Lib.hid hst2
                    have hL2f : L2 ≤ F := by rw [hL2]; exact RO.out.le
                    have hLL2 : L ≤ L2 := by
                      have h5 : rows.length ≤ rows2.length := RO.out.pre.length_le
                      have h6 := HLn.out
                      omega
                    clear hr2 hR2 hA2 hnx hL2 hst2
                    by_cases hlt2 : j < K
                    · have hji : (j : Int) < K := by omega
                      have hn2 : n < L2 := by omega
                      have hn2i : (n : Int) < L2 := by omega
                      have hp2 : rows2[n]? = some p := by
                        obtain ⟨ys, hys⟩ := RO.out.pre
                        replace hys : rows ++ ys = rows2 := hys
                        rw [← hys, List.getElem?_append_left (by have := HLn.out; omega)]
                        exact HPp.out
                      obtain ⟨g, u, rfl, hbg, hgs, hu, fu, _⟩ := rowCell HST3.out hn2
                      have hLu := (RKj.out.stI n u p hu hp2).1.own
                      obtain ⟨ua, uc, rfl⟩ := hLu.ll.form
                      have HLu := Lib.hid hLu
                      obtain ⟨lb9, y, rfl, _, hls9, hy, fy, _⟩ := rowCell AXj.out.2.2.1 hlt2
                      obtain ⟨q, hq⟩ : ∃ z, z = lb P j := ⟨_, rfl⟩
                      have hq256 : q < 256 := by rw [hq]; exact LB.out j hlt2
                      have hlq := LE.out j hlt2
                      rw [← hq] at hlq
                      obtain rfl : y = .int .i64 q := by
                        rw [List.getElem?_map, hlq] at hy
                        cases hy; rfl
                      have HG : Hid (mkG ps ls p j = stepR ps p q) := Lib.hid (by unfold mkG; rw [getD_some hlq])
                      have HJL : Hid (j < ls.length) := Lib.hid (List.getElem?_eq_some_iff.1 hlq).1
                      have cvq : IntKind.u8.wrap (q : Int) = q := IntWalk.u8_in _ (by omega)
                      have HPj := Lib.hid (HP.out.below AXj.out.2.2.2.2)
                      have HRp : Hid (RowIn ps p) := Lib.hid (IS.out.all p (List.mem_of_getElem? HPp.out))
                      clear hu hp2 hLu hy hq hlq
                      go_wp2
                      refine wp_region_reg false (fun _ => False) (by kernel_rfl) 10 [0, 0, 0, 6, 14, 0, 0, 96, 224, 480, 1023, 2047] (fun i => i == 10) (by kernel_rfl) (fun i => Eff.any _) ?_
                      intro C hC hne
                      have HC := Lib.hid hC
                      have f0 := regCell hC (p := ⟨g, n, none⟩) hgs (fun h => h) fu
                      have f1 := regCell hC (p := ⟨lb9, j, none⟩) hls9 (fun h => h) fy
                      clear hC fu fy
                      repeat (refine regStep (fun K hK => ?_); first | (refine regN rfl ?_; try go_simp; refine hK _ _ ?_; clear hK K) | (refine regF rfl rfl ?_; unfold floatAt; go_simp; refine hK _ _ ?_; clear hK K))
                      refine regNil (fun V hW hH => ?_)
                      have XV := Lib.hid (((HC.out V).1 hW).below)
                      clear hW hH HC hne f0 f1
                      have hjV : wj.heap.size ≤ V.heap.size := XV.out.size
                      go_wp2_with fail
                      refine (rpStep_any (.slice pa k pc) (.slice ua p.length uc) ps PSOK.out p HRp.out q hq256 V (HPj.out.below XV.out) (HLu.out.ll.below XV.out)).mono ?_
                      rintro e ws ⟨v1, rfl, hq1, hxs⟩
                      have hVs : V.heap.size ≤ ws.heap.size := hxs.size
                      have XS := Lib.hid (XV.out.trans (hxs.mono hjV))
                      have QL := Lib.hid hq1
                      have RKs := Lib.hid (RKj.out.below XS.out)
                      have AXs := Lib.hid (AXj.out.below XS.out)
                      have NXs := Lib.hid (ownsRow_below NXj.out XS.out)
                      have ST3 := Lib.hid (ownsRow_below HST3.out XS.out)
                      obtain ⟨qu, e1, e2, e3⟩ := hq1
                      obtain ⟨qn, hqn⟩ : ∃ z, z = qu.length := ⟨_, rfl⟩
                      rw [← hqn] at e2
                      obtain ⟨qa, qc, rfl⟩ := ownsRow_form e2
                      clear e1 e2 e3 hqn hxs HLu HPj
                      obtain ⟨Q, hQ⟩ : ∃ z, z = stepR ps p q := ⟨_, rfl⟩
                      rw [← hQ] at QL HG
                      have HQ := Lib.hid hQ
                      have HQin : Hid (RowIn ps Q) := Lib.hid (by rw [hQ]; exact stepR_in HRp.out q)
                      clear hQ
                      go_wp2
                      go_loopw [17] (fun tv wr => ∃ i : Nat, i ≤ L2 ∧ tv = .int .i64 i ∧ i ≤ plcOf Q rows2 ∧ Below ws.heap.size ws wr) (fun tv _ => L2 - (intOf tv).toNat)
                      case atStart => exact ⟨0, Nat.zero_le _, rfl, Nat.zero_le _, Below.refl _ _⟩
                      case round =>
                        obtain ⟨i, hi, rfl, hip, hxd⟩ := hrel
                        obtain ⟨wc, rfl⟩ : ∃ wc : World, wc = wr := ⟨_, rfl⟩
                        have HXD := Lib.hid hxd
                        have HIP := Lib.hid hip
                        clear hxd hip
                        by_cases hlt3 : i < L2
                        · have hii : (i : Int) < L2 := by omega
                          obtain ⟨g2, y2, e9, _, hgs2, hy2, fy2, _⟩ := rowCell (ownsRow_below ST3.out HXD.out) hlt3
                          cases e9
                          obtain ⟨r, hr⟩ : ∃ r, rows2[i]? = some r := ⟨_, List.getElem?_eq_getElem (by have := HL2.out; omega)⟩
                          have hLr := (RKs.out.below HXD.out).stI i y2 r hy2 hr
                          obtain ⟨ya, yc, rfl⟩ := hLr.1.own.ll.form
                          have HLr := Lib.hid hLr.1.own.ll
                          have HRr := Lib.hid hr
                          have hrin := RO.out.all r (List.mem_of_getElem? hr)
                          have CE := Lib.hid (rpEqual_any (.slice ya r.length yc) (.slice qa qn qc) r Q (by rw [hrin.1, HQin.out.1]) (by rw [hrin.1]; omega) (fun l hl => by
                            obtain ⟨i5, h5⟩ := List.getElem?_of_mem hl
                            have h6 := (List.getElem?_eq_some_iff.1 h5).1
                            have h7 : ps[i5]? = some (ps[i5]'(by rw [← hrin.1]; exact h6)) := List.getElem?_eq_getElem _
                            exact Nat.le_trans (st_len (PSOK.out.2 _ (List.mem_of_getElem? h7)).1 (hrin.2 i5 _ l h7 h5)) (by decide)) wc HLr.out (QL.out.below HXD.out).ll)
                          obtain ⟨rl, hrl⟩ : ∃ z, z = r.length := ⟨_, rfl⟩
                          rw [← hrl] at CE fy2
                          obtain ⟨eq, heq⟩ : ∃ z, z = decide (r = Q) := ⟨_, rfl⟩
                          rw [← heq] at CE
                          have HEQ := Lib.hid heq
                          clear hr hLr hrin hrl heq hy2
                          go_wp2_with fail
                          refine CE.out.mono ?_
                          rintro e wd ⟨rfl, hxe⟩
                          have XD := Lib.hid (HXD.out.trans (hxe.mono HXD.out.size))
                          clear hxe fy2 CE
                          cases eq with
                          | false =>
                            have HNE : Hid (r ≠ Q) := Lib.hid fun e => by have := HEQ.out; rw [decide_eq_true e] at this; cases this
                            go_wp2
                            go_roundw
                            case rel =>
                              refine ⟨i + 1, by omega, by go_num, ?_, XD.out⟩
                              rcases Nat.lt_or_ge i (plcOf Q rows2) with h5 | h5
                              · omega
                              · have h6 : plcOf Q rows2 = i := Nat.le_antisymm h5 HIP.out
                                have h7 := plcOf_at (q := Q) (l := rows2) (by rw [h6, ← HL2.out]; exact hlt3)
                                rw [h6, HRr.out] at h7
                                cases h7
                                exact absurd rfl HNE.out
                            case measure => simp [intOf]; omega
                          | true =>
                            have hrQ : r = Q := of_decide_eq_true HEQ.out.symm
                            have HM : Hid (Q ∈ rows2) := Lib.hid (by rw [← hrQ]; exact List.mem_of_getElem? HRr.out)
                            have HPL : Hid (plcOf Q rows2 = i) := Lib.hid (by
                              rcases Nat.lt_or_ge i (plcOf Q rows2) with h5 | h5
                              · exact absurd hrQ (plcOf_before h5 HRr.out)
                              · exact Nat.le_antisymm h5 HIP.out)
                            have HADD : Hid (rowTo F (mkG ps ls p) rows (j + 1) = some (rows2, row2 ++ [i])) := Lib.hid (by
                              rw [rowTo, HR2.out]
                              show addQ F (rows2, row2) (mkG ps ls p j) = _
                              rw [HG.out, addQ_ix (st := (rows2, row2)) HM.out, HPL.out])
                            have RK := Lib.hid (RKs.out.below XD.out)
                            have AX := Lib.hid (AXs.out.below XD.out)
                            have NX := Lib.hid (ownsRow_below NXs.out XD.out)
                            have hsz : wo.heap.size ≤ wd.heap.size := by have := XD.out.size; omega
                            have d9 : ((i : Int) == L2) = false := by rw [beq_eq_false_iff_ne]; omega
                            clear hrQ RKs AXs NXs
                            go_wp2_with (at_builtin; refine Hid.out ?_)
                            refine Lib.hid ?_
                            refine wpList_append_own_at _ rfl (.tmp 133) (.tmp 135) 33 rfl wo.heap.size 3 iI (.int .i64 0) 1 8 Tryz.underlying33 hiI hzI0 hzI1 hzI2 rfl (by decide) u14 j _ rfl (NX.out.alloc _) ⟨wd.heap.size, 0, none⟩ 1 1 [.int .i64 i] rfl rfl (cell_one _ _ _) (by simp [Value.oneCell']) (by unfold maxLen; omega) (by omega) (by simp; omega) ?_
                            intro v' w5 hown' hgrow hh hat
                            have NX5 := Lib.hid hown'
                            have HGR := Lib.hid hgrow
                            have HAT := Lib.hid hat
                            clear hown' hgrow hh hat
                            go_wp2
                            have KG : Keeps (fun x => x < wd.heap.size ∧ u14.ownBlock ≠ some x) wd w5 := ((Keeps.refl _ wd).alloc (fun x hx => hx.1) _).tr (Keeps.of_grown HGR.out fun x hx => ⟨by have := hx.1; simp; omega, fun e => hx.2 e.symm⟩)
                            have hlx : ∀ x, u14.ownBlock = some x → wo.heap.size ≤ x := fun x e => (NX.out.lt x e).1
                            have AX5 := AX.out.keeps KG ⟨AX.out.1.lt, fun e => by have := hlx _ e; have := AXo.out.1.lt; omega⟩ (fun x h1 h2 => ⟨h1, fun e => by have := hlx _ e; have := AXo.out.2.2.2.1.lt; omega⟩) (fun x h1 h2 => ⟨h2, fun e => by have := hlx _ e; have := (AXo.out.2.1.lt x h1).2; omega⟩) (fun x h1 h2 => ⟨h2, fun e => by have := hlx _ e; have := (AXo.out.2.2.1.lt x h1).2; omega⟩)
                            go_roundw
                            case rel =>
                              refine ⟨j + 1, rows2, row2 ++ [i], us2, HADD.out, by omega, by go_num, ?_, ?_, AX5, by have := KG.size; omega⟩
                              · rw [List.map_append]; exact NX5.out
                              · have M4 := RK.out.below ((Ext.refl wd).alloc (.cells #[.int .i64 i] 3)).below
                                have M5 := M4.mono (F' := fun x => u14.ownBlock ≠ some x ∧ v'.ownBlock ≠ some x) fun x hx h => ⟨h, fun e => by
                                  rcases HAT.out with h5 | h5
                                  · exact h (by rw [← h5, e])
                                  · rw [h5] at e; cases e; simp at hx⟩
                                have M6 := M5.keeps (Keeps.of_grown HGR.out fun x hx => ⟨hx.1, fun e => hx.2 e.symm⟩ : Keeps (fun x => x < (wd.alloc (.cells #[.int .i64 i] 3)).heap.size ∧ u14.ownBlock ≠ some x) _ w5) fun x hx h => ⟨hx, h.1⟩
                                exact M6.mono fun x _ h => h.2
                            case measure => simp [intOf]; omega
                        · obtain rfl : i = L2 := by omega
                          have hii : ¬ ((i : Int) < i) := by omega
                          clear hlt3 hi
                          have HNM : Hid (Q ∉ rows2) := Lib.hid fun h => by have h5 := plcOf_mem h; have := HIP.out; have := HL2.out; omega
                          have RKc := Lib.hid (RKs.out.below HXD.out)
                          have AXc := Lib.hid (AXs.out.below HXD.out)
                          have NXc := Lib.hid (ownsRow_below NXs.out HXD.out)
                          have STc := Lib.hid (ownsRow_below ST3.out HXD.out)
                          have QLc := Lib.hid (QL.out.below HXD.out)
                          have hszc : ws.heap.size ≤ wc.heap.size := HXD.out.size
                          have d9 : ((i : Int) == i) = true := by simp
                          clear RKs AXs NXs
                          by_cases hfull : i = F
                          · have d8 : ((i : Int) == F) = true := by rw [hfull]; simp
                            have HPZ := Lib.hid (ofE_gone (f := F) hn64 HOK.out hF4 (by rw [← HST.out]; exact mk_gone hF1 HST2.out HPp.out HR2.out HJL.out (by rw [HG.out]; exact HNM.out) (by have := HL2.out; omega)))
                            clear hfull
                            obtain ⟨⟨k0, k1, k2⟩, z0, z1, z2⟩ := AXc.out.2.2.2.1.three
                            go_wp2
                            refine post_named ?_
                            intro W9 hW9
                            have E9 : Hid (Blk W9 w.heap.size #[.slice none 0 0, .slice none 0 0, .slice none 0 0] 48 ∧ Below w.heap.size w W9) := by rw [hW9]; exact Lib.hid ⟨AXc.out.2.2.2.1.set3, below_set3 AXc.out.2.2.2.2 (Nat.le_refl _)⟩
                            clear hW9 z0 z1 z2 k0 k1 k2
                            obtain ⟨⟨m0, m1, m2⟩, _⟩ := E9.out.1.three
                            refine bodyPost_ret (v := .tuple #[.agg #[.slice none 0 0, .slice none 0 0, .slice none 0 0], .int .i64 181]) (by simp [results, Tryz.results13, go_sem, m0, m1, m2]) rfl (fin.out W9 181 HPZ.out E9.out.1 E9.out.2)
                          · have d8 : ((i : Int) == F) = false := by rw [beq_eq_false_iff_ne]; omega
                            have HADD : Hid (rowTo F (mkG ps ls p) rows (j + 1) = some (rows2 ++ [Q], row2 ++ [i])) := Lib.hid (by
                              rw [rowTo, HR2.out]
                              show addQ F (rows2, row2) (mkG ps ls p j) = _
                              rw [HG.out, addR_new HNM.out (by have := HL2.out; omega), ← HL2.out])
                            have HQQ := Lib.hid HQ.out.symm
                            clear hfull
                            go_wp2_with (at_builtin; refine Hid.out ?_)
                            refine Lib.hid ?_
                            refine wpList_append_own_at _ rfl (.tmp 129) (.tmp 131) 99 rfl (w.heap.size + 1) 27 iLL (.slice none 0 0) 1 24 Tryz.underlying99 hiLL hzLL0 hzLL1 hzLL2 rfl (by decide) (.slice (some ⟨g, 0, none⟩) i sc2) i us2 rfl (STc.out.alloc _) ⟨wc.heap.size, 0, none⟩ 1 1 [.slice qa qn qc] rfl rfl (cell_one _ _ _) (by simp [Value.oneCell']) (by unfold maxLen; omega) (by omega) (by simp; omega) ?_
                            intro sv3 wd hown' hgrow hh hat
                            obtain ⟨sa3, sc3, rfl⟩ := ownsRow_form hown'
                            have KD : Keeps (fun x => x < wc.heap.size ∧ (Value.slice (some ⟨g, 0, none⟩) i sc2).ownBlock ≠ some x) wc wd := ((Keeps.refl _ wc).alloc (fun x hx => hx.1) _).tr (Keeps.of_grown hgrow fun x hx => ⟨by have := hx.1; simp; omega, fun e => hx.2 e.symm⟩)
                            have hsz : wo.heap.size ≤ wd.heap.size := by have := KD.size; omega
                            have AX : Hid (RofC w w6.heap.size K (.slice ca K cc) (.slice (some ⟨lb9, 0, none⟩) K lc) nv kv P ls wd) := Lib.hid (AXc.out.keeps KD ⟨AXc.out.1.lt, fun e => row_ne AXc.out.1 STc.out (by decide) _ e rfl⟩ (fun x h1 h2 => ⟨h1, fun e => by have := (STc.out.lt x e).1; omega⟩) (fun x h1 h2 => ⟨h2, fun e => by
                              rcases ownBlock_ne (by decide) AXc.out.2.1 STc.out with h5 | h5
                              · rw [h5] at h1; cases h1
                              · exact h5 (by rw [h1, e])⟩) (fun x h1 h2 => ⟨h2, fun e => by
                              rcases ownBlock_ne (by decide) AXc.out.2.2.1 STc.out with h5 | h5
                              · rw [h5] at h1; cases h1
                              · exact h5 (by rw [h1, e])⟩))
                            have NX : Hid (wd.ownsRow wo.heap.size 3 1 u14 j (row2.map fun t : Nat => .int .i64 t)) := Lib.hid (ownsRow_keeps NXc.out KD fun x hx => ⟨(NXc.out.lt x hx).2, fun e => by
                              rcases ownBlock_ne (by decide) NXc.out STc.out with h5 | h5
                              · rw [h5] at hx; cases hx
                              · exact h5 (by rw [hx, e])⟩)
                            have hxu : ∀ x, u14.ownBlock = some x → x < wj.heap.size := fun x e => (NXj.out.lt x e).2
                            have QLd : OwnLL V.heap.size wd (.slice qa qn qc) Q := QLc.out.apart STc.out (by decide) (by decide) KD
                            have hqb : ∀ x, (Value.slice qa qn qc).ownBlock = some x → V.heap.size ≤ x := fun x e => by
                              obtain ⟨us9, h1, h2, h3⟩ := QLc.out
                              exact (h2.lt x e).1
                            have RK : Hid (Rk (fun x => u14.ownBlock ≠ some x) wd (w.heap.size + 1) (rows2 ++ [Q]) (nxs.map fun r => r.map Int.ofNat) ((rows.take n).map (marksR ps)) (.slice sa3 (i + 1) sc3) nv kv (us2 ++ [.slice qa qn qc]) ns ks) := Lib.hid (Rk.row (L := i) RKc.out HL2.out AXc.out.1 (KD.mono fun x hx => ⟨hx.1, hx.2.2⟩) ⟨hown', fun x e e2 => by
                              rcases hat with h5 | h5
                              · exact RKc.out.st.2 x (by rw [← h5, e]) e2
                              · rw [h5] at e; cases e
                                have := hxu _ e2
                                simp at this; omega⟩ ((LLF.of QLd fun x hx e => by have := hxu x e; omega).base (by omega)) (by
                              cases e : (Value.slice qa qn qc).ownBlock with
                              | none => exact .inl e
                              | some x => exact .inr fun e2 => by have h5 := hqb x e; have h6 := (RKj.out.nxr.1.lt x (by rw [← e2, e])).2; omega) (by
                              cases e : (Value.slice qa qn qc).ownBlock with
                              | none => exact .inl e
                              | some x => exact .inr fun e2 => by have h5 := hqb x e; have h6 := (RKj.out.mkr.1.lt x (by rw [← e2, e])).2; omega))
                            clear hown' hgrow hh hat KD RKc AXc NXc STc QLc QLd hqb hxu
                            go_wp2_with (at_builtin; refine Hid.out ?_)
                            refine Lib.hid ?_
                            refine wpList_append_own_at _ rfl (.tmp 133) (.tmp 135) 33 rfl wo.heap.size 3 iI (.int .i64 0) 1 8 Tryz.underlying33 hiI hzI0 hzI1 hzI2 rfl (by decide) u14 j _ rfl (NX.out.alloc _) ⟨wd.heap.size, 0, none⟩ 1 1 [.int .i64 i] rfl rfl (cell_one _ _ _) (by simp [Value.oneCell']) (by unfold maxLen; omega) (by omega) (by simp; omega) ?_
                            intro v' w5 hown' hgrow hh hat
                            have NX5 := Lib.hid hown'
                            have HGR := Lib.hid hgrow
                            have HAT := Lib.hid hat
                            clear hown' hgrow hh hat
                            go_wp2
                            have KG : Keeps (fun x => x < wd.heap.size ∧ u14.ownBlock ≠ some x) wd w5 := ((Keeps.refl _ wd).alloc (fun x hx => hx.1) _).tr (Keeps.of_grown HGR.out fun x hx => ⟨by have := hx.1; simp; omega, fun e => hx.2 e.symm⟩)
                            have hlx : ∀ x, u14.ownBlock = some x → wo.heap.size ≤ x := fun x e => (NX.out.lt x e).1
                            have AX5 := AX.out.keeps KG ⟨AX.out.1.lt, fun e => by have := hlx _ e; have := AXo.out.1.lt; omega⟩ (fun x h1 h2 => ⟨h1, fun e => by have := hlx _ e; have := AXo.out.2.2.2.1.lt; omega⟩) (fun x h1 h2 => ⟨h2, fun e => by have := hlx _ e; have := (AXo.out.2.1.lt x h1).2; omega⟩) (fun x h1 h2 => ⟨h2, fun e => by have := hlx _ e; have := (AXo.out.2.2.1.lt x h1).2; omega⟩)
                            go_roundw
                            case rel =>
                              refine ⟨j + 1, rows2 ++ [Q], row2 ++ [i], us2 ++ [.slice qa qn qc], HADD.out, by omega, by go_num, ?_, ?_, AX5, by have := KG.size; omega⟩
                              · rw [List.map_append]; exact NX5.out
                              · have M4 := RK.out.below ((Ext.refl wd).alloc (.cells #[.int .i64 i] 3)).below
                                have M5 := M4.mono (F' := fun x => u14.ownBlock ≠ some x ∧ v'.ownBlock ≠ some x) fun x hx h => ⟨h, fun e => by
                                  rcases HAT.out with h5 | h5
                                  · exact h (by rw [← h5, e])
                                  · rw [h5] at e; cases e; simp at hx⟩
                                have M6 := M5.keeps (Keeps.of_grown HGR.out fun x hx => ⟨hx.1, fun e => hx.2 e.symm⟩ : Keeps (fun x => x < (wd.alloc (.cells #[.int .i64 i] 3)).heap.size ∧ u14.ownBlock ≠ some x) _ w5) fun x hx h => ⟨hx, h.1⟩
                                exact M6.mono fun x _ h => h.2
                            case measure => simp [intOf]; omega
                    · obtain rfl : j = K := by omega
                      clear hlt2 hj
                      have hji : ¬ ((j : Int) < j) := by omega
                      have hn2 : n < L2 := by omega
                      have hn2i : (n : Int) < L2 := by omega
                      have hxf := NXj.out
                      obtain ⟨xa, xc, rfl⟩ := ownsRow_form hxf
                      have RKt := Lib.hid (RKj.out.mono (F' := fun _ => True) fun _ _ _ => trivial)
                      have hnl : (nxs.map fun r => r.map Int.ofNat).length = n := by
                        have h5 := IS.out.len
                        have h6 := HLn.out
                        simp only at h5
                        rw [List.length_map, h5]
                        omega
                      have hml : ((rows.take n).map (marksR ps)).length = n := by
                        have h6 := HLn.out
                        rw [List.length_map, List.length_take]
                        omega
                      have hnr := RKt.out.nxr.1
                      have hkr := RKt.out.mkr.1
                      rw [hnl] at hnr
                      rw [hml] at hkr
                      obtain ⟨na, nc, rfl⟩ := ownsRow_form hnr
                      obtain ⟨ma, mc, rfl⟩ := ownsRow_form hkr
                      have HNR := Lib.hid hnr
                      have HNL := Lib.hid hnl
                      have HML := Lib.hid hml
                      have hp2 : rows2[n]? = some p := by
                        obtain ⟨ys, hys⟩ := RO.out.pre
                        replace hys : rows ++ ys = rows2 := hys
                        rw [← hys, List.getElem?_append_left (by have := HLn.out; omega)]
                        exact HPp.out
                      have HP2 := Lib.hid hp2
                      obtain ⟨⟨k0, k1, k2⟩, _⟩ := AXj.out.1.three
                      have hbj : w.heap.size + 1 ≤ wj.heap.size := by have := AXj.out.2.2.2.1.lt; omega
                      clear hxf hnr hkr hnl hml hp2
                      go_wp2_with (at_builtin; refine Hid.out ?_)
                      refine Lib.hid ?_
                      refine wpList_append_own_at _ rfl (.tmp 138) (.tmp 140) 27 rfl (w.heap.size + 1) 33 iL (.slice none 0 0) 1 24 Tryz.underlying27 hiL hzL0 hzL1 hzL2 rfl (by decide) (.slice na n nc) n ns rfl (HNR.out.alloc _) ⟨wj.heap.size, 0, none⟩ 1 1 [.slice xa j xc] rfl rfl (cell_one _ _ _) (by simp [Value.oneCell']) (by unfold maxLen; omega) (by omega) (by simp; omega) ?_
                      intro nv' w8 hown' hgrow hh hat
                      obtain ⟨va, vc, rfl⟩ := ownsRow_form hown'
                      have hdbn : some w6.heap.size ≠ (Value.slice na n nc).ownBlock := fun e => row_ne AXj.out.1 HNR.out (by decide) _ e.symm rfl
                      have B8 := Lib.hid ((AXj.out.1.alloc (.cells #[.slice xa j xc] 33)).grown hgrow hdbn)
                      have HO8 := Lib.hid hown'
                      have HAT := Lib.hid hat
                      have KG : Keeps (fun x => x < wj.heap.size ∧ x ≠ w6.heap.size ∧ (Value.slice na n nc).ownBlock ≠ some x) wj w8 := ((Keeps.refl _ wj).alloc (fun x hx => hx.1) _).tr (Keeps.of_grown hgrow fun x hx => ⟨by have := hx.1; simp; omega, fun e => hx.2.2 e.symm⟩)
                      have HKG := Lib.hid KG
                      have g5 := B8.out.cell 1
                      have z5 := B8.out.frozen 1
                      clear hown' hgrow hh hat hdbn k0 k1 k2 KG
                      go_wp2_with fail
                      refine wp_named ?_
                      intro wN hwN
                      have K9 : Keeps (fun x => x < wj.heap.size ∧ x ≠ w6.heap.size ∧ (Value.slice na n nc).ownBlock ≠ some x) wj wN := by rw [hwN]; exact HKG.out.setCell (fun h => h.2.1 rfl) _
                      have BN : Blk wN w6.heap.size #[.slice ca j cc, .slice va (n + 1) vc, .slice ma n mc] 48 := by rw [hwN]; exact B8.out.set 1 _
                      have HON : wN.ownsRow (w.heap.size + 1) 33 1 (.slice va (n + 1) vc) (n + 1) (ns ++ [.slice xa j xc]) := by rw [hwN]; exact ownsRow_keeps HO8.out ((Keeps.refl (· ≠ w6.heap.size) w8).setCell (fun h => h rfl) _) fun x hx => row_ne B8.out HO8.out (by decide) x hx
                      clear hwN g5 z5 B8 HO8 HKG
                      have hlr : row2.length = j := RO.out.len
                      have e1 : row2.map (fun t : Nat => Value.int .i64 t) = (row2.map Int.ofNat).map encZ := by rw [List.map_map]; rfl
                      have hrow : RowF (fun _ => True) wN (w.heap.size + 1) 3 (.slice xa j xc) (row2.map Int.ofNat).length ((row2.map Int.ofNat).map encZ) := by
                        rw [← e1, List.length_map, hlr]
                        exact ⟨ownsRow_base (base := wo.heap.size) (keepR AXj.out.1 HNR.out K9 NXj.out (by decide) (.inl (by decide))) (by have := AXo.out.2.2.2.1.lt; omega), fun _ _ => trivial⟩
                      have hfr : (Value.slice va (n + 1) vc).ownBlock = (Value.slice na n nc).ownBlock ∨ ∀ x, (Value.slice va (n + 1) vc).ownBlock = some x → wj.heap.size ≤ x := HAT.out.imp id fun h x e => by rw [h] at e; cases e; simp
                      have RKN := Lib.hid (Rk.next RKt.out HNL.out.symm AXj.out.1 K9 ⟨HON, fun _ _ => trivial⟩ hrow hfr)
                      have AXN := Lib.hid (AXj.out.next K9 BN hdb HNR.out)
                      have STN := Lib.hid (keepR AXj.out.1 HNR.out K9 HST3.out (by decide) (.inl (by decide)))
                      have hszN : wj.heap.size ≤ wN.heap.size := K9.size
                      clear K9 BN HON hrow hfr e1 hlr RKt HAT HNR
                      obtain ⟨g, u, rfl, hbg, hgs, hu, fu, _⟩ := rowCell STN.out hn2
                      have hLu := (RKN.out.stI n u p hu HP2.out).1.own
                      obtain ⟨ua, uc, rfl⟩ := hLu.ll.form
                      have HLu := Lib.hid hLu
                      obtain ⟨⟨k0, k1, k2⟩, _⟩ := AXN.out.1.three
                      have HPj := Lib.hid (HP.out.below AXN.out.2.2.2.2)
                      have HRp : Hid (RowIn ps p) := Lib.hid (IS.out.all p (List.mem_of_getElem? HPp.out))
                      have CMK : Hid (∀ W, Below wN.heap.size wN W → Calls Tryz.prog 52 #[.slice pa k pc, .slice ua p.length uc] W fun e w' => ∃ u, e = .returned u ∧ w'.ownsRow W.heap.size 3 1 u (marksR ps p).length ((marksR ps p).map encZ) ∧ Below W.heap.size W w') := Lib.hid fun W hW => rpMarks_any _ _ ps PSOK.out p HRp.out W (HPj.out.below hW) (HLu.out.ll.below hW)
                      obtain ⟨pl, hpl⟩ : ∃ z, z = p.length := ⟨_, rfl⟩
                      rw [← hpl] at CMK fu
                      obtain ⟨mn, hmn⟩ : ∃ z, z = (marksR ps p).length := ⟨_, rfl⟩
                      obtain ⟨mx, hmx⟩ : ∃ z, z = (marksR ps p).map encZ := ⟨_, rfl⟩
                      rw [← hmn, ← hmx] at CMK
                      have HMN := Lib.hid hmn
                      have HMX := Lib.hid hmx
                      clear hu hLu hpl hmn hmx
                      refine wp_region_reg false (fun _ => False) (by kernel_rfl) 9 [0, 1, 0, 0, 0, 24, 56, 124, 252, 511, 1023, 2047] (fun i => i == 7 || i == 8 || i == 9 || i == 11) (by kernel_rfl) (fun i => if i = 7 then Eff.rowI wN.heap.size mn mx else if i = 8 then Eff.boxR wN.heap.size mn mx else Eff.any _) ?_
                      intro C hC hne
                      have HC := Lib.hid hC
                      have f0 := regCell hC (p := ⟨w6.heap.size, 2, none⟩) AXN.out.1.lt (fun h => h) k2
                      have f1 := regCell hC (p := ⟨g, n, none⟩) hgs (fun h => h) fu
                      clear hC k0 k1 k2 fu
                      repeat (refine regStep (fun K hK => ?_); first | (refine regN rfl ?_; try go_simp; refine hK _ _ ?_; clear hK K) | (refine regF rfl rfl ?_; unfold floatAt; go_simp; refine hK _ _ ?_; clear hK K))
                      refine regStep (fun K hK => ?_)
                      refine regE rfl rfl (Eff.rowI wN.heap.size mn mx) rfl (fun W hW hN => ?_) (fun v hv => ?_)
                      · have hM := (HC.out W).1 hW
                        clear hW
                        go_simp
                        refine effT_call ((CMK.out W hM.below).mono ?_)
                        rintro e w2 ⟨vp, rfl, ho, hx⟩
                        exact ⟨_, rfl, Move.of_below hx, ownsRow_form ho, ownsRow_base ho hM.size⟩
                      obtain ⟨qa2, qc2, rfl⟩ := hv
                      go_simp
                      refine hK _ _ ?_
                      clear hK K
                      refine regStep (fun K0 hK => ?_)
                      refine regE rfl rfl (Eff.boxR wN.heap.size mn mx) rfl (fun W hW hN => ?_) (fun v hv => ?_)
                      · have hq : W.ownsRow wN.heap.size 3 1 (.slice qa2 mn qc2) mn mx := hN.at 0 rfl (by kernel_rfl)
                        clear hW hN hK K0
                        go_simp
                        exact ⟨Move.of_below ((Ext.refl _).alloc _).below, ⟨_, rfl⟩, fun b hb => by cases hb; exact ⟨qa2, qc2, Blk.new _ _ _, hq.alloc _⟩⟩
                      obtain ⟨bx, rfl⟩ := hv
                      go_simp
                      refine hK _ _ ?_
                      clear hK K0
                      refine regNil (fun W hW hH => ?_)
                      have hM := (HC.out W).1 hW
                      have hb8 : (Eff.boxR wN.heap.size mn mx).H (.slice (some ⟨bx, 0, none⟩) 1 1) W := hH _ (List.mem_of_getElem? (show _ = some _ from rfl : _[0]? = some _))
                      obtain ⟨qa3, qc3, hbx, hmr⟩ := hb8 bx rfl
                      clear hb8
                      have HBX := Lib.hid hbx
                      have MR := Lib.hid hmr
                      have XW := Lib.hid hM.below
                      have hszW : wN.heap.size ≤ W.heap.size := hM.size
                      clear hM hW hH HC hne f0 f1 hbx hmr CMK
                      have RKW := Lib.hid (RKN.out.below XW.out)
                      have AXW := Lib.hid (AXN.out.below XW.out)
                      clear RKN AXN HLu HPj STN
                      have hkr := RKW.out.mkr.1
                      rw [HML.out] at hkr
                      have HKR := Lib.hid hkr
                      clear hkr
                      go_wp2_with (at_builtin; refine Hid.out ?_)
                      refine Lib.hid ?_
                      refine wpList_append_own_at _ rfl (.tmp 144) (.tmp 151) 27 rfl (w.heap.size + 1) 33 iL (.slice none 0 0) 1 24 Tryz.underlying27 hiL hzL0 hzL1 hzL2 rfl (by decide) (.slice ma n mc) n ks rfl HKR.out ⟨bx, 0, none⟩ 1 1 [.slice qa3 mn qc3] rfl rfl (news_blk HBX.out) (by simp [Value.oneCell']) (by unfold maxLen; omega) (by omega) (by omega) ?_
                      intro kv' w9 hown' hgrow hh hat
                      obtain ⟨vb, vd, rfl⟩ := ownsRow_form hown'
                      have hdbn : some w6.heap.size ≠ (Value.slice ma n mc).ownBlock := fun e => row_ne AXW.out.1 HKR.out (by decide) _ e.symm rfl
                      have B9 := Lib.hid (AXW.out.1.grown hgrow hdbn)
                      have HO9 := Lib.hid hown'
                      have HAT := Lib.hid hat
                      have HKG := Lib.hid (Keeps.of_grown hgrow fun x hx => ⟨hx.1, fun e => hx.2.2 e.symm⟩ : Keeps (fun x => x < W.heap.size ∧ x ≠ w6.heap.size ∧ (Value.slice ma n mc).ownBlock ≠ some x) W w9)
                      have g5 := B9.out.cell 2
                      have z5 := B9.out.frozen 2
                      clear hown' hgrow hh hat hdbn
                      go_wp2
                      have K9 : Keeps (fun x => x < W.heap.size ∧ x ≠ w6.heap.size ∧ (Value.slice ma n mc).ownBlock ≠ some x) W (w9.setCell ⟨w6.heap.size, 2, none⟩ (.slice vb (n + 1) vd)) := HKG.out.setCell (fun h => h.2.1 rfl) _
                      have BN := B9.out.set 2 (.slice vb (n + 1) vd)
                      have HON : (w9.setCell ⟨w6.heap.size, 2, none⟩ (.slice vb (n + 1) vd)).ownsRow (w.heap.size + 1) 33 1 (.slice vb (n + 1) vd) (n + 1) (ks ++ [.slice qa3 mn qc3]) := ownsRow_keeps HO9.out ((Keeps.refl (· ≠ w6.heap.size) w9).setCell (fun h => h rfl) _) fun x hx => row_ne B9.out HO9.out (by decide) x hx
                      have hfr : (Value.slice vb (n + 1) vd).ownBlock = (Value.slice ma n mc).ownBlock ∨ ∀ x, (Value.slice vb (n + 1) vd).ownBlock = some x → W.heap.size ≤ x := HAT.out.imp id fun h x e => by rw [h] at e; cases e; simp
                      have hrow : RowF (fun _ => True) (w9.setCell ⟨w6.heap.size, 2, none⟩ (.slice vb (n + 1) vd)) (w.heap.size + 1) 3 (.slice qa3 mn qc3) (marksR ps p).length ((marksR ps p).map encZ) := by
                        rw [← HMN.out, ← HMX.out]
                        exact ⟨ownsRow_base (base := wN.heap.size) (keepR AXW.out.1 HKR.out K9 MR.out (by decide) (.inl (by decide))) (by omega), fun _ _ => trivial⟩
                      have RKF := Rk.marks RKW.out HML.out.symm AXW.out.1 K9 ⟨HON, fun _ _ => trivial⟩ hrow hfr
                      have AXF := AXW.out.next K9 BN hdb HKR.out
                      have hst : stTo F (mkG ps ls) ls.length (row0 ps) (n + 1) = some (rows2, nxs ++ [row2]) := by
                        rw [mk_row HST2.out HPp.out, HKL.out, HR2.out]; rfl
                      have htk : (rows2.take (n + 1)).map (marksR ps) = (rows.take n).map (marksR ps) ++ [marksR ps p] := by
                        obtain ⟨ys, hys⟩ := RO.out.pre
                        replace hys : rows ++ ys = rows2 := hys
                        rw [List.take_add_one, HP2.out, List.map_append, ← hys, List.take_append_of_le_length (by have := HLn.out; omega)]
                        rfl
                      go_roundw
                      case rel =>
                        refine ⟨n + 1, rows2, nxs ++ [row2], _, _, us2, ns ++ [.slice xa j xc], ks ++ [.slice qa3 mn qc3], hst, by have := HL2.out; omega, by go_num, ?_, AXF⟩
                        rw [List.map_append, htk]
                        exact RKF
                      case measure => simp [intOf]; omega
                · obtain rfl : n = L := by omega
                  clear hlt hn
                  have hni : ¬ ((n : Int) < n) := by omega
                  have HDN := Lib.hid (ofE_done (f := F) hn64 HOK.out hF4 (by rw [← HST.out]; exact mk_done hF1 HST2.out (by have := HLn.out; show rows.length = n; omega)))
                  have htk : rows.take n = rows := by rw [HLn.out]; exact List.take_length
                  rw [htk] at RKo
                  obtain ⟨n1, hn1⟩ : ∃ z, z = (nxs.map fun r => r.map Int.ofNat).length := ⟨_, rfl⟩
                  obtain ⟨n2, hn2⟩ : ∃ z, z = (rows.map (marksR ps)).length := ⟨_, rfl⟩
                  have hnr := RKo.out.nxr.1
                  have hkr := RKo.out.mkr.1
                  rw [← hn1] at hnr
                  rw [← hn2] at hkr
                  obtain ⟨na, nc, rfl⟩ := ownsRow_form hnr
                  obtain ⟨ma, mc, rfl⟩ := ownsRow_form hkr
                  clear hnr hkr hn1 hn2 htk
                  obtain ⟨⟨k0, k1, k2⟩, _⟩ := AXo.out.1.three
                  obtain ⟨⟨y0, y1, y2⟩, z0, z1, z2⟩ := AXo.out.2.2.2.1.three
                  go_wp2
                  refine post_named ?_
                  intro W9 hW9
                  have E9 : Hid (Blk W9 w.heap.size #[.slice ca K cc, .slice na n1 nc, .slice ma n2 mc] 48 ∧ Keeps (· ≠ w.heap.size) wo W9) := by
                    rw [hW9]
                    exact Lib.hid ⟨AXo.out.2.2.2.1.set3, ((((Keeps.refl _ _).setCell (p := ⟨w.heap.size, 0, none⟩) (fun h => h rfl) _).setCell (p := ⟨w.heap.size, 1, none⟩) (fun h => h rfl) _).setCell (p := ⟨w.heap.size, 2, none⟩) (fun h => h rfl) _)⟩
                  clear hW9 z0 z1 z2 k0 k1 k2 y0 y1 y2
                  obtain ⟨⟨m0, m1, m2⟩, _⟩ := E9.out.1.three
                  refine bodyPost_ret (v := .tuple #[.agg #[.slice ca K cc, .slice na n1 nc, .slice ma n2 mc], .int .i64 0]) (by simp [results, Tryz.results13, go_sem, m0, m1, m2]) rfl ?_
                  rw [HDN.out]
                  refine ⟨_, rfl, ⟨_, _, _, rfl, ?_, ?_, ?_⟩, AXo.out.2.2.2.2.trans (E9.out.2.mono fun x (hx : x < w.heap.size) => Nat.ne_of_lt hx : Keeps (· < w.heap.size) wo W9).below⟩
                  · show W9.ownsRow w.heap.size 91 256 _ ((partsOf (allSets ps)).map refS).length _
                    rw [← HPP.out, List.length_map, ← HKK.out]
                    refine ownsRow_base (base := w.heap.size + 1) ?_ (by omega)
                    exact ownsRow_keeps AXo.out.2.1 E9.out.2 fun x hx => by have := (AXo.out.2.1.lt x hx).1; show x ≠ w.heap.size; omega
                  · have h5 : OwnLL (w.heap.size + 1) wo (.slice na n1 nc) (nxs.map fun r => r.map Int.ofNat) := LLF.own ⟨_, RKo.out.nxr, RKo.out.nxI⟩
                    exact (h5.keeps E9.out.2 fun x h1 _ => by show x ≠ w.heap.size; omega).base (by omega)
                  · have h5 : OwnLL (w.heap.size + 1) wo (.slice ma n2 mc) (rows.map (marksR ps)) := LLF.own ⟨_, RKo.out.mkr, RKo.out.mkI⟩
                    exact (h5.keeps E9.out.2 fun x h1 _ => by show x ≠ w.heap.size; omega).base (by omega)
end Go.Proofs.YthdnlndpmmiboaaGreatDoor
