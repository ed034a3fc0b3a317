/-
  dfa.Of.
-/
import Derived.Test.YtbiboekhakbnpaaGreatDoorOB49
set_option maxRecDepth 100000
set_option maxHeartbeats 16000000
open Go.Lib (hid)
namespace Go.Proofs.YtbiboekhakbnpaaGreatDoor
open Go Go.RowKit Go.Shelf Go.Maps
attribute [local go_sem] encS

theorem dfaOf_any (v : Value) (ps : List PT) (f : Int) (w : World) (h : IsPts w v ps) (sm : ∀ x ∈ ps, SmN x.nf) (hT : ∀ W, Below w.heap.size w W -> TabW W) :
  Calls Tryz.prog 11 #[v, .int .i64 f] w fun e w' => ∃ u, e = .returned (.tuple #[u, .int .i64 (ofE ps f).2]) /\ OwnDf w.heap.size w' u (ofE ps f).1 /\ Below w.heap.size w w' := by
 obtain ⟨iS, hiS, hzS0, hzS1, hzS2⟩ := info_parts Tryz.infoS
 obtain ⟨iB, hiB, hzB0, hzB1, hzB2⟩ := info_parts Tryz.infoU8
 obtain ⟨pa, pc, rfl⟩ := h.form
 obtain ⟨n, hpn⟩ : ∃ z, z = ps.length := ⟨_, rfl⟩
 rw [<- hpn] at h ⊢
 have GP := hid hpn
 have HP := hid h
 have SM := hid sm
 have HT := hid hT
 have GF : Hid (∀ (W : World) (code : Int), ofE ps f = (⟨[], [], []⟩, code) -> Blk W w.heap.size #[.slice none 0 0, .slice none 0 0, .slice none 0 0] 31 -> Below w.heap.size w W -> ∃ u, Ending.returned (.tuple #[.agg #[.slice none 0 0, .slice none 0 0, .slice none 0 0], .int .i64 code]) = .returned (.tuple #[u, .int .i64 (ofE ps f).2]) /\ OwnDf w.heap.size W u (ofE ps f).1 /\ Below w.heap.size w W) := hid fun W code h1 _ h3 => by
  rw [h1]
  exact ⟨_, rfl, ⟨_, _, _, rfl, World.ownsRow_nil _ _ _ _, OwnLL.nil _ _, OwnLL.nil _ _⟩, h3⟩
 clear h sm hT hpn
 by_cases hmany : 64 < n
 ·have J4 : (64 : Int) < n := by omega
  have Gx := hid (ofE_many (f := f) (show 64 < ps.length by rw [<- GP.out]; exact hmany))
  go_enter Tryz.func11, Tryz.ntmps11
  go_wp2
  refine post_named ?_
  intro W9 hW9
  have E9 : Hid (Blk W9 w.heap.size #[.slice none 0 0, .slice none 0 0, .slice none 0 0] 31 /\ Below w.heap.size w W9) := by rw [hW9]; exact hid ⟨Blk.new _ _ _, ((Ext.refl w).alloc _).below⟩
  clear hW9
  obtain ⟨⟨m0, m1, m2⟩, _⟩ := E9.out.1.three
  refine bodyPost_ret (v := .tuple #[.agg #[.slice none 0 0, .slice none 0 0, .slice none 0 0], .int .i64 5]) (by simp [results, Tryz.results11, go_sem, m0, m1, m2]) rfl (GF.out W9 5 Gx.out E9.out.1 E9.out.2)
 ·have J4 : ¬ ((64 : Int) < n) := by omega
  have G3 : ps.length <= 64 := by rw [<- GP.out]; omega
  have J7 := @run_makeMap Tryz.prog
  go_enter Tryz.func11, Tryz.ntmps11
  go_wp2
  go_loopw [6, 24] (fun av iv wr => ∃ k : Nat, k <= n /\ iv = .int .i64 k /\ wr.ownsRow (w.heap.size + 1) 70 4 av (allSets (ps.take k)).length (flatS (allSets (ps.take k))) /\ (allSets (ps.take k)).length <= 400 * k /\ (∀ (i : Nat) (x : PT), i < k -> ps[i]? = some x -> x.ok = true) /\ Blk wr w.heap.size #[.slice none 0 0, .slice none 0 0, .slice none 0 0] 31 /\ Below w.heap.size w wr) (fun _ iv _ => n - (intOf iv).toNat)
  case atStart => exact ⟨0, Nat.zero_le _, rfl, World.ownsRow_nil _ _ _ _, Nat.zero_le _, fun i x h => absurd h (Nat.not_lt_zero _), Blk.new _ _ _, ((Ext.refl w).alloc _).below⟩
  case round =>
   obtain ⟨k, hk, rfl, ho, hal, hall, hb, hx⟩ := hrel
   obtain ⟨wo, rfl⟩ : ∃ wo : World, wo = wr := ⟨_, rfl⟩
   have HO := hid ho
   have GC := hid hall
   have HB := hid hb
   have HX := hid hx
   have Gk := hid (HP.out.below hx)
   have GK : w.heap.size < wo.heap.size := hb.lt
   obtain ⟨A, hA⟩ : ∃ z, z = (allSets (ps.take k)).length := ⟨_, rfl⟩
   rw [<- hA] at HO hal
   have GM := hid hA
   clear ho hall hb hx hA
   by_cases hlt : k < n
   ·have Gz : (k : Int) < n := by omega
    obtain ⟨x, hx⟩ : ∃ x, ps[k]? = some x := ⟨_, List.getElem?_eq_getElem (by have := GP.out; omega)⟩
    obtain ⟨b, off, v0, v1, v2, v3, rfl, hb, hnf, q0, q1, q2, q3, q4, q5, q6⟩ := Gk.out.elem hx
    obtain ⟨x0, n0, c0, x1, n1, c1, x2, n2, c2, x3, n3, c3, rfl, rfl, rfl, rfl⟩ := hnf.form4
    have Gf := hid hnf
    have GI := hid hx
    have SX : Hid (SmN x.nf) := hid (SM.out x (List.mem_of_getElem? hx))
    clear hx hnf
    go_wp2_with fail
    refine calls_named ?_
    intro V hV
    have BX : Hid (Blk V wo.heap.size #[.slice x0 n0 c0, .slice x1 n1 c1, .slice x2 n2 c2, .slice x3 n3 c3, .bool x.nf.emp, .bool x.beg, .int .i64 x.mark] 46) := hid (by rw [hV]; exact Blk.new wo _ _)
    have XV : Hid (Below wo.heap.size wo V) := hid (by rw [hV]; exact ((Ext.refl wo).alloc _).below)
    clear hV q0 q1 q2 q3 q4 q5 q6
    refine (nright_any (.agg #[.slice x0 n0 c0, .slice x1 n1 c1, .slice x2 n2 c2, .slice x3 n3 c3, .bool x.nf.emp]) x.nf V (Gf.out.below XV.out) SX.out).mono ?_
    rintro e w2 ⟨rfl, hx2⟩
    have B2 := hid (BX.out.below hx2 BX.out.lt)
    have X2 := hid (XV.out.trans (hx2.mono XV.out.size))
    clear hx2 BX XV
    have C8 := hid (HB.out.below X2.out GK)
    have X9 := hid (HX.out.trans (X2.out.mono HX.out.size))
    have O2 := hid (ownsRow_below HO.out X2.out)
    have S2 : Hid (IsSets w2 (.slice x0 n0 c0) x.nf.sets /\ n0 = x.nf.sets.length) := hid (by
     obtain ⟨u0, u1, u2, u3, e, h0, h1, h2, h3⟩ := Gf.out
     cases e
     obtain ⟨a9, c9, e9⟩ := h0.1.form
     refine ⟨h0.1.below X2.out, ?_⟩
     cases e9; rfl)
    have J5 : wo.heap.size <= w2.heap.size := X2.out.size
    obtain ⟨r0, r1, r2, r3, r4, r5, r6⟩ := B2.out.seven
    obtain ⟨⟨k0, k1, k2⟩, z0, z1, z2⟩ := C8.out.three
    by_cases hr : x.nf.right = true
    ·have Gv := (nright_iff _).1 hr
     rw [hr]
     by_cases hm0 : x.mark < 0
     ·have d1 : decide (x.mark < 0) = true := decide_eq_true hm0
      have G5 := hid (ofE_bad (f := f) G3 GI.out (by rw [PT.ok_iff]; omega))
      go_wp2
      refine post_named ?_
      intro W9 hW9
      have E9 : Hid (Blk W9 w.heap.size #[.slice none 0 0, .slice none 0 0, .slice none 0 0] 31 /\ Below w.heap.size w W9) := by rw [hW9]; exact hid ⟨C8.out.set3, below_set3 X9.out (Nat.le_refl _)⟩
      clear hW9 z0 z1 z2 k0 k1 k2
      obtain ⟨⟨m0, m1, m2⟩, _⟩ := E9.out.1.three
      refine bodyPost_ret (v := .tuple #[.agg #[.slice none 0 0, .slice none 0 0, .slice none 0 0], .int .i64 180]) (by simp [results, Tryz.results11, go_sem, m0, m1, m2]) rfl (GF.out W9 180 G5.out E9.out.1 E9.out.2)
     ·have d1 : decide (x.mark < 0) = false := decide_eq_false hm0
      by_cases hm1 : 255 < x.mark
      ·have d2 : decide (255 < x.mark) = true := decide_eq_true hm1
       have G5 := hid (ofE_bad (f := f) G3 GI.out (by rw [PT.ok_iff]; omega))
       go_wp2
       refine post_named ?_
       intro W9 hW9
       have E9 : Hid (Blk W9 w.heap.size #[.slice none 0 0, .slice none 0 0, .slice none 0 0] 31 /\ Below w.heap.size w W9) := by rw [hW9]; exact hid ⟨C8.out.set3, below_set3 X9.out (Nat.le_refl _)⟩
       clear hW9 z0 z1 z2 k0 k1 k2
       obtain ⟨⟨m0, m1, m2⟩, _⟩ := E9.out.1.three
       refine bodyPost_ret (v := .tuple #[.agg #[.slice none 0 0, .slice none 0 0, .slice none 0 0], .int .i64 180]) (by simp [results, Tryz.results11, go_sem, m0, m1, m2]) rfl (GF.out W9 180 G5.out E9.out.1 E9.out.2)
      ·have d2 : decide (255 < x.mark) = false := decide_eq_false hm1
       have J9 := Gv.le
       go_wp2_with (at_builtin; refine Hid.out ?_)
       refine hid ?_
       refine wpList_appendS rfl (.tmp 43) (.tmp 46) 28 rfl (w.heap.size + 1) 70 iS (.agg #[.int .u64 0, .int .u64 0, .int .u64 0, .int .u64 0]) 4 32 Tryz.underlying28 hiS hzS0 hzS1 hzS2 rfl (by decide) u6 A _ rfl O2.out (.slice x0 n0 c0) x.nf.sets.length (flatS x.nf.sets) rfl S2.out.1.src (flatS_length _) (flatS_one_cell _) (by unfold maxLen; omega) (by omega) (by omega) ?_
       intro v' w5 hown hgrow
       have O5 := hid hown
       have X5 : Hid (Below (w.heap.size + 1) w2 w5) := hid ((Below.refl _ w2).grown hgrow (by omega) (fun c e => (O2.out.lt c e).1))
       clear hown hgrow r0 r1 r2 r3 r4 r5 r6
       go_wp2
       go_roundw
       case rel =>
        refine ⟨k + 1, by omega, by go_num, ?_, ?_, fun i y hi hy => ?_, C8.out.below X5.out (by omega), X9.out.trans (X5.out.mono (by omega))⟩
        ·rw [allSets_take GI.out, List.length_append, flatS_append, <- GM.out]
         exact O5.out
        ·rw [allSets_take GI.out, List.length_append, <- GM.out]
         omega
        ·by_cases e : i < k
         ·exact GC.out i y e hy
         ·obtain rfl : i = k := by omega
          rw [GI.out] at hy
          cases hy
          exact (PT.ok_iff _).2 ⟨hr, by omega, by omega⟩
       case measure => simp [intOf]; omega
    ·rw [Bool.not_eq_true] at hr
     rw [hr]
     have G5 := hid (ofE_bad (f := f) G3 GI.out (by rw [PT.ok_iff]; rw [hr]; simp))
     go_wp2
     refine post_named ?_
     intro W9 hW9
     have E9 : Hid (Blk W9 w.heap.size #[.slice none 0 0, .slice none 0 0, .slice none 0 0] 31 /\ Below w.heap.size w W9) := by rw [hW9]; exact hid ⟨C8.out.set3, below_set3 X9.out (Nat.le_refl _)⟩
     clear hW9 z0 z1 z2 k0 k1 k2
     obtain ⟨⟨m0, m1, m2⟩, _⟩ := E9.out.1.three
     refine bodyPost_ret (v := .tuple #[.agg #[.slice none 0 0, .slice none 0 0, .slice none 0 0], .int .i64 180]) (by simp [results, Tryz.results11, go_sem, m0, m1, m2]) rfl (GF.out W9 180 G5.out E9.out.1 E9.out.2)
   ·obtain rfl : k = n := by omega
    clear hlt hk
    have Gz : ¬ ((k : Int) < k) := by omega
    have Ge : ps.take k = ps := by rw [GP.out]; exact List.take_length
    have GL : Hid (ps.all PT.ok = true) := hid (all_ok fun i x hx => GC.out i x (by have := (List.getElem?_eq_some_iff.1 hx).1; have := GP.out; omega) hx)
    rw [Ge] at HO GM
    clear Ge GC
    by_cases hf0 : f < 0
    ·have d1 : decide (f < 0) = true := decide_eq_true hf0
     obtain ⟨⟨k0, k1, k2⟩, z0, z1, z2⟩ := HB.out.three
     have G5 := hid (ofE_fuel (f := f) G3 GL.out (.inl hf0))
     go_wp2
     refine post_named ?_
     intro W9 hW9
     have E9 : Hid (Blk W9 w.heap.size #[.slice none 0 0, .slice none 0 0, .slice none 0 0] 31 /\ Below w.heap.size w W9) := by rw [hW9]; exact hid ⟨HB.out.set3, below_set3 HX.out (Nat.le_refl _)⟩
     clear hW9 z0 z1 z2 k0 k1 k2
     obtain ⟨⟨m0, m1, m2⟩, _⟩ := E9.out.1.three
     refine bodyPost_ret (v := .tuple #[.agg #[.slice none 0 0, .slice none 0 0, .slice none 0 0], .int .i64 2]) (by simp [results, Tryz.results11, go_sem, m0, m1, m2]) rfl (GF.out W9 2 G5.out E9.out.1 E9.out.2)
    ·have d1 : decide (f < 0) = false := decide_eq_false hf0
     by_cases hf4 : 4000 < f
     ·have d2 : decide (4000 < f) = true := decide_eq_true hf4
      obtain ⟨⟨k0, k1, k2⟩, z0, z1, z2⟩ := HB.out.three
      have G5 := hid (ofE_fuel (f := f) G3 GL.out (.inr hf4))
      go_wp2
      refine post_named ?_
      intro W9 hW9
      have E9 : Hid (Blk W9 w.heap.size #[.slice none 0 0, .slice none 0 0, .slice none 0 0] 31 /\ Below w.heap.size w W9) := by rw [hW9]; exact hid ⟨HB.out.set3, below_set3 HX.out (Nat.le_refl _)⟩
      clear hW9 z0 z1 z2 k0 k1 k2
      obtain ⟨⟨m0, m1, m2⟩, _⟩ := E9.out.1.three
      refine bodyPost_ret (v := .tuple #[.agg #[.slice none 0 0, .slice none 0 0, .slice none 0 0], .int .i64 2]) (by simp [results, Tryz.results11, go_sem, m0, m1, m2]) rfl (GF.out W9 2 G5.out E9.out.1 E9.out.2)
     ·have d2 : decide (4000 < f) = false := decide_eq_false hf4
      obtain ⟨P, hP⟩ : ∃ z, z = partsOf (allSets ps) := ⟨_, rfl⟩
      obtain ⟨K, hK⟩ : ∃ z, z = P.length := ⟨_, rfl⟩
      have GN : K <= 256 := by rw [hK, hP, (partsOf_perm _).length_eq]; exact partsRaw_len _
      have G5 := hid hP
      have GG := hid hK
      have CA : Hid (∀ W v, IsSets W v (allSets ps) -> Calls Tryz.prog 41 #[v] W fun e w' => ∃ b, e = .returned (.pointer (some ⟨b, 0, none⟩)) /\ IsAl w' W.heap.size (.pointer (some ⟨b, 0, none⟩)) P /\ Below W.heap.size W w') := hid fun W v h => by
       have := alphOf_any (allSets ps) v W h (by have := GM.out; omega)
       rwa [<- hP] at this
      have CL : Hid (∀ W x bx, IsAl W bx (.pointer (some ⟨x, 0, none⟩)) P -> Calls Tryz.prog 42 #[.pointer (some ⟨x, 0, none⟩)] W fun e w' => e = .returned (.int .i64 K) /\ w' = W) := hid fun W x bx h => by rw [hK]; exact len_any _ _ _ _ h
      have CS : Hid (∀ W x bx (k : Nat) s, P[k]? = some s -> IsAl W bx (.pointer (some ⟨x, 0, none⟩)) P -> Calls Tryz.prog 43 #[.pointer (some ⟨x, 0, none⟩), .int .i64 k] W fun e w' => e = .returned (.tuple #[.agg (encS s), .bool true]) /\ Ext W w') := hid fun W x bx k s hs h => by
       have := set_any _ bx P k W h
       rw [setOf_nat, hs] at this
       exact this
      have CM : Hid (∀ W x bx (k : Nat), k < P.length -> IsAl W bx (.pointer (some ⟨x, 0, none⟩)) P -> Calls Tryz.prog 44 #[.pointer (some ⟨x, 0, none⟩), .int .i64 k] W fun e w' => e = .returned (.tuple #[.int .u8 (lb P k), .bool true]) /\ Ext W w') := hid fun W x bx k hk h => by
       have := least_any _ bx P k W h
       rw [hP, leastOf_lb (by rw [<- hP]; exact hk), <- hP] at this
       exact this
      have Gn : Hid (∀ k, k < P.length -> lb P k < 256) := hid fun k hk => by rw [hP]; exact lb_lt (by rw [<- hP]; exact hk)
      clear hP hK
      have HS := hid (ownsRow_sets (by rw [<- GM.out]; exact HO.out : wo.ownsRow (w.heap.size + 1) 70 4 u6 (allSets ps).length (flatS (allSets ps))))
      go_wp2_with fail
      refine (CA.out wo u6 HS.out).mono ?_
      rintro e w2 ⟨ba, rfl, ha, hx⟩
      obtain ⟨bal, hbal⟩ : ∃ z, z = wo.heap.size := ⟨_, rfl⟩
      rw [<- hbal] at ha
      have AL := hid ha
      clear hbal
      have B2 := hid (HB.out.below hx GK)
      have X2 := hid (HX.out.trans (hx.mono HX.out.size))
      clear ha hx CA HB HX Gk HO HS
      obtain ⟨F, rfl⟩ : ∃ F : Nat, f = F := ⟨f.toNat, by omega⟩
      have GT : F <= 4000 := by omega
      go_wp2_with fail
      refine calls_named ?_
      intro V hV
      have GV : Blk V (w2.heap.size + 1) #[.slice pa k pc, .int .i64 F, .slice none 0 0, .map (some w2.heap.size), .slice none 0 0, .slice none 0 0, .slice none 0 0] 95 := by rw [hV]; exact (Blk.new (w2.alloc _) _ _).at (by simp)
      have Gg : IsMs V w2.heap.size [] := by
       have h5 : IsMs (w2.alloc (.map #[] 0)) w2.heap.size [] := World.alloc_heap_new w2 _
       rw [hV]
       exact h5.below ((Ext.refl _).alloc _).below
      have GY : Below w2.heap.size w2 V := by rw [hV]; exact (((Ext.refl w2).alloc _).alloc _).below
      clear hV
      obtain ⟨mb, hmb⟩ : ∃ z, z = w2.heap.size + 1 := ⟨_, rfl⟩
      rw [<- hmb] at GV ⊢
      have BM := hid GV
      have MS := hid Gg
      have XV := hid GY
      have GA := hid hmb
      have AV := hid (AL.out.below GY)
      have A4 : Hid (∀ W', Keeps (fun x => x < V.heap.size /\ x ≠ mb) V W' -> IsAl W' bal (.pointer (some ⟨ba, 0, none⟩)) P) := hid fun W' h => AL.out.keeps ((Keeps.of_below XV.out fun _ h => h : Keeps (· < w2.heap.size) w2 V).tr (h.mono fun x hx => ⟨Nat.lt_of_lt_of_le hx XV.out.size, by have h5 : x < w2.heap.size := hx; have := GA.out; omega⟩)) fun _ _ h => h
      clear GV Gg GY hmb AL
      refine (CL.out _ _ _ AV.out).mono ?_
      rintro e w' ⟨rfl, hw⟩
      replace hw := hw.symm
      subst hw
      go_wp2
      go_loopw [11, 65] (fun lv iv wr => ∃ (j : Nat) (cv : Value), j <= K /\ iv = .int .i64 j /\ Blk wr mb #[.slice pa k pc, .int .i64 F, .slice none 0 0, .map (some w2.heap.size), cv, .slice none 0 0, .slice none 0 0] 95 /\ wr.ownsRow V.heap.size 70 4 cv j (flatS (P.take j)) /\ wr.ownsRow V.heap.size 5 1 lv j (((List.range j).map (lb P)).map encB) /\ Keeps (fun x => x < V.heap.size /\ x ≠ mb) V wr) (fun _ iv _ => K - (intOf iv).toNat)
      case atStart => exact ⟨0, _, Nat.zero_le _, rfl, BM.out, World.ownsRow_nil _ _ _ _, World.ownsRow_nil _ _ _ _, Keeps.refl _ _⟩
      case round =>
       obtain ⟨j, c, hj, rfl, hb, hc, ho, hx⟩ := hrel
       obtain ⟨wo, rfl⟩ : ∃ wo : World, wo = wr := ⟨_, rfl⟩
       have Gp : V.heap.size <= wo.heap.size := hx.size
       have GX : mb < V.heap.size := BM.out.lt
       have HB := hid hb
       have G7 := hid hc
       have HO := hid ho
       have HX := hid hx
       have AJ := hid (A4.out wo hx)
       clear hb hc ho hx
       by_cases hlt : j < K
       ·obtain ⟨s, hs⟩ : ∃ s, P[j]? = some s := ⟨_, List.getElem?_eq_getElem (by have := GG.out; omega)⟩
        have GU : j < P.length := by rw [<- GG.out]; exact hlt
        have Gq := Gn.out j GU
        obtain ⟨q, hq⟩ : ∃ q, q = lb P j := ⟨_, rfl⟩
        rw [<- hq] at Gq
        have GR := hid hs
        have Gs : (j : Int) < K := by omega
        clear hs
        have Gi : Hid (∀ W', IsAl W' bal (.pointer (some ⟨ba, 0, none⟩)) P -> Calls Tryz.prog 43 #[.pointer (some ⟨ba, 0, none⟩), .int .i64 j] W' fun e w' => e = .returned (.tuple #[.agg (encS s), .bool true]) /\ Ext W' w') := hid fun W' h => CS.out W' ba _ j s GR.out h
        have Gc : Hid (∀ W', IsAl W' bal (.pointer (some ⟨ba, 0, none⟩)) P -> Calls Tryz.prog 44 #[.pointer (some ⟨ba, 0, none⟩), .int .i64 j] W' fun e w' => e = .returned (.tuple #[.int .u8 q, .bool true]) /\ Ext W' w') := hid fun W' h => by rw [hq]; exact CM.out W' ba _ j GU h
        have Gw : Hid (P.take (j + 1) = P.take j ++ [s]) := hid (by rw [List.take_add_one, GR.out]; rfl)
        have Gt : Hid (((List.range (j + 1)).map (lb P)).map encB = ((List.range j).map (lb P)).map encB ++ [.int .u8 q]) := hid (by rw [List.range_succ, List.map_append, List.map_append, hq]; rfl)
        clear hq Gq GU GR
        go_wp2_with fail
        refine (Gi.out _ AJ.out).mono ?_
        rintro e w5 ⟨rfl, hx⟩
        have Y5 := hid hx
        have J8 : wo.heap.size <= w5.heap.size := hx.size
        clear hx
        go_wp2_with fail
        refine calls_named ?_
        intro V3 hV3
        have S3 : Hid (Blk V3 w5.heap.size (encS s) 70) := by rw [hV3]; exact Blk.new _ _ _
        have Y6 : Hid (Ext wo V3) := by rw [hV3]; exact Y5.out.alloc _
        clear hV3 Y5
        refine (Gc.out _ (AJ.out.below Y6.out.below)).mono ?_
        rintro e w6 ⟨rfl, hx⟩
        have S6 := hid (S3.out.ext hx)
        have Y7 := hid (Y6.out.trans hx)
        clear hx S3 Y6
        have GB := hid (ownsRow_below G7.out Y7.out.below)
        have G8 := hid (ownsRow_below HO.out Y7.out.below)
        have GO := hid (HB.out.ext Y7.out)
        have Gr : wo.heap.size <= w6.heap.size := Y7.out.size
        have Gd := hid (HX.out.tr (Keeps.of_below Y7.out.below fun x hx => Nat.lt_of_lt_of_le hx.1 Gp))
        have L1 := hid fun x e => (G7.out.lt x e).2
        have L2 := hid fun x e => (HO.out.lt x e).2
        clear G7 HO HB HX
        obtain ⟨ca, cc, rfl⟩ := ownsRow_form GB.out
        obtain ⟨oa, oc, rfl⟩ := ownsRow_form G8.out
        have Gl : Hid ((Value.slice ca j cc).ownBlock = none \/ (Value.slice ca j cc).ownBlock ≠ (Value.slice oa j oc).ownBlock) := ownBlock_ne (by decide) GB.out G8.out
        have Gb : Hid ((Value.slice oa j oc).ownBlock = none \/ (Value.slice oa j oc).ownBlock ≠ (Value.slice ca j cc).ownBlock) := ownBlock_ne (by decide) G8.out GB.out
        obtain ⟨XO, hXO⟩ : ∃ x, x = ((List.range j).map (lb P)).map encB := ⟨_, rfl⟩
        rw [<- hXO] at G8
        have J3 := hid hXO
        clear hXO
        obtain ⟨PL, hPL⟩ : ∃ PL : List App, PL = [⟨70, 4, .slice ca j cc, j, flatS (P.take j), 1, (encS s).toList⟩, ⟨5, 1, .slice oa j oc, j, XO, 1, [.int .u8 q]⟩] := ⟨_, rfl⟩
        have GE : PL[0]? = some ⟨70, 4, .slice ca j cc, j, flatS (P.take j), 1, (encS s).toList⟩ := by rw [hPL]; rfl
        have GD : PL[1]? = some ⟨5, 1, .slice oa j oc, j, XO, 1, [.int .u8 q]⟩ := by rw [hPL]; rfl
        have OK : Hid (AppOk w6 PL) := hid ⟨fun p hp x e => by
          rw [hPL] at hp
          simp only [List.mem_cons, List.not_mem_nil, or_false] at hp
          rcases hp with rfl | rfl
          ·exact (GB.out.lt x e).2
          ·exact (G8.out.lt x e).2, fun i j p q hi hj hij => by
          have hl : PL.length = 2 := by rw [hPL]; rfl
          have h1 := (List.getElem?_eq_some_iff.1 hi).1
          have h2 := (List.getElem?_eq_some_iff.1 hj).1
          rcases (show i = 0 \/ i = 1 by omega) with rfl | rfl <;> rcases (show j = 0 \/ j = 1 by omega) with rfl | rfl <;> (first | (exact absurd rfl hij) | skip) <;> (first | rw [GE] at hi | rw [GD] at hi) <;> (first | rw [GE] at hj | rw [GD] at hj) <;> cases hi <;> cases hj
          ·exact Gl.out
          ·exact Gb.out⟩
        clear Gl Gb
        have GS : V.heap.size <= w6.heap.size := Nat.le_trans Gp Gr
        have GW : ∀ x, x < V.heap.size -> ¬ ∃ p ∈ PL, p.v.ownBlock = some x := fun x hx ⟨p, hp, e⟩ => by
         rw [hPL] at hp
         simp only [List.mem_cons, List.not_mem_nil, or_false] at hp
         rcases hp with rfl | rfl
         ·have := (GB.out.lt _ e).1; omega
         ·have := (G8.out.lt _ e).1; omega
        have G9 := GW mb GX
        have Gh : Hid (∀ W', MoveA V.heap.size w6 PL w6 W' -> Keeps (fun x => x < V.heap.size /\ x ≠ mb) V W') := hid fun W' h => Gd.out.tr (h.keeps.mono fun x hx => ⟨Nat.lt_of_lt_of_le hx.1 GS, GW x hx.1⟩)
        have GJ : ¬ ∃ p ∈ PL, p.v.ownBlock = some w5.heap.size := fun ⟨p, hp, e⟩ => by
         rw [hPL] at hp
         simp only [List.mem_cons, List.not_mem_nil, or_false] at hp
         rcases hp with rfl | rfl
         ·have := L1.out _ e; omega
         ·have := L2.out _ e; omega
        clear hPL GW
        go_wp2
        refine RegG.wp_region_regM (MoveA V.heap.size w6 PL) (MoveA.drew) (fun _ _ _ h k => h.trans k) (by kernel_rfl) 13 [0, 0, 2, 6, 14, 30, 0, 64, 254, 0, 0, 1024, 3584, 8191, 16383, 32767, 65535, 131071] (fun i => i == 7 || i == 8 || i == 11 || i == 12 || i == 16) (by kernel_rfl) (fun _ => none) (fun j hj => (by first | rfl | (have JA : 18 <= j := hj; first | exact if_neg (by omega) | (split <;> first | omega | rfl)))) (by kernel_rfl) (fun i => if i = 7 then RegG.Eff.boxA V.heap.size w6 PL 1 (encS s) 70 else if i = 8 then RegG.Eff.app V.heap.size w6 PL ⟨70, 4, .slice ca j cc, j, flatS (P.take j), 1, (encS s).toList⟩ (List.mem_of_getElem? GE) else if i = 11 then RegG.Eff.boxA V.heap.size w6 PL 1 #[.int .u8 q] 5 else if i = 12 then RegG.Eff.app V.heap.size w6 PL ⟨5, 1, .slice oa j oc, j, XO, 1, [.int .u8 q]⟩ (List.mem_of_getElem? GD) else RegG.Eff.any _) ?_
        intro C hC hne
        have HC := hid hC
        have GH : ∀ {x : Nat}, x < w6.heap.size -> (¬ ∃ p ∈ PL, p.v.ownBlock = some x) -> ∀ W : { W // C W }, W.1.heap[x]? = w6.heap[x]? := fun {x} h1 h2 W => ((hC W.1).1 W.2).keeps.keep x ⟨h1, h2⟩
        have f4 : ∀ W : { W // C W }, W.1.cell? ⟨mb, 4, none⟩ = some (.slice ca j cc) := fun W => ((GO.out.same (GH GO.out.lt G9 W)).cell 4)
        have s0 : ∀ W : { W // C W }, W.1.cell? ⟨w5.heap.size, 0, none⟩ = some (.int .u64 (wd s 0).toNat) := fun W => (S6.out.same (GH S6.out.lt GJ W)).set4.1
        have s1 : ∀ W : { W // C W }, W.1.cell? ⟨w5.heap.size, 1, none⟩ = some (.int .u64 (wd s 1).toNat) := fun W => (S6.out.same (GH S6.out.lt GJ W)).set4.2.1
        have s2 : ∀ W : { W // C W }, W.1.cell? ⟨w5.heap.size, 2, none⟩ = some (.int .u64 (wd s 2).toNat) := fun W => (S6.out.same (GH S6.out.lt GJ W)).set4.2.2.1
        have s3 : ∀ W : { W // C W }, W.1.cell? ⟨w5.heap.size, 3, none⟩ = some (.int .u64 (wd s 3).toNat) := fun W => (S6.out.same (GH S6.out.lt GJ W)).set4.2.2.2
        clear hC GH
        repeat (refine RegG.regStep (fun K hK => ?_); first | (refine RegG.regN rfl ?_; try go_simp; refine hK _ _ ?_; clear hK K) | (refine RegG.regF rfl rfl ?_; unfold floatAt; go_simp; refine hK _ _ ?_; clear hK K))
        refine RegG.regStep (fun K hK => ?_)
        refine RegG.regE rfl rfl (RegG.Eff.boxA V.heap.size w6 PL 1 (encS s) 70) rfl (fun W hW hN => ?_) (fun v hv => ?_)
        ·have hM := (HC.out W).1 hW
         clear hW hK K
         (go_simp; exact ⟨.below ((Ext.refl _).alloc _).below, ⟨_, rfl⟩, fun b hb => by cases hb; exact ⟨Blk.new _ _ _, OK.out.fresh hM.size⟩⟩)
        obtain ⟨x3, rfl⟩ := hv
        go_simp
        refine hK _ _ ?_
        clear hK K
        refine RegG.regStep (fun K hK => ?_)
        refine RegG.regE rfl rfl (RegG.Eff.app V.heap.size w6 PL ⟨70, 4, .slice ca j cc, j, flatS (P.take j), 1, (encS s).toList⟩ (List.mem_of_getElem? GE)) rfl (fun W hW hN => ?_) (fun v hv => ?_)
        ·have hM := (HC.out W).1 hW
         clear hW hK K
         refine effT_appendA (w0 := w6) (PL := PL) (p := ⟨70, 4, .slice ca j cc, j, flatS (P.take j), 1, (encS s).toList⟩) (.tmp 85) (.tmp 87) 28 rfl iS _ 32 Tryz.underlying28 hiS hzS0 hzS1 hzS2 rfl (show (0 : Nat) < 4 from by decide) OK.out GE rfl (hM.old _ (List.mem_of_getElem? GE) GB.out) ⟨x3, 0, none⟩ 1 rfl rfl (news_blk (hN.at 0 rfl (by kernel_rfl) x3 rfl).1) (by intro u hu; simp [encS] at hu; rcases hu with rfl | rfl | rfl | rfl <;> rfl) (by show j + 1 <= maxLen; unfold maxLen; omega) (by show (j + 1) * 32 <= _; omega) (Nat.le_trans GS hM.size) (show (0 : Nat) < 1 from by decide) hM.size (fun v W' g1 g2 g3 _ => ⟨g1, g2, g3⟩)
        obtain ⟨ca2, cc2, rfl⟩ := hv
        go_simp
        refine hK _ _ ?_
        clear hK K
        repeat (refine RegG.regStep (fun K hK => ?_); first | (refine RegG.regN rfl ?_; try go_simp; refine hK _ _ ?_; clear hK K) | (refine RegG.regF rfl rfl ?_; unfold floatAt; go_simp; refine hK _ _ ?_; clear hK K))
        refine RegG.regStep (fun K hK => ?_)
        refine RegG.regE rfl rfl (RegG.Eff.boxA V.heap.size w6 PL 1 #[.int .u8 q] 5) rfl (fun W hW hN => ?_) (fun v hv => ?_)
        ·have hM := (HC.out W).1 hW
         clear hW hK K
         (go_simp; exact ⟨.below ((Ext.refl _).alloc _).below, ⟨_, rfl⟩, fun b hb => by cases hb; exact ⟨Blk.new _ _ _, OK.out.fresh hM.size⟩⟩)
        obtain ⟨x10, rfl⟩ := hv
        go_simp
        refine hK _ _ ?_
        clear hK K
        refine RegG.regStep (fun K hK => ?_)
        refine RegG.regE rfl rfl (RegG.Eff.app V.heap.size w6 PL ⟨5, 1, .slice oa j oc, j, XO, 1, [.int .u8 q]⟩ (List.mem_of_getElem? GD)) rfl (fun W hW hN => ?_) (fun v hv => ?_)
        ·have hM := (HC.out W).1 hW
         clear hW hK K
         refine effT_appendA (w0 := w6) (PL := PL) (p := ⟨5, 1, .slice oa j oc, j, XO, 1, [.int .u8 q]⟩) (.tmp 89) (.tmp 91) 23 rfl iB _ 1 Tryz.underlying23 hiB hzB0 hzB1 hzB2 rfl (show (0 : Nat) < 1 from by decide) OK.out GD rfl (hM.old _ (List.mem_of_getElem? GD) G8.out) ⟨x10, 0, none⟩ 1 rfl rfl (news_blk (hN.at 0 rfl (by kernel_rfl) x10 rfl).1) (by intro u hu; simp at hu; rw [hu]; rfl) (by show j + 1 <= maxLen; unfold maxLen; omega) (by show (j + 1) * 1 <= _; omega) (Nat.le_trans GS hM.size) (show (0 : Nat) < 1 from by decide) hM.size (fun v W2 g1 g2 g3 _ => ⟨g1, g2, g3⟩)
        obtain ⟨oa2, oc2, rfl⟩ := hv
        go_simp
        refine hK _ _ ?_
        clear hK K
        refine RegG.regNil (fun W7 hW hH => ?_)
        have hM := (HC.out W7).1 hW
        have Q0 : Hid (After V.heap.size w6 ⟨70, 4, .slice ca j cc, j, flatS (P.take j), 1, (encS s).toList⟩ W7 (.slice ca2 (j + 1) cc2)) := hid (hH _ (List.mem_of_getElem? (show _ = some _ from rfl : _[2]? = some _)))
        have Q1 : Hid (After V.heap.size w6 ⟨5, 1, .slice oa j oc, j, XO, 1, [.int .u8 q]⟩ W7 (.slice oa2 (j + 1) oc2)) := hid (hH _ (List.mem_of_getElem? (show _ = some _ from rfl : _[0]? = some _)))
        have K7 := hid (Gh.out _ hM)
        have B7 := hid (GO.out.same (hM.keeps.keep mb ⟨GO.out.lt, G9⟩))
        have Gu : w6.heap.size <= W7.heap.size := hM.size
        have R0 : Hid (W7.ownsRow V.heap.size 70 4 (.slice ca2 (j + 1) cc2) (j + 1) (flatS (P.take (j + 1)))) := hid (by
         have := Q0.out.1
         rw [Gw.out, flatS_append]
         simpa [flatS] using this)
        have R1 : Hid (W7.ownsRow V.heap.size 5 1 (.slice oa2 (j + 1) oc2) (j + 1) (((List.range (j + 1)).map (lb P)).map encB)) := hid (by
         have := Q1.out.1
         rw [Gt.out, <- J3.out]
         exact this)
        clear hM hW hH HC f4 s0 s1 s2 s3 GE GD OK G9 GJ Gh Gd GO S6 Y7 Gi Gc Q0 Q1 GB G8 L1 L2
        obtain ⟨p0, p1, p2, p3, p4, p5, p6⟩ := B7.out.seven
        have z4 := B7.out.frozen 4
        go_wp2
        go_roundw
        case rel =>
         have kg : Keeps (· ≠ mb) W7 (W7.setCell ⟨mb, 4, none⟩ (.slice ca2 (j + 1) cc2)) := (Keeps.refl _ _).setCell (p := ⟨mb, 4, none⟩) (fun h => h rfl) _
         refine ⟨j + 1, _, by omega, by go_num, B7.out.set 4 _, ?_, ?_, K7.out.tr (kg.mono fun x hx => hx.2)⟩
         ·exact ownsRow_keepsB R0.out kg fun x h1 _ e => by omega
         ·exact ownsRow_keepsB R1.out kg fun x h1 _ e => by omega
        case measure => simp [intOf]; omega
       ·obtain rfl : j = K := by omega
        clear hlt hj
        have Gs : ¬ ((j : Int) < j) := by omega
        have Gj : P.take j = P := by rw [GG.out]; exact List.take_length
        rw [Gj] at G7
        obtain ⟨ca, cc, rfl⟩ := ownsRow_form G7.out
        obtain ⟨oa, oc, rfl⟩ := ownsRow_form HO.out
        have G4 : w.heap.size <= w2.heap.size := X2.out.size
        have Gy : w2.heap.size <= V.heap.size := XV.out.size
        have XX : Hid (Below w.heap.size w wo) := hid ((X2.out.trans (XV.out.mono G4)).trans (HX.out.mono fun x (hx : x < w.heap.size) => ⟨by omega, by have := GA.out; omega⟩ : Keeps (· < w.heap.size) V wo).below)
        have G6 : ((List.range j).map (lb P)).length = j := by simp
        have CK := hid (make_any (fun x => (Value.slice ca j cc).ownBlock ≠ some x /\ (Value.slice oa j oc).ownBlock ≠ some x) w2.heap.size mb w2.heap.size F (.slice pa k pc) (.slice ca j cc) (.slice oa j oc) ps ((List.range j).map (lb P))
         ⟨G3, fun x hx => by
          have h5 := (PT.ok_iff x).1 (List.all_eq_true.1 GL.out x hx)
          exact ⟨(nright_iff _).1 h5.1, SM.out x hx, h5.2.1, h5.2.2⟩⟩ wo
         (fun x hx => ⟨fun e => by have := (G7.out.lt x e).2; omega, fun e => by have := (HO.out.lt x e).2; omega⟩)
         ⟨_, _, _, _, _, _, { blk := HB.out, map := MS.out.keeps HX.out ⟨MS.out.lt, by have := GA.out; omega⟩, fm := ⟨fun e => by have := (G7.out.lt mb e).1; omega, fun e => by have := (HO.out.lt mb e).1; omega⟩, fo := ⟨fun e => by have := (G7.out.lt _ e).1; have := GA.out; omega, fun e => by have := (HO.out.lt _ e).1; have := GA.out; omega⟩, bm := by have := GA.out; omega, bo := Nat.le_refl _, st := RowF.nil _ _ _ _, stI := fun i u r hu => by simp at hu, nxr := RowF.nil _ _ _ _, nxI := fun i u r hu => by simp at hu, mkr := RowF.nil _ _ _ _, mkI := fun i u r hu => by simp at hu, far := .inl rfl }⟩ GT (by rw [G6]; exact GN)
         (fun c hc => by obtain ⟨i, hi, rfl⟩ := List.mem_map.1 hc; exact Gn.out i (by rw [<- GG.out]; exact List.mem_range.1 hi))
         (fun W hW => ownsRow_sl (e := 5) (base := V.heap.size) (ownsRow_keeps HO.out hW fun x hx => ⟨(HO.out.lt x hx).2, .inr fun h => h.2 hx⟩) G6.symm)
         (fun W hW => HP.out.below (XX.out.trans (hW.mono G4))) (fun W hW => HT.out W (XX.out.trans (hW.mono G4))))
        have Gm : Hid (mkSt ps ((List.range j).map (lb P)) F = ofSt ps F) := hid (mkSt_of (by rw [G6, GG.out, G5.out]) fun i hi => by
         rw [G6] at hi
         rw [List.getD_eq_getElem?_getD, List.getElem?_map, List.getElem?_range hi, <- G5.out]; rfl)
        have B5 := hid ((B2.out.below XV.out (by have := B2.out.lt; exact this)).keeps HX.out ⟨by have := B2.out.lt; omega, by have := B2.out.lt; have := GA.out; omega⟩)
        clear Gj G6 CL CS CM
        go_wp2_with fail
        refine CK.out.mono ?_
        rintro e w9 ⟨hk9, hq⟩
        have B9 := hid (B5.out.keeps hk9 ⟨B5.out.lt, .inl B2.out.lt⟩)
        have K9 := hid hk9
        have X9 : Hid (Below w.heap.size w w9) := hid (XX.out.trans (hk9.mono fun x (hx : x < w.heap.size) => ⟨Nat.lt_of_lt_of_le hx XX.out.size, .inl (by omega)⟩ : Keeps (· < w.heap.size) wo w9).below)
        clear hk9
        obtain ⟨⟨k0, k1, k2⟩, z0, z1, z2⟩ := B9.out.three
        rcases hq with ⟨st, hst, rfl, hM⟩ | ⟨hno, rfl⟩
        ·obtain ⟨sv9, nv9, kv9, us9, ns9, ks9, M⟩ := hM
         have GQ := M.nxr.1
         have GZ := M.mkr.1
         obtain ⟨n9, hn9⟩ : ∃ z, z = (st.2.map fun r => r.map Int.ofNat).length := ⟨_, rfl⟩
         obtain ⟨k9, hk9⟩ : ∃ z, z = st.1.length := ⟨_, rfl⟩
         rw [<- hn9] at GQ
         rw [<- hk9] at GZ
         obtain ⟨na, nc, rfl⟩ := ownsRow_form GQ
         obtain ⟨ma, mc, rfl⟩ := ownsRow_form GZ
         have M9 := hid M
         obtain ⟨y0, y1, y2, y3, y4, y5, y6⟩ := M.blk.seven
         have Ga := hid (ofE_done (f := F) G3 GL.out GT (by rw [<- Gm.out]; exact hst))
         clear M hst GQ GZ hn9 hk9
         go_wp2
         refine post_named ?_
         intro W9 hW9
         have E9 : Hid (Blk W9 w.heap.size #[.slice ca j cc, .slice na n9 nc, .slice ma k9 mc] 31 /\ Keeps (· ≠ w.heap.size) w9 W9) := by
          rw [hW9]
          exact hid ⟨B9.out.set3, ((((Keeps.refl _ _).setCell (p := ⟨w.heap.size, 0, none⟩) (fun h => h rfl) _).setCell (p := ⟨w.heap.size, 1, none⟩) (fun h => h rfl) _).setCell (p := ⟨w.heap.size, 2, none⟩) (fun h => h rfl) _)⟩
         clear hW9 z0 z1 z2 k0 k1 k2 y0 y1 y2 y3 y4 y5 y6
         obtain ⟨⟨m0, m1, m2⟩, _⟩ := E9.out.1.three
         refine bodyPost_ret (v := .tuple #[.agg #[.slice ca j cc, .slice na n9 nc, .slice ma k9 mc], .int .i64 0]) (by simp [results, Tryz.results11, go_sem, m0, m1, m2]) rfl ?_
         rw [Ga.out]
         have J6 : w.heap.size < w2.heap.size := B2.out.lt
         refine ⟨_, rfl, ⟨_, _, _, rfl, ?_, ?_, ?_⟩, X9.out.trans (E9.out.2.mono fun x (hx : x < w.heap.size) => Nat.ne_of_lt hx : Keeps (· < w.heap.size) w9 W9).below⟩
         ·show W9.ownsRow w.heap.size 70 4 _ (partsOf (allSets ps)).length _
          rw [<- G5.out, <- GG.out]
          refine ownsRow_base (base := V.heap.size) ?_ (by omega)
          refine ownsRow_keeps (ownsRow_keeps G7.out K9.out fun x hx => ⟨(G7.out.lt x hx).2, .inr fun h => h.1 hx⟩) E9.out.2 fun x hx => by have := (G7.out.lt x hx).1; show x ≠ w.heap.size; omega
         ·have h5 : OwnLL w2.heap.size w9 (.slice na n9 nc) (st.2.map fun r => r.map Int.ofNat) := LLF.own ⟨_, M9.out.nxr, M9.out.nxI⟩
          exact (h5.keeps E9.out.2 fun x h1 _ => by show x ≠ w.heap.size; omega).base G4
         ·have h5 : OwnLL w2.heap.size w9 (.slice ma k9 mc) (st.1.map (marksR ps)) := LLF.own ⟨_, by rw [List.length_map]; exact M9.out.mkr, M9.out.mkI⟩
          exact (h5.keeps E9.out.2 fun x h1 _ => by show x ≠ w.heap.size; omega).base G4
        ·have Ga := hid (ofE_gone (f := F) G3 GL.out GT (by rw [<- Gm.out]; exact hno))
         clear hno
         go_wp2
         refine post_named ?_
         intro W9 hW9
         have E9 : Hid (Blk W9 w.heap.size #[.slice none 0 0, .slice none 0 0, .slice none 0 0] 31 /\ Below w.heap.size w W9) := by rw [hW9]; exact hid ⟨B9.out.set3, below_set3 X9.out (Nat.le_refl _)⟩
         clear hW9 z0 z1 z2 k0 k1 k2
         obtain ⟨⟨m0, m1, m2⟩, _⟩ := E9.out.1.three
         refine bodyPost_ret (v := .tuple #[.agg #[.slice none 0 0, .slice none 0 0, .slice none 0 0], .int .i64 181]) (by simp [results, Tryz.results11, go_sem, m0, m1, m2]) rfl (GF.out W9 181 Ga.out E9.out.1 E9.out.2)
end Go.Proofs.YtbiboekhakbnpaaGreatDoor
