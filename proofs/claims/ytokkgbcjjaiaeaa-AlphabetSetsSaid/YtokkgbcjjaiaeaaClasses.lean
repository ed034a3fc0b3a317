/-
  The walk of AlphabetClasses.
-/
import Derived.Test.YtokkgbcjjaiaeaaPlain
import Derived.Test.YtokkgbcjjaiaeaaLawB
import Derived.Test.YtokkgbcjjaiaeaaLaw
namespace Go.Proofs.Ytokkgbcjjaiaeaa
open Go Go.RowKit Go.Shelf Go.Maps
attribute [local go_sem] encS

theorem IsSetsC.below {w w' : World} {v : Value} {l : List BS} (h : IsSetsC w v l) (hk : Below w.heap.size w w') : IsSetsC w' v l := ⟨h.1.below hk, h.2⟩
theorem below_keeps {B : Nat} {A W : World} (h : Below B A W) {R : Nat → Prop} (hr : ∀ k, R k → k < B) : Keeps R A W := Keeps.of_below h hr

set_option maxRecDepth 100000 in
set_option maxHeartbeats 4000000 in
theorem alphabetClasses_any (v : Value) (l0 : List BS) (w : World) (h : IsSetsC w v l0) (hn : l0.length ≤ 9223372036854775807) :
    Calls Try.prog 8 #[v] w fun e w' => e = .returned (.bool true) ∧ Below w.heap.size w w' := by
  obtain ⟨i0, hi, hz0, hz1, hz2⟩ := info_parts Try.infoS
  obtain ⟨a0, c0, rfl⟩ := h.1.form
  obtain ⟨n0, hn0⟩ : ∃ n, n = l0.length := ⟨_, rfl⟩
  rw [← hn0] at h ⊢
  have H0 := Lib.hid h
  have HN0 := Lib.hid hn
  clear h hn hn0
  go_enter Try.func8, Try.ntmps8
  go_wp2_with (go_at_call 12; refine (awake_any _).mono ?_; rintro e w1 ⟨rfl, hx⟩; have X1 := Lib.hid hx; clear hx)
  refine (few_any _ l0 _ (H0.out.below X1.out) HN0.out).mono ?_
  rintro e w2 ⟨u, rfl, hu, hw⟩
  replace hw := hw.symm
  subst hw
  have hl6 : (l0.take 6).length ≤ 6 := by rw [List.length_take]; omega
  obtain ⟨l, hl⟩ : ∃ l, l = l0.take 6 := ⟨_, rfl⟩
  rw [← hl] at hu hl6
  obtain ⟨a1, c1, rfl⟩ := hu.1.form
  obtain ⟨m, hm⟩ : ∃ m, m = l.length := ⟨_, rfl⟩
  rw [← hm] at hu hl6 ⊢
  have HU := Lib.hid hu
  have HM := Lib.hid hm
  clear hu hm hl H0 HN0
  go_wp2_with fail
  refine (alphOf_any l _ _ HU.out.1 (by have := HM.out; omega)).mono ?_
  rintro e w2 ⟨b, rfl, h1, h2⟩
  have A2 := Lib.hid h1
  have X2 := Lib.hid h2
  have hp1 := partsOf_pos l
  have hp64 := partsOf_len64 l (by have := HM.out; omega)
  have FA := Lib.hid (orL_all l)
  have FAp := Lib.hid fun k s h => orL_apart l (k := k) (s := s) h
  have FL := Lib.hid fun k s h => lastOf_lt l (k := k) (s := s) h
  have FLh := Lib.hid (lastOf_hi l)
  have FP := Lib.hid fun i j s t hi hj hij => parted l (i := i) (j := j) (s := s) (t := t) hi hj hij
  have FC := Lib.hid fun c k hc => cls_iff l (c := c) (k := k) hc
  have FN := Lib.hid fun q h => first_of_ne (partsOf_ne l (q := q) h)
  have FK := Lib.hid fun s hs => classesOf_fits l (s := s) hs
  have FT := Lib.hid fun s hs => together_set l (s := s) hs
  clear h1 h2
  generalize partsOf l = p at *
  have HU2 := Lib.hid (HU.out.below X2.out)
  obtain ⟨n, hnp⟩ : ∃ n, n = p.length := ⟨_, rfl⟩
  have HNP := Lib.hid hnp
  have hp1' : 1 ≤ n := by omega
  have hp64' : n ≤ 64 := by omega
  clear hp1 hp64 hnp HU
  have d1 : decide ((n : Int) < 1) = false := decide_eq_false (by omega)
  have d2 : decide (64 < (n : Int)) = false := decide_eq_false (by omega)
  have HLen : Hid (∀ W, IsAl W w1.heap.size (.pointer (some ⟨b, 0, none⟩)) p → Calls Try.prog 28 #[.pointer (some ⟨b, 0, none⟩)] W fun e w' => e = .returned (.int .i64 n) ∧ w' = W) := fun W h => by rw [HNP.out]; exact len_any _ _ p _ h
  go_wp2_with (go_at_call 28; refine (HLen.out _ (by first | exact A2.out | exact A2.out.below ((Ext.refl _).alloc _).below)).mono ?_; rintro e w3 ⟨rfl, hw⟩; replace hw := hw.symm; subst hw)
  have hB2 : w.heap.size ≤ w2.heap.size := Nat.le_trans X1.out.size X2.out.size
  go_loopw [6, 5, 44] (fun la cl i wr => ∃ k : Nat, k ≤ n ∧ i = .int .i64 k ∧ la = .int .i64 (lastOf p k) ∧ wr.ownsRow (w2.heap.size + 1) 25 4 cl (p.take k).length (flatS (p.take k)) ∧ Blk wr w2.heap.size (encS (orL (p.take k))) 25 ∧ Below w2.heap.size w2 wr) (fun _ _ i _ => n - (intOf i).toNat)
  case atStart => exact ⟨0, by omega, rfl, rfl, World.ownsRow_nil _ _ _ _, Blk.new _ (encS 0) _, (Below.refl _ _).alloc (Nat.le_refl _) _⟩
  case round =>
    obtain ⟨k, hk, rfl, rfl, ho, hbl, hx⟩ := hrel
    obtain ⟨wo, rfl⟩ : ∃ wo : World, wo = wr := ⟨_, rfl⟩
    obtain ⟨a5, c5, rfl⟩ := ownsRow_form ho
    have HO := Lib.hid ho
    have HBl := Lib.hid hbl
    have HX := Lib.hid hx
    clear ho hbl hx
    by_cases hlt : k < n
    · obtain ⟨s, hs⟩ : ∃ s, p[k]? = some s := ⟨_, List.getElem?_eq_getElem (by have := HNP.out; omega)⟩
      have hset : setOf p k = some s := (setOf_nat p k).trans hs
      have hlst : leastOf p k = firstOf s := by unfold leastOf; rw [hset]
      obtain ⟨f1, f2, f3, _⟩ := FN.out s (List.mem_of_getElem? hs)
      have hll := FL.out k s hs
      have hcl : cls p (firstOf s).1 = k := (FC.out _ k f2).2 ⟨s, hs, f3⟩
      have hlen : (p.take k).length = k := by rw [List.length_take]; have := HNP.out; omega
      have hap := FAp.out k s hs
      have hor : orL (p.take (k + 1)) = orL (p.take k) ||| s := by rw [take_snoc hs, orL_snoc]
      have hla2 : lastOf p (k + 1) = ((firstOf s).1 : Int) := lastOf_succ hs
      have HSt := Lib.hid hs
      have HSet : Hid (∀ W, IsAl W w1.heap.size (.pointer (some ⟨b, 0, none⟩)) p → Calls Try.prog 19 #[.pointer (some ⟨b, 0, none⟩), .int .i64 k] W fun e w' => e = .returned (.tuple #[.agg (encS s), .bool true]) ∧ Ext W w') := fun W h => by
        have := set_any _ _ p k W h; rw [hset] at this; exact this
      have HLst : Hid (∀ W, IsAl W w1.heap.size (.pointer (some ⟨b, 0, none⟩)) p → Calls Try.prog 36 #[.pointer (some ⟨b, 0, none⟩), .int .i64 k] W fun e w' => e = .returned (.tuple #[.int .u8 (firstOf s).1, .bool true]) ∧ Ext W w') := fun W h => by
        have := least_any _ _ p k W h; rw [hlst, f1] at this; exact this
      have HFst : Hid (∀ W, Calls Try.prog 38 #[.agg (encS s)] W fun e w' => e = .returned (.tuple #[.int .u8 (firstOf s).1, .bool true]) ∧ Ext W w') := fun W => by
        have := first_any s W; rw [f1] at this; exact this
      have HMt : Hid (∀ W, Calls Try.prog 39 #[.agg (encS (orL (p.take k))), .agg (encS s)] W fun e w' => e = .returned (.bool false) ∧ Ext W w') := fun W => by
        have := meets_any (orL (p.take k)) s W; rw [hap] at this; exact this
      have HOr : Hid (∀ W, Calls Try.prog 40 #[.agg (encS (orL (p.take k))), .agg (encS s)] W fun e w' => e = .returned (.agg (encS (orL (p.take (k + 1))))) ∧ Ext W w') := fun W => by
        rw [hor]; exact or_any _ _ W
      have HCl : Hid (∀ W, IsAl W w1.heap.size (.pointer (some ⟨b, 0, none⟩)) p → Calls Try.prog 21 #[.pointer (some ⟨b, 0, none⟩), .int .u8 (firstOf s).1] W fun e w' => e = .returned (.int .i64 k) ∧ w' = W) := fun W h => by
        have := class_any _ _ p (firstOf s).1 f2 W h; rw [hcl] at this; exact this
      have HLa2 := Lib.hid hla2
      have HTk := Lib.hid (take_snoc hs)
      have hlo := lastOf_lo p k
      have hA : Hid (∀ W, Below w2.heap.size w2 W → IsAl W w1.heap.size (.pointer (some ⟨b, 0, none⟩)) p) := fun W h => A2.out.below h
      clear hset hlst f1 f3 hcl hap hor hla2 hs
      generalize (firstOf s).1 = c at *
      generalize lastOf p k = la at *
      generalize orL (p.take k) = o at *
      generalize hoo : orL (p.take (k + 1)) = o' at *
      have HOO := Lib.hid hoo
      clear hoo
      -- Set
      go_wp2_with fail
      refine (HSet.out _ (hA.out _ HX.out)).mono ?_
      rintro e w3 ⟨rfl, hx⟩
      have X3 := Lib.hid (HX.out.trans (hx.below.mono HX.out.size))
      have BA3 := Lib.hid (HBl.out.ext hx)
      have HO3 := Lib.hid (ownsRow_keeps HO.out hx.keeps (fun k e => (HO.out.lt k e).2))
      clear hx
      -- Least
      go_wp2_with fail
      refine (HLst.out _ (hA.out _ (X3.out.alloc X3.out.size _))).mono ?_
      rintro e w4 ⟨rfl, hx⟩
      have B4 := Lib.hid ((Blk.new w3 (encS s) 25).ext hx)
      have X4 := Lib.hid ((X3.out.alloc X3.out.size (.cells (encS s) 25 (0, 0))).trans (hx.below.mono (by have := X3.out.size; simp; omega)))
      have BA4 := Lib.hid ((BA3.out.alloc _).ext hx)
      have HO4 := Lib.hid (ownsRow_keeps (HO3.out.alloc (.cells (encS s) 25 (0, 0))) hx.keeps (fun k e => by have := (HO3.out.lt k e).2; simp; omega))
      clear hx
      obtain ⟨q0, q1, q2, q3⟩ := B4.out.set4
      -- First
      go_wp2_with fail
      clear q0 q1 q2 q3
      refine (HFst.out _).mono ?_
      rintro e w5 ⟨rfl, hx⟩
      have B5 := Lib.hid (B4.out.ext hx)
      have X5 := Lib.hid (X4.out.trans (hx.below.mono X4.out.size))
      have BA5 := Lib.hid (BA4.out.ext hx)
      have HO5 := Lib.hid (ownsRow_keeps HO4.out hx.keeps (fun k e => (HO4.out.lt k e).2))
      clear hx
      -- the tests
      obtain ⟨q0, q1, q2, q3⟩ := B5.out.set4
      obtain ⟨r0, r1, r2, r3⟩ := BA5.out.set4
      go_wp2_with fail
      clear q0 q1 q2 q3 r0 r1 r2 r3
      refine (HMt.out _).mono ?_
      rintro e w6 ⟨rfl, hx⟩
      have B6 := Lib.hid (B5.out.ext hx)
      have X6 := Lib.hid (X5.out.trans (hx.below.mono X5.out.size))
      have BA6 := Lib.hid (BA5.out.ext hx)
      have HO6 := Lib.hid (ownsRow_keeps HO5.out hx.keeps (fun k e => (HO5.out.lt k e).2))
      clear hx
      go_wp2_with fail
      refine (HCl.out _ (hA.out _ X6.out)).mono ?_
      rintro e w7 ⟨rfl, hw⟩
      replace hw := hw.symm
      subst hw
      -- all = Or(all, s)
      obtain ⟨q0, q1, q2, q3⟩ := B6.out.set4
      obtain ⟨r0, r1, r2, r3⟩ := BA6.out.set4
      go_wp2_with fail
      clear q0 q1 q2 q3 r0 r1 r2 r3
      refine (HOr.out _).mono ?_
      rintro e w7 ⟨rfl, hx⟩
      have B7 := Lib.hid (B6.out.ext hx)
      have X7 := Lib.hid (X6.out.trans (hx.below.mono X6.out.size))
      have BA7 := Lib.hid (BA6.out.ext hx)
      have HO7 := Lib.hid (ownsRow_keeps HO6.out hx.keeps (fun k e => (HO6.out.lt k e).2))
      clear hx
      obtain ⟨r0, r1, r2, r3⟩ := BA7.out.set4
      have rf := BA7.out.frozen
      go_wp2
      clear r0 r1 r2 r3 rf
      refine wp_named ?_
      intro W8 hW8
      have k8 : Keeps (fun x => x ≠ w2.heap.size) w7 W8 := by rw [hW8]; exact (((((Keeps.refl _ _).setCell (by simp) _).setCell (by simp) _).setCell (by simp) _).setCell (by simp) _)
      have ba8 : Blk W8 w2.heap.size (encS o') 25 := by
        have h := (((BA7.out.set 0 (.int .u64 (wd o' 0).toNat)).set 1 (.int .u64 (wd o' 1).toNat)).set 2 (.int .u64 (wd o' 2).toNat)).set 3 (.int .u64 (wd o' 3).toNat)
        rw [hW8]; exact h
      have hs37 : w2.heap.size < w3.heap.size := BA3.out.lt
      have B8 := Lib.hid (B7.out.keeps k8 (by omega))
      have X8 := Lib.hid (X7.out.trans (Keeps.below (k8.mono fun x hx => by omega)))
      have HO8 := Lib.hid (ownsRow_keeps HO7.out k8 (fun x e => by have := (HO7.out.lt x e).1; omega))
      have BA8 := Lib.hid ba8
      clear hW8 k8 ba8 hs37 BA3 BA4 BA5 BA6 BA7 B4 B5 B6 B7 HO3 HO4 HO5 HO6 HO7 X3 X4 X5 X6 X7
      have eg : ∀ args w, (callFunc 41 args).run Try.prog w = .ok (.enter 41 args) w := enters_of Try.func41 (by kernel_rfl) rfl
      have EG := Lib.hid eg
      clear eg
      go_loopw [104] (fun i wr => ∃ j : Nat, j ≤ k ∧ i = .int .i64 j ∧ Below W8.heap.size W8 wr) (fun i _ => k - (intOf i).toNat)
      case atStart => exact ⟨0, by omega, rfl, Below.refl _ _⟩
      case round =>
        obtain ⟨j, hj, rfl, hx⟩ := hrel
        obtain ⟨wi, rfl⟩ : ∃ wi : World, wi = wr := ⟨_, rfl⟩
        by_cases hjk : j < k
        · obtain ⟨t, ht⟩ : ∃ t, (p.take k)[j]? = some t := ⟨_, List.getElem?_eq_getElem (by omega)⟩
          obtain ⟨g, cap', e', _, hg, hc⟩ := ownsRow_elem HO8.out rfl ht
          cases e'
          have e0 : wi.cell? ⟨g, j * 4, none⟩ = some (.int .u64 (wd t 0).toNat) := (hx.cell (p := ⟨g, j * 4, none⟩) hg).trans (hc 0 (by decide))
          have e1 : wi.cell? ⟨g, j * 4 + 1, none⟩ = some (.int .u64 (wd t 1).toNat) := (hx.cell (p := ⟨g, j * 4 + 1, none⟩) hg).trans (hc 1 (by decide))
          have e2 : wi.cell? ⟨g, j * 4 + 2, none⟩ = some (.int .u64 (wd t 2).toNat) := (hx.cell (p := ⟨g, j * 4 + 2, none⟩) hg).trans (hc 2 (by decide))
          have e3 : wi.cell? ⟨g, j * 4 + 3, none⟩ = some (.int .u64 (wd t 3).toNat) := (hx.cell (p := ⟨g, j * 4 + 3, none⟩) hg).trans (hc 3 (by decide))
          have hany : (l.any fun x => ((s &&& ~~~x == 0) != (t &&& ~~~x == 0))) = true := FP.out k j s t HSt.out (by rw [List.getElem?_take] at ht; split at ht <;> first | exact ht | cases ht) (by omega)
          have HAny := Lib.hid hany
          have HXi := Lib.hid hx
          clear hany hx hc ht
          go_wp2_with fail
          have hx9 : Below W8.heap.size W8 (wi.alloc (.cells (encS t) 25 (0, 0))) := HXi.out.alloc HXi.out.size _
          have HU9 : IsSetsC (wi.alloc (.cells (encS t) 25 (0, 0))) (.slice a1 m c1) l := HU2.out.below ((X8.out.trans (hx9.mono X8.out.size)))
          have B9 : Blk (wi.alloc (.cells (encS t) 25 (0, 0))) w3.heap.size (encS s) 25 := B8.out.below hx9 B8.out.lt
          refine (containsFunc_any 41 #[.pointer (some ⟨w3.heap.size, 0, none⟩), .pointer (some ⟨wi.heap.size, 0, none⟩)] (fun x => ((s &&& ~~~x == 0) != (t &&& ~~~x == 0))) _ l _ HU9.1 (by have := HM.out; omega) EG.out
            (fun x W hW => (apartS_any s t x w3.heap.size wi.heap.size W (B9.below hW B9.lt) ((Blk.new _ _ _).below hW (by simp))).mono fun e w' ⟨h1, h2⟩ => ⟨h1, h2.below⟩)).mono ?_
          rintro e w9 ⟨rfl, hx⟩
          rw [HAny.out]
          have HX9 := Lib.hid (hx9.trans (hx.mono hx9.size))
          clear hx hx9 HU9 B9
          go_wp2
          go_roundw
          case rel => exact ⟨j + 1, by omega, by go_num, HX9.out⟩
          case measure => simp [intOf]; omega
        · obtain rfl : j = k := by omega
          have hoi := (ownsRow_below HO8.out hx).alloc (.cells (encS s) 25 (0, 0))
          rw [hlen] at hoi
          have HOi := Lib.hid hoi
          clear hoi
          have HLen := Lib.hid hlen
          have BAi := Lib.hid (BA8.out.below hx BA8.out.lt)
          obtain ⟨q0, q1, q2, q3⟩ := (B8.out.below hx B8.out.lt).set4
          have Xi := Lib.hid (X8.out.trans (hx.mono X8.out.size))
          have hsi : w2.heap.size < wi.heap.size := Nat.lt_of_lt_of_le BA8.out.lt hx.size
          clear hx HO8 BA8 B8 X8 hjk
          go_wp2_with (at_builtin; refine wpList_append_own_at _ rfl _ _ 22 rfl (w2.heap.size + 1) 25 i0 (.agg #[.int .u64 0, .int .u64 0, .int .u64 0, .int .u64 0]) 4 32 Try.underlying22 hi hz0 hz1 hz2 rfl (by decide) _ _ _ rfl HOi.out ⟨wi.heap.size, 0, none⟩ 1 1 (encS s).toList rfl rfl (news_blk (Blk.new _ (encS s) 25)) (by intro u hu; simp [encS] at hu; rcases hu with rfl | rfl | rfl | rfl <;> rfl) (by unfold maxLen; omega) (by omega) (by simp; omega) ?_; intro v' w9 hown' hgrow hh hat; have HO9 := Lib.hid hown'; have HG := Lib.hid hgrow; clear hown' hgrow hh hat)
          go_roundw
          case rel =>
            refine ⟨j + 1, by omega, by go_num, by rw [HLa2.out], ?_, ?_, ?_⟩
            · rw [HTk.out, List.length_append, flatS_append, flatS_one, HLen.out]; exact HO9.out
            · rw [HOO.out]; exact (BAi.out.alloc _).grown HG.out (fun e => by have := (HOi.out.lt _ e.symm).1; omega)
            · exact (Xi.out.alloc Xi.out.size _).grown HG.out (by simp; omega) (fun c e => by have := (HOi.out.lt c e).1; omega)
          case measure => simp [intOf]; omega
    · obtain rfl : k = n := by omega
      have htk : p.take k = p := by rw [HNP.out]; exact List.take_length
      have hsn : setOf p k = none := setOf_over p (by have := HNP.out; omega)
      rw [htk] at HBl
      rw [FA.out] at HBl
      have HSet : Hid (∀ W, IsAl W w1.heap.size (.pointer (some ⟨b, 0, none⟩)) p → Calls Try.prog 19 #[.pointer (some ⟨b, 0, none⟩), .int .i64 k] W fun e w' => e = .returned (.tuple #[.agg (encS 0), .bool false]) ∧ Ext W w') := fun W h => by
        have := set_any _ _ p k W h; rw [hsn] at this; exact this
      have HAll : Hid (∀ W, Calls Try.prog 43 #[] W fun e w' => e = .returned (.agg (encS (~~~(0 : BS)))) ∧ Ext W w') := fun W => all_any W
      have he : Hid (∀ (s : BS) W, (Op.equalIn 10000 25 (.agg #[.int .u64 (wd s 0).toNat, .int .u64 (wd s 1).toNat, .int .u64 (wd s 2).toNat, .int .u64 (wd s 3).toNat]) (.agg #[.int .u64 (wd s 0).toNat, .int .u64 (wd s 1).toNat, .int .u64 (wd s 2).toNat, .int .u64 (wd s 3).toNat])).run Try.prog W = .ok true W) := fun s W => by
        have h1 := set_equal s s W
        rw [show (s == s) = true from by simp] at h1
        exact h1
      clear htk hsn
      generalize ~~~(0 : BS) = o at *
      go_wp2_with fail
      refine (HLen.out _ (A2.out.below HX.out)).mono ?_
      rintro e w3 ⟨rfl, hw⟩
      replace hw := hw.symm
      subst hw
      go_wp2_with fail
      refine (HSet.out _ (A2.out.below HX.out)).mono ?_
      rintro e w3 ⟨rfl, hx⟩
      have BA3 := Lib.hid (HBl.out.ext hx)
      have X3 := Lib.hid (HX.out.trans (hx.below.mono HX.out.size))
      clear hx
      go_wp2
      refine wp_named ?_
      intro W4 hW4
      have hx4 : Ext w3 W4 := by rw [hW4]; exact (Ext.refl _).alloc _
      have BA4 := BA3.out.ext hx4
      have X4 := Lib.hid (X3.out.trans (hx4.below.mono X3.out.size))
      have HS : Hid (∀ x, x = w2.heap.size → x < W4.heap.size) := fun x hx => by rw [hx]; exact BA4.lt
      clear hW4 hx4
      have heo := he.out o
      refine wp_region_lexK (fun x => x = w2.heap.size) (by kernel_rfl) (fun i => i == 3) (by kernel_rfl) ?_
      intro C hC hne W0 hK0 hblk hsz hx0
      obtain ⟨q0, q1, q2, q3⟩ := lexSet hC rfl BA4
      have HC := Lib.hid hC
      have HK0 := Lib.hid hK0
      have HX0 := Lib.hid hx0
      clear hC hK0 hblk hsz hx0 BA4
      repeat (refine wpLex_step (fun K hK => ?_); refine lexOp_float rfl ?_; unfold floatAt; go_simp; refine hK _ _ ?_; clear hK K)
      refine wpLex_step (fun K hK => ?_)
      refine lexOp_eff rfl ?_
      go_simp
      refine effAt_call ((HAll.out _).mono ?_)
      rintro e w5 ⟨rfl, hx⟩
      have hk1 := Keeps.step HK0.out HS hx
      refine ⟨_, rfl, (HC.out _).2 hk1, hK _ _ ?_⟩
      have X5 := Lib.hid ((X4.out.trans (HX0.out.below.mono X4.out.size)).trans (hx.below.mono (Nat.le_trans X4.out.size HX0.out.size)))
      clear hK K hk1 hx
      repeat (refine wpLex_step (fun K hK => ?_); refine lexOp_float rfl ?_; unfold floatAt; go_simp; refine hK _ _ ?_; clear hK K)
      refine wpLex_nil ?_
      clear heo q0 q1 q2 q3
      go_wp2
      have HU5 := Lib.hid (HU2.out.1.below X5.out)
      have A5 := Lib.hid (A2.out.below X5.out)
      have HI := Lib.hid fun s => indsOf_len s p
      have HIs := Lib.hid fun s => indsOf_sortedZ s p
      have HEmp : Hid (Below w.heap.size w w5) := X1.out.trans ((X2.out.mono X1.out.size).trans (X5.out.mono hB2))
      go_loopw [133] (fun i wr => ∃ j : Nat, j ≤ m ∧ i = .int .i64 j ∧ Below w5.heap.size w5 wr) (fun i _ => m - (intOf i).toNat)
      case atStart => exact ⟨0, by omega, rfl, Below.refl _ _⟩
      case round =>
        obtain ⟨j, hj, rfl, hx⟩ := hrel
        obtain ⟨wi, rfl⟩ : ∃ wi : World, wi = wr := ⟨_, rfl⟩
        by_cases hjm : j < m
        · obtain ⟨s, hs⟩ : ∃ s, l[j]? = some s := ⟨_, List.getElem?_eq_getElem (by have := HM.out; omega)⟩
          have hrow := HU5.out.below hx
          rcases hrow with ⟨_, h2⟩ | ⟨g, off, cap', h1, hb, hc⟩
          · rw [h2] at hs; simp at hs
          cases h1
          have e0 : wi.cell? ⟨g, off + j * 4, none⟩ = some (.int .u64 (wd s 0).toNat) := hc j s hs 0 (by decide)
          have e1 : wi.cell? ⟨g, off + j * 4 + 1, none⟩ = some (.int .u64 (wd s 1).toNat) := hc j s hs 1 (by decide)
          have e2 : wi.cell? ⟨g, off + j * 4 + 2, none⟩ = some (.int .u64 (wd s 2).toNat) := hc j s hs 2 (by decide)
          have e3 : wi.cell? ⟨g, off + j * 4 + 3, none⟩ = some (.int .u64 (wd s 3).toNat) := hc j s hs 3 (by decide)
          have hmem : s ∈ l := List.mem_of_getElem? hs
          have hfk := FK.out s hmem
          have hft := FT.out s hmem
          have HCs : Hid (∀ W, IsAl W w1.heap.size (.pointer (some ⟨b, 0, none⟩)) p → Calls Try.prog 34 #[.pointer (some ⟨b, 0, none⟩), .agg (encS s)] W fun e w' => ∃ u, e = .returned (.tuple #[u, .int .i64 (0 : Nat)]) ∧ w'.ownsRow W.heap.size 3 1 u (indsOf s p).length ((indsOf s p).map encN) ∧ Below W.heap.size W w') := fun W h => by
            have := classes_any _ _ p s W h; rw [hfk] at this; exact this
          have HTg : Hid (∀ W u, IsAl W w1.heap.size (.pointer (some ⟨b, 0, none⟩)) p → IsSl encZ W u ((indsOf s p).map Int.ofNat) → Calls Try.prog 35 #[.pointer (some ⟨b, 0, none⟩), u] W fun e w' => e = .returned (.tuple #[.agg (encS s), .int .i64 (0 : Nat)]) ∧ Ext W w') := fun W u h h2 => by
            have := together_any _ _ p u _ W h h2 (by rw [List.length_map]; have := HI.out s; have := HNP.out; omega); rw [hft] at this; exact this
          have HFt : Hid (∀ W, IsAl W w1.heap.size (.pointer (some ⟨b, 0, none⟩)) p → Calls Try.prog 37 #[.pointer (some ⟨b, 0, none⟩), .agg (encS s)] W fun e w' => e = .returned (.bool true) ∧ Below W.heap.size W w') := fun W h => by
            have := fits_any _ _ p s W h; rw [hfk] at this; exact this
          have HSr : Hid (∀ W u, IsSl encZ W u ((indsOf s p).map Int.ofNat) → Calls Try.prog 44 #[u] W fun e w' => e = .returned (.bool true) ∧ Ext W w') := fun W u h => isSorted_any u _ W h (by rw [List.length_map]; have := HI.out s; have := HNP.out; omega) (HIs.out s)
          have heo := he.out s
          have HXi := Lib.hid hx
          clear hc hs hmem hfk hft hx
          have hxi0 : Below w5.heap.size w5 (wi.alloc (.cells (encS s) 25 (0, 0))) := HXi.out.alloc HXi.out.size _
          have A6 := Lib.hid (A5.out.below hxi0)
          have X6 := Lib.hid hxi0
          clear hxi0
          go_wp2_with fail
          clear e0 e1 e2 e3
          refine (HCs.out _ A6.out).mono ?_
          rintro e w6 ⟨u, rfl, h1, h2⟩
          obtain ⟨a7, c7, rfl⟩ := ownsRow_form h1
          have U7 := Lib.hid (IsSl.nat (ownsRow_sl (l := indsOf s p) h1 rfl))
          have B7 := Lib.hid ((Blk.new wi (encS s) 25).below h2 (by simp))
          have A7 := Lib.hid (A6.out.below h2)
          have X7 := Lib.hid (X6.out.trans (h2.mono X6.out.size))
          clear h1 h2
          generalize (indsOf s p).length = q at *
          go_wp2_with fail
          refine (HTg.out _ _ A7.out U7.out).mono ?_
          rintro e w7 ⟨rfl, hx⟩
          have U8 := Lib.hid (U7.out.ext hx)
          have B8 := Lib.hid (B7.out.ext hx)
          have A8 := Lib.hid (A7.out.below hx.below)
          have X8 := Lib.hid (X7.out.trans (hx.below.mono X7.out.size))
          clear hx
          obtain ⟨q0, q1, q2, q3⟩ := B8.out.set4
          have hlt8 := B8.out.lt
          go_wp2_with fail
          clear heo q0 q1 q2 q3 hlt8
          refine (HFt.out _ (A8.out.below ((Ext.refl _).alloc _).below)).mono ?_
          rintro e w9 ⟨rfl, hx⟩
          have U9 := Lib.hid (U8.out.below (((Ext.refl _).alloc (.cells (encS s) 25 (0, 0))).below.trans (hx.mono (by simp))))
          have X9 := Lib.hid ((X8.out.alloc X8.out.size (.cells (encS s) 25 (0, 0))).trans (hx.mono (by have := X8.out.size; simp; omega)))
          clear hx
          go_wp2_with fail
          refine (HSr.out _ _ U9.out).mono ?_
          rintro e w10 ⟨rfl, hx⟩
          have X10 := Lib.hid (X9.out.trans (hx.below.mono X9.out.size))
          clear hx
          go_wp2
          go_roundw
          case rel => exact ⟨j + 1, by omega, by go_num, X10.out⟩
          case measure => simp [intOf]; omega
        · obtain rfl : j = m := by omega
          have HX := Lib.hid hx
          clear hx
          go_wp2
          go_ret
          exact ⟨rfl, HEmp.out.trans (HX.out.mono HEmp.out.size)⟩
end Go.Proofs.Ytokkgbcjjaiaeaa
