/-
  The walk of AlphabetJoins.
-/
import Derived.Test.YtokkgbcjjaiaeaaJoins
namespace Go.Proofs.Ytokkgbcjjaiaeaa
open Go Go.RowKit Go.Shelf Go.Maps

theorem nil_sets (w : World) : IsSets w (.slice none 0 0) [] := .inl ⟨rfl, rfl⟩
theorem AllAl.pair {w : World} {base : Nat} {L : List (Nat × List BS)} (h : AllAl w base L) {i j b c : Nat} {p q : List BS} (hi : L[i]? = some (b, p)) (hj : L[j]? = some (c, q)) :
    (Calls Try.prog 26 #[.pointer (some ⟨b, 0, none⟩), .pointer (some ⟨c, 0, none⟩)] w fun e w' => e = .returned (.bool (finerOf p q)) ∧ Below w.heap.size w w') ∧
    (Calls Try.prog 27 #[.pointer (some ⟨b, 0, none⟩), .pointer (some ⟨c, 0, none⟩)] w fun e w' => e = .returned (.bool (sameOf p q)) ∧ Below w.heap.size w w') :=
  ⟨finer_any _ _ base base p q w (h.get hi) (h.get hj), (same_any _ _ base base p q w (h.get hi) (h.get hj)).mono fun _ _ ⟨h1, h2⟩ => ⟨h1, h2.below⟩⟩

theorem sets_news {w : World} {b off : Nat} {l : List BS} (hc : ∀ i s, l[i]? = some s → ∀ j, j < 4 → w.cell? ⟨b, off + i * 4 + j, none⟩ = (encS s)[j]?) {j : Nat} {u : Value} (hj : (flatS l)[j]? = some u) : w.cell? ((⟨b, off, none⟩ : Addr).add j) = some u := by
  have hj4 : j < l.length * 4 := by have := (List.getElem?_eq_some_iff.1 hj).1; rwa [flatS_length] at this
  have hs : l[j / 4]? = some (l[j / 4]'(by omega)) := List.getElem?_eq_getElem (by omega)
  have h1 := flatS_get l hs (Nat.mod_lt j (by decide : 0 < 4))
  rw [show j / 4 * 4 + j % 4 = j by omega, hj] at h1
  rw [Addr.add_mid, show off + j = off + j / 4 * 4 + j % 4 by omega, hc _ _ hs _ (Nat.mod_lt j (by decide))]
  exact h1.symm
theorem below_grown {B C : World} {v : Value} {e : TypeId} {size n : Nat} {xs : List Value} {base : Nat} (hg : B.grownBy C v.ownBlock) (ho : B.ownsRow base e size v n xs) (hAB : base ≤ B.heap.size) : Below base B C :=
  (Below.refl base B).grown hg hAB (fun c e => (ho.lt c e).1)

set_option maxRecDepth 100000 in
set_option maxHeartbeats 8000000 in
theorem alphabetJoins_any (v0 v1 v2 : Value) (k0 l0 m0 : List BS) (w : World) (hk : IsSetsC w v0 k0) (hl : IsSetsC w v1 l0) (hm : IsSetsC w v2 m0) (hkn : k0.length ≤ 9223372036854775807) (hln : l0.length ≤ 9223372036854775807) (hmn : m0.length ≤ 9223372036854775807) :
    Calls Try.prog 5 #[v0, v1, v2] w fun e w' => e = .returned (.bool true) ∧ Below w.heap.size w w' := by
  have HK := Lib.hid hk
  have HL := Lib.hid hl
  have HM := Lib.hid hm
  have HKn := Lib.hid hkn
  have HLn := Lib.hid hln
  have HMn := Lib.hid hmn
  clear hk hl hm hkn hln hmn
  go_enter Try.func5, Try.ntmps5
  go_wp2_with fail
  refine (awake_any _).mono ?_
  rintro e w1 ⟨rfl, h2⟩
  have X1 := Lib.hid h2
  have HA1 : Hid (AllAl w1 w.heap.size []) := fun x hx => by cases hx
  clear h2
  -- Of(few(k))
  go_wp2_with fail
  refine (few_any _ k0 _ (HK.out.below X1.out) HKn.out).mono ?_
  rintro e w' ⟨uk, rfl, hu, hw⟩
  replace hw := hw.symm
  subst hw
  obtain ⟨lk, hlk⟩ : ∃ l, l = k0.take 6 := ⟨_, rfl⟩
  rw [← hlk] at hu
  have h6 : lk.length ≤ 6 := by rw [hlk, List.length_take]; omega
  have Uk := Lib.hid hu
  have Ek := Lib.hid hlk
  have Nk := Lib.hid h6
  clear hu hlk h6
  go_wp2_with fail
  refine (alphOf_any lk _ _ Uk.out.1 (by have := Nk.out; omega)).mono ?_
  rintro e w2 ⟨ba, rfl, h1, h2⟩
  have X2 := Lib.hid (X1.out.trans (h2.mono X1.out.size))
  have Pa := Lib.hid (IsPart.of_parts lk)
  obtain ⟨pa, hp⟩ : ∃ p, p = partsOf lk := ⟨_, rfl⟩
  rw [← hp] at h1 Pa
  have HA2 := Lib.hid (HA1.out.cons h2 X1.out.size h1)
  have Qa := Lib.hid hp
  clear h1 h2 hp HA1
  -- Of(few(l))
  go_wp2_with fail
  refine (few_any _ l0 _ (HL.out.below X2.out) HLn.out).mono ?_
  rintro e w' ⟨ul, rfl, hu, hw⟩
  replace hw := hw.symm
  subst hw
  obtain ⟨ll, hll⟩ : ∃ l, l = l0.take 6 := ⟨_, rfl⟩
  rw [← hll] at hu
  have h6 : ll.length ≤ 6 := by rw [hll, List.length_take]; omega
  have Ul := Lib.hid hu
  have El := Lib.hid hll
  have Nl := Lib.hid h6
  clear hu hll h6
  go_wp2_with fail
  refine (alphOf_any ll _ _ Ul.out.1 (by have := Nl.out; omega)).mono ?_
  rintro e w3 ⟨bb, rfl, h1, h2⟩
  have X3 := Lib.hid (X2.out.trans (h2.mono X2.out.size))
  have Pb := Lib.hid (IsPart.of_parts ll)
  obtain ⟨pb, hp⟩ : ∃ p, p = partsOf ll := ⟨_, rfl⟩
  rw [← hp] at h1 Pb
  have HA3 := Lib.hid (HA2.out.cons h2 X2.out.size h1)
  have Qb := Lib.hid hp
  clear h1 h2 hp HA2
  -- Of(few(m))
  go_wp2_with fail
  refine (few_any _ m0 _ (HM.out.below X3.out) HMn.out).mono ?_
  rintro e w' ⟨um, rfl, hu, hw⟩
  replace hw := hw.symm
  subst hw
  obtain ⟨lm, hlm⟩ : ∃ l, l = m0.take 6 := ⟨_, rfl⟩
  rw [← hlm] at hu
  have h6 : lm.length ≤ 6 := by rw [hlm, List.length_take]; omega
  have Um := Lib.hid hu
  have Em := Lib.hid hlm
  have Nm := Lib.hid h6
  clear hu hlm h6
  go_wp2_with fail
  refine (alphOf_any lm _ _ Um.out.1 (by have := Nm.out; omega)).mono ?_
  rintro e w4 ⟨bc, rfl, h1, h2⟩
  have X4 := Lib.hid (X3.out.trans (h2.mono X3.out.size))
  have Pc := Lib.hid (IsPart.of_parts lm)
  obtain ⟨pc, hp⟩ : ∃ p, p = partsOf lm := ⟨_, rfl⟩
  rw [← hp] at h1 Pc
  have HA4 := Lib.hid (HA3.out.cons h2 X3.out.size h1)
  have Qc := Lib.hid hp
  clear h1 h2 hp HA3
  -- ab
  go_wp2_with fail
  refine (join_some (HA4.out.get (i := 2) rfl) (HA4.out.get (i := 1) rfl) Pa.out.some Pb.out.some).mono ?_
  rintro e w5 ⟨bab, rfl, h1, h2⟩
  have X5 := Lib.hid (X4.out.trans (h2.mono X4.out.size))
  have Pab := Lib.hid (Pa.out.join Pb.out)
  obtain ⟨pab, hp⟩ : ∃ p, p = partsOf (pa ++ pb) := ⟨_, rfl⟩
  rw [← hp] at h1 Pab
  have HA5 := Lib.hid (HA4.out.cons h2 X4.out.size h1)
  have Qab := Lib.hid hp
  clear h1 h2 hp HA4
  -- ba
  go_wp2_with fail
  refine (join_some (HA5.out.get (i := 2) rfl) (HA5.out.get (i := 3) rfl) Pb.out.some Pa.out.some).mono ?_
  rintro e w6 ⟨bba, rfl, h1, h2⟩
  have X6 := Lib.hid (X5.out.trans (h2.mono X5.out.size))
  have Pba := Lib.hid (Pb.out.join Pa.out)
  obtain ⟨pba, hp⟩ : ∃ p, p = partsOf (pb ++ pa) := ⟨_, rfl⟩
  rw [← hp] at h1 Pba
  have HA6 := Lib.hid (HA5.out.cons h2 X5.out.size h1)
  have Qba := Lib.hid hp
  clear h1 h2 hp HA5
  -- bc
  go_wp2_with fail
  refine (join_some (HA6.out.get (i := 3) rfl) (HA6.out.get (i := 2) rfl) Pb.out.some Pc.out.some).mono ?_
  rintro e w7 ⟨bbc, rfl, h1, h2⟩
  have X7 := Lib.hid (X6.out.trans (h2.mono X6.out.size))
  have Pbc := Lib.hid (Pb.out.join Pc.out)
  obtain ⟨pbc, hp⟩ : ∃ p, p = partsOf (pb ++ pc) := ⟨_, rfl⟩
  rw [← hp] at h1 Pbc
  have HA7 := Lib.hid (HA6.out.cons h2 X6.out.size h1)
  have Qbc := Lib.hid hp
  clear h1 h2 hp HA6
  -- left
  go_wp2_with fail
  refine (join_some (HA7.out.get (i := 2) rfl) (HA7.out.get (i := 3) rfl) Pab.out.some Pc.out.some).mono ?_
  rintro e w8 ⟨bleft, rfl, h1, h2⟩
  have X8 := Lib.hid (X7.out.trans (h2.mono X7.out.size))
  have Pleft := Lib.hid (Pab.out.join Pc.out)
  obtain ⟨pleft, hp⟩ : ∃ p, p = partsOf (pab ++ pc) := ⟨_, rfl⟩
  rw [← hp] at h1 Pleft
  have HA8 := Lib.hid (HA7.out.cons h2 X7.out.size h1)
  have Qleft := Lib.hid hp
  clear h1 h2 hp HA7
  -- right
  go_wp2_with fail
  refine (join_some (HA8.out.get (i := 6) rfl) (HA8.out.get (i := 1) rfl) Pa.out.some Pbc.out.some).mono ?_
  rintro e w9 ⟨bright, rfl, h1, h2⟩
  have X9 := Lib.hid (X8.out.trans (h2.mono X8.out.size))
  have Pright := Lib.hid (Pa.out.join Pbc.out)
  obtain ⟨pright, hp⟩ : ∃ p, p = partsOf (pa ++ pbc) := ⟨_, rfl⟩
  rw [← hp] at h1 Pright
  have HA9 := Lib.hid (HA8.out.cons h2 X8.out.size h1)
  have Qright := Lib.hid hp
  clear h1 h2 hp HA8
  -- all
  go_wp2_with fail
  refine (alphAll_any _).mono ?_
  rintro e w10 ⟨ball, rfl, h1, h2⟩
  have X10 := Lib.hid (X9.out.trans (h2.mono X9.out.size))
  obtain ⟨pall, hp⟩ : ∃ p, p = allTo 256 := ⟨_, rfl⟩
  rw [← hp] at h1
  have HA10 := Lib.hid (HA9.out.cons h2 X9.out.size h1)
  have Qall := Lib.hid hp
  clear h1 h2 hp HA9
  -- one
  go_wp2_with fail
  refine (alphOf_any [] _ _ (nil_sets _) (by simp)).mono ?_
  rintro e w11 ⟨bone, rfl, h1, h2⟩
  have X11 := Lib.hid (X10.out.trans (h2.mono X10.out.size))
  obtain ⟨pone, hp⟩ : ∃ p, p = partsOf [] := ⟨_, rfl⟩
  rw [← hp] at h1
  have HA11 := Lib.hid (HA10.out.cons h2 X10.out.size h1)
  have Qone := Lib.hid hp
  clear h1 h2 hp HA10
  obtain ⟨F0, F1, F2, F3, F4, F5, F6, F7, F8⟩ := joins_facts Pa.out Pb.out Pc.out Qab.out Qba.out Qbc.out Qleft.out Qright.out Qone.out
  have G0 := Lib.hid F0
  have G1 := Lib.hid F1
  have G2 := Lib.hid F2
  have G3 := Lib.hid F3
  have G4 := Lib.hid F4
  have G5 := Lib.hid F5
  have G6 := Lib.hid F6
  have G7 := Lib.hid F7
  have G8 := Lib.hid F8
  clear F0 F1 F2 F3 F4 F5 F6 F7 F8
  have HN1 : Hid (pone.length = 1) := by rw [Qone.out]; exact parts_nil_len
  obtain ⟨LL, hLL⟩ : ∃ LL : List (Nat × List BS), LL = [(ba, pa), (bb, pb), (bc, pc), (bab, pab), (bba, pba), (bbc, pbc), (bleft, pleft), (bright, pright), (ball, pall), (bone, pone)] := ⟨_, rfl⟩
  have HLL := Lib.hid hLL
  have HB : Hid (AllAl w11 w.heap.size LL) := by rw [HLL.out]; exact fun x hx => HA11.out x (List.mem_reverse.1 hx)
  clear hLL HA11
  go_wp2_with fail
  refine wp_named ?_
  intro W hW
  have hx0 : Ext w11 W := by rw [hW]; exact (Ext.refl _).alloc _
  have hS : IsSl (fun x : Nat × List BS => Value.pointer (some ⟨x.1, 0, none⟩)) W (.slice (some ⟨w11.heap.size, 0, none⟩) 10 10) LL := by
    rw [hW, HLL.out]
    exact blk_isSl _ (World.alloc_heap_new _ _) rfl rfl (by simp)
  have HS := Lib.hid hS
  have X12 := Lib.hid (X11.out.trans (hx0.below.mono X11.out.size))
  have HB1 := Lib.hid (HB.out.below hx0.below)
  clear hW hx0 hS
  have FE : Hid (∀ x ∈ LL, finerOf pall x.2 = true ∧ finerOf x.2 pone = true ∧ finerOf x.2 x.2 = true ∧ sameOf x.2 x.2 = true) := by
    intro x hx
    have := G0.out x.2
    rw [HLL.out] at hx
    rw [Qall.out]
    refine this ?_
    rw [← Qall.out]
    exact List.mem_map_of_mem (f := Prod.snd) hx
  go_loopw [60] (fun i wr => ∃ j : Nat, j ≤ 10 ∧ i = .int .i64 j ∧ Below W.heap.size W wr) (fun i _ => 10 - (intOf i).toNat)
  case atStart => exact ⟨0, by omega, rfl, Below.refl _ _⟩
  case round =>
    obtain ⟨j, hj, rfl, hx⟩ := hrel
    obtain ⟨wi, rfl⟩ : ∃ wi : World, wi = wr := ⟨_, rfl⟩
    by_cases hjk : j < 10
    · obtain ⟨x, hxj⟩ : ∃ x, LL[j]? = some x := ⟨_, List.getElem?_eq_getElem (by rw [HLL.out]; exact hjk)⟩
      obtain ⟨bx, px⟩ := x
      have hLlen : LL.length = 10 := by rw [HLL.out]; rfl
      have hsl := HS.out.below hx
      obtain ⟨gb, ob, e', _, cb⟩ := hsl.elem hxj
      cases e'
      have hcb : wi.cell? ⟨w11.heap.size, 0 + j, none⟩ = some (.pointer (some ⟨bx, 0, none⟩)) := cb
      rw [Nat.zero_add] at hcb
      obtain ⟨f1, f2, f3, f4⟩ := FE.out _ (List.mem_of_getElem? hxj)
      dsimp only at f1 f2 f3 f4
      have HBi := Lib.hid (HB1.out.below hx)
      have HXj := Lib.hid hxj
      have HX := Lib.hid hx
      have h8 : LL[8]? = some (ball, pall) := by rw [HLL.out]; rfl
      have h9 : LL[9]? = some (bone, pone) := by rw [HLL.out]; rfl
      have H8 := Lib.hid h8
      have H9 := Lib.hid h9
      have K1 := Lib.hid f1
      have K2 := Lib.hid f2
      have K3 := Lib.hid f3
      have K4 := Lib.hid f4
      clear hx hxj cb f1 f2 f3 f4 h8 h9 hLlen hsl
      go_wp2_with fail
      refine ((HBi.out.pair H8.out HXj.out).1).mono ?_
      rintro e w20 ⟨rfl, hx⟩
      rw [K1.out]
      have HB2 := Lib.hid (HBi.out.below hx)
      have HX2 := Lib.hid (HX.out.trans (hx.mono HX.out.size))
      clear hx hcb
      go_wp2_with fail
      refine ((HB2.out.pair HXj.out H9.out).1).mono ?_
      rintro e w21 ⟨rfl, hx⟩
      rw [K2.out]
      have HB3 := Lib.hid (HB2.out.below hx)
      have HX3 := Lib.hid (HX2.out.trans (hx.mono HX2.out.size))
      clear hx
      go_wp2_with fail
      refine ((HB3.out.pair HXj.out HXj.out).1).mono ?_
      rintro e w22 ⟨rfl, hx⟩
      rw [K3.out]
      have HB4 := Lib.hid (HB3.out.below hx)
      have HX4 := Lib.hid (HX3.out.trans (hx.mono HX3.out.size))
      clear hx
      go_wp2_with fail
      refine ((HB4.out.pair HXj.out HXj.out).2).mono ?_
      rintro e w23 ⟨rfl, hx⟩
      rw [K4.out]
      have HX5 := Lib.hid (HX4.out.trans (hx.mono HX4.out.size))
      clear hx
      go_wp2
      go_roundw
      case rel => exact ⟨j + 1, by omega, by go_num, HX5.out⟩
      case measure => simp [intOf]; omega
    · obtain rfl : j = 10 := by omega
      have Y0 := Lib.hid (X12.out.trans (hx.mono X12.out.size))
      have D0 := Lib.hid (HB1.out.below hx)
      have hget : ∀ i : Nat, LL[i]? = [(ba, pa), (bb, pb), (bc, pc), (bab, pab), (bba, pba), (bbc, pbc), (bleft, pleft), (bright, pright), (ball, pall), (bone, pone)][i]? := fun i => by rw [HLL.out]
      have HG := Lib.hid hget
      clear hx hget
      go_wp2_with fail
      refine ((D0.out.pair (i := 3) (j := 4) (HG.out _) (HG.out _)).2).mono ?_
      rintro e y1 ⟨rfl, hx⟩
      rw [G1.out]
      have Y1 := Lib.hid (Y0.out.trans (hx.mono Y0.out.size))
      have D1 := Lib.hid (D0.out.below hx)
      clear hx D0
      go_wp2_with fail
      refine ((D1.out.pair (i := 6) (j := 7) (HG.out _) (HG.out _)).2).mono ?_
      rintro e y2 ⟨rfl, hx⟩
      rw [G2.out]
      have Y2 := Lib.hid (Y1.out.trans (hx.mono Y1.out.size))
      have D2 := Lib.hid (D1.out.below hx)
      clear hx D1
      go_wp2_with fail
      refine ((D2.out.pair (i := 3) (j := 0) (HG.out _) (HG.out _)).1).mono ?_
      rintro e y3 ⟨rfl, hx⟩
      rw [G3.out]
      have Y3 := Lib.hid (Y2.out.trans (hx.mono Y2.out.size))
      have D3 := Lib.hid (D2.out.below hx)
      clear hx D2
      go_wp2_with fail
      refine ((D3.out.pair (i := 3) (j := 1) (HG.out _) (HG.out _)).1).mono ?_
      rintro e y4 ⟨rfl, hx⟩
      rw [G4.out]
      have Y4 := Lib.hid (Y3.out.trans (hx.mono Y3.out.size))
      have D4 := Lib.hid (D3.out.below hx)
      clear hx D3
      go_wp2_with fail
      refine (join_some (D4.out.get (i := 0) (HG.out _)) (D4.out.get (i := 0) (HG.out _)) Pa.out.some Pa.out.some).mono ?_
      rintro e y5 ⟨baa, rfl, h1, hx⟩
      have Y5 := Lib.hid (Y4.out.trans (hx.mono Y4.out.size))
      have AA := Lib.hid h1
      have D5 := Lib.hid (D4.out.below hx)
      clear hx h1 D4
      go_wp2_with fail
      refine (same_any _ _ _ _ _ _ _ AA.out (D5.out.get (i := 0) (HG.out _))).mono ?_
      rintro e y6 ⟨rfl, hx⟩
      rw [G5.out]
      have Y6 := Lib.hid (Y5.out.trans (hx.below.mono Y5.out.size))
      have D6 := Lib.hid (D5.out.below hx.below)
      clear hx D5 AA
      go_wp2_with fail
      refine (len_any _ _ _ _ (D6.out.get (i := 9) (HG.out _))).mono ?_
      rintro e w' ⟨rfl, hw⟩
      replace hw := hw.symm
      subst hw
      rw [HN1.out]
      obtain ⟨f, hf⟩ : ∃ f, f = finerOf pc pa := ⟨_, rfl⟩
      obtain ⟨g, hg⟩ : ∃ g, g = finerOf pc pb := ⟨_, rfl⟩
      obtain ⟨f1, hf1⟩ : ∃ f, f = finerOf pa pb := ⟨_, rfl⟩
      obtain ⟨g1, hg1⟩ : ∃ g, g = finerOf pb pa := ⟨_, rfl⟩
      rw [← hf, ← hg] at G6
      rw [← hf1, ← hg1] at G7
      rw [← hf1] at G8
      have J1 := Lib.hid hf
      have J2 := Lib.hid hg
      have J3 := Lib.hid hf1
      have J4 := Lib.hid hg1
      have HXl : Hid (pab = partsOf (partsOf lk ++ partsOf ll)) := by rw [Qab.out, Qa.out, Qb.out]; rfl
      clear hf hg hf1 hg1 FE
      cases f with
      | true =>
        rw [Bool.true_and] at G6
        go_wp2_with fail
        refine ((D6.out.pair (i := 2) (j := 0) (HG.out _) (HG.out _)).1).mono ?_
        rintro e y7 ⟨rfl, hx⟩
        rw [← J1.out]
        have Y7 := Lib.hid (Y6.out.trans (hx.mono Y6.out.size))
        have D7 := Lib.hid (D6.out.below hx)
        clear hx D6
        go_wp2_with fail
        refine ((D7.out.pair (i := 2) (j := 1) (HG.out _) (HG.out _)).1).mono ?_
        rintro e y8 ⟨rfl, hx⟩
        rw [← J2.out]
        have Y8 := Lib.hid (Y7.out.trans (hx.mono Y7.out.size))
        have D8 := Lib.hid (D7.out.below hx)
        clear hx D7
        go_wp2_with fail
        refine ((D8.out.pair (i := 2) (j := 3) (HG.out _) (HG.out _)).1).mono ?_
        rintro e y9 ⟨rfl, hx⟩
        rw [G6.out]
        have Y9 := Lib.hid (Y8.out.trans (hx.mono Y8.out.size))
        have D9 := Lib.hid (D8.out.below hx)
        clear hx D8
        cases g with
        | true =>
          cases f1 with
          | true =>
            rw [Bool.true_and] at G7
            go_wp2_with fail
            refine ((D9.out.pair (i := 0) (j := 1) (HG.out _) (HG.out _)).1).mono ?_
            rintro e y10 ⟨rfl, hx⟩
            rw [← J3.out]
            have Y10 := Lib.hid (Y9.out.trans (hx.mono Y9.out.size))
            have D10 := Lib.hid (D9.out.below hx)
            clear hx D9
            go_wp2_with fail
            refine ((D10.out.pair (i := 1) (j := 0) (HG.out _) (HG.out _)).1).mono ?_
            rintro e y11 ⟨rfl, hx⟩
            rw [← J4.out]
            have Y11 := Lib.hid (Y10.out.trans (hx.mono Y10.out.size))
            have D11 := Lib.hid (D10.out.below hx)
            clear hx D10
            go_wp2_with fail
            refine ((D11.out.pair (i := 0) (j := 1) (HG.out _) (HG.out _)).2).mono ?_
            rintro e y12 ⟨rfl, hx⟩
            rw [G7.out]
            have Y12 := Lib.hid (Y11.out.trans (hx.mono Y11.out.size))
            have D12 := Lib.hid (D11.out.below hx)
            clear hx D11
            cases g1 with
            | true =>
              go_wp2_with fail
              refine ((D12.out.pair (i := 0) (j := 1) (HG.out _) (HG.out _)).1).mono ?_
              rintro e y13 ⟨rfl, hx⟩
              rw [← J3.out]
              have Y13 := Lib.hid (Y12.out.trans (hx.mono Y12.out.size))
              have D13 := Lib.hid (D12.out.below hx)
              clear hx D12
              go_wp2_with fail
              refine ((D13.out.pair (i := 3) (j := 0) (HG.out _) (HG.out _)).2).mono ?_
              rintro e y14 ⟨rfl, hx⟩
              rw [G8.out]
              have Y14 := Lib.hid (Y13.out.trans (hx.mono Y13.out.size))
              have D14 := Lib.hid (D13.out.below hx)
              clear hx D13
              go_wp2_with fail
              refine (few_any _ k0 _ (HK.out.below Y14.out) HKn.out).mono ?_
              rintro e w' ⟨xk, rfl, hu, hw⟩
              replace hw := hw.symm
              subst hw
              rw [← Ek.out] at hu
              go_wp2_with fail
              refine (cloneSets_any _ lk _ hu (by have := Nk.out; omega)).mono ?_
              rintro e y15 ⟨uc, rfl, h1, hx⟩
              have O15 := Lib.hid h1
              have Y15 := Lib.hid (Y14.out.trans (hx.mono Y14.out.size))
              have D15 := Lib.hid (D14.out.below hx)
              have CX := Lib.hid hx
              clear hx h1 hu
              go_wp2_with fail
              refine (few_any _ l0 _ (HL.out.below Y15.out) HLn.out).mono ?_
              rintro e w' ⟨xl, rfl, hu, hw⟩
              replace hw := hw.symm
              subst hw
              rw [← El.out] at hu
              rcases hu.1 with ⟨rfl, hnil⟩ | ⟨b9, off9, cap9, rfl, hb9, hc9⟩
              · have O2 : Hid (y15.ownsRow y14.heap.size 25 4 uc (lk ++ ll).length (flatS (lk ++ ll))) := by rw [hnil, List.append_nil]; exact O15.out
                obtain ⟨i0, hi, hz0, hz1, hz2⟩ := info_parts Try.infoS
                have hN : (lk ++ ll).length ≤ 12 := by rw [List.length_append]; have := Nk.out; have := Nl.out; omega
                have HN12 := Lib.hid hN
                clear hu hnil hN
                go_wp2_with (at_builtin; refine wpList_append_wn rfl (.tmp 163) (.tmp 165) 22 rfl y14.heap.size 25 i0 4 Try.underlying22 hi _ _ _ rfl O15.out rfl ?_)
                go_wp2_with fail
                refine (alphOf_any (lk ++ ll) _ _ (ownsRow_sets O2.out) (by have := HN12.out; omega)).mono ?_
                rintro e z1 ⟨bz, rfl, h1, hx⟩
                have AZ := Lib.hid h1
                have Z1 := Lib.hid (Y15.out.trans (hx.mono Y15.out.size))
                have DZ := Lib.hid (D15.out.below hx)
                clear hx h1
                go_wp2_with fail
                refine (same_any _ _ _ _ _ _ _ AZ.out (DZ.out.get (i := 3) (HG.out _))).mono ?_
                rintro e z2 ⟨rfl, hx⟩
                rw [HXl.out, joins_append]
                have Z2 := Lib.hid (Z1.out.trans (hx.below.mono Z1.out.size))
                clear hx
                go_wp2
                go_ret
                exact ⟨rfl, Z2.out⟩
              · have hnews : ∀ j u, (flatS ll)[j]? = some u → y15.cell? ((⟨b9, off9, none⟩ : Addr).add j) = some u := fun j u hj => sets_news hc9 hj
                have HNw := Lib.hid hnews
                obtain ⟨i0, hi, hz0, hz1, hz2⟩ := info_parts Try.infoS
                have hN : lk.length + ll.length ≤ 12 := by have := Nk.out; have := Nl.out; omega
                have HN12 : Hid ((lk ++ ll).length ≤ 12) := by rw [List.length_append]; exact hN
                clear hu hnews hc9
                go_wp2_with (at_builtin; refine wpList_append_w rfl (.tmp 163) (.tmp 165) 22 rfl y14.heap.size 25 i0 (.agg #[.int .u64 0, .int .u64 0, .int .u64 0, .int .u64 0]) 4 32 Try.underlying22 hi hz0 hz1 hz2 rfl (by decide) _ _ _ rfl O15.out ⟨b9, off9, none⟩ ll.length cap9 (flatS ll) rfl (flatS_length _) HNw.out (flatS_one_cell ll) (by unfold maxLen; omega) (by omega) CX.out.size ?_; intro v' y16 ho hgr; have O2 := Lib.hid ho; have HGr := Lib.hid hgr; clear ho hgr)
                have O2 : Hid (y16.ownsRow y14.heap.size 25 4 v' (lk ++ ll).length (flatS (lk ++ ll))) := by rw [List.length_append, flatS_append]; exact O2.out
                have hy : Below y14.heap.size y15 y16 := below_grown HGr.out O15.out CX.out.size
                have Y16 : Hid (Below w.heap.size w y16) := Y15.out.trans (hy.mono Y14.out.size)
                have D16 := Lib.hid (D14.out.below (CX.out.trans hy))
                clear hy
                go_wp2_with fail
                refine (alphOf_any (lk ++ ll) _ _ (ownsRow_sets O2.out) (by have := HN12.out; omega)).mono ?_
                rintro e z1 ⟨bz, rfl, h1, hx⟩
                have AZ := Lib.hid h1
                have Z1 := Lib.hid (Y16.out.trans (hx.mono Y16.out.size))
                have DZ := Lib.hid (D16.out.below hx)
                clear hx h1
                go_wp2_with fail
                refine (same_any _ _ _ _ _ _ _ AZ.out (DZ.out.get (i := 3) (HG.out _))).mono ?_
                rintro e z2 ⟨rfl, hx⟩
                rw [HXl.out, joins_append]
                have Z2 := Lib.hid (Z1.out.trans (hx.below.mono Z1.out.size))
                clear hx
                go_wp2
                go_ret
                exact ⟨rfl, Z2.out⟩
            | false =>
              go_wp2_with fail
              refine ((D12.out.pair (i := 0) (j := 1) (HG.out _) (HG.out _)).1).mono ?_
              rintro e y13 ⟨rfl, hx⟩
              rw [← J3.out]
              have Y13 := Lib.hid (Y12.out.trans (hx.mono Y12.out.size))
              have D13 := Lib.hid (D12.out.below hx)
              clear hx D12
              go_wp2_with fail
              refine ((D13.out.pair (i := 3) (j := 0) (HG.out _) (HG.out _)).2).mono ?_
              rintro e y14 ⟨rfl, hx⟩
              rw [G8.out]
              have Y14 := Lib.hid (Y13.out.trans (hx.mono Y13.out.size))
              have D14 := Lib.hid (D13.out.below hx)
              clear hx D13
              go_wp2_with fail
              refine (few_any _ k0 _ (HK.out.below Y14.out) HKn.out).mono ?_
              rintro e w' ⟨xk, rfl, hu, hw⟩
              replace hw := hw.symm
              subst hw
              rw [← Ek.out] at hu
              go_wp2_with fail
              refine (cloneSets_any _ lk _ hu (by have := Nk.out; omega)).mono ?_
              rintro e y15 ⟨uc, rfl, h1, hx⟩
              have O15 := Lib.hid h1
              have Y15 := Lib.hid (Y14.out.trans (hx.mono Y14.out.size))
              have D15 := Lib.hid (D14.out.below hx)
              have CX := Lib.hid hx
              clear hx h1 hu
              go_wp2_with fail
              refine (few_any _ l0 _ (HL.out.below Y15.out) HLn.out).mono ?_
              rintro e w' ⟨xl, rfl, hu, hw⟩
              replace hw := hw.symm
              subst hw
              rw [← El.out] at hu
              rcases hu.1 with ⟨rfl, hnil⟩ | ⟨b9, off9, cap9, rfl, hb9, hc9⟩
              · have O2 : Hid (y15.ownsRow y14.heap.size 25 4 uc (lk ++ ll).length (flatS (lk ++ ll))) := by rw [hnil, List.append_nil]; exact O15.out
                obtain ⟨i0, hi, hz0, hz1, hz2⟩ := info_parts Try.infoS
                have hN : (lk ++ ll).length ≤ 12 := by rw [List.length_append]; have := Nk.out; have := Nl.out; omega
                have HN12 := Lib.hid hN
                clear hu hnil hN
                go_wp2_with (at_builtin; refine wpList_append_wn rfl (.tmp 163) (.tmp 165) 22 rfl y14.heap.size 25 i0 4 Try.underlying22 hi _ _ _ rfl O15.out rfl ?_)
                go_wp2_with fail
                refine (alphOf_any (lk ++ ll) _ _ (ownsRow_sets O2.out) (by have := HN12.out; omega)).mono ?_
                rintro e z1 ⟨bz, rfl, h1, hx⟩
                have AZ := Lib.hid h1
                have Z1 := Lib.hid (Y15.out.trans (hx.mono Y15.out.size))
                have DZ := Lib.hid (D15.out.below hx)
                clear hx h1
                go_wp2_with fail
                refine (same_any _ _ _ _ _ _ _ AZ.out (DZ.out.get (i := 3) (HG.out _))).mono ?_
                rintro e z2 ⟨rfl, hx⟩
                rw [HXl.out, joins_append]
                have Z2 := Lib.hid (Z1.out.trans (hx.below.mono Z1.out.size))
                clear hx
                go_wp2
                go_ret
                exact ⟨rfl, Z2.out⟩
              · have hnews : ∀ j u, (flatS ll)[j]? = some u → y15.cell? ((⟨b9, off9, none⟩ : Addr).add j) = some u := fun j u hj => sets_news hc9 hj
                have HNw := Lib.hid hnews
                obtain ⟨i0, hi, hz0, hz1, hz2⟩ := info_parts Try.infoS
                have hN : lk.length + ll.length ≤ 12 := by have := Nk.out; have := Nl.out; omega
                have HN12 : Hid ((lk ++ ll).length ≤ 12) := by rw [List.length_append]; exact hN
                clear hu hnews hc9
                go_wp2_with (at_builtin; refine wpList_append_w rfl (.tmp 163) (.tmp 165) 22 rfl y14.heap.size 25 i0 (.agg #[.int .u64 0, .int .u64 0, .int .u64 0, .int .u64 0]) 4 32 Try.underlying22 hi hz0 hz1 hz2 rfl (by decide) _ _ _ rfl O15.out ⟨b9, off9, none⟩ ll.length cap9 (flatS ll) rfl (flatS_length _) HNw.out (flatS_one_cell ll) (by unfold maxLen; omega) (by omega) CX.out.size ?_; intro v' y16 ho hgr; have O2 := Lib.hid ho; have HGr := Lib.hid hgr; clear ho hgr)
                have O2 : Hid (y16.ownsRow y14.heap.size 25 4 v' (lk ++ ll).length (flatS (lk ++ ll))) := by rw [List.length_append, flatS_append]; exact O2.out
                have hy : Below y14.heap.size y15 y16 := below_grown HGr.out O15.out CX.out.size
                have Y16 : Hid (Below w.heap.size w y16) := Y15.out.trans (hy.mono Y14.out.size)
                have D16 := Lib.hid (D14.out.below (CX.out.trans hy))
                clear hy
                go_wp2_with fail
                refine (alphOf_any (lk ++ ll) _ _ (ownsRow_sets O2.out) (by have := HN12.out; omega)).mono ?_
                rintro e z1 ⟨bz, rfl, h1, hx⟩
                have AZ := Lib.hid h1
                have Z1 := Lib.hid (Y16.out.trans (hx.mono Y16.out.size))
                have DZ := Lib.hid (D16.out.below hx)
                clear hx h1
                go_wp2_with fail
                refine (same_any _ _ _ _ _ _ _ AZ.out (DZ.out.get (i := 3) (HG.out _))).mono ?_
                rintro e z2 ⟨rfl, hx⟩
                rw [HXl.out, joins_append]
                have Z2 := Lib.hid (Z1.out.trans (hx.below.mono Z1.out.size))
                clear hx
                go_wp2
                go_ret
                exact ⟨rfl, Z2.out⟩
          | false =>
            rw [Bool.false_and] at G7
            go_wp2_with fail
            refine ((D9.out.pair (i := 0) (j := 1) (HG.out _) (HG.out _)).1).mono ?_
            rintro e y10 ⟨rfl, hx⟩
            rw [← J3.out]
            have Y10 := Lib.hid (Y9.out.trans (hx.mono Y9.out.size))
            have D10 := Lib.hid (D9.out.below hx)
            clear hx D9
            go_wp2_with fail
            refine ((D10.out.pair (i := 0) (j := 1) (HG.out _) (HG.out _)).2).mono ?_
            rintro e y11 ⟨rfl, hx⟩
            rw [G7.out]
            have Y11 := Lib.hid (Y10.out.trans (hx.mono Y10.out.size))
            have D11 := Lib.hid (D10.out.below hx)
            clear hx D10
            go_wp2_with fail
            refine ((D11.out.pair (i := 0) (j := 1) (HG.out _) (HG.out _)).1).mono ?_
            rintro e y12 ⟨rfl, hx⟩
            rw [← J3.out]
            have Y12 := Lib.hid (Y11.out.trans (hx.mono Y11.out.size))
            have D12 := Lib.hid (D11.out.below hx)
            clear hx D11
            go_wp2_with fail
            refine ((D12.out.pair (i := 3) (j := 0) (HG.out _) (HG.out _)).2).mono ?_
            rintro e y13 ⟨rfl, hx⟩
            rw [G8.out]
            have Y13 := Lib.hid (Y12.out.trans (hx.mono Y12.out.size))
            have D13 := Lib.hid (D12.out.below hx)
            clear hx D12
            go_wp2_with fail
            refine (few_any _ k0 _ (HK.out.below Y13.out) HKn.out).mono ?_
            rintro e w' ⟨xk, rfl, hu, hw⟩
            replace hw := hw.symm
            subst hw
            rw [← Ek.out] at hu
            go_wp2_with fail
            refine (cloneSets_any _ lk _ hu (by have := Nk.out; omega)).mono ?_
            rintro e y14 ⟨uc, rfl, h1, hx⟩
            have O14 := Lib.hid h1
            have Y14 := Lib.hid (Y13.out.trans (hx.mono Y13.out.size))
            have D14 := Lib.hid (D13.out.below hx)
            have CX := Lib.hid hx
            clear hx h1 hu
            go_wp2_with fail
            refine (few_any _ l0 _ (HL.out.below Y14.out) HLn.out).mono ?_
            rintro e w' ⟨xl, rfl, hu, hw⟩
            replace hw := hw.symm
            subst hw
            rw [← El.out] at hu
            rcases hu.1 with ⟨rfl, hnil⟩ | ⟨b9, off9, cap9, rfl, hb9, hc9⟩
            · have O2 : Hid (y14.ownsRow y13.heap.size 25 4 uc (lk ++ ll).length (flatS (lk ++ ll))) := by rw [hnil, List.append_nil]; exact O14.out
              obtain ⟨i0, hi, hz0, hz1, hz2⟩ := info_parts Try.infoS
              have hN : (lk ++ ll).length ≤ 12 := by rw [List.length_append]; have := Nk.out; have := Nl.out; omega
              have HN12 := Lib.hid hN
              clear hu hnil hN
              go_wp2_with (at_builtin; refine wpList_append_wn rfl (.tmp 163) (.tmp 165) 22 rfl y13.heap.size 25 i0 4 Try.underlying22 hi _ _ _ rfl O14.out rfl ?_)
              go_wp2_with fail
              refine (alphOf_any (lk ++ ll) _ _ (ownsRow_sets O2.out) (by have := HN12.out; omega)).mono ?_
              rintro e z1 ⟨bz, rfl, h1, hx⟩
              have AZ := Lib.hid h1
              have Z1 := Lib.hid (Y14.out.trans (hx.mono Y14.out.size))
              have DZ := Lib.hid (D14.out.below hx)
              clear hx h1
              go_wp2_with fail
              refine (same_any _ _ _ _ _ _ _ AZ.out (DZ.out.get (i := 3) (HG.out _))).mono ?_
              rintro e z2 ⟨rfl, hx⟩
              rw [HXl.out, joins_append]
              have Z2 := Lib.hid (Z1.out.trans (hx.below.mono Z1.out.size))
              clear hx
              go_wp2
              go_ret
              exact ⟨rfl, Z2.out⟩
            · have hnews : ∀ j u, (flatS ll)[j]? = some u → y14.cell? ((⟨b9, off9, none⟩ : Addr).add j) = some u := fun j u hj => sets_news hc9 hj
              have HNw := Lib.hid hnews
              obtain ⟨i0, hi, hz0, hz1, hz2⟩ := info_parts Try.infoS
              have hN : lk.length + ll.length ≤ 12 := by have := Nk.out; have := Nl.out; omega
              have HN12 : Hid ((lk ++ ll).length ≤ 12) := by rw [List.length_append]; exact hN
              clear hu hnews hc9
              go_wp2_with (at_builtin; refine wpList_append_w rfl (.tmp 163) (.tmp 165) 22 rfl y13.heap.size 25 i0 (.agg #[.int .u64 0, .int .u64 0, .int .u64 0, .int .u64 0]) 4 32 Try.underlying22 hi hz0 hz1 hz2 rfl (by decide) _ _ _ rfl O14.out ⟨b9, off9, none⟩ ll.length cap9 (flatS ll) rfl (flatS_length _) HNw.out (flatS_one_cell ll) (by unfold maxLen; omega) (by omega) CX.out.size ?_; intro v' y15 ho hgr; have O2 := Lib.hid ho; have HGr := Lib.hid hgr; clear ho hgr)
              have O2 : Hid (y15.ownsRow y13.heap.size 25 4 v' (lk ++ ll).length (flatS (lk ++ ll))) := by rw [List.length_append, flatS_append]; exact O2.out
              have hy : Below y13.heap.size y14 y15 := below_grown HGr.out O14.out CX.out.size
              have Y15 : Hid (Below w.heap.size w y15) := Y14.out.trans (hy.mono Y13.out.size)
              have D15 := Lib.hid (D13.out.below (CX.out.trans hy))
              clear hy
              go_wp2_with fail
              refine (alphOf_any (lk ++ ll) _ _ (ownsRow_sets O2.out) (by have := HN12.out; omega)).mono ?_
              rintro e z1 ⟨bz, rfl, h1, hx⟩
              have AZ := Lib.hid h1
              have Z1 := Lib.hid (Y15.out.trans (hx.mono Y15.out.size))
              have DZ := Lib.hid (D15.out.below hx)
              clear hx h1
              go_wp2_with fail
              refine (same_any _ _ _ _ _ _ _ AZ.out (DZ.out.get (i := 3) (HG.out _))).mono ?_
              rintro e z2 ⟨rfl, hx⟩
              rw [HXl.out, joins_append]
              have Z2 := Lib.hid (Z1.out.trans (hx.below.mono Z1.out.size))
              clear hx
              go_wp2
              go_ret
              exact ⟨rfl, Z2.out⟩
        | false =>
          cases f1 with
          | true =>
            rw [Bool.true_and] at G7
            go_wp2_with fail
            refine ((D9.out.pair (i := 0) (j := 1) (HG.out _) (HG.out _)).1).mono ?_
            rintro e y10 ⟨rfl, hx⟩
            rw [← J3.out]
            have Y10 := Lib.hid (Y9.out.trans (hx.mono Y9.out.size))
            have D10 := Lib.hid (D9.out.below hx)
            clear hx D9
            go_wp2_with fail
            refine ((D10.out.pair (i := 1) (j := 0) (HG.out _) (HG.out _)).1).mono ?_
            rintro e y11 ⟨rfl, hx⟩
            rw [← J4.out]
            have Y11 := Lib.hid (Y10.out.trans (hx.mono Y10.out.size))
            have D11 := Lib.hid (D10.out.below hx)
            clear hx D10
            go_wp2_with fail
            refine ((D11.out.pair (i := 0) (j := 1) (HG.out _) (HG.out _)).2).mono ?_
            rintro e y12 ⟨rfl, hx⟩
            rw [G7.out]
            have Y12 := Lib.hid (Y11.out.trans (hx.mono Y11.out.size))
            have D12 := Lib.hid (D11.out.below hx)
            clear hx D11
            cases g1 with
            | true =>
              go_wp2_with fail
              refine ((D12.out.pair (i := 0) (j := 1) (HG.out _) (HG.out _)).1).mono ?_
              rintro e y13 ⟨rfl, hx⟩
              rw [← J3.out]
              have Y13 := Lib.hid (Y12.out.trans (hx.mono Y12.out.size))
              have D13 := Lib.hid (D12.out.below hx)
              clear hx D12
              go_wp2_with fail
              refine ((D13.out.pair (i := 3) (j := 0) (HG.out _) (HG.out _)).2).mono ?_
              rintro e y14 ⟨rfl, hx⟩
              rw [G8.out]
              have Y14 := Lib.hid (Y13.out.trans (hx.mono Y13.out.size))
              have D14 := Lib.hid (D13.out.below hx)
              clear hx D13
              go_wp2_with fail
              refine (few_any _ k0 _ (HK.out.below Y14.out) HKn.out).mono ?_
              rintro e w' ⟨xk, rfl, hu, hw⟩
              replace hw := hw.symm
              subst hw
              rw [← Ek.out] at hu
              go_wp2_with fail
              refine (cloneSets_any _ lk _ hu (by have := Nk.out; omega)).mono ?_
              rintro e y15 ⟨uc, rfl, h1, hx⟩
              have O15 := Lib.hid h1
              have Y15 := Lib.hid (Y14.out.trans (hx.mono Y14.out.size))
              have D15 := Lib.hid (D14.out.below hx)
              have CX := Lib.hid hx
              clear hx h1 hu
              go_wp2_with fail
              refine (few_any _ l0 _ (HL.out.below Y15.out) HLn.out).mono ?_
              rintro e w' ⟨xl, rfl, hu, hw⟩
              replace hw := hw.symm
              subst hw
              rw [← El.out] at hu
              rcases hu.1 with ⟨rfl, hnil⟩ | ⟨b9, off9, cap9, rfl, hb9, hc9⟩
              · have O2 : Hid (y15.ownsRow y14.heap.size 25 4 uc (lk ++ ll).length (flatS (lk ++ ll))) := by rw [hnil, List.append_nil]; exact O15.out
                obtain ⟨i0, hi, hz0, hz1, hz2⟩ := info_parts Try.infoS
                have hN : (lk ++ ll).length ≤ 12 := by rw [List.length_append]; have := Nk.out; have := Nl.out; omega
                have HN12 := Lib.hid hN
                clear hu hnil hN
                go_wp2_with (at_builtin; refine wpList_append_wn rfl (.tmp 163) (.tmp 165) 22 rfl y14.heap.size 25 i0 4 Try.underlying22 hi _ _ _ rfl O15.out rfl ?_)
                go_wp2_with fail
                refine (alphOf_any (lk ++ ll) _ _ (ownsRow_sets O2.out) (by have := HN12.out; omega)).mono ?_
                rintro e z1 ⟨bz, rfl, h1, hx⟩
                have AZ := Lib.hid h1
                have Z1 := Lib.hid (Y15.out.trans (hx.mono Y15.out.size))
                have DZ := Lib.hid (D15.out.below hx)
                clear hx h1
                go_wp2_with fail
                refine (same_any _ _ _ _ _ _ _ AZ.out (DZ.out.get (i := 3) (HG.out _))).mono ?_
                rintro e z2 ⟨rfl, hx⟩
                rw [HXl.out, joins_append]
                have Z2 := Lib.hid (Z1.out.trans (hx.below.mono Z1.out.size))
                clear hx
                go_wp2
                go_ret
                exact ⟨rfl, Z2.out⟩
              · have hnews : ∀ j u, (flatS ll)[j]? = some u → y15.cell? ((⟨b9, off9, none⟩ : Addr).add j) = some u := fun j u hj => sets_news hc9 hj
                have HNw := Lib.hid hnews
                obtain ⟨i0, hi, hz0, hz1, hz2⟩ := info_parts Try.infoS
                have hN : lk.length + ll.length ≤ 12 := by have := Nk.out; have := Nl.out; omega
                have HN12 : Hid ((lk ++ ll).length ≤ 12) := by rw [List.length_append]; exact hN
                clear hu hnews hc9
                go_wp2_with (at_builtin; refine wpList_append_w rfl (.tmp 163) (.tmp 165) 22 rfl y14.heap.size 25 i0 (.agg #[.int .u64 0, .int .u64 0, .int .u64 0, .int .u64 0]) 4 32 Try.underlying22 hi hz0 hz1 hz2 rfl (by decide) _ _ _ rfl O15.out ⟨b9, off9, none⟩ ll.length cap9 (flatS ll) rfl (flatS_length _) HNw.out (flatS_one_cell ll) (by unfold maxLen; omega) (by omega) CX.out.size ?_; intro v' y16 ho hgr; have O2 := Lib.hid ho; have HGr := Lib.hid hgr; clear ho hgr)
                have O2 : Hid (y16.ownsRow y14.heap.size 25 4 v' (lk ++ ll).length (flatS (lk ++ ll))) := by rw [List.length_append, flatS_append]; exact O2.out
                have hy : Below y14.heap.size y15 y16 := below_grown HGr.out O15.out CX.out.size
                have Y16 : Hid (Below w.heap.size w y16) := Y15.out.trans (hy.mono Y14.out.size)
                have D16 := Lib.hid (D14.out.below (CX.out.trans hy))
                clear hy
                go_wp2_with fail
                refine (alphOf_any (lk ++ ll) _ _ (ownsRow_sets O2.out) (by have := HN12.out; omega)).mono ?_
                rintro e z1 ⟨bz, rfl, h1, hx⟩
                have AZ := Lib.hid h1
                have Z1 := Lib.hid (Y16.out.trans (hx.mono Y16.out.size))
                have DZ := Lib.hid (D16.out.below hx)
                clear hx h1
                go_wp2_with fail
                refine (same_any _ _ _ _ _ _ _ AZ.out (DZ.out.get (i := 3) (HG.out _))).mono ?_
                rintro e z2 ⟨rfl, hx⟩
                rw [HXl.out, joins_append]
                have Z2 := Lib.hid (Z1.out.trans (hx.below.mono Z1.out.size))
                clear hx
                go_wp2
                go_ret
                exact ⟨rfl, Z2.out⟩
            | false =>
              go_wp2_with fail
              refine ((D12.out.pair (i := 0) (j := 1) (HG.out _) (HG.out _)).1).mono ?_
              rintro e y13 ⟨rfl, hx⟩
              rw [← J3.out]
              have Y13 := Lib.hid (Y12.out.trans (hx.mono Y12.out.size))
              have D13 := Lib.hid (D12.out.below hx)
              clear hx D12
              go_wp2_with fail
              refine ((D13.out.pair (i := 3) (j := 0) (HG.out _) (HG.out _)).2).mono ?_
              rintro e y14 ⟨rfl, hx⟩
              rw [G8.out]
              have Y14 := Lib.hid (Y13.out.trans (hx.mono Y13.out.size))
              have D14 := Lib.hid (D13.out.below hx)
              clear hx D13
              go_wp2_with fail
              refine (few_any _ k0 _ (HK.out.below Y14.out) HKn.out).mono ?_
              rintro e w' ⟨xk, rfl, hu, hw⟩
              replace hw := hw.symm
              subst hw
              rw [← Ek.out] at hu
              go_wp2_with fail
              refine (cloneSets_any _ lk _ hu (by have := Nk.out; omega)).mono ?_
              rintro e y15 ⟨uc, rfl, h1, hx⟩
              have O15 := Lib.hid h1
              have Y15 := Lib.hid (Y14.out.trans (hx.mono Y14.out.size))
              have D15 := Lib.hid (D14.out.below hx)
              have CX := Lib.hid hx
              clear hx h1 hu
              go_wp2_with fail
              refine (few_any _ l0 _ (HL.out.below Y15.out) HLn.out).mono ?_
              rintro e w' ⟨xl, rfl, hu, hw⟩
              replace hw := hw.symm
              subst hw
              rw [← El.out] at hu
              rcases hu.1 with ⟨rfl, hnil⟩ | ⟨b9, off9, cap9, rfl, hb9, hc9⟩
              · have O2 : Hid (y15.ownsRow y14.heap.size 25 4 uc (lk ++ ll).length (flatS (lk ++ ll))) := by rw [hnil, List.append_nil]; exact O15.out
                obtain ⟨i0, hi, hz0, hz1, hz2⟩ := info_parts Try.infoS
                have hN : (lk ++ ll).length ≤ 12 := by rw [List.length_append]; have := Nk.out; have := Nl.out; omega
                have HN12 := Lib.hid hN
                clear hu hnil hN
                go_wp2_with (at_builtin; refine wpList_append_wn rfl (.tmp 163) (.tmp 165) 22 rfl y14.heap.size 25 i0 4 Try.underlying22 hi _ _ _ rfl O15.out rfl ?_)
                go_wp2_with fail
                refine (alphOf_any (lk ++ ll) _ _ (ownsRow_sets O2.out) (by have := HN12.out; omega)).mono ?_
                rintro e z1 ⟨bz, rfl, h1, hx⟩
                have AZ := Lib.hid h1
                have Z1 := Lib.hid (Y15.out.trans (hx.mono Y15.out.size))
                have DZ := Lib.hid (D15.out.below hx)
                clear hx h1
                go_wp2_with fail
                refine (same_any _ _ _ _ _ _ _ AZ.out (DZ.out.get (i := 3) (HG.out _))).mono ?_
                rintro e z2 ⟨rfl, hx⟩
                rw [HXl.out, joins_append]
                have Z2 := Lib.hid (Z1.out.trans (hx.below.mono Z1.out.size))
                clear hx
                go_wp2
                go_ret
                exact ⟨rfl, Z2.out⟩
              · have hnews : ∀ j u, (flatS ll)[j]? = some u → y15.cell? ((⟨b9, off9, none⟩ : Addr).add j) = some u := fun j u hj => sets_news hc9 hj
                have HNw := Lib.hid hnews
                obtain ⟨i0, hi, hz0, hz1, hz2⟩ := info_parts Try.infoS
                have hN : lk.length + ll.length ≤ 12 := by have := Nk.out; have := Nl.out; omega
                have HN12 : Hid ((lk ++ ll).length ≤ 12) := by rw [List.length_append]; exact hN
                clear hu hnews hc9
                go_wp2_with (at_builtin; refine wpList_append_w rfl (.tmp 163) (.tmp 165) 22 rfl y14.heap.size 25 i0 (.agg #[.int .u64 0, .int .u64 0, .int .u64 0, .int .u64 0]) 4 32 Try.underlying22 hi hz0 hz1 hz2 rfl (by decide) _ _ _ rfl O15.out ⟨b9, off9, none⟩ ll.length cap9 (flatS ll) rfl (flatS_length _) HNw.out (flatS_one_cell ll) (by unfold maxLen; omega) (by omega) CX.out.size ?_; intro v' y16 ho hgr; have O2 := Lib.hid ho; have HGr := Lib.hid hgr; clear ho hgr)
                have O2 : Hid (y16.ownsRow y14.heap.size 25 4 v' (lk ++ ll).length (flatS (lk ++ ll))) := by rw [List.length_append, flatS_append]; exact O2.out
                have hy : Below y14.heap.size y15 y16 := below_grown HGr.out O15.out CX.out.size
                have Y16 : Hid (Below w.heap.size w y16) := Y15.out.trans (hy.mono Y14.out.size)
                have D16 := Lib.hid (D14.out.below (CX.out.trans hy))
                clear hy
                go_wp2_with fail
                refine (alphOf_any (lk ++ ll) _ _ (ownsRow_sets O2.out) (by have := HN12.out; omega)).mono ?_
                rintro e z1 ⟨bz, rfl, h1, hx⟩
                have AZ := Lib.hid h1
                have Z1 := Lib.hid (Y16.out.trans (hx.mono Y16.out.size))
                have DZ := Lib.hid (D16.out.below hx)
                clear hx h1
                go_wp2_with fail
                refine (same_any _ _ _ _ _ _ _ AZ.out (DZ.out.get (i := 3) (HG.out _))).mono ?_
                rintro e z2 ⟨rfl, hx⟩
                rw [HXl.out, joins_append]
                have Z2 := Lib.hid (Z1.out.trans (hx.below.mono Z1.out.size))
                clear hx
                go_wp2
                go_ret
                exact ⟨rfl, Z2.out⟩
          | false =>
            rw [Bool.false_and] at G7
            go_wp2_with fail
            refine ((D9.out.pair (i := 0) (j := 1) (HG.out _) (HG.out _)).1).mono ?_
            rintro e y10 ⟨rfl, hx⟩
            rw [← J3.out]
            have Y10 := Lib.hid (Y9.out.trans (hx.mono Y9.out.size))
            have D10 := Lib.hid (D9.out.below hx)
            clear hx D9
            go_wp2_with fail
            refine ((D10.out.pair (i := 0) (j := 1) (HG.out _) (HG.out _)).2).mono ?_
            rintro e y11 ⟨rfl, hx⟩
            rw [G7.out]
            have Y11 := Lib.hid (Y10.out.trans (hx.mono Y10.out.size))
            have D11 := Lib.hid (D10.out.below hx)
            clear hx D10
            go_wp2_with fail
            refine ((D11.out.pair (i := 0) (j := 1) (HG.out _) (HG.out _)).1).mono ?_
            rintro e y12 ⟨rfl, hx⟩
            rw [← J3.out]
            have Y12 := Lib.hid (Y11.out.trans (hx.mono Y11.out.size))
            have D12 := Lib.hid (D11.out.below hx)
            clear hx D11
            go_wp2_with fail
            refine ((D12.out.pair (i := 3) (j := 0) (HG.out _) (HG.out _)).2).mono ?_
            rintro e y13 ⟨rfl, hx⟩
            rw [G8.out]
            have Y13 := Lib.hid (Y12.out.trans (hx.mono Y12.out.size))
            have D13 := Lib.hid (D12.out.below hx)
            clear hx D12
            go_wp2_with fail
            refine (few_any _ k0 _ (HK.out.below Y13.out) HKn.out).mono ?_
            rintro e w' ⟨xk, rfl, hu, hw⟩
            replace hw := hw.symm
            subst hw
            rw [← Ek.out] at hu
            go_wp2_with fail
            refine (cloneSets_any _ lk _ hu (by have := Nk.out; omega)).mono ?_
            rintro e y14 ⟨uc, rfl, h1, hx⟩
            have O14 := Lib.hid h1
            have Y14 := Lib.hid (Y13.out.trans (hx.mono Y13.out.size))
            have D14 := Lib.hid (D13.out.below hx)
            have CX := Lib.hid hx
            clear hx h1 hu
            go_wp2_with fail
            refine (few_any _ l0 _ (HL.out.below Y14.out) HLn.out).mono ?_
            rintro e w' ⟨xl, rfl, hu, hw⟩
            replace hw := hw.symm
            subst hw
            rw [← El.out] at hu
            rcases hu.1 with ⟨rfl, hnil⟩ | ⟨b9, off9, cap9, rfl, hb9, hc9⟩
            · have O2 : Hid (y14.ownsRow y13.heap.size 25 4 uc (lk ++ ll).length (flatS (lk ++ ll))) := by rw [hnil, List.append_nil]; exact O14.out
              obtain ⟨i0, hi, hz0, hz1, hz2⟩ := info_parts Try.infoS
              have hN : (lk ++ ll).length ≤ 12 := by rw [List.length_append]; have := Nk.out; have := Nl.out; omega
              have HN12 := Lib.hid hN
              clear hu hnil hN
              go_wp2_with (at_builtin; refine wpList_append_wn rfl (.tmp 163) (.tmp 165) 22 rfl y13.heap.size 25 i0 4 Try.underlying22 hi _ _ _ rfl O14.out rfl ?_)
              go_wp2_with fail
              refine (alphOf_any (lk ++ ll) _ _ (ownsRow_sets O2.out) (by have := HN12.out; omega)).mono ?_
              rintro e z1 ⟨bz, rfl, h1, hx⟩
              have AZ := Lib.hid h1
              have Z1 := Lib.hid (Y14.out.trans (hx.mono Y14.out.size))
              have DZ := Lib.hid (D14.out.below hx)
              clear hx h1
              go_wp2_with fail
              refine (same_any _ _ _ _ _ _ _ AZ.out (DZ.out.get (i := 3) (HG.out _))).mono ?_
              rintro e z2 ⟨rfl, hx⟩
              rw [HXl.out, joins_append]
              have Z2 := Lib.hid (Z1.out.trans (hx.below.mono Z1.out.size))
              clear hx
              go_wp2
              go_ret
              exact ⟨rfl, Z2.out⟩
            · have hnews : ∀ j u, (flatS ll)[j]? = some u → y14.cell? ((⟨b9, off9, none⟩ : Addr).add j) = some u := fun j u hj => sets_news hc9 hj
              have HNw := Lib.hid hnews
              obtain ⟨i0, hi, hz0, hz1, hz2⟩ := info_parts Try.infoS
              have hN : lk.length + ll.length ≤ 12 := by have := Nk.out; have := Nl.out; omega
              have HN12 : Hid ((lk ++ ll).length ≤ 12) := by rw [List.length_append]; exact hN
              clear hu hnews hc9
              go_wp2_with (at_builtin; refine wpList_append_w rfl (.tmp 163) (.tmp 165) 22 rfl y13.heap.size 25 i0 (.agg #[.int .u64 0, .int .u64 0, .int .u64 0, .int .u64 0]) 4 32 Try.underlying22 hi hz0 hz1 hz2 rfl (by decide) _ _ _ rfl O14.out ⟨b9, off9, none⟩ ll.length cap9 (flatS ll) rfl (flatS_length _) HNw.out (flatS_one_cell ll) (by unfold maxLen; omega) (by omega) CX.out.size ?_; intro v' y15 ho hgr; have O2 := Lib.hid ho; have HGr := Lib.hid hgr; clear ho hgr)
              have O2 : Hid (y15.ownsRow y13.heap.size 25 4 v' (lk ++ ll).length (flatS (lk ++ ll))) := by rw [List.length_append, flatS_append]; exact O2.out
              have hy : Below y13.heap.size y14 y15 := below_grown HGr.out O14.out CX.out.size
              have Y15 : Hid (Below w.heap.size w y15) := Y14.out.trans (hy.mono Y13.out.size)
              have D15 := Lib.hid (D13.out.below (CX.out.trans hy))
              clear hy
              go_wp2_with fail
              refine (alphOf_any (lk ++ ll) _ _ (ownsRow_sets O2.out) (by have := HN12.out; omega)).mono ?_
              rintro e z1 ⟨bz, rfl, h1, hx⟩
              have AZ := Lib.hid h1
              have Z1 := Lib.hid (Y15.out.trans (hx.mono Y15.out.size))
              have DZ := Lib.hid (D15.out.below hx)
              clear hx h1
              go_wp2_with fail
              refine (same_any _ _ _ _ _ _ _ AZ.out (DZ.out.get (i := 3) (HG.out _))).mono ?_
              rintro e z2 ⟨rfl, hx⟩
              rw [HXl.out, joins_append]
              have Z2 := Lib.hid (Z1.out.trans (hx.below.mono Z1.out.size))
              clear hx
              go_wp2
              go_ret
              exact ⟨rfl, Z2.out⟩
      | false =>
        rw [Bool.false_and] at G6
        go_wp2_with fail
        refine ((D6.out.pair (i := 2) (j := 0) (HG.out _) (HG.out _)).1).mono ?_
        rintro e y7 ⟨rfl, hx⟩
        rw [← J1.out]
        have Y7 := Lib.hid (Y6.out.trans (hx.mono Y6.out.size))
        have D7 := Lib.hid (D6.out.below hx)
        clear hx D6
        go_wp2_with fail
        refine ((D7.out.pair (i := 2) (j := 3) (HG.out _) (HG.out _)).1).mono ?_
        rintro e y8 ⟨rfl, hx⟩
        rw [G6.out]
        have Y8 := Lib.hid (Y7.out.trans (hx.mono Y7.out.size))
        have D8 := Lib.hid (D7.out.below hx)
        clear hx D7
        cases f1 with
        | true =>
          rw [Bool.true_and] at G7
          go_wp2_with fail
          refine ((D8.out.pair (i := 0) (j := 1) (HG.out _) (HG.out _)).1).mono ?_
          rintro e y9 ⟨rfl, hx⟩
          rw [← J3.out]
          have Y9 := Lib.hid (Y8.out.trans (hx.mono Y8.out.size))
          have D9 := Lib.hid (D8.out.below hx)
          clear hx D8
          go_wp2_with fail
          refine ((D9.out.pair (i := 1) (j := 0) (HG.out _) (HG.out _)).1).mono ?_
          rintro e y10 ⟨rfl, hx⟩
          rw [← J4.out]
          have Y10 := Lib.hid (Y9.out.trans (hx.mono Y9.out.size))
          have D10 := Lib.hid (D9.out.below hx)
          clear hx D9
          go_wp2_with fail
          refine ((D10.out.pair (i := 0) (j := 1) (HG.out _) (HG.out _)).2).mono ?_
          rintro e y11 ⟨rfl, hx⟩
          rw [G7.out]
          have Y11 := Lib.hid (Y10.out.trans (hx.mono Y10.out.size))
          have D11 := Lib.hid (D10.out.below hx)
          clear hx D10
          cases g1 with
          | true =>
            go_wp2_with fail
            refine ((D11.out.pair (i := 0) (j := 1) (HG.out _) (HG.out _)).1).mono ?_
            rintro e y12 ⟨rfl, hx⟩
            rw [← J3.out]
            have Y12 := Lib.hid (Y11.out.trans (hx.mono Y11.out.size))
            have D12 := Lib.hid (D11.out.below hx)
            clear hx D11
            go_wp2_with fail
            refine ((D12.out.pair (i := 3) (j := 0) (HG.out _) (HG.out _)).2).mono ?_
            rintro e y13 ⟨rfl, hx⟩
            rw [G8.out]
            have Y13 := Lib.hid (Y12.out.trans (hx.mono Y12.out.size))
            have D13 := Lib.hid (D12.out.below hx)
            clear hx D12
            go_wp2_with fail
            refine (few_any _ k0 _ (HK.out.below Y13.out) HKn.out).mono ?_
            rintro e w' ⟨xk, rfl, hu, hw⟩
            replace hw := hw.symm
            subst hw
            rw [← Ek.out] at hu
            go_wp2_with fail
            refine (cloneSets_any _ lk _ hu (by have := Nk.out; omega)).mono ?_
            rintro e y14 ⟨uc, rfl, h1, hx⟩
            have O14 := Lib.hid h1
            have Y14 := Lib.hid (Y13.out.trans (hx.mono Y13.out.size))
            have D14 := Lib.hid (D13.out.below hx)
            have CX := Lib.hid hx
            clear hx h1 hu
            go_wp2_with fail
            refine (few_any _ l0 _ (HL.out.below Y14.out) HLn.out).mono ?_
            rintro e w' ⟨xl, rfl, hu, hw⟩
            replace hw := hw.symm
            subst hw
            rw [← El.out] at hu
            rcases hu.1 with ⟨rfl, hnil⟩ | ⟨b9, off9, cap9, rfl, hb9, hc9⟩
            · have O2 : Hid (y14.ownsRow y13.heap.size 25 4 uc (lk ++ ll).length (flatS (lk ++ ll))) := by rw [hnil, List.append_nil]; exact O14.out
              obtain ⟨i0, hi, hz0, hz1, hz2⟩ := info_parts Try.infoS
              have hN : (lk ++ ll).length ≤ 12 := by rw [List.length_append]; have := Nk.out; have := Nl.out; omega
              have HN12 := Lib.hid hN
              clear hu hnil hN
              go_wp2_with (at_builtin; refine wpList_append_wn rfl (.tmp 163) (.tmp 165) 22 rfl y13.heap.size 25 i0 4 Try.underlying22 hi _ _ _ rfl O14.out rfl ?_)
              go_wp2_with fail
              refine (alphOf_any (lk ++ ll) _ _ (ownsRow_sets O2.out) (by have := HN12.out; omega)).mono ?_
              rintro e z1 ⟨bz, rfl, h1, hx⟩
              have AZ := Lib.hid h1
              have Z1 := Lib.hid (Y14.out.trans (hx.mono Y14.out.size))
              have DZ := Lib.hid (D14.out.below hx)
              clear hx h1
              go_wp2_with fail
              refine (same_any _ _ _ _ _ _ _ AZ.out (DZ.out.get (i := 3) (HG.out _))).mono ?_
              rintro e z2 ⟨rfl, hx⟩
              rw [HXl.out, joins_append]
              have Z2 := Lib.hid (Z1.out.trans (hx.below.mono Z1.out.size))
              clear hx
              go_wp2
              go_ret
              exact ⟨rfl, Z2.out⟩
            · have hnews : ∀ j u, (flatS ll)[j]? = some u → y14.cell? ((⟨b9, off9, none⟩ : Addr).add j) = some u := fun j u hj => sets_news hc9 hj
              have HNw := Lib.hid hnews
              obtain ⟨i0, hi, hz0, hz1, hz2⟩ := info_parts Try.infoS
              have hN : lk.length + ll.length ≤ 12 := by have := Nk.out; have := Nl.out; omega
              have HN12 : Hid ((lk ++ ll).length ≤ 12) := by rw [List.length_append]; exact hN
              clear hu hnews hc9
              go_wp2_with (at_builtin; refine wpList_append_w rfl (.tmp 163) (.tmp 165) 22 rfl y13.heap.size 25 i0 (.agg #[.int .u64 0, .int .u64 0, .int .u64 0, .int .u64 0]) 4 32 Try.underlying22 hi hz0 hz1 hz2 rfl (by decide) _ _ _ rfl O14.out ⟨b9, off9, none⟩ ll.length cap9 (flatS ll) rfl (flatS_length _) HNw.out (flatS_one_cell ll) (by unfold maxLen; omega) (by omega) CX.out.size ?_; intro v' y15 ho hgr; have O2 := Lib.hid ho; have HGr := Lib.hid hgr; clear ho hgr)
              have O2 : Hid (y15.ownsRow y13.heap.size 25 4 v' (lk ++ ll).length (flatS (lk ++ ll))) := by rw [List.length_append, flatS_append]; exact O2.out
              have hy : Below y13.heap.size y14 y15 := below_grown HGr.out O14.out CX.out.size
              have Y15 : Hid (Below w.heap.size w y15) := Y14.out.trans (hy.mono Y13.out.size)
              have D15 := Lib.hid (D13.out.below (CX.out.trans hy))
              clear hy
              go_wp2_with fail
              refine (alphOf_any (lk ++ ll) _ _ (ownsRow_sets O2.out) (by have := HN12.out; omega)).mono ?_
              rintro e z1 ⟨bz, rfl, h1, hx⟩
              have AZ := Lib.hid h1
              have Z1 := Lib.hid (Y15.out.trans (hx.mono Y15.out.size))
              have DZ := Lib.hid (D15.out.below hx)
              clear hx h1
              go_wp2_with fail
              refine (same_any _ _ _ _ _ _ _ AZ.out (DZ.out.get (i := 3) (HG.out _))).mono ?_
              rintro e z2 ⟨rfl, hx⟩
              rw [HXl.out, joins_append]
              have Z2 := Lib.hid (Z1.out.trans (hx.below.mono Z1.out.size))
              clear hx
              go_wp2
              go_ret
              exact ⟨rfl, Z2.out⟩
          | false =>
            go_wp2_with fail
            refine ((D11.out.pair (i := 0) (j := 1) (HG.out _) (HG.out _)).1).mono ?_
            rintro e y12 ⟨rfl, hx⟩
            rw [← J3.out]
            have Y12 := Lib.hid (Y11.out.trans (hx.mono Y11.out.size))
            have D12 := Lib.hid (D11.out.below hx)
            clear hx D11
            go_wp2_with fail
            refine ((D12.out.pair (i := 3) (j := 0) (HG.out _) (HG.out _)).2).mono ?_
            rintro e y13 ⟨rfl, hx⟩
            rw [G8.out]
            have Y13 := Lib.hid (Y12.out.trans (hx.mono Y12.out.size))
            have D13 := Lib.hid (D12.out.below hx)
            clear hx D12
            go_wp2_with fail
            refine (few_any _ k0 _ (HK.out.below Y13.out) HKn.out).mono ?_
            rintro e w' ⟨xk, rfl, hu, hw⟩
            replace hw := hw.symm
            subst hw
            rw [← Ek.out] at hu
            go_wp2_with fail
            refine (cloneSets_any _ lk _ hu (by have := Nk.out; omega)).mono ?_
            rintro e y14 ⟨uc, rfl, h1, hx⟩
            have O14 := Lib.hid h1
            have Y14 := Lib.hid (Y13.out.trans (hx.mono Y13.out.size))
            have D14 := Lib.hid (D13.out.below hx)
            have CX := Lib.hid hx
            clear hx h1 hu
            go_wp2_with fail
            refine (few_any _ l0 _ (HL.out.below Y14.out) HLn.out).mono ?_
            rintro e w' ⟨xl, rfl, hu, hw⟩
            replace hw := hw.symm
            subst hw
            rw [← El.out] at hu
            rcases hu.1 with ⟨rfl, hnil⟩ | ⟨b9, off9, cap9, rfl, hb9, hc9⟩
            · have O2 : Hid (y14.ownsRow y13.heap.size 25 4 uc (lk ++ ll).length (flatS (lk ++ ll))) := by rw [hnil, List.append_nil]; exact O14.out
              obtain ⟨i0, hi, hz0, hz1, hz2⟩ := info_parts Try.infoS
              have hN : (lk ++ ll).length ≤ 12 := by rw [List.length_append]; have := Nk.out; have := Nl.out; omega
              have HN12 := Lib.hid hN
              clear hu hnil hN
              go_wp2_with (at_builtin; refine wpList_append_wn rfl (.tmp 163) (.tmp 165) 22 rfl y13.heap.size 25 i0 4 Try.underlying22 hi _ _ _ rfl O14.out rfl ?_)
              go_wp2_with fail
              refine (alphOf_any (lk ++ ll) _ _ (ownsRow_sets O2.out) (by have := HN12.out; omega)).mono ?_
              rintro e z1 ⟨bz, rfl, h1, hx⟩
              have AZ := Lib.hid h1
              have Z1 := Lib.hid (Y14.out.trans (hx.mono Y14.out.size))
              have DZ := Lib.hid (D14.out.below hx)
              clear hx h1
              go_wp2_with fail
              refine (same_any _ _ _ _ _ _ _ AZ.out (DZ.out.get (i := 3) (HG.out _))).mono ?_
              rintro e z2 ⟨rfl, hx⟩
              rw [HXl.out, joins_append]
              have Z2 := Lib.hid (Z1.out.trans (hx.below.mono Z1.out.size))
              clear hx
              go_wp2
              go_ret
              exact ⟨rfl, Z2.out⟩
            · have hnews : ∀ j u, (flatS ll)[j]? = some u → y14.cell? ((⟨b9, off9, none⟩ : Addr).add j) = some u := fun j u hj => sets_news hc9 hj
              have HNw := Lib.hid hnews
              obtain ⟨i0, hi, hz0, hz1, hz2⟩ := info_parts Try.infoS
              have hN : lk.length + ll.length ≤ 12 := by have := Nk.out; have := Nl.out; omega
              have HN12 : Hid ((lk ++ ll).length ≤ 12) := by rw [List.length_append]; exact hN
              clear hu hnews hc9
              go_wp2_with (at_builtin; refine wpList_append_w rfl (.tmp 163) (.tmp 165) 22 rfl y13.heap.size 25 i0 (.agg #[.int .u64 0, .int .u64 0, .int .u64 0, .int .u64 0]) 4 32 Try.underlying22 hi hz0 hz1 hz2 rfl (by decide) _ _ _ rfl O14.out ⟨b9, off9, none⟩ ll.length cap9 (flatS ll) rfl (flatS_length _) HNw.out (flatS_one_cell ll) (by unfold maxLen; omega) (by omega) CX.out.size ?_; intro v' y15 ho hgr; have O2 := Lib.hid ho; have HGr := Lib.hid hgr; clear ho hgr)
              have O2 : Hid (y15.ownsRow y13.heap.size 25 4 v' (lk ++ ll).length (flatS (lk ++ ll))) := by rw [List.length_append, flatS_append]; exact O2.out
              have hy : Below y13.heap.size y14 y15 := below_grown HGr.out O14.out CX.out.size
              have Y15 : Hid (Below w.heap.size w y15) := Y14.out.trans (hy.mono Y13.out.size)
              have D15 := Lib.hid (D13.out.below (CX.out.trans hy))
              clear hy
              go_wp2_with fail
              refine (alphOf_any (lk ++ ll) _ _ (ownsRow_sets O2.out) (by have := HN12.out; omega)).mono ?_
              rintro e z1 ⟨bz, rfl, h1, hx⟩
              have AZ := Lib.hid h1
              have Z1 := Lib.hid (Y15.out.trans (hx.mono Y15.out.size))
              have DZ := Lib.hid (D15.out.below hx)
              clear hx h1
              go_wp2_with fail
              refine (same_any _ _ _ _ _ _ _ AZ.out (DZ.out.get (i := 3) (HG.out _))).mono ?_
              rintro e z2 ⟨rfl, hx⟩
              rw [HXl.out, joins_append]
              have Z2 := Lib.hid (Z1.out.trans (hx.below.mono Z1.out.size))
              clear hx
              go_wp2
              go_ret
              exact ⟨rfl, Z2.out⟩
        | false =>
          rw [Bool.false_and] at G7
          go_wp2_with fail
          refine ((D8.out.pair (i := 0) (j := 1) (HG.out _) (HG.out _)).1).mono ?_
          rintro e y9 ⟨rfl, hx⟩
          rw [← J3.out]
          have Y9 := Lib.hid (Y8.out.trans (hx.mono Y8.out.size))
          have D9 := Lib.hid (D8.out.below hx)
          clear hx D8
          go_wp2_with fail
          refine ((D9.out.pair (i := 0) (j := 1) (HG.out _) (HG.out _)).2).mono ?_
          rintro e y10 ⟨rfl, hx⟩
          rw [G7.out]
          have Y10 := Lib.hid (Y9.out.trans (hx.mono Y9.out.size))
          have D10 := Lib.hid (D9.out.below hx)
          clear hx D9
          go_wp2_with fail
          refine ((D10.out.pair (i := 0) (j := 1) (HG.out _) (HG.out _)).1).mono ?_
          rintro e y11 ⟨rfl, hx⟩
          rw [← J3.out]
          have Y11 := Lib.hid (Y10.out.trans (hx.mono Y10.out.size))
          have D11 := Lib.hid (D10.out.below hx)
          clear hx D10
          go_wp2_with fail
          refine ((D11.out.pair (i := 3) (j := 0) (HG.out _) (HG.out _)).2).mono ?_
          rintro e y12 ⟨rfl, hx⟩
          rw [G8.out]
          have Y12 := Lib.hid (Y11.out.trans (hx.mono Y11.out.size))
          have D12 := Lib.hid (D11.out.below hx)
          clear hx D11
          go_wp2_with fail
          refine (few_any _ k0 _ (HK.out.below Y12.out) HKn.out).mono ?_
          rintro e w' ⟨xk, rfl, hu, hw⟩
          replace hw := hw.symm
          subst hw
          rw [← Ek.out] at hu
          go_wp2_with fail
          refine (cloneSets_any _ lk _ hu (by have := Nk.out; omega)).mono ?_
          rintro e y13 ⟨uc, rfl, h1, hx⟩
          have O13 := Lib.hid h1
          have Y13 := Lib.hid (Y12.out.trans (hx.mono Y12.out.size))
          have D13 := Lib.hid (D12.out.below hx)
          have CX := Lib.hid hx
          clear hx h1 hu
          go_wp2_with fail
          refine (few_any _ l0 _ (HL.out.below Y13.out) HLn.out).mono ?_
          rintro e w' ⟨xl, rfl, hu, hw⟩
          replace hw := hw.symm
          subst hw
          rw [← El.out] at hu
          rcases hu.1 with ⟨rfl, hnil⟩ | ⟨b9, off9, cap9, rfl, hb9, hc9⟩
          · have O2 : Hid (y13.ownsRow y12.heap.size 25 4 uc (lk ++ ll).length (flatS (lk ++ ll))) := by rw [hnil, List.append_nil]; exact O13.out
            obtain ⟨i0, hi, hz0, hz1, hz2⟩ := info_parts Try.infoS
            have hN : (lk ++ ll).length ≤ 12 := by rw [List.length_append]; have := Nk.out; have := Nl.out; omega
            have HN12 := Lib.hid hN
            clear hu hnil hN
            go_wp2_with (at_builtin; refine wpList_append_wn rfl (.tmp 163) (.tmp 165) 22 rfl y12.heap.size 25 i0 4 Try.underlying22 hi _ _ _ rfl O13.out rfl ?_)
            go_wp2_with fail
            refine (alphOf_any (lk ++ ll) _ _ (ownsRow_sets O2.out) (by have := HN12.out; omega)).mono ?_
            rintro e z1 ⟨bz, rfl, h1, hx⟩
            have AZ := Lib.hid h1
            have Z1 := Lib.hid (Y13.out.trans (hx.mono Y13.out.size))
            have DZ := Lib.hid (D13.out.below hx)
            clear hx h1
            go_wp2_with fail
            refine (same_any _ _ _ _ _ _ _ AZ.out (DZ.out.get (i := 3) (HG.out _))).mono ?_
            rintro e z2 ⟨rfl, hx⟩
            rw [HXl.out, joins_append]
            have Z2 := Lib.hid (Z1.out.trans (hx.below.mono Z1.out.size))
            clear hx
            go_wp2
            go_ret
            exact ⟨rfl, Z2.out⟩
          · have hnews : ∀ j u, (flatS ll)[j]? = some u → y13.cell? ((⟨b9, off9, none⟩ : Addr).add j) = some u := fun j u hj => sets_news hc9 hj
            have HNw := Lib.hid hnews
            obtain ⟨i0, hi, hz0, hz1, hz2⟩ := info_parts Try.infoS
            have hN : lk.length + ll.length ≤ 12 := by have := Nk.out; have := Nl.out; omega
            have HN12 : Hid ((lk ++ ll).length ≤ 12) := by rw [List.length_append]; exact hN
            clear hu hnews hc9
            go_wp2_with (at_builtin; refine wpList_append_w rfl (.tmp 163) (.tmp 165) 22 rfl y12.heap.size 25 i0 (.agg #[.int .u64 0, .int .u64 0, .int .u64 0, .int .u64 0]) 4 32 Try.underlying22 hi hz0 hz1 hz2 rfl (by decide) _ _ _ rfl O13.out ⟨b9, off9, none⟩ ll.length cap9 (flatS ll) rfl (flatS_length _) HNw.out (flatS_one_cell ll) (by unfold maxLen; omega) (by omega) CX.out.size ?_; intro v' y14 ho hgr; have O2 := Lib.hid ho; have HGr := Lib.hid hgr; clear ho hgr)
            have O2 : Hid (y14.ownsRow y12.heap.size 25 4 v' (lk ++ ll).length (flatS (lk ++ ll))) := by rw [List.length_append, flatS_append]; exact O2.out
            have hy : Below y12.heap.size y13 y14 := below_grown HGr.out O13.out CX.out.size
            have Y14 : Hid (Below w.heap.size w y14) := Y13.out.trans (hy.mono Y12.out.size)
            have D14 := Lib.hid (D12.out.below (CX.out.trans hy))
            clear hy
            go_wp2_with fail
            refine (alphOf_any (lk ++ ll) _ _ (ownsRow_sets O2.out) (by have := HN12.out; omega)).mono ?_
            rintro e z1 ⟨bz, rfl, h1, hx⟩
            have AZ := Lib.hid h1
            have Z1 := Lib.hid (Y14.out.trans (hx.mono Y14.out.size))
            have DZ := Lib.hid (D14.out.below hx)
            clear hx h1
            go_wp2_with fail
            refine (same_any _ _ _ _ _ _ _ AZ.out (DZ.out.get (i := 3) (HG.out _))).mono ?_
            rintro e z2 ⟨rfl, hx⟩
            rw [HXl.out, joins_append]
            have Z2 := Lib.hid (Z1.out.trans (hx.below.mono Z1.out.size))
            clear hx
            go_wp2
            go_ret
            exact ⟨rfl, Z2.out⟩
end Go.Proofs.Ytokkgbcjjaiaeaa
