/-
  The walk of AlphabetWrong.
-/
import Derived.Test.YtokkgbcjjaiaeaaInsert
import Derived.Test.YtokkgbcjjaiaeaaBag
import Derived.Test.YtokkgbcjjaiaeaaNil
import Derived.Test.YtokkgbcjjaiaeaaPlain
import Derived.Test.YtokkgbcjjaiaeaaReg3
import Derived.Test.YtokkgbcjjaiaeaaAwake
import Derived.Test.YtokkgbcjjaiaeaaRefC
import Derived.Test.YtokkgbcjjaiaeaaTells
namespace Go.Proofs.Ytokkgbcjjaiaeaa
open Go Go.RowKit Go.Shelf Go.Maps

/-- A row of the call's own, as what an effect leaves. -/
def Eff.own (base : Nat) (e : TypeId) (size n : Nat) (xs : List Value) : Eff (Move false (fun _ => False)) where
  P := fun v => ∃ a c, v = .slice a n c
  H := fun v W => W.ownsRow base e size v n xs
  wit := .slice none n 0
  pw := ⟨none, 0, rfl⟩
  st := fun _ W _ hm _ h => ownsRow_keeps h (Keeps.of_below hm.below (R := (· < W.heap.size)) fun _ h => h) fun k e => (h.lt k e).2

theorem tmod_natW (a b : Nat) (hb : 0 < b) : ∃ x : Nat, x < b ∧ ((a : Int)).tmod (b : Int) = (x : Int) := ⟨a % b, Nat.mod_lt _ hb, by rw [Int.tmod_eq_emod_of_nonneg (by omega)]; rfl⟩
theorem setOf_emod (p : List BS) (hp : 1 ≤ p.length) (c : Nat) : ∃ (m : Nat) (s : BS), (c : Int) % (p.length : Int) = m ∧ p[m]? = some s ∧ m < p.length := by
  have hm : c % p.length < p.length := Nat.mod_lt _ (by omega)
  exact ⟨c % p.length, p[c % p.length], rfl, List.getElem?_eq_getElem hm, hm⟩

set_option maxRecDepth 100000 in
set_option maxHeartbeats 16000000 in
theorem alphabetWrong_any (v0 v1 : Value) (l0 : List BS) (b0 : List Nat) (at0 : Nat) (nn : Int) (w : World) (h0 : IsSetsC w v0 l0) (h1 : IsSl encB w v1 b0) (hb : ∀ c ∈ b0, c < 256) (hn0 : l0.length ≤ 9223372036854775807) (hn1 : b0.length ≤ 9223372036854775807) (hat : at0 < 256) (hnn : (Lit.int .i64 nn).wf = true) :
    Calls Try.prog 9 #[v0, v1, .int .u8 at0, .int .i64 nn] w fun e w' => e = .returned (.bool true) ∧ Below w.heap.size w w' := by
  obtain ⟨i0, hi, hz0, hz1, hz2⟩ := info_parts Try.infoI
  have hnb : -9223372036854775808 ≤ nn ∧ nn ≤ 9223372036854775807 := by
    simp only [Lit.wf, Bool.and_eq_true, decide_eq_true_eq] at hnn
    have a1 : IntKind.i64.min = -9223372036854775808 := by decide
    have a2 : IntKind.i64.max = 9223372036854775807 := by decide
    rw [a1, a2] at hnn; exact hnn
  clear hnn
  obtain ⟨a1, c1, rfl⟩ := h1.form
  have hcb := h1.cap
  have HT := Lib.hid h1.take
  obtain ⟨m0, hm0⟩ : ∃ n, n = b0.length := ⟨_, rfl⟩
  rw [← hm0] at h1 hcb HT hn1 ⊢
  have H0 := Lib.hid h0
  have HN0 := Lib.hid hn0
  have HM0 := Lib.hid hm0
  have H256 := Lib.hid hb
  have HNB := Lib.hid hnb
  obtain ⟨k, hk, hkm, hk50⟩ : ∃ k : Nat, min (m0 : Int) 50 = k ∧ k ≤ m0 ∧ k ≤ 50 := by
    by_cases h6 : m0 ≤ 50
    · exact ⟨m0, by omega, by omega, by omega⟩
    · exact ⟨50, by omega, by omega, by omega⟩
  have HSB := Lib.hid (HT.out k hkm)
  have HKM := Lib.hid hk
  have hkc : k ≤ c1 := by omega
  obtain ⟨bs, hbs⟩ : ∃ bs, bs = b0.take k := ⟨_, rfl⟩
  have HBL := Lib.hid (show bs.length = k by rw [hbs, List.length_take]; omega)
  have H256k : Hid (∀ c ∈ bs, c < 256) := fun c hc => H256.out c (by rw [hbs] at hc; exact List.mem_of_mem_take hc)
  rw [← hbs] at HSB
  clear h0 hn0 h1 hb hm0 HT hk hbs hnb
  go_enter Try.func9, Try.ntmps9
  go_wp2_with fail
  refine (awake_any _).mono ?_
  rintro e w1 ⟨rfl, hx⟩
  have B1 := Lib.hid (((Bag.nil w1).cons (s := Sp.sl encB (.slice a1 k c1) bs) (HSB.out.below hx)).cons (s := Sp.since w) hx)
  clear hx HSB
  go_wp2_with fail
  refine (few_any _ l0 _ (⟨H0.out.1.below (B1.out.since 0 rfl), H0.out.2⟩) HN0.out).mono ?_
  rintro e w' ⟨u, rfl, hu, hw⟩
  replace hw := hw.symm
  subst hw
  obtain ⟨l, hl⟩ : ∃ l, l = l0.take 6 := ⟨_, rfl⟩
  have h6 : l.length ≤ 6 := by rw [hl, List.length_take]; omega
  rw [← hl] at hu
  have HU := Lib.hid hu.1
  have H6 := Lib.hid h6
  clear hu hl h6 H0 HN0
  go_wp2_with fail
  refine (alphOf_any l _ _ HU.out (by have := H6.out; omega)).mono ?_
  rintro e w2 ⟨ba, rfl, ha, hx⟩
  obtain ⟨p, hp⟩ : ∃ p, p = partsOf l := ⟨_, rfl⟩
  rw [← hp] at ha
  have hp1 : 1 ≤ p.length := by rw [hp]; exact partsOf_pos l
  have hp64 : p.length ≤ 64 := by rw [hp]; exact partsOf_len64 l H6.out
  have HF : Hid (∀ (m : Nat) (s : BS), p[m]? = some s → (firstOf s).2 = true ∧ (firstOf s).1 < 256) := fun m s hs => by
    rw [hp] at hs
    have := first_of_ne (partsOf_ne l (List.mem_of_getElem? hs))
    exact ⟨this.1, this.2.1⟩
  have B2 := Lib.hid ((B1.out.step hx).cons (s := Sp.al w1.heap.size (.pointer (some ⟨ba, 0, none⟩)) p) ha)
  obtain ⟨n, hn⟩ : ∃ n, n = p.length := ⟨_, rfl⟩
  rw [← hn] at hp1 hp64
  have HN := Lib.hid hn
  have CL : Hid (∀ W, IsAl W w1.heap.size (.pointer (some ⟨ba, 0, none⟩)) p → Calls Try.prog 28 #[.pointer (some ⟨ba, 0, none⟩)] W fun e w' => e = .returned (.int .i64 n) ∧ w' = W) := fun W h => by rw [HN.out]; exact len_any _ _ p _ h
  have d1 : decide ((n : Int) < 1) = false := decide_eq_false (by omega)
  have d1' : decide (n < 1) = false := decide_eq_false (by omega)
  clear ha hx hp hn HU H6 B1
  -- 0 al, 1 since w, 2 bytes
  go_wp2_with fail
  refine (CL.out _ (B2.out.al 0 rfl)).mono ?_
  rintro e w' ⟨rfl, hw⟩
  replace hw := hw.symm
  subst hw
  have hk := HKM.out
  go_wp2
  clear hk d1 d1'
  obtain ⟨gl, hgl⟩ : ∃ gl : List Int, gl = bs.map fun c : Nat => (c : Int) % (n : Int) := ⟨_, rfl⟩
  have HGL := Lib.hid hgl
  clear hgl
  go_loopw [44, 10] (fun i u wr => ∃ d : Nat, d ≤ k ∧ i = .int .i64 d ∧ wr.ownsRow w2.heap.size 3 1 u d ((gl.take d).map encZ) ∧ Below w2.heap.size w2 wr) (fun i _ _ => k - (intOf i).toNat)
  case atStart => exact ⟨0, by omega, rfl, World.ownsRow_nil _ _ _ _, Below.refl _ _⟩
  case round =>
    obtain ⟨d, hd, rfl, ho, hx⟩ := hrel
    obtain ⟨wo, rfl⟩ : ∃ wo : World, wo = wr := ⟨_, rfl⟩
    have B3 := Lib.hid ((B2.out.step hx).cons (s := Sp.since w2) hx)
    obtain ⟨ag, cg, rfl⟩ := ownsRow_form ho
    have HO := Lib.hid ho
    clear ho hx
    -- 0 since w2, 1 al, 2 since w, 3 bytes
    by_cases hlt : d < k
    · obtain ⟨c, hc⟩ : ∃ c, bs[d]? = some c := ⟨_, List.getElem?_eq_getElem (by have := HBL.out; omega)⟩
      have hc256 := H256k.out c (List.mem_of_getElem? hc)
      obtain ⟨g, off, rfl, hg, hcell⟩ := (B3.out.sl 3 rfl).elem hc
      have c0 : wo.cell? ⟨g, off + d, none⟩ = some (.int .u8 c) := hcell
      have HTK := Lib.hid (show gl.take (d + 1) = gl.take d ++ [(c : Int) % (n : Int)] by rw [List.take_add_one, HGL.out, List.getElem?_map, hc]; rfl)
      have hdi : (d : Int) < k := by omega
      have hwc : IntKind.i64.wrap (c : Int) = (c : Int) := IntWalk.i64_in _ (by omega)
      have hpi : 1 ≤ (n : Int) := by omega
      have hsz : w2.heap.size ≤ wo.heap.size := (B3.out.since 0 rfl).size
      clear hc hcell hg
      go_wp2_with (first | (go_at_call 28; refine (CL.out _ (B3.out.al 1 rfl)).mono ?_; rintro e w' ⟨rfl, hw⟩; replace hw := hw.symm; subst hw) | (at_builtin; refine wpList_append_own_at _ rfl _ _ 26 rfl w2.heap.size 3 i0 (.int .i64 0) 1 8 Try.underlying26 hi hz0 hz1 hz2 rfl (by decide) _ _ _ rfl (HO.out.alloc _) ⟨_, 0, none⟩ 1 1 [encZ ((c : Int) % (n : Int))] rfl rfl (cell_one_new _ _ _) (by simp [Value.oneCell', encZ]) (by unfold maxLen; omega) (by omega) (by simp; omega) ?_; intro v' w3 hown' hgrow hh hat; have HO3 := Lib.hid hown'; have HG := Lib.hid hgrow; clear hown' hgrow hh hat))
      exact ⟨⟨d + 1, by omega, by go_num, by rw [HTK.out, List.map_append]; exact HO3.out, ((B3.out.since 0 rfl).alloc hsz _).grown HG.out (by simp; omega) (fun c e => (HO.out.lt c e).1)⟩, by simp [intOf]; omega⟩
    · obtain rfl : d = k := by omega
      have hgd : Hid (gl.length = d) := Lib.hid (by rw [HGL.out, List.length_map]; exact HBL.out)
      have htk : gl.take d = gl := List.take_of_length_le (by rw [hgd.out]; exact Nat.le_refl _)
      rw [htk] at HO
      clear htk
      have HIN : Hid (∀ x ∈ gl, 0 ≤ x ∧ x < (n : Int)) := fun x hx => by
        rw [HGL.out] at hx
        obtain ⟨c, _, rfl⟩ := List.mem_map.1 hx
        exact ⟨Int.emod_nonneg _ (by omega), Int.emod_lt_of_pos _ (by omega)⟩
      have HSO : Hid (∀ x ∈ gl, (leastOf p x).2 = true ∧ (leastOf p x).1 < 256) := fun x hx => by
        obtain ⟨a, b⟩ := HIN.out x hx
        obtain ⟨m, rfl⟩ := Int.eq_ofNat_of_zero_le a
        have hm : p[m]? = some (p[m]'(by have := HN.out; omega)) := List.getElem?_eq_getElem _
        have hs : setOf p (m : Int) = _ := (setOf_nat p m).trans hm
        unfold leastOf
        rw [hs]
        exact HF.out m _ hm
      have hps : Hid (p.isEmpty = false) := Lib.hid (by
        have := HN.out
        cases hpp : p with
        | nil => rw [hpp] at this; simp at this; omega
        | cons => rfl)
      obtain ⟨k1, hk1, hk1n⟩ : ∃ k1 : Int, min nn (-1) = k1 ∧ k1 < 0 := ⟨_, rfl, by omega⟩
      obtain ⟨k2, hk2, hk2n⟩ : ∃ k2 : Int, max nn (n : Int) = k2 ∧ (n : Int) ≤ k2 := ⟨_, rfl, by omega⟩
      go_wp2_with fail
      refine (CL.out _ (B3.out.al 1 rfl)).mono ?_
      rintro e w' ⟨rfl, hw⟩
      replace hw := hw.symm
      subst hw
      go_wp2
      clear hk1 hk2
      refine wp_named ?_
      intro V0 hV0
      obtain ⟨nb, hnb⟩ : ∃ b, b = wo.heap.size := ⟨_, rfl⟩
      have hx : Below wo.heap.size wo V0 := by rw [hV0]; exact ((Ext.refl _).alloc _).below
      have hN : Blk V0 nb #[.int .i64 k1, .int .i64 k2] 3 := by rw [hV0, hnb]; exact Blk.new _ _ _
      rw [← hnb]
      have C0 := Lib.hid (((B3.out.step hx).cons (s := Sp.blk nb #[.int .i64 k1, .int .i64 k2] 3) hN).cons (s := Sp.own w2.heap.size 3 1 (.slice ag d cg) d (gl.map encZ)) ((Sp.own w2.heap.size 3 1 (.slice ag d cg) d (gl.map encZ)).st _ _ hx HO.out))
      clear hV0 hx hN hnb HO
      -- 0 own, 1 blk nb, 2 since w2, 3 al, 4 since w, 5 bytes
      go_loopw [65] (fun i wr => ∃ j : Nat, j ≤ 2 ∧ i = .int .i64 j ∧ Below V0.heap.size V0 wr) (fun i _ => 2 - (intOf i).toNat)
      case atStart => exact ⟨0, by omega, rfl, Below.refl _ _⟩
      case round =>
        obtain ⟨j, hj, rfl, hx⟩ := hrel
        obtain ⟨wl, rfl⟩ : ∃ wl : World, wl = wr := ⟨_, rfl⟩
        have C1 := Lib.hid ((C0.out.step hx).cons (s := Sp.since V0) hx)
        clear hx
        -- 0 since V0, 1 own, 2 blk nb, 3 since w2, 4 al, 5 since w, 6 bytes
        by_cases hj2 : j < 2
        · obtain ⟨z, hz, hzr⟩ : ∃ z : Int, wl.cell? ⟨nb, j, none⟩ = some (.int .i64 z) ∧ (z < 0 ∨ (n : Int) ≤ z) := by
            rcases (show j = 0 ∨ j = 1 by omega) with rfl | rfl
            · exact ⟨k1, (C1.out.blk 2 rfl).cell 0, .inl hk1n⟩
            · exact ⟨k2, (C1.out.blk 2 rfl).cell 1, .inr hk2n⟩
          have hset : setOf p z = none := by
            rcases hzr with h | h
            · exact setOf_neg p h
            · exact setOf_over p (by have := HN.out; omega)
          have hzl : Hid (∀ x ∈ gl, x ≠ z) := fun x hx => by have := HIN.out x hx; omega
          obtain ⟨x, hxd, hxe⟩ := tmod_natW at0 (d + 1) (by omega)
          have hxe' : (at0 : Int).tmod ((d : Int) + 1) = (x : Int) := by rw [← hxe]; simp
          obtain ⟨bad, hbad⟩ : ∃ bad, bad = gl.take x ++ z :: gl.drop x := ⟨_, rfl⟩
          have hzb : z ∈ bad := by rw [hbad]; simp
          have hbl : bad.length ≤ 1000000 := by rw [hbad, insert_len _ _ _ (by rw [hgd.out]; omega), hgd.out]; omega
          have CT : Hid (∀ v W, IsAl W w1.heap.size (.pointer (some ⟨ba, 0, none⟩)) p → IsSl encZ W v bad → Calls Try.prog 35 #[.pointer (some ⟨ba, 0, none⟩), v] W fun e w' => e = .returned (.tuple #[.agg #[.int .u64 0, .int .u64 0, .int .u64 0, .int .u64 0], .int .i64 2]) ∧ Below W.heap.size W w') := fun v W h h' => by
            have := together_any _ _ p v bad W h h' hbl
            have e : togetherOf p bad = (0, 2) := by
              unfold togetherOf
              rw [hps.out, if_neg (by decide), if_neg]
              rw [Bool.not_eq_true, List.all_eq_false]
              exact ⟨z, hzb, by rw [hset]; simp⟩
            rw [e] at this
            exact this.mono fun _ _ ⟨he, hx⟩ => ⟨he, hx.below⟩
          have CBy : Hid (∀ v W, IsAl W w1.heap.size (.pointer (some ⟨ba, 0, none⟩)) p → IsSl encZ W v bad → Calls Try.prog 16 #[.pointer (some ⟨ba, 0, none⟩), v] W fun e w' => ∃ a c, e = .returned (.tuple #[.slice a 0 c, .int .i64 2]) ∧ Below W.heap.size W w') := fun v W h h' => by
            have := alphBytes_any _ _ p v bad W h h' hbl
            have e : bytesOfL p bad = ([], 2) := by
              unfold bytesOfL
              rw [hps.out, if_neg (by decide), if_neg]
              rw [Bool.not_eq_true, List.all_eq_false]
              exact ⟨z, hzb, by unfold leastOf; rw [hset]; simp⟩
            rw [e] at this
            exact this.mono fun _ _ ⟨u, he, ho, hx⟩ => by
              obtain ⟨a, c, rfl⟩ := ownsRow_form ho
              exact ⟨a, c, he, hx⟩
          have CSe : Hid (∀ W, IsAl W w1.heap.size (.pointer (some ⟨ba, 0, none⟩)) p → Calls Try.prog 19 #[.pointer (some ⟨ba, 0, none⟩), .int .i64 z] W fun e w' => e = .returned (.tuple #[.agg #[.int .u64 0, .int .u64 0, .int .u64 0, .int .u64 0], .bool false]) ∧ Below W.heap.size W w') := fun W h => by
            have := set_any _ _ p z W h
            rw [hset] at this
            exact this.mono fun _ _ ⟨he, hx⟩ => ⟨he, hx.below⟩
          have CLe : Hid (∀ W, IsAl W w1.heap.size (.pointer (some ⟨ba, 0, none⟩)) p → Calls Try.prog 36 #[.pointer (some ⟨ba, 0, none⟩), .int .i64 z] W fun e w' => e = .returned (.tuple #[.int .u8 0, .bool false]) ∧ Below W.heap.size W w') := fun W h => by
            have := least_any _ _ p z W h
            unfold leastOf at this
            rw [hset] at this
            exact this.mono fun _ _ ⟨he, hx⟩ => ⟨he, hx.below⟩
          have HBAD := Lib.hid hbad
          have hji : (j : Int) < 2 := by omega
          have hd1 : (d : Int) + 1 ≠ 0 := by omega
          have e1 : IntKind.i64.wrap (at0 : Int) = (at0 : Int) := IntWalk.i64_in _ (by omega)
          have e2 : IntKind.i64.wrap ((d : Int) + 1) = (d : Int) + 1 := IntWalk.i64_in _ (by omega)
          have e3 : IntKind.i64.wrap (x : Int) = (x : Int) := IntWalk.i64_in _ (by omega)
          clear hset hxe hzb hbl hbad hzr
          go_wp2
          clear hz
          refine wp_region_reg false (fun _ => False) (by kernel_rfl) 10 [0, 1, 0, 4, 0, 16, 48, 124, 0, 256, 1023, 2047] (fun i => i == 1 || i == 9) (by kernel_rfl) (fun i => if i = 1 then Eff.own wl.heap.size 3 1 d (gl.map encZ) else if i = 9 then Eff.box 1 #[encZ z] 3 else Eff.any _) ?_
          intro C hC hne
          have HC := Lib.hid hC
          clear hC
          repeat (refine regStep (fun K hK => ?_); first | (refine regN rfl ?_; try go_simp; refine hK _ _ ?_; clear hK K) | (refine regF rfl rfl ?_; unfold floatAt; go_simp; refine hK _ _ ?_; clear hK K))
          refine regStep (fun K hK => ?_)
          refine regE rfl rfl (Eff.own wl.heap.size 3 1 d (gl.map encZ)) rfl (fun W hW hN => ?_) (fun v hv => ?_)
          · have hM := (HC.out W).1 hW
            clear hW
            go_simp
            refine effT_call ((cloneInts_any _ gl _ (ownsRow_sl ((C1.out.step hM.below).own 1 rfl) hgd.out.symm) (by rw [hgd.out]; omega)).mono ?_)
            rintro e w2 ⟨u, rfl, ho, hx⟩
            exact ⟨_, rfl, Move.of_below hx, (by obtain ⟨a, c, rfl⟩ := ownsRow_form ho; exact ⟨a, c, by rw [hgd.out]⟩), (by have := ownsRow_base ho hM.size; rw [hgd.out] at this; exact this)⟩
          obtain ⟨ac, cc, rfl⟩ := hv
          go_simp
          refine hK _ _ ?_
          clear hK K
          repeat (refine regStep (fun K hK => ?_); first | (refine regN rfl ?_; try go_simp; refine hK _ _ ?_; clear hK K) | (refine regF rfl rfl ?_; unfold floatAt; go_simp; refine hK _ _ ?_; clear hK K))
          refine regStep (fun K hK => ?_)
          refine regE rfl rfl (Eff.box 1 #[encZ z] 3) rfl (fun W hW hN => ?_) (fun v hv => ?_)
          · clear hW hN hK K
            go_simp
            exact ⟨Move.ext ((Ext.refl _).alloc _), ⟨_, rfl⟩, fun b hb => by cases hb; exact Blk.new _ _ _⟩
          obtain ⟨bx, rfl⟩ := hv
          go_simp
          refine hK _ _ ?_
          clear hK K
          refine regNil (fun w5 hW hH => ?_)
          have hM := (HC.out w5).1 hW
          have HBX : Hid (Blk w5 bx #[encZ z] 3) := hH _ (List.mem_cons_self ..) bx rfl
          have HOW : Hid (w5.ownsRow wl.heap.size 3 1 (.slice ac d cc) d (gl.map encZ)) := hH _ (List.mem_cons_of_mem _ (List.mem_cons_self ..))
          have hB5 := Lib.hid hM.below
          clear hM hW hH HC hne hxe' e1 e2 e3 hd1
          go_wp2_with fail
          refine (insert_any wl.heap.size ac d cc x gl z bx _ HOW.out HBX.out hzl.out (by omega) (by omega)).mono ?_
          rintro e w6 ⟨ub, rfl, hbd, hkp⟩
          rw [← HBAD.out] at hbd
          have hx : Below wl.heap.size wl w6 := hB5.out.trans (hkp.mono fun y hy => ⟨Nat.lt_of_lt_of_le hy hB5.out.size, fun e => by have := (HOW.out.lt y e).1; omega⟩ : Keeps (· < wl.heap.size) w5 w6).below
          have C2 := Lib.hid ((C1.out.step hx).cons (s := Sp.sl encZ ub bad) hbd)
          clear hx hbd hkp HBX HOW hB5
          -- 0 bad, 1 since V0, 2 own, 3 blk nb, 4 since w2, 5 al, 6 since w
          go_wp2_with fail
          refine (CT.out _ _ (C2.out.al 5 rfl) (C2.out.sl 0 rfl)).mono ?_
          rintro e w7 ⟨rfl, hx⟩
          have C3 := Lib.hid (C2.out.step hx)
          clear hx
          go_wp2_with fail
          refine calls_named ?_
          intro V1 hV
          have hx : Below w7.heap.size w7 V1 := by rw [hV]; exact ((Ext.refl _).alloc _).below
          have hZ : Blk V1 w7.heap.size #[.int .u64 0, .int .u64 0, .int .u64 0, .int .u64 0] 25 := by rw [hV]; exact Blk.new _ _ _
          have C4 := Lib.hid ((C3.out.step hx).cons (s := Sp.blk w7.heap.size #[.int .u64 0, .int .u64 0, .int .u64 0, .int .u64 0] 25) hZ)
          clear hx hZ hV
          -- 0 blk s, 1 bad, 2 since V0, .. 6 al
          refine (CBy.out _ _ (C4.out.al 6 rfl) (C4.out.sl 1 rfl)).mono ?_
          rintro e w8 ⟨ax, cx, rfl, hx⟩
          have C5 := Lib.hid (C4.out.step hx)
          clear hx
          go_wp2_with fail
          refine (CSe.out _ (C5.out.al 6 rfl)).mono ?_
          rintro e w9 ⟨rfl, hx⟩
          have C6 := Lib.hid (C5.out.step hx)
          clear hx
          go_wp2_with fail
          refine calls_named ?_
          intro V2 hV
          have hx : Below w9.heap.size w9 V2 := by rw [hV]; exact ((Ext.refl _).alloc _).below
          have hZ : Blk V2 w9.heap.size #[.int .u64 0, .int .u64 0, .int .u64 0, .int .u64 0] 25 := by rw [hV]; exact Blk.new _ _ _
          have C7 := Lib.hid ((C6.out.step hx).cons (s := Sp.blk w9.heap.size #[.int .u64 0, .int .u64 0, .int .u64 0, .int .u64 0] 25) hZ)
          clear hx hZ hV
          -- 0 blk t, 1 blk s, 2 bad, 3 since V0, .. 7 al
          refine (CLe.out _ (C7.out.al 7 rfl)).mono ?_
          rintro e w10 ⟨rfl, hx⟩
          have C8 := Lib.hid (C7.out.step hx)
          clear hx
          have q0 : w10.cell? ⟨w7.heap.size, 0, none⟩ = some (.int .u64 0) := (C8.out.blk 1 rfl).cell 0
          have q1 : w10.cell? ⟨w7.heap.size, 1, none⟩ = some (.int .u64 0) := (C8.out.blk 1 rfl).cell 1
          have q2 : w10.cell? ⟨w7.heap.size, 2, none⟩ = some (.int .u64 0) := (C8.out.blk 1 rfl).cell 2
          have q3 : w10.cell? ⟨w7.heap.size, 3, none⟩ = some (.int .u64 0) := (C8.out.blk 1 rfl).cell 3
          have r0 : w10.cell? ⟨w9.heap.size, 0, none⟩ = some (.int .u64 0) := (C8.out.blk 0 rfl).cell 0
          have r1 : w10.cell? ⟨w9.heap.size, 1, none⟩ = some (.int .u64 0) := (C8.out.blk 0 rfl).cell 1
          have r2 : w10.cell? ⟨w9.heap.size, 2, none⟩ = some (.int .u64 0) := (C8.out.blk 0 rfl).cell 2
          have r3 : w10.cell? ⟨w9.heap.size, 3, none⟩ = some (.int .u64 0) := (C8.out.blk 0 rfl).cell 3
          have heq := set_equal_zero
          go_wp2
          exact ⟨⟨j + 1, by omega, by go_num, C8.out.since 3 rfl⟩, by simp [intOf]; omega⟩
        · have hj2' : 2 ≤ j := by omega
          obtain ⟨yb, hyb⟩ : ∃ yb : List Nat, bytesOfL p gl = (yb, 0) ∧ yb.length = d ∧ ∀ c ∈ yb, c < 256 := by
            refine ⟨gl.map fun k => (leastOf p k).1, ?_, by rw [List.length_map]; exact hgd.out, fun c hc => ?_⟩
            · unfold bytesOfL
              rw [hps.out, if_neg (by decide), if_pos]
              rw [List.all_eq_true]
              exact fun x hx => (HSO.out x hx).1
            · obtain ⟨x, hx, rfl⟩ := List.mem_map.1 hc
              exact (HSO.out x hx).2
          obtain ⟨hy1, hy2, hy3⟩ := hyb
          have CG : Hid (∀ v W, IsAl W w1.heap.size (.pointer (some ⟨ba, 0, none⟩)) p → IsSl encZ W v gl → Calls Try.prog 16 #[.pointer (some ⟨ba, 0, none⟩), v] W fun e w' => ∃ a c, e = .returned (.tuple #[.slice a d c, .int .i64 0]) ∧ IsSl encB w' (.slice a d c) yb ∧ Below W.heap.size W w') := fun v W h h' => by
            have := alphBytes_any _ _ p v gl W h h' (by rw [hgd.out]; omega)
            rw [hy1] at this
            exact this.mono fun _ _ ⟨u, he, ho, hx⟩ => by
              obtain ⟨a, c, rfl⟩ := ownsRow_form ho
              have hs := ownsRow_sl ho rfl
              rw [show (yb, 0).1.length = d from hy2] at he hs
              exact ⟨a, c, he, hs, hx⟩
          have CC : Hid (∀ v W, IsSl encB W v yb → Calls Try.prog 48 #[v] W fun e w' => ∃ u, e = .returned u ∧ IsSl encB w' u yb ∧ Below W.heap.size W w') := fun v W h =>
            (cloneBytes_any v yb W h (by omega)).mono fun e w' ⟨u, he, ho, hx⟩ => ⟨u, he, ownsRow_sl ho rfl, hx⟩
          have CEq : Hid (∀ v v' W, IsSl encB W v yb → IsSl encB W v' yb → Calls Try.prog 47 #[v, v'] W fun e w' => e = .returned (.bool true) ∧ w' = W) := fun v v' W h h' =>
            (bytesEq_any v v' _ _ W h h' hy3 hy3).mono fun e w' ⟨he, hw⟩ => ⟨by rw [he, show (yb == yb) = true from by simp], hw⟩
          clear hy1 hy2 hy3
          go_wp2_with fail
          refine (CG.out _ _ (C1.out.al 4 rfl) (ownsRow_sl (C1.out.own 1 rfl) hgd.out.symm)).mono ?_
          rintro e w5 ⟨au, cu, rfl, hs, hx⟩
          have C2 := Lib.hid ((C1.out.step hx).cons (s := Sp.sl encB (.slice au d cu) yb) hs)
          clear hs hx
          go_wp2_with fail
          refine (CC.out _ _ (C2.out.sl 0 rfl)).mono ?_
          rintro e w6 ⟨u2, rfl, hs, hx⟩
          have C3 := Lib.hid ((C2.out.step hx).cons (s := Sp.sl encB u2 yb) hs)
          clear hs hx
          go_wp2_with fail
          refine (CEq.out _ _ _ (C3.out.sl 1 rfl) (C3.out.sl 0 rfl)).mono ?_
          rintro e w' ⟨rfl, hw⟩
          replace hw := hw.symm
          subst hw
          go_wp2
          go_ret
          exact ⟨rfl, C3.out.since 7 rfl⟩
end Go.Proofs.Ytokkgbcjjaiaeaa
