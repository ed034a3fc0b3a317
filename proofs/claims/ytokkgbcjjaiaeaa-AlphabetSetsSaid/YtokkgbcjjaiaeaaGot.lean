/-
  The function that AlphabetSets writes down: a list of classes, sorted and compacted, and their union.
-/
import Derived.Test.YtokkgbcjjaiaeaaPlain7
import Derived.Test.YtokkgbcjjaiaeaaBag
import Derived.Test.YtokkgbcjjaiaeaaReg3
import Derived.Test.YtokkgbcjjaiaeaaRefA
import Derived.Test.YtokkgbcjjaiaeaaWrong1
namespace Go.Proofs.Ytokkgbcjjaiaeaa
open Go Go.RowKit Go.Shelf Go.Maps
attribute [local go_sem] encS

/-- All but block b stays; b is written, if at all, with x. -/
structure MoveB (b : Nat) (t : TypeId) (x : Array Value) (W W' : World) : Prop where
  mv : Move false (· = b) W W'
  old : (∃ c, Blk W b c t ∧ c.size = x.size) → ∃ c, Blk W' b c t ∧ c.size = x.size
  new : Blk W b x t → Blk W' b x t
theorem MoveB.trans {b : Nat} {t : TypeId} {x : Array Value} {A B C : World} (h : MoveB b t x A B) (k : MoveB b t x B C) : MoveB b t x A C := ⟨h.mv.trans k.mv, fun hb => k.old (h.old hb), fun hb => k.new (h.new hb)⟩
theorem MoveB.below {b : Nat} {t : TypeId} {x : Array Value} {W W' : World} (h : Below W.heap.size W W') : MoveB b t x W W' :=
  ⟨((Move.of_below h : Move false (fun _ => False) W W').mono fun _ h => False.elim h), fun ⟨d, hc, hs⟩ => ⟨d, hc.below h hc.lt, hs⟩, fun hc => hc.below h hc.lt⟩
theorem MoveB.drew (b : Nat) (t : TypeId) (x : Array Value) (w : World) : MoveB b t x w w.drew := .below (Ext.refl w).drew.below
theorem MoveB.store {b : Nat} {t : TypeId} {x : Array Value} {W W' : World} (h : Move false (· = b) W W') (hn : Blk W' b x t) : MoveB b t x W W' := ⟨h, fun _ => ⟨x, hn, rfl⟩, fun _ => hn⟩
theorem MoveB.keeps {b : Nat} {t : TypeId} {x : Array Value} {W W' : World} (h : MoveB b t x W W') : Keeps (fun k => k < W.heap.size ∧ ¬ k = b) W W' := h.mv.keeps
def Eff.wrote (b : Nat) (t : TypeId) (x : Array Value) : Eff (MoveB b t x) := ⟨fun _ => True, fun _ W => Blk W b x t, undef, trivial, fun _ _ _ hm _ h => hm.new h⟩

set_option maxRecDepth 100000 in
set_option maxHeartbeats 16000000 in
theorem got_any (p : List BS) (R : Nat → Nat → Prop) (hp : IsPart p R) (base ba g9 : Nat) (v1 : Value) (b0 : List Nat) (w : World) (hA : IsAl w base (.pointer (some ⟨ba, 0, none⟩)) p) (h9 : Blk w g9 #[.pointer (some ⟨ba, 0, none⟩)] 31) (h1 : IsSl encB w v1 b0) (hb : ∀ c ∈ b0, c < 256) (hn1 : b0.length ≤ 9223372036854775807) (hp1 : 1 ≤ p.length) (hp64 : p.length ≤ 64) :
    Calls Try.prog 49 #[v1, .pointer (some ⟨g9, 0, none⟩)] w fun e w' => ∃ (u : Value) (K : List Nat) (s : BS), e = .returned (.tuple #[u, .agg (encS s), .bool true]) ∧ IsSl encZ w' u (K.map Int.ofNat) ∧ Uni p (fun k => K.contains k) s ∧ K.length ≤ 64 ∧ Below w.heap.size w w' := by
  obtain ⟨i0, hi, hz0, hz1, hz2⟩ := info_parts Try.infoI
  obtain ⟨a1, c1, rfl⟩ := h1.form
  have hcb := h1.cap
  have HT := Lib.hid h1.take
  obtain ⟨m0, hm0⟩ : ∃ n, n = b0.length := ⟨_, rfl⟩
  rw [← hm0] at h1 hcb HT hn1 ⊢
  obtain ⟨k, hk, hkm, hk50⟩ : ∃ k : Nat, min (m0 : Int) 50 = k ∧ k ≤ m0 ∧ k ≤ 50 := by
    by_cases h6 : m0 ≤ 50
    · exact ⟨m0, by omega, by omega, by omega⟩
    · exact ⟨50, by omega, by omega, by omega⟩
  have HSB := Lib.hid (HT.out k hkm)
  have hkc : k ≤ c1 := by omega
  obtain ⟨bs, hbs⟩ : ∃ bs, bs = b0.take k := ⟨_, rfl⟩
  have HBL := Lib.hid (show bs.length = k by rw [hbs, List.length_take]; omega)
  have H256k : Hid (∀ c ∈ bs, c < 256) := fun c hc => hb c (by rw [hbs] at hc; exact List.mem_of_mem_take hc)
  rw [← hbs] at HSB
  obtain ⟨n, hn⟩ : ∃ n, n = p.length := ⟨_, rfl⟩
  rw [← hn] at hp1 hp64
  have HN := Lib.hid hn
  have HP := Lib.hid hp
  have CL : Hid (∀ W, IsAl W base (.pointer (some ⟨ba, 0, none⟩)) p → Calls Try.prog 28 #[.pointer (some ⟨ba, 0, none⟩)] W fun e w' => e = .returned (.int .i64 n) ∧ w' = W) := fun W h => by rw [HN.out]; exact len_any _ _ p _ h
  have B0 := Lib.hid (((((Bag.nil w).cons (s := Sp.sl encB (.slice a1 k c1) bs) HSB.out).cons (s := Sp.al base (.pointer (some ⟨ba, 0, none⟩)) p) hA).cons (s := Sp.blk g9 #[.pointer (some ⟨ba, 0, none⟩)] 31) h9).cons (s := Sp.since w) (Below.refl _ _))
  -- 0 since w, 1 blk g9, 2 al, 3 bytes
  clear h1 hb hm0 HT hbs hA h9 HSB hn hp hkm hn1
  go_enter Try.func49, Try.ntmps49
  go_wp2
  clear hk
  refine wp_named ?_
  intro V0 hV0
  have hx : Below w.heap.size w V0 := by rw [hV0]; exact ((Ext.refl _).alloc _).below
  have h4 : Blk V0 w.heap.size (encS 0) 25 := by rw [hV0]; exact Blk.new _ _ _
  obtain ⟨b4, hb4, hb4'⟩ : ∃ b, b = w.heap.size ∧ b < V0.heap.size := ⟨_, rfl, by rw [hV0]; simp⟩
  rw [← hb4] at h4 ⊢
  have B1 := Lib.hid ((B0.out.step hx).cons (s := Sp.blk b4 (encS 0) 25) h4)
  -- 0 blk b4, 1 since w, 2 blk g9, 3 al, 4 bytes
  have HB4 := Lib.hid hb4
  clear hx h4 hV0 B0 hb4
  obtain ⟨gn, hgn⟩ : ∃ gn : List Nat, gn = bs.map fun c : Nat => c % n := ⟨_, rfl⟩
  obtain ⟨gl, hgl⟩ : ∃ gl : List Int, gl = gn.map Int.ofNat := ⟨_, rfl⟩
  have HGN := Lib.hid hgn
  have HGL := Lib.hid hgl
  clear hgl hgn
  go_loopw [19, 6] (fun i u wr => ∃ d : Nat, d ≤ k ∧ i = .int .i64 d ∧ wr.ownsRow V0.heap.size 3 1 u d ((gl.take d).map encZ) ∧ Below V0.heap.size V0 wr) (fun i _ _ => k - (intOf i).toNat)
  case atStart => exact ⟨0, by omega, rfl, World.ownsRow_nil _ _ _ _, Below.refl _ _⟩
  case round =>
    obtain ⟨d, hd, rfl, ho, hx⟩ := hrel
    obtain ⟨wo, rfl⟩ : ∃ wo : World, wo = wr := ⟨_, rfl⟩
    have B3 := Lib.hid ((B1.out.step hx).cons (s := Sp.since V0) hx)
    obtain ⟨ag, cg, rfl⟩ := ownsRow_form ho
    have HO := Lib.hid ho
    clear ho hx
    -- 0 since V0, 1 blk b4, 2 since w, 3 blk g9, 4 al, 5 bytes
    by_cases hlt : d < k
    · obtain ⟨c, hc⟩ : ∃ c, bs[d]? = some c := ⟨_, List.getElem?_eq_getElem (by have := HBL.out; omega)⟩
      have hc256 := H256k.out c (List.mem_of_getElem? hc)
      obtain ⟨g, off, rfl, hg, hcell⟩ := (B3.out.sl 5 rfl).elem hc
      have c0 : wo.cell? ⟨g, off + d, none⟩ = some (.int .u8 c) := hcell
      have c9 : wo.cell? ⟨g9, 0, none⟩ = some (.pointer (some ⟨ba, 0, none⟩)) := (B3.out.blk 3 rfl).cell 0
      have HTK := Lib.hid (show gl.take (d + 1) = gl.take d ++ [(c : Int) % (n : Int)] by rw [List.take_add_one, HGL.out, HGN.out, List.getElem?_map, List.getElem?_map, hc]; rfl)
      have hdi : (d : Int) < k := by omega
      have hwc : IntKind.i64.wrap (c : Int) = (c : Int) := IntWalk.i64_in _ (by omega)
      have hpi : 1 ≤ (n : Int) := by omega
      have hsz : V0.heap.size ≤ wo.heap.size := (B3.out.since 0 rfl).size
      clear hc hcell hg
      go_wp2_with (first | (go_at_call 28; refine (CL.out _ (B3.out.al 4 rfl)).mono ?_; rintro e w' ⟨rfl, hw⟩; replace hw := hw.symm; subst hw) | (at_builtin; refine wpList_append_own_at _ rfl _ _ 26 rfl V0.heap.size 3 i0 (.int .i64 0) 1 8 Try.underlying26 hi hz0 hz1 hz2 rfl (by decide) _ _ _ rfl (HO.out.alloc _) ⟨_, 0, none⟩ 1 1 [encZ ((c : Int) % (n : Int))] rfl rfl (cell_one_new _ _ _) (by simp [Value.oneCell', encZ]) (by unfold maxLen; omega) (by omega) (by simp; omega) ?_; intro v' w3 hown' hgrow hh hat; have HO3 := Lib.hid hown'; have HG := Lib.hid hgrow; clear hown' hgrow hh hat))
      exact ⟨⟨d + 1, by omega, by go_num, by rw [HTK.out, List.map_append]; exact HO3.out, ((B3.out.since 0 rfl).alloc hsz _).grown HG.out (by simp; omega) (fun c e => (HO.out.lt c e).1)⟩, by simp [intOf]; omega⟩
    · obtain rfl : d = k := by omega
      have hgd : Hid (gl.length = d) := Lib.hid (by rw [HGL.out, HGN.out, List.length_map, List.length_map]; exact HBL.out)
      have htk : gl.take d = gl := List.take_of_length_le (by rw [hgd.out]; exact Nat.le_refl _)
      rw [htk] at HO
      clear htk
      have HIN : Hid (∀ x ∈ gn, x < p.length) := fun x hx => by
        rw [HGN.out] at hx
        obtain ⟨c, _, rfl⟩ := List.mem_map.1 hx
        rw [← HN.out]; exact Nat.mod_lt _ (by omega)
      obtain ⟨s, hs⟩ : ∃ s, s = orOf p gl := ⟨_, rfl⟩
      have HTG : Hid (togetherOf p gl = (s, 0)) := Lib.hid (by rw [hs, HGL.out]; exact HP.out.together HIN.out)
      obtain ⟨K, hK⟩ : ∃ K, K = (List.range p.length).filter fun k => gn.contains k := ⟨_, rfl⟩
      have HU : Hid (Uni p (fun k => gn.contains k) s) := Lib.hid (by rw [hs, HGL.out]; exact HP.out.uni_or HIN.out)
      have HKC : Hid (classesOf p s = (K, 0)) := Lib.hid (by rw [HP.out.uni_classes HU.out, hK])
      have HKS : Hid (Lib.compact (sortZ gl) = K.map Int.ofNat) := Lib.hid (by rw [HGL.out, hK]; exact compact_sort HIN.out)
      have HKL : Hid (K.length ≤ 64) := Lib.hid (by rw [hK]; have := List.length_filter_le (fun k => gn.contains k) (List.range p.length); rw [List.length_range] at this; have := HN.out; omega)
      have HUK : Hid (Uni p (fun k => K.contains k) s) := fun c hc => by
        rw [HU.out c hc, Bool.eq_iff_iff, List.contains_iff_mem, List.contains_iff_mem, hK, List.mem_filter, List.mem_range, List.contains_iff_mem]
        exact ⟨fun h => ⟨HIN.out _ h, h⟩, fun h => h.2⟩
      clear hs hK HU
      have c9 : wo.cell? ⟨g9, 0, none⟩ = some (.pointer (some ⟨ba, 0, none⟩)) := (B3.out.blk 3 rfl).cell 0
      have CT : Hid (∀ v W, IsAl W base (.pointer (some ⟨ba, 0, none⟩)) p → IsSl encZ W v gl → Calls Try.prog 35 #[.pointer (some ⟨ba, 0, none⟩), v] W fun e w' => e = .returned (.tuple #[.agg (encS s), .int .i64 0]) ∧ Below W.heap.size W w') := fun v W h h' => by
        have := together_any _ _ p v gl W h h' (by rw [hgd.out]; omega)
        rw [HTG.out] at this
        exact this.mono fun _ _ ⟨he, hx⟩ => ⟨he, hx.below⟩
      have CK : Hid (∀ W, IsAl W base (.pointer (some ⟨ba, 0, none⟩)) p → Calls Try.prog 34 #[.pointer (some ⟨ba, 0, none⟩), .agg (encS s)] W fun e w' => ∃ u, e = .returned (.tuple #[u, .int .i64 0]) ∧ w'.ownsRow W.heap.size 3 1 u (K.map Int.ofNat).length ((K.map Int.ofNat).map encZ) ∧ Below W.heap.size W w') := fun W h => by
        have := classes_any _ _ p s W h
        rw [HKC.out] at this
        refine this.mono fun _ _ ⟨u, he, ho, hx⟩ => ⟨u, he, ?_, hx⟩
        have hm : (K.map Int.ofNat).map encZ = K.map encN := by rw [List.map_map]; rfl
        rw [← hm] at ho
        rw [List.length_map]
        exact ho
      go_wp2_with fail
      refine (CT.out _ _ (B3.out.al 4 rfl) (ownsRow_sl HO.out hgd.out.symm)).mono ?_
      rintro e w5 ⟨rfl, hx⟩
      have C0 := Lib.hid ((B3.out.step hx).cons (s := Sp.own V0.heap.size 3 1 (.slice ag d cg) d (gl.map encZ)) ((Sp.own V0.heap.size 3 1 (.slice ag d cg) d (gl.map encZ)).st _ _ hx HO.out))
      -- 0 own, 1 since V0, 2 blk b4, 3 since w, 4 blk g9, 5 al, 6 bytes
      clear c9 hx HO B3
      go_wp2_with fail
      refine calls_named ?_
      intro V1 hV
      have hx : Below w5.heap.size w5 V1 := by rw [hV]; exact ((Ext.refl _).alloc _).below
      obtain ⟨b9, hb9⟩ : ∃ b, b = w5.heap.size := ⟨_, rfl⟩
      have hZ : Blk V1 b9 (encS s) 25 := by rw [hV, hb9]; exact Blk.new _ _ _
      rw [← hb9]
      have h5 : V0.heap.size ≤ b9 := by rw [hb9]; exact (C0.out.since 1 rfl).size
      have OB : Hid (∀ x, (Value.slice ag d cg).ownBlock = some x → V0.heap.size ≤ x ∧ x < b9) := Lib.hid (by
        rw [hb9]
        exact fun x e => ⟨((C0.out.own 0 rfl).lt x e).1, ((C0.out.own 0 rfl).lt x e).2⟩)
      have h9V : b9 < V1.heap.size := hZ.lt
      clear hb9
      have C1 := Lib.hid ((C0.out.step hx).cons (s := Sp.blk b9 (encS s) 25) hZ)
      clear hx hZ hV C0
      -- 0 blk b9, 1 own, 2 since V0, 3 blk b4, 4 since w, 5 blk g9, 6 al
      refine (sortI_any _ _ _ _ _ (C1.out.own 1 rfl) (by omega)).mono ?_
      rintro e w6 ⟨rfl, ho, hk⟩
      have hxV : Below V0.heap.size V0 w6 := (C1.out.since 2 rfl).trans (hk.mono fun x hx => ⟨Nat.lt_of_lt_of_le hx (C1.out.since 2 rfl).size, fun e => by have := OB.out x e; omega⟩ : Keeps (· < V0.heap.size) V1 w6).below
      have h9 : Blk w6 b9 (encS s) 25 := (C1.out.blk 0 rfl).keeps hk ⟨h9V, fun e => by have := OB.out b9 e; omega⟩
      have D1 := Lib.hid ((((B1.out.step hxV).cons (s := Sp.since V0) hxV).cons (s := Sp.blk b9 (encS s) 25) h9).cons (s := Sp.own V0.heap.size 3 1 (.slice ag d cg) d ((sortZ gl).map encZ)) ho)
      -- 0 own, 1 blk b9, 2 since V0, 3 blk b4, 4 since w, 5 blk g9, 6 al
      clear hxV h9 ho hk C1
      go_wp2_with fail
      refine (compactI_any _ _ _ _ _ (D1.out.own 0 rfl) (by omega)).mono ?_
      rintro e w7 ⟨u, rfl, ho, hk⟩
      have hxV : Below V0.heap.size V0 w7 := (D1.out.since 2 rfl).trans (hk.mono fun x hx => ⟨Nat.lt_of_lt_of_le hx (D1.out.since 2 rfl).size, fun e => by have := OB.out x e; omega⟩ : Keeps (· < V0.heap.size) w6 w7).below
      have h9 : Blk w7 b9 (encS s) 25 := (D1.out.blk 1 rfl).keeps hk ⟨(D1.out.blk 1 rfl).lt, fun e => by have := OB.out b9 e; omega⟩
      rw [HKS.out] at ho
      have E1 := Lib.hid ((((B1.out.step hxV).cons (s := Sp.since V0) hxV).cons (s := Sp.blk b9 (encS s) 25) h9).cons (s := Sp.own V0.heap.size 3 1 u (K.map Int.ofNat).length ((K.map Int.ofNat).map encZ)) ho)
      -- 0 sl u, 1 blk b9, 2 since V0, 3 blk b4, 4 since w, 5 blk g9, 6 al
      have c9 : w7.cell? ⟨g9, 0, none⟩ = some (.pointer (some ⟨ba, 0, none⟩)) := (E1.out.blk 5 rfl).cell 0
      obtain ⟨k0, k1, k2, k3⟩ := (E1.out.blk 1 rfl : Blk w7 b9 (encS s) 25).set4
      clear hxV h9 ho hk D1
      go_wp2_with fail
      refine (CK.out _ (E1.out.al 6 rfl)).mono ?_
      rintro e w8 ⟨u2, rfl, hs2, hx⟩
      have F1 := Lib.hid ((E1.out.step hx).cons (s := Sp.own V0.heap.size 3 1 u2 (K.map Int.ofNat).length ((K.map Int.ofNat).map encZ)) (ownsRow_base hs2 (E1.out.since 2 rfl).size))
      -- 0 sl u2, 1 sl u, 2 blk b9, 3 since V0, 4 blk b4, 5 since w
      clear c9 k0 k1 k2 k3 hx hs2 E1
      have F4 := F1.out.blk 4 rfl
      have F9 := F1.out.blk 2 rfl
      have hne : b9 ≠ b4 := by omega
      have hF4 : ∃ c, Blk w8 b4 c 25 ∧ c.size = (encS s).size := ⟨_, F4, rfl⟩
      have HF4 := Lib.hid hF4
      have HF9 := Lib.hid F9
      have HO1 : Hid (∀ W, Keeps (fun k => k < w8.heap.size ∧ ¬ k = b4) w8 W → IsSl encZ W u (K.map Int.ofNat)) := fun W hk => ownsRow_sl (ownsRow_keeps (F1.out.own 1 rfl) hk fun k e => ⟨((F1.out.own 1 rfl).lt k e).2, by have := ((F1.out.own 1 rfl).lt k e).1; omega⟩) rfl
      have HO2 : Hid (∀ W, Keeps (fun k => k < w8.heap.size ∧ ¬ k = b4) w8 W → IsSl encZ W u2 (K.map Int.ofNat)) := fun W hk => ownsRow_sl (ownsRow_keeps (F1.out.own 0 rfl) hk fun k e => ⟨((F1.out.own 0 rfl).lt k e).2, by have := ((F1.out.own 0 rfl).lt k e).1; omega⟩) rfl
      have HSW : Hid (∀ W, Keeps (fun k => k < w8.heap.size ∧ ¬ k = b4) w8 W → Below w.heap.size w W) := fun W hk => ((F1.out.since 5 rfl).trans (hk.mono fun x hx => ⟨Nat.lt_of_lt_of_le hx (F1.out.since 5 rfl).size, fun e => by have := HB4.out; omega⟩ : Keeps (· < w.heap.size) w8 W).below)
      have hEq : ∀ W, IsSl encZ W u2 (K.map Int.ofNat) → IsSl encZ W u (K.map Int.ofNat) → Calls Try.prog 17 #[u2, u] W fun e w' => e = .returned (.bool true) ∧ Below W.heap.size W w' := fun W h h' =>
        (slEqual_any _ _ _ _ W h h' (by rw [List.length_map]; have := HKL.out; omega)).mono fun e w' ⟨he, hx⟩ => ⟨by rw [he, beq_self_eq_true], hx.below⟩
      have CE := Lib.hid hEq
      clear F4 F9 hF4 F1 hEq HKS HTG CK CT HKC HGN HGL hgd HIN
      go_wp2
      refine wp_region_regM (MoveB b4 25 (encS s)) (MoveB.drew _ _ _ _) (fun _ _ _ h k => h.trans k) (by kernel_rfl) 13 [0, 0, 0, 0, 12, 28, 60, 124, 124, 508, 1020, 1021, 3071, 8191] (fun i => i == 9 || i == 12) (by kernel_rfl) (fun i => if i = 9 then Eff.det _ (.bool true) else if i = 12 then Eff.wrote b4 25 (encS s) else Eff.any _) ?_
      intro C hC _
      have HC := Lib.hid hC
      have kk : ∀ W : { W // C W }, Blk W.1 b9 (encS s) 25 := fun W => HF9.out.keeps ((hC W.1).1 W.2).keeps ⟨HF9.out.lt, hne⟩
      have k0 : ∀ W : { W // C W }, W.1.cell? ⟨b9, 0, none⟩ = some (.int .u64 (wd s 0).toNat) := fun W => (kk W).set4.1
      have k1 : ∀ W : { W // C W }, W.1.cell? ⟨b9, 1, none⟩ = some (.int .u64 (wd s 1).toNat) := fun W => (kk W).set4.2.1
      have k2 : ∀ W : { W // C W }, W.1.cell? ⟨b9, 2, none⟩ = some (.int .u64 (wd s 2).toNat) := fun W => (kk W).set4.2.2.1
      have k3 : ∀ W : { W // C W }, W.1.cell? ⟨b9, 3, none⟩ = some (.int .u64 (wd s 3).toNat) := fun W => (kk W).set4.2.2.2
      clear hC kk
      repeat (refine regStep (fun K hK => ?_); first | (refine regN rfl ?_; try go_simp; refine hK _ _ ?_; clear hK K) | (refine regF rfl rfl ?_; unfold floatAt; go_simp; refine hK _ _ ?_; clear hK K))
      clear k0 k1 k2 k3
      refine regStep (fun K hK => ?_)
      refine regE rfl rfl (Eff.det _ (.bool true)) rfl (fun W hW hN => ?_) (fun v hv => ?_)
      · have hM := (HC.out W).1 hW
        clear hW
        go_simp
        refine effT_call ((CE.out _ (HO2.out _ hM.keeps) (HO1.out _ hM.keeps)).mono ?_)
        rintro e w2 ⟨rfl, hx⟩
        exact ⟨_, rfl, MoveB.below hx, rfl, trivial⟩
      replace hv : v = _ := hv
      subst hv
      go_simp
      refine hK _ _ ?_
      clear hK K
      repeat (refine regStep (fun K hK => ?_); first | (refine regN rfl ?_; try go_simp; refine hK _ _ ?_; clear hK K) | (refine regF rfl rfl ?_; unfold floatAt; go_simp; refine hK _ _ ?_; clear hK K))
      refine regStep (fun K hK => ?_)
      refine regE rfl rfl (Eff.wrote b4 25 (encS s)) rfl (fun W hW hN => ?_) (fun v hv => ?_)
      · have hM := (HC.out W).1 hW
        obtain ⟨c, hb, hcs⟩ := hM.old HF4.out
        obtain ⟨x0, x1, x2, x3, rfl⟩ : ∃ x0 x1 x2 x3, c = #[x0, x1, x2, x3] := by
          have h4 : c.toList.length = 4 := by rw [Array.length_toList, hcs]; rfl
          match hc : c.toList, h4 with
          | [x0, x1, x2, x3], _ => exact ⟨x0, x1, x2, x3, by rw [← Array.toArray_toList (xs := c), hc]⟩
        have HB := Lib.hid hb
        have y0 : (W.cell? ⟨b4, 0, none⟩) = some x0 := hb.cell 0
        have y1 : (W.cell? ⟨b4, 1, none⟩) = some x1 := hb.cell 1
        have y2 : (W.cell? ⟨b4, 2, none⟩) = some x2 := hb.cell 2
        have y3 : (W.cell? ⟨b4, 3, none⟩) = some x3 := hb.cell 3
        have z0 := hb.frozen 0
        have z1 := hb.frozen 1
        have z2 := hb.frozen 2
        have z3 := hb.frozen 3
        clear hW hN hK K hb hcs hM
        go_simp
        have hb := (((HB.out.set 0 (.int .u64 (wd s 0).toNat)).set 1 (.int .u64 (wd s 1).toNat)).set 2 (.int .u64 (wd s 2).toNat)).set 3 (.int .u64 (wd s 3).toNat)
        have hm : Move false (· = b4) W ((((W.setCell ⟨b4, 0, none⟩ (.int .u64 (wd s 0).toNat)).setCell ⟨b4, 1, none⟩ (.int .u64 (wd s 1).toNat)).setCell ⟨b4, 2, none⟩ (.int .u64 (wd s 2).toNat)).setCell ⟨b4, 3, none⟩ (.int .u64 (wd s 3).toNat)) :=
          ⟨((((Keeps.refl _ _).setCell (p := ⟨b4, 0, none⟩) (fun h => h.2 rfl) _).setCell (p := ⟨b4, 1, none⟩) (fun h => h.2 rfl) _).setCell (p := ⟨b4, 2, none⟩) (fun h => h.2 rfl) _).setCell (p := ⟨b4, 3, none⟩) (fun h => h.2 rfl) _, fun h => by cases h⟩
        exact ⟨MoveB.store hm hb, trivial, hb⟩
      go_simp
      refine hK _ _ ?_
      clear hK K hv
      repeat (refine regStep (fun K hK => ?_); first | (refine regN rfl ?_; try go_simp; refine hK _ _ ?_; clear hK K) | (refine regF rfl rfl ?_; unfold floatAt; go_simp; refine hK _ _ ?_; clear hK K))
      refine regNil (fun w9 hW hH => ?_)
      have hM := (HC.out w9).1 hW
      have H4 : Hid (Blk w9 b4 (encS s) 25) := hH _ (List.mem_cons_self ..)
      have HX := Lib.hid (HSW.out w9 hM.keeps)
      have HS1 := Lib.hid (HO1.out w9 hM.keeps)
      clear hM hW hH HC CE HO1 HO2 HSW HF4 HF9
      go_wp2
      obtain ⟨q0, q1, q2, q3⟩ := (H4.out : Blk w9 b4 (encS s) 25).set4
      have e0 : (IntKind.i64.wrap 0 == 0) = true := by decide
      refine bodyPost_ret (v := .tuple #[u, .agg (encS s), .bool true]) ?_ rfl ⟨u, K, s, rfl, HS1.out, HUK.out, HKL.out, HX.out⟩
      simp [results, Try.results49, go_sem, q0, q1, q2, q3, e0]
end Go.Proofs.Ytokkgbcjjaiaeaa
