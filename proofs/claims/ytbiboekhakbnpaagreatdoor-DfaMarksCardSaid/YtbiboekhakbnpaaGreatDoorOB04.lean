/-
  The walk of sets.Parts.
-/
import Derived.Test.YtbiboekhakbnpaaGreatDoorOB03
import Derived.Test.YtbiboekhakbnpaaGreatDoorOB02
set_option maxRecDepth 100000
set_option maxHeartbeats 16000000
open Go.Lib (hid)
namespace Go.Proofs.YtbiboekhakbnpaaGreatDoor
open Go Go.RowKit Go.Shelf Go.Maps
attribute [local go_sem] encS

def IsSets (w : World) (v : Value) (l : List BS) : Prop :=
 (v = .slice none 0 0 /\ l = []) \/ ∃ b off cap, v = .slice (some ⟨b, off, none⟩) l.length cap /\ b < w.heap.size /\ ∀ i s, l[i]? = some s -> ∀ j, j < 4 -> w.cell? ⟨b, off + i * 4 + j, none⟩ = (encS s)[j]?
theorem IsSets.keeps {w w' : World} {v : Value} {l : List BS} (h : IsSets w v l) {R : Nat -> Prop} (hk : Keeps R w w') (hr : ∀ k, k < w.heap.size -> R k) : IsSets w' v l := by
 rcases h with h | ⟨b, off, cap, hv, hb, h⟩
 ·exact .inl h
 ·exact .inr ⟨b, off, cap, hv, Nat.lt_of_lt_of_le hb hk.size, fun i s hi j hj => (hk.cell (p := ⟨b, off + i * 4 + j, none⟩) (hr b hb)).trans (h i s hi j hj)⟩
theorem IsSets.below {w w' : World} {v : Value} {l : List BS} (h : IsSets w v l) (hk : Below w.heap.size w w') : IsSets w' v l := h.keeps (Keeps.of_below hk fun _ h => h) (fun _ h => h)
theorem ownsRow_sets {w : World} {base : Nat} {v : Value} {l : List BS} (h : w.ownsRow base 70 4 v l.length (flatS l)) : IsSets w v l := by
 rcases h.2 with ⟨h1, h2⟩ | ⟨g, cap, cur, hv, _, hg, hn, _, hs, ht⟩
 ·exact .inl ⟨h1, List.eq_nil_of_length_eq_zero h2⟩
 ·refine .inr ⟨g, 0, cap, hv, (Array.getElem?_eq_some_iff.1 hg).1, fun i s hi j hj => ?_⟩
  have hc : w.cell? ⟨g, 0 + i * 4 + j, none⟩ = cur[0 + i * 4 + j]? := by simp [World.cell?, hg]
  rw [hc, Nat.zero_add, <- flatS_get l hi hj, <- ht]
  have hlt : i < l.length := (List.getElem?_eq_some_iff.1 hi).1
  rw [List.getElem?_take, if_pos (by omega)]
  simp

theorem ownsRow_elem {w : World} {base n : Nat} {v : Value} {l : List BS} (h : w.ownsRow base 70 4 v n (flatS l)) (hn : n = l.length) {i : Nat} {s : BS} (hi : l[i]? = some s) :
  ∃ g cap, v = .slice (some ⟨g, 0, none⟩) n cap /\ base <= g /\ g < w.heap.size /\ ∀ j, j < 4 -> w.cell? ⟨g, i * 4 + j, none⟩ = (encS s)[j]? := by
 have hlt : i < l.length := (List.getElem?_eq_some_iff.1 hi).1
 rcases h.2 with ⟨h1, h2⟩ | ⟨g, cap, cur, hv, hb, hg, _, _, hs, ht⟩
 ·omega
 ·refine ⟨g, cap, hv, hb, (Array.getElem?_eq_some_iff.1 hg).1, fun j hj => ?_⟩
  have hc : w.cell? ⟨g, i * 4 + j, none⟩ = cur[i * 4 + j]? := by simp [World.cell?, hg]
  rw [hc, <- flatS_get l hi hj, <- ht]
  rw [List.getElem?_take, if_pos (by omega)]
  simp

theorem Tryz.infoS : (Tryz.prog.info? 70).map (fun i => (i.zero, i.size, i.bytes)) = some (some (.agg #[.int .u64 0, .int .u64 0, .int .u64 0, .int .u64 0]), 4, 32) := by kernel_rfl

theorem parts_any (l : List BS) (v0 : Value) (w : World) (hl : IsSets w v0 l) (hlen : l.length <= 9223372036854775807) :
  Calls Tryz.prog 50 #[v0] w fun e w' => ∃ v, e = .returned v /\ w'.ownsRow w.heap.size 70 4 v (partsOf l).length (flatS (partsOf l)) /\ Below w.heap.size w w' := by
 obtain ⟨i0, hi, hz0, hz1, hz2⟩ := info_parts Tryz.infoS
 have HA := hid fun W => all_any W
 obtain ⟨ua, hua⟩ : ∃ ua : BS, ua = ~~~0 := ⟨_, rfl⟩
 rw [<- hua] at HA
 have HUA := hid hua
 clear hua
 obtain ⟨n, hn⟩ : ∃ n, n = l.length := ⟨_, rfl⟩
 obtain ⟨ad, cap, hv0⟩ : ∃ ad cap, v0 = .slice ad n cap := by
  rcases hl with ⟨h1, h2⟩ | ⟨b, off, cap, h1, _⟩
  ·exact ⟨none, 0, by rw [h1, hn, h2]; rfl⟩
  ·exact ⟨_, cap, by rw [h1, hn]⟩
 subst hv0
 have HL := hid hl
 have HN := hid hn
 have hn' : n <= 9223372036854775807 := by omega
 clear hl hn hlen
 go_enter Tryz.func50, Tryz.ntmps50
 go_wp2_with (go_at_call 85; refine (HA.out _).mono ?_; rintro e w1 ⟨rfl, hx⟩; have HX1 := hid hx; clear hx)
 refine wp_named ?_
 intro W0 hW0
 have hx0 : Below w.heap.size w W0 := by rw [hW0]; exact (HX1.out.alloc _).below
 have ho0 : W0.ownsRow w.heap.size 70 4 (.slice (some ⟨w1.heap.size, 0, none⟩) 1 1) (partsRaw []).length (flatS (partsRaw [])) := by
  rw [hW0, show partsRaw [] = [ua] from by rw [HUA.out]; rfl]
  exact ⟨rfl, .inr ⟨w1.heap.size, 1, encS ua, rfl, HX1.out.size, World.alloc_heap_new _ _, Nat.le_refl _, by decide, rfl, rfl⟩⟩
 have HX0 := hid hx0
 have HO0 := hid ho0
 clear hx0 ho0 hW0
 go_loopw [15, 3] (fun i v wr => ∃ k : Nat, k <= n /\ i = .int .i64 k /\ wr.ownsRow w.heap.size 70 4 v (partsRaw (l.take k)).length (flatS (partsRaw (l.take k))) /\ Below w.heap.size w wr) (fun i _ _ => n - (intOf i).toNat)
 case atStart => exact ⟨0, by omega, rfl, HO0.out, HX0.out⟩
 case round =>
  obtain ⟨wo, rfl⟩ : ∃ wo : World, wo = wr := ⟨_, rfl⟩
  obtain ⟨k, hk, rfl, ho, hb⟩ := hrel
  obtain ⟨a3, cap3, rfl⟩ := ownsRow_form ho
  have HO := hid ho
  have HB := hid hb
  clear ho hb HO0 HX0
  by_cases hlt : k < n
  ·obtain ⟨b, off, hadr, hbs, s, hs, hcs⟩ : ∃ b off, ad = some ⟨b, off, none⟩ /\ b < w.heap.size /\ ∃ s, l[k]? = some s /\ ∀ j, j < 4 -> w.cell? ⟨b, off + k * 4 + j, none⟩ = (encS s)[j]? := by
    have hkl : k < l.length := by rw [<- HN.out]; exact hlt
    rcases HL.out with ⟨h1, h2⟩ | ⟨b, off, cap', h1, h2, h3⟩
    ·rw [h2] at hkl; simp at hkl
    ·cases h1
     exact ⟨b, off, rfl, h2, l[k], List.getElem?_eq_getElem hkl, h3 k _ (List.getElem?_eq_getElem hkl)⟩
   subst hadr
   have c0 : wo.cell? ⟨b, off + k * 4, none⟩ = some (.int .u64 (wd s 0).toNat) := (HB.out.cell (p := ⟨b, off + k * 4, none⟩) hbs).trans (hcs 0 (by decide))
   have c1 : wo.cell? ⟨b, off + k * 4 + 1, none⟩ = some (.int .u64 (wd s 1).toNat) := (HB.out.cell (p := ⟨b, off + k * 4 + 1, none⟩) hbs).trans (hcs 1 (by decide))
   have c2 : wo.cell? ⟨b, off + k * 4 + 2, none⟩ = some (.int .u64 (wd s 2).toNat) := (HB.out.cell (p := ⟨b, off + k * 4 + 2, none⟩) hbs).trans (hcs 2 (by decide))
   have c3 : wo.cell? ⟨b, off + k * 4 + 3, none⟩ = some (.int .u64 (wd s 3).toNat) := (HB.out.cell (p := ⟨b, off + k * 4 + 3, none⟩) hbs).trans (hcs 3 (by decide))
   have HS := hid hs
   have hP : partsRaw (l.take (k + 1)) = partsStep s (partsRaw (l.take k)) := by rw [List.take_add_one, hs]; exact partsRaw_snoc _ _
   have HP := hid hP
   have HM := hid (partsRaw_len (l.take k))
   clear hs hcs hP
   generalize partsRaw (l.take k) = pk at HO HP HM
   obtain ⟨m, hm⟩ : ∃ m, m = pk.length := ⟨_, rfl⟩
   have hm256 : m <= 256 := by rw [hm]; exact HM.out
   rw [<- hm] at HO ⊢
   have HMM := hid hm
   clear hm HM
   go_wp2
   refine wp_named ?_
   intro W1 hW1
   have hsb : Blk W1 wo.heap.size (encS s) 70 := by rw [hW1]; exact Blk.new _ _ _
   have hb1 : Below wo.heap.size wo W1 := by rw [hW1]; exact ((Ext.refl wo).alloc _).below
   have hz1 : W1.heap.size = wo.heap.size + 1 := by rw [hW1]; simp
   have HO1 := hid (HO.out.alloc (.cells (encS s) 70 (0, 0)))
   have HO1' : Hid (W1.ownsRow w.heap.size 70 4 (.slice a3 m cap3) m (flatS pk)) := by rw [hW1]; exact HO1.out
   have HSB := hid hsb
   have HB1 := hid hb1
   have HZ1 := hid hz1
   clear hsb hb1 hz1 hW1 HO1 c0 c1 c2 c3
   go_loopw [21, 6] (fun i v w2 => ∃ j : Nat, j <= m /\ i = .int .i64 j /\ w2.ownsRow W1.heap.size 70 4 v (partsStep s (pk.take j)).length (flatS (partsStep s (pk.take j))) /\ Below W1.heap.size W1 w2) (fun i _ _ => m - (intOf i).toNat)
   case atStart => exact ⟨0, by omega, rfl, World.ownsRow_nil _ _ _ _, Below.refl _ _⟩
   case round =>
    obtain ⟨j, hj, rfl, ho2, hb2⟩ := hrel
    obtain ⟨a6, cap6, rfl⟩ := ownsRow_form ho2
    obtain ⟨w2, rfl⟩ : ∃ w2 : World, w2 = wr := ⟨_, rfl⟩
    have HO2 := hid ho2
    have HB2 := hid hb2
    clear ho2 hb2
    by_cases hjm : j < m
    ·obtain ⟨g3, ha3, hg3, p, hp, hcp⟩ : ∃ g3, a3 = some ⟨g3, 0, none⟩ /\ g3 < W1.heap.size /\ ∃ p, pk[j]? = some p /\ ∀ i, i < 4 -> W1.cell? ⟨g3, j * 4 + i, none⟩ = (encS p)[i]? := by
      have hjp : j < pk.length := by rw [<- HMM.out]; exact hjm
      obtain ⟨g, cap', h1, _, h2, h3⟩ := ownsRow_elem HO1'.out HMM.out (List.getElem?_eq_getElem hjp)
      cases h1
      exact ⟨_, rfl, h2, pk[j], List.getElem?_eq_getElem hjp, h3⟩
     subst ha3
     have d0 : w2.cell? ⟨g3, j * 4, none⟩ = some (.int .u64 (wd p 0).toNat) := (HB2.out.cell (p := ⟨g3, j * 4, none⟩) hg3).trans (hcp 0 (by decide))
     have d1 : w2.cell? ⟨g3, j * 4 + 1, none⟩ = some (.int .u64 (wd p 1).toNat) := (HB2.out.cell (p := ⟨g3, j * 4 + 1, none⟩) hg3).trans (hcp 1 (by decide))
     have d2 : w2.cell? ⟨g3, j * 4 + 2, none⟩ = some (.int .u64 (wd p 2).toNat) := (HB2.out.cell (p := ⟨g3, j * 4 + 2, none⟩) hg3).trans (hcp 2 (by decide))
     have d3 : w2.cell? ⟨g3, j * 4 + 3, none⟩ = some (.int .u64 (wd p 3).toNat) := (HB2.out.cell (p := ⟨g3, j * 4 + 3, none⟩) hg3).trans (hcp 3 (by decide))
     have hQ : partsStep s (pk.take (j + 1)) = partsStep s (pk.take j) ++ cut s p := by rw [List.take_add_one, hp]; simp [partsStep]
     have HQ := hid hQ
     have HPj := hid hp
     have HAnd := hid fun W => and_any p s W
     have HLess := hid fun W => less_any p s W
     have HCUT : Hid (cut s p = [p &&& s, p &&& ~~~s].filter fun x => !(x == 0)) := rfl
     clear hQ hp hcp
     generalize cut s p = cs at HQ HCUT
     generalize p &&& s = xa at HAnd HCUT
     generalize p &&& ~~~s = xb at HLess HCUT
     go_wp2
     refine wp_named ?_
     intro W2 hW2
     have hpb : Blk W2 w2.heap.size (encS p) 70 := by rw [hW2]; exact Blk.new _ _ _
     have hx2 : Below w2.heap.size w2 W2 := by rw [hW2]; exact ((Ext.refl w2).alloc _).below
     have hsb : Blk W2 wo.heap.size (encS s) 70 := (HSB.out.below HB2.out (by have := HZ1.out; omega)).below hx2 (by have := HZ1.out; have := HB2.out.size; omega)
     have ho2 : W2.ownsRow W1.heap.size 70 4 (.slice a6 (partsStep s (pk.take j)).length cap6) (partsStep s (pk.take j)).length (flatS (partsStep s (pk.take j))) := by rw [hW2]; exact HO2.out.alloc _
     have hz2 : W2.heap.size = w2.heap.size + 1 := by rw [hW2]; simp
     have HX2 := hid hx2
     have HO2' := hid ho2
     have HZ2 := hid hz2
     clear hx2 ho2 hz2 hW2 d0 d1 d2 d3 HO2
     have hsbl : wo.heap.size < W2.heap.size := hsb.lt
     refine wp_region_lexK (fun b => b = w2.heap.size \/ b = wo.heap.size) (by kernel_rfl) (fun i => i == 2 || i == 5 || i == 6) (by kernel_rfl) ?_
     intro C hC hne W3 hK3 hblk hsz hx3
     obtain ⟨a0, a1, a2, a3⟩ := lexSet hC (.inl rfl) hpb
     obtain ⟨b0, b1, b2, b3⟩ := lexSet hC (.inr rfl) hsb
     have HC := hid hC
     have HK3 := hid hK3
     have HX3 := hid hx3
     have HPB := hid hpb
     have HSB2 := hid hsb
     have HS : Hid (∀ b, (b = w2.heap.size \/ b = wo.heap.size) -> b < W2.heap.size) := fun b hb => by have h1 := HPB.out.lt; have h2 := HSB2.out.lt; omega
     clear hC hK3 hx3 hpb hsb hblk hsz hsbl
     repeat (refine wpLex_step (fun K hK => ?_); refine lexOp_float rfl ?_; unfold floatAt; go_simp; refine hK _ _ ?_; clear hK K)
     refine wpLex_step (fun K hK => ?_)
     refine lexOp_eff rfl ?_
     go_simp
     refine effAt_call ((HAnd.out _).mono ?_)
     rintro e w4 ⟨rfl, hx⟩
     have hk4 := Keeps.step HK3.out HS hx
     refine ⟨_, rfl, (HC.out _).2 hk4, hK _ _ ?_⟩
     have HK4 := hid hk4
     have HX4 := hid hx
     clear hK K hk4 hx
     repeat (refine wpLex_step (fun K hK => ?_); refine lexOp_float rfl ?_; unfold floatAt; go_simp; refine hK _ _ ?_; clear hK K)
     refine wpLex_step (fun K hK => ?_)
     refine lexOp_eff rfl ?_
     go_simp
     refine effAt_call ((HLess.out _).mono ?_)
     rintro e w5 ⟨rfl, hx⟩
     have hk5 := Keeps.step HK4.out HS hx
     refine ⟨_, rfl, (HC.out _).2 hk5, hK _ _ ?_⟩
     have HK5 := hid hk5
     have HX5 := hid hx
     clear hK K hk5 hx
     refine wpLex_step (fun K hK => ?_)
     refine lexOp_eff rfl ?_
     go_simp
     refine ⟨(HC.out _).2 (HK5.out.alloc (fun b hb => Nat.lt_of_lt_of_le (HS.out b hb) HK5.out.size) _), hK _ _ ?_⟩
     clear hK K
     repeat (refine wpLex_step (fun K hK => ?_); refine lexOp_float rfl ?_; unfold floatAt; go_simp; refine hK _ _ ?_; clear hK K)
     refine wpLex_nil ?_
     go_wp2
     refine wp_named ?_
     intro W6 hW6
     have hx6 : Below W2.heap.size W2 W6 := by rw [hW6]; exact (((HX3.out.trans HX4.out).trans HX5.out).alloc _).below
     have h31 : Blk W6 w5.heap.size (flatS [xa, xb]).toArray 70 := by rw [hW6]; exact Blk.new _ _ _
     have hz6 : W6.heap.size = w5.heap.size + 1 := by rw [hW6]; simp
     have ho6 : W6.ownsRow W1.heap.size 70 4 (.slice a6 (partsStep s (pk.take j)).length cap6) (partsStep s (pk.take j)).length (flatS (partsStep s (pk.take j))) := ownsRow_keeps HO2'.out (Keeps.of_below hx6 fun _ h => h) (fun k e => (HO2'.out.lt k e).2)
     have h6b : ∀ c, (Value.slice a6 (partsStep s (pk.take j)).length cap6).ownBlock = some c -> c ≠ w5.heap.size := fun c e => by
      have h1 := (HO2'.out.lt c e).2
      have h2 := HX3.out.size; have h3 := HX4.out.size; have h4 := HX5.out.size
      omega
     have HX6 := hid hx6
     have H31 := hid h31
     have HZ6 := hid hz6
     have HO6 := hid ho6
     have H6b := hid h6b
     clear a0 a1 a2 a3 b0 b1 b2 b3 HK3 HK4 HK5 HC HS HX3 HX4 HX5 hx6 h31 hz6 ho6 h6b hW6 hne C HAnd HLess
     go_loopw [33, 6] (fun i v w7 => ∃ q : Nat, q <= 2 /\ i = .int .i64 q /\ w7.ownsRow W1.heap.size 70 4 v (partsStep s (pk.take j) ++ ([xa, xb].take q).filter fun x => !(x == 0)).length (flatS (partsStep s (pk.take j) ++ ([xa, xb].take q).filter fun x => !(x == 0))) /\
       (∀ c, v.ownBlock = some c -> c ≠ w5.heap.size) /\ Blk w7 w5.heap.size (flatS [xa, xb]).toArray 70 /\ Below W1.heap.size W6 w7) (fun i _ _ => 2 - (intOf i).toNat)
     case atStart =>
      refine ⟨0, by omega, rfl, ?_, H6b.out, H31.out, Below.refl _ _⟩
      rw [show ([xa, xb].take 0).filter (fun x => !(x == 0)) = [] from rfl, List.append_nil]
      exact HO6.out
     case round =>
      obtain ⟨w7, rfl⟩ : ∃ w7 : World, w7 = wr := ⟨_, rfl⟩
      obtain ⟨q, hq, rfl, ho7, hnb, h31, hb7⟩ := hrel
      obtain ⟨a7, cap7, rfl⟩ := ownsRow_form ho7
      have HO7 := hid ho7
      have HNB := hid hnb
      have H31' := hid h31
      have HB7 := hid hb7
      clear ho7 hnb h31 hb7
      by_cases hq2 : q < 2
      ·obtain ⟨x, hx⟩ : ∃ x, [xa, xb][q]? = some x := ⟨[xa, xb][q], List.getElem?_eq_getElem hq2⟩
       have ht : [xa, xb].take (q + 1) = [xa, xb].take q ++ [x] := by rw [List.take_add_one, hx]; rfl
       have hcx : ∀ i, i < 4 -> w7.cell? ⟨w5.heap.size, q * 4 + i, none⟩ = (encS x)[i]? := fun i hi => by
        rw [H31'.out.cell]
        have := flatS_get [xa, xb] hx hi
        simpa using this
       have e0 : w7.cell? ⟨w5.heap.size, q * 4, none⟩ = some (.int .u64 (wd x 0).toNat) := hcx 0 (by decide)
       have e1 : w7.cell? ⟨w5.heap.size, q * 4 + 1, none⟩ = some (.int .u64 (wd x 1).toNat) := hcx 1 (by decide)
       have e2 : w7.cell? ⟨w5.heap.size, q * 4 + 2, none⟩ = some (.int .u64 (wd x 2).toNat) := hcx 2 (by decide)
       have e3 : w7.cell? ⟨w5.heap.size, q * 4 + 3, none⟩ = some (.int .u64 (wd x 3).toNat) := hcx 3 (by decide)
       have HT := hid ht
       have HLn := hid (partsStep_len s (pk.take j))
       clear hx ht hcx
       generalize partsStep s (pk.take j) = nj at HO7 HQ HLn HNB ⊢
       by_cases hz : x = 0#256
       ·have he : ∀ W, (Op.equalIn 10000 70 (.agg #[.int .u64 (wd x 0).toNat, .int .u64 (wd x 1).toNat, .int .u64 (wd x 2).toNat, .int .u64 (wd x 3).toNat]) (.agg #[.int .u64 0, .int .u64 0, .int .u64 0, .int .u64 0])).run Tryz.prog W = .ok true W := fun W => by
         have h1 := set_equal x 0 W
         rw [encS_zero, hz] at h1
         rw [hz]
         exact h1
        have hf : ([x].filter fun x => !(x == 0)) = [] := by rw [hz]; rfl
        have HF := hid hf
        clear hz hf
        go_wp2
        go_roundw
        case rel =>
         refine ⟨q + 1, by omega, by go_num, ?_, HNB.out, H31'.out.alloc _, HB7.out.alloc (by have := HB7.out.size; have := HZ6.out; have := HX6.out.size; have := HX2.out.size; have := HB2.out.size; omega) _⟩
         rw [HT.out, List.filter_append, HF.out, List.append_nil]
         exact HO7.out.alloc _
        case measure => simp [intOf]; omega
       ·have he : ∀ W, (Op.equalIn 10000 70 (.agg #[.int .u64 (wd x 0).toNat, .int .u64 (wd x 1).toNat, .int .u64 (wd x 2).toNat, .int .u64 (wd x 3).toNat]) (.agg #[.int .u64 0, .int .u64 0, .int .u64 0, .int .u64 0])).run Tryz.prog W = .ok false W := fun W => by
         have h1 := set_equal x 0 W
         rw [encS_zero, show (x == 0) = false from by simpa using hz] at h1
         exact h1
        have hf : ([x].filter fun x => !(x == 0)) = [x] := by simp [hz]
        have HF := hid hf
        have hlq : ([xa, xb].take q).length <= 2 := by simp; omega
        have hlf := Nat.le_trans (List.length_filter_le (fun x => !(x == 0)) ([xa, xb].take q)) hlq
        have hlj : (pk.take j).length <= 256 := by simp; omega
        have HLQ : Hid ((nj ++ ([xa, xb].take q).filter fun x => !(x == 0)).length <= 514) := by
         have h1 := HLn.out
         show List.length _ <= 514
         rw [List.length_append]; omega
        clear hz hf hlq hlf hlj
        obtain ⟨nq, hnq⟩ : ∃ nq, nq = nj ++ ([xa, xb].take q).filter fun x => !(x == 0) := ⟨_, rfl⟩
        rw [<- hnq] at HO7 HLQ HNB ⊢
        have HNQ := hid hnq
        clear hnq
        go_wp2_with (at_builtin; refine wpList_append_own_at _ rfl _ _ 28 rfl W1.heap.size 70 i0 (.agg #[.int .u64 0, .int .u64 0, .int .u64 0, .int .u64 0]) 4 32 Tryz.underlying28 hi hz0 hz1 hz2 rfl (by decide) _ _ _ rfl ((HO7.out.alloc _).alloc _) ⟨w7.heap.size + 1, 0, none⟩ 1 1 (encS x).toList rfl rfl (news_blk ((Blk.new _ (encS x) 70).at (by simp))) (by intro u hu; simp [encS] at hu; rcases hu with rfl | rfl | rfl | rfl <;> rfl) (by have := HLQ.out; unfold maxLen; omega) (by have := HLQ.out; omega) (by have := HB7.out.size; have := HX6.out.size; have := HX2.out.size; have := HB2.out.size; simp; omega) ?_; intro v' w8 hown' hgrow hh hat; have HO8 := hid hown'; have HG := hid hgrow; have HAT := hid hat; clear hown' hgrow hh hat)
        have hsz7 : w5.heap.size < w7.heap.size := by have := HB7.out.size; have := HZ6.out; omega
        have hs17 : W1.heap.size <= w7.heap.size := by have := HB7.out.size; have := HX6.out.size; have := HX2.out.size; have := HB2.out.size; omega
        go_roundw
        case rel =>
         refine ⟨q + 1, by omega, by go_num, ?_, fun c e => ?_, ?_, ?_⟩
         ·rw [HT.out, List.filter_append, HF.out, <- List.append_assoc, <- HNQ.out, List.length_append, flatS_append, flatS_one]
          exact HO8.out
         ·have hat' : v'.ownBlock = (Value.slice a7 nq.length cap7).ownBlock \/ _ := HAT.out
          rcases hat' with h | h
          ·exact HNB.out c (by rw [<- h]; exact e)
          ·rw [h] at e; simp at e; omega
         ·exact ((H31'.out.alloc _).alloc _).grown HG.out (fun e => HNB.out _ e.symm rfl)
         ·exact ((HB7.out.alloc hs17 _).alloc (by simp; omega) _).grown HG.out (by simp; omega) (fun c e => (HO7.out.lt c e).1)
        case measure => simp [intOf]; omega
      ·obtain rfl : q = 2 := by omega
       have hcs : partsStep s (pk.take j) ++ ([xa, xb].take 2).filter (fun x => !(x == 0)) = partsStep s (pk.take (j + 1)) := by rw [HQ.out, HCUT.out]; rfl
       rw [hcs] at HO7 ⊢
       clear hcs
       go_wp2
       go_roundw
       case rel =>
        refine ⟨j + 1, by omega, by go_num, HO7.out, ?_⟩
        exact ((HB2.out.trans (HX2.out.mono (by have := HB2.out.size; omega))).trans (HX6.out.mono (by have := HX2.out.size; have := HB2.out.size; omega))).trans HB7.out
       case measure => simp [intOf]; omega
    ·obtain rfl : j = m := by omega
     have hpk : pk.take j = pk := by rw [HMM.out]; exact List.take_length
     rw [hpk, <- HP.out] at HO2 ⊢
     clear hpk
     go_wp2
     go_roundw
     case rel =>
      refine ⟨k + 1, by omega, by go_num, ownsRow_base HO2.out (by have := HZ1.out; have := HB.out.size; omega), ?_⟩
      exact (HB.out.trans (HB1.out.mono HB.out.size)).trans (HB2.out.mono (by have := HZ1.out; have := HB.out.size; omega))
     case measure => simp [intOf]; omega
  ·obtain rfl : k = n := by omega
   have htk : l.take k = l := by rw [HN.out]; exact List.take_length
   rw [htk] at HO ⊢
   clear htk
   have hne : partsRaw l ≠ [] := fun e => by have := partsRaw_sum l; rw [e] at this; simp at this
   obtain ⟨g, cur, hg, hge, hcur, hcc, hcm, hcs, htk⟩ : ∃ g cur, a3 = some ⟨g, 0, none⟩ /\ w.heap.size <= g /\ wo.heap[g]? = some (.cells cur 70 (0, 0)) /\ (partsRaw l).length <= cap3 /\ cap3 <= maxLen /\ cur.size = cap3 * 4 /\ cur.toList.take ((partsRaw l).length * 4) = flatS (partsRaw l) := by
    rcases HO.out.2 with ⟨_, h2⟩ | ⟨g, cap', cur, h1, h2, h3, h4, h5, h6, h7⟩
    ·exact absurd (List.eq_nil_of_length_eq_zero h2) hne
    ·cases h1
     exact ⟨g, cur, rfl, h2, h3, h4, h5, h6, h7⟩
   subst hg
   have eg : ∀ args w, (callFunc 89 args).run Tryz.prog w = .ok (.enter 89 args) w := enters_of Tryz.func89 (by kernel_rfl) rfl
   have hcon := AnyQ.slices_SortFunc_total Tryz.sortSets 4 Tryz.isAgg70 Tryz.sizeOf70 encL (fun _ => rfl) (fun x v hv => by simp [encL, encS] at hv; rcases hv with rfl | rfl | rfl | rfl <;> rfl) compareOf swoS 89 #[] g 0 cap3 (partsRaw l).toArray wo eg
    (fun m os dk _ x y => (compare_any x y _).mono fun e w' ⟨he, hx⟩ => ⟨he, hx.grow⟩) (holdsK_row hcur htk) (Array.getElem?_eq_some_iff.1 hcur).1 (by have := partsRaw_len l; simp; omega) totS
   have hcon' : Hid (Calls Tryz.prog 88 #[.slice (some ⟨g, 0, none⟩) (partsRaw l).length cap3, .func (.func 89) #[] #[]] wo fun e w' =>
    e = .returned (.tuple #[]) /\ ∃ n os, w' = sortWorldK encL 4 wo g 0 n (partsOf l).toArray os) := hcon
   clear hcon hne
   have hpl : (partsOf l).length = (partsRaw l).length := by unfold partsOf; exact List.length_mergeSort _
   have HPL := hid hpl
   clear hpl
   obtain ⟨po, hpo⟩ : ∃ po, po = partsOf l := ⟨_, rfl⟩
   rw [<- hpo] at hcon' HPL
   have HPO := hid hpo
   clear hpo
   go_wp2_with (go_at_call 88; refine hcon'.out.mono ?_; rintro e ws ⟨rfl, nd, os, hws⟩; have HWS := hid hws; clear hws)
   go_ret
   refine ⟨_, rfl, ?_, ?_⟩
   ·rw [HWS.out, <- HPO.out, HPL.out]
    exact ownsRow_sortK HPL.out hge hcur hcc hcm hcs
   ·rw [HWS.out]
    exact HB.out.grown (grownBy_sortK _) HB.out.size (fun c e => by cases e; exact hge)
end Go.Proofs.YtbiboekhakbnpaaGreatDoor
