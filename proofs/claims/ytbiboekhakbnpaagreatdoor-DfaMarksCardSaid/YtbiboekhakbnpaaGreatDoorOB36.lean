/-
  The law's small trees: class, letters, group, rep.
  The law's small trees: class, letters.
  The law's small trees: letters.
-/
import Derived.Test.YtbiboekhakbnpaaGreatDoorOB22
import Derived.Test.YtbiboekhakbnpaaGreatDoorOB23
import Derived.Test.YtbiboekhakbnpaaGreatDoorOB21
import Derived.Test.YtbiboekhakbnpaaGreatDoorOB35
set_option maxRecDepth 100000
set_option maxHeartbeats 16000000
open Go.Lib (hid)
namespace Go.Proofs.YtbiboekhakbnpaaGreatDoor
open Go Go.RowKit Go.Shelf Go.Maps
attribute [local go_sem] encS

theorem Blk.eight {w : World} {b : Nat} {x0 x1 x2 x3 x4 x5 x6 x7 : Value} {t : TypeId} (h : Blk w b #[x0, x1, x2, x3, x4, x5, x6, x7] t) : w.cell? ⟨b, 0, none⟩ = some x0 /\ w.cell? ⟨b, 1, none⟩ = some x1 /\ w.cell? ⟨b, 2, none⟩ = some x2 /\ w.cell? ⟨b, 3, none⟩ = some x3 /\ w.cell? ⟨b, 4, none⟩ = some x4 /\ w.cell? ⟨b, 5, none⟩ = some x5 /\ w.cell? ⟨b, 6, none⟩ = some x6 /\ w.cell? ⟨b, 7, none⟩ = some x7 :=
 ⟨h.cell 0, h.cell 1, h.cell 2, h.cell 3, h.cell 4, h.cell 5, h.cell 6, h.cell 7⟩
theorem sizeNode (k : Nat) (s : BS) (mn mx : Int) (a : Value) : (Tryz.prog.info? 86).map (·.size) = some (nodeV k s mn mx a).size := by show _ = some 8; kernel_rfl
theorem oneNode (k : Nat) (s : BS) (mn mx : Int) (p : Option Addr) (n c : Nat) : (nodeV k s mn mx (.slice p n c)).all (·.oneCell') = true := by unfold nodeV; simp [Value.oneCell']
def zeroN : Array Value := #[.int .u8 0, .int .u64 0, .int .u64 0, .int .u64 0, .int .u64 0, .int .i64 0, .int .i64 0, .slice none 0 0]
theorem nodeV_zero (k : Nat) (mn mx : Int) (a : Value) : nodeV k 0 mn mx a = #[.int .u8 k, .int .u64 0, .int .u64 0, .int .u64 0, .int .u64 0, .int .i64 mn, .int .i64 mx, a] := by
 unfold nodeV
 simp only [wd_zero]
 rfl
theorem IsRx.one {F : Nat -> Prop} {w V : World} {k n c b : Nat} {s : BS} {mn mx : Int} {p : Option Addr} {t : RX} (hF : ∀ x, F x -> x < w.heap.size) (h : IsRx F w (.agg (nodeV k s mn mx (.slice p n c))) t) (hk : Below w.heap.size w V) (hB : Blk V b (nodeV k s mn mx (.slice p n c)) 86) (hb : w.heap.size <= b) (k' : Nat) (s' : BS) (mn' mx' : Int) :
  IsRx (fun x => x < V.heap.size /\ (F x \/ w.heap.size <= x)) V (.agg (nodeV k' s' mn' mx' (.slice (some ⟨b, 0, none⟩) 1 1))) (.nd k' s' mn' mx' [t]) := by
 have h2 : IsRx (fun x => x < V.heap.size /\ (F x \/ w.heap.size <= x)) V (.agg (nodeV k s mn mx (.slice p n c))) t := (h.keeps (Keeps.of_below hk fun _ h => h : Keeps (· < w.heap.size) w V) hF).mono fun x hx => ⟨Nat.lt_of_lt_of_le (hF x hx) hk.size, .inl hx⟩
 refine .mk k' s' mn' mx' [t] _ b 0 1 (fun _ => .agg (nodeV k s mn mx (.slice p n c))) (fun e => by cases e) (fun _ => ⟨rfl, ⟨hB.lt, .inr hb⟩, hB.lt, by simp⟩) (fun i x hi => ?_) (fun i x hi => ?_)
 ·have hl := (List.getElem?_eq_some_iff.1 hi).1
  obtain rfl : i = 0 := by simpa using hl
  refine ⟨_, rfl, fun j u hj => ?_⟩
  simpa using (hB.cell j).trans hj
 ·have hl := (List.getElem?_eq_some_iff.1 hi).1
  obtain rfl : i = 0 := by simpa using hl
  cases hi
  exact h2
theorem group08_any (v : Value) (t : RX) (F : Nat -> Prop) (w : World) (hF : ∀ x, F x -> x < w.heap.size) (h : IsRx F w v t) :
  Calls Tryz.prog 73 #[v] w fun e w' => ∃ u, e = .returned u /\ IsRx (fun x => x < w'.heap.size /\ (F x \/ w.heap.size <= x)) w' u (.nd 6 0 0 0 [t]) /\ Below w.heap.size w w' := by
 obtain ⟨p, c, rfl⟩ := h.form
 have H := hid h
 obtain ⟨k, hk⟩ : ∃ k, k = t.kind := ⟨_, rfl⟩
 obtain ⟨nl, hnl⟩ : ∃ k, k = t.subs.length := ⟨_, rfl⟩
 obtain ⟨st, hst⟩ : ∃ st, st = t.set := ⟨_, rfl⟩
 obtain ⟨tn, htn⟩ : ∃ x, x = t.mn := ⟨_, rfl⟩
 obtain ⟨tx, htx⟩ : ∃ x, x = t.mx := ⟨_, rfl⟩
 rw [<- hk, <- hnl, <- hst, <- htn, <- htx] at H ⊢
 clear h hk hnl hst htn htx
 unfold nodeV
 go_enter Tryz.func73, Tryz.ntmps73
 go_wp2
 refine post_named ?_
 intro V hV
 have B2 : Hid (Blk V (w.heap.size + 1 + 1) (nodeV k st tn tx (.slice p nl c)) 86) := by rw [hV]; exact hid ((Blk.new _ _ _).at (by simp))
 have R1 : Hid (Blk V (w.heap.size + 1) #[.int .u8 6, .int .u64 0, .int .u64 0, .int .u64 0, .int .u64 0, .int .i64 0, .int .i64 0, .slice (some ⟨w.heap.size + 1 + 1, 0, none⟩) 1 1] 86) := by rw [hV]; exact hid (((Blk.new _ _ _).at (by simp)).alloc _)
 have X1 : Hid (Below w.heap.size w V) := by rw [hV]; exact hid ((((Ext.refl w).alloc _).alloc _).alloc _).below
 clear hV
 obtain ⟨m0, m1, m2, m3, m4, m5, m6, m7⟩ := R1.out.eight
 refine bodyPost_ret (v := .agg #[.int .u8 6, .int .u64 0, .int .u64 0, .int .u64 0, .int .u64 0, .int .i64 0, .int .i64 0, .slice (some ⟨w.heap.size + 1 + 1, 0, none⟩) 1 1]) (by simp [results, Tryz.results73, go_sem, m0, m1, m2, m3, m4, m5, m6, m7]) rfl ⟨_, rfl, ?_, X1.out⟩
 have e := IsRx.one hF H.out X1.out B2.out (by omega) 6 0 0 0
 rw [nodeV_zero] at e
 exact e
theorem rep08_any (v : Value) (t : RX) (mn mx : Int) (F : Nat -> Prop) (w : World) (hF : ∀ x, F x -> x < w.heap.size) (h : IsRx F w v t) :
  Calls Tryz.prog 74 #[v, .int .i64 mn, .int .i64 mx] w fun e w' => ∃ u, e = .returned u /\ IsRx (fun x => x < w'.heap.size /\ (F x \/ w.heap.size <= x)) w' u (.nd 5 0 mn mx [t]) /\ Below w.heap.size w w' := by
 obtain ⟨p, c, rfl⟩ := h.form
 have H := hid h
 obtain ⟨k, hk⟩ : ∃ k, k = t.kind := ⟨_, rfl⟩
 obtain ⟨nl, hnl⟩ : ∃ k, k = t.subs.length := ⟨_, rfl⟩
 obtain ⟨st, hst⟩ : ∃ st, st = t.set := ⟨_, rfl⟩
 obtain ⟨tn, htn⟩ : ∃ x, x = t.mn := ⟨_, rfl⟩
 obtain ⟨tx, htx⟩ : ∃ x, x = t.mx := ⟨_, rfl⟩
 rw [<- hk, <- hnl, <- hst, <- htn, <- htx] at H ⊢
 clear h hk hnl hst htn htx
 unfold nodeV
 go_enter Tryz.func74, Tryz.ntmps74
 go_wp2
 refine post_named ?_
 intro V hV
 have B2 : Hid (Blk V (w.heap.size + 1 + 1) (nodeV k st tn tx (.slice p nl c)) 86) := by rw [hV]; exact hid ((Blk.new _ _ _).at (by simp))
 have R1 : Hid (Blk V (w.heap.size + 1) #[.int .u8 5, .int .u64 0, .int .u64 0, .int .u64 0, .int .u64 0, .int .i64 mn, .int .i64 mx, .slice (some ⟨w.heap.size + 1 + 1, 0, none⟩) 1 1] 86) := by rw [hV]; exact hid (((Blk.new _ _ _).at (by simp)).alloc _)
 have X1 : Hid (Below w.heap.size w V) := by rw [hV]; exact hid ((((Ext.refl w).alloc _).alloc _).alloc _).below
 clear hV
 obtain ⟨m0, m1, m2, m3, m4, m5, m6, m7⟩ := R1.out.eight
 refine bodyPost_ret (v := .agg #[.int .u8 5, .int .u64 0, .int .u64 0, .int .u64 0, .int .u64 0, .int .i64 mn, .int .i64 mx, .slice (some ⟨w.heap.size + 1 + 1, 0, none⟩) 1 1]) (by simp [results, Tryz.results74, go_sem, m0, m1, m2, m3, m4, m5, m6, m7]) rfl ⟨_, rfl, ?_, X1.out⟩
 have e := IsRx.one hF H.out X1.out B2.out (by omega) 5 0 mn mx
 rw [nodeV_zero] at e
 exact e
end Go.Proofs.YtbiboekhakbnpaaGreatDoor
namespace Go.Proofs.YtbiboekhakbnpaaGreatDoor
open Go Go.RowKit Go.Shelf Go.Maps
attribute [local go_sem] encS

theorem class08_any (s : ByteArray) (l : List Nat) (hsl : s.data.toList.map (·.toNat) = l) (hn : l.length <= 1000000) (w : World) :
  Calls Tryz.prog 70 #[.string s] w fun e w' => e = .returned (.agg (nodeV 2 (bsOf fun c => l.contains c) 0 0 (.slice none 0 0))) /\ Below w.heap.size w w' := by
 obtain ⟨u, hu⟩ : ∃ u, u = bsOf fun c => l.contains c := ⟨_, rfl⟩
 rw [<- hu]
 have HU := hid hu
 have hsz : s.size = l.length := by rw [<- hsl]; simp
 have HCE : Hid (∀ i x : Nat, l[i]? = some x -> ∃ h : i < s.size, (s[i]'h).toNat = x) := hid fun i x h => by
  have hi : i < s.size := by rw [hsz]; exact (List.getElem?_eq_some_iff.1 h).1
  refine ⟨hi, ?_⟩
  have hi2 : i < s.data.toList.length := by simpa using hi
  rw [<- hsl, List.getElem?_map, List.getElem?_eq_getElem hi2] at h
  have := Option.some.inj h
  rw [<- this, Array.getElem_toList]; rfl
 have HL : Hid (∀ c ∈ l, c < 256) := hid fun c hc => by
  rw [<- hsl] at hc
  obtain ⟨b, _, rfl⟩ := List.mem_map.1 hc
  exact b.toNat_lt
 have HSZ := hid hsz
 have hszI : ((s.size : Nat) : Int) = l.length := by omega
 clear hu hsl hsz
 go_enter Tryz.func70, Tryz.ntmps70
 go_wp2
 refine wp_named ?_
 intro V hV
 have R0 : Hid (Blk V w.heap.size zeroN 86) := by rw [hV]; exact hid ((Blk.new _ _ _).alloc _)
 have B0 : Hid (Blk V (w.heap.size + 1) (encS 0) 70) := by rw [hV, encS_zero]; exact hid ((Blk.new _ _ _).at (by simp))
 have X0 : Hid (Below w.heap.size w V) := by rw [hV]; exact hid (((Ext.refl w).alloc _).alloc _).below
 clear hV
 go_loopw [7] (fun i wr => ∃ (k : Nat) (s' : BS), k <= l.length /\ i = .int .i64 k /\ (∀ c, c < 256 -> s'.getLsbD c = (l.take k).contains c) /\ Blk wr (w.heap.size + 1) (encS s') 70 /\ Blk wr w.heap.size zeroN 86 /\ Below w.heap.size w wr) (fun i _ => l.length - (intOf i).toNat)
 case atStart => exact ⟨0, 0, by omega, rfl, fun c hc => by simp, B0.out, R0.out, X0.out⟩
 case round =>
  obtain ⟨k, s', hk, rfl, hs, hB, hR, hx⟩ := hrel
  obtain ⟨wo, rfl⟩ : ∃ wo : World, wo = wr := ⟨_, rfl⟩
  have HS := hid hs
  clear hs
  by_cases hlt : k < l.length
  ·obtain ⟨c, hcl⟩ : ∃ c, l[k]? = some c := ⟨l[k], List.getElem?_eq_getElem hlt⟩
   have hc256 : c < 256 := HL.out c (List.mem_of_getElem? hcl)
   obtain ⟨hks, hsc⟩ := HCE.out k c hcl
   have hw : (encS s')[c / 64]? = some (.int .u64 (wd s' (c / 64)).toNat) := encS_get s' (by omega)
   have hc1 : wo.cell? ⟨w.heap.size + 1, c / 64, none⟩ = some (.int .u64 (wd s' (c / 64)).toNat) := (hB.cell _).trans hw
   have hf := hB.frozen (c / 64)
   have htk : l.take (k + 1) = l.take k ++ [c] := by rw [List.take_add_one, hcl]; rfl
   have HT := hid htk
   have HB := hid hB
   have HR := hid hR
   have HX := hid hx
   have hki : (k : Int) < l.length := by omega
   have hkz : (k : Int) < s.size := by omega
   clear hB hR hx hw htk hcl
   obtain ⟨z, hz⟩ : ∃ z : Nat, z = c / 64 := ⟨_, rfl⟩
   obtain ⟨y, hy⟩ : ∃ y : Nat, y = c % 64 := ⟨_, rfl⟩
   have hz4 : z < 4 := by omega
   have hy4 : y < 64 := by omega
   have hzi : IntKind.u8.wrap ((c : Int) / 64) = (z : Int) := by rw [IntWalk.u8_in _ (by omega)]; omega
   have hyi : Int.tmod (c : Int) 64 = (y : Int) := by rw [Int.tmod_eq_emod_of_nonneg (by omega)]; omega
   have hzI : (z : Int) < 4 := by omega
   have hyI : (y : Int) < 64 := by omega
   rw [<- hz] at hc1 hf
   have HZ := hid hz
   have HY := hid hy
   clear hz hy
   go_upto_region 5 with fail
   refine wp_region_reg false (fun _ => False) (by kernel_rfl) 11 [0, 0, 3, 7, 15, 31, 0, 0, 192, 448, 960, 2047, 4095, 8191] (fun i => i == 13) (by kernel_rfl) (fun _ => Eff.any _) ?_
   intro C hC hne
   have HC := hid hC
   have hb9 := HB.out.lt
   have f1 := regCell hC (p := ⟨w.heap.size + 1, z, none⟩) hb9 (fun h => h) hc1
   clear hC
   repeat (refine regStep (fun K hK => ?_); first | (refine regN rfl ?_; try go_simp; refine hK _ _ ?_; clear hK K) | (refine regF rfl rfl ?_; unfold floatAt; go_simp; refine hK _ _ ?_; clear hK K))
   refine regNil (fun W hW hH => ?_)
   have hMv := (HC.out W).1 hW
   have BW := hid (HB.out.below hMv.below HB.out.lt)
   have RW := hid (HR.out.below hMv.below HR.out.lt)
   have XW : Hid (Below w.heap.size w W) := hid (HX.out.trans (hMv.below.mono HX.out.size))
   have hw : (encS s')[z]? = some (.int .u64 (wd s' z).toNat) := encS_get s' hz4
   have g1 : W.cell? ⟨w.heap.size + 1, z, none⟩ = some (.int .u64 (wd s' z).toNat) := (BW.out.cell _).trans hw
   have gf := BW.out.frozen z
   clear hMv hW hH HC hne f1 hc1 hf HB HR HX hw
   go_wp2
   go_roundw
   case rel =>
    refine ⟨k + 1, withB s' c, by omega, by go_num, fun d hd => ?_, ?_, ?_, ?_⟩
    ·rw [withB_bit s' hc256, HS.out d hd, HT.out, List.contains_eq_any_beq, List.contains_eq_any_beq, List.any_append]
     simp
    ·rw [<- encS_withB s' hc256, <- HZ.out, <- HY.out]; exact BW.out.set _ _
    ·exact RW.out.other (by simp) _
    ·exact XW.out.trans (((Keeps.refl (· < w.heap.size) _).setCell (p := ⟨w.heap.size + 1, z, none⟩) (fun h => by have h' : w.heap.size + 1 < w.heap.size := h; omega) _).below)
   case measure => simp [intOf]; omega
  ·have hus : s' = u := by rw [HU.out]; exact BS.eq_bsOf fun c hc => by rw [HS.out c hc, List.take_of_length_le (by omega)]
   subst hus
   obtain rfl : k = l.length := by omega
   obtain ⟨c0, c1, c2, c3⟩ := hB.set4
   have HR := hid hR
   have HX := hid hx
   have hki : ¬ ((l.length : Int) < l.length) := by omega
   have HB := hid hB
   clear hB hR hx
   go_wp2_with (refine wpList_store_row rfl 86 (.tmp 2) (.tmp 25) rfl w.heap.size (nodeV 2 s' 0 0 (.slice none 0 0)) rfl rfl 86 zeroN HR.out (sizeNode _ _ _ _ _) rfl (oneNode _ _ _ _ _ _ _) ?_; refine Hid.out ?_)
   refine hid ?_
   obtain ⟨V3, hV3⟩ : ∃ W, W = wo.setRow w.heap.size (nodeV 2 s' 0 0 (.slice none 0 0)) := ⟨_, rfl⟩
   rw [<- hV3]
   have R9 : Hid (Blk V3 w.heap.size (nodeV 2 s' 0 0 (.slice none 0 0)) 86) := by rw [hV3]; exact hid HR.out.setRow
   have X9 : Below w.heap.size w V3 := by rw [hV3]; exact HX.out.trans ((keeps_row wo w.heap.size _).mono fun x (hx : x < w.heap.size) => by show x ≠ _; omega : Keeps (· < w.heap.size) wo _).below
   clear hV3
   go_wp2
   obtain ⟨m0, m1, m2, m3, m4, m5, m6, m7⟩ := R9.out.eight
   exact bodyPost_ret (v := .agg (nodeV 2 s' 0 0 (.slice none 0 0))) (by simp [results, Tryz.results70, nodeV, go_sem, m0, m1, m2, m3, m4, m5, m6, m7]) rfl ⟨rfl, X9⟩
end Go.Proofs.YtbiboekhakbnpaaGreatDoor
namespace Go.Proofs.YtbiboekhakbnpaaGreatDoor
open Go Go.RowKit Go.Shelf Go.Maps
attribute [local go_sem] encS

theorem letters08_any (n : Nat) (hn : n < 256) (w : World) :
  Calls Tryz.prog 71 #[.int .u8 n] w fun e w' => ∃ s : ByteArray, e = .returned (.string s) /\ s.data.toList.map (·.toNat) = lettersB n /\ Below w.heap.size w w' := by
 obtain ⟨r, hr⟩ : ∃ r, r = n % 12 := ⟨_, rfl⟩
 have h12 : r < 12 := by omega
 have hrn : ((n : Int) % 12) = r := by omega
 have hq : lettersB n = [[97], [98], [97, 98], [97], [98], [99], [97, 98, 99], [98, 99], [10], [0, 255], [97], [98]].getD r [] := by unfold lettersB; rw [<- hr]
 rw [hq]
 clear hr hq
 have hc : r = 0 \/ r = 1 \/ r = 2 \/ r = 3 \/ r = 4 \/ r = 5 \/ r = 6 \/ r = 7 \/ r = 8 \/ r = 9 \/ r = 10 \/ r = 11 := by omega
 rcases hc with rfl | rfl | rfl | rfl | rfl | rfl | rfl | rfl | rfl | rfl | rfl | rfl
 all_goals
  go_enter Tryz.func71, Tryz.ntmps71
  go_wp2
  go_ret
  exact ⟨_, rfl, rfl, ((Ext.refl w).alloc _).below⟩
end Go.Proofs.YtbiboekhakbnpaaGreatDoor
