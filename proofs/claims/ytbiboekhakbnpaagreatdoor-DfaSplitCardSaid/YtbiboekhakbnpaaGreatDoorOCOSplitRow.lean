/-
  DfaSplit returns true for any small parts, any bytes, any bytes; the arguments read behind the call as they did. No condition. A tied card: the three listed tables hold at the call what the program's text lays. Printed by wip/gen/drow.py.
-/
import Derived.Lib.AppendZeros
import Derived.Test.YtbiboekhakbnpaaGreatDoorCards
import Derived.Test.YtbiboekhakbnpaaGreatDoorTie
import Derived.Deep.DeepHandedRow
import Derived.Stop.LaidErr
import Derived.Test.YtbiboekhakbnpaaGreatDoorOB53
set_option maxRecDepth 100000
set_option maxHeartbeats 16000000
open Go.Lib (hid)
namespace Go.Proofs.YtbiboekhakbnpaaGreatDoor
open Go Go.RowKit Go.Shelf Go.Maps

theorem Tryz.infoB8 : (Tryz.prog.info? 5).map (fun i => (i.zero, i.size, i.bytes)) = some (some (.int .u8 0), 1, 1) := by kernel_rfl
theorem IsSl.srcOf {α : Type} {enc : α -> Value} {w : World} {v : Value} {l : List α} (h : IsSl enc w v l) : SrcOf w v l.length (l.map enc) := by
 rcases h with ⟨rfl, rfl⟩ | ⟨b, off, cap, rfl, _, _, hc⟩
 ·exact .inl ⟨rfl, rfl, rfl⟩
 ·refine .inr ⟨⟨b, off, none⟩, cap, rfl, fun j u hj => ?_⟩
  rw [List.getElem?_map] at hj
  obtain ⟨x, hx, rfl⟩ := Option.map_eq_some_iff.1 hj
  rw [Addr.add_mid]
  exact hc j x hx
theorem growB_any (n : Nat) (hn : n <= 1000000) (w : World) :
  Calls Tryz.prog 49 #[.slice none 0 0, .int .i64 n] w fun e w' => ∃ u, e = .returned u /\ w'.ownsRow w.heap.size 5 1 u 0 [] /\ Below w.heap.size w w' := by
 obtain ⟨i0, hi, hz0, hz1, hz2⟩ := info_parts Tryz.infoB8
 have h0 : ¬ ((n : Int) < 0) := by omega
 rcases Nat.eq_zero_or_pos n with rfl | hp
 ·go_enter Tryz.func49, Tryz.ntmps49
  go_wp2
  go_ret
  exact ⟨_, rfl, World.ownsRow_nil _ _ _ _, Below.refl _ _⟩
 ·have hpi : (0 : Int) < n := by omega
  have hw1 : IntKind.i64.wrap (n : Int) = (n : Int) := IntWalk.i64_in _ (by omega)
  have h9 := Lib.run_append_nil_zeros (P := Tryz.prog) w 23 3 23 5 i0 (.int .u8 0) .i64 .i64 Tryz.underlying23 Tryz.underlying3 hi hz0 n hp (by omega) (by omega) (by rw [hz2]; omega)
  obtain ⟨cp, hcp⟩ : ∃ c, c = grownCap w n 0 5 := ⟨_, rfl⟩
  have hge : n <= cp := by rw [hcp]; exact grownCap_ge w n 0 _
  have hcm : cp <= maxLen := by rw [hcp]; exact grownCap_le_maxLen w n 0 _ (by unfold maxLen; omega)
  rw [<- hcp] at h9
  have HCP := hid hcp
  clear hcp
  go_enter Tryz.func49, Tryz.ntmps49
  go_wp2_with (at_builtin; refine Lib.wpList_append_run _ rfl _ _ _ _ rfl _ _ rfl rfl _ _ h9 ?_)
  go_ret
  refine ⟨_, rfl, ⟨rfl, .inr ⟨w.heap.size, cp, _, rfl, Nat.le_refl _, heap_alloc_new w.drew _, Nat.zero_le _, hcm, ?_, rfl⟩⟩, ((Ext.refl w).drew.alloc _).below⟩
  simp only [Array.size_append, size_zeroCells]
  have e1 : (#[Value.int .u8 0] : Array Value).size = 1 := rfl
  rw [e1]
  omega
theorem concatB_any (B : Nat) (v1 v2 : Value) (l1 l2 : List Nat) (hl1 : l1.length <= 1000) (hl2 : l2.length <= 1000) (w : World) (hB : Blk w B #[v1, v2] 23) (h1 : IsSl encB w v1 l1) (h2 : IsSl encB w v2 l2) :
  Calls Tryz.prog 18 #[.slice (some ⟨B, 0, none⟩) 2 2] w fun e w' => ∃ u, e = .returned u /\ w'.ownsRow w.heap.size 5 1 u (l1 ++ l2).length ((l1 ++ l2).map encB) /\ Below w.heap.size w w' := by
 obtain ⟨i0, hi, hz0, hz1, hz2⟩ := info_parts Tryz.infoB8
 obtain ⟨a1, c1, rfl⟩ := h1.form
 obtain ⟨a2, c2, rfl⟩ := h2.form
 obtain ⟨n1, hn1⟩ : ∃ n, n = l1.length := ⟨_, rfl⟩
 obtain ⟨n2, hn2⟩ : ∃ n, n = l2.length := ⟨_, rfl⟩
 obtain ⟨x1, hx1⟩ : ∃ x, x = l1.map encB := ⟨_, rfl⟩
 obtain ⟨x2, hx2⟩ : ∃ x, x = l2.map encB := ⟨_, rfl⟩
 have S1 : Hid (∀ W, Below w.heap.size w W -> SrcOf W (.slice a1 n1 c1) n1 x1) := hid fun W hW => by rw [hn1, hx1]; exact (h1.below hW).srcOf
 have S2 : Hid (∀ W, Below w.heap.size w W -> SrcOf W (.slice a2 n2 c2) n2 x2) := hid fun W hW => by rw [hn2, hx2]; exact (h2.below hW).srcOf
 have L1 : Hid (x1.length = n1 * 1) := hid (by rw [hx1, hn1, List.length_map]; omega)
 have L2 : Hid (x2.length = n2 * 1) := hid (by rw [hx2, hn2, List.length_map]; omega)
 have O1 : Hid (∀ u ∈ x1, u.oneCell' = true) := hid fun u hu => by rw [hx1] at hu; obtain ⟨y, _, rfl⟩ := List.mem_map.1 hu; rfl
 have O2 : Hid (∀ u ∈ x2, u.oneCell' = true) := hid fun u hu => by rw [hx2] at hu; obtain ⟨y, _, rfl⟩ := List.mem_map.1 hu; rfl
 rw [List.length_append, List.map_append, <- hn1, <- hn2, <- hx1, <- hx2]
 rw [<- hn1] at hl1
 rw [<- hn2] at hl2
 have HB := hid hB
 have d0 : w.cell? ⟨B, 0, none⟩ = some (.slice a1 n1 c1) := by rw [hn1]; exact hB.cell 0
 have d1 : w.cell? ⟨B, 1, none⟩ = some (.slice a2 n2 c2) := by rw [hn2]; exact hB.cell 1
 have DD : Hid (w.cell? ⟨B, 0, none⟩ = some (.slice a1 n1 c1) /\ w.cell? ⟨B, 1, none⟩ = some (.slice a2 n2 c2)) := hid ⟨d0, d1⟩
 have hw1 : IntKind.i64.wrap (n1 : Int) = (n1 : Int) := IntWalk.i64_in _ (by omega)
 have hw2 : IntKind.i64.wrap ((n1 : Int) + n2) = ((n1 + n2 : Nat) : Int) := by rw [IntWalk.i64_in _ (by omega)]; omega
 have hp1 : ¬ ((n1 : Int) < 0) := by omega
 have hp2 : ¬ (((n1 + n2 : Nat) : Int) < 0) := by omega
 clear h1 h2 hB hn1 hn2 hx1 hx2
 go_enter Tryz.func18, Tryz.ntmps18
 go_wp2
 go_loopw [3, 11] (fun s i wr => wr = w /\ ((i = .int .i64 0 /\ s = .int .i64 0) \/ (i = .int .i64 1 /\ s = .int .i64 n1) \/ (i = .int .i64 2 /\ s = .int .i64 ((n1 + n2 : Nat) : Int)))) (fun _ i _ => 2 - (intOf i).toNat)
 case atStart => exact ⟨rfl, .inl ⟨rfl, rfl⟩⟩
 case round =>
  obtain ⟨hwr, hc⟩ := hrel
  replace hwr := hwr.symm
  subst hwr
  rcases hc with ⟨rfl, rfl⟩ | ⟨rfl, rfl⟩ | ⟨rfl, rfl⟩
  ·go_wp2
   go_roundw
   case rel => exact ⟨by first | rfl | trivial, .inr (.inl ⟨rfl, rfl⟩)⟩
   case measure => simp [intOf]
  ·go_wp2
   go_roundw
   case rel => exact ⟨by first | rfl | trivial, .inr (.inr ⟨rfl, rfl⟩)⟩
   case measure => simp [intOf]
  ·skip --K1
   go_wp2_with fail
   refine (growB_any (n1 + n2) (by omega) w).mono ?_
   rintro e w1 ⟨u, rfl, ho, hx⟩
   have R1 := hid ho
   have X1 := hid hx
   clear ho hx
   go_wp2
   go_loopw [6, 27] (fun s i wr => Below w.heap.size w wr /\ ((i = .int .i64 0 /\ wr.ownsRow w.heap.size 5 1 s 0 []) \/ (i = .int .i64 1 /\ wr.ownsRow w.heap.size 5 1 s n1 x1) \/ (i = .int .i64 2 /\ wr.ownsRow w.heap.size 5 1 s (n1 + n2) (x1 ++ x2)))) (fun _ i _ => 2 - (intOf i).toNat)
   case atStart => exact ⟨X1.out, .inl ⟨rfl, R1.out⟩⟩
   case round =>
    obtain ⟨hx, hc⟩ := hrel
    obtain ⟨wo, rfl⟩ : ∃ wo : World, wo = wr := ⟨_, rfl⟩
    have HX := hid hx
    have hcl : ∀ j u, w.cell? ⟨B, j, none⟩ = some u -> wo.cell? ⟨B, j, none⟩ = some u := fun j u h => ((Keeps.of_below hx fun _ h => h : Keeps (· < w.heap.size) w wo).cell (p := ⟨B, j, none⟩) HB.out.lt).trans h
    have e0 := hcl _ _ DD.out.1
    have e1 := hcl _ _ DD.out.2
    have hsz := hx.size
    clear d0 d1 hcl hx
    rcases hc with ⟨rfl, ho⟩ | ⟨rfl, ho⟩ | ⟨rfl, ho⟩
    ·obtain ⟨sa, sc, rfl⟩ := ownsRow_form ho
     have HO := hid ho
     clear ho
     go_wp2_with (at_builtin; refine Hid.out ?_)
     refine hid ?_
     refine wpList_appendS rfl (.tmp 31) (.tmp 32) 23 rfl w.heap.size 5 i0 (.int .u8 0) 1 1 Tryz.underlying23 hi hz0 hz1 hz2 rfl (by decide) _ 0 _ rfl HO.out _ n1 x1 rfl (S1.out wo HX.out) L1.out O1.out (by unfold maxLen; omega) (by omega) hsz ?_
     intro v' w2 ho2 hg2
     have HO2 : Hid (w2.ownsRow w.heap.size 5 1 v' n1 x1) := hid (by rw [Nat.zero_add, List.nil_append] at ho2; exact ho2)
     have X2 : Hid (Below w.heap.size w w2) := hid (HX.out.trans ((Below.refl _ _).grown hg2 hsz (fun c e => (HO.out.lt c e).1)))
     clear ho2 hg2
     go_wp2
     go_roundw
     case rel => exact ⟨X2.out, .inr (.inl ⟨rfl, HO2.out⟩)⟩
     case measure => simp [intOf]
    ·obtain ⟨sa, sc, rfl⟩ := ownsRow_form ho
     have HO := hid ho
     clear ho
     go_wp2_with (at_builtin; refine Hid.out ?_)
     refine hid ?_
     refine wpList_appendS rfl (.tmp 31) (.tmp 32) 23 rfl w.heap.size 5 i0 (.int .u8 0) 1 1 Tryz.underlying23 hi hz0 hz1 hz2 rfl (by decide) _ n1 _ rfl HO.out _ n2 x2 rfl (S2.out wo HX.out) L2.out O2.out (by unfold maxLen; omega) (by omega) hsz ?_
     intro v' w2 ho2 hg2
     have HO2 := hid ho2
     have X2 : Hid (Below w.heap.size w w2) := hid (HX.out.trans ((Below.refl _ _).grown hg2 hsz (fun c e => (HO.out.lt c e).1)))
     clear ho2 hg2
     go_wp2
     go_roundw
     case rel => exact ⟨X2.out, .inr (.inr ⟨rfl, HO2.out⟩)⟩
     case measure => simp [intOf]
    ·obtain ⟨sa, sc, rfl⟩ := ownsRow_form ho
     have HO := hid ho
     clear ho
     go_wp2
     go_ret
     exact ⟨_, rfl, HO.out, HX.out⟩
attribute [local go_sem] encS

theorem tab_index (p : List BS) {c : Nat} (hc : c < 256) (W : World) : (Instr.index 102 (.agg (tabArr p)) (.int .u8 c)).run Tryz.prog W = .ok (.int .u8 (cls p c)) W := by
 have h1 := tabArr_get p hc
 have h2 : (c : Int) < 256 := by omega
 simp [Instr.index, asIntOf, run_underlying Tryz.underlying102, part, Tryz.isAgg5, Tryz.sizeOf5, h1, go_sem]
 intro h; omega
theorem dfaClass_any (v : Value) (d : DF) (sm : Sm d) (c : Nat) (hc : c < 256) (w : World) (h : IsDf w v d) :
  Calls Tryz.prog 20 #[v, .int .u8 c] w fun e w' => e = .returned (if d.right then .tuple #[.int .i64 (cls d.cl c), .int .i64 0] else .tuple #[.int .i64 0, .int .i64 182]) /\ Below w.heap.size w w' := by
 have CR : Hid (∀ W, Below w.heap.size w W -> Calls Tryz.prog 21 #[v] W fun e w' => e = .returned (.bool d.right) /\ Below W.heap.size W w') := fun W hW => right_any v d W (h.below hW) sm
 have CT : Hid (d.right = true -> ∀ W, Below w.heap.size w W -> Calls Tryz.prog 46 #[v] W fun e w' => e = .returned (.agg (tabArr d.cl)) /\ Below W.heap.size W w') := fun hr W hW => dfaTable_any v d ((right_iff d).1 hr) W (h.below hW)
 have HC256 : Hid (d.right = true -> cls d.cl c < 256) := fun hr => by
  have rt := (right_iff d).1 hr
  have := rt.part.cls_lt hc
  have := rt.clle
  omega
 obtain ⟨v0, v1, v2, rfl, h0, h1, h2⟩ := h
 obtain ⟨a0, c0, rfl⟩ := h0.1.form
 obtain ⟨a1, c1, rfl⟩ := h1.form
 obtain ⟨a2, c2, rfl⟩ := h2.form
 generalize d.cl.length = n0 at *
 generalize d.nx.length = n1 at *
 generalize d.mr.length = n2 at *
 clear h0 h1 h2 sm
 obtain ⟨r, hr⟩ : ∃ r, r = d.right := ⟨_, rfl⟩
 rw [<- hr] at CR CT HC256 ⊢
 have hix := fun W => tab_index d.cl hc W
 obtain ⟨q, hqq⟩ : ∃ q, q = cls d.cl c := ⟨_, rfl⟩
 rw [<- hqq] at hix HC256 ⊢
 clear hqq
 go_enter Tryz.func20, Tryz.ntmps20
 go_wp2_with fail
 refine calls_named ?_
 intro V hV
 have B1 : Hid (Blk V w.heap.size #[.slice a0 n0 c0, .slice a1 n1 c1, .slice a2 n2 c2] 31) := by rw [hV]; exact Blk.new w _ _
 have X1 : Hid (Below w.heap.size w V) := by rw [hV]; exact ((Ext.refl w).alloc _).below
 clear hV
 refine (CR.out _ X1.out).mono ?_
 rintro e w2 ⟨rfl, hx⟩
 have B2 := hid (B1.out.below hx B1.out.lt)
 have X2 := hid (X1.out.trans (hx.mono X1.out.size))
 clear hx B1 X1
 obtain ⟨⟨k0, k1, k2⟩, _⟩ := B2.out.three
 clear hr
 cases r with
 | false =>
  go_wp2
  refine bodyPost_ret (v := .tuple #[.int .i64 0, .int .i64 182]) (by simp [results, Tryz.results20, go_sem]) rfl ⟨rfl, X2.out⟩
 | true =>
  have hq := HC256.out (by trivial)
  have cv := IntWalk.i64_in (q : Int) (by omega)
  go_wp2_with fail
  refine (CT.out (by trivial) _ X2.out).mono ?_
  rintro e w3 ⟨rfl, hx⟩
  have X3 := hid (X2.out.trans (hx.mono X2.out.size))
  clear hx
  go_wp2
  refine bodyPost_ret (v := .tuple #[.int .i64 q, .int .i64 0]) (by simp [results, Tryz.results20, go_sem]) rfl ⟨rfl, X3.out⟩
end Go.Proofs.YtbiboekhakbnpaaGreatDoor
namespace Go.Proofs.YtbiboekhakbnpaaGreatDoor
open Go Go.RowKit Go.Shelf Go.Maps
attribute [local go_sem] encS

def runE (d : DF) (s : Int) (b : List Nat) : Int × Int := if d.right = false then (0, 182) else if s < 0 \/ (d.nx.length : Int) <= s then (0, 2) else (((runD d s.toNat b : Nat) : Int), 0)
theorem dfaRunE_any (v bv : Value) (d : DF) (sm : Sm d) (s : Int) (b : List Nat) (hb : ∀ c ∈ b, c < 256) (hbn : b.length <= 1000000) (w : World) (h : IsDf w v d) (hbv : IsSl encB w bv b) :
  Calls Tryz.prog 17 #[v, .int .i64 s, bv] w fun e w' => e = .returned (.tuple #[.int .i64 (runE d s b).1, .int .i64 (runE d s b).2]) /\ Below w.heap.size w w' := by
 by_cases hgo : d.right = true /\ 0 <= s /\ s < d.nx.length
 ·obtain ⟨n, rfl⟩ : ∃ n : Nat, s = n := ⟨s.toNat, by omega⟩
  have e1 : runE d n b = (((runD d n b : Nat) : Int), 0) := by
   unfold runE
   rw [hgo.1, if_neg (by decide), if_neg (by omega), Int.toNat_natCast]
  rw [e1]
  exact dfaRun_any v bv d ((right_iff d).1 hgo.1) sm n (by omega) b hb hbn w h hbv
 ·have CR : Hid (∀ W, Below w.heap.size w W -> Calls Tryz.prog 21 #[v] W fun e w' => e = .returned (.bool d.right) /\ Below W.heap.size W w') := fun W hW => right_any v d W (h.below hW) sm
  obtain ⟨v0, v1, v2, rfl, h0, h1, h2⟩ := h
  obtain ⟨a0, c0, rfl⟩ := h0.1.form
  obtain ⟨a1, c1, rfl⟩ := h1.form
  obtain ⟨a2, c2, rfl⟩ := h2.form
  obtain ⟨ab, cb, rfl⟩ := hbv.form
  obtain ⟨R, hR⟩ : ∃ z, z = runE d s b := ⟨_, rfl⟩
  rw [<- hR]
  have HR := hid hR
  have HG := hid hgo
  obtain ⟨r, hr⟩ : ∃ r, r = d.right := ⟨_, rfl⟩
  have Hr := hid hr
  rw [<- hr] at CR
  obtain ⟨n1, hn1⟩ : ∃ n, n = d.nx.length := ⟨_, rfl⟩
  have HN := hid hn1
  rw [<- hn1] at CR ⊢
  have hn4 : r = true -> n1 <= 4000 := fun h => by rw [hn1]; exact ((right_iff d).1 (hr.symm.trans h)).le
  have HN4 := hid hn4
  clear h0 h1 h2 hbv hgo hR hr hn1 hn4 sm
  generalize d.cl.length = n0 at *
  generalize d.mr.length = n2 at *
  generalize b.length = nb at *
  go_enter Tryz.func17, Tryz.ntmps17
  go_wp2_with fail
  refine calls_named ?_
  intro V hV
  have B1 : Hid (Blk V w.heap.size #[.slice a0 n0 c0, .slice a1 n1 c1, .slice a2 n2 c2] 31) := by rw [hV]; exact Blk.new w _ _
  have X1 : Hid (Below w.heap.size w V) := by rw [hV]; exact ((Ext.refl w).alloc _).below
  clear hV
  refine (CR.out _ X1.out).mono ?_
  rintro e w2 ⟨rfl, hx⟩
  have B2 := hid (B1.out.below hx B1.out.lt)
  have X2 := hid (X1.out.trans (hx.mono X1.out.size))
  clear hx B1 X1
  obtain ⟨⟨k0, k1, k2⟩, _⟩ := B2.out.three
  cases r with
  | false =>
   have HRR : Hid (R = (0, 182)) := hid (by rw [HR.out]; unfold runE; rw [<- Hr.out, if_pos rfl])
   go_wp2
   refine bodyPost_ret (v := .tuple #[.int .i64 0, .int .i64 182]) (by simp [results, Tryz.results17, go_sem]) rfl ⟨by rw [HRR.out], X2.out⟩
  | true =>
   have hn4 := HN4.out rfl
   have hbad : s < 0 \/ (n1 : Int) <= s := by
    by_cases h : s < 0
    ·exact .inl h
    ·right
     by_cases h2 : (n1 : Int) <= s
     ·exact h2
     ·exact absurd ⟨Hr.out.symm, by omega, by have := HN.out; omega⟩ HG.out
   have HRR : Hid (R = (0, 2)) := hid (by rw [HR.out]; unfold runE; rw [<- Hr.out, <- HN.out, if_neg (by decide), if_pos hbad])
   by_cases hneg : s < 0
   ·have d1 : decide (s < 0) = true := decide_eq_true hneg
    clear hbad
    go_wp2
    refine bodyPost_ret (v := .tuple #[.int .i64 0, .int .i64 2]) (by simp [results, Tryz.results17, go_sem]) rfl ⟨by rw [HRR.out], X2.out⟩
   ·have d1 : decide (s < 0) = false := decide_eq_false hneg
    have d2 : decide ((n1 : Int) <= s) = true := decide_eq_true (by omega)
    clear hbad
    go_wp2
    refine bodyPost_ret (v := .tuple #[.int .i64 0, .int .i64 2]) (by simp [results, Tryz.results17, go_sem]) rfl ⟨by rw [HRR.out], X2.out⟩
theorem dfaStep_any (v : Value) (d : DF) (sm : Sm d) (s : Int) (c : Nat) (hc : c < 256) (w : World) (h : IsDf w v d) :
  Calls Tryz.prog 19 #[v, .int .i64 s, .int .u8 c] w fun e w' => e = .returned (.tuple #[.int .i64 (runE d s [c]).1, .int .i64 (runE d s [c]).2]) /\ Below w.heap.size w w' := by
 have CR : Hid (∀ W bv, Below w.heap.size w W -> IsSl encB W bv [c] -> Calls Tryz.prog 17 #[v, .int .i64 s, bv] W fun e w' => e = .returned (.tuple #[.int .i64 (runE d s [c]).1, .int .i64 (runE d s [c]).2]) /\ Below W.heap.size W w') := fun W bv hW hb => dfaRunE_any v bv d sm s [c] (by simpa using hc) (by simp) W (h.below hW) hb
 obtain ⟨v0, v1, v2, rfl, h0, h1, h2⟩ := h
 obtain ⟨a0, c0, rfl⟩ := h0.1.form
 obtain ⟨a1, c1, rfl⟩ := h1.form
 obtain ⟨a2, c2, rfl⟩ := h2.form
 obtain ⟨R, hR⟩ : ∃ z, z = runE d s [c] := ⟨_, rfl⟩
 rw [<- hR] at CR ⊢
 clear h0 h1 h2 sm hR
 generalize d.cl.length = n0 at *
 generalize d.nx.length = n1 at *
 generalize d.mr.length = n2 at *
 go_enter Tryz.func19, Tryz.ntmps19
 go_wp2_with fail
 refine calls_named ?_
 intro V hV
 have X1 : Hid (Below w.heap.size w V) := by rw [hV]; exact hid (((Ext.refl w).alloc _).alloc _).below
 have S1 : Hid (IsSl encB V (.slice (some ⟨w.heap.size + 1, 0, none⟩) 1 1) [c]) := hid (by
  have hB : Blk V (w.heap.size + 1) #[.int .u8 c] 5 := by rw [hV]; exact (Blk.new (w.alloc _) _ _).at (by simp)
  refine .inr ⟨w.heap.size + 1, 0, 1, rfl, hB.lt, by simp, fun i x hi => ?_⟩
  cases i with
  | zero => cases hi; exact hB.cell 0
  | succ i => simp at hi)
 clear hV
 refine (CR.out V _ X1.out S1.out).mono ?_
 rintro e w2 ⟨rfl, hx⟩
 have X2 := hid (X1.out.trans (hx.mono X1.out.size))
 clear hx
 go_wp2
 refine bodyPost_ret (v := .tuple #[.int .i64 R.1, .int .i64 R.2]) (by simp [results, Tryz.results19, go_sem]) rfl ⟨rfl, X2.out⟩
end Go.Proofs.YtbiboekhakbnpaaGreatDoor
namespace Go.Proofs.YtbiboekhakbnpaaGreatDoor
open Go Go.RowKit Go.Shelf Go.Maps

def Eff.two (v1 v2 : Value) (t : TypeId) : Eff (Move false (fun _ => False)) where
 P := fun v => ∃ b, v = .slice (some ⟨b, 0, none⟩) 2 2
 H := fun v W => ∀ b, v = .slice (some ⟨b, 0, none⟩) 2 2 -> Blk W b #[v1, v2] t
 wit := .slice (some ⟨0, 0, none⟩) 2 2
 pw := ⟨0, rfl⟩
 st := fun _ _ _ hm _ h b e => (h b e).below hm.below (h b e).lt
theorem runD_append (d : DF) (s : Nat) (b c : List Nat) : runD d s (b ++ c) = runD d (runD d s b) c := by unfold runD; rw [List.foldl_append]
theorem stepE {d : DF} (rt : Rt d) {s x : Nat} (hs : s < d.nx.length) : runE d (s : Int) [x] = (((nxt d s (cls d.cl x) : Nat) : Int), 0) := by
 unfold runE
 rw [if_neg (by rw [(right_iff d).2 rt]; simp), if_neg (by omega)]
 rfl
theorem cls_len {d : DF} (rt : Rt d) {x : Nat} (hx : x < 256) : cls d.cl x < d.cl.length := by
 obtain ⟨q, hq, _⟩ := cls_class d.cl hx
 rw [rt.cl] at hq
 exact (List.getElem?_eq_some_iff.1 hq).1
def Eff.slM {α : Type} (enc : α -> Value) (l : List α) : Eff (Move false (fun _ => False)) where
 P := fun v => ∃ a c, v = .slice a l.length c
 H := fun v W => IsSl enc W v l
 wit := .slice none l.length 0
 pw := ⟨none, 0, rfl⟩
 st := fun _ _ _ hm _ h => h.below hm.below
theorem dfaSplitLaw_any (v bv cv : Value) (l : List (List (Nat × Nat × Nat) × Bool × Nat)) (hl9 : l.length <= 1000000000000000) (b : List Nat) (hb : ∀ c ∈ b, c < 256) (c : List Nat) (hc : ∀ x ∈ c, x < 256) (w : World) (h : IsS18 w v l) (hbv : IsSl encB w bv b) (hcv : IsSl encB w cv c) (hT : ∀ W, Below w.heap.size w W -> TabW W) :
  Calls Tryz.prog 5 #[v, bv, cv] w fun e w' => e = .returned (.bool true) /\ Below w.heap.size w w' := by
 have HT := hid hT
 have PK := parts18_ps h
 have CM : Hid (∀ W, Below w.heap.size w W -> Calls Tryz.prog 10 #[v] W fun e w' => ∃ u, e = .returned (.tuple #[u, .bool true]) /\ OwnPts W.heap.size w' u (parts18 l) /\ Below W.heap.size W w') := hid fun W hW => made18_any v l hl9 W (h.below hW)
 obtain ⟨sa, sc, rfl⟩ := h.form
 have PL4 : (parts18 l).length <= 4 := by rw [parts18_len]; omega
 obtain ⟨P, hP⟩ : ∃ P, P = parts18 l := ⟨_, rfl⟩
 rw [<- hP] at PK CM PL4
 generalize l.length = sn at *
 clear h hP hT
 obtain ⟨d, code, hdc⟩ : ∃ d code, ofE P 300 = (d, code) := ⟨_, _, rfl⟩
 have two := ofE_two PK (f := 300) (by decide) (by decide)
 rw [hdc] at two
 obtain ⟨n0, hn0⟩ : ∃ n, n = d.cl.length := ⟨_, rfl⟩
 obtain ⟨n1, hn1⟩ : ∃ n, n = d.nx.length := ⟨_, rfl⟩
 obtain ⟨n2, hn2⟩ : ∃ n, n = d.mr.length := ⟨_, rfl⟩
 have TT : Hid (∀ A, Below w.heap.size w A -> ∀ V, Below A.heap.size A V -> TabW V) := hid fun A hA V hV => HT.out V (hA.trans (hV.mono hA.size))
 have CO : Hid (∀ W u, Below w.heap.size w W -> IsPts W u P -> Calls Tryz.prog 11 #[u, .int .i64 300] W (OfAt n0 n1 n2 code d W)) := hid fun W u hW hu => of_named PK hdc hn0 hn1 hn2 W u hu (TT.out W hW)
 have HPK := hid PK
 have HDC := hid hdc
 have HN0 := hid hn0
 have HN1 := hid hn1
 have HN2 := hid hn2
 obtain ⟨pm, hpm⟩ : ∃ m, m = P.length := ⟨_, rfl⟩
 have hpm4 : pm <= 4 := by rw [hpm]; exact PL4
 have HPM := hid hpm
 have HBB := hid hb
 have HBV := hid hbv
 obtain ⟨ba, bc, rfl⟩ := hbv.form
 obtain ⟨bn, hbn⟩ : ∃ n, n = b.length := ⟨_, rfl⟩
 obtain ⟨bm, hbm⟩ : ∃ m, m = min bn 30 := ⟨_, rfl⟩
 have hmin : min (bn : Int) 30 = (bm : Int) := by omega
 have hbmn : bm <= bn := by omega
 have hbm40 : bm <= 30 := by omega
 rw [<- hbn] at HBV hbv ⊢
 have hbmc : bm <= bc := Nat.le_trans hbmn hbv.cap
 obtain ⟨bb, hbb⟩ : ∃ x, x = b.take bm := ⟨_, rfl⟩
 have HTK : Hid (∀ W, Below w.heap.size w W -> IsSl encB W (.slice ba bm bc) bb) := hid fun W hW => by rw [hbb]; exact ((HBV.out.below hW).take bm hbmn)
 have HB2 : Hid (∀ c ∈ bb, c < 256) := hid fun c hc => by rw [hbb] at hc; exact HBB.out c (List.mem_of_mem_take hc)
 have HBM : Hid (bm = bb.length) := hid (by rw [hbb, List.length_take]; omega)
 have HBBq := hid hc
 have HBVq := hid hcv
 obtain ⟨baq, bcq, rfl⟩ := hcv.form
 obtain ⟨bnq, hbnq⟩ : ∃ n, n = c.length := ⟨_, rfl⟩
 obtain ⟨bmq, hbmq⟩ : ∃ m, m = min bnq 30 := ⟨_, rfl⟩
 have hminq : min (bnq : Int) 30 = (bmq : Int) := by omega
 have hbmnq : bmq <= bnq := by omega
 have hbm40q : bmq <= 30 := by omega
 rw [<- hbnq] at HBVq hcv ⊢
 have hbmcq : bmq <= bcq := Nat.le_trans hbmnq hcv.cap
 obtain ⟨bbq, hbbq⟩ : ∃ x, x = c.take bmq := ⟨_, rfl⟩
 have HTKq : Hid (∀ W, Below w.heap.size w W -> IsSl encB W (.slice baq bmq bcq) bbq) := hid fun W hW => by rw [hbbq]; exact ((HBVq.out.below hW).take bmq hbmnq)
 have HB2q : Hid (∀ c ∈ bbq, c < 256) := hid fun c hc => by rw [hbbq] at hc; exact HBBq.out c (List.mem_of_mem_take hc)
 have HBMq : Hid (bmq = bbq.length) := hid (by rw [hbbq, List.length_take]; omega)
 clear PK hdc hn0 hn1 hn2 hpm PL4 hb hbv hbn hbm hbb HBB HBV hc hcv hbnq hbmq hbbq HBBq HBVq
 go_enter Tryz.func5, Tryz.ntmps5
 go_wp2_with fail
 refine (awake18_any w HT.out).mono ?_
 rintro e w1 ⟨rfl, hx⟩
 have X1 := hid hx
 clear hx
 go_wp2_with fail
 refine (CM.out w1 X1.out).mono ?_
 rintro e w2 ⟨u, rfl, ho, hx⟩
 obtain ⟨pa, pc, rfl⟩ := ho.form
 have OP := hid (show OwnPts w1.heap.size w2 (.slice pa pm pc) P by rw [HPM.out]; exact ho)
 have X2 := hid (X1.out.trans (hx.mono X1.out.size))
 rw [<- HPM.out]
 clear ho hx CM
 go_wp2_with fail
 refine (CO.out w2 _ X2.out OP.out.pts).mono ?_
 rintro e w3 ⟨a0, c0, a1, c1, a2, c2, rfl, hd, hx⟩
 have X3 := hid (X2.out.trans (hx.mono X2.out.size))
 have OD := hid hd
 have OP3 := hid (OP.out.below hx)
 have hs12 := X1.out.size
 have hs23 := hx.size
 clear hd hx CO
 rcases two with h0 | h0
 case inr =>
  replace h0 : code = 181 := h0
  subst h0
  go_wp2
  go_ret
  exact ⟨rfl, X3.out.trans ((((Ext.refl _).alloc _).below).mono X3.out.size)⟩
 case inl =>
 replace h0 : code = 0 := h0
 subst h0
 have RT : Hid (Rt d) := hid (ofE_right HDC.out)
 have SD : Hid (Sm d) := hid RT.out.sm8
 go_upto_region 7 with fail
 refine wp_named ?_
 intro V hV
 have BD : Hid (Blk V w3.heap.size #[.slice a0 n0 c0, .slice a1 n1 c1, .slice a2 n2 c2] 31) := hid (by rw [hV]; exact Blk.new w3 _ _)
 have XV : Hid (Below w3.heap.size w3 V) := hid (by rw [hV]; exact ((Ext.refl w3).alloc _).below)
 clear hV
 have ODV := hid (OD.out.below XV.out)
 have OPV := hid (OP3.out.below XV.out)
 have X4 := hid (X3.out.trans (XV.out.mono X3.out.size))
 clear OD OP OP3 XV X3
 obtain ⟨b0, b1, b2⟩ := OwnDf.mk3 BD.out

 have DF0 : Hid (∀ W, Below V.heap.size V W -> IsDf W (.agg #[.slice a0 n0 c0, .slice a1 n1 c1, .slice a2 n2 c2]) d) := hid fun W hW => (ODV.out.below hW).df
 have CR : Hid (∀ (s : Nat) (v : Value) (x : List Nat), s < n1 -> (∀ c ∈ x, c < 256) -> x.length <= 1000 -> ∀ W, Below V.heap.size V W -> IsSl encB W v x -> Calls Tryz.prog 17 #[.agg #[.slice a0 n0 c0, .slice a1 n1 c1, .slice a2 n2 c2], .int .i64 s, v] W fun e w' => e = .returned (.tuple #[.int .i64 (runD d s x), .int .i64 0]) /\ Below W.heap.size W w') := hid fun s v x hs hx hxl W hW hv => dfaRun_any _ v d RT.out SD.out s (by rw [<- HN1.out]; exact hs) x hx (by omega) W (DF0.out W hW) hv
 have CSt : Hid (∀ (s x : Nat), s < n1 -> x < 256 -> ∀ W, Below V.heap.size V W -> Calls Tryz.prog 19 #[.agg #[.slice a0 n0 c0, .slice a1 n1 c1, .slice a2 n2 c2], .int .i64 s, .int .u8 x] W fun e w' => e = .returned (.tuple #[.int .i64 (nxt d s (cls d.cl x)), .int .i64 0]) /\ Below W.heap.size W w') := hid fun s x hs hx W hW => by
  have := dfaStep_any _ d SD.out (s : Int) x hx W (DF0.out W hW)
  rwa [stepE RT.out (by rw [<- HN1.out]; exact hs)] at this
 have CCl : Hid (∀ (x : Nat), x < 256 -> ∀ W, Below V.heap.size V W -> Calls Tryz.prog 20 #[.agg #[.slice a0 n0 c0, .slice a1 n1 c1, .slice a2 n2 c2], .int .u8 x] W fun e w' => e = .returned (.tuple #[.int .i64 (cls d.cl x), .int .i64 0]) /\ Below W.heap.size W w') := hid fun x hx W hW => by
  have := dfaClass_any _ d SD.out x hx W (DF0.out W hW)
  rwa [(right_iff d).2 RT.out, if_pos rfl] at this
 have LT : Hid (∀ s, s < n1 -> ∀ x, (∀ c ∈ x, c < 256) -> runD d s x < n1) := hid fun s hs x hx => by rw [HN1.out] at hs ⊢; exact runD_lt RT.out hs x hx
 have HP0 : 0 < n1 := by rw [HN1.out]; exact RT.out.pos
 clear OPV
 refine wp_region_reg false (fun _ => False) (by kernel_rfl) 11 [0, 0, 2, 6, 15, 0, 0, 64, 192, 480, 31, 2047] (fun i => i == 99) (by kernel_rfl) (fun _ => Eff.any _) ?_
 intro C hC hne
 have HC := hid hC
 clear hC
 repeat (refine regStep (fun K hK => ?_); first | (refine regN rfl ?_; try go_simp; refine hK _ _ ?_; clear hK K) | (refine regF rfl rfl ?_; unfold floatAt; go_simp; refine hK _ _ ?_; clear hK K))
 refine regNil (fun W hW hH => ?_)
 have hM := (HC.out W).1 hW
 have X5 := hid (X4.out.trans (hM.below.mono X4.out.size))
 have XW := hid hM.below
 have B5 := hid (BD.out.below hM.below BD.out.lt)
 clear hM hW hH HC hne b0 b1 b2 BD
 obtain ⟨b0, b1, b2⟩ := OwnDf.mk3 B5.out
 obtain ⟨S0, hS0⟩ : ∃ s, s = runD d 0 bb := ⟨_, rfl⟩
 have hS0n : S0 < n1 := by rw [hS0]; exact LT.out 0 HP0 bb HB2.out
 obtain ⟨T0, hT0⟩ : ∃ s, s = runD d S0 bbq := ⟨_, rfl⟩
 obtain ⟨bbc, hbbc⟩ : ∃ x, x = bb ++ bbq := ⟨_, rfl⟩
 have hU0 : runD d 0 bbc = T0 := by rw [hbbc, runD_append, <- hS0, hT0]
 have hcl : bbc.length <= 60 := by rw [hbbc, List.length_append, <- HBM.out, <- HBMq.out]; omega
 have HBBC := hid hbbc
 have HS0 := hid hS0
 have HT0 := hid hT0
 have HU0 := hid hU0
 have hz : ((0 : Nat) : Int) = 0 := rfl
 have CR0 := hid (CR.out 0 (.slice ba bm bc) bb HP0 HB2.out (by rw [<- HBM.out]; omega) W XW.out (HTK.out W X5.out))
 rw [<- hS0, hz] at CR0
 clear hS0 hT0 hU0 hz hbbc
 go_wp2_with fail
 refine CR0.out.mono ?_
 rintro e w5 ⟨rfl, hx⟩
 have X6 := hid (X5.out.trans (hx.mono X5.out.size))
 have XV6 := hid (XW.out.trans (hx.mono XW.out.size))
 have B6 := hid (B5.out.below hx B5.out.lt)
 have CR1 := hid (CR.out S0 (.slice baq bmq bcq) bbq hS0n HB2q.out (by rw [<- HBMq.out]; omega) w5 XV6.out (HTKq.out w5 X6.out))
 rw [<- HT0.out] at CR1
 clear hx B5 b0 b1 b2 X5 XW CR0
 obtain ⟨b0, b1, b2⟩ := OwnDf.mk3 B6.out
 go_wp2_with fail
 refine CR1.out.mono ?_
 rintro e w6 ⟨rfl, hx⟩
 have X7 := hid (X6.out.trans (hx.mono X6.out.size))
 have XV7 := hid (XV6.out.trans (hx.mono XV6.out.size))
 have B7 := hid (B6.out.below hx B6.out.lt)
 clear hx B6 b0 b1 b2 X6 XV6 CR1
 obtain ⟨b0, b1, b2⟩ := OwnDf.mk3 B7.out
 go_upto_region 10 with fail
 refine wp_region_reg false (fun _ => False) (by kernel_rfl) 11 [0, 0, 0, 6, 14, 31, 63, 127, 127, 255, 1023] (fun i => i == 3 || i == 4 || i == 5) (by kernel_rfl) (fun i => if i = 3 then Eff.two (.slice ba bm bc) (.slice baq bmq bcq) 23 else if i = 4 then Eff.slM encB bbc else if i = 5 then Eff.det _ (.tuple #[.int .i64 T0, .int .i64 0]) else Eff.any _) ?_
 intro C hC hne
 have HC := hid hC
 have f0 := regCell hC (p := ⟨w3.heap.size, 0, none⟩) B7.out.lt (fun h => h) b0
 have f1 := regCell hC (p := ⟨w3.heap.size, 1, none⟩) B7.out.lt (fun h => h) b1
 have f2 := regCell hC (p := ⟨w3.heap.size, 2, none⟩) B7.out.lt (fun h => h) b2
 clear hC b0 b1 b2
 repeat (refine regStep (fun K hK => ?_); first | (refine regN rfl ?_; try go_simp; refine hK _ _ ?_; clear hK K) | (refine regF rfl rfl ?_; unfold floatAt; go_simp; refine hK _ _ ?_; clear hK K))
 refine regStep (fun K hK => ?_)
 refine regE rfl rfl (Eff.two (.slice ba bm bc) (.slice baq bmq bcq) 23) rfl (fun W hW hN => ?_) (fun v hv => ?_)
 ·clear hN hK K hW
  go_simp
  exact ⟨Move.ext ((Ext.refl _).alloc _), ⟨_, rfl⟩, fun b hb => by cases hb; exact Blk.new _ _ _⟩
 obtain ⟨bz, rfl⟩ := hv
 go_simp
 refine hK _ _ ?_
 clear hK K
 refine regStep (fun K hK => ?_)
 refine regE rfl rfl (Eff.slM encB bbc) rfl (fun W hW hN => ?_) (fun v hv => ?_)
 ·have hM := (HC.out W).1 hW
  have hB2 : Blk W bz #[.slice ba bm bc, .slice baq bmq bcq] 23 := hN.at 0 rfl (by kernel_rfl) bz rfl
  have HBW := hid hB2
  have XWW := hid (X7.out.trans (hM.below.mono X7.out.size))
  clear hW hN hK K hB2
  go_simp
  refine effT_call ((concatB_any bz _ _ bb bbq (by rw [<- HBM.out]; omega) (by rw [<- HBMq.out]; omega) W HBW.out (HTK.out W XWW.out) (HTKq.out W XWW.out)).mono ?_)
  rintro e w2 ⟨u, rfl, ho, hx⟩
  rw [<- HBBC.out] at ho
  exact ⟨_, rfl, Move.of_below hx, (ownsRow_sl ho rfl).form, ownsRow_sl ho rfl⟩
 obtain ⟨ka, kc, rfl⟩ := hv
 go_simp
 refine hK _ _ ?_
 clear hK K
 refine regStep (fun K hK => ?_)
 refine regE rfl rfl (Eff.det _ (.tuple #[.int .i64 T0, .int .i64 0])) rfl (fun W hW hN => ?_) (fun v hv => ?_)
 ·have hM := (HC.out W).1 hW
  have hsl : IsSl encB W (.slice ka bbc.length kc) bbc := hN.at 0 rfl (by kernel_rfl)
  have hcr := CR.out 0 _ bbc HP0 (fun x hx => (List.mem_append.1 (by rw [<- HBBC.out]; exact hx)).elim (HB2.out x) (HB2q.out x)) (by omega) W (XV7.out.trans (hM.below.mono XV7.out.size)) hsl
  rw [HU0.out, show ((0 : Nat) : Int) = 0 from rfl] at hcr
  have HCR := hid hcr
  clear hW hN hK K hsl hcr
  go_simp
  refine effT_call (HCR.out.mono ?_)
  rintro e w2 ⟨rfl, hx⟩
  exact ⟨_, rfl, Move.of_below hx, rfl, trivial⟩
 replace hv : v = _ := hv
 subst hv
 go_simp
 refine hK _ _ ?_
 clear hK K
 repeat (refine regStep (fun K hK => ?_); first | (refine regN rfl ?_; try go_simp; refine hK _ _ ?_; clear hK K) | (refine regF rfl rfl ?_; unfold floatAt; go_simp; refine hK _ _ ?_; clear hK K))
 refine regNil (fun W hW hH => ?_)
 have hM := (HC.out W).1 hW
 have X8 := hid (X7.out.trans (hM.below.mono X7.out.size))
 have XV8 := hid (XV7.out.trans (hM.below.mono XV7.out.size))
 have B8 := hid (B7.out.below hM.below B7.out.lt)
 clear hM hW hH HC hne f0 f1 f2 B7 X7 XV7
 have hTT : ((T0 : Int) != (T0 : Int)) = false := by simp
 go_wp2
 go_loopw [11, 95] (fun sv iv wr => ∃ k : Nat, k <= bmq /\ iv = .int .i64 k /\ sv = .int .i64 (runD d S0 (bbq.take k)) /\ Below W.heap.size W wr) (fun _ iv _ => bmq - (intOf iv).toNat)
 case atStart => exact ⟨0, Nat.zero_le _, rfl, rfl, Below.refl _ _⟩
 case round =>
  obtain ⟨k, hk, rfl, rfl, hx⟩ := hrel
  obtain ⟨wo, rfl⟩ : ∃ wo : World, wo = wr := ⟨_, rfl⟩
  have HX := hid hx
  have X9 := hid (X8.out.trans (hx.mono X8.out.size))
  have XV9 := hid (XV8.out.trans (hx.mono XV8.out.size))
  have B9 := hid (B8.out.below hx B8.out.lt)
  clear hx
  by_cases hlt : k < bmq
  ·have hki : (k : Int) < (bmq : Int) := by omega
   obtain ⟨x, hxk⟩ : ∃ x, bbq[k]? = some x := ⟨_, List.getElem?_eq_getElem (by rw [<- HBMq.out]; exact hlt)⟩
   obtain ⟨x0, hx0⟩ : ∃ x, bbq[0]? = some x := ⟨_, List.getElem?_eq_getElem (by rw [<- HBMq.out]; omega)⟩
   have hx256 : x < 256 := HB2q.out x (List.mem_of_getElem? hxk)
   have hx0256 : x0 < 256 := HB2q.out x0 (List.mem_of_getElem? hx0)
   obtain ⟨s, hs⟩ : ∃ s, s = runD d S0 (bbq.take k) := ⟨_, rfl⟩
   rw [<- hs]
   have hsn : s < n1 := by rw [hs]; exact LT.out S0 hS0n _ fun y hy => HB2q.out y (List.mem_of_mem_take hy)
   obtain ⟨cx, hcx⟩ : ∃ z, z = cls d.cl x := ⟨_, rfl⟩
   obtain ⟨cz, hcz⟩ : ∃ z, z = cls d.cl x0 := ⟨_, rfl⟩
   obtain ⟨nx, hnx⟩ : ∃ z, z = nxt d s cx := ⟨_, rfl⟩
   obtain ⟨nz, hnz⟩ : ∃ z, z = nxt d s cz := ⟨_, rfl⟩
   have hstep : runD d S0 (bbq.take (k + 1)) = nx := by rw [runD_take hxk, <- hs, hnx, hcx]
   have hcn : cx < n0 := by rw [HN0.out, hcx]; exact cls_len RT.out hx256
   have hk0 : k = 0 -> cx = cz := fun e => by
    subst e
    rw [hxk] at hx0
    cases hx0
    rw [hcx, hcz]
   have heq : cx = cz -> nz = nx := fun e => by rw [hnx, hnz, e]
   have C1 := hid fun (W : World) (hW : Below wo.heap.size wo W) => CSt.out s x hsn hx256 W (XV9.out.trans (hW.mono XV9.out.size))
   have C2 := hid fun (W : World) (hW : Below wo.heap.size wo W) => CCl.out x hx256 W (XV9.out.trans (hW.mono XV9.out.size))
   have C3 := hid fun (W : World) (hW : Below wo.heap.size wo W) => CCl.out x0 hx0256 W (XV9.out.trans (hW.mono XV9.out.size))
   have C4 := hid fun (W : World) (hW : Below wo.heap.size wo W) => CSt.out s x0 hsn hx0256 W (XV9.out.trans (hW.mono XV9.out.size))
   rw [<- hcx, <- hnx] at C1
   rw [<- hcx] at C2
   rw [<- hcz] at C3
   rw [<- hcz, <- hnz] at C4
   have EL : Hid (∃ g off, baq = some ⟨g, off, none⟩ /\ g < wo.heap.size /\ wo.cell? ⟨g, off + k, none⟩ = some (.int .u8 x) /\ wo.cell? ⟨g, off, none⟩ = some (.int .u8 x0)) := hid (by
    obtain ⟨g, off, e, hg, q⟩ := (HTKq.out wo X9.out).elem hxk
    obtain ⟨g', off', e', hg', q'⟩ := (HTKq.out wo X9.out).elem hx0
    rw [e] at e'
    cases e'
    have q2 : wo.cell? ⟨g, off + 0, none⟩ = some (.int .u8 x0) := q'
    exact ⟨g, off, e, hg, q, by simpa using q2⟩)
   have HSTEP := hid hstep
   have HK0 := hid hk0
   have HEQ := hid heq
   clear hs hcx hcz hnx hnz hstep hk0 heq hxk hx0
   obtain ⟨g, off, hge, hg, q, q'⟩ := EL.out
   subst hge
   clear EL
   have hb0 : 0 < bmq := by omega
   have hb0i : (0 : Int) < (bmq : Int) := by omega
   obtain ⟨b0, b1, b2⟩ := OwnDf.mk3 B9.out
   go_wp2_with fail
   refine (C1.out wo (Below.refl _ _)).mono ?_
   rintro e w10 ⟨rfl, hx⟩
   have hw0 := hid hx
   have BA := hid (B9.out.below hx B9.out.lt)
   have q2 := ((Keeps.of_below hx fun _ h => h : Keeps (· < wo.heap.size) wo w10).cell (p := ⟨g, off, none⟩) hg).trans q'
   clear hx b0 b1 b2 B9 q q'
   obtain ⟨b0, b1, b2⟩ := OwnDf.mk3 BA.out
   go_wp2_with fail
   refine (C2.out w10 hw0.out).mono ?_
   rintro e w11 ⟨rfl, hx⟩
   have hw1 := hid (hw0.out.trans (hx.mono hw0.out.size))
   have BB := hid (BA.out.below hx BA.out.lt)
   have hg2 : g < w10.heap.size := Nat.lt_of_lt_of_le hg hw0.out.size
   have q3 := ((Keeps.of_below hx fun _ h => h : Keeps (· < w10.heap.size) w10 w11).cell (p := ⟨g, off, none⟩) hg2).trans q2
   have hg3 : g < w11.heap.size := Nat.lt_of_lt_of_le hg2 hx.size
   clear hx b0 b1 b2 BA q2 hw0 hg2
   obtain ⟨b0, b1, b2⟩ := OwnDf.mk3 BB.out
   go_upto_region 18 with fail
   refine wp_region_reg false (fun _ => False) (by kernel_rfl) 10 [0, 0, 2, 6, 15, 31, 63, 63, 127, 511] (fun i => i == 4) (by kernel_rfl) (fun i => if i = 4 then Eff.det _ (.tuple #[.int .i64 cz, .int .i64 0]) else Eff.any _) ?_
   intro C hC hne
   have HC := hid hC
   have f0 := regCell hC (p := ⟨w3.heap.size, 0, none⟩) BB.out.lt (fun h => h) b0
   have f1 := regCell hC (p := ⟨w3.heap.size, 1, none⟩) BB.out.lt (fun h => h) b1
   have f2 := regCell hC (p := ⟨w3.heap.size, 2, none⟩) BB.out.lt (fun h => h) b2
   have f3 := regCell hC (p := ⟨g, off, none⟩) hg3 (fun h => h) q3
   clear hC b0 b1 b2
   repeat (refine regStep (fun K hK => ?_); first | (refine regN rfl ?_; try go_simp; refine hK _ _ ?_; clear hK K) | (refine regF rfl rfl ?_; unfold floatAt; go_simp; refine hK _ _ ?_; clear hK K))
   refine regStep (fun K hK => ?_)
   refine regE rfl rfl (Eff.det _ (.tuple #[.int .i64 cz, .int .i64 0])) rfl (fun W hW hN => ?_) (fun v hv => ?_)
   ·have hM := (HC.out W).1 hW
    clear hW
    go_simp
    refine effT_call ((C3.out W (hw1.out.trans (hM.below.mono hw1.out.size))).mono ?_)
    rintro e w2 ⟨rfl, hx⟩
    exact ⟨_, rfl, Move.of_below hx, rfl, trivial⟩
   replace hv : v = _ := hv
   subst hv
   go_simp
   refine hK _ _ ?_
   clear hK K
   repeat (refine regStep (fun K hK => ?_); first | (refine regN rfl ?_; try go_simp; refine hK _ _ ?_; clear hK K) | (refine regF rfl rfl ?_; unfold floatAt; go_simp; refine hK _ _ ?_; clear hK K))
   refine regNil (fun W2 hW hH => ?_)
   have hM := (HC.out W2).1 hW
   have hw2 := hid (hw1.out.trans (hM.below.mono hw1.out.size))
   have BC := hid (BB.out.below hM.below BB.out.lt)
   have q4 := ((Keeps.of_below hM.below fun _ h => h : Keeps (· < w11.heap.size) w11 W2).cell (p := ⟨g, off, none⟩) hg3).trans q3
   have hg4 : g < W2.heap.size := Nat.lt_of_lt_of_le hg3 hM.size
   clear hM hW hH HC hne f0 f1 f2 f3 BB q3 hg3 hw1
   obtain ⟨b0, b1, b2⟩ := OwnDf.mk3 BC.out
   go_upto_region 19 with fail
   refine wp_region_reg false (fun _ => False) (by kernel_rfl) 11 [0, 0, 0, 4, 12, 31, 63, 127, 127, 255, 1023] (fun i => i == 5) (by kernel_rfl) (fun i => if i = 5 then Eff.det _ (.tuple #[.int .i64 nz, .int .i64 0]) else Eff.any _) ?_
   intro C hC hne
   have HC := hid hC
   have f0 := regCell hC (p := ⟨w3.heap.size, 0, none⟩) BC.out.lt (fun h => h) b0
   have f1 := regCell hC (p := ⟨w3.heap.size, 1, none⟩) BC.out.lt (fun h => h) b1
   have f2 := regCell hC (p := ⟨w3.heap.size, 2, none⟩) BC.out.lt (fun h => h) b2
   have f3 := regCell hC (p := ⟨g, off, none⟩) hg4 (fun h => h) q4
   clear hC b0 b1 b2
   repeat (refine regStep (fun K hK => ?_); first | (refine regN rfl ?_; try go_simp; refine hK _ _ ?_; clear hK K) | (refine regF rfl rfl ?_; unfold floatAt; go_simp; refine hK _ _ ?_; clear hK K))
   refine regStep (fun K hK => ?_)
   refine regE rfl rfl (Eff.det _ (.tuple #[.int .i64 nz, .int .i64 0])) rfl (fun W hW hN => ?_) (fun v hv => ?_)
   ·have hM := (HC.out W).1 hW
    clear hW
    go_simp
    refine effT_call ((C4.out W (hw2.out.trans (hM.below.mono hw2.out.size))).mono ?_)
    rintro e w2 ⟨rfl, hx⟩
    exact ⟨_, rfl, Move.of_below hx, rfl, trivial⟩
   replace hv : v = _ := hv
   subst hv
   go_simp
   refine hK _ _ ?_
   clear hK K
   repeat (refine regStep (fun K hK => ?_); first | (refine regN rfl ?_; try go_simp; refine hK _ _ ?_; clear hK K) | (refine regF rfl rfl ?_; unfold floatAt; go_simp; refine hK _ _ ?_; clear hK K))
   refine regNil (fun W3 hW hH => ?_)
   have hM := (HC.out W3).1 hW
   have hw3 := hid (hw2.out.trans (hM.below.mono hw2.out.size))
   have BE := hid (BC.out.below hM.below BC.out.lt)
   clear hM hW hH HC hne f0 f1 f2 f3 BC q4 hg4 hw2
   obtain ⟨b0, b1, b2⟩ := OwnDf.mk3 BE.out
   have g1 : ¬ ((n0 : Int) <= (cx : Int)) := by omega
   have g2 : ¬ ((cx : Int) < 0) := by omega
   go_upto_region 20 with fail
   go_cut [167] from 130 to 167 (fun v wx => v = .bool false /\ wx = W3)
   case first =>
    by_cases hcc : cx = cz
    ·have e1 : ((cx : Int) == (cz : Int)) = true := by simp [hcc]
     have e2 : ((nz : Int) != (nx : Int)) = false := by simp [HEQ.out hcc]
     by_cases hkz : k = 0
     ·have e3 : ((k : Int) == 0) = true := by simp [hkz]
      clear hcc hkz
      go_wp2_with fail
      go_meet
      exact ⟨rfl, rfl⟩
     ·have e3 : ((k : Int) == 0) = false := by simp; omega
      clear hcc hkz
      go_wp2_with fail
      go_meet
      exact ⟨rfl, rfl⟩
    ·have e1 : ((cx : Int) == (cz : Int)) = false := by simp; omega
     have e3 : ((k : Int) == 0) = false := by simp; exact fun e => hcc (HK0.out (by omega))
     clear hcc
     go_wp2_with fail
     go_meet
     exact ⟨rfl, rfl⟩
   case rest =>
   obtain ⟨rfl, hwc⟩ := hcut
   replace hwc := hwc.symm
   subst hwc
   go_wp2
   go_roundw
   case rel => exact ⟨k + 1, by omega, by go_num, by rw [HSTEP.out], HX.out.trans (hw3.out.mono HX.out.size)⟩
   case measure => simp [intOf]; omega
  ·obtain rfl : k = bmq := by omega
   have hki : ¬ ((k : Int) < (k : Int)) := by omega
   have hT9 : runD d S0 (bbq.take k) = T0 := by rw [HT0.out, HBMq.out, List.take_length]
   rw [hT9]
   go_wp2
   go_ret
   exact ⟨rfl, X9.out⟩
end Go.Proofs.YtbiboekhakbnpaaGreatDoor
namespace Go.Proofs.YtbiboekhakbnpaaGreatDoor
open Go Go.ChangeShapes Go.WideShapes Go.ChangeAt Go.RowKit

theorem osplit_gTab : Tryz.prog.globalNamed "internal/strconv.uint64pow10" = some 0 := by kernel_rfl
theorem osplit_gTabType : (Tryz.prog.globals[0]?).map (·.type) = some 251 := by kernel_rfl
theorem osplit_cellsT : Tryz.prog.cellsOf 251 = 20 := by kernel_rfl
theorem osplit_cellsE : Tryz.prog.cellsOf 68 = 1 := by kernel_rfl
theorem osplit_table {W : World} (h : laidMetH Tryz.prog Rows.dfaSplitRow.laid W) : TabW W := by
 have h1 : laidMet Tryz.prog [("math/bits.deBruijn32tab", Rows.laid_math_bits_deBruijn32tab), ("math/bits.deBruijn64tab", Rows.laid_math_bits_deBruijn64tab), ("internal/strconv.uint64pow10", Lib.tabData .u64 Lib.pow10Tab)] W := h
 exact Lib.tabIs_of_head (rest := []) osplit_gTab osplit_gTabType Tryz.underlying251 Tryz.underlying68 osplit_cellsE osplit_cellsT h1.tail.tail
noncomputable def osplit_fill (cs : Array Value) : Obj -> Obj
 | .cells _ t frozen => .cells cs t frozen
 | o => o
noncomputable def osplit_world (os : Os) : World :=
 { World.holding Tryz.prog os ⟨#[], #[], []⟩ with heap := (((World.holding Tryz.prog os ⟨#[], #[], []⟩).heap.modify 0 (osplit_fill #[.int .u64 1, .int .u64 10, .int .u64 100, .int .u64 1000, .int .u64 10000, .int .u64 100000, .int .u64 1000000, .int .u64 10000000, .int .u64 100000000, .int .u64 1000000000, .int .u64 10000000000, .int .u64 100000000000, .int .u64 1000000000000, .int .u64 10000000000000, .int .u64 100000000000000, .int .u64 1000000000000000, .int .u64 10000000000000000, .int .u64 100000000000000000, .int .u64 1000000000000000000, .int .u64 10000000000000000000])).modify 1 (osplit_fill #[.int .u8 0, .int .u8 1, .int .u8 28, .int .u8 2, .int .u8 29, .int .u8 14, .int .u8 24, .int .u8 3, .int .u8 30, .int .u8 22, .int .u8 20, .int .u8 15, .int .u8 25, .int .u8 17, .int .u8 4, .int .u8 8, .int .u8 31, .int .u8 27, .int .u8 13, .int .u8 23, .int .u8 21, .int .u8 19, .int .u8 16, .int .u8 7, .int .u8 26, .int .u8 12, .int .u8 18, .int .u8 6, .int .u8 11, .int .u8 5, .int .u8 10, .int .u8 9])).modify 2 (osplit_fill #[.int .u8 0, .int .u8 1, .int .u8 56, .int .u8 2, .int .u8 57, .int .u8 49, .int .u8 28, .int .u8 3, .int .u8 61, .int .u8 58, .int .u8 42, .int .u8 50, .int .u8 38, .int .u8 29, .int .u8 17, .int .u8 4, .int .u8 62, .int .u8 47, .int .u8 59, .int .u8 36, .int .u8 45, .int .u8 43, .int .u8 51, .int .u8 22, .int .u8 53, .int .u8 39, .int .u8 33, .int .u8 30, .int .u8 24, .int .u8 18, .int .u8 12, .int .u8 5, .int .u8 63, .int .u8 55, .int .u8 48, .int .u8 27, .int .u8 60, .int .u8 41, .int .u8 37, .int .u8 16, .int .u8 46, .int .u8 35, .int .u8 44, .int .u8 21, .int .u8 52, .int .u8 32, .int .u8 23, .int .u8 11, .int .u8 54, .int .u8 26, .int .u8 40, .int .u8 15, .int .u8 34, .int .u8 20, .int .u8 31, .int .u8 10, .int .u8 25, .int .u8 14, .int .u8 19, .int .u8 9, .int .u8 13, .int .u8 8, .int .u8 7, .int .u8 6]) }
theorem osplit_met (os : Os) : laidMet Tryz.prog Rows.dfaSplitRow.laid ((osplit_world os).forCall (fun _ _ => 0) ⟨#[], #[.slice none 0 0, .slice none 0 0, .slice none 0 0], []⟩).memory :=
 laidMet_of_run' 8 (by kernel_rfl) (by kernel_rfl)
theorem osplit_reads (os : Os) {H : Type} (enc : TypeId × Value -> H) : ∃ places, DataW.whole enc Tryz.prog ((osplit_world os).forCall (fun _ _ => 0) ⟨#[], #[.slice none 0 0, .slice none 0 0, .slice none 0 0], []⟩).memory Tryz.f5.params.toList Rows.dfaSplitSpec.vars false (#[.slice none 0 0, .slice none 0 0, .slice none 0 0] : Array Value).toList 8 = some ([.nil, .nil, .nil], [], places) :=
 ⟨[], by kernel_rfl⟩

theorem osplit_lifted (os : Os) (started : os.Started) (H : Type) (enc : TypeId × Value -> H) (F : Stop.Interp) :
  ReturnsInHanded {} Tryz.checked os 5 .any ((OpenSpec.ofChange Rows.dfaSplitSpec).preRow enc Tryz.prog Tryz.f5 Rows.dfaSplitRow.domain false Rows.dfaSplitRow.laid) (((OpenSpec.ofChange Rows.dfaSplitSpec).at F).post enc Tryz.prog Tryz.f5 false true false false) := by
 obtain ⟨places, hx⟩ := osplit_reads os enc
 refine returnsInHanded_of_row (C := Tryz.checked) (s := OpenSpec.ofChange Rows.dfaSplitSpec) Tryz.own started (by kernel_rfl) Tryz.func5
  (witness_row_at (enc := enc) (C := Tryz.checked) false (osplit_world os) #[.slice none 0 0, .slice none 0 0, .slice none 0 0] rfl (by kernel_rfl) (by kernel_rfl) (by kernel_rfl)
   (OpenSpec.preRow_of_cond 8 hx (by kernel_rfl) (fun k hk => by cases hk) (by kernel_rfl) (osplit_met os))) ?_
 intro W base args ds gs before hval0 hW _ _ hsz0 hL _ _
 have hval : ∀ (j : Nat) t v, Tryz.f5.params[j]? = some t -> args[j]? = some v -> Value.okWide Tryz.prog W .any base t v := hval0
 have hT : ∀ V, Below W.heap.size W V -> TabW V := fun V hV => (osplit_table hL).below hV
 have hW1 : DataW.Whole enc Tryz.prog Tryz.f5.params.toList Rows.dfaSplitSpec.vars false W args.toList ds gs before := hW
 have hW' := hW1
 obtain ⟨p, q, hA0, hV, rfl, hfz, hnd⟩ := hW1
 have hA : DataW.TrodAll enc Tryz.prog W 0 (fun _ => true) true Tryz.f5.params.toList args.toList ds p := hA0
 have hsz : (DataW.weightsEach Tryz.prog (Tryz.f5.params.toList ++ Rows.dfaSplitSpec.plain.varTypes Tryz.prog) (ds ++ gs)).all (· <= reachBytes) = true := hsz0
 rw [Tryz.params5] at hA hval hsz
 obtain ⟨v0, v1, v2, d0, d1, d2, p0, p1, p2, rfl, rfl, rfl, h0, h1, h2⟩ := trodAll_three hA
 obtain ⟨l0, s0, g0⟩ := open_s18 (hval 0 _ v0 rfl rfl) h0 (sized_arg hsz (j := 0) rfl rfl)
 obtain ⟨l1, _, r1, s1⟩ := open_bytesB (hval 1 _ v1 rfl rfl) h1
 obtain ⟨l2, _, r2, s2⟩ := open_bytesB (hval 2 _ v2 rfl rfl) h2
 refine (dfaSplitLaw_any v0 v1 v2 l0 g0 l1 r1 l2 r2 W s0 s1 s2 hT).mono fun e W' ⟨he, hw⟩ => ⟨_, he, ?_⟩
 exact law_post (s := Rows.dfaSplitSpec) Tryz.laidOut rfl (by rw [Tryz.params5]; exact of_decide_eq_true (by kernel_rfl)) rfl Tryz.underlying4 rfl hW' hw
theorem osplit_said : Rows.DfaSplitSaid :=
 OpenClaim.holds_of_cond 5 Tryz.f5 rfl rfl rfl rfl rfl rfl rfl ⟨rfl, rfl, rfl, rfl, rfl⟩ rfl rfl rfl rfl rfl (by kernel_rfl) Tryz.func5 (by kernel_rfl)
  (of_decide_eq_true (by kernel_rfl)) (by unfold Func.isWrapper; first | (rw [if_pos (by decide +kernel)]; kernel_rfl) | (rw [if_neg (by decide +kernel)]; exact ⟨rfl, rfl⟩))
  (fun os started H enc _ F => by rw [OpenClaim.pre_eq_preRow]; exact osplit_lifted os started H enc F)
theorem osplit_plain (f : FuncId) (fn : Func) (hf : Tryz.pinned.checked.prog.funcNamed "repartee/reparteelaw18.DfaSplit" = some f) (hfn : Tryz.pinned.checked.prog.funcs[f]? = some fn) :
  true = Tryz.pinned.checked.prog.looks [] /\ ∀ (j : Nat) t, fn.params[j]? = some t -> Tryz.pinned.checked.prog.wantsStandIn t = false := by
 obtain rfl : f = 5 := Option.some.inj ((show Tryz.prog.funcNamed "repartee/reparteelaw18.DfaSplit" = some 5 by kernel_rfl).symm.trans hf) |>.symm
 obtain rfl : fn = Tryz.f5 := (Option.some.inj (Tryz.func5.symm.trans hfn)).symm
 refine ⟨by kernel_rfl, fun j t ht => ?_⟩
 rw [Tryz.params5] at ht
 have h2 : t = 22 \/ t = 23 := by
  have := Array.mem_of_getElem? ht
  simpa using this
 rcases h2 with rfl | rfl
 ·exact (show Tryz.prog.wantsStandIn 22 = false by kernel_rfl)
 ·exact (show Tryz.prog.wantsStandIn 23 = false by kernel_rfl)
theorem osplit_card : Rows.DfaSplitCardSaid :=
 Claim7.holds_tied_plain_at .later [] _ _ _ _ osplit_said (fun _ h => by cases h) (by kernel_rfl) (fun _ h => by cases h) dfaSplit_row_tie rfl ⟨rfl, rfl⟩ (by kernel_rfl) rfl osplit_plain (by kernel_rfl)
end Go.Proofs.YtbiboekhakbnpaaGreatDoor
