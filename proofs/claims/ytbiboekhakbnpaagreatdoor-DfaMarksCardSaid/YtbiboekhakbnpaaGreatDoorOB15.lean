/-
  slices.AppendSeq, slices.Collect at ints (from XSets, at bytes).
  The iterator over a set of positions; its list.
  nfa.accepts, nfa.Accepts: whether a state set of a right automaton accepts.
-/
import Derived.Test.YtbiboekhakbnpaaGreatDoorOB14
set_option maxRecDepth 100000
set_option maxHeartbeats 16000000
open Go.Lib (hid)
namespace Go.Proofs.YtbiboekhakbnpaaGreatDoor
open Go Go.RowKit Go.Shelf Go.Maps
attribute [local go_sem] encS Oper.semAt_some wide_fn wide_depth

def encP (p : Nat) : Value := .int .i64 (p : Int)
theorem appendSeqI_any {d : Bool} {gf : Nat} {lb : Array Value} {R : Nat -> Prop} (xs : List Nat) (w : World) (hseq : Seq d Tryz.prog gf lb (fun c : Nat => #[.int .i64 (c : Int)]) R xs w) (eg : ∀ args w, (callFunc gf args).run Tryz.prog w = .ok (.enter gf args) w) (hR : ∀ k, R k -> k < w.heap.size) (hn : xs.length <= 1000000) :
  Calls Tryz.prog 148 #[.slice none 0 0, .func (.func gf) #[] lb] w fun e w' => ∃ v, e = .returned v /\ w'.ownsRow w.heap.size 3 1 v xs.length (xs.map encP) /\ Below w.heap.size w w' := by
 obtain ⟨i0, hi, hz0, hz1, hz2⟩ := info_parts Tryz.infoI
 refine calls_of_wp_marks Tryz.func148 rfl ?_
 simp only [Tryz.ntmps148, List.size_toArray, List.length_cons, List.length_nil, Nat.reduceAdd, Nat.reduceSub, Array.replicate_succ, Array.replicate_zero, List.push_toArray, List.append_toArray, List.nil_append, List.cons_append]
 go_wp2
 refine wp_named ?_
 intro W0 hW0
 have h1 : Blk W0 w.heap.size #[.slice none 0 0] 37 := by rw [hW0]; exact Blk.new _ _ _
 have hx : Ext w W0 := by rw [hW0]; exact (Ext.refl w).alloc _
 have hsz : W0.heap.size = w.heap.size + 1 := by rw [hW0]; simp
 refine wp_range1 (w := W0) (hseq.at hx.keeps) (by rfl) eg (by intro _; rfl) (by intro k hk; have := hR k hk; omega)
  (fun xs T W => ∃ v, Blk W w.heap.size #[v] 37 /\ W.ownsRow (w.heap.size + 1) 3 1 v xs.length (xs.map encP) /\ (∀ k, v.ownBlock = some k -> ¬ T k) /\ Below w.heap.size w W)
  (fun _ _ _ _ => False)
  ?_
  (fun c xs T T' W W' h => h.elim)
  ⟨_, h1, World.ownsRow_nil _ _ _ _, fun _ _ h => h, hx.below⟩
  (fun x => ⟨#[.slice none 0 0, .func (.func gf) #[] lb, .pointer (some ⟨w.heap.size, 0, none⟩), undef, .slice none 0 0, .int .i64 (x : Int), .func (.func gf) #[] lb, .int .i64 (x : Int), undef, undef, undef, undef, undef], []⟩) ?assign ?body ?done ?stop
 ·intro xs T T' W W' ⟨v, g1, g2, g3, g4⟩ hT hT' hs hn hk
  refine ⟨v, g1.stab hT hk (by omega), ownsRow_keeps g2 hk.1 (fun k e => ⟨(g2.lt k e).2, g3 k e⟩), fun k e ht => ?_, belowStab g4 hT hk (Nat.le_refl _) (by omega)⟩
  rcases hn k ht with h | h
  ·exact g3 k e h
  ·have := (g2.lt k e).2; omega
 case assign =>
  intro l x W K hK
  gi_wp2
  exact hK
 case body =>
  rintro l pre x T W hpre hT _ hTl hl ⟨v, g1, g2, g3, g4⟩
  have c1 : W.cell? ⟨w.heap.size, 0, none⟩ = some v := g1.cell 0
  have f1 := g1.frozen 0
  have hlen : pre.length < xs.length := by obtain ⟨r, hr⟩ := hpre; rw [<- hr]; simp
  have G1 := hid g1
  have G3 := hid g3
  have G4 := hid g4
  have HSZ := hid hsz
  have HT := hid hT
  clear g1 g3 g4 hsz hW0 hT hl hTl
  gi_wp2_with (gi_at_builtin; refine wpListIn_append_own_at _ rfl _ _ 37 rfl (w.heap.size + 1) 3 i0 (.int .i64 0) 1 8 Tryz.underlying37 hi hz0 hz1 hz2 rfl (by decide) _ _ _ rfl (g2.alloc _) ⟨W.heap.size, 0, none⟩ 1 1 [encP x] rfl rfl (cell_one_new _ _ _) (by simp [Value.oneCell', encP]) (by unfold maxLen; omega) (by omega) (by have h1 := G4.out.size; have h2 := HSZ.out; have h3 := G1.out.lt; simp; omega) ?_; intro v' w1 hown' hgrow hh hat; obtain ⟨g', cap', rfl⟩ := ownsRow_succ hown'; have hb1 := (G1.out.alloc (.cells #[.int .i64 (x : Int)] 3 (0, 0))).grown hgrow (fun e => by have := (g2.lt _ e.symm).1; omega); have c2 := hb1.cell 0; have f2 := hb1.frozen 0; have HB := hid hb1; have HO := hid hown'; have HG := hid hgrow; have H2 := hid g2; have HAT := hid hat; clear hown' hgrow hb1 g2 hh hat)
  have hgT : ¬ T g' := fun ht => by
   rcases HAT.out with h | h
   ·exact G3.out g' h.symm ht
   ·have h1 := (HT.out g' ht).2; simp [Value.ownBlock] at h; omega
  have hkT : ∀ k, (R k \/ T k) -> k < W.heap.size /\ some k ≠ v.ownBlock := fun k hk => by
   refine ⟨?_, fun e => ?_⟩
   ·rcases hk with hk | hk
    ·have h1 := hR k hk; have h2 := G4.out.size; omega
    ·exact (HT.out k hk).2
   ·rcases hk with hk | hk
    ·have h1 := hR k hk; have h2 := (H2.out.lt k e.symm).1; omega
    ·exact G3.out k e.symm hk
  have hk1 : Keeps (fun k => R k \/ T k) W w1 := (((Keeps.refl _ W).alloc (fun k hk => (hkT k hk).1) _)).tr (Keeps.of_grown HG.out fun k hk => ⟨by have := (hkT k hk).1; simp; omega, (hkT k hk).2⟩)
  have hbx : ∀ k, (R k \/ T k) -> k ≠ w.heap.size := fun k hk => by
   rcases hk with hk | hk
   ·have h1 := hR k hk; omega
   ·have h1 := (HT.out k hk).1; have h2 := HSZ.out; omega
  refine ⟨hk1.setCell (fun h => hbx _ h rfl) _, _, HB.out.set 0 _, ?_, fun k e => ?_, ?_⟩
  ·rw [List.length_append, List.map_append]
   exact ownsRow_keeps HO.out ((Keeps.refl (fun k => k ≠ w.heap.size) _).setCell (by simp) _) (fun k e => by have := (HO.out.lt k e).1; omega)
  ·simp [Value.ownBlock] at e; subst e; exact hgT
  ·exact ((G4.out.alloc (by exact G4.out.size) _).grown HG.out (by have := G4.out.size; simp; omega) (fun k e => by have := (H2.out.lt k e).1; omega)).setCell (Nat.le_refl _) _
 case done =>
  rintro D T W hD hTD hT ⟨v, g1, g2, g3, g4⟩ hDD
  have c1 : W.cell? ⟨w.heap.size, 0, none⟩ = some v := g1.cell 0
  have G2 := hid g2
  have G4 := hid g4
  have HD := hid hD
  have HSZ := hid hsz
  have HDD := hid hDD
  clear g1 g2 g3 g4 hsz hW0 hT hTD hDD hD
  dsimp only
  go_wp2
  refine markPost_ret rfl HDD.out (results_tmp rfl _ _ _) ⟨v, rfl, ownsRow_putObj (ownsRow_base G2.out (by omega)) _ HDD.out rfl, ((Keeps.of_below G4.out (fun _ h => h)).putObj (by have := HD.out; have := HSZ.out; omega) _).below⟩
 case stop => rintro D c pre T W _ _ _ _ h _; exact h.elim

theorem collectI_any {d : Bool} {gf : Nat} {lb : Array Value} {R : Nat -> Prop} (xs : List Nat) (w : World) (hseq : Seq d Tryz.prog gf lb (fun c : Nat => #[.int .i64 (c : Int)]) R xs w) (eg : ∀ args w, (callFunc gf args).run Tryz.prog w = .ok (.enter gf args) w) (hR : ∀ k, R k -> k < w.heap.size) (hn : xs.length <= 1000000) :
  Calls Tryz.prog 114 #[.func (.func gf) #[] lb] w fun e w' => ∃ v, e = .returned v /\ w'.ownsRow w.heap.size 3 1 v xs.length (xs.map encP) /\ Below w.heap.size w w' := by
 have H := hid (appendSeqI_any xs w hseq eg hR hn)
 clear hseq eg
 go_enter Tryz.func114, Tryz.ntmps114
 go_wp2_with (go_at_call 148; refine H.out.mono ?_; rintro e w1 ⟨v, rfl, h1, h2⟩; have H1 := hid h1; have H2 := hid h2; clear h1 h2)
 go_ret
 exact ⟨v, rfl, H1.out, H2.out⟩

end Go.Proofs.YtbiboekhakbnpaaGreatDoor
namespace Go.Proofs.YtbiboekhakbnpaaGreatDoor
open Go Go.RowKit Go.Shelf Go.Maps
attribute [local go_sem] Oper.semAt_some wide_fn wide_depth

theorem bitsAll_seq (s : Nat -> BitVec 64) (B b : Nat) (w : World) (hB : Blk w B #[.pointer (some ⟨b, 0, none⟩)] 174) (hb0 : Blk w b (encW s) 129) : Seq true Tryz.prog 149 #[.pointer (some ⟨B, 0, none⟩)] (fun p : Nat => #[.int .i64 (p : Int)]) (fun k => k = B \/ k = b) (posW s 448) w := by
 intro l J Jx W hK hJ hJx hY h0
 have HY := hid hY
 have HH := hid (bitsHas_any s b)
 clear hY
 have B0 := hB.keeps hK hB.lt
 have B1 := hb0.keeps hK hb0.lt
 clear hB hb0
 refine callsIn_wide (n := 0).1 ?_
 refine callsIn_of_wp Tryz.func149 rfl trivial ?_ rfl
 simp only [Tryz.ntmps149, List.size_toArray, List.length_cons, List.length_nil, Nat.reduceAdd, Nat.reduceSub, Array.replicate_succ, Array.replicate_zero, List.push_toArray, List.append_toArray, List.nil_append, List.cons_append]
 gi_wp2
 gi_loopw [4] (fun i wr => ∃ (k : Nat) (T : Nat -> Prop), k <= 448 /\ i = .int .i64 k /\ Blk wr B #[.pointer (some ⟨b, 0, none⟩)] 174 /\ Blk wr b (encW s) 129 /\ J (posW s k) T wr /\ (∀ k, T k -> W.heap.size <= k /\ k < wr.heap.size) /\ Keeps (fun k => k = B \/ k = b) W wr)
  (fun i _ => 448 - (intOf i).toNat)
 case atStart =>
  exact ⟨0, fun _ => False, by omega, rfl, B0, B1, h0, fun _ h => h.elim, Keeps.refl _ _⟩
 case round =>
  obtain ⟨k, T, hk, rfl, hB, hb, hj, hT, hR⟩ := hrel
  by_cases hlt : k < 448
  ·have c0 : wr.cell? ⟨B, 0, none⟩ = some (.pointer (some ⟨b, 0, none⟩)) := hB.cell 0
   have HBB := hid hB
   have HB := hid hb
   have HJ := hid hj
   have HT := hid hT
   have HR := hid hR
   clear hB hb hj hT hR B0 B1
   have hpre := posW_succ s k
   by_cases hbit : inW s k = true
   ·rw [if_pos hbit] at hpre
    have HP := hid hpre
    have hpx : posW s k ++ [k] <+: posW s 448 := by rw [<- hpre]; exact posW_prefix s (by omega)
    have HPX := hid hpx
    have h1 : Calls Tryz.prog 94 #[.pointer (some ⟨b, 0, none⟩), .int .i64 k] wr fun e w' => e = .returned (.bool true) /\ w' = wr := by have := HH.out k hlt wr HB.out; rwa [hbit] at this
    have H1 := hid h1
    clear hpre hpx h1 hbit HH
    gi_wp2_with (gi_at_call 94; refine (callsIn_wide.2 H1.out).mono ?_; rintro e w1 ⟨rfl, hw⟩; replace hw := hw.symm; subst hw; obtain ⟨fn, tm, asg, bd, hy, hRd⟩ := HY.out (posW s k) k T _ HPX.out HT.out HR.out HJ.out; have HRd := hid hRd; clear hRd)
    refine HRd.out.mono ?_
    rintro e W2 (⟨rfl, hj2, hk2⟩ | ⟨rfl, hj2, hk2⟩)
    ·have HJ2 := hid hj2
     have HK2 := hid hk2
     clear hj2 hk2 hy
     gi_wp2
     go_roundw
     case rel =>
      refine ⟨k + 1, T, by omega, by go_num, ?_, ?_, ?_, ?_, ?_⟩
      ·exact HBB.out.keeps HK2.out (.inl (.inl rfl))
      ·exact HB.out.keeps HK2.out (.inl (.inr rfl))
      ·rw [HP.out]; exact HJ2.out
      ·exact fun j hj => ⟨(HT.out j hj).1, Nat.lt_of_lt_of_le (HT.out j hj).2 HK2.out.size⟩
      ·exact HR.out.tr (HK2.out.mono fun j hj => .inl hj)
     case measure => simp [intOf]; omega
    ·have HJ2 := hid hj2
     have HK2 := hid hk2
     clear hj2 hk2 hy
     gi_wp2
     refine bodyPost_ret (results_none rfl _ _ _) rfl ?_
     exact ⟨⟨_, rfl⟩, T, fun j hj => ⟨(HT.out j hj).1, Nat.lt_of_lt_of_le (HT.out j hj).2 HK2.out.size⟩, .inr ⟨_, HPX.out, HJ2.out⟩⟩
   ·have hbit' : inW s k = false := by simpa using hbit
    rw [if_neg hbit, List.append_nil] at hpre
    have HP := hid hpre
    have h1 : Calls Tryz.prog 94 #[.pointer (some ⟨b, 0, none⟩), .int .i64 k] wr fun e w' => e = .returned (.bool false) /\ w' = wr := by have := HH.out k hlt wr HB.out; rwa [hbit'] at this
    have H1 := hid h1
    clear hpre h1 hbit hbit' HH
    gi_wp2_with (gi_at_call 94; refine (callsIn_wide.2 H1.out).mono ?_; rintro e w1 ⟨rfl, hw⟩; replace hw := hw.symm; subst hw)
    go_roundw
    case rel =>
     refine ⟨k + 1, T, by omega, by go_num, HBB.out, HB.out, ?_, HT.out, HR.out⟩
     rw [HP.out]; exact HJ.out
    case measure => simp [intOf]; omega
  ·obtain rfl : k = 448 := by omega
   gi_wp2
   refine bodyPost_end (results_none rfl _ _ _) rfl ?_
   exact ⟨⟨_, rfl⟩, T, hT, .inl hj⟩

theorem bitsAll_call (b : Nat) (w : World) : Calls Tryz.prog 115 #[.pointer (some ⟨b, 0, none⟩)] w fun e w' => e = .returned (.func (.func 149) #[] #[.pointer (some ⟨w.heap.size, 0, none⟩)]) /\ w' = w.alloc (.cells #[.pointer (some ⟨b, 0, none⟩)] 174 (0, 0)) := by
 go_enter Tryz.func115, Tryz.ntmps115
 go_wp2
 go_ret
 exact ⟨rfl, rfl⟩

theorem bitsList_any (s : Nat -> BitVec 64) (b : Nat) (w : World) (hb : Blk w b (encW s) 129) :
  Calls Tryz.prog 69 #[.pointer (some ⟨b, 0, none⟩)] w fun e w' => ∃ v, e = .returned v /\ w'.ownsRow w.heap.size 3 1 v (posW s 448).length ((posW s 448).map encP) /\ Below w.heap.size w w' := by
 have eg : ∀ args w, (callFunc 149 args).run Tryz.prog w = .ok (.enter 149 args) w := enters_of Tryz.func149 (by kernel_rfl) rfl
 have hlen : (posW s 448).length <= 1000000 := Nat.le_trans (posW_len _ _) (by decide)
 have H : Hid (∀ (W : World) (B : Nat), Blk W B #[.pointer (some ⟨b, 0, none⟩)] 174 -> Blk W b (encW s) 129 -> Calls Tryz.prog 114 #[.func (.func 149) #[] #[.pointer (some ⟨B, 0, none⟩)]] W fun e w' => ∃ v, e = .returned v /\ w'.ownsRow W.heap.size 3 1 v (posW s 448).length ((posW s 448).map encP) /\ Below W.heap.size W w') :=
  fun W B hB hb => collectI_any _ W (bitsAll_seq s B b W hB hb) eg (fun k hk => hk.elim (fun e => by rw [e]; exact hB.lt) (fun e => by rw [e]; exact hb.lt)) hlen
 have HB := hid hb
 clear eg hlen hb
 generalize posW s 448 = xs at H ⊢
 go_enter Tryz.func69, Tryz.ntmps69
 go_wp2_with (first | (go_at_call 115; refine (bitsAll_call b _).mono ?_; rintro e w1 ⟨rfl, rfl⟩) | (go_at_call 114; refine (H.out _ _ ((Blk.new _ _ _).at (by simp)) (HB.out.alloc _)).mono ?_; rintro e w1 ⟨v, rfl, h1, h2⟩; have H1 := hid h1; have H2 := hid h2; clear h1 h2))
 go_ret
 refine ⟨v, rfl, ownsRow_base H1.out (by simp), ?_⟩
 exact ((Ext.refl w).alloc _).below.trans (H2.out.mono (by simp))
end Go.Proofs.YtbiboekhakbnpaaGreatDoor
namespace Go.Proofs.YtbiboekhakbnpaaGreatDoor
open Go Go.RowKit Go.Shelf Go.Maps

theorem IsSl.pos {w : World} {v : Value} {l : List Int} (h : IsSl encZ w v l) (hp : ∀ x ∈ l, 0 <= x) : IsSl (fun p : Nat => .int .i64 p) w v (l.map Int.toNat) := by
 rcases h with ⟨rfl, rfl⟩ | ⟨b, off, cap, rfl, hb, hc, h⟩
 ·exact .inl ⟨rfl, rfl⟩
 ·refine .inr ⟨b, off, cap, by rw [List.length_map], hb, by rw [List.length_map]; exact hc, fun i p hi => ?_⟩
  rw [List.getElem?_map] at hi
  obtain ⟨x, hx, rfl⟩ := Option.map_eq_some_iff.1 hi
  have e := Int.toNat_of_nonneg (hp x (List.mem_of_getElem? hx))
  rw [h i x hx]
  show some (Value.int .i64 x) = some (Value.int .i64 (x.toNat : Int))
  rw [e]
theorem eg_acc1 : ∀ args w, (callFunc 93 args).run Tryz.prog w = .ok (.enter 93 args) w := fun args w => by kernel_rfl
theorem naccepts_any (v u : Value) (a : NF) (rt : Nt a) (l : List Int) (hst : a.st l = true) (w : World) (h : IsNf w v a) (sm : SmN a) (hu : IsSl encZ w u l) (hl : l.length <= 1000000) :
  Calls Tryz.prog 54 #[v, u] w fun e w' => e = .returned (.bool (a.acc l)) /\ Below w.heap.size w w' := by
 have hlst := (risG_pair rt.lst).2
 have hle := rt.le
 have CS : Hid (∀ W v, IsSl encZ W v a.lst -> Calls Tryz.prog 92 #[v] W fun e w' => e = .returned (.agg (encW (setW (a.lst.map Int.toNat)))) /\ Below W.heap.size W w') := hid fun W v h => bitsSet_any v (a.lst.map Int.toNat) W (h.pos fun x hx => (hlst x hx).1) (fun p hp => by obtain ⟨x, hx, rfl⟩ := List.mem_map.1 hp; have := hlst x hx; omega) (by rw [List.length_map]; exact sm.lst)
 have hset : ∀ x : Int, 0 <= x -> inW (setW (a.lst.map Int.toNat)) x.toNat = a.lst.contains x := fun x hx => by
  rw [setW_in, Bool.eq_iff_iff, List.contains_iff_mem, List.contains_iff_mem, List.mem_map]
  constructor
  ·rintro ⟨y, hy, e⟩
   have := (hlst y hy).1
   obtain rfl : y = x := by omega
   exact hy
  ·exact fun h => ⟨x, h, rfl⟩
 have CC : Hid (∀ W v' B b, IsSl encZ W v' l -> W.cell? ⟨B, 4, none⟩ = some (.bool a.emp) -> B < W.heap.size -> Blk W b (encW (setW (a.lst.map Int.toNat))) 129 -> Calls Tryz.prog 51 #[v', .func (.func 93) #[] #[.pointer (some ⟨B, 0, none⟩), .pointer (some ⟨b, 0, none⟩)]] W fun e w' => e = .returned (.bool (a.acc l)) /\ w' = W) := hid fun W v' B b hv' hB hBl hb => by
  refine containsFuncM_any 93 #[.pointer (some ⟨B, 0, none⟩), .pointer (some ⟨b, 0, none⟩)] a.accP v' l W hv' hl eg_acc1 fun x hx W' hk => ?_
  have hxr := (risG_pair hst).2 x hx
  have := accepts1_any x a.emp (setW (a.lst.map Int.toNat)) B b W' ((Keeps.of_below hk (R := (· < W.heap.size)) fun _ h => h).cell (p := ⟨B, 4, none⟩) hBl |>.trans hB) (hb.below hk hb.lt) (by
   rcases Int.lt_or_le x 0 with h1 | h1
   ·exact .inl (by omega)
   ·exact .inr ⟨h1, by omega⟩)
  have e : (if x = -1 then a.emp else inW (setW (a.lst.map Int.toNat)) x.toNat) = a.accP x := by
   unfold NF.accP
   split
   ·rfl
   ·exact hset x (by omega)
  rw [e] at this
  exact this
 obtain ⟨v0, v1, v2, v3, rfl, h0, h1, h2, h3⟩ := h
 obtain ⟨a3, c3, rfl⟩ := h3.form
 obtain ⟨ua, uc, rfl⟩ := hu.form
 obtain ⟨R, hR⟩ : ∃ R, R = a.acc l := ⟨_, rfl⟩
 obtain ⟨S, hS⟩ : ∃ S, S = setW (a.lst.map Int.toNat) := ⟨_, rfl⟩
 obtain ⟨n3, hn3⟩ : ∃ n, n = a.lst.length := ⟨_, rfl⟩
 obtain ⟨m, hm⟩ : ∃ n, n = l.length := ⟨_, rfl⟩
 rw [<- hS] at CS CC
 rw [<- hR] at CC ⊢
 rw [<- hn3] at h3 ⊢
 rw [<- hm] at hu ⊢
 have H3 := hid h3
 have HU := hid hu
 clear h0 h1 h2 h3 hu hR hS hn3 hm sm rt hlst hset hst hle
 go_enter Tryz.func54, Tryz.ntmps54
 go_wp2_with fail
 refine calls_named ?_
 intro V hV
 have B1 : Hid (Blk V w.heap.size #[v0, v1, v2, .slice a3 n3 c3, .bool a.emp] 44) := hid (by rw [hV]; exact Blk.new w _ _)
 have X1 : Hid (Below w.heap.size w V) := hid (by rw [hV]; exact ((Ext.refl w).alloc _).below)
 clear hV
 refine (CS.out V _ (H3.out.below X1.out)).mono ?_
 rintro e w1 ⟨rfl, hx⟩
 have B2 := hid (B1.out.below hx B1.out.lt)
 have X2 := hid (X1.out.trans (hx.mono X1.out.size))
 clear hx B1 X1 CS
 have hst := run_storeCells_new (P := Tryz.prog) w1 129 #[.int .u64 0, .int .u64 0, .int .u64 0, .int .u64 0, .int .u64 0, .int .u64 0, .int .u64 0] (encW S) (by kernel_rfl) rfl (by simp [encW, Value.oneCell'])
 go_wp2_with fail
 refine calls_named ?_
 intro V2 hV2
 have b6 : Hid (Blk V2 w1.heap.size (encW S) 129) := hid (by rw [hV2]; exact Blk.new _ _ _)
 have XV : Hid (Below w1.heap.size w1 V2) := hid (by rw [hV2]; exact ((Ext.refl w1).alloc _).below)
 clear hV2 hst
 have i4 := (B2.out.below XV.out B2.out.lt).five.2.2.2.2
 have hl := (B2.out.below XV.out B2.out.lt).lt
 refine (CC.out V2 _ _ _ (HU.out.below (X2.out.trans (XV.out.mono X2.out.size))) i4 hl b6.out).mono ?_
 rintro e w' ⟨rfl, hw⟩
 replace hw := hw.symm
 subst hw
 go_wp2
 go_ret
 exact ⟨rfl, X2.out.trans (XV.out.mono X2.out.size)⟩
theorem nAccepts_any (v u : Value) (a : NF) (rt : Nt a) (l : List Int) (hst : a.st l = true) (w : World) (h : IsNf w v a) (sm : SmN a) (hu : IsSl encZ w u l) (hl : l.length <= 1000000) :
  Calls Tryz.prog 119 #[v, u] w fun e w' => e = .returned (.tuple #[.bool (a.acc l), .int .i64 0]) /\ Below w.heap.size w w' := by
 have CK : Hid (∀ W, Below w.heap.size w W -> Calls Tryz.prog 157 #[v, u] W fun e w' => e = .returned (.int .i64 0) /\ Below W.heap.size W w') := hid fun W hW => by
  have := ncheck_any v u a l W (h.below hW) sm (hu.below hW) hl
  have e : a.chk l = 0 := by unfold NF.chk; rw [(nright_iff a).2 rt, hst]; rfl
  rwa [e] at this
 have CA : Hid (∀ W, Below w.heap.size w W -> Calls Tryz.prog 54 #[v, u] W fun e w' => e = .returned (.bool (a.acc l)) /\ Below W.heap.size W w') := hid fun W hW => naccepts_any v u a rt l hst W (h.below hW) sm (hu.below hW) hl
 obtain ⟨a0, c0, a1, n1, c1, a2, n2, c2, a3, n3, c3, rfl⟩ := h.form5
 generalize a.sets.length = n0 at *
 generalize a.acc l = R at *
 obtain ⟨ua, uc, rfl⟩ := hu.form
 generalize l.length = m at *
 clear h hu sm rt hst hl
 go_enter Tryz.func119, Tryz.ntmps119
 go_wp2_with fail
 refine calls_named ?_
 intro V hV
 have B1 : Hid (Blk V w.heap.size #[.slice a0 n0 c0, .slice a1 n1 c1, .slice a2 n2 c2, .slice a3 n3 c3, .bool a.emp] 44) := hid (by rw [hV]; exact Blk.new w _ _)
 have X1 : Hid (Below w.heap.size w V) := hid (by rw [hV]; exact ((Ext.refl w).alloc _).below)
 clear hV
 refine (CK.out V X1.out).mono ?_
 rintro e w1 ⟨rfl, hx⟩
 have B2 := hid (B1.out.below hx B1.out.lt)
 have X2 := hid (X1.out.trans (hx.mono X1.out.size))
 clear hx B1 X1
 obtain ⟨i0, i1, i2, i3, i4⟩ := B2.out.five
 go_wp2_with fail
 refine (CA.out w1 X2.out).mono ?_
 rintro e w2 ⟨rfl, hx⟩
 have X3 := hid (X2.out.trans (hx.mono X2.out.size))
 clear hx i0 i1 i2 i3 i4
 go_wp2
 refine bodyPost_ret (v := .tuple #[.bool R, .int .i64 0]) (by simp [results, Tryz.results119, go_sem]) rfl ⟨rfl, X3.out⟩
end Go.Proofs.YtbiboekhakbnpaaGreatDoor
