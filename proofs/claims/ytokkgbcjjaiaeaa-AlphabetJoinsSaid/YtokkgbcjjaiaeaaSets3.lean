/-
  Walks of package sets: the iterator 'all', First, Size, Bytes, Compare.
-/
import Derived.Test.YtokkgbcjjaiaeaaSets2
import Derived.OwnWalkIn
import Derived.TacticsInMore
import Derived.LoopNIn
import Derived.LoopIn
import Derived.Shelf.AbstractIn
namespace Go.Proofs.Ytokkgbcjjaiaeaa
open Go Go.RowKit Go.Shelf
attribute [local go_sem] encS Oper.semAt_some wide_fn wide_depth

/-- The bytes of a set that are less than k, in order. -/
def bytesTo (s : BS) (k : Nat) : List Nat := (List.range k).filter fun c => s.getLsbD c
theorem bytesTo_succ (s : BS) (k : Nat) : bytesTo s (k + 1) = bytesTo s k ++ if s.getLsbD k then [k] else [] := by
  unfold bytesTo
  rw [List.range_succ, List.filter_append]
  by_cases h : s.getLsbD k = true <;> simp [h]
theorem bytesTo_prefix (s : BS) {k n : Nat} (h : k ≤ n) : bytesTo s k <+: bytesTo s n := by
  induction n with
  | zero => rw [show k = 0 from by omega]; exact List.prefix_rfl
  | succ n ih =>
    by_cases hk : k = n + 1
    · subst hk; exact List.prefix_rfl
    · exact (ih (by omega)).trans (by rw [bytesTo_succ]; exact List.prefix_append _ _)

set_option maxRecDepth 100000 in
set_option maxHeartbeats 1000000 in
/-- THE ITERATOR OVER A SET: its bytes, in order. -/
theorem all_seq (s : BS) (B : Nat) (w : World) (hB : Blk w B (encS s) 25) : Seq true Try.prog 97 #[.pointer (some ⟨B, 0, none⟩)] (fun c : Nat => #[.int .u8 c]) (· = B) (bytesTo s 256) w := by
  intro l J Jx W hK hJ hJx hY h0
  have HY := Lib.hid hY
  have HH := Lib.hid (has_any s)
  clear hY
  refine callsIn_wide (n := 0).1 ?_
  refine callsIn_of_wp Try.func97 rfl trivial ?_ rfl
  simp only [Try.ntmps97, List.size_toArray, List.length_cons, List.length_nil, Nat.reduceAdd, Nat.reduceSub, Array.replicate_succ, Array.replicate_zero, List.push_toArray, List.append_toArray, List.nil_append, List.cons_append]
  gi_wp2
  gi_loopw [4] (fun i wr => ∃ (k : Nat) (T : Nat → Prop), k ≤ 256 ∧ i = .int .i64 k ∧ Blk wr B (encS s) 25 ∧ J (bytesTo s k) T wr ∧ (∀ k, T k → W.heap.size ≤ k ∧ k < wr.heap.size) ∧ Keeps (· = B) W wr)
    (fun i _ => 256 - (intOf i).toNat)
  case atStart =>
    exact ⟨0, fun _ => False, by omega, rfl, hB.keeps hK hB.lt, h0, fun _ h => h.elim, Keeps.refl _ _⟩
  case round =>
    obtain ⟨k, T, hk, rfl, hb, hj, hT, hR⟩ := hrel
    by_cases hlt : k < 256
    · have c0 : wr.cell? ⟨B, 0, none⟩ = some (.int .u64 (wd s 0).toNat) := hb.cell 0
      have c1 : wr.cell? ⟨B, 1, none⟩ = some (.int .u64 (wd s 1).toNat) := hb.cell 1
      have c2 : wr.cell? ⟨B, 2, none⟩ = some (.int .u64 (wd s 2).toNat) := hb.cell 2
      have c3 : wr.cell? ⟨B, 3, none⟩ = some (.int .u64 (wd s 3).toNat) := hb.cell 3
      have HB := Lib.hid hb
      have HJ := Lib.hid hj
      have HT := Lib.hid hT
      have HR := Lib.hid hR
      clear hb hj hT hR
      have hpre := bytesTo_succ s k
      by_cases hbit : s.getLsbD k = true
      · rw [if_pos hbit] at hpre
        have HP := Lib.hid hpre
        have hpx : bytesTo s k ++ [k] <+: bytesTo s 256 := by rw [← hpre]; exact bytesTo_prefix s (by omega)
        have HPX := Lib.hid hpx
        have h1 : ∀ W, Calls Try.prog 20 #[.agg (encS s), .int .u8 k] W fun e w' => e = .returned (.bool true) ∧ Ext W w' := fun W => by have := has_any s k hlt W; rwa [hbit] at this
        have H1 := Lib.hid h1
        clear hpre hpx h1 hbit HH
        gi_wp2_with (gi_at_call 20; refine (callsIn_wide.2 (H1.out _)).mono ?_; rintro e w1 ⟨rfl, hx⟩; obtain ⟨fn, tm, asg, bd, hy, hRd⟩ := HY.out (bytesTo s k) k T w1 HPX.out (fun j hj => ⟨(HT.out j hj).1, Nat.lt_of_lt_of_le (HT.out j hj).2 hx.size⟩) (HR.out.tr (hx.mono fun j hj => by rw [show j = B from hj]; exact HB.out.lt)) (hJ.ext HJ.out HT.out hx); have HX := Lib.hid hx; have HRd := Lib.hid hRd; clear hx hRd)
        refine HRd.out.mono ?_
        rintro e W2 (⟨rfl, hj2, hk2⟩ | ⟨rfl, hj2, hk2⟩)
        · have HJ2 := Lib.hid hj2
          have HK2 := Lib.hid hk2
          clear hj2 hk2 hy
          gi_wp2
          go_roundw
          case rel =>
            refine ⟨k + 1, T, by omega, by go_num, ?_, ?_, ?_, ?_⟩
            · exact (HB.out.ext HX.out).keeps HK2.out (.inl rfl)
            · rw [HP.out]; exact HJ2.out
            · exact fun j hj => ⟨(HT.out j hj).1, Nat.lt_of_lt_of_le (HT.out j hj).2 (Nat.le_trans HX.out.size HK2.out.size)⟩
            · exact (HR.out.tr (HX.out.mono fun j hj => by rw [show j = B from hj]; exact HB.out.lt)).tr (HK2.out.mono fun j hj => .inl hj)
          case measure => simp [intOf]; omega
        · have HJ2 := Lib.hid hj2
          have HK2 := Lib.hid hk2
          clear hj2 hk2 hy
          gi_wp2
          refine bodyPost_ret (results_none rfl _ _ _) rfl ?_
          exact ⟨⟨_, rfl⟩, T, fun j hj => ⟨(HT.out j hj).1, Nat.lt_of_lt_of_le (HT.out j hj).2 (Nat.le_trans HX.out.size HK2.out.size)⟩, .inr ⟨_, HPX.out, HJ2.out⟩⟩
      · have hbit' : s.getLsbD k = false := by simpa using hbit
        rw [if_neg hbit, List.append_nil] at hpre
        have HP := Lib.hid hpre
        have h1 : ∀ W, Calls Try.prog 20 #[.agg (encS s), .int .u8 k] W fun e w' => e = .returned (.bool false) ∧ Ext W w' := fun W => by have := has_any s k hlt W; rwa [hbit'] at this
        have H1 := Lib.hid h1
        clear hpre h1 hbit hbit' HH
        gi_wp2_with (gi_at_call 20; refine (callsIn_wide.2 (H1.out _)).mono ?_; rintro e w1 ⟨rfl, hx⟩; have HX := Lib.hid hx; clear hx)
        go_roundw
        case rel =>
          refine ⟨k + 1, T, by omega, by go_num, ?_, ?_, ?_, ?_⟩
          · exact HB.out.ext HX.out
          · rw [HP.out]; exact hJ.ext HJ.out HT.out HX.out
          · exact fun j hj => ⟨(HT.out j hj).1, Nat.lt_of_lt_of_le (HT.out j hj).2 HX.out.size⟩
          · exact HR.out.tr (HX.out.mono fun j hj => by rw [show j = B from hj]; exact HB.out.lt)
        case measure => simp [intOf]; omega
    · obtain rfl : k = 256 := by omega
      gi_wp2
      refine bodyPost_end (results_none rfl _ _ _) rfl ?_
      exact ⟨⟨_, rfl⟩, T, hT, .inl hj⟩

theorem all_call (s : BS) (w : World) : Calls Try.prog 76 #[.agg (encS s)] w fun e w' => e = .returned (.func (.func 97) #[] #[.pointer (some ⟨w.heap.size, 0, none⟩)]) ∧ w' = w.alloc (.cells (encS s) 25 (0, 0)) := by
  go_enter Try.func76, Try.ntmps76
  go_wp2
  go_ret
  exact ⟨rfl, rfl⟩

/-- The least byte of a set, and whether there is one. -/
def firstOf (s : BS) : Nat × Bool := match bytesTo s 256 with | [] => (0, false) | c :: _ => (c, true)

set_option maxRecDepth 100000 in
set_option maxHeartbeats 1000000 in
theorem first_any (s : BS) (w : World) : Calls Try.prog 38 #[.agg (encS s)] w fun e w' => e = .returned (.tuple #[.int .u8 (firstOf s).1, .bool (firstOf s).2]) ∧ Ext w w' := by
  refine calls_of_wp_marks Try.func38 rfl ?_
  simp only [Try.ntmps38, List.size_toArray, List.length_cons, List.length_nil, Nat.reduceAdd, Nat.reduceSub, Array.replicate_succ, Array.replicate_zero, List.push_toArray, List.append_toArray, List.nil_append, List.cons_append]
  go_wp2_with (go_at_call 76; refine (all_call s _).mono ?_; rintro e w1 ⟨rfl, rfl⟩)
  refine wp_named ?_
  intro W0 hW0
  have h1 : Blk W0 (w.heap.size + 1) #[.int .u8 0] 5 := by rw [hW0]; repeat (first | (refine (Blk.new _ _ _).at ?_; simp; done) | refine Blk.alloc ?_ _)
  have h2 : Blk W0 (w.heap.size + 1 + 1) #[.bool false] 4 := by rw [hW0]; repeat (first | (refine (Blk.new _ _ _).at ?_; simp; done) | refine Blk.alloc ?_ _)
  have h3 : Blk W0 (w.heap.size + 1 + 1 + 1) (encS s) 25 := by rw [hW0]; exact (Blk.new _ _ _).at (by simp)
  have hx : Ext w W0 := by rw [hW0]; exact ((((Ext.refl w).alloc _).alloc _).alloc _).alloc _
  have hsz : W0.heap.size = w.heap.size + 1 + 1 + 1 + 1 := by rw [hW0]; simp
  have eg : ∀ args w, (callFunc 97 args).run Try.prog w = .ok (.enter 97 args) w := enters_of Try.func97 (by kernel_rfl) rfl
  refine wp_range1 (w := W0) (all_seq s _ W0 h3) (by rfl) eg (by intro _; rfl) (by intro k hk; rw [show k = _ from hk, hsz]; omega)
    (fun xs _ W => xs = [] ∧ Blk W (w.heap.size + 1) #[.int .u8 0] 5 ∧ Blk W (w.heap.size + 1 + 1) #[.bool false] 4 ∧ Ext w W)
    (fun c xs _ W => c = .ret ∧ ∃ x, xs = [x] ∧ Blk W (w.heap.size + 1) #[.int .u8 x] 5 ∧ Blk W (w.heap.size + 1 + 1) #[.bool true] 4 ∧ Ext w W)
    (fun xs T T' W W' ⟨h0, h1, h2, h3⟩ hT _ _ _ hk => ⟨h0, h1.stab hT hk (by omega), h2.stab hT hk (by omega), h3.stab hT hk (by omega)⟩)
    (fun c xs T T' W W' ⟨h0, x, h1, h2, h3, h4⟩ hT _ _ _ hk => ⟨h0, x, h1, h2.stab hT hk (by omega), h3.stab hT hk (by omega), h4.stab hT hk (by omega)⟩)
    ⟨rfl, h1, h2, hx⟩
    (fun x => ⟨#[.agg (encS s), .pointer (some ⟨w.heap.size, 0, none⟩), .pointer (some ⟨w.heap.size + 1, 0, none⟩), .pointer (some ⟨w.heap.size + 1 + 1, 0, none⟩), .int .u8 x, .agg (encS s), .func (.func 97) #[] #[.pointer (some ⟨w.heap.size + 1 + 1 + 1, 0, none⟩)], .int .u8 x, undef], []⟩) ?assign ?body ?done ?stop
  case assign =>
    intro l x W K hK
    gi_wp2
    exact hK
  case body =>
    rintro l pre x T W hpre hT hR hTl hl ⟨rfl, h1, h2, hx⟩
    have c1 : W.cell? ⟨w.heap.size + 1, 0, none⟩ = some (.int .u8 0) := h1.cell 0
    have c2 : W.cell? ⟨w.heap.size + 1 + 1, 0, none⟩ = some (.bool false) := h2.cell 0
    have f1 := h1.frozen 0
    have f2 := h2.frozen 0
    have H1 := Lib.hid h1
    have H2 := Lib.hid h2
    have HX := Lib.hid hx
    have HS := Lib.hid hsz
    have HT := Lib.hid hT
    clear h1 h2 hx hR hl hTl hsz hW0 hT
    gi_wp2
    refine ⟨((Keeps.refl _ _).setCell (fun h => ?_) _).setCell (fun h => ?_) _, rfl, x, rfl, (H1.out.set 0 _).other (by simp) _, (H2.out.other (by simp) _).set 0 _, (HX.out.setCell (by simp <;> omega) _).setCell (by simp <;> omega) _⟩
    · have h1 := (HT.out _ h).1; have h2 := HS.out; dsimp only at h1; omega
    · have h1 := (HT.out _ h).1; have h2 := HS.out; dsimp only at h1; omega
  case done =>
    rintro D T W hD hTD hT ⟨h0, h1, h2, hx⟩ hDD
    have c1 : W.cell? ⟨w.heap.size + 1, 0, none⟩ = some (.int .u8 0) := h1.cell 0
    have c2 : W.cell? ⟨w.heap.size + 1 + 1, 0, none⟩ = some (.bool false) := h2.cell 0
    have f1 := h1.frozen 0
    have f2 := h2.frozen 0
    have H1 := Lib.hid h1
    have H2 := Lib.hid h2
    have HX := Lib.hid hx
    have HS := Lib.hid hsz
    have HD := Lib.hid hD
    have HDD := Lib.hid hDD
    have H0 := Lib.hid h0
    clear h1 h2 hx hTD hsz hW0 hT hDD hD h0
    dsimp only
    go_wp2
    have hDb : ∀ b : Nat, b < w.heap.size + 1 + 1 + 1 → D ≠ b := fun b hb => by have h1 := HD.out; have h2 := HS.out; omega
    have hDD' := ((Keeps.refl (· = D) W).setCell (p := ⟨w.heap.size + 1, 0, none⟩) (fun h => hDb (w.heap.size + 1) (by omega) (h.symm)) (.int .u8 0)).setCell (p := ⟨w.heap.size + 1 + 1, 0, none⟩) (fun h => hDb (w.heap.size + 1 + 1) (by omega) (h.symm)) (.bool false) |>.keep D rfl
    rw [HDD.out] at hDD'
    have q1 := (((H1.out.set 0 (.int .u8 0)).other (p := ⟨w.heap.size + 1 + 1, 0, none⟩) (by simp) (.bool false)).put (hDb _ (by omega)) (.deferred none)).cell 0
    have q2 := (((H2.out.other (p := ⟨w.heap.size + 1, 0, none⟩) (by simp) (.int .u8 0)).set 0 (.bool false)).put (hDb _ (by omega)) (.deferred none)).cell 0
    refine markPost_ret (v := .tuple #[.int .u8 0, .bool false]) rfl hDD' ?_ ⟨?_, ?_⟩
    · simp [results, Try.results38, go_sem, q1, q2]
    · simp [firstOf, H0.out]
    · exact ((HX.out.setCell (by simp <;> omega) _).setCell (by simp <;> omega) _).putObj (by have h1 := HD.out; have h2 := HS.out; omega) _
  case stop =>
    rintro D c pre T W hD hTD hT hpre ⟨rfl, x, h0, h1, h2, hx⟩ hDD
    have c1 : W.cell? ⟨w.heap.size + 1, 0, none⟩ = some (.int .u8 x) := h1.cell 0
    have c2 : W.cell? ⟨w.heap.size + 1 + 1, 0, none⟩ = some (.bool true) := h2.cell 0
    have H1 := Lib.hid h1
    have H2 := Lib.hid h2
    have HX := Lib.hid hx
    have HS := Lib.hid hsz
    have HD := Lib.hid hD
    have HDD := Lib.hid hDD
    have H0 := Lib.hid h0
    clear h1 h2 hx hTD hsz hW0 hT hDD hD h0
    dsimp only
    go_wp2
    have hDb : ∀ b : Nat, b < w.heap.size + 1 + 1 + 1 → D ≠ b := fun b hb => by have h1 := HD.out; have h2 := HS.out; omega
    have q1 := (H1.out.put (hDb _ (by omega)) (.deferred none)).cell 0
    have q2 := (H2.out.put (hDb _ (by omega)) (.deferred none)).cell 0
    refine markPost_ret (v := .tuple #[.int .u8 x, .bool true]) rfl HDD.out ?_ ⟨?_, ?_⟩
    · simp [results, Try.results38, go_sem, q1, q2]
    · obtain ⟨r, hr⟩ := hpre
      rw [H0.out] at hr
      simp [firstOf, ← hr]
    · exact HX.out.putObj (by have h1 := HD.out; have h2 := HS.out; omega) _
end Go.Proofs.Ytokkgbcjjaiaeaa
