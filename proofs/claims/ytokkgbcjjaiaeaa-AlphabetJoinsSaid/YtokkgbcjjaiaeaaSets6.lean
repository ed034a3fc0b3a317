/-
  Walks: slices.AppendSeq, slices.Collect at bytes; sets.Bytes, sets.Size.
-/
import Derived.Test.YtokkgbcjjaiaeaaSets5
import Derived.Maps.AppendAt
import Derived.Maps.OwnIn
import Derived.RangeFuncBox
namespace Go.Proofs.Ytokkgbcjjaiaeaa
open Go Go.RowKit Go.Shelf Go.Maps
attribute [local go_sem] encS Oper.semAt_some wide_fn wide_depth

theorem Try.infoU8 : (Try.prog.info? 5).map (fun i => (i.zero, i.size, i.bytes)) = some (some (.int .u8 0), 1, 1) := by kernel_rfl

def encB (c : Nat) : Value := .int .u8 c

set_option maxRecDepth 100000 in
set_option maxHeartbeats 1000000 in
theorem appendSeq_any {d : Bool} {gf : Nat} {lb : Array Value} {R : Nat → Prop} (xs : List Nat) (w : World) (hseq : Seq d Try.prog gf lb (fun c : Nat => #[.int .u8 c]) R xs w) (eg : ∀ args w, (callFunc gf args).run Try.prog w = .ok (.enter gf args) w) (hR : ∀ k, R k → k < w.heap.size) (hn : xs.length ≤ 1000000) :
    Calls Try.prog 129 #[.slice none 0 0, .func (.func gf) #[] lb] w fun e w' => ∃ v, e = .returned v ∧ w'.ownsRow w.heap.size 5 1 v xs.length (xs.map encB) ∧ Below w.heap.size w w' := by
  obtain ⟨i0, hi, hz0, hz1, hz2⟩ := info_parts Try.infoU8
  refine calls_of_wp_marks Try.func129 rfl ?_
  simp only [Try.ntmps129, List.size_toArray, List.length_cons, List.length_nil, Nat.reduceAdd, Nat.reduceSub, Array.replicate_succ, Array.replicate_zero, List.push_toArray, List.append_toArray, List.nil_append, List.cons_append]
  go_wp2
  refine wp_named ?_
  intro W0 hW0
  have h1 : Blk W0 w.heap.size #[.slice none 0 0] 27 := by rw [hW0]; exact Blk.new _ _ _
  have hx : Ext w W0 := by rw [hW0]; exact (Ext.refl w).alloc _
  have hsz : W0.heap.size = w.heap.size + 1 := by rw [hW0]; simp
  refine wp_range1 (w := W0) (hseq.at hx.keeps) (by rfl) eg (by intro _; rfl) (by intro k hk; have := hR k hk; omega)
    (fun xs T W => ∃ v, Blk W w.heap.size #[v] 27 ∧ W.ownsRow (w.heap.size + 1) 5 1 v xs.length (xs.map encB) ∧ (∀ k, v.ownBlock = some k → ¬ T k) ∧ Below w.heap.size w W)
    (fun _ _ _ _ => False)
    ?_
    (fun c xs T T' W W' h => h.elim)
    ⟨_, h1, World.ownsRow_nil _ _ _ _, fun _ _ h => h, hx.below⟩
    (fun x => ⟨#[.slice none 0 0, .func (.func gf) #[] lb, .pointer (some ⟨w.heap.size, 0, none⟩), undef, .slice none 0 0, .int .u8 x, .func (.func gf) #[] lb, .int .u8 x, undef, undef, undef, undef, undef], []⟩) ?assign ?body ?done ?stop
  · intro xs T T' W W' ⟨v, g1, g2, g3, g4⟩ hT hT' hs hn hk
    refine ⟨v, g1.stab hT hk (by omega), ownsRow_keeps g2 hk.1 (fun k e => ⟨(g2.lt k e).2, g3 k e⟩), fun k e ht => ?_, belowStab g4 hT hk (Nat.le_refl _) (by omega)⟩
    rcases hn k ht with h | h
    · exact g3 k e h
    · have := (g2.lt k e).2; omega
  case assign =>
    intro l x W K hK
    gi_wp2
    exact hK
  case body =>
    rintro l pre x T W hpre hT _ hTl hl ⟨v, g1, g2, g3, g4⟩
    have c1 : W.cell? ⟨w.heap.size, 0, none⟩ = some v := g1.cell 0
    have f1 := g1.frozen 0
    have hlen : pre.length < xs.length := by obtain ⟨r, hr⟩ := hpre; rw [← hr]; simp
    have G1 := Lib.hid g1
    have G3 := Lib.hid g3
    have G4 := Lib.hid g4
    have HSZ := Lib.hid hsz
    have HT := Lib.hid hT
    clear g1 g3 g4 hsz hW0 hT hl hTl
    gi_wp2_with (gi_at_builtin; refine wpListIn_append_own_at _ rfl _ _ 27 rfl (w.heap.size + 1) 5 i0 (.int .u8 0) 1 1 Try.underlying27 hi hz0 hz1 hz2 rfl (by decide) _ _ _ rfl (g2.alloc _) ⟨W.heap.size, 0, none⟩ 1 1 [encB x] rfl rfl (cell_one_new _ _ _) (by simp [Value.oneCell', encB]) (by unfold maxLen; omega) (by omega) (by have h1 := G4.out.size; have h2 := HSZ.out; have h3 := G1.out.lt; simp; omega) ?_; intro v' w1 hown' hgrow hh hat; obtain ⟨g', cap', rfl⟩ := ownsRow_succ hown'; have hb1 := (G1.out.alloc (.cells #[.int .u8 x] 5 (0, 0))).grown hgrow (fun e => by have := (g2.lt _ e.symm).1; omega); have c2 := hb1.cell 0; have f2 := hb1.frozen 0; have HB := Lib.hid hb1; have HO := Lib.hid hown'; have HG := Lib.hid hgrow; have H2 := Lib.hid g2; have HAT := Lib.hid hat; clear hown' hgrow hb1 g2 hh hat)
    have hgT : ¬ T g' := fun ht => by
      rcases HAT.out with h | h
      · exact G3.out g' h.symm ht
      · have h1 := (HT.out g' ht).2; simp [Value.ownBlock] at h; omega
    have hkT : ∀ k, (R k ∨ T k) → k < W.heap.size ∧ some k ≠ v.ownBlock := fun k hk => by
      refine ⟨?_, fun e => ?_⟩
      · rcases hk with hk | hk
        · have h1 := hR k hk; have h2 := G4.out.size; omega
        · exact (HT.out k hk).2
      · rcases hk with hk | hk
        · have h1 := hR k hk; have h2 := (H2.out.lt k e.symm).1; omega
        · exact G3.out k e.symm hk
    have hk1 : Keeps (fun k => R k ∨ T k) W w1 := (((Keeps.refl _ W).alloc (fun k hk => (hkT k hk).1) _)).tr (Keeps.of_grown HG.out fun k hk => ⟨by have := (hkT k hk).1; simp; omega, (hkT k hk).2⟩)
    have hbx : ∀ k, (R k ∨ T k) → k ≠ w.heap.size := fun k hk => by
      rcases hk with hk | hk
      · have h1 := hR k hk; omega
      · have h1 := (HT.out k hk).1; have h2 := HSZ.out; omega
    refine ⟨hk1.setCell (fun h => hbx _ h rfl) _, _, HB.out.set 0 _, ?_, fun k e => ?_, ?_⟩
    · rw [List.length_append, List.map_append]
      exact ownsRow_keeps HO.out ((Keeps.refl (fun k => k ≠ w.heap.size) _).setCell (by simp) _) (fun k e => by have := (HO.out.lt k e).1; omega)
    · simp [Value.ownBlock] at e; subst e; exact hgT
    · exact ((G4.out.alloc (by exact G4.out.size) _).grown HG.out (by have := G4.out.size; simp; omega) (fun k e => by have := (H2.out.lt k e).1; omega)).setCell (Nat.le_refl _) _
  case done =>
    rintro D T W hD hTD hT ⟨v, g1, g2, g3, g4⟩ hDD
    have c1 : W.cell? ⟨w.heap.size, 0, none⟩ = some v := g1.cell 0
    have G2 := Lib.hid g2
    have G4 := Lib.hid g4
    have HD := Lib.hid hD
    have HSZ := Lib.hid hsz
    have HDD := Lib.hid hDD
    clear g1 g2 g3 g4 hsz hW0 hT hTD hDD hD
    dsimp only
    go_wp2
    refine markPost_ret rfl HDD.out (results_tmp rfl _ _ _) ⟨v, rfl, ownsRow_putObj (ownsRow_base G2.out (by omega)) _ HDD.out rfl, ((Keeps.of_below G4.out (fun _ h => h)).putObj (by have := HD.out; have := HSZ.out; omega) _).below⟩
  case stop => rintro D c pre T W _ _ _ _ h _; exact h.elim

set_option maxHeartbeats 1000000 in
theorem collect_any {d : Bool} {gf : Nat} {lb : Array Value} {R : Nat → Prop} (xs : List Nat) (w : World) (hseq : Seq d Try.prog gf lb (fun c : Nat => #[.int .u8 c]) R xs w) (eg : ∀ args w, (callFunc gf args).run Try.prog w = .ok (.enter gf args) w) (hR : ∀ k, R k → k < w.heap.size) (hn : xs.length ≤ 1000000) :
    Calls Try.prog 119 #[.func (.func gf) #[] lb] w fun e w' => ∃ v, e = .returned v ∧ w'.ownsRow w.heap.size 5 1 v xs.length (xs.map encB) ∧ Below w.heap.size w w' := by
  have H := Lib.hid (appendSeq_any xs w hseq eg hR hn)
  clear hseq eg
  go_enter Try.func119, Try.ntmps119
  go_wp2_with (go_at_call 129; refine H.out.mono ?_; rintro e w1 ⟨v, rfl, h1, h2⟩; have H1 := Lib.hid h1; have H2 := Lib.hid h2; clear h1 h2)
  go_ret
  exact ⟨v, rfl, H1.out, H2.out⟩

set_option maxRecDepth 100000 in
set_option maxHeartbeats 1000000 in
theorem bytes_any (s : BS) (w : World) :
    Calls Try.prog 111 #[.agg (encS s)] w fun e w' => ∃ v, e = .returned v ∧ w'.ownsRow w.heap.size 5 1 v (bytesTo s 256).length ((bytesTo s 256).map encB) ∧ Below w.heap.size w w' := by
  have eg : ∀ args w, (callFunc 97 args).run Try.prog w = .ok (.enter 97 args) w := enters_of Try.func97 (by kernel_rfl) rfl
  have hlen : (bytesTo s 256).length ≤ 1000000 := by unfold bytesTo; exact Nat.le_trans (List.length_filter_le _ _) (by simp)
  have H : Hid (∀ (W : World) (B : Nat), Blk W B (encS s) 25 → Calls Try.prog 119 #[.func (.func 97) #[] #[.pointer (some ⟨B, 0, none⟩)]] W fun e w' => ∃ v, e = .returned v ∧ w'.ownsRow W.heap.size 5 1 v (bytesTo s 256).length ((bytesTo s 256).map encB) ∧ Below W.heap.size W w') :=
    fun W B hB => collect_any _ W (all_seq s B W hB) eg (fun k hk => by rw [show k = B from hk]; exact hB.lt) hlen
  clear eg hlen
  generalize bytesTo s 256 = xs at H ⊢
  go_enter Try.func111, Try.ntmps111
  go_wp2_with (first | (go_at_call 76; refine (all_call s _).mono ?_; rintro e w1 ⟨rfl, rfl⟩) | (go_at_call 119; refine (H.out _ _ ((Blk.new _ _ _).at (by simp))).mono ?_; rintro e w1 ⟨v, rfl, h1, h2⟩; have H1 := Lib.hid h1; have H2 := Lib.hid h2; clear h1 h2))
  go_ret
  refine ⟨v, rfl, ownsRow_base H1.out (by simp; omega), ?_⟩
  exact (((Ext.refl w).alloc _).alloc _).below.trans (H2.out.mono (by simp; omega))
end Go.Proofs.Ytokkgbcjjaiaeaa
