/-
  Walks for the laws on alphabets: the reference's Finer; slices.Equal at sets; theirs.
  Walks for the laws on alphabets: theirs.
  Walks of the reference of layer 16: Classes.
-/
import Derived.Test.YtokkgbcjjaiaeaaRef
import Derived.Test.YtokkgbcjjaiaeaaClone
namespace Go.Proofs.Ytokkgbcjjaiaeaa
open Go Go.RowKit Go.Shelf Go.Maps

/-- Whether two arrays are alike. -/
def eqA (f g : Nat → Int) : Bool := (List.range 256).all fun c => f c == g c
theorem a87_equal (f g : Nat → Int) (w : World) : (Op.equalIn 10000 87 (.agg (aI f)) (.agg (aI g))).run Try.prog w = .ok (eqA f g) w :=
  run_equalIn_array w 9998 _ _ _ _ Try.underlying87 Try.underlying3 Try.isAgg3 Try.sizeOf3 (fun _ hi => aI_get f hi) (fun _ hi => aI_get g hi)

set_option maxRecDepth 100000 in
set_option maxHeartbeats 1000000 in
theorem refFiner_any (f g : Nat → Int) (w : World) :
    Calls Try.prog 75 #[.agg (aI f), .agg (aI g)] w fun e w' => e = .returned (.bool (eqA (fun c => (leastR (joinP f g) c : Int)) f)) ∧ Ext w w' := by
  have HJ := Lib.hid fun W => refJoin_any f g W
  obtain ⟨R, hR⟩ : ∃ R : Nat → Int, R = fun c => (leastR (joinP f g) c : Int) := ⟨_, rfl⟩
  rw [← hR] at HJ ⊢
  clear hR
  have he := fun W => a87_equal R f W
  go_enter Try.func75, Try.ntmps75
  go_wp2
  refine wp_named ?_
  intro W1 hW1
  have b1 : Hid (Blk W1 w.heap.size (aI f) 87) := by rw [hW1]; exact (Blk.new _ _ _).alloc _
  have b2 : Hid (Blk W1 (w.heap.size + 1) (aI g) 87) := by rw [hW1]; exact (Blk.new _ _ _).at (by simp)
  have X1 : Hid (Ext w W1) := by rw [hW1]; exact ((Ext.refl w).alloc _).alloc _
  have l1 := b1.out.lt
  have l2 := b2.out.lt
  clear hW1
  refine wp_region_lexK (fun x => x < W1.heap.size) (by kernel_rfl) (fun i => i == 2) (by kernel_rfl) ?_
  intro C hC hne W0 hK0 hblk hsz hx0
  have HC := Lib.hid hC
  have HK0 := Lib.hid hK0
  have HX0 := Lib.hid hx0
  refine Later.out ?_
  clear hC hK0 hblk hsz hx0
  have HS := Lib.hid (fun x (hx : x < W1.heap.size) => hx)
  refine laterStep (fun K hK => ?_)
  refine lexF rfl rfl ⟨.agg (aI f), fun W => floatAt_load 87 (.tmp 2) rfl w.heap.size 0 rfl (aI f) _ (rangeAt_keeps b1.out.range ((HC.out _).1 W.2) l1) Try.underlying87 rfl (sizeA87 f), ?_⟩
  go_simp
  refine hK _ _ ?_
  clear hK K
  refine laterStep (fun K hK => ?_)
  refine lexF rfl rfl ⟨.agg (aI g), fun W => floatAt_load 87 (.tmp 3) rfl (w.heap.size + 1) 0 rfl (aI g) _ (rangeAt_keeps b2.out.range ((HC.out _).1 W.2) l2) Try.underlying87 rfl (sizeA87 g), ?_⟩
  go_simp
  refine hK _ _ ?_
  clear hK K
  refine laterStep (fun K hK => ?_)
  refine lexE rfl rfl ?_
  go_simp
  refine effAt_call ((HJ.out _).mono ?_)
  rintro e w1 ⟨rfl, hx⟩
  have hk1 := Keeps.step HK0.out HS.out hx
  refine ⟨_, rfl, (HC.out _).2 hk1, hK _ _ ?_⟩
  have HK1 := Lib.hid hk1
  clear hK K hk1
  have XX := Lib.hid (HX0.out.trans hx)
  clear hx
  refine laterStep (fun K hK => ?_)
  refine lexF rfl rfl ⟨.agg (aI f), fun W => floatAt_load 87 (.tmp 2) rfl w.heap.size 0 rfl (aI f) _ (rangeAt_keeps b1.out.range ((HC.out _).1 W.2) l1) Try.underlying87 rfl (sizeA87 f), ?_⟩
  go_simp
  refine hK _ _ ?_
  clear hK K
  repeat (refine laterStep (fun K hK => ?_); first | (refine lexN rfl ?_; try go_simp; refine hK _ _ ?_; clear hK K) | (refine lexF rfl rfl ?_; unfold floatAt; go_simp; refine hK _ _ ?_; clear hK K))
  refine laterNil ?_
  go_wp2
  go_ret
  exact ⟨rfl, X1.out.trans XX.out⟩

set_option maxRecDepth 100000 in
set_option maxHeartbeats 1000000 in
/-- slices.Equal at sets, of lists that are alike. -/
theorem setsEqual_any (v1 v2 : Value) (l : List BS) (w : World) (h1 : IsSets w v1 l) (h2 : IsSets w v2 l) (hn : l.length ≤ 1000000) :
    Calls Try.prog 72 #[v1, v2] w fun e w' => e = .returned (.bool true) ∧ Ext w w' := by
  obtain ⟨a1, c1, rfl⟩ := h1.form
  obtain ⟨a2, c2, rfl⟩ := h2.form
  obtain ⟨n, hnn⟩ : ∃ n, n = l.length := ⟨_, rfl⟩
  rw [← hnn] at h1 h2 hn ⊢
  have HN := Lib.hid hnn
  have H1 := Lib.hid h1
  have H2 := Lib.hid h2
  have HE := Lib.hid fun s W => set_equal s s W
  clear h1 h2 hnn
  go_enter Try.func72, Try.ntmps72
  go_wp2
  go_loopw [13] (fun i wr => ∃ k : Nat, k ≤ n ∧ i = .int .i64 k ∧ Ext w wr) (fun i _ => n - (intOf i).toNat)
  case atStart => exact ⟨0, by omega, rfl, Ext.refl _⟩
  case round =>
    obtain ⟨k, hk, rfl, hx⟩ := hrel
    obtain ⟨wo, rfl⟩ : ∃ wo : World, wo = wr := ⟨_, rfl⟩
    have HX := Lib.hid hx
    by_cases hlt : k < n
    · obtain ⟨s, hs⟩ : ∃ s, l[k]? = some s := ⟨_, List.getElem?_eq_getElem (by have := HN.out; omega)⟩
      have g1 := H1.out.below hx.below
      have g2 := H2.out.below hx.below
      rcases g1 with ⟨_, e⟩ | ⟨b, off, cap', e1, hb, hcc⟩
      · rw [e] at hs; simp at hs
      cases e1
      rcases g2 with ⟨_, e⟩ | ⟨b', off', cap'', e2, hb', hcc'⟩
      · rw [e] at hs; simp at hs
      cases e2
      have d0 : wo.cell? ⟨b, off + k * 4, none⟩ = some (.int .u64 (wd s 0).toNat) := hcc k s hs 0 (by decide)
      have d1 : wo.cell? ⟨b, off + k * 4 + 1, none⟩ = some (.int .u64 (wd s 1).toNat) := hcc k s hs 1 (by decide)
      have d2 : wo.cell? ⟨b, off + k * 4 + 2, none⟩ = some (.int .u64 (wd s 2).toNat) := hcc k s hs 2 (by decide)
      have d3 : wo.cell? ⟨b, off + k * 4 + 3, none⟩ = some (.int .u64 (wd s 3).toNat) := hcc k s hs 3 (by decide)
      have e0 : wo.cell? ⟨b', off' + k * 4, none⟩ = some (.int .u64 (wd s 0).toNat) := hcc' k s hs 0 (by decide)
      have e1 : wo.cell? ⟨b', off' + k * 4 + 1, none⟩ = some (.int .u64 (wd s 1).toNat) := hcc' k s hs 1 (by decide)
      have e2 : wo.cell? ⟨b', off' + k * 4 + 2, none⟩ = some (.int .u64 (wd s 2).toNat) := hcc' k s hs 2 (by decide)
      have e3 : wo.cell? ⟨b', off' + k * 4 + 3, none⟩ = some (.int .u64 (wd s 3).toNat) := hcc' k s hs 3 (by decide)
      have heq : ∀ W, (Op.equalIn 10000 25 (.agg #[.int .u64 (wd s 0).toNat, .int .u64 (wd s 1).toNat, .int .u64 (wd s 2).toNat, .int .u64 (wd s 3).toNat]) (.agg #[.int .u64 (wd s 0).toNat, .int .u64 (wd s 1).toNat, .int .u64 (wd s 2).toNat, .int .u64 (wd s 3).toNat])).run Try.prog W = .ok true W := fun W => by
        have h1 := HE.out s W
        rw [show (s == s) = true from by simp] at h1
        exact h1
      have hki : (k : Int) < (l.length : Nat) := by omega
      clear hcc hcc' hs hx
      go_wp2
      go_quiet (fail)
      go_wp2
      exact ⟨⟨k + 1, by omega, by go_num, ext_drewN HX.out nq⟩, by simp [intOf]; omega⟩
    · clear hx
      go_wp2
      go_ret
      exact ⟨rfl, HX.out⟩
end Go.Proofs.Ytokkgbcjjaiaeaa

namespace Go.Proofs.Ytokkgbcjjaiaeaa
open Go Go.RowKit Go.Shelf Go.Maps

/-- The cells of a slice of arrays. -/
def flatA (fs : List (Nat → Int)) : List Value := fs.flatMap fun f => (aI f).toList
theorem flatA_length (fs : List (Nat → Int)) : (flatA fs).length = fs.length * 256 := by
  unfold flatA
  induction fs with
  | nil => rfl
  | cons f fs ih => rw [List.flatMap_cons, List.length_append, ih, Array.length_toList, aI_size, List.length_cons]; omega
theorem flatA_append (l m : List (Nat → Int)) : flatA (l ++ m) = flatA l ++ flatA m := by simp [flatA]
theorem flatA_one (f : Nat → Int) : flatA [f] = (aI f).toList := by simp [flatA]
theorem flatA_get : ∀ (l : List (Nat → Int)) {i : Nat} {f : Nat → Int}, l[i]? = some f → ∀ {j : Nat}, j < 256 → (flatA l)[i * 256 + j]? = some (.int .i64 (f j)) := by
  intro l
  induction l with
  | nil => intro i f h; simp at h
  | cons g l ih =>
    intro i f h j hj
    have e : flatA (g :: l) = (aI g).toList ++ flatA l := by unfold flatA; rw [List.flatMap_cons]
    cases i with
    | zero =>
      cases h
      rw [e, List.getElem?_append_left (by rw [Array.length_toList, aI_size]; omega), Array.getElem?_toList, Nat.zero_mul, Nat.zero_add, aI_get _ hj]
    | succ i =>
      rw [e, List.getElem?_append_right (by rw [Array.length_toList, aI_size]; omega), Array.length_toList, aI_size, show (i + 1) * 256 + j - 256 = i * 256 + j by omega]
      exact ih (by simpa using h) hj
theorem ownsRow_arrs {w : World} {base : Nat} {v : Value} {l : List (Nat → Int)} (h : w.ownsRow base 56 256 v l.length (flatA l)) : IsArrs w v l := by
  rcases h.2 with ⟨h1, h2⟩ | ⟨g, cap, cur, hv, _, hg, hn, _, hs, ht⟩
  · exact .inl ⟨h1, List.eq_nil_of_length_eq_zero h2⟩
  · refine .inr ⟨g, 0, cap, hv, (Array.getElem?_eq_some_iff.1 hg).1, fun i s hi j hj => ?_⟩
    have hc : w.cell? ⟨g, 0 + i * 256 + j, none⟩ = cur[0 + i * 256 + j]? := by simp [World.cell?, hg]
    rw [hc, Nat.zero_add, ← flatA_get l hi hj, ← ht]
    have hlt : i < l.length := (List.getElem?_eq_some_iff.1 hi).1
    rw [List.getElem?_take, if_pos (by omega)]
    simp
theorem Try.infoA : (Try.prog.info? 56).map (fun i => (i.zero, i.size, i.bytes)) = some (some (.agg (aI fun _ => 0)), 256, 2048) := by kernel_rfl

set_option maxRecDepth 100000 in
set_option maxHeartbeats 1000000 in
theorem theirs_any (v : Value) (l : List BS) (w : World) (h : IsSets w v l) (hn : l.length ≤ 1000000) :
    Calls Try.prog 59 #[v] w fun e w' => ∃ u, e = .returned u ∧ IsArrs w' u (l.map refS) ∧ Below w.heap.size w w' := by
  obtain ⟨i0, hi, hz0, hz1, hz2⟩ := info_parts Try.infoA
  obtain ⟨a, cap, rfl⟩ := h.form
  obtain ⟨n, hnn⟩ : ∃ n, n = l.length := ⟨_, rfl⟩
  rw [← hnn] at h hn ⊢
  have H := Lib.hid h
  have HN := Lib.hid hnn
  have HW := Lib.hid fun s W => refWords_any s W
  clear h hnn
  go_enter Try.func59, Try.ntmps59
  go_wp2
  go_loopw [8, 3] (fun i u wr => ∃ k : Nat, k ≤ n ∧ i = .int .i64 k ∧ wr.ownsRow w.heap.size 56 256 u ((l.take k).map refS).length (flatA ((l.take k).map refS)) ∧ Below w.heap.size w wr) (fun i _ _ => n - (intOf i).toNat)
  case atStart => exact ⟨0, by omega, rfl, World.ownsRow_nil _ _ _ _, Below.refl _ _⟩
  case round =>
    obtain ⟨k, hk, rfl, ho, hx⟩ := hrel
    obtain ⟨wo, rfl⟩ : ∃ wo : World, wo = wr := ⟨_, rfl⟩
    by_cases hlt : k < n
    · obtain ⟨s, hs⟩ : ∃ s, l[k]? = some s := ⟨_, List.getElem?_eq_getElem (by have := HN.out; omega)⟩
      have hrow := H.out.below hx
      have hlen : ((l.take k).map refS).length ≤ 1000000 := by rw [List.length_map, List.length_take]; omega
      have htk : (l.take (k + 1)).map refS = (l.take k).map refS ++ [refS s] := by rw [List.take_add_one, hs]; simp
      rcases hrow with ⟨_, h2⟩ | ⟨b, off, cap', h1, hb, hc⟩
      · rw [h2] at hs; simp at hs
      cases h1
      have d0 : wo.cell? ⟨b, off + k * 4, none⟩ = some (.int .u64 (wd s 0).toNat) := hc k s hs 0 (by decide)
      have d1 : wo.cell? ⟨b, off + k * 4 + 1, none⟩ = some (.int .u64 (wd s 1).toNat) := hc k s hs 1 (by decide)
      have d2 : wo.cell? ⟨b, off + k * 4 + 2, none⟩ = some (.int .u64 (wd s 2).toNat) := hc k s hs 2 (by decide)
      have d3 : wo.cell? ⟨b, off + k * 4 + 3, none⟩ = some (.int .u64 (wd s 3).toNat) := hc k s hs 3 (by decide)
      obtain ⟨a5, c5, rfl⟩ := ownsRow_form ho
      have HO := Lib.hid ho
      have HX := Lib.hid hx
      have HT := Lib.hid htk
      clear hc hs ho hx htk
      generalize (l.take k).map refS = xs at HO hlen HT
      go_wp2_with fail
      refine (HW.out s _).mono ?_
      rintro e w1 ⟨rfl, hx⟩
      have O1 := Lib.hid ((ownsRow_keeps (HO.out.alloc (.cells (encS s) 25 (0, 0))) hx.keeps (fun k e => by have := (HO.out.lt k e).2; simp; omega)).alloc (.cells (aI (refS s)) 56 (0, 0)))
      have X1 := Lib.hid ((HX.out.alloc HX.out.size (.cells (encS s) 25 (0, 0))).trans (hx.below.mono (by have := HX.out.size; simp; omega)))
      clear hx d0 d1 d2 d3
      have hsz := aI_size (refS s)
      go_wp2_with (first | (refine wpList_build1 rfl 89 56 (.tmp 14) rfl (some 15) rfl Try.underlying89 hi hz0 hz1 (by decide) (by decide) (aI (refS s)) rfl hsz ?_) | (at_builtin; refine wpList_append_own_at _ rfl (.tmp 12) (.tmp 15) 89 rfl w.heap.size 56 i0 (.agg (aI fun _ => 0)) 256 2048 Try.underlying89 hi hz0 hz1 hz2 (aI_size _) (by decide) _ _ _ rfl O1.out ⟨w1.heap.size, 0, none⟩ 1 1 (aI (refS s)).toList rfl (by rw [Array.length_toList, aI_size]) (news_blk (Blk.new _ (aI (refS s)) 56)) (by intro u hu; exact Array.all_eq_true_iff_forall_mem.1 (aI_one _) u (by simpa using hu)) (by unfold maxLen; omega) (by omega) (by have := X1.out.size; simp; omega) ?_; intro v' w2 hown' hgrow hh hat; have HO2 := Lib.hid hown'; have HG := Lib.hid hgrow; clear hown' hgrow hh hat))
      go_roundw
      case rel =>
        refine ⟨k + 1, by omega, by go_num, ?_, ?_⟩
        · rw [HT.out, List.length_append, flatA_append, flatA_one]; exact HO2.out
        · exact (X1.out.alloc X1.out.size _).grown HG.out (by have := X1.out.size; simp; omega) (fun c e => (HO.out.lt c e).1)
      case measure => simp [intOf]; omega
    · obtain rfl : k = n := by omega
      have htk : l.take k = l := by rw [HN.out]; exact List.take_length
      rw [htk] at ho
      have HO := Lib.hid ho
      have HX := Lib.hid hx
      clear ho hx htk
      go_wp2
      go_ret
      exact ⟨_, rfl, ownsRow_arrs HO.out, HX.out⟩
end Go.Proofs.Ytokkgbcjjaiaeaa

namespace Go.Proofs.Ytokkgbcjjaiaeaa
open Go Go.RowKit Go.Shelf Go.Maps

/-- The numbers below k of the classes whose least byte a set has. -/
def pickTo (f g : Nat → Int) (k : Nat) : List Nat := (List.range k).filter fun i => g ((leastsTo f 256)[i]?.getD 0) == 1
theorem pickTo_succ (f g : Nat → Int) {k x : Nat} (hx : (leastsTo f 256)[k]? = some x) : pickTo f g (k + 1) = if g x = 1 then pickTo f g k ++ [k] else pickTo f g k := by
  unfold pickTo
  rw [List.range_succ, List.filter_append]
  by_cases h : g x = 1
  · rw [if_pos h]; simp [hx, h]
  · rw [if_neg h]; simp [hx, h]
theorem pickTo_len (f g : Nat → Int) (k : Nat) : (pickTo f g k).length ≤ k := by
  unfold pickTo; exact Nat.le_trans (List.length_filter_le _ _) (by simp)
theorem leastsTo_lt {f : Nat → Int} {i x : Nat} (h : (leastsTo f 256)[i]? = some x) : x < 256 := by
  have := List.mem_of_getElem? h
  unfold leastsTo at this
  exact List.mem_range.1 (List.mem_filter.1 this).1

set_option maxRecDepth 100000 in
set_option maxHeartbeats 2000000 in
theorem refClasses_any (f g : Nat → Int) (m : Nat → Nat) (hm : ∀ c, c < 256 → f c = m c ∧ m c < 256) (w : World) :
    Calls Try.prog 60 #[.agg (aI f), .agg (aI g)] w fun e w' => ∃ u e', e = .returned (.tuple #[u, .int .i64 e']) ∧ Below w.heap.size w w' ∧ ((∃ c, c < 256 ∧ g c ≠ g (m c)) ∧ e' = 160 ∧ u = .slice none 0 0 ∨ (∀ c, c < 256 → g c = g (m c)) ∧ e' = 0 ∧ w'.ownsRow w.heap.size 3 1 u (pickTo f g (leastsTo f 256).length).length ((pickTo f g (leastsTo f 256).length).map encN)) := by
  have HL := Lib.hid fun W => leasts_any f W
  have HM := Lib.hid hm
  obtain ⟨i0, hi, hz0, hz1, hz2⟩ := info_parts Try.infoI
  obtain ⟨z, hz⟩ : ∃ z, z = (leastsTo f 256).length := ⟨_, rfl⟩
  have HZ := Lib.hid hz
  rw [← hz]
  clear hm hz
  go_enter Try.func60, Try.ntmps60
  obtain ⟨W2, hW2⟩ : ∃ W2, W2 = (w.alloc (.cells (aI f) 87)).alloc (.cells (aI g) 56) := ⟨_, rfl⟩
  have B1 : Hid (Blk W2 w.heap.size (aI f) 87) := by rw [hW2]; exact (Blk.new _ _ _).alloc _
  have B2 : Hid (Blk W2 (w.heap.size + 1) (aI g) 56) := by rw [hW2]; exact (Blk.new _ _ _).at (by simp)
  have X2 : Hid (Below w.heap.size w W2) := by rw [hW2]; exact ((Below.refl _ _).alloc (Nat.le_refl _) _).alloc (by simp) _
  have S2 := Lib.hid (show W2.heap.size = w.heap.size + 2 by rw [hW2]; simp)
  go_wp2
  rw [← hW2]
  clear hW2
  go_loopw [6] (fun i wr => ∃ c : Nat, c ≤ 256 ∧ i = .int .i64 c ∧ (∀ d, d < c → g d = g (m d)) ∧ Ext W2 wr) (fun i _ => 256 - (intOf i).toNat)
  case atStart => exact ⟨0, by omega, rfl, fun d hd => by omega, Ext.refl _⟩
  case round =>
    obtain ⟨c, hc, rfl, hd, hx⟩ := hrel
    obtain ⟨wo, rfl⟩ : ∃ wo : World, wo = wr := ⟨_, rfl⟩
    have HX := Lib.hid hx
    have HD := Lib.hid hd
    by_cases hlt : c < 256
    · obtain ⟨hmc, hml⟩ := HM.out c hlt
      have c1 := (B1.out.ext hx).aI hlt
      have c2 := (B2.out.ext hx).aI hlt
      obtain ⟨j, hj⟩ : ∃ j, j = m c := ⟨_, rfl⟩
      rw [← hj] at hmc hml
      have c3 := (B2.out.ext hx).aI hml
      rw [hmc] at c1
      have HJ := Lib.hid hj
      have hci : (c : Int) < 256 := by omega
      have hji : (j : Int) < 256 := by omega
      clear hx hd hmc hj
      by_cases he : g c = g j
      · have hne : (g c != g j) = false := by simpa using he
        have HE := Lib.hid he
        clear he
        go_wp2
        go_quiet (fail)
        go_wp2
        refine ⟨⟨c + 1, by omega, by go_num, fun d hd => ?_, ext_drewN HX.out _⟩, by simp [intOf]; omega⟩
        by_cases e : d = c
        · subst e; rw [← HJ.out]; exact HE.out
        · exact HD.out d (by omega)
      · have hne : (g c != g j) = true := by simpa using he
        have HE := Lib.hid he
        clear he
        go_wp2
        go_quiet (fail)
        go_wp2
        go_ret2
        exact ⟨_, _, rfl, X2.out.trans ((ext_drewN HX.out _).below.mono X2.out.size), .inl ⟨⟨c, by omega, by rw [← HJ.out]; exact HE.out⟩, rfl, rfl⟩⟩
    · obtain rfl : c = 256 := by omega
      have hB := Lib.hid (B1.out.ext hx)
      have hll := leastsTo_len f 256
      rw [← HZ.out] at hll
      clear hx hd
      go_wp2_with (first | (refine wpList_load_w rfl 87 (.tmp 2) rfl w.heap.size rfl (aI f) _ hB.out.range Try.underlying87 rfl (sizeA87 f) ?_))
      refine (HL.out _).mono ?_
      rintro e w1 ⟨u, rfl, h1, hx⟩
      rw [← HZ.out] at h1
      obtain ⟨a1, c1, rfl⟩ := ownsRow_form h1
      have U1 := Lib.hid (ownsRow_sl (l := leastsTo f 256) h1 HZ.out)
      have hsw : W2.heap.size ≤ wo.heap.size := HX.out.size
      have C2 := Lib.hid ((B2.out.ext HX.out).below hx (by have := S2.out; omega))
      have X1 := Lib.hid (X2.out.trans ((HX.out.below.mono X2.out.size).trans (hx.mono (Nat.le_trans X2.out.size hsw))))
      clear h1 hx
      go_wp2
      go_loopw [9, 7] (fun i u wr => ∃ k : Nat, k ≤ z ∧ i = .int .i64 k ∧ wr.ownsRow w1.heap.size 3 1 u (pickTo f g k).length ((pickTo f g k).map encN) ∧ Below w1.heap.size w1 wr) (fun i _ _ => z - (intOf i).toNat)
      case atStart => exact ⟨0, by omega, rfl, World.ownsRow_nil _ _ _ _, Below.refl _ _⟩
      case round =>
        obtain ⟨k, hk, rfl, ho, hx⟩ := hrel
        obtain ⟨wi, rfl⟩ : ∃ wi : World, wi = wr := ⟨_, rfl⟩
        by_cases hlt : k < z
        · obtain ⟨x, hxl⟩ : ∃ x, (leastsTo f 256)[k]? = some x := ⟨_, List.getElem?_eq_getElem (by have := HZ.out; omega)⟩
          have hx256 := leastsTo_lt hxl
          obtain ⟨b, o, rfl, hb, hcx⟩ := (U1.out.below hx).elem hxl
          have d1 : wi.cell? ⟨b, o + k, none⟩ = some (.int .i64 x) := hcx
          have d2 := (C2.out.below hx C2.out.lt).aI hx256
          have hT := pickTo_succ f g hxl
          have hlen := pickTo_len f g k
          have hki : (k : Int) < z := by omega
          have hxi : (x : Int) < 256 := by omega
          obtain ⟨a5, c5, rfl⟩ := ownsRow_form ho
          have HO := Lib.hid ho
          have HX1 := Lib.hid hx
          by_cases hg : g x = 1
          · rw [if_pos hg] at hT
            rw [hg] at d2
            have HT := Lib.hid hT
            clear ho hx hT hg hcx hxl
            generalize pickTo f g k = xs at HO hlen HT
            go_wp2_with (at_builtin; refine wpList_append_own_at _ rfl _ _ 26 rfl w1.heap.size 3 i0 (.int .i64 0) 1 8 Try.underlying26 hi hz0 hz1 hz2 rfl (by decide) _ _ _ rfl (HO.out.alloc _) ⟨_, 0, none⟩ 1 1 [encN k] rfl rfl (cell_one_new _ _ _) (by simp [Value.oneCell', encN]) (by unfold maxLen; omega) (by omega) (by have := HX1.out.size; simp; omega) ?_; intro v' w2 hown' hgrow hh hat; have HO2 := Lib.hid hown'; have HG := Lib.hid hgrow; clear hown' hgrow hh hat)
            go_roundw
            case rel =>
              refine ⟨k + 1, by omega, by go_num, ?_, ?_⟩
              · rw [HT.out, List.length_append, List.map_append]; exact HO2.out
              · exact (HX1.out.alloc HX1.out.size _).grown HG.out (by have := HX1.out.size; simp; omega) (fun c e => (HO.out.lt c e).1)
            case measure => simp [intOf]; omega
          · rw [if_neg hg] at hT
            have HT := Lib.hid hT
            have h1 : (g x == (1 : Int)) = false := by simpa using hg
            clear ho hx hT hg hcx hxl
            generalize pickTo f g k = xs at HO hlen HT
            generalize g x = y at *
            go_wp2
            go_roundw
            case rel =>
              refine ⟨k + 1, by omega, by go_num, ?_, HX1.out⟩
              rw [HT.out]; exact HO.out
            case measure => simp [intOf]; omega
        · obtain rfl : k = z := by omega
          have HO := Lib.hid (ownsRow_base ho X1.out.size)
          have HX1 := Lib.hid (X1.out.trans (hx.mono X1.out.size))
          clear ho hx
          go_wp2
          go_ret2
          exact ⟨_, _, rfl, HX1.out, .inr ⟨HD.out, rfl, HO.out⟩⟩
end Go.Proofs.Ytokkgbcjjaiaeaa
