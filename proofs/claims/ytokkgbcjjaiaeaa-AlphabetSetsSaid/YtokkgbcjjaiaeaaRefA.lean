/-
  Walks of the reference of layer 16: Together.
-/
import Derived.Test.YtokkgbcjjaiaeaaRefB
import Derived.Test.YtokkgbcjjaiaeaaRef
import Derived.Great.BuildSlice
import Derived.Test.YtokkgbcjjaiaeaaReg3
namespace Go.Proofs.Ytokkgbcjjaiaeaa
open Go Go.RowKit Go.Shelf Go.Maps

theorem Keeps.setRow {R : Nat → Prop} {A B : World} (h : Keeps R A B) {g : Nat} (hp : ¬ R g) (c : Array Value) : Keeps R A (B.setRow g c) :=
  ⟨h.os, h.tape, h.output, Nat.le_trans h.size (by simp), fun k hk => (setRow_other B g k c (fun e => hp (e ▸ hk))).trans (h.keep k hk)⟩
theorem builtA56 : Try.prog.built 56 [] = some (aI fun _ => 0) := by kernel_rfl
theorem results_row_tmp {P : Program} {fn : Func} {p t : Tmp} {ty : TypeId} (h : fn.results = #[.cell p ty, .tmp t]) (tmps : Array Value) (w : World) (g : Nat) (tt : TypeId) (cs : Array Value) (fr : Nat × Nat) (d : TypeDesc)
    (hp : tmps.getD p undef = .pointer (some ⟨g, 0, none⟩)) (hg : w.heap[g]? = some (.cells cs tt fr))
    (hu : P.underlying ty = some d) (hd : (match d with | .struct _ | .array _ _ => true | _ => false) = true) (hi : (P.info? ty).map (·.size) = some cs.size) :
    (results fn tmps).run P w = .ok (.tuple #[.agg cs, tmps.getD t undef]) w := by
  have hp' : tmps[p]?.getD undef = .pointer (some ⟨g, 0, none⟩) := by simpa using hp
  simp [results, h, hp', asAddr, run_loadVar_row w g tt ty cs fr d hg hu hd hi]

def inR (f : Nat → Int) (x : Int) : Bool := decide (0 ≤ x) && decide (x < ((leastsTo f 256).length : Int))
theorem inR_some {f : Nat → Int} {x : Int} (h : inR f x = true) : ∃ n m : Nat, x = n ∧ (leastsTo f 256)[n]? = some m := by
  unfold inR at h
  simp only [Bool.and_eq_true, decide_eq_true_eq] at h
  obtain ⟨n, rfl⟩ := Int.eq_ofNat_of_zero_le h.1
  exact ⟨n, _, rfl, List.getElem?_eq_getElem (by have := h.2; omega)⟩
def setR (f : Nat → Int) (x : Int) : Nat → Int := refSetOf f ((leastsTo f 256)[x.toNat]?.getD 0)
def orAll (f : Nat → Int) (l : List Int) : Nat → Int := l.foldl (fun g x => orR g (setR f x)) fun _ => 0
theorem orAll_snoc (f : Nat → Int) (l : List Int) (x : Int) : orAll f (l ++ [x]) = orR (orAll f l) (setR f x) := by unfold orAll; rw [List.foldl_append]; rfl
theorem orR_01 (f g : Nat → Int) (c : Nat) : 0 ≤ orR f g c ∧ orR f g c ≤ 1 := by unfold orR; split <;> omega
theorem refSetOf_01 (f : Nat → Int) (m c : Nat) : 0 ≤ refSetOf f m c ∧ refSetOf f m c ≤ 1 := by unfold refSetOf; split <;> omega
theorem orAll_01 (f : Nat → Int) (l : List Int) (c : Nat) : 0 ≤ orAll f l c ∧ orAll f l c ≤ 1 := by
  have key : ∀ (l : List Int) (g : Nat → Int), (0 ≤ g c ∧ g c ≤ 1) → 0 ≤ (l.foldl (fun g x => orR g (setR f x)) g) c ∧ (l.foldl (fun g x => orR g (setR f x)) g) c ≤ 1 := by
    intro l
    induction l with
    | nil => intro g h; exact h
    | cons x l ih => intro g h; exact ih _ (orR_01 _ _ _)
  exact key l _ ⟨Int.le_refl _, by decide⟩
def togR (f : Nat → Int) (l : List Int) : (Nat → Int) × Int := if l.all (inR f) then (orAll f l, 0) else (fun _ => 0, 2)

set_option maxRecDepth 100000 in
set_option maxHeartbeats 4000000 in
theorem refTogether_any (f : Nat → Int) (lv : Value) (l : List Int) (w : World) (hl : IsSl encZ w lv l) (hn : l.length ≤ 1000000) :
    Calls Try.prog 62 #[.agg (aI f), lv] w fun e w' => e = .returned (.tuple #[.agg (aI (togR f l).1), .int .i64 (togR f l).2]) ∧ Below w.heap.size w w' := by
  obtain ⟨sa, cap, rfl⟩ := hl.form
  have HI := Lib.hid fun (x : Int) W => refIs_any f x W
  have HS2 := Lib.hid fun n m (h : (leastsTo f 256)[n]? = some m) W => refSet_any f n m h W
  have HO2 := Lib.hid fun g h (hg : ∀ c, 0 ≤ g c ∧ g c ≤ 1) (hh : ∀ c, 0 ≤ h c ∧ h c ≤ 1) W => refOr_any g h hg hh W
  have hz := zeroA56
  have HB := Lib.hid hl
  obtain ⟨n, hnn⟩ : ∃ n, n = l.length := ⟨_, rfl⟩
  rw [← hnn] at hn HB ⊢
  have HNN := Lib.hid hnn
  obtain ⟨r, hr⟩ : ∃ r, r = togR f l := ⟨_, rfl⟩
  rw [← hr]
  unfold togR at hr
  have HR := Lib.hid hr
  clear hl hnn hr
  go_enter Try.func62, Try.ntmps62
  go_wp2
  clear hz
  go_loopw [7] (fun i wr => ∃ k : Nat, k ≤ n ∧ i = .int .i64 k ∧ (l.take k).all (inR f) = true ∧ Blk wr w.heap.size (aI f) 87 ∧ Blk wr (w.heap.size + 1) (aI fun _ => 0) 56 ∧ Blk wr (w.heap.size + 1 + 1) (aI (orAll f (l.take k))) 56 ∧ Below w.heap.size w wr) (fun i _ => n - (intOf i).toNat)
  case atStart =>
    refine ⟨0, by omega, rfl, rfl, ?_, ?_, ?_, (((Below.refl _ _).alloc (Nat.le_refl _) _).alloc (by simp) _).alloc (by simp; omega) _⟩
    · exact ((Blk.new _ _ _).alloc _).alloc _
    · exact ((Blk.new _ _ _).at (by simp)).alloc _
    · exact (Blk.new _ _ _).at (by simp)
  case round =>
    obtain ⟨k, hk, rfl, ha, hb1, hb2, hb3, hx⟩ := hrel
    obtain ⟨wo, rfl⟩ : ∃ wo : World, wo = wr := ⟨_, rfl⟩
    have H1 := Lib.hid hb1
    have H2 := Lib.hid hb2
    have H3 := Lib.hid hb3
    have HX := Lib.hid hx
    have HA := Lib.hid ha
    by_cases hlt : k < n
    · obtain ⟨z, hzl⟩ : ∃ z, l[k]? = some z := ⟨_, List.getElem?_eq_getElem (by have := HNN.out; omega)⟩
      obtain ⟨g, off, rfl, hg, hcell⟩ := (HB.out.below hx).elem hzl
      have c0 : wo.cell? ⟨g, off + k, none⟩ = some (.int .i64 z) := hcell
      have hgw : g < w.heap.size := by
        obtain ⟨g', off', e', h, _⟩ := HB.out.elem (i := k) hzl
        cases e'; exact h
      have HTA := Lib.hid (show (l.take (k + 1)).all (inR f) = ((l.take k).all (inR f) && inR f z) by rw [List.take_add_one, hzl]; simp)
      have HT := Lib.hid (show orAll f (l.take (k + 1)) = orR (orAll f (l.take k)) (setR f z) by rw [List.take_add_one, hzl]; exact orAll_snoc _ _ _)
      have HZL := Lib.hid hzl
      have hbs := hb3.lt
      have HG : Hid (g < w.heap.size) := hgw
      have HI1 : Hid (∀ W, Calls Try.prog 90 #[.agg (aI f), .int .i64 z] W fun e w' => e = .returned (.bool (inR f z)) ∧ Below W.heap.size W w') := fun W => HI.out z W
      have hki : (k : Int) < n := by omega
      have h01 := Lib.hid (orAll_01 f (l.take k))
      clear hb1 hb2 hb3 hx ha hzl hcell
      generalize orAll f (l.take k) = acc at *
      go_wp2
      refine wp_region_lexK (fun x => x ≤ w.heap.size + 1 + 1) (by kernel_rfl) (fun i => i == 5) (by kernel_rfl) ?_
      intro C hC hne W0 hK0 hblk hsz hx0
      have HC := Lib.hid hC
      have HK0 := Lib.hid hK0
      have HX0 := Lib.hid hx0
      refine Later.out ?_
      have f1 := lexCell hC (p := ⟨g, off + k, none⟩) (show g ≤ w.heap.size + 1 + 1 by omega) c0
      have HS : Hid (∀ x, x ≤ w.heap.size + 1 + 1 → x < wo.heap.size) := fun x hx => by omega
      clear hC hK0 hblk hsz hx0
      refine laterStep (fun K hK => ?_)
      refine lexF rfl rfl ⟨.agg (aI f), fun W => floatAt_load 87 (.tmp 2) rfl w.heap.size 0 rfl (aI f) _ (rangeAt_keeps H1.out.range ((HC.out _).1 W.2) (show w.heap.size ≤ w.heap.size + 1 + 1 by omega)) Try.underlying87 rfl (sizeA87 f), ?_⟩
      go_simp
      refine hK _ _ ?_
      clear hK K
      repeat (refine laterStep (fun K hK => ?_); first | (refine lexN rfl ?_; try go_simp; refine hK _ _ ?_; clear hK K) | (refine lexF rfl rfl ?_; unfold floatAt; go_simp; refine hK _ _ ?_; clear hK K))
      refine laterStep (fun K hK => ?_)
      refine lexE rfl rfl ?_
      go_simp
      refine effAt_call ((HI1.out _).mono ?_)
      rintro e w1 ⟨rfl, hx⟩
      have hk1 := Keeps.stepB HK0.out HS.out hx
      refine ⟨_, rfl, (HC.out _).2 hk1, hK _ _ ?_⟩
      have HK1 := Lib.hid hk1
      clear hK K hk1
      have X1 := Lib.hid (HX.out.trans ((HX0.out.below.trans (hx.mono HX0.out.size)).mono HX.out.size))
      clear hx f1
      cases hin : inR f z with
      | false =>
        have hall : l.all (inR f) = false := by
          rw [List.all_eq_false]
          exact ⟨z, List.mem_of_getElem? HZL.out, by rw [hin]; simp⟩
        have hr := HR.out
        rw [hall, if_neg (by decide)] at hr
        have HRR := Lib.hid hr
        have H2' := Lib.hid (H2.out.keeps HK1.out (show w.heap.size + 1 ≤ w.heap.size + 1 + 1 by omega))
        clear hr HR
        repeat (refine laterStep (fun K hK => ?_); first | (refine lexN rfl ?_; try go_simp; refine hK _ _ ?_; clear hK K) | (refine lexF rfl rfl ?_; unfold floatAt; go_simp; refine hK _ _ ?_; clear hK K))
        refine laterNil ?_
        go_wp2_with (first | (refine wpList_buildTo rfl 56 #[] rfl (some 21) rfl (aI fun _ => 0) (by simp only [List.map_toArray, List.map_nil]; exact builtA56) ?_) | (refine wpList_store_row rfl 56 (.tmp 4) (.tmp 21) rfl (w.heap.size + 1) (aI fun _ => 0) rfl rfl 56 (aI fun _ => 0) H2'.out (sizeA56 _) rfl (aI_one _) ?_))
        refine bodyPost_ret (results_row_tmp rfl _ _ (w.heap.size + 1) 56 (aI fun _ => 0) (0, 0) _ rfl H2'.out.setRow Try.underlying56 rfl (sizeA56 _)) rfl ⟨by rw [HRR.out]; rfl, Below.setRow' X1.out (by omega) _⟩
      | true =>
        obtain ⟨zn, m, rfl, hzm⟩ := inR_some hin
        have hset : setR f (zn : Int) = refSetOf f m := by unfold setR; rw [Int.toNat_natCast, hzm]; rfl
        have HH := Lib.hid (HS2.out zn m hzm)
        rw [hset] at HT
        have HTA' := Lib.hid (show (l.take (k + 1)).all (inR f) = true by rw [HTA.out, HA.out, hin]; rfl)
        have K1 := Lib.hid (X1.out)
        have B1 := Lib.hid (H1.out.keeps HK1.out (show w.heap.size ≤ w.heap.size + 1 + 1 by omega))
        have B2 := Lib.hid (H2.out.keeps HK1.out (show w.heap.size + 1 ≤ w.heap.size + 1 + 1 by omega))
        have B3 := Lib.hid (H3.out.keeps HK1.out (Nat.le_refl _))
        have c1 : w1.cell? ⟨g, off + k, none⟩ = some (.int .i64 zn) := (HK1.out.cell (p := ⟨g, off + k, none⟩) (show g ≤ w.heap.size + 1 + 1 by omega)).trans c0
        have hs1 : w.heap.size + 1 + 1 < w1.heap.size := Nat.lt_of_lt_of_le hbs HK1.out.size
        have HM01 := Lib.hid (refSetOf_01 f m)
        clear c0 hin hzm hset HR HI HI1 HTA HS
        generalize refSetOf f m = sm at HH HT HM01
        repeat (refine laterStep (fun K hK => ?_); first | (refine lexN rfl ?_; try go_simp; refine hK _ _ ?_; clear hK K) | (refine lexF rfl rfl ?_; unfold floatAt; go_simp; refine hK _ _ ?_; clear hK K))
        refine laterNil ?_
        go_wp2
        refine wp_region_reg false (fun _ => False) (by kernel_rfl) 8 [0, 0, 0, 0, 12, 28, 62, 127, 255] (fun i => i == 6 || i == 7) (by kernel_rfl) (fun i => if i = 6 then Eff.det _ (.agg (aI sm)) else if i = 7 then Eff.det _ (.agg (aI (orR acc sm))) else Eff.any _) ?_
        intro C hC hne
        have HC := Lib.hid hC
        have f1 := regCell hC (p := ⟨g, off + k, none⟩) (show g < w1.heap.size by omega) (fun h => h) c1
        clear hC c1
        refine regStep (fun K hK => ?_)
        refine regL rfl rfl (.agg (aI acc)) (fun W hW hN => have hM := (HC.out W).1 hW; floatAt_load 56 (.tmp 6) rfl (w.heap.size + 1 + 1) 0 rfl (aI acc) _ (rangeAt_keeps B3.out.range hM.keeps ⟨B3.out.lt, fun h => h⟩) Try.underlying56 rfl (sizeA56 _)) ?_
        go_simp
        refine hK _ _ ?_
        clear hK K
        refine regStep (fun K hK => ?_)
        refine regL rfl rfl (.agg (aI f)) (fun W hW hN => have hM := (HC.out W).1 hW; floatAt_load 87 (.tmp 2) rfl (w.heap.size) 0 rfl (aI f) _ (rangeAt_keeps B1.out.range hM.keeps ⟨B1.out.lt, fun h => h⟩) Try.underlying87 rfl (sizeA87 f)) ?_
        go_simp
        refine hK _ _ ?_
        clear hK K
        repeat (refine regStep (fun K hK => ?_); first | (refine regN rfl ?_; try go_simp; refine hK _ _ ?_; clear hK K) | (refine regF rfl rfl ?_; unfold floatAt; go_simp; refine hK _ _ ?_; clear hK K))
        refine regStep (fun K hK => ?_)
        refine regE rfl rfl (Eff.det _ (.agg (aI sm))) rfl (fun W hW hN => ?_) (fun v hv => ?_)
        · have hM := (HC.out W).1 hW
          clear hW
          go_simp
          refine effT_call ((HH.out _).mono ?_)
          rintro e w2 ⟨rfl, hx⟩
          exact ⟨_, rfl, Move.of_below hx, rfl, trivial⟩
        replace hv : v = _ := hv
        subst hv
        go_simp
        refine hK _ _ ?_
        clear hK K
        refine regStep (fun K hK => ?_)
        refine regE rfl rfl (Eff.det _ (.agg (aI (orR acc sm)))) rfl (fun W hW hN => ?_) (fun v hv => ?_)
        · have hM := (HC.out W).1 hW
          clear hW
          go_simp
          refine effT_call ((HO2.out acc sm h01.out HM01.out _).mono ?_)
          rintro e w2 ⟨rfl, hx⟩
          exact ⟨_, rfl, Move.of_ext hx, rfl, trivial⟩
        replace hv : v = _ := hv
        subst hv
        go_simp
        refine hK _ _ ?_
        clear hK K
        refine regNil (fun W hW hH => ?_)
        have hM := (HC.out W).1 hW
        have C1 := Lib.hid (B1.out.below hM.below B1.out.lt)
        have C2 := Lib.hid (B2.out.below hM.below B2.out.lt)
        have C3 := Lib.hid (B3.out.below hM.below B3.out.lt)
        have X3 := Lib.hid (X1.out.trans (hM.below.mono X1.out.size))
        clear hM hW hH f1
        go_wp2_with (first | (refine wpList_store_row rfl 56 (.tmp 6) (.tmp 29) rfl (w.heap.size + 1 + 1) (aI (orR acc sm)) rfl rfl 56 (aI acc) C3.out (sizeA56 _) (by rw [aI_size, aI_size]) (aI_one _) ?_))
        go_roundw
        case rel =>
          refine ⟨k + 1, by omega, by go_num, HTA'.out, ?_, ?_, ?_, ?_⟩
          · exact C1.out.setRow_other (by omega)
          · exact C2.out.setRow_other (by omega)
          · rw [HT.out]; exact C3.out.setRow
          · exact Below.setRow' X3.out (by omega) _
        case measure => simp [intOf]; omega
    · obtain rfl : k = n := by omega
      have htk : l.take k = l := by rw [HNN.out]; exact List.take_length
      rw [htk] at H3 HA
      have hr := HR.out
      rw [HA.out, if_pos rfl] at hr
      have HRR := Lib.hid hr
      clear hb1 hb2 hb3 hx ha hr HR htk
      generalize orAll f l = acc at *
      by_cases hz : acc = fun _ => 0
      · subst hz
        go_wp2_with (first | (refine wpList_load_w rfl 56 (.tmp 6) rfl (w.heap.size + 1 + 1) rfl (aI fun _ => 0) _ H3.out.range Try.underlying56 rfl (sizeA56 _) ?_) | (refine wpList_store_row rfl 56 (.tmp 4) (.tmp 30) rfl (w.heap.size + 1) (aI fun _ => 0) rfl rfl 56 (aI fun _ => 0) H2.out (sizeA56 _) rfl (aI_one _) ?_))
        refine bodyPost_ret (results_row_tmp rfl _ _ (w.heap.size + 1) 56 (aI fun _ => 0) (0, 0) _ rfl H2.out.setRow Try.underlying56 rfl (sizeA56 _)) rfl ⟨by rw [HRR.out]; rfl, Below.setRow' HX.out (by omega) _⟩
      · go_wp2_with (first | (refine wpList_load_w rfl 56 (.tmp 6) rfl (w.heap.size + 1 + 1) rfl (aI acc) _ H3.out.range Try.underlying56 rfl (sizeA56 _) ?_) | (refine wpList_store_row rfl 56 (.tmp 4) (.tmp 30) rfl (w.heap.size + 1) (aI acc) rfl rfl 56 (aI fun _ => 0) H2.out (sizeA56 _) (by rw [aI_size, aI_size]) (aI_one _) ?_))
        refine bodyPost_ret (results_row_tmp rfl _ _ (w.heap.size + 1) 56 (aI acc) (0, 0) _ rfl H2.out.setRow Try.underlying56 rfl (sizeA56 _)) rfl ⟨by rw [HRR.out]; rfl, Below.setRow' HX.out (by omega) _⟩
end Go.Proofs.Ytokkgbcjjaiaeaa
