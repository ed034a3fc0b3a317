/-
  dfa.Right.
-/
import Derived.Test.YtbiboekhakbnpaaGreatDoorOB09
import Derived.Test.YtbiboekhakbnpaaGreatDoorOB08
set_option maxRecDepth 100000
set_option maxHeartbeats 16000000
open Go.Lib (hid)
namespace Go.Proofs.YtbiboekhakbnpaaGreatDoor
open Go Go.RowKit Go.Shelf Go.Maps

theorem right_row {d : DF} {s : Nat} (hs : s < d.nx.length) (h : d.rowB s = false) : d.right = false := by
 unfold DF.right
 have : (List.range d.nx.length).all d.rowB = false := by
  rw [List.all_eq_false]
  exact ⟨s, by simpa using hs, by rw [h]; decide⟩
 rw [this, Bool.and_false]
theorem right_all {d : DF} (h1 : 1 <= d.nx.length) (h2 : d.nx.length <= 4000) (h3 : d.mr.length = d.nx.length) (h4 : (partsOf d.cl == d.cl) = true) (h : ∀ s, s < d.nx.length -> d.rowB s = true) : d.right = true := by
 unfold DF.right
 have : (List.range d.nx.length).all d.rowB = true := by
  rw [List.all_eq_true]
  intro s hs
  exact h s (by simpa using hs)
 rw [this, decide_eq_true h1, decide_eq_true h2, decide_eq_true h3, h4]; rfl
theorem right_no {d : DF} (h : d.nx.length < 1 \/ 4000 < d.nx.length \/ d.mr.length ≠ d.nx.length \/ (partsOf d.cl == d.cl) = false) : d.right = false := by
 unfold DF.right
 rcases h with h | h | h | h
 ·rw [show decide (1 <= d.nx.length) = false from decide_eq_false (by omega)]; simp
 ·rw [show decide (d.nx.length <= 4000) = false from decide_eq_false (by omega)]; simp
 ·rw [show decide (d.mr.length = d.nx.length) = false from decide_eq_false h]; simp
 ·rw [h]; simp
theorem row_len {d : DF} {s : Nat} (h : (d.nx.getD s []).length ≠ d.cl.length) : d.rowB s = false := by
 unfold DF.rowB
 rw [show decide ((d.nx.getD s []).length = d.cl.length) = false from decide_eq_false h]; simp
theorem row_any {d : DF} {s : Nat} (h : (d.nx.getD s []).any (fun x => !inN d.nx.length x) = true) : d.rowB s = false := by
 unfold DF.rowB
 have : (d.nx.getD s []).all (inN d.nx.length) = false := by
  rw [List.all_eq_false]
  obtain ⟨x, hx, hn⟩ := List.any_eq_true.1 h
  exact ⟨x, hx, by simpa using hn⟩
 rw [this]; simp
theorem row_ris {d : DF} {s : Nat} (h : risB (d.mr.getD s []) = false) : d.rowB s = false := by
 unfold DF.rowB
 rw [h, Bool.and_false]
theorem row_all {d : DF} {s : Nat} (h1 : (d.nx.getD s []).length = d.cl.length) (h2 : (d.nx.getD s []).any (fun x => !inN d.nx.length x) = false) (h3 : risB (d.mr.getD s []) = true) : d.rowB s = true := by
 unfold DF.rowB
 have : (d.nx.getD s []).all (inN d.nx.length) = true := by
  rw [List.all_eq_true]
  intro x hx
  have := List.any_eq_false.1 h2 x hx
  simpa using this
 rw [this, h3, decide_eq_true h1]; rfl
theorem ris_no {l : List Int} {k : Nat} (hk : k < l.length) (h : risAt l k = false) : risB l = false := by
 unfold risB
 rw [List.all_eq_false]
 exact ⟨k, by simpa using hk, by rw [h]; decide⟩
theorem ris_yes {l : List Int} (h : ∀ k, k < l.length -> risAt l k = true) : risB l = true := by
 unfold risB
 rw [List.all_eq_true]
 intro k hk
 exact h k (by simpa using hk)
theorem risAt_eq {l : List Int} {k : Nat} {x : Int} (hx : l[k]? = some x) : risAt l k = (decide (prevOf l k < x) && decide (x <= 255)) := by
 unfold risAt
 rw [getD_some hx]
theorem prevOf_succ {l : List Int} {k : Nat} {x : Int} (hx : l[k]? = some x) : prevOf l (k + 1) = x := by
 unfold prevOf
 rw [if_neg (by omega), Nat.add_sub_cancel, getD_some hx]

def Eff.row (base : Nat) (e : TypeId) (size n : Nat) (xs : List Value) : Eff (Move false (fun _ => False)) where
 P := fun v => ∃ a c, v = .slice a n c
 H := fun v W => W.ownsRow base e size v n xs
 wit := .slice none n 0
 pw := ⟨none, 0, rfl⟩
 st := fun _ _ _ hm _ h => ownsRow_below h hm.below

theorem rightE_any (v : Value) (d : DF) (w : World) (h : IsDfe w v d) (sm : Sm d) :
  Calls Tryz.prog 21 #[v] w fun e w' => e = .returned (.bool d.right) /\ Below w.heap.size w w' := by
 obtain ⟨v0, v1, v2, rfl, h0, h1, h2⟩ := h
 obtain ⟨a0, c0, rfl⟩ := h0.1.form
 obtain ⟨a1, c1, rfl⟩ := h1.form
 obtain ⟨a2, c2, rfl⟩ := h2.form
 obtain ⟨n0, hn0⟩ : ∃ n, n = d.cl.length := ⟨_, rfl⟩
 obtain ⟨n1, hn1⟩ : ∃ n, n = d.nx.length := ⟨_, rfl⟩
 obtain ⟨n2, hn2⟩ : ∃ n, n = d.mr.length := ⟨_, rfl⟩
 obtain ⟨r, hr⟩ : ∃ r, r = d.right := ⟨_, rfl⟩
 obtain ⟨q, hq⟩ : ∃ q, q = (partsOf d.cl == d.cl) := ⟨_, rfl⟩
 have l0 := sm.cl
 have l1 := sm.nx
 have l2 := sm.mr
 rw [<- hn0] at h0 l0 ⊢
 rw [<- hn1] at h1 l1 ⊢
 rw [<- hn2] at h2 l2 ⊢
 rw [<- hr]
 have HN0 := hid hn0
 have HN1 := hid hn1
 have HN2 := hid hn2
 have HR := hid hr
 have HQ := hid hq
 have H0 := hid h0
 have H1 := hid h1
 have H2 := hid h2
 have SM := hid sm
 obtain ⟨pl, hpl⟩ : ∃ pl, pl = partsOf d.cl := ⟨_, rfl⟩
 have CP : Hid (∀ W, IsSets W (.slice a0 n0 c0) d.cl -> Calls Tryz.prog 50 #[.slice a0 n0 c0] W fun e w' => ∃ v, e = .returned v /\ w'.ownsRow W.heap.size 70 4 v pl.length (flatS pl) /\ Below W.heap.size W w') := fun W h => by rw [hpl]; exact parts_any d.cl _ W h (by have := SM.out.cl; omega)
 have CE : Hid (∀ W u, IsSets W u pl -> IsSets W (.slice a0 n0 c0) d.cl -> Calls Tryz.prog 47 #[u, .slice a0 n0 c0] W fun e w' => e = .returned (.bool q) /\ Ext W w') := fun W u h k => by
  rw [hq]
  rw [hpl] at h
  exact setsEq_any _ _ _ _ W h k (by rw [(partsOf_perm d.cl).length_eq]; have := partsRaw_len d.cl; omega)
 clear h0 h1 h2 hn0 hn1 hn2 hr hq sm hpl
 go_enter Tryz.func21, Tryz.ntmps21
 go_wp2
 refine wp_named ?_
 intro V hV
 have hB1 : Blk V w.heap.size #[.slice a0 n0 c0, .slice a1 n1 c1, .slice a2 n2 c2] 31 := by rw [hV]; exact (Blk.new w _ _).alloc _
 have hB2 : Blk V (w.heap.size + 1) #[.int .i64 n1] 3 := by rw [hV]; exact (Blk.new (w.alloc _) _ _).at (by simp)
 have hx : Below w.heap.size w V := by rw [hV]; exact (((Ext.refl w).alloc _).alloc _).below
 have HB1 := hid hB1
 have HB2 := hid hB2
 have HX := hid hx
 clear hV hB1 hB2 hx
 by_cases q1 : n1 < 1
 ·have d1 : decide ((n1 : Int) < 1) = true := decide_eq_true (by omega)
  have d1' : decide (n1 < 1) = true := decide_eq_true q1
  refine wp_region_reg false (fun _ => False) (by kernel_rfl) 22 [0, 1, 3, 7, 15, 31, 63, 127, 255, 511, 127, 2047, 4095, 8191, 16383, 32767, 65535, 16383, 147455, 524287, 1048575, 2097151] (fun i => i == 16 || i == 19) (by kernel_rfl) (fun i => if i = 16 then Eff.row w.heap.size 70 4 pl.length (flatS pl) else if i = 19 then Eff.det _ (.bool q) else Eff.any _) ?_
  intro C hC hne
  have HC := hid hC
  have f0 := regCell hC (p := ⟨w.heap.size, 0, none⟩) (by have := HB1.out.lt; exact this) (fun h => h) (HB1.out.cell 0)
  have f2 := regCell hC (p := ⟨w.heap.size, 2, none⟩) (by have := HB1.out.lt; exact this) (fun h => h) (HB1.out.cell 2)
  have f3 := regCell hC (p := ⟨w.heap.size + 1, 0, none⟩) (by have := HB2.out.lt; exact this) (fun h => h) (HB2.out.cell 0)
  clear hC
  repeat (refine regStep (fun K hK => ?_); first | (refine regN rfl ?_; try go_simp; refine hK _ _ ?_; clear hK K) | (refine regF rfl rfl ?_; unfold floatAt; go_simp; refine hK _ _ ?_; clear hK K))
  refine regNil (fun W hW hH => ?_)
  have hM := (HC.out W).1 hW
  have HRR := hid (HR.out.trans (right_no (.inl (by rw [<- HN1.out]; exact q1))))
  clear hW hH f0 f2 f3
  go_wp2
  go_ret
  exact ⟨by rw [HRR.out]; rfl, HX.out.trans (hM.below.mono HX.out.size)⟩
 ·have d1 : decide ((n1 : Int) < 1) = false := decide_eq_false (by omega)
  have d1' : decide (n1 < 1) = false := decide_eq_false q1
  by_cases q2 : 4000 < n1
  ·have d2 : decide ((4000 : Int) < n1) = true := decide_eq_true (by omega)
   have d2' : decide (4000 < n1) = true := decide_eq_true q2
   refine wp_region_reg false (fun _ => False) (by kernel_rfl) 22 [0, 1, 3, 7, 15, 31, 63, 127, 255, 511, 127, 2047, 4095, 8191, 16383, 32767, 65535, 16383, 147455, 524287, 1048575, 2097151] (fun i => i == 16 || i == 19) (by kernel_rfl) (fun i => if i = 16 then Eff.row w.heap.size 70 4 pl.length (flatS pl) else if i = 19 then Eff.det _ (.bool q) else Eff.any _) ?_
   intro C hC hne
   have HC := hid hC
   have f0 := regCell hC (p := ⟨w.heap.size, 0, none⟩) (by have := HB1.out.lt; exact this) (fun h => h) (HB1.out.cell 0)
   have f2 := regCell hC (p := ⟨w.heap.size, 2, none⟩) (by have := HB1.out.lt; exact this) (fun h => h) (HB1.out.cell 2)
   have f3 := regCell hC (p := ⟨w.heap.size + 1, 0, none⟩) (by have := HB2.out.lt; exact this) (fun h => h) (HB2.out.cell 0)
   clear hC
   repeat (refine regStep (fun K hK => ?_); first | (refine regN rfl ?_; try go_simp; refine hK _ _ ?_; clear hK K) | (refine regF rfl rfl ?_; unfold floatAt; go_simp; refine hK _ _ ?_; clear hK K))
   refine regNil (fun W hW hH => ?_)
   have hM := (HC.out W).1 hW
   have HRR := hid (HR.out.trans (right_no (.inr (.inl (by rw [<- HN1.out]; exact q2)))))
   clear hW hH f0 f2 f3
   go_wp2
   go_ret
   exact ⟨by rw [HRR.out]; rfl, HX.out.trans (hM.below.mono HX.out.size)⟩
  ·have d2 : decide ((4000 : Int) < n1) = false := decide_eq_false (by omega)
   have d2' : decide (4000 < n1) = false := decide_eq_false q2
   by_cases q3 : n2 = n1
   ·obtain rfl : n1 = n2 := q3.symm
    clear q3
    refine wp_region_reg false (fun _ => False) (by kernel_rfl) 22 [0, 1, 3, 7, 15, 31, 63, 127, 255, 511, 127, 2047, 4095, 8191, 16383, 32767, 65535, 16383, 147455, 524287, 1048575, 2097151] (fun i => i == 16 || i == 19) (by kernel_rfl) (fun i => if i = 16 then Eff.row w.heap.size 70 4 pl.length (flatS pl) else if i = 19 then Eff.det _ (.bool q) else Eff.any _) ?_
    intro C hC hne
    have HC := hid hC
    have f0 := regCell hC (p := ⟨w.heap.size, 0, none⟩) (by have := HB1.out.lt; exact this) (fun h => h) (HB1.out.cell 0)
    have f2 := regCell hC (p := ⟨w.heap.size, 2, none⟩) (by have := HB1.out.lt; exact this) (fun h => h) (HB1.out.cell 2)
    have f3 := regCell hC (p := ⟨w.heap.size + 1, 0, none⟩) (by have := HB2.out.lt; exact this) (fun h => h) (HB2.out.cell 0)
    clear hC
    repeat (refine regStep (fun K hK => ?_); first | (refine regN rfl ?_; try go_simp; refine hK _ _ ?_; clear hK K) | (refine regF rfl rfl ?_; unfold floatAt; go_simp; refine hK _ _ ?_; clear hK K))
    refine regStep (fun K hK => ?_)
    refine regE rfl rfl (Eff.row w.heap.size 70 4 pl.length (flatS pl)) rfl (fun W hW hN => ?_) (fun v hv => ?_)
    ·have hM := (HC.out W).1 hW
     clear hW
     go_simp
     refine effT_call ((CP.out _ ((H0.out.1.below HX.out).below hM.below)).mono ?_)
     rintro e w2 ⟨vp, rfl, ho, hx⟩
     exact ⟨_, rfl, Move.of_below hx, ownsRow_form ho, ownsRow_base ho (Nat.le_trans HX.out.size hM.size)⟩
    obtain ⟨ap, cp, rfl⟩ := hv
    go_simp
    refine hK _ _ ?_
    clear hK K
    repeat (refine regStep (fun K hK => ?_); first | (refine regN rfl ?_; try go_simp; refine hK _ _ ?_; clear hK K) | (refine regF rfl rfl ?_; unfold floatAt; go_simp; refine hK _ _ ?_; clear hK K))
    refine regStep (fun K hK => ?_)
    refine regE rfl rfl (Eff.det _ (.bool q)) rfl (fun W hW hN => ?_) (fun v hv => ?_)
    ·have hM := (HC.out W).1 hW
     clear hW
     go_simp
     refine effT_call ((CE.out _ _ (ownsRow_sets (hN.at 0 rfl (by kernel_rfl))) ((H0.out.1.below HX.out).below hM.below)).mono ?_)
     rintro e w2 ⟨rfl, hx⟩
     exact ⟨_, rfl, Move.of_ext hx, rfl, trivial⟩
    replace hv : v = _ := hv
    subst hv
    go_simp
    refine hK _ _ ?_
    clear hK K
    repeat (refine regStep (fun K hK => ?_); first | (refine regN rfl ?_; try go_simp; refine hK _ _ ?_; clear hK K) | (refine regF rfl rfl ?_; unfold floatAt; go_simp; refine hK _ _ ?_; clear hK K))
    refine regNil (fun W hW hH => ?_)
    have hM := (HC.out W).1 hW
    have XB1 := hid (HB1.out.below hM.below HB1.out.lt)
    have XB2 := hid (HB2.out.below hM.below HB2.out.lt)
    have XX := hid (HX.out.trans (hM.below.mono HX.out.size))
    clear hM hW hH f0 f2 f3 HC HB1 HB2 HX CP CE d1 d1' d2 d2'
    cases q with
    | false =>
     have HRR := hid (HR.out.trans (right_no (.inr (.inr (.inr HQ.out.symm)))))
     go_wp2
     go_ret
     exact ⟨by rw [HRR.out]; rfl, XX.out⟩
    | true =>
     have b0 := XB1.out.cell 0
     have b1 := XB1.out.cell 1
     have b2 := XB1.out.cell 2
     have b3 := XB2.out.cell 0
     simp only [List.getElem?_toArray, List.getElem?_cons_zero, List.getElem?_cons_succ] at b0 b1 b2 b3
     have H1' := hid (H1.out.below XX.out)
     have H2' := hid (H2.out.below XX.out)
     clear H1 H2 H0
     go_wp2
     go_loop [37] (fun i => ∃ s : Nat, s <= n1 /\ i = .int .i64 s /\ ∀ j, j < s -> d.rowB j = true) (fun i => n1 - (intOf i).toNat)
     case atStart => exact ⟨0, by omega, rfl, fun j hj => by omega⟩
     case round =>
      obtain ⟨s, hs, rfl, ha⟩ := hrel
      have HA := hid ha
      clear ha
      by_cases hlt : s < n1
      ·obtain ⟨l, hl⟩ : ∃ l, d.nx[s]? = some l := ⟨_, List.getElem?_eq_getElem (by have := HN1.out; omega)⟩
       obtain ⟨m, hm⟩ : ∃ m, d.mr[s]? = some m := ⟨_, List.getElem?_eq_getElem (by have := HN2.out; omega)⟩
       obtain ⟨g1, o1, e1, k1, rfl, hg1, x1, y1⟩ := H1'.out.elem hl
       obtain ⟨g2, o2, e2, k2, rfl, hg2, x2, y2⟩ := H2'.out.elem hm
       have gl := getD_some (d := ([] : List Int)) hl
       have gm := getD_some (d := ([] : List Int)) hm
       have ll := SM.out.nxs l (List.mem_of_getElem? hl)
       have lm := SM.out.mks m (List.mem_of_getElem? hm)
       have hs1 : s < d.nx.length := by have := HN1.out; omega
       have Hs1 := hid hs1
       have hki : (s : Int) < n1 := by omega
       obtain ⟨j, hj⟩ : ∃ j, j = l.length := ⟨_, rfl⟩
       obtain ⟨k, hk⟩ : ∃ k, k = m.length := ⟨_, rfl⟩
       rw [<- hj] at x1 y1 ll
       rw [<- hk] at x2 y2 lm
       have HJ := hid hj
       have HK := hid hk
       have GL := hid gl
       have GM := hid gm
       have Y1 := hid y1
       have Y2 := hid y2
       clear hl hm hj hk gl gm y1 y2 hs1
       by_cases hj0 : j = n0
       ·subst hj0
        obtain ⟨z, hz⟩ : ∃ z, z = l.any (fun x => !inN n1 x) := ⟨_, rfl⟩
        have CC : Hid (Calls Tryz.prog 51 #[.slice e1 j k1, .func (.func 52) #[] #[.pointer (some ⟨w.heap.size + 1, 0, none⟩)]] W fun e w' => e = .returned (.bool z) /\ w' = W) := hid (by
         rw [hz]
         exact containsFuncE_any _ _ (fun x => !inN n1 x) _ l W Y1.out (by rw [<- HJ.out]; exact ll) eg_right1 (fun x W' hW' => right1_any x n1 _ W' ((XB2.out.below hW' XB2.out.lt).cell 0)))
        have HZ := hid hz
        clear hz
        cases z with
        | true =>
         have HRR := hid (HR.out.trans (right_row Hs1.out (row_any (by rw [GL.out, <- HN1.out]; exact HZ.out.symm))))
         go_wp2_with fail
         refine (CC.out).mono ?_
         rintro e w' ⟨rfl, hw⟩
         replace hw := hw.symm
         subst hw
         go_wp2
         go_ret
         exact ⟨by rw [HRR.out]; rfl, XX.out⟩
        | false =>
         go_wp2_with fail
         refine (CC.out).mono ?_
         rintro e w' ⟨rfl, hw⟩
         replace hw := hw.symm
         subst hw
         go_wp2
         go_loop [59, 6] (fun i p => ∃ c : Nat, c <= k /\ i = .int .i64 c /\ p = .int .i64 (prevOf m c) /\ ∀ i, i < c -> risAt m i = true) (fun i _ => k - (intOf i).toNat)
         case atStart => exact ⟨0, by omega, rfl, rfl, fun i hi => by omega⟩
         case round =>
          obtain ⟨c, hc, rfl, rfl, hc2⟩ := hrel
          have HC2 := hid hc2
          clear hc2
          by_cases hck : c < k
          ·obtain ⟨x, hx⟩ : ∃ x, m[c]? = some x := ⟨_, List.getElem?_eq_getElem (by have := HK.out; omega)⟩
           obtain ⟨g3, o3, rfl, hg3, x3⟩ := Y2.out.elem hx
           have x3' : W.cell? ⟨g3, o3 + c, none⟩ = some (.int .i64 x) := x3
           have hci : (c : Int) < k := by omega
           have HRA := hid (risAt_eq hx)
           have HPS := hid (prevOf_succ hx)
           have HXM := hid hx
           clear hx x3
           generalize prevOf m c = pv at HRA ⊢
           by_cases h1 : x <= pv
           ·have d1 : decide (x <= pv) = true := decide_eq_true h1
            have HRR := hid (HR.out.trans (right_row Hs1.out (row_ris (by rw [GM.out]; exact ris_no (by rw [<- HK.out]; exact hck) (by rw [HRA.out, show decide (pv < x) = false from decide_eq_false (by omega)]; rfl)))))
            go_wp2
            go_ret
            exact ⟨by rw [HRR.out]; rfl, XX.out⟩
           ·have d1 : decide (x <= pv) = false := decide_eq_false h1
            by_cases h2 : 255 < x
            ·have d2 : decide (255 < x) = true := decide_eq_true h2
             have HRR := hid (HR.out.trans (right_row Hs1.out (row_ris (by rw [GM.out]; exact ris_no (by rw [<- HK.out]; exact hck) (by rw [HRA.out, show decide (x <= 255) = false from decide_eq_false (by omega), Bool.and_false])))))
             go_wp2
             go_ret
             exact ⟨by rw [HRR.out]; rfl, XX.out⟩
            ·have d2 : decide (255 < x) = false := decide_eq_false h2
             go_wp2
             go_round
             case rel => exact ⟨c + 1, by omega, by go_num, by rw [HPS.out], fun i hi => by
              by_cases e : i = c
              ·subst e; rw [HRA.out, decide_eq_true (show pv < x by omega), decide_eq_true (show x <= 255 by omega)]; rfl
              ·exact HC2.out i (by omega)⟩
             case measure => simp [intOf]; omega
          ·obtain rfl : c = k := by omega
           go_wp2
           go_round
           case rel =>
            have hrow : ∀ j', j' < s + 1 -> d.rowB j' = true := fun j' hj' => by
             by_cases e : j' = s
             ·rw [e]
              exact row_all (by rw [GL.out, <- HJ.out]; exact HN0.out) (by rw [GL.out, <- HN1.out]; exact HZ.out.symm) (by rw [GM.out]; exact ris_yes fun i hi => HC2.out i (by rw [HK.out]; exact hi))
             ·exact HA.out j' (by omega)
            exact ⟨_, _, _, _, _, _, ⟨s + 1, by omega, by go_num, hrow⟩, rfl, rfl, rfl, rfl, rfl, rfl⟩
           case measure => simp [intOf]; omega
       ·have d3 : ((j : Int) == (n0 : Int)) = false := by rw [beq_eq_false_iff_ne]; omega
        have d3' : ((j : Int) != (n0 : Int)) = true := by simp; omega
        have d3'' : (j == n0) = false := by rw [beq_eq_false_iff_ne]; exact hj0
        have HRR := hid (HR.out.trans (right_row Hs1.out (row_len (by rw [GL.out, <- HJ.out, <- HN0.out]; exact hj0))))
        go_wp2
        go_ret
        exact ⟨by rw [HRR.out]; rfl, XX.out⟩
      ·obtain rfl : s = n1 := by omega
       have HRR := hid (HR.out.trans (right_all (by rw [<- HN1.out]; omega) (by rw [<- HN1.out]; omega) (by rw [<- HN1.out, <- HN2.out]) HQ.out.symm (fun j hj => HA.out j (by rw [HN1.out]; exact hj))))
       go_wp2
       go_ret
       exact ⟨by rw [HRR.out]; rfl, XX.out⟩
   ·have d3 : ((n2 : Int) == (n1 : Int)) = false := by rw [beq_eq_false_iff_ne]; omega
    have d3' : ((n2 : Int) != (n1 : Int)) = true := by simp; omega
    have d3'' : (n2 == n1) = false := by rw [beq_eq_false_iff_ne]; exact q3
    refine wp_region_reg false (fun _ => False) (by kernel_rfl) 22 [0, 1, 3, 7, 15, 31, 63, 127, 255, 511, 127, 2047, 4095, 8191, 16383, 32767, 65535, 16383, 147455, 524287, 1048575, 2097151] (fun i => i == 16 || i == 19) (by kernel_rfl) (fun i => if i = 16 then Eff.row w.heap.size 70 4 pl.length (flatS pl) else if i = 19 then Eff.det _ (.bool q) else Eff.any _) ?_
    intro C hC hne
    have HC := hid hC
    have f0 := regCell hC (p := ⟨w.heap.size, 0, none⟩) (by have := HB1.out.lt; exact this) (fun h => h) (HB1.out.cell 0)
    have f2 := regCell hC (p := ⟨w.heap.size, 2, none⟩) (by have := HB1.out.lt; exact this) (fun h => h) (HB1.out.cell 2)
    have f3 := regCell hC (p := ⟨w.heap.size + 1, 0, none⟩) (by have := HB2.out.lt; exact this) (fun h => h) (HB2.out.cell 0)
    clear hC
    repeat (refine regStep (fun K hK => ?_); first | (refine regN rfl ?_; try go_simp; refine hK _ _ ?_; clear hK K) | (refine regF rfl rfl ?_; unfold floatAt; go_simp; refine hK _ _ ?_; clear hK K))
    refine regNil (fun W hW hH => ?_)
    have hM := (HC.out W).1 hW
    have HRR := hid (HR.out.trans (right_no (.inr (.inr (.inl (by rw [<- HN1.out, <- HN2.out]; exact q3))))))
    clear hW hH f0 f2 f3
    go_wp2
    go_ret
    exact ⟨by rw [HRR.out]; rfl, HX.out.trans (hM.below.mono HX.out.size)⟩
theorem right_any (v : Value) (d : DF) (w : World) (h : IsDf w v d) (sm : Sm d) :
  Calls Tryz.prog 21 #[v] w fun e w' => e = .returned (.bool d.right) /\ Below w.heap.size w w' := rightE_any v d w h.e sm
end Go.Proofs.YtbiboekhakbnpaaGreatDoor
