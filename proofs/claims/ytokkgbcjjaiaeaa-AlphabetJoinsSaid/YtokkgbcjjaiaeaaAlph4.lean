/-
  Walks of package alphabet: Together.
-/
import Derived.Test.YtokkgbcjjaiaeaaAlph3
namespace Go.Proofs.Ytokkgbcjjaiaeaa
open Go Go.RowKit Go.Shelf Go.Maps
attribute [local go_sem] encS

/-- The union of classes. -/
def orOf (p : List BS) (l : List Int) : BS := l.foldl (fun s k => s ||| (setOf p k).getD 0) 0
theorem orOf_nil (p : List BS) : orOf p [] = 0 := rfl
theorem orOf_snoc (p : List BS) (l : List Int) (k : Int) : orOf p (l ++ [k]) = orOf p l ||| (setOf p k).getD 0 := by unfold orOf; rw [List.foldl_append]; rfl
def togetherOf (p : List BS) (l : List Int) : BS × Nat := if p.isEmpty then (0, 1) else if l.all (fun k => (setOf p k).isSome) then (orOf p l, 0) else (0, 2)

set_option maxRecDepth 100000 in
set_option maxHeartbeats 1000000 in
theorem together_any (v : Value) (base : Nat) (p : List BS) (lv : Value) (l : List Int) (w : World) (h : IsAl w base v p) (hl : IsSl encZ w lv l) (hn : l.length ≤ 1000000) :
    Calls Try.prog 35 #[v, lv] w fun e w' => e = .returned (.tuple #[.agg (encS (togetherOf p l).1), .int .i64 (togetherOf p l).2]) ∧ Ext w w' := by
  obtain ⟨sa, cap, rfl⟩ := hl.form
  have hz := encS_zero
  have HN := Lib.hid fun o => none_any v base p (w.alloc o) (h.below ((Ext.refl w).alloc o).below)
  have H := Lib.hid h
  have HB := Lib.hid hl
  obtain ⟨n, hnn⟩ : ∃ n, n = l.length := ⟨_, rfl⟩
  rw [← hnn] at hn HB ⊢
  have HNN := Lib.hid hnn
  obtain ⟨r, hr⟩ : ∃ r, r = togetherOf p l := ⟨_, rfl⟩
  rw [← hr]
  unfold togetherOf at hr
  cases p with
  | nil =>
    rw [if_pos (show ([] : List BS).isEmpty = true from rfl)] at hr
    subst hr
    rw [show ([] : List BS).isEmpty = true from rfl] at HN
    clear h hl hnn
    go_enter Try.func35, Try.ntmps35
    go_wp2_with (go_at_call 68; refine (HN.out _).mono ?_; rintro e w1 ⟨rfl, hw⟩; replace hw := hw.symm; subst hw)
    refine bodyPost_ret (v := .tuple #[.agg (encS 0), .int .i64 (1 : Nat)]) ?_ rfl ⟨rfl, (Ext.refl w).alloc _⟩
    rw [hz]
    simp [results, Try.results35, go_sem]
  | cons s p =>
    rw [if_neg (show ¬ (s :: p).isEmpty = true from by simp)] at hr
    have HR := Lib.hid hr
    rw [show (s :: p).isEmpty = false from rfl] at HN
    obtain ⟨ab, sl, ca, rfl, h1, _, _, h2, h3⟩ := h.some
    have hle := h.le
    have HQ := Lib.hid h3
    have hab : ab < w.heap.size := h2
    generalize s :: p = q at *
    obtain ⟨m, hm⟩ : ∃ m, m = q.length := ⟨_, rfl⟩
    rw [← hm] at h1 hle
    have HM := Lib.hid hm
    clear h hl hnn hr h2 h3 hm
    go_enter Try.func35, Try.ntmps35
    go_wp2_with (go_at_call 68; refine (HN.out _).mono ?_; rintro e w1 ⟨rfl, hw⟩; replace hw := hw.symm; subst hw)
    go_loopw [14] (fun i wr => ∃ k : Nat, k ≤ n ∧ i = .int .i64 k ∧ (l.take k).all (fun k => (setOf q k).isSome) = true ∧ Blk wr (w.heap.size + 1) (encS (orOf q (l.take k))) 25 ∧ Blk wr w.heap.size (encS 0) 25 ∧ Ext w wr) (fun i _ => n - (intOf i).toNat)
    case atStart => exact ⟨0, by omega, rfl, rfl, by rw [List.take_zero, orOf_nil, hz]; exact (Blk.new _ _ _).at (by simp), by rw [hz]; exact (Blk.new _ _ _).alloc _, ((Ext.refl w).alloc _).alloc _⟩
    case round =>
      obtain ⟨k, hk, rfl, ha, hb, hc, hx⟩ := hrel
      by_cases hlt : k < n
      · obtain ⟨z, hzl⟩ : ∃ z, l[k]? = some z := ⟨_, List.getElem?_eq_getElem (by have := HNN.out; omega)⟩
        obtain ⟨g, off, rfl, hg, hcell⟩ := HB.out.elem hzl
        have c0 : wr.cell? ⟨g, off + k, none⟩ = some (.int .i64 z) := (hx.cell (p := ⟨g, off + k, none⟩) hg).trans hcell
        have HI := Lib.hid (is_any _ base q z wr (H.out.below hx.below))
        have hto : orOf q (l.take (k + 1)) = orOf q (l.take k) ||| (setOf q z).getD 0 := by rw [List.take_add_one, hzl]; exact orOf_snoc _ _ _
        have hta : (l.take (k + 1)).all (fun k => (setOf q k).isSome) = ((l.take k).all (fun k => (setOf q k).isSome) && (setOf q z).isSome) := by rw [List.take_add_one, hzl]; simp
        have HZL := Lib.hid hzl
        have HT := Lib.hid hto
        have HTA := Lib.hid hta
        have HA := Lib.hid ha
        clear hcell hzl hto hta ha
        generalize orOf q (l.take k) = acc at hb HT
        rcases setOf_ex q z with ⟨hs, _⟩ | ⟨zn, t, rfl, hzm, hqz, hs⟩
        · rw [hs] at HI
          have d0 : wr.cell? ⟨w.heap.size, 0, none⟩ = some (.int .u64 (wd (0 : BS) 0).toNat) := hc.cell 0
          have d1 : wr.cell? ⟨w.heap.size, 1, none⟩ = some (.int .u64 (wd (0 : BS) 1).toNat) := hc.cell 1
          have d2 : wr.cell? ⟨w.heap.size, 2, none⟩ = some (.int .u64 (wd (0 : BS) 2).toNat) := hc.cell 2
          have d3 : wr.cell? ⟨w.heap.size, 3, none⟩ = some (.int .u64 (wd (0 : BS) 3).toNat) := hc.cell 3
          have hcf := hc.frozen
          have hall : l.all (fun k => (setOf q k).isSome) = false := by
            rw [List.all_eq_false]
            exact ⟨z, List.mem_of_getElem? HZL.out, by rw [hs]; simp⟩
          have hr := HR.out
          rw [hall, if_neg (by decide)] at hr
          have HRR := Lib.hid hr
          have HX := Lib.hid hx
          clear hb hx hs hall hr HR
          go_wp2_with (go_at_call 69; refine HI.out.mono ?_; rintro e w1 ⟨rfl, hw⟩; replace hw := hw.symm; subst hw)
          refine bodyPost_ret (v := .tuple #[.agg (encS r.1), .int .i64 r.2]) ?_ rfl ⟨rfl, (((HX.out.setCell (Nat.le_refl _) _).setCell (Nat.le_refl _) _).setCell (Nat.le_refl _) _).setCell (Nat.le_refl _) _⟩
          rw [HRR.out, hz]
          simp [results, Try.results35, go_sem, d0, d1, d2, d3]
        · rw [hs] at HI HT HTA
          obtain ⟨gq, rfl, _, hgq, hcq⟩ := HQ.out zn t hqz
          have hzm' : zn < m := by rw [HM.out]; exact hzm
          have c1 : wr.cell? ⟨ab, 256, none⟩ = some (.slice (some ⟨gq, 0, none⟩) m ca) := (hx.cell (p := ⟨ab, 256, none⟩) hab).trans h1
          have e0 : wr.cell? ⟨gq, zn * 4, none⟩ = some (.int .u64 (wd t 0).toNat) := (hx.cell (p := ⟨gq, zn * 4, none⟩) hgq).trans (hcq 0 (by decide))
          have e1 : wr.cell? ⟨gq, zn * 4 + 1, none⟩ = some (.int .u64 (wd t 1).toNat) := (hx.cell (p := ⟨gq, zn * 4 + 1, none⟩) hgq).trans (hcq 1 (by decide))
          have e2 : wr.cell? ⟨gq, zn * 4 + 2, none⟩ = some (.int .u64 (wd t 2).toNat) := (hx.cell (p := ⟨gq, zn * 4 + 2, none⟩) hgq).trans (hcq 2 (by decide))
          have e3 : wr.cell? ⟨gq, zn * 4 + 3, none⟩ = some (.int .u64 (wd t 3).toNat) := (hx.cell (p := ⟨gq, zn * 4 + 3, none⟩) hgq).trans (hcq 3 (by decide))
          have HOr := Lib.hid fun W => or_any acc t W
          have HTT : Hid (acc ||| t = acc ||| (some t).getD 0) := rfl
          generalize acc ||| t = u at HOr HTT
          have HBc := Lib.hid hc
          have HBb := Lib.hid hb
          have HX := Lib.hid hx
          have HG : Hid (ab < w.heap.size ∧ gq < w.heap.size) := ⟨hab, hgq⟩
          clear hcq hb hc hx hs hqz hzm hgq
          go_wp2_with (go_at_call 69; refine HI.out.mono ?_; rintro e w1 ⟨rfl, hw⟩; replace hw := hw.symm; subst hw)
          refine wp_region_lexK (fun b => b = ab ∨ b = gq) (by kernel_rfl) (fun i => i == 0 || i == 8 || i == 9) (by kernel_rfl) ?_
          intro C hC hne W0 hK0 hblk hsz hx0
          have fa := lexCell hC (.inl rfl) c1
          have q0 := lexCell hC (.inr rfl) e0
          have q1 := lexCell hC (.inr rfl) e1
          have q2 := lexCell hC (.inr rfl) e2
          have q3 := lexCell hC (.inr rfl) e3
          have HB0 := Lib.hid (HBb.out.same (hblk _))
          obtain ⟨a0, a1, a2, a3⟩ := HB0.out.set4
          have HS : Hid (∀ b, (b = ab ∨ b = gq) → b < wr.heap.size) := fun b hb => by have h1 := HG.out; have h2 := HX.out.size; omega
          have HC := Lib.hid hC
          have HK0 := Lib.hid hK0
          have HX0 := Lib.hid hx0
          clear hC hK0 hblk hsz hx0 c1 e0 e1 e2 e3 c0
          refine wpLex_step (fun K hK => ?_)
          refine lexOp_eff rfl ?_
          go_simp
          refine ⟨(HC.out _).2 HK0.out, hK _ _ ?_⟩
          clear hK K
          repeat (refine wpLex_step (fun K hK => ?_); refine lexOp_float rfl ?_; unfold floatAt; go_simp; refine hK _ _ ?_; clear hK K)
          refine wpLex_step (fun K hK => ?_)
          refine lexOp_eff rfl ?_
          go_simp
          refine effAt_call ((HOr.out _).mono ?_)
          rintro e w3 ⟨rfl, hx⟩
          have hk3 := Keeps.step HK0.out HS hx
          refine ⟨_, rfl, (HC.out _).2 hk3, hK _ _ ?_⟩
          have HK3 := Lib.hid hk3
          have HX3 := Lib.hid hx
          have HB3 := Lib.hid (HB0.out.ext hx)
          obtain ⟨b0, b1, b2, b3⟩ := HB3.out.set4
          have hbf := HB3.out.frozen
          clear hK K hk3 hx a0 a1 a2 a3
          refine wpLex_step (fun K hK => ?_)
          refine lexOp_eff rfl ?_
          go_simp
          refine ⟨(HC.out _).2 ((((HK3.out.setCell ?_ _).setCell ?_ _).setCell ?_ _).setCell ?_ _), hK _ _ ?_⟩
          iterate 4 (· have h1 := HG.out; simp; omega)
          clear hK K
          refine wpLex_nil ?_
          go_wp2
          go_roundw
          case rel =>
            refine ⟨k + 1, by omega, by go_num, ?_, ?_, ?_, ?_⟩
            · rw [HTA.out, HA.out]; rfl
            · rw [HT.out, ← HTT.out]
              exact (((HB3.out.set 0 _).set 1 _).set 2 _).set 3 _
            · exact ((((HBc.out.ext (HX0.out.trans HX3.out)).other (by simp) _).other (by simp) _).other (by simp) _).other (by simp) _
            · exact ((((HX.out.trans (HX0.out.trans HX3.out)).setCell (by simp) _).setCell (by simp) _).setCell (by simp) _).setCell (by simp) _
          case measure => simp [intOf]; omega
      · obtain rfl : k = n := by omega
        have htk : l.take k = l := by rw [HNN.out]; exact List.take_length
        rw [htk] at ha hb
        have hr := HR.out
        rw [ha, if_pos rfl] at hr
        have HRR := Lib.hid hr
        clear ha hr HR htk
        obtain ⟨b0, b1, b2, b3⟩ := hb.set4
        obtain ⟨d0, d1, d2, d3⟩ := hc.set4
        have hcf := hc.frozen
        have HX := Lib.hid hx
        clear hb hc hx
        generalize orOf q l = acc at *
        go_wp2
        refine bodyPost_ret (v := .tuple #[.agg (encS r.1), .int .i64 r.2]) ?_ rfl ⟨rfl, (((HX.out.setCell (Nat.le_refl _) _).setCell (Nat.le_refl _) _).setCell (Nat.le_refl _) _).setCell (Nat.le_refl _) _⟩
        rw [HRR.out]
        simp [results, Try.results35, go_sem, d0, d1, d2, d3]
end Go.Proofs.Ytokkgbcjjaiaeaa
