/-
  Walks of package alphabet: Classes, Fits.
-/
import Derived.Test.YtokkgbcjjaiaeaaAlph4
namespace Go.Proofs.Ytokkgbcjjaiaeaa
open Go Go.RowKit Go.Shelf Go.Maps
attribute [local go_sem] encS

/-- A class that a set has in part. -/
def badTo (s q : BS) : Bool := !(q &&& ~~~s == 0) && !(q &&& s == 0)
/-- The numbers of the classes that a set has. -/
def indsOf (s : BS) (p : List BS) : List Nat := (p.zipIdx.filter fun x => x.1 &&& ~~~s == 0).map (·.2)
theorem indsOf_take (s : BS) {p : List BS} {k : Nat} {q : BS} (h : p[k]? = some q) : indsOf s (p.take (k + 1)) = indsOf s (p.take k) ++ if q &&& ~~~s == 0 then [k] else [] := by
  have hk : k < p.length := (List.getElem?_eq_some_iff.1 h).1
  rw [List.take_add_one, h]
  unfold indsOf
  rw [List.zipIdx_append, List.filter_append, List.map_append]
  congr 1
  rw [List.length_take, Nat.min_eq_left (by omega)]
  show List.map _ (List.filter _ [(q, 0 + k)]) = _
  rw [List.filter_cons]
  by_cases hq : (q &&& ~~~s == 0) = true
  · simp only [if_pos hq, List.filter_nil, List.map_cons, List.map_nil, Nat.zero_add]
  · simp only [if_neg hq, List.filter_nil, List.map_nil]
theorem indsOf_len (s : BS) (p : List BS) : (indsOf s p).length ≤ p.length := by
  unfold indsOf
  rw [List.length_map]
  exact Nat.le_trans (List.length_filter_le _ _) (by simp)
def classesOf (p : List BS) (s : BS) : List Nat × Nat := if p.isEmpty then ([], 1) else if p.any (badTo s) then ([], 160) else (indsOf s p, 0)

set_option maxRecDepth 100000 in
set_option maxHeartbeats 1000000 in
theorem classes_any (v : Value) (base : Nat) (p : List BS) (s : BS) (w : World) (h : IsAl w base v p) :
    Calls Try.prog 34 #[v, .agg (encS s)] w fun e w' => ∃ u, e = .returned (.tuple #[u, .int .i64 (classesOf p s).2]) ∧ w'.ownsRow w.heap.size 3 1 u (classesOf p s).1.length ((classesOf p s).1.map encN) ∧ Below w.heap.size w w' := by
  obtain ⟨i0, hi, hz0, hz1, hz2⟩ := info_parts Try.infoI
  have HN := Lib.hid fun o => none_any v base p (w.alloc o) (h.below ((Ext.refl w).alloc o).below)
  have H := Lib.hid h
  obtain ⟨r, hr⟩ : ∃ r, r = classesOf p s := ⟨_, rfl⟩
  rw [← hr]
  unfold classesOf at hr
  cases p with
  | nil =>
    rw [if_pos (show ([] : List BS).isEmpty = true from rfl)] at hr
    have HR := Lib.hid hr
    rw [show ([] : List BS).isEmpty = true from rfl] at HN
    clear h hr
    go_enter Try.func34, Try.ntmps34
    go_wp2_with (go_at_call 68; refine (HN.out _).mono ?_; rintro e w1 ⟨rfl, hw⟩; replace hw := hw.symm; subst hw)
    refine bodyPost_ret (v := .tuple #[.slice none 0 0, .int .i64 r.2]) ?_ rfl ⟨_, rfl, ?_, ((Ext.refl w).alloc _).below⟩
    · rw [HR.out]; simp [results, Try.results34, go_sem]
    · rw [HR.out]; exact World.ownsRow_nil _ _ _ _
  | cons q p =>
    rw [if_neg (show ¬ (q :: p).isEmpty = true from by simp)] at hr
    have HR := Lib.hid hr
    rw [show (q :: p).isEmpty = false from rfl] at HN
    obtain ⟨ab, sl, ca, rfl, h1, _, _, h2, h3⟩ := h.some
    have hle := h.le
    have HQ := Lib.hid h3
    have hab : ab < w.heap.size := h2
    generalize q :: p = l at *
    obtain ⟨n, hn⟩ : ∃ n, n = l.length := ⟨_, rfl⟩
    rw [← hn] at h1 hle
    have HNN := Lib.hid hn
    have hbx : Blk (w.alloc (.cells (encS s) 25 (0, 0))) w.heap.size (encS s) 25 := Blk.new _ _ _
    have HBX := Lib.hid hbx
    clear h hr h2 h3 hn hbx
    go_enter Try.func34, Try.ntmps34
    go_wp2_with (go_at_call 68; refine (HN.out _).mono ?_; rintro e w1 ⟨rfl, hw⟩; replace hw := hw.symm; subst hw)
    go_loopw [16, 6] (fun i u wr => ∃ k : Nat, k ≤ n ∧ i = .int .i64 k ∧ (l.take k).any (badTo s) = false ∧ wr.ownsRow (w.heap.size + 1) 3 1 u (indsOf s (l.take k)).length ((indsOf s (l.take k)).map encN) ∧ Blk wr w.heap.size (encS s) 25 ∧ Below w.heap.size w wr) (fun i _ _ => n - (intOf i).toNat)
    case atStart => exact ⟨0, by omega, rfl, rfl, World.ownsRow_nil _ _ _ _, HBX.out, ((Ext.refl w).alloc _).below⟩
    case round =>
      obtain ⟨k, hk, rfl, ha, ho, hsb, hx⟩ := hrel
      obtain ⟨wo, rfl⟩ : ∃ wo : World, wo = wr := ⟨_, rfl⟩
      obtain ⟨a5, c5, rfl⟩ := ownsRow_form ho
      by_cases hlt : k < n
      · obtain ⟨q, hq⟩ : ∃ q, l[k]? = some q := ⟨_, List.getElem?_eq_getElem (by have := HNN.out; omega)⟩
        obtain ⟨g, rfl, _, hg, hc⟩ := HQ.out k q hq
        have e0 : wo.cell? ⟨g, k * 4, none⟩ = some (.int .u64 (wd q 0).toNat) := (hx.cell (p := ⟨g, k * 4, none⟩) hg).trans (hc 0 (by decide))
        have e1 : wo.cell? ⟨g, k * 4 + 1, none⟩ = some (.int .u64 (wd q 1).toNat) := (hx.cell (p := ⟨g, k * 4 + 1, none⟩) hg).trans (hc 1 (by decide))
        have e2 : wo.cell? ⟨g, k * 4 + 2, none⟩ = some (.int .u64 (wd q 2).toNat) := (hx.cell (p := ⟨g, k * 4 + 2, none⟩) hg).trans (hc 2 (by decide))
        have e3 : wo.cell? ⟨g, k * 4 + 3, none⟩ = some (.int .u64 (wd q 3).toNat) := (hx.cell (p := ⟨g, k * 4 + 3, none⟩) hg).trans (hc 3 (by decide))
        obtain ⟨s0, s1, s2, s3⟩ := hsb.set4
        have hti := indsOf_take s hq
        have hta : (l.take (k + 1)).any (badTo s) = ((l.take k).any (badTo s) || (!(q &&& ~~~s == 0) && !(q &&& s == 0))) := by rw [List.take_add_one, hq]; simp [badTo]
        have hlen : (indsOf s (l.take k)).length ≤ 256 := Nat.le_trans (indsOf_len _ _) (by rw [List.length_take]; omega)
        have HQL := Lib.hid hq
        have HT := Lib.hid hti
        have HTA := Lib.hid hta
        have HA := Lib.hid ha
        have HO := Lib.hid ho
        have HSB := Lib.hid hsb
        have HX := Lib.hid hx
        have HW := Lib.hid fun W => within_any q s W
        have HME := Lib.hid fun W => meets_any q s W
        have HBAD : Hid (badTo s q = (!(q &&& ~~~s == 0) && !(q &&& s == 0))) := rfl
        have hslt : w.heap.size < wo.heap.size := hsb.lt
        clear hc hq hti hta ha ho hsb hx hg
        generalize indsOf s (l.take k) = xs at HO hlen HT
        generalize (q &&& ~~~s == 0) = b1 at HT HTA HW HBAD
        generalize (q &&& s == 0) = b2 at HT HTA HME HBAD
        cases b1 with
        | true =>
          go_wp2_with (first | (go_at_call 42; refine (HW.out _).mono ?_; rintro e w2 ⟨rfl, hx2⟩; have HX2 := Lib.hid hx2; obtain ⟨hc2, hf2⟩ := hx2.cells; clear hx2) | (at_builtin; have ho1 := ((ownsRow_keeps (HO.out.alloc (.cells (encS q) 25 (0, 0))) HX2.out.keeps (fun k e => by have := (HO.out.lt k e).2; simp; omega))).alloc (.cells #[.int .i64 k] 3 (0, 0)); have HO1 := Lib.hid ho1; clear ho1; refine wpList_append_own_at _ rfl _ _ 26 rfl (w.heap.size + 1) 3 i0 (.int .i64 0) 1 8 Try.underlying26 hi hz0 hz1 hz2 rfl (by decide) _ _ _ rfl HO1.out ⟨_, 0, none⟩ 1 1 [encN k] rfl rfl (cell_one_new _ _ _) (by simp [Value.oneCell', encN]) (by unfold maxLen; omega) (by omega) (by have := HX2.out.size; simp at this; simp; omega) ?_; intro v' w4 hown' hgrow hh hat; have HO2 := Lib.hid hown'; have HG := Lib.hid hgrow; clear hown' hgrow hh hat))
          go_roundw
          case rel =>
            have h1 : Below w.heap.size w w2 := (HX.out.alloc HX.out.size _).trans (HX2.out.below.mono (by have := HX.out.size; simp; omega))
            refine ⟨k + 1, by omega, by go_num, ?_, ?_, ?_, ?_⟩
            · rw [HTA.out, HA.out]; rfl
            · rw [HT.out, if_pos trivial, List.length_append, List.map_append]; exact HO2.out
            · exact (((HSB.out.alloc _).ext HX2.out).alloc _).grown HG.out (fun e => by have := (HO.out.lt _ e.symm).1; omega)
            · exact (h1.alloc h1.size _).grown HG.out (by have := h1.size; simp; omega) (fun c e => by have := (HO.out.lt c e).1; omega)
          case measure => simp [intOf]; omega
        | false =>
          cases b2 with
          | true =>
            go_wp2_with (first | (go_at_call 42; refine (HW.out _).mono ?_; rintro e w2 ⟨rfl, hx2⟩; have HX2 := Lib.hid hx2; obtain ⟨hc2, hf2⟩ := hx2.cells; clear hx2) | (go_at_call 39; refine (HME.out _).mono ?_; rintro e w3 ⟨rfl, hx3⟩; have HX3 := Lib.hid hx3; clear hx3))
            go_roundw
            case rel =>
              have h1 : Below w.heap.size w w2 := (HX.out.alloc HX.out.size _).trans (HX2.out.below.mono (by have := HX.out.size; simp; omega))
              refine ⟨k + 1, by omega, by go_num, ?_, ?_, ?_, ?_⟩
              · rw [HTA.out, HA.out]; rfl
              · rw [HT.out, if_neg (by decide), List.append_nil]
                exact ownsRow_keeps (ownsRow_keeps (HO.out.alloc _) HX2.out.keeps (fun k e => by have := (HO.out.lt k e).2; simp; omega)) HX3.out.keeps (fun k e => by have := (HO.out.lt k e).2; have := HX2.out.size; simp at this; omega)
              · exact ((HSB.out.alloc _).ext HX2.out).ext HX3.out
              · exact h1.trans (HX3.out.below.mono h1.size)
            case measure => simp [intOf]; omega
          | false =>
            have hany : l.any (badTo s) = true := by
              rw [List.any_eq_true]
              exact ⟨q, List.mem_of_getElem? HQL.out, HBAD.out⟩
            have hr := HR.out
            rw [hany, if_pos rfl] at hr
            have HRR := Lib.hid hr
            clear hany hr HR
            go_wp2_with (first | (go_at_call 42; refine (HW.out _).mono ?_; rintro e w2 ⟨rfl, hx2⟩; have HX2 := Lib.hid hx2; obtain ⟨hc2, hf2⟩ := hx2.cells; clear hx2) | (go_at_call 39; refine (HME.out _).mono ?_; rintro e w3 ⟨rfl, hx3⟩; have HX3 := Lib.hid hx3; clear hx3))
            have h1 : Below w.heap.size w w2 := (HX.out.alloc HX.out.size _).trans (HX2.out.below.mono (by have := HX.out.size; simp; omega))
            refine bodyPost_ret (v := .tuple #[.slice none 0 0, .int .i64 r.2]) ?_ rfl ⟨_, rfl, ?_, h1.trans (HX3.out.below.mono h1.size)⟩
            · rw [HRR.out]; simp [results, Try.results34, go_sem]
            · rw [HRR.out]; exact World.ownsRow_nil _ _ _ _
      · obtain rfl : k = n := by omega
        have htk : l.take k = l := by rw [HNN.out]; exact List.take_length
        rw [htk] at ha ho ⊢
        have hr := HR.out
        rw [ha, if_neg (by decide)] at hr
        have HRR := Lib.hid hr
        have HO := Lib.hid ho
        have HX := Lib.hid hx
        clear ha hr HR htk ho hx hsb
        go_wp2
        refine bodyPost_ret (v := .tuple #[.slice a5 (indsOf s l).length c5, .int .i64 r.2]) ?_ rfl ⟨_, rfl, ?_, HX.out⟩
        · rw [HRR.out]; simp [results, Try.results34, go_sem]
        · rw [HRR.out]; exact ownsRow_base HO.out (by omega)

theorem fits_any (v : Value) (base : Nat) (p : List BS) (s : BS) (w : World) (h : IsAl w base v p) :
    Calls Try.prog 37 #[v, .agg (encS s)] w fun e w' => e = .returned (.bool ((classesOf p s).2 == 0)) ∧ Below w.heap.size w w' := by
  have HC := Lib.hid fun o => classes_any v base p s (w.alloc o) (h.below ((Ext.refl w).alloc o).below)
  clear h
  generalize classesOf p s = r at HC ⊢
  obtain ⟨rl, rn⟩ := r
  go_enter Try.func37, Try.ntmps37
  go_wp2_with (go_at_call 34; refine (HC.out _).mono ?_; rintro e w2 ⟨u, rfl, _, hx⟩; have HX := Lib.hid hx; clear hx)
  refine bodyPost_ret (results_tmp rfl _ _ _) rfl ⟨?_, ((Ext.refl w).alloc _).below.trans (HX.out.mono (by simp))⟩
  show Ending.returned (.bool ((rn : Int) == 0)) = _
  rw [show ((rn : Int) == 0) = (rn == 0) from by rw [Bool.eq_iff_iff]; simp]
end Go.Proofs.Ytokkgbcjjaiaeaa
