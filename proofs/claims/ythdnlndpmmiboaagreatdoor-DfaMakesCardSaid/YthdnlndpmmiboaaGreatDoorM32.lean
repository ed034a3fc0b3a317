/-
  The law's few. Printed by wip/gen/few.py.
-/
import Derived.Test.YthdnlndpmmiboaaGreatDoorM31
import Derived.Test.YthdnlndpmmiboaaGreatDoorM16
namespace Go.Proofs.YthdnlndpmmiboaaGreatDoor
open Go Go.RowKit Go.Shelf Go.Maps

/-- What few says. -/
def FewOut (ps : List PT) (v : Value) : Prop := ∃ b : Bool, v = .bool b ∧ (b = true → ps.length ≤ 80 ∧ ∀ x ∈ ps, SmN x.nf)
theorem FewOut.no (ps : List PT) : FewOut ps (.bool false) := ⟨false, rfl, fun h => by cases h⟩
set_option maxRecDepth 100000 in
set_option maxHeartbeats 4000000 in
theorem few18_any (v : Value) (ps : List PT) (hl : ps.length ≤ 17592186044416) (hb : ∀ x ∈ ps, BigN x.nf) (w : World) (h : IsPtse w v ps) :
    Calls Tryz.prog 5 #[v] w fun e w' => ∃ v, e = .returned v ∧ FewOut ps v ∧ Below w.heap.size w w' := by
  obtain ⟨a, cap, rfl⟩ := h.form
  obtain ⟨n, hnn⟩ : ∃ n, n = ps.length := ⟨_, rfl⟩
  rw [← hnn] at h hl ⊢
  have H := Lib.hid h
  have HB := Lib.hid hb
  have HN := Lib.hid hnn
  clear h hb hnn
  by_cases h80 : 80 < n
  · have p1 : (6 : Int) < n := by omega
    have p2 : ¬ (n : Int) ≤ 64 := by omega
    have p3 : (80 : Int) < n := by omega
    go_enter Tryz.func5, Tryz.ntmps5
    go_wp2
    go_ret
    exact ⟨_, rfl, FewOut.no _, Below.refl _ _⟩
  · by_cases hmid : 6 < n ∧ n ≤ 64
    · have p1 : (6 : Int) < n := by omega
      have p2 : (n : Int) ≤ 64 := by omega
      go_enter Tryz.func5, Tryz.ntmps5
      go_wp2
      go_ret
      exact ⟨_, rfl, FewOut.no _, Below.refl _ _⟩
    · by_cases h6 : 6 < n
      · have p1 : (6 : Int) < n := by omega
        have p2 : ¬ (n : Int) ≤ 64 := by omega
        have p3 : ¬ (80 : Int) < n := by omega
        go_enter Tryz.func5, Tryz.ntmps5
        go_wp2
        clear p1 p2 p3
        go_loopw [23] (fun i wr => ∃ k : Nat, k ≤ n ∧ i = .int .i64 k ∧ (∀ (j : Nat) (x : PT), j < k → ps[j]? = some x → SmN x.nf) ∧ Below w.heap.size w wr) (fun i _ => n - (intOf i).toNat)
        case atStart => exact ⟨0, by omega, rfl, fun j x h => absurd h (Nat.not_lt_zero _), Below.refl _ _⟩
        case round =>
          obtain ⟨k, hk, rfl, hsm, hx⟩ := hrel
          obtain ⟨wo, rfl⟩ : ∃ wo : World, wo = wr := ⟨_, rfl⟩
          have HSM := Lib.hid hsm
          have HX := Lib.hid hx
          have HPO := Lib.hid (H.out.below hx)
          clear hsm hx
          by_cases hlt : k < n
          · have hki : (k : Int) < n := by omega
            obtain ⟨x, hxk⟩ : ∃ x, ps[k]? = some x := ⟨_, List.getElem?_eq_getElem (by have := HN.out; omega)⟩
            obtain ⟨b, off, rfl, hb, v0, v1, v2, v3, hnf, q0, q1, q2, q3, q4, q5, q6⟩ := HPO.out.elem hxk
            obtain ⟨x0, c0, x1, c1, x2, c2, x3, c3, rfl, rfl, rfl, rfl⟩ := hnf.form4
            have BG := Lib.hid (HB.out x (List.mem_of_getElem? hxk))
            have HXK := Lib.hid hxk
            have HF : Hid (IsLLE wo (.slice x1 x.nf.fol.length c1) x.nf.fol ∧ x.nf.fol.length ≤ c1) := Lib.hid (by
              obtain ⟨u0, u1, u2, u3, e, g0, g1, g2, g3⟩ := hnf
              cases e
              refine ⟨g1, ?_⟩
              rcases g1 with g1 | ⟨g1, a, g2⟩
              · obtain ⟨us, e1, e2, e3⟩ := g1
                rcases e2 with ⟨e, _⟩ | ⟨b, off, cap, e, _, hc, _⟩
                · injection e with _ h5 h6; omega
                · injection e with _ h5 h6; omega
              · injection g2 with _ h5 h6; omega)
            clear hxk hnf
            obtain ⟨n0, hn0⟩ : ∃ n, n = x.nf.sets.length := ⟨_, rfl⟩
            obtain ⟨n1, hn1⟩ : ∃ n, n = x.nf.fol.length := ⟨_, rfl⟩
            obtain ⟨n2, hn2⟩ : ∃ n, n = x.nf.fst.length := ⟨_, rfl⟩
            obtain ⟨n3, hn3⟩ : ∃ n, n = x.nf.lst.length := ⟨_, rfl⟩
            have b0 : n0 ≤ 17592186044416 := by rw [hn0]; exact BG.out.sets
            have b1 : n1 ≤ 17592186044416 := by rw [hn1]; exact BG.out.fol
            have b2 : n2 ≤ 17592186044416 := by rw [hn2]; exact BG.out.fst
            have b3 : n3 ≤ 17592186044416 := by rw [hn3]; exact BG.out.lst
            rw [← hn0] at q0
            rw [← hn1] at q1 HF
            rw [← hn2] at q2
            rw [← hn3] at q3
            have hc1 := HF.out.2
            have HN0 := Lib.hid hn0
            have HN1 := Lib.hid hn1
            have HN2 := Lib.hid hn2
            have HN3 := Lib.hid hn3
            clear hn0 hn1 hn2 hn3
            obtain ⟨m1, hm1⟩ : ∃ m, m = min n1 13 := ⟨_, rfl⟩
            have hmin : min (n1 : Int) 13 = m1 := by omega
            have hm13 : m1 ≤ 13 := by omega
            have hmn : m1 ≤ n1 := by omega
            have hmn' : (m1 : Int) ≤ n1 := by omega
            have hmc : (m1 : Int) ≤ c1 := by omega
            have HM1 := Lib.hid hm1
            clear hm1
            simp only [Nat.add_zero] at q0
            go_wp2
            refine wp_named ?_
            intro V hV
            have BX : Hid (Blk V wo.heap.size #[.slice x0 n0 c0, .slice x1 n1 c1, .slice x2 n2 c2, .slice x3 n3 c3, .bool x.nf.emp, .bool x.beg, .int .i64 x.mark] 37) := Lib.hid (by rw [hV]; exact Blk.new wo _ _)
            have XV : Hid (Below wo.heap.size wo V) := Lib.hid (by rw [hV]; exact ((Ext.refl wo).alloc _).below)
            clear hV q0 q1 q2 q3 q4 q5 q6
            go_loopw [46, 5] (fun i s wr => ∃ (j m : Nat), j ≤ m1 ∧ i = .int .i64 j ∧ s = .int .i64 m ∧ m ≤ (2 + j) * 17592186044416 ∧ n2 + n3 ≤ m ∧ (∀ (i : Nat) (l : List Int), i < j → x.nf.fol[i]? = some l → l.length ≤ m) ∧ wr = V) (fun i _ _ => m1 - (intOf i).toNat)
            case atStart => exact ⟨0, n2 + n3, by omega, rfl, by go_num, by omega, Nat.le_refl _, fun i l h => absurd h (Nat.not_lt_zero _), rfl⟩
            case round =>
              obtain ⟨j, m, hj, rfl, rfl, hmb, hmm, hrows, rfl⟩ := hrel
              have HR := Lib.hid hrows
              clear hrows
              by_cases hjl : j < m1
              · have hji : (j : Int) < m1 := by omega
                obtain ⟨l, hl⟩ : ∃ l, x.nf.fol[j]? = some l := ⟨_, List.getElem?_eq_getElem (by have := HN1.out; omega)⟩
                obtain ⟨b', off', a', c', rfl, hb', cl, _⟩ := (HF.out.1.below XV.out).elem hl
                have hll : l.length ≤ 17592186044416 := BG.out.row l (List.mem_of_getElem? hl)
                obtain ⟨L, hL⟩ : ∃ L, L = l.length := ⟨_, rfl⟩
                rw [← hL] at cl hll
                have HLL := Lib.hid hl
                have HL := Lib.hid hL
                clear hl hL
                go_wp2
                go_roundw
                case rel => exact ⟨j + 1, m + L, by omega, by go_num, by go_num, by omega, by omega, fun i l' hi hl' => by
                  by_cases e : i < j
                  · have := HR.out i l' e hl'; omega
                  · obtain rfl : i = j := by omega
                    rw [HLL.out] at hl'
                    cases hl'
                    have := HL.out
                    omega, trivial⟩
                case measure => simp [intOf]; omega
              · obtain rfl : j = m1 := by omega
                have hji : ¬ ((j : Int) < j) := by omega
                obtain ⟨r0, r1, r2, r3, r4, r5, r6⟩ := BX.out.seven
                have XA := Lib.hid (HX.out.trans (XV.out.mono HX.out.size))
                by_cases e0 : 12 < n0
                · have d0 : (12 : Int) < n0 := by omega
                  go_wp2
                  go_ret
                  exact ⟨_, rfl, FewOut.no _, XA.out⟩
                · have d0 : ¬ (12 : Int) < n0 := by omega
                  by_cases e1 : 12 < n1
                  · have d1 : (12 : Int) < n1 := by omega
                    go_wp2
                    go_ret
                    exact ⟨_, rfl, FewOut.no _, XA.out⟩
                  · have d1 : ¬ (12 : Int) < n1 := by omega
                    by_cases e2 : 200 < m
                    · have d2 : (200 : Int) < m := by omega
                      go_wp2
                      go_ret
                      exact ⟨_, rfl, FewOut.no _, XA.out⟩
                    · have d2 : ¬ (200 : Int) < m := by omega
                      have hs : Hid (SmN x.nf) := Lib.hid ⟨by have := HN0.out; omega, by have := HN1.out; omega, by have := HN2.out; omega, by have := HN3.out; omega, fun l hl => by
                        obtain ⟨i, hi⟩ := List.getElem?_of_mem hl
                        have := HR.out i l (by have := (List.getElem?_eq_some_iff.1 hi).1; have := HN1.out; have := HM1.out; omega) hi
                        omega⟩
                      go_wp2
                      go_roundw
                      case rel => exact ⟨k + 1, by omega, by go_num, fun i y hi hy => by
                        by_cases e : i < k
                        · exact HSM.out i y e hy
                        · obtain rfl : i = k := by omega
                          rw [HXK.out] at hy
                          cases hy
                          exact hs.out, XA.out⟩
                      case measure => simp [intOf]; omega
          · obtain rfl : k = n := by omega
            have hki : ¬ ((k : Int) < k) := by omega
            go_wp2
            go_ret
            exact ⟨_, rfl, ⟨true, rfl, fun _ => ⟨by have := HN.out; omega, fun x hx => by
              obtain ⟨i, hi⟩ := List.getElem?_of_mem hx
              exact HSM.out i x (by have := (List.getElem?_eq_some_iff.1 hi).1; have := HN.out; omega) hi⟩⟩, HX.out⟩
      · have p1 : ¬ (6 : Int) < n := by omega
        have p2 : True := trivial
        have p3 : ¬ (80 : Int) < n := by omega
        go_enter Tryz.func5, Tryz.ntmps5
        go_wp2
        clear p1 p2 p3
        go_loopw [23] (fun i wr => ∃ k : Nat, k ≤ n ∧ i = .int .i64 k ∧ (∀ (j : Nat) (x : PT), j < k → ps[j]? = some x → SmN x.nf) ∧ Below w.heap.size w wr) (fun i _ => n - (intOf i).toNat)
        case atStart => exact ⟨0, by omega, rfl, fun j x h => absurd h (Nat.not_lt_zero _), Below.refl _ _⟩
        case round =>
          obtain ⟨k, hk, rfl, hsm, hx⟩ := hrel
          obtain ⟨wo, rfl⟩ : ∃ wo : World, wo = wr := ⟨_, rfl⟩
          have HSM := Lib.hid hsm
          have HX := Lib.hid hx
          have HPO := Lib.hid (H.out.below hx)
          clear hsm hx
          by_cases hlt : k < n
          · have hki : (k : Int) < n := by omega
            obtain ⟨x, hxk⟩ : ∃ x, ps[k]? = some x := ⟨_, List.getElem?_eq_getElem (by have := HN.out; omega)⟩
            obtain ⟨b, off, rfl, hb, v0, v1, v2, v3, hnf, q0, q1, q2, q3, q4, q5, q6⟩ := HPO.out.elem hxk
            obtain ⟨x0, c0, x1, c1, x2, c2, x3, c3, rfl, rfl, rfl, rfl⟩ := hnf.form4
            have BG := Lib.hid (HB.out x (List.mem_of_getElem? hxk))
            have HXK := Lib.hid hxk
            have HF : Hid (IsLLE wo (.slice x1 x.nf.fol.length c1) x.nf.fol ∧ x.nf.fol.length ≤ c1) := Lib.hid (by
              obtain ⟨u0, u1, u2, u3, e, g0, g1, g2, g3⟩ := hnf
              cases e
              refine ⟨g1, ?_⟩
              rcases g1 with g1 | ⟨g1, a, g2⟩
              · obtain ⟨us, e1, e2, e3⟩ := g1
                rcases e2 with ⟨e, _⟩ | ⟨b, off, cap, e, _, hc, _⟩
                · injection e with _ h5 h6; omega
                · injection e with _ h5 h6; omega
              · injection g2 with _ h5 h6; omega)
            clear hxk hnf
            obtain ⟨n0, hn0⟩ : ∃ n, n = x.nf.sets.length := ⟨_, rfl⟩
            obtain ⟨n1, hn1⟩ : ∃ n, n = x.nf.fol.length := ⟨_, rfl⟩
            obtain ⟨n2, hn2⟩ : ∃ n, n = x.nf.fst.length := ⟨_, rfl⟩
            obtain ⟨n3, hn3⟩ : ∃ n, n = x.nf.lst.length := ⟨_, rfl⟩
            have b0 : n0 ≤ 17592186044416 := by rw [hn0]; exact BG.out.sets
            have b1 : n1 ≤ 17592186044416 := by rw [hn1]; exact BG.out.fol
            have b2 : n2 ≤ 17592186044416 := by rw [hn2]; exact BG.out.fst
            have b3 : n3 ≤ 17592186044416 := by rw [hn3]; exact BG.out.lst
            rw [← hn0] at q0
            rw [← hn1] at q1 HF
            rw [← hn2] at q2
            rw [← hn3] at q3
            have hc1 := HF.out.2
            have HN0 := Lib.hid hn0
            have HN1 := Lib.hid hn1
            have HN2 := Lib.hid hn2
            have HN3 := Lib.hid hn3
            clear hn0 hn1 hn2 hn3
            obtain ⟨m1, hm1⟩ : ∃ m, m = min n1 13 := ⟨_, rfl⟩
            have hmin : min (n1 : Int) 13 = m1 := by omega
            have hm13 : m1 ≤ 13 := by omega
            have hmn : m1 ≤ n1 := by omega
            have hmn' : (m1 : Int) ≤ n1 := by omega
            have hmc : (m1 : Int) ≤ c1 := by omega
            have HM1 := Lib.hid hm1
            clear hm1
            simp only [Nat.add_zero] at q0
            go_wp2
            refine wp_named ?_
            intro V hV
            have BX : Hid (Blk V wo.heap.size #[.slice x0 n0 c0, .slice x1 n1 c1, .slice x2 n2 c2, .slice x3 n3 c3, .bool x.nf.emp, .bool x.beg, .int .i64 x.mark] 37) := Lib.hid (by rw [hV]; exact Blk.new wo _ _)
            have XV : Hid (Below wo.heap.size wo V) := Lib.hid (by rw [hV]; exact ((Ext.refl wo).alloc _).below)
            clear hV q0 q1 q2 q3 q4 q5 q6
            go_loopw [46, 5] (fun i s wr => ∃ (j m : Nat), j ≤ m1 ∧ i = .int .i64 j ∧ s = .int .i64 m ∧ m ≤ (2 + j) * 17592186044416 ∧ n2 + n3 ≤ m ∧ (∀ (i : Nat) (l : List Int), i < j → x.nf.fol[i]? = some l → l.length ≤ m) ∧ wr = V) (fun i _ _ => m1 - (intOf i).toNat)
            case atStart => exact ⟨0, n2 + n3, by omega, rfl, by go_num, by omega, Nat.le_refl _, fun i l h => absurd h (Nat.not_lt_zero _), rfl⟩
            case round =>
              obtain ⟨j, m, hj, rfl, rfl, hmb, hmm, hrows, rfl⟩ := hrel
              have HR := Lib.hid hrows
              clear hrows
              by_cases hjl : j < m1
              · have hji : (j : Int) < m1 := by omega
                obtain ⟨l, hl⟩ : ∃ l, x.nf.fol[j]? = some l := ⟨_, List.getElem?_eq_getElem (by have := HN1.out; omega)⟩
                obtain ⟨b', off', a', c', rfl, hb', cl, _⟩ := (HF.out.1.below XV.out).elem hl
                have hll : l.length ≤ 17592186044416 := BG.out.row l (List.mem_of_getElem? hl)
                obtain ⟨L, hL⟩ : ∃ L, L = l.length := ⟨_, rfl⟩
                rw [← hL] at cl hll
                have HLL := Lib.hid hl
                have HL := Lib.hid hL
                clear hl hL
                go_wp2
                go_roundw
                case rel => exact ⟨j + 1, m + L, by omega, by go_num, by go_num, by omega, by omega, fun i l' hi hl' => by
                  by_cases e : i < j
                  · have := HR.out i l' e hl'; omega
                  · obtain rfl : i = j := by omega
                    rw [HLL.out] at hl'
                    cases hl'
                    have := HL.out
                    omega, trivial⟩
                case measure => simp [intOf]; omega
              · obtain rfl : j = m1 := by omega
                have hji : ¬ ((j : Int) < j) := by omega
                obtain ⟨r0, r1, r2, r3, r4, r5, r6⟩ := BX.out.seven
                have XA := Lib.hid (HX.out.trans (XV.out.mono HX.out.size))
                by_cases e0 : 12 < n0
                · have d0 : (12 : Int) < n0 := by omega
                  go_wp2
                  go_ret
                  exact ⟨_, rfl, FewOut.no _, XA.out⟩
                · have d0 : ¬ (12 : Int) < n0 := by omega
                  by_cases e1 : 12 < n1
                  · have d1 : (12 : Int) < n1 := by omega
                    go_wp2
                    go_ret
                    exact ⟨_, rfl, FewOut.no _, XA.out⟩
                  · have d1 : ¬ (12 : Int) < n1 := by omega
                    by_cases e2 : 200 < m
                    · have d2 : (200 : Int) < m := by omega
                      go_wp2
                      go_ret
                      exact ⟨_, rfl, FewOut.no _, XA.out⟩
                    · have d2 : ¬ (200 : Int) < m := by omega
                      have hs : Hid (SmN x.nf) := Lib.hid ⟨by have := HN0.out; omega, by have := HN1.out; omega, by have := HN2.out; omega, by have := HN3.out; omega, fun l hl => by
                        obtain ⟨i, hi⟩ := List.getElem?_of_mem hl
                        have := HR.out i l (by have := (List.getElem?_eq_some_iff.1 hi).1; have := HN1.out; have := HM1.out; omega) hi
                        omega⟩
                      go_wp2
                      go_roundw
                      case rel => exact ⟨k + 1, by omega, by go_num, fun i y hi hy => by
                        by_cases e : i < k
                        · exact HSM.out i y e hy
                        · obtain rfl : i = k := by omega
                          rw [HXK.out] at hy
                          cases hy
                          exact hs.out, XA.out⟩
                      case measure => simp [intOf]; omega
          · obtain rfl : k = n := by omega
            have hki : ¬ ((k : Int) < k) := by omega
            go_wp2
            go_ret
            exact ⟨_, rfl, ⟨true, rfl, fun _ => ⟨by have := HN.out; omega, fun x hx => by
              obtain ⟨i, hi⟩ := List.getElem?_of_mem hx
              exact HSM.out i x (by have := (List.getElem?_eq_some_iff.1 hi).1; have := HN.out; omega) hi⟩⟩, HX.out⟩
end Go.Proofs.YthdnlndpmmiboaaGreatDoor
