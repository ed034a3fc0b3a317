/-
  The reference's comparison of two rows of state sets. Printed by wip/gen/req.py.
  What the reference's dfa.Of keeps: its rows of state sets, its table, its marks.
-/
import Derived.Test.YthdnlndpmmiboaaGreatDoorM42
import Derived.Test.YthdnlndpmmiboaaGreatDoorM41
namespace Go.Proofs.YthdnlndpmmiboaaGreatDoor
open Go Go.RowKit Go.Shelf Go.Maps

theorem eqRow_no {p q : List (List Int)} {k : Nat} {x y : List Int} (hx : p[k]? = some x) (hy : q[k]? = some y) (h : x ≠ y) : decide (p = q) = false := decide_eq_false fun e => by subst e; rw [hx] at hy; cases hy; exact h rfl
theorem eqTake {α : Type} {p q : List α} {k : Nat} {x : α} (h : p.take k = q.take k) (hx : p[k]? = some x) (hy : q[k]? = some x) : p.take (k + 1) = q.take (k + 1) := by
  rw [List.take_add_one, List.take_add_one, h, hx, hy]
set_option maxRecDepth 100000 in
set_option maxHeartbeats 4000000 in
theorem rpEqual_any (u v : Value) (p q : List (List Int)) (hpq : p.length = q.length) (hn : p.length ≤ 1000000) (hs : ∀ l ∈ p, l.length ≤ 1000000) (w : World) (h : IsLL w u p) (h2 : IsLL w v q) :
    Calls Tryz.prog 51 #[u, v] w fun e w' => e = .returned (.bool (decide (p = q))) ∧ Below w.heap.size w w' := by
  obtain ⟨pa, pc, rfl⟩ := h.form
  obtain ⟨qa, qc, rfl⟩ := h2.form
  rw [← hpq] at h2 ⊢
  obtain ⟨n, hnn⟩ : ∃ n, n = p.length := ⟨_, rfl⟩
  obtain ⟨r, hr⟩ : ∃ r, r = decide (p = q) := ⟨_, rfl⟩
  rw [← hnn] at h h2 hn ⊢
  rw [← hr]
  have HP := Lib.hid h
  have HQ := Lib.hid h2
  have HN := Lib.hid hnn
  have HPQ := Lib.hid hpq
  have HR := Lib.hid hr
  have HS := Lib.hid hs
  clear h h2 hnn hr hpq hs
  go_enter Tryz.func51, Tryz.ntmps51
  go_wp2
  go_loopw [5] (fun iv wr => ∃ k : Nat, k ≤ n ∧ iv = .int .i64 k ∧ p.take k = q.take k ∧ Below w.heap.size w wr) (fun iv _ => n - (intOf iv).toNat)
  case atStart => exact ⟨0, by omega, rfl, rfl, Below.refl _ _⟩
  case round =>
    obtain ⟨k, hk, rfl, ht, hx⟩ := hrel
    obtain ⟨wo, rfl⟩ : ∃ wo : World, wo = wr := ⟨_, rfl⟩
    have HTk := Lib.hid ht
    have HX := Lib.hid hx
    clear ht hx
    by_cases hlt : k < n
    · have hki : (k : Int) < n := by omega
      obtain ⟨x, hx⟩ : ∃ x, p[k]? = some x := ⟨_, List.getElem?_eq_getElem (by have := HN.out; omega)⟩
      obtain ⟨y, hy⟩ : ∃ y, q[k]? = some y := ⟨_, List.getElem?_eq_getElem (by have := HN.out; have := HPQ.out; omega)⟩
      obtain ⟨ab, ao, xa, xc, rfl, hab, ca, hsa⟩ := (HP.out.below HX.out).elem hx
      obtain ⟨bb, bo, ya, yc, rfl, hbb, cb, hsb⟩ := (HQ.out.below HX.out).elem hy
      have hxl : x.length ≤ 1000000 := HS.out x (List.mem_of_getElem? hx)
      have HXX := Lib.hid hx
      have HYY := Lib.hid hy
      have HSA := Lib.hid hsa
      have HSB := Lib.hid hsb
      obtain ⟨m, hm⟩ : ∃ z, z = x.length := ⟨_, rfl⟩
      obtain ⟨m2, hm2⟩ : ∃ z, z = y.length := ⟨_, rfl⟩
      rw [← hm] at ca HSA hxl
      rw [← hm2] at cb HSB
      have HM := Lib.hid hm
      have HM2 := Lib.hid hm2
      clear hx hy hsa hsb hm hm2
      by_cases hlen : m = m2
      · subst hlen
        have d1 : ((m : Int) != m) = false := by simp
        have ca0 := Lib.hid ca
        have cb0 := Lib.hid cb
        go_wp2
        refine wp_region_reg false (fun _ => False) (by kernel_rfl) 11 [0, 0, 3, 7, 15, 0, 0, 96, 224, 480, 1023] (fun i => false) (by kernel_rfl) (fun i => Eff.any _) ?_
        intro C hC hne
        have HC := Lib.hid hC
        have f0 := regCell hC (p := ⟨ab, ao + k, none⟩) hab (fun h => h) ca
        have f1 := regCell hC (p := ⟨bb, bo + k, none⟩) hbb (fun h => h) cb
        clear hC
        repeat (refine regStep (fun K hK => ?_); first | (refine regN rfl ?_; try go_simp; refine hK _ _ ?_; clear hK K) | (refine regF rfl rfl ?_; unfold floatAt; go_simp; refine hK _ _ ?_; clear hK K))
        refine regNil (fun V hW hH => ?_)
        have XV0 := Lib.hid (((HC.out V).1 hW).below)
        have XV := Lib.hid (HX.out.trans (((HC.out V).1 hW).below.mono HX.out.size))
        clear hW hH HC hne f0 f1 ca cb
        go_wp2
        go_loopw [6] (fun iv wr => ∃ j : Nat, j ≤ m ∧ iv = .int .i64 j ∧ x.take j = y.take j ∧ Below wo.heap.size wo wr ∧ Below w.heap.size w wr) (fun iv _ => m - (intOf iv).toNat)
        case atStart => exact ⟨0, by omega, rfl, rfl, XV0.out, XV.out⟩
        case round =>
          obtain ⟨j, hj, rfl, ht2, hx1, hx2⟩ := hrel
          obtain ⟨wi, rfl⟩ : ∃ wo : World, wo = wr := ⟨_, rfl⟩
          have HT2 := Lib.hid ht2
          have HX1 := Lib.hid hx1
          have HX2 := Lib.hid hx2
          have hVs : wo.heap.size ≤ wi.heap.size := hx1.size
          have KV := Lib.hid (Keeps.of_below hx1 fun _ h => h : Keeps (· < wo.heap.size) wo wi)
          have ca2 : wi.cell? ⟨ab, ao + k, none⟩ = some (.slice xa m xc) := (KV.out.cell (p := ⟨ab, ao + k, none⟩) hab).trans ca0.out
          have cb2 : wi.cell? ⟨bb, bo + k, none⟩ = some (.slice ya m yc) := (KV.out.cell (p := ⟨bb, bo + k, none⟩) hbb).trans cb0.out
          clear ht2 hx1 hx2
          by_cases hlt2 : j < m
          · have hji : (j : Int) < m := by omega
            obtain ⟨s, hs⟩ : ∃ s, x[j]? = some s := ⟨_, List.getElem?_eq_getElem (by have := HM.out; omega)⟩
            obtain ⟨t, ht⟩ : ∃ t, y[j]? = some t := ⟨_, List.getElem?_eq_getElem (by have := HM2.out; omega)⟩
            obtain ⟨pb, po, rfl, hpb, cp⟩ := (HSA.out.below HX1.out).elem hs
            obtain ⟨qb, qo, rfl, hqb, cq⟩ := (HSB.out.below HX1.out).elem ht
            replace cp : wi.cell? ⟨pb, po + j, none⟩ = some (.int .i64 s) := cp
            replace cq : wi.cell? ⟨qb, qo + j, none⟩ = some (.int .i64 t) := cq
            have HSs := Lib.hid hs
            have HTt := Lib.hid ht
            clear hs ht
            by_cases he : s = t
            · subst he
              have d2 : (s != s) = false := by simp
              go_wp2
              refine wp_region_reg false (fun _ => False) (by kernel_rfl) 15 [0, 0, 3, 7, 0, 31, 63, 0, 0, 384, 896, 0, 3968, 8064, 16383] (fun i => false) (by kernel_rfl) (fun i => Eff.any _) ?_
              intro C hC hne
              have HC := Lib.hid hC
              have f0 := regCell hC (p := ⟨ab, ao + k, none⟩) (Nat.lt_of_lt_of_le hab hVs) (fun h => h) ca2
              have f1 := regCell hC (p := ⟨bb, bo + k, none⟩) (Nat.lt_of_lt_of_le hbb hVs) (fun h => h) cb2
              have f2 := regCell hC (p := ⟨pb, po + j, none⟩) hpb (fun h => h) cp
              have f3 := regCell hC (p := ⟨qb, qo + j, none⟩) hqb (fun h => h) cq
              clear hC
              repeat (refine regStep (fun K hK => ?_); first | (refine regN rfl ?_; try go_simp; refine hK _ _ ?_; clear hK K) | (refine regF rfl rfl ?_; unfold floatAt; go_simp; refine hK _ _ ?_; clear hK K))
              refine regNil (fun V2 hW hH => ?_)
              have XV3 := Lib.hid (HX1.out.trans (((HC.out V2).1 hW).below.mono HX1.out.size))
              have XV2 := Lib.hid (HX2.out.trans (((HC.out V2).1 hW).below.mono HX2.out.size))
              clear hW hH HC hne f0 f1 f2 f3 ca2 cb2 cp cq
              go_wp2
              go_roundw
              case rel => exact ⟨j + 1, by omega, by go_num, eqTake HT2.out HSs.out HTt.out, XV3.out, XV2.out⟩
              case measure => simp [intOf]; omega
            · have d2 : (s != t) = true := by simpa using he
              have HRR := Lib.hid (HR.out.trans (eqRow_no HXX.out HYY.out fun e => he (by have h5 := HSs.out; rw [e, HTt.out] at h5; cases h5; rfl)))
              clear he
              go_wp2
              refine wp_region_reg false (fun _ => False) (by kernel_rfl) 15 [0, 0, 3, 7, 0, 31, 63, 0, 0, 384, 896, 0, 3968, 8064, 16383] (fun i => false) (by kernel_rfl) (fun i => Eff.any _) ?_
              intro C hC hne
              have HC := Lib.hid hC
              have f0 := regCell hC (p := ⟨ab, ao + k, none⟩) (Nat.lt_of_lt_of_le hab hVs) (fun h => h) ca2
              have f1 := regCell hC (p := ⟨bb, bo + k, none⟩) (Nat.lt_of_lt_of_le hbb hVs) (fun h => h) cb2
              have f2 := regCell hC (p := ⟨pb, po + j, none⟩) hpb (fun h => h) cp
              have f3 := regCell hC (p := ⟨qb, qo + j, none⟩) hqb (fun h => h) cq
              clear hC
              repeat (refine regStep (fun K hK => ?_); first | (refine regN rfl ?_; try go_simp; refine hK _ _ ?_; clear hK K) | (refine regF rfl rfl ?_; unfold floatAt; go_simp; refine hK _ _ ?_; clear hK K))
              refine regNil (fun V2 hW hH => ?_)
              have XV3 := Lib.hid (HX1.out.trans (((HC.out V2).1 hW).below.mono HX1.out.size))
              have XV2 := Lib.hid (HX2.out.trans (((HC.out V2).1 hW).below.mono HX2.out.size))
              clear hW hH HC hne f0 f1 f2 f3 ca2 cb2 cp cq
              go_wp2
              go_ret
              exact ⟨by rw [HRR.out]; rfl, XV2.out⟩
          · obtain rfl : j = m := by omega
            have hji : ¬ ((j : Int) < j) := by omega
            have HE : Hid (x = y) := Lib.hid (by
              have h5 := HT2.out
              have e1 : x.take j = x := by rw [HM.out]; exact List.take_length
              have e2 : y.take j = y := by rw [HM2.out]; exact List.take_length
              rw [← e1, ← e2]; exact h5)
            clear hlt2
            go_wp2
            go_roundw
            case rel => exact ⟨k + 1, by omega, by go_num, eqTake HTk.out HXX.out (by rw [HE.out]; exact HYY.out), HX2.out⟩
            case measure => simp [intOf]; omega
      · have d1 : ((m : Int) != m2) = true := by simp; omega
        have HRR := Lib.hid (HR.out.trans (eqRow_no HXX.out HYY.out fun e => hlen (by rw [HM.out, HM2.out, e])))
        clear hlen
        go_wp2
        refine wp_region_reg false (fun _ => False) (by kernel_rfl) 11 [0, 0, 3, 7, 15, 0, 0, 96, 224, 480, 1023] (fun i => false) (by kernel_rfl) (fun i => Eff.any _) ?_
        intro C hC hne
        have HC := Lib.hid hC
        have f0 := regCell hC (p := ⟨ab, ao + k, none⟩) hab (fun h => h) ca
        have f1 := regCell hC (p := ⟨bb, bo + k, none⟩) hbb (fun h => h) cb
        clear hC
        repeat (refine regStep (fun K hK => ?_); first | (refine regN rfl ?_; try go_simp; refine hK _ _ ?_; clear hK K) | (refine regF rfl rfl ?_; unfold floatAt; go_simp; refine hK _ _ ?_; clear hK K))
        refine regNil (fun V hW hH => ?_)
        have XV0 := Lib.hid (((HC.out V).1 hW).below)
        have XV := Lib.hid (HX.out.trans (((HC.out V).1 hW).below.mono HX.out.size))
        clear hW hH HC hne f0 f1 ca cb
        go_wp2
        go_ret
        exact ⟨by rw [HRR.out]; rfl, XV.out⟩
    · obtain rfl : k = n := by omega
      have hki : ¬ ((k : Int) < k) := by omega
      have HRR : Hid (r = true) := Lib.hid (by
        rw [HR.out, decide_eq_true_eq]
        have h5 := HTk.out
        have e1 : p.take k = p := by rw [HN.out]; exact List.take_length
        have e2 : q.take k = q := by rw [HN.out, HPQ.out]; exact List.take_length
        rw [← e1, ← e2]; exact h5)
      clear hlt
      go_wp2
      go_ret
      exact ⟨by rw [HRR.out]; rfl, HX.out⟩
end Go.Proofs.YthdnlndpmmiboaaGreatDoor
namespace Go.Proofs.YthdnlndpmmiboaaGreatDoor
open Go Go.RowKit Go.Shelf Go.Maps

structure Rk (F : Nat → Prop) (w : World) (base : Nat) (rows : List (List (List Int))) (nx mk : List (List Int)) (sv nv kv : Value) (us ns ks : List Value) : Prop where
  st : RowF F w base 27 sv rows.length us
  stI : ∀ (i : Nat) (u : Value) (r : List (List Int)), us[i]? = some u → rows[i]? = some r → LLF F w base u r ∧ Far u nv ∧ Far u kv
  nxr : RowF F w base 33 nv nx.length ns
  nxI : RowsF F w base ns nx
  mkr : RowF F w base 33 kv mk.length ks
  mkI : RowsF F w base ks mk
  far : Far nv kv
section
variable {F : Nat → Prop} {w w' wm wg : World} {base L : Nat} {rows : List (List (List Int))} {nx mk : List (List Int)} {sv nv kv : Value} {us ns ks : List Value}
theorem Rk.keeps (h : Rk F w base rows nx mk sv nv kv us ns ks) {R : Nat → Prop} (hk : Keeps R w w') (hr : ∀ x, x < w.heap.size → F x → R x) : Rk F w' base rows nx mk sv nv kv us ns ks where
  st := h.st.keeps hk hr
  stI := fun i u r hu hl => by
    obtain ⟨⟨vs, h1, h2⟩, h3⟩ := h.stI i u r hu hl
    exact ⟨⟨vs, h1.keeps hk hr, fun i u l hu hl => (h2 i u l hu hl).keeps hk hr⟩, h3⟩
  nxr := h.nxr.keeps hk hr
  nxI := fun i u l hu hl => (h.nxI i u l hu hl).keeps hk hr
  mkr := h.mkr.keeps hk hr
  mkI := fun i u l hu hl => (h.mkI i u l hu hl).keeps hk hr
  far := h.far
theorem Rk.mono {F' : Nat → Prop} (h : Rk F w base rows nx mk sv nv kv us ns ks) (hf : ∀ x, x < w.heap.size → F x → F' x) : Rk F' w base rows nx mk sv nv kv us ns ks where
  st := h.st.mono hf
  stI := fun i u r hu hl => by
    obtain ⟨⟨vs, h1, h2⟩, h3⟩ := h.stI i u r hu hl
    exact ⟨⟨vs, h1.mono hf, fun i u l hu hl => (h2 i u l hu hl).mono hf⟩, h3⟩
  nxr := h.nxr.mono hf
  nxI := fun i u l hu hl => (h.nxI i u l hu hl).mono hf
  mkr := h.mkr.mono hf
  mkI := fun i u l hu hl => (h.mkI i u l hu hl).mono hf
  far := h.far
theorem Rk.below (h : Rk F w base rows nx mk sv nv kv us ns ks) (hk : Below w.heap.size w w') : Rk F w' base rows nx mk sv nv kv us ns ks := h.keeps (Keeps.of_below hk fun _ h => h : Keeps (· < w.heap.size) w w') fun _ h _ => h
theorem keepR {db e0 : Nat} {cs : Array Value} {v0 : Value} {xs0 : List Value} (hb : Blk wm db cs 48) (h0 : wm.ownsRow base e0 1 v0 L xs0)
    (K : Keeps (fun x => x < wm.heap.size ∧ x ≠ db ∧ v0.ownBlock ≠ some x) wm wg) {b n size : Nat} {e : TypeId} {v : Value} {xs : List Value} (h : wm.ownsRow b e size v n xs) (h1 : 48 ≠ e) (h3 : e ≠ e0 ∨ ∀ x, v.ownBlock = some x → v0.ownBlock ≠ some x) : wg.ownsRow b e size v n xs :=
  ownsRow_keeps h K fun x hx => ⟨(h.lt x hx).2, row_ne hb h h1 x hx, fun e2 => by
    rcases h3 with h3 | h3
    · rcases ownBlock_ne h3 h h0 with h5 | h5
      · rw [h5] at hx; cases hx
      · exact h5 (by rw [hx, e2])
    · exact h3 x hx e2⟩
/-- One state more. -/
theorem Rk.row {db : Nat} {cs : Array Value} {sv' lv : Value} {r : List (List Int)} (M : Rk F wm base rows nx mk sv nv kv us ns ks) (hL : L = rows.length) (hb : Blk wm db cs 48)
    (K : Keeps (fun x => x < wm.heap.size ∧ x ≠ db ∧ sv.ownBlock ≠ some x) wm wg) (hst : RowF F wg base 27 sv' (L + 1) (us ++ [lv])) (hlv : LLF F wg base lv r) (hf1 : Far lv nv) (hf2 : Far lv kv) : Rk F wg base (rows ++ [r]) nx mk sv' nv kv (us ++ [lv]) ns ks where
  st := by rw [List.length_append, ← hL]; exact hst
  stI := fun i u q hu hq => by
    have hul : us.length = L := by have := M.st.1.1; omega
    by_cases hi : i < L
    · rw [List.getElem?_append_left (by omega)] at hu hq
      obtain ⟨⟨vs, h1, h2⟩, h3, h4⟩ := M.stI i u q hu hq
      exact ⟨⟨vs, ⟨keepR hb M.st.1 K h1.1 (by decide) (.inl (by decide)), h1.2⟩, fun i u l hu hl => ⟨keepR hb M.st.1 K (h2 i u l hu hl).1 (by decide) (.inl (by decide)), (h2 i u l hu hl).2⟩⟩, h3, h4⟩
    · have hil := (List.getElem?_eq_some_iff.1 hu).1
      simp at hil
      obtain rfl : i = L := by omega
      rw [List.getElem?_append_right (by omega), hul, Nat.sub_self] at hu
      rw [List.getElem?_append_right (by omega), ← hL, Nat.sub_self] at hq
      cases hu
      cases hq
      exact ⟨hlv, hf1, hf2⟩
  nxr := ⟨keepR hb M.st.1 K M.nxr.1 (by decide) (.inl (by decide)), M.nxr.2⟩
  nxI := fun i u l hu hl => ⟨keepR hb M.st.1 K (M.nxI i u l hu hl).1 (by decide) (.inl (by decide)), (M.nxI i u l hu hl).2⟩
  mkr := ⟨keepR hb M.st.1 K M.mkr.1 (by decide) (.inl (by decide)), M.mkr.2⟩
  mkI := fun i u l hu hl => ⟨keepR hb M.st.1 K (M.mkI i u l hu hl).1 (by decide) (.inl (by decide)), (M.mkI i u l hu hl).2⟩
  far := M.far
theorem rowsF_snoc {F : Nat → Prop} {wg : World} {base L : Nat} {nx : List (List Int)} {ns : List Value} {xv : Value} {l : List Int} (hul : ns.length = L) (hL : L = nx.length) (h : RowsF F wg base ns nx) (hx : RowF F wg base 3 xv l.length (l.map encZ)) : RowsF F wg base (ns ++ [xv]) (nx ++ [l]) := fun i u l' hu hl => by
  by_cases hi : i < L
  · rw [List.getElem?_append_left (by omega)] at hu
    rw [List.getElem?_append_left (by omega)] at hl
    exact h i u l' hu hl
  · have hil := (List.getElem?_eq_some_iff.1 hu).1
    simp at hil
    obtain rfl : i = L := by omega
    rw [List.getElem?_append_right (by omega), hul, Nat.sub_self] at hu
    rw [List.getElem?_append_right (by omega), ← hL, Nat.sub_self] at hl
    cases hu
    cases hl
    exact hx
theorem Far.left {v v' y : Value} {N : Nat} (h : Far v y) (hn : v'.ownBlock = v.ownBlock ∨ ∀ x, v'.ownBlock = some x → N ≤ x) (hy : ∀ x, y.ownBlock = some x → x < N) : Far v' y := by
  rcases hn with h1 | h1
  · rcases h with h5 | h5
    · exact .inl (h1.trans h5)
    · exact .inr (by rw [h1]; exact h5)
  · cases e : v'.ownBlock with
    | none => exact .inl e
    | some x => exact .inr fun e2 => by have := h1 x e; have := hy x (by rw [← e2, e]); omega
/-- One row of the table more. -/
theorem Rk.next {db : Nat} {cs : Array Value} {nv' xv : Value} {l : List Int} (M : Rk F wm base rows nx mk sv nv kv us ns ks) (hL : L = nx.length) (hb : Blk wm db cs 48)
    (K : Keeps (fun x => x < wm.heap.size ∧ x ≠ db ∧ nv.ownBlock ≠ some x) wm wg) (hnr : RowF F wg base 33 nv' (L + 1) (ns ++ [xv])) (hx : RowF F wg base 3 xv l.length (l.map encZ))
    (hnf : nv'.ownBlock = nv.ownBlock ∨ ∀ x, nv'.ownBlock = some x → wm.heap.size ≤ x) : Rk F wg base rows (nx ++ [l]) mk sv nv' kv us (ns ++ [xv]) ks where
  st := ⟨keepR hb M.nxr.1 K M.st.1 (by decide) (.inl (by decide)), M.st.2⟩
  stI := fun i u q hu hq => by
    obtain ⟨⟨vs, h1, h2⟩, h3, h4⟩ := M.stI i u q hu hq
    exact ⟨⟨vs, ⟨keepR hb M.nxr.1 K h1.1 (by decide) (.inr h3.not), h1.2⟩, fun i u l hu hl => ⟨keepR hb M.nxr.1 K (h2 i u l hu hl).1 (by decide) (.inl (by decide)), (h2 i u l hu hl).2⟩⟩, h3.step hnf fun b e => (h1.1.lt b e).2, h4⟩
  nxr := by rw [List.length_append, ← hL]; exact hnr
  nxI := rowsF_snoc (by have := M.nxr.1.1; omega) hL (fun i u l hu hl => ⟨keepR hb M.nxr.1 K (M.nxI i u l hu hl).1 (by decide) (.inl (by decide)), (M.nxI i u l hu hl).2⟩) hx
  mkr := ⟨keepR hb M.nxr.1 K M.mkr.1 (by decide) (.inr M.far.not'), M.mkr.2⟩
  mkI := fun i u l hu hl => ⟨keepR hb M.nxr.1 K (M.mkI i u l hu hl).1 (by decide) (.inl (by decide)), (M.mkI i u l hu hl).2⟩
  far := M.far.left hnf fun x e => (M.mkr.1.lt x e).2
/-- The marks of one state more. -/
theorem Rk.marks {db : Nat} {cs : Array Value} {kv' xv : Value} {l : List Int} (M : Rk F wm base rows nx mk sv nv kv us ns ks) (hL : L = mk.length) (hb : Blk wm db cs 48)
    (K : Keeps (fun x => x < wm.heap.size ∧ x ≠ db ∧ kv.ownBlock ≠ some x) wm wg) (hnr : RowF F wg base 33 kv' (L + 1) (ks ++ [xv])) (hx : RowF F wg base 3 xv l.length (l.map encZ))
    (hnf : kv'.ownBlock = kv.ownBlock ∨ ∀ x, kv'.ownBlock = some x → wm.heap.size ≤ x) : Rk F wg base rows nx (mk ++ [l]) sv nv kv' us ns (ks ++ [xv]) where
  st := ⟨keepR hb M.mkr.1 K M.st.1 (by decide) (.inl (by decide)), M.st.2⟩
  stI := fun i u q hu hq => by
    obtain ⟨⟨vs, h1, h2⟩, h3, h4⟩ := M.stI i u q hu hq
    exact ⟨⟨vs, ⟨keepR hb M.mkr.1 K h1.1 (by decide) (.inr h4.not), h1.2⟩, fun i u l hu hl => ⟨keepR hb M.mkr.1 K (h2 i u l hu hl).1 (by decide) (.inl (by decide)), (h2 i u l hu hl).2⟩⟩, h3, h4.step hnf fun b e => (h1.1.lt b e).2⟩
  nxr := ⟨keepR hb M.mkr.1 K M.nxr.1 (by decide) (.inr M.far.not), M.nxr.2⟩
  nxI := fun i u l hu hl => ⟨keepR hb M.mkr.1 K (M.nxI i u l hu hl).1 (by decide) (.inl (by decide)), (M.nxI i u l hu hl).2⟩
  mkr := by rw [List.length_append, ← hL]; exact hnr
  mkI := rowsF_snoc (by have := M.mkr.1.1; omega) hL (fun i u l hu hl => ⟨keepR hb M.mkr.1 K (M.mkI i u l hu hl).1 (by decide) (.inl (by decide)), (M.mkI i u l hu hl).2⟩) hx
  far := M.far.step hnf fun x e => (M.nxr.1.lt x e).2
end
theorem IsArrs.src {w : World} {v : Value} {l : List (Nat → Int)} (h : IsArrs w v l) : SrcOf w v l.length (flatA l) := by
  obtain ⟨a, cap, rfl⟩ := h.form
  cases l with
  | nil =>
    rcases h with ⟨e, _⟩ | ⟨b, off, cap2, e, _⟩
    · rw [e]; exact .inl ⟨rfl, rfl, rfl⟩
    · rw [e]; exact .inr ⟨⟨b, off, none⟩, cap2, rfl, fun j u hj => by simp [flatA] at hj⟩
  | cons f l =>
    obtain ⟨b, off, e, _, _⟩ := h.elem (i := 0) (f := f) rfl
    subst e
    exact .inr ⟨⟨b, off, none⟩, cap, rfl, h.news⟩
theorem OwnLL.apart {w w' : World} {base b0 e0 size m : Nat} {v tv : Value} {ll : List (List Int)} {xs : List Value} (h : OwnLL base w v ll) (ht : w.ownsRow b0 e0 size tv m xs) (h1 : 33 ≠ e0) (h2 : 3 ≠ e0) (hk : Keeps (fun x => x < w.heap.size ∧ tv.ownBlock ≠ some x) w w') : OwnLL base w' v ll := by
  obtain ⟨us, u1, u2, u3⟩ := h
  have key : ∀ {e : TypeId} {n : Nat} {u : Value} {xs : List Value}, w.ownsRow base e 1 u n xs → e ≠ e0 → w'.ownsRow base e 1 u n xs := fun {e n u xs} hu he => ownsRow_keeps hu hk fun x hx => ⟨(hu.lt x hx).2, fun e2 => by
    rcases ownBlock_ne he hu ht with h5 | h5
    · rw [h5] at hx; cases hx
    · exact h5 (by rw [hx, e2])⟩
  exact ⟨us, u1, key u2 h1, fun i u l hu hl => key (u3 i u l hu hl) h2⟩
end Go.Proofs.YthdnlndpmmiboaaGreatDoor
