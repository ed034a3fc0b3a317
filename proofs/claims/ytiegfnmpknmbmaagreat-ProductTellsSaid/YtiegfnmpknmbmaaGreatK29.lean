/-
  product.Not.
-/
import Derived.Test.YtiegfnmpknmbmaaGreatK26
import Derived.Test.YtiegfnmpknmbmaaGreatK28
namespace Go.Proofs.YtiegfnmpknmbmaaGreat
open Go Go.RowKit Go.Shelf Go.Maps
attribute [local go_sem] encS

theorem rowCell {w : World} {base n cap : Nat} {e : TypeId} {ad : Option Addr} {xs : List Value} (h : w.ownsRow base e 1 (.slice ad n cap) n xs) {i : Nat} (hi : i < n) : ∃ g u, ad = some ⟨g, 0, none⟩ ∧ base ≤ g ∧ g < w.heap.size ∧ xs[i]? = some u ∧ w.cell? ⟨g, i, none⟩ = some u ∧ w.frozen? ⟨g, i, none⟩ = false := by
  have hl := h.1
  have hu : xs[i]? = some (xs[i]'(by omega)) := List.getElem?_eq_getElem (by omega)
  obtain ⟨a, c, e1⟩ := ownsRow_form h
  rcases h.2 with ⟨_, e2⟩ | ⟨g, c', cur, e2, _⟩
  · omega
  · injection e2 with e2 _ _
    subst e2
    have hlt := h.lt g rfl
    exact ⟨g, _, rfl, hlt.1, hlt.2, hu, by have := h.cells (g := g) rfl _ _ hu; rw [Addr.add_mid] at this; simpa using this, h.frozenAt _⟩
/-- Rows that lie apart from one that is written stay. -/
theorem OwnLL.keepsF {base b2 m : Nat} {w w' : World} {v tv : Value} {ll : List (List Int)} {xs : List Value} (h : OwnLL base w v ll) (hf : Far v tv) (ht : w.ownsRow b2 36 1 tv m xs) (hk : Keeps (fun x => x < w.heap.size ∧ tv.ownBlock ≠ some x) w w') : OwnLL base w' v ll := by
  obtain ⟨us, h1, h2, h3⟩ := h
  refine ⟨us, h1, ownsRow_keeps h2 hk fun x hx => ⟨(h2.lt x hx).2, fun e => ?_⟩, fun i u l hu hl => ?_⟩
  · rcases hf with h5 | h5
    · rw [h5] at hx; cases hx
    · exact h5 (hx.trans e.symm)
  · have hr := h3 i u l hu hl
    refine ownsRow_keeps hr hk fun x hx => ⟨(hr.lt x hx).2, fun e => ?_⟩
    rcases ownBlock_ne (show (3 : Nat) ≠ 36 by decide) hr ht with h5 | h5
    · rw [h5] at hx; cases hx
    · exact h5 (hx.trans e.symm)
/-- The marks of the automaton for all other strings. -/
def nfM (m : List Int) : List Int := if m.isEmpty then [0] else []
theorem notList_get {mr : List (List Int)} {k : Nat} {l : List Int} (hl : mr[k]? = some l) (i : Nat) : (((mr.take (k + 1)).map nfM) ++ mr.drop (k + 1))[i]? = if i = k then some (nfM l) else (((mr.take k).map nfM) ++ mr.drop k)[i]? := by
  have hkl := (List.getElem?_eq_some_iff.1 hl).1
  have h1 : ((mr.take (k + 1)).map nfM).length = k + 1 := by simp; omega
  have h2 : ((mr.take k).map nfM).length = k := by simp; omega
  by_cases e : i = k
  · subst e
    rw [if_pos rfl, List.getElem?_append_left (by omega), List.getElem?_map, List.getElem?_take, if_pos (by omega), hl]; rfl
  · rw [if_neg e]
    by_cases h : i < k
    · rw [List.getElem?_append_left (by omega), List.getElem?_append_left (by omega), List.getElem?_map, List.getElem?_map, List.getElem?_take, List.getElem?_take, if_pos (by omega), if_pos h]
    · rw [List.getElem?_append_right (by omega), List.getElem?_append_right (by omega), h1, h2, List.getElem?_drop, List.getElem?_drop]
      congr 1
      omega
theorem not_round {wo W' : World} {g k n mc base : Nat} {mr : List (List Int)} {l : List Int} {us : List Value} {u : Value} (hl : mr[k]? = some l) (hrow : wo.ownsRow base 36 1 (.slice (some ⟨g, 0, none⟩) n mc) n us)
    (hrows : ∀ (i : Nat) (u : Value) (l : List Int), us[i]? = some u → (((mr.take k).map nfM) ++ mr.drop k)[i]? = some l → wo.ownsRow base 3 1 u l.length (l.map encZ))
    (hk : Keeps (fun x => x ≠ g ∧ x < wo.heap.size) wo W') (hu : W'.ownsRow base 3 1 u (nfM l).length ((nfM l).map encZ)) :
    ∀ (i : Nat) (u' : Value) (l' : List Int), (us.set k u)[i]? = some u' → (((mr.take (k + 1)).map nfM) ++ mr.drop (k + 1))[i]? = some l' → W'.ownsRow base 3 1 u' l'.length (l'.map encZ) := fun i u' l' hu' hl' => by
  rw [notList_get hl] at hl'
  by_cases e : i = k
  · subst e
    rw [if_pos rfl] at hl'
    cases hl'
    have hil := (List.getElem?_eq_some_iff.1 hu').1
    rw [List.length_set] at hil
    rw [List.getElem?_set_self hil] at hu'
    cases hu'
    exact hu
  · rw [if_neg e] at hl'
    rw [List.getElem?_set_ne (fun h => e h.symm)] at hu'
    have hr := hrows i u' l' hu' hl'
    refine ownsRow_keeps hr hk fun x hx => ⟨fun e2 => ?_, (hr.lt x hx).2⟩
    rcases ownBlock_ne (show (3 : Nat) ≠ 36 by decide) hr hrow with h5 | h5
    · rw [h5] at hx; cases hx
    · exact h5 (hx.trans (congrArg some e2))
set_option maxRecDepth 100000 in
set_option maxHeartbeats 8000000 in
theorem pnot_main (v : Value) (d : DF) (rt : Rt d) (sm : Sm d) (w : World) (h : IsDf w v d) :
    Calls Tryz.prog 27 #[v] w fun e w' => ∃ u, e = .returned (.tuple #[u, .int .i64 0]) ∧ OwnDf w.heap.size w' u (notOf d) ∧ Below w.heap.size w w' := by
  have CR : Hid (∀ W, Below w.heap.size w W → Calls Tryz.prog 47 #[v] W fun e w' => e = .returned (.bool true) ∧ Below W.heap.size W w') := fun W hW => by
    have := right_any v d W (h.below hW) sm
    rwa [(right_iff d).2 rt] at this
  have CC : Hid (∀ W, Below w.heap.size w W → Calls Tryz.prog 14 #[v] W fun e w' => ∃ u, e = .returned u ∧ OwnDf W.heap.size w' u d ∧ (∀ v0 v1 v2, u = .agg #[v0, v1, v2] → Far v1 v2) ∧ Below W.heap.size W w') := fun W hW => copyF_any v d W (h.below hW) sm
  obtain ⟨v0, v1, v2, rfl, h0, h1, h2⟩ := h
  obtain ⟨a2, c2, rfl⟩ := h2.form
  obtain ⟨n, hn⟩ : ∃ n, n = d.mr.length := ⟨_, rfl⟩
  have hn4 : n ≤ 4000 := by have := rt.mr; have := rt.le; omega
  rw [← hn] at h2 CR CC ⊢
  have H2 := Lib.hid h2
  have HN := Lib.hid hn
  have SM := Lib.hid sm
  clear h0 h1 h2 hn sm rt
  go_enter Tryz.func27, Tryz.ntmps27
  go_wp2_with fail
  refine calls_named ?_
  intro V hV
  have B1 : Hid (Blk V w.heap.size #[v0, v1, .slice a2 n c2] 25) := by rw [hV]; exact (Blk.new w _ _).alloc _
  have B2 : Hid (Blk V (w.heap.size + 1) #[.slice none 0 0, .slice none 0 0, .slice none 0 0] 25) := by rw [hV]; exact (Blk.new (w.alloc _) _ _).at (by simp)
  have X1 : Hid (Below w.heap.size w V) := by rw [hV]; exact (((Ext.refl w).alloc _).alloc _).below
  clear hV
  obtain ⟨⟨k0, k1, k2⟩, _⟩ := B1.out.three
  refine (CR.out V X1.out).mono ?_
  rintro e w2 ⟨rfl, hx⟩
  have C1 := Lib.hid (B1.out.below hx B1.out.lt)
  have C2 := Lib.hid (B2.out.below hx B2.out.lt)
  have X2 := Lib.hid (X1.out.trans (hx.mono X1.out.size))
  clear hx k0 k1 k2 B1 B2 X1
  obtain ⟨⟨k0, k1, k2⟩, _⟩ := C1.out.three
  go_wp2_with fail
  refine (CC.out w2 X2.out).mono ?_
  rintro e w3 ⟨u, rfl, ho, hf, hx⟩
  obtain ⟨u0, u1, u2, rfl, o0, o1, o2⟩ := ho
  have hf2 := hf u0 u1 u2 rfl
  clear hf
  obtain ⟨ca, cc, rfl⟩ := ownsRow_form o0
  obtain ⟨na, nc, rfl⟩ := o1.form
  obtain ⟨ma, mc, rfl⟩ := o2.form
  rw [← HN.out] at o2 hf2 ⊢
  have O0 := Lib.hid o0
  have O1 := Lib.hid o1
  have O2 := Lib.hid o2
  have FF := Lib.hid hf2
  have D1 := Lib.hid (C1.out.below hx C1.out.lt)
  have D2 := Lib.hid (C2.out.below hx C2.out.lt)
  have X3 := Lib.hid (X2.out.trans (hx.mono X2.out.size))
  have hs23 : w2.heap.size ≤ w3.heap.size := hx.size
  have hsw2 : w.heap.size + 1 < w2.heap.size := C2.out.lt
  clear o0 o1 o2 hf2 hx k0 k1 k2 C1 C2 X2 CR CC
  obtain ⟨n0, hn0⟩ : ∃ n, n = d.cl.length := ⟨_, rfl⟩
  rw [← hn0] at O0 ⊢
  have HN0 : Hid (d.cl.length = n0) := Lib.hid hn0.symm
  clear hn0
  generalize d.nx.length = n1 at *
  have q2 : ∀ o, (w3.alloc o).cell? ⟨w.heap.size, 2, none⟩ = some (.slice a2 n c2) := fun o => (D1.out.alloc o).cell 2
  go_wp2
  go_loopw [16] (fun i wr => ∃ (k : Nat) (us : List Value), k ≤ n ∧ i = .int .i64 k ∧ us.length = n ∧ wr.ownsRow w2.heap.size 36 1 (.slice ma n mc) n us ∧ (∀ (i : Nat) (u : Value) (l : List Int), us[i]? = some u → (((d.mr.take k).map nfM) ++ d.mr.drop k)[i]? = some l → wr.ownsRow w2.heap.size 3 1 u l.length (l.map encZ)) ∧ Blk wr w3.heap.size #[.slice ca n0 cc, .slice na n1 nc, .slice ma n mc] 25 ∧ Keeps (fun x => x < w3.heap.size ∧ (Value.slice ma n mc).ownBlock ≠ some x) w3 wr) (fun i _ => n - (intOf i).toNat)
  case atStart =>
    obtain ⟨us, u1, u2, u3⟩ := O2.out
    rw [← HN.out] at u1
    rw [u1] at u2
    exact ⟨0, us, Nat.zero_le _, rfl, u1, u2.alloc _, fun i u l hu hl => (u3 i u l hu (by simpa using hl)).alloc _, Blk.new _ _ _, Keeps.of_below ((Ext.refl _).alloc _).below fun x hx => hx.1⟩
  case round =>
    obtain ⟨k, us, hk, rfl, hul, hrow, hrows, hb, hx⟩ := hrel
    obtain ⟨wo, rfl⟩ : ∃ wo : World, wo = wr := ⟨_, rfl⟩
    have hso : w3.heap.size < wo.heap.size := hb.lt
    have L2 : Hid (∀ x, (Value.slice ma n mc).ownBlock = some x → w2.heap.size ≤ x ∧ x < w3.heap.size) := by
      obtain ⟨ms, m1, m2, _⟩ := O2.out
      rw [m1, ← HN.out] at m2
      exact Lib.hid fun x e => m2.lt x e
    have XX : Hid (Below w.heap.size w wo) := X3.out.trans (hx.mono fun x hx' => by
      have h5 : x < w.heap.size := hx'
      exact ⟨by omega, fun e => by have := (L2.out x e).1; omega⟩ : Keeps (· < w.heap.size) w3 wo).below
    by_cases hlt : k < n
    · obtain ⟨l, hl⟩ : ∃ l, d.mr[k]? = some l := ⟨_, List.getElem?_eq_getElem (by have := HN.out; omega)⟩
      obtain ⟨b, off, a', c', rfl, hbl, cl, _⟩ := (H2.out.below XX.out).elem hl
      obtain ⟨g, uo, rfl, hg1, hg2, hgu, gc, gf⟩ := rowCell hrow hlt
      have hki : (k : Int) < n := by omega
      have hg3 := L2.out g rfl
      have HR := Lib.hid hrow
      have HRS := Lib.hid hrows
      have HB := Lib.hid hb
      have HX := Lib.hid hx
      have HL := Lib.hid hl
      have HU := Lib.hid hul
      have b2 := HB.out.cell 2
      have b2' : ∀ u : Value, (wo.setCell ⟨g, k, none⟩ u).cell? ⟨w3.heap.size, 2, none⟩ = some (.slice (some ⟨g, 0, none⟩) n mc) := fun u => ((HB.out.keeps ((Keeps.refl (· ≠ g) wo).setCell (p := ⟨g, k, none⟩) (fun h => h rfl) u) (by show w3.heap.size ≠ g; omega)).cell 2)
      have b2o : ∀ (u : Value) (o : Obj), ((wo.setCell ⟨g, k, none⟩ u).alloc o).cell? ⟨w3.heap.size, 2, none⟩ = some (.slice (some ⟨g, 0, none⟩) n mc) := fun u o => (((HB.out.keeps ((Keeps.refl (· ≠ g) wo).setCell (p := ⟨g, k, none⟩) (fun h => h rfl) u) (by show w3.heap.size ≠ g; omega)).alloc o).cell 2)
      clear hrow hrows hb hx hl hul q2
      cases l with
      | nil =>
        go_wp2
        go_roundw
        case rel =>
          have kg0 : Keeps (fun x => x ≠ g ∧ x < wo.heap.size) wo ((wo.setCell ⟨g, k, none⟩ (.slice none 0 0)).setCell ⟨g, k, none⟩ (.slice (some ⟨wo.heap.size, 0, none⟩) 1 1)) :=
            ((Keeps.refl _ wo).setCell (p := ⟨g, k, none⟩) (fun h => h.1 rfl) (.slice none 0 0)).setCell (p := ⟨g, k, none⟩) (fun h => h.1 rfl) (.slice (some ⟨wo.heap.size, 0, none⟩) 1 1)
          have kg := kg0.alloc (fun y hy => by simpa using hy.2) (.cells #[.int .i64 0] 3)
          have hsame : (us.set k (.slice none 0 0)).set k (.slice (some ⟨wo.heap.size, 0, none⟩) 1 1) = us.set k (.slice (some ⟨wo.heap.size, 0, none⟩) 1 1) := by simp
          have hrw := (((HR.out.stored k (.slice none 0 0)).1.stored k (.slice (some ⟨wo.heap.size, 0, none⟩) 1 1)).1.alloc (.cells #[.int .i64 0] 3))
          rw [hsame] at hrw
          refine ⟨k + 1, us.set k (.slice (some ⟨wo.heap.size, 0, none⟩) 1 1), by omega, by go_num, by rw [List.length_set]; exact HU.out, hrw, ?_, HB.out.keeps kg ⟨by omega, hso⟩, HX.out.tr (kg.mono fun x hx => ⟨fun e => hx.2 (by rw [e]; rfl), by have := hx.1; omega⟩)⟩
          refine not_round HL.out HR.out HRS.out kg ⟨rfl, .inr ⟨_, 1, #[.int .i64 0], rfl, by omega, ?_, Nat.le_refl _, by unfold maxLen; omega, rfl, rfl⟩⟩
          exact (Blk.new ((wo.setCell ⟨g, k, none⟩ (.slice none 0 0)).setCell ⟨g, k, none⟩ (.slice (some ⟨wo.heap.size, 0, none⟩) 1 1)) _ _).at (by simp)
        case measure => simp [intOf]; omega
      | cons x l =>
        have kg : Keeps (· ≠ g) wo (wo.setCell ⟨g, k, none⟩ (.slice none 0 0)) := (Keeps.refl (· ≠ g) wo).setCell (p := ⟨g, k, none⟩) (fun h => h rfl) _
        go_wp2
        go_roundw
        case rel =>
          refine ⟨k + 1, us.set k (.slice none 0 0), by omega, by go_num, by rw [List.length_set]; exact HU.out, (HR.out.stored k _).1, ?_, HB.out.keeps kg (by show w3.heap.size ≠ g; omega), HX.out.tr (kg.mono fun x hx e => hx.2 (by rw [e]; rfl))⟩
          exact not_round HL.out HR.out HRS.out (kg.mono fun x hx => hx.1) (World.ownsRow_nil _ _ _ _)
        case measure => simp [intOf]; omega
    · obtain rfl : k = n := by omega
      have HR := Lib.hid hrow
      have HRS := Lib.hid hrows
      have HX := Lib.hid hx
      have E2 := Lib.hid (D2.out.keeps hx ⟨D2.out.lt, fun e => by have := (L2.out _ e).1; omega⟩)
      obtain ⟨⟨k0, k1, k2⟩, _⟩ := hb.three
      obtain ⟨⟨l0, l1, l2⟩, z0, z1, z2⟩ := E2.out.three
      have HU := Lib.hid hul
      clear hrow hrows hx hb hul q2
      go_wp2
      refine post_named ?_
      intro W9 hW9
      have E9 : Hid (Blk W9 (w.heap.size + 1) #[.slice ca n0 cc, .slice na n1 nc, .slice ma k mc] 25 ∧ Keeps (· ≠ w.heap.size + 1) wo W9) := by
        rw [hW9]
        exact Lib.hid ⟨E2.out.set3, ((((Keeps.refl _ _).setCell (p := ⟨w.heap.size + 1, 0, none⟩) (fun h => h rfl) _).setCell (p := ⟨w.heap.size + 1, 1, none⟩) (fun h => h rfl) _).setCell (p := ⟨w.heap.size + 1, 2, none⟩) (fun h => h rfl) _)⟩
      clear hW9 k0 k1 k2 l0 l1 l2 z0 z1 z2
      obtain ⟨⟨m0, m1, m2⟩, _⟩ := E9.out.1.three
      refine bodyPost_ret (v := .tuple #[.agg #[.slice ca n0 cc, .slice na n1 nc, .slice ma k mc], .int .i64 0]) (by simp [results, Tryz.results27, go_sem, m0, m1, m2]) rfl ⟨_, rfl, ?_, XX.out.trans (E9.out.2.mono fun x hx e => by have : x < w.heap.size := hx; omega : Keeps (· < w.heap.size) wo W9).below⟩
      obtain ⟨ms, m1', m2', _⟩ := O2.out
      have kk : ∀ x, w2.heap.size ≤ x → x < wo.heap.size → x ≠ w.heap.size + 1 := fun x h1 _ => by omega
      refine ⟨_, _, _, rfl, ?_, ?_, ?_⟩
      · show W9.ownsRow w.heap.size 33 4 _ d.cl.length _
        have h5 := ownsRow_keeps O0.out HX.out fun x hx' => ⟨(O0.out.lt x hx').2, fun e => by
          rcases ownBlock_ne (show (33 : Nat) ≠ 36 by decide) O0.out m2' with h6 | h6
          · rw [h6] at hx'; cases hx'
          · exact h6 (hx'.trans e.symm)⟩
        rw [HN0.out]
        exact ownsRow_base (ownsRow_keepsB h5 E9.out.2 kk) (by omega)
      · exact ((O1.out.keepsF FF.out m2' HX.out).keeps E9.out.2 kk).base (by omega)
      · have e1 : (d.mr.take k).map nfM ++ d.mr.drop k = (notOf d).mr := by
          rw [HN.out, List.take_length, List.drop_length, List.append_nil]
          rfl
        rw [e1] at HRS
        have hml : us.length = (notOf d).mr.length := by rw [HU.out, HN.out]; simp [notOf]
        exact (OwnLL.keeps ⟨us, hml, by rw [HU.out]; exact HR.out, HRS.out⟩ E9.out.2 kk).base (by omega)
set_option maxRecDepth 100000 in
set_option maxHeartbeats 4000000 in
theorem pnot_any (v : Value) (d : DF) (sm : Sm d) (w : World) (h : IsDf w v d) :
    Calls Tryz.prog 27 #[v] w fun e w' => ∃ u, e = .returned (.tuple #[u, .int .i64 (if d.right then 0 else 182)]) ∧ OwnDf w.heap.size w' u (if d.right then notOf d else dfZ) ∧ Below w.heap.size w w' := by
  cases hr : d.right with
  | true => exact pnot_main v d ((right_iff d).1 hr) sm w h
  | false =>
    have CR : Hid (∀ W, Below w.heap.size w W → Calls Tryz.prog 47 #[v] W fun e w' => e = .returned (.bool false) ∧ Below W.heap.size W w') := fun W hW => by
      have := right_any v d W (h.below hW) sm
      rwa [hr] at this
    obtain ⟨v0, v1, v2, rfl, h0, h1, h2⟩ := h
    clear h0 h1 h2 hr sm
    go_enter Tryz.func27, Tryz.ntmps27
    go_wp2_with fail
    refine calls_named ?_
    intro V hV
    have B1 : Hid (Blk V w.heap.size #[v0, v1, v2] 25) := by rw [hV]; exact (Blk.new w _ _).alloc _
    have B2 : Hid (Blk V (w.heap.size + 1) #[.slice none 0 0, .slice none 0 0, .slice none 0 0] 25) := by rw [hV]; exact (Blk.new (w.alloc _) _ _).at (by simp)
    have X1 : Hid (Below w.heap.size w V) := by rw [hV]; exact (((Ext.refl w).alloc _).alloc _).below
    clear hV
    obtain ⟨⟨k0, k1, k2⟩, _⟩ := B1.out.three
    refine (CR.out V X1.out).mono ?_
    rintro e w2 ⟨rfl, hx⟩
    have C2 := Lib.hid (B2.out.below hx B2.out.lt)
    have X2 := Lib.hid (X1.out.trans (hx.mono X1.out.size))
    clear hx k0 k1 k2 B1 B2 X1
    obtain ⟨⟨k0, k1, k2⟩, z0, z1, z2⟩ := C2.out.three
    go_wp2
    refine post_named ?_
    intro W9 hW9
    have E9 : Hid (Blk W9 (w.heap.size + 1) #[.slice none 0 0, .slice none 0 0, .slice none 0 0] 25 ∧ Below w.heap.size w W9) := by rw [hW9]; exact Lib.hid ⟨C2.out.set3, below_set3 X2.out (by omega)⟩
    clear hW9
    obtain ⟨⟨m0, m1, m2⟩, _⟩ := E9.out.1.three
    exact bodyPost_ret (v := .tuple #[.agg #[.slice none 0 0, .slice none 0 0, .slice none 0 0], .int .i64 182]) (by simp [results, Tryz.results27, go_sem, m0, m1, m2]) rfl ⟨_, rfl, dfZ_own _ _, E9.out.2⟩
end Go.Proofs.YtiegfnmpknmbmaaGreat
