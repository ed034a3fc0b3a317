/-
  Parts in memory; what a step of the maker leads to.
  The reference's Right of an automaton of positions.
  (*maker).step: what a row of state sets leads to by a byte.
-/
import Derived.Test.YthdnlndpmmiboaaGreatDoorR26
import Derived.Test.YthdnlndpmmiboaaGreatDoorR28
import Derived.Test.YthdnlndpmmiboaaGreatDoorR22
import Derived.Test.YthdnlndpmmiboaaGreatDoorR24
import Derived.Test.YthdnlndpmmiboaaGreatDoorR20
import Derived.Test.YthdnlndpmmiboaaGreatDoorR15
import Derived.Test.YthdnlndpmmiboaaGreatDoorR06
namespace Go.Proofs.YthdnlndpmmiboaaGreatDoor
open Go Go.RowKit Go.Shelf Go.Maps

theorem IsNf.form4 {w : World} {v0 v1 v2 v3 e : Value} {a : NF} (h : IsNf w (.agg #[v0, v1, v2, v3, e]) a) : ∃ a0 n0 c0 a1 n1 c1 a2 n2 c2 a3 n3 c3, v0 = .slice a0 n0 c0 ∧ v1 = .slice a1 n1 c1 ∧ v2 = .slice a2 n2 c2 ∧ v3 = .slice a3 n3 c3 := by
  obtain ⟨u0, u1, u2, u3, e, h0, h1, h2, h3⟩ := h
  obtain ⟨a0, c0, rfl⟩ := h0.1.form
  obtain ⟨a1, c1, rfl⟩ := h1.form
  obtain ⟨a2, c2, rfl⟩ := h2.form
  obtain ⟨a3, c3, rfl⟩ := h3.form
  cases e
  exact ⟨_, _, _, _, _, _, _, _, _, _, _, _, rfl, rfl, rfl, rfl⟩
/-- A slice of parts, to be read. -/
def IsPts (w : World) (v : Value) (ps : List PT) : Prop := (v = .slice none 0 0 ∧ ps = []) ∨ ∃ b off cap, v = .slice (some ⟨b, off, none⟩) ps.length cap ∧ b < w.heap.size ∧ ∀ (i : Nat) (x : PT), ps[i]? = some x →
  ∃ v0 v1 v2 v3, IsNf w (.agg #[v0, v1, v2, v3, .bool x.nf.emp]) x.nf ∧ w.cell? ⟨b, off + i * 7, none⟩ = some v0 ∧ w.cell? ⟨b, off + i * 7 + 1, none⟩ = some v1 ∧ w.cell? ⟨b, off + i * 7 + 2, none⟩ = some v2 ∧ w.cell? ⟨b, off + i * 7 + 3, none⟩ = some v3 ∧
    w.cell? ⟨b, off + i * 7 + 4, none⟩ = some (.bool x.nf.emp) ∧ w.cell? ⟨b, off + i * 7 + 5, none⟩ = some (.bool x.beg) ∧ w.cell? ⟨b, off + i * 7 + 6, none⟩ = some (.int .i64 x.mark)
theorem IsPts.below {w w' : World} {v : Value} {ps : List PT} (h : IsPts w v ps) (hk : Below w.heap.size w w') : IsPts w' v ps := by
  rcases h with h | ⟨b, off, cap, hv, hb, h⟩
  · exact .inl h
  · have hc : ∀ j, w'.cell? ⟨b, j, none⟩ = w.cell? ⟨b, j, none⟩ := fun j => (Keeps.of_below hk fun _ h => h : Keeps (· < w.heap.size) w w').cell (p := ⟨b, j, none⟩) hb
    refine .inr ⟨b, off, cap, hv, Nat.lt_of_lt_of_le hb hk.size, fun i x hx => ?_⟩
    obtain ⟨v0, v1, v2, v3, h0, h1, h2, h3, h4, h5, h6, h7⟩ := h i x hx
    exact ⟨v0, v1, v2, v3, h0.below hk, (hc _).trans h1, (hc _).trans h2, (hc _).trans h3, (hc _).trans h4, (hc _).trans h5, (hc _).trans h6, (hc _).trans h7⟩
theorem IsPts.form {w : World} {v : Value} {ps : List PT} (h : IsPts w v ps) : ∃ a cap, v = .slice a ps.length cap := by
  rcases h with ⟨rfl, rfl⟩ | ⟨b, off, cap, rfl, _⟩
  · exact ⟨_, _, rfl⟩
  · exact ⟨_, _, rfl⟩
theorem IsPts.elem {w : World} {a : Option Addr} {n cap : Nat} {ps : List PT} (h : IsPts w (.slice a n cap) ps) {i : Nat} {x : PT} (hi : ps[i]? = some x) :
    ∃ b off v0 v1 v2 v3, a = some ⟨b, off, none⟩ ∧ b < w.heap.size ∧ IsNf w (.agg #[v0, v1, v2, v3, .bool x.nf.emp]) x.nf ∧ w.cell? ⟨b, off + i * 7, none⟩ = some v0 ∧ w.cell? ⟨b, off + i * 7 + 1, none⟩ = some v1 ∧ w.cell? ⟨b, off + i * 7 + 2, none⟩ = some v2 ∧ w.cell? ⟨b, off + i * 7 + 3, none⟩ = some v3 ∧
    w.cell? ⟨b, off + i * 7 + 4, none⟩ = some (.bool x.nf.emp) ∧ w.cell? ⟨b, off + i * 7 + 5, none⟩ = some (.bool x.beg) ∧ w.cell? ⟨b, off + i * 7 + 6, none⟩ = some (.int .i64 x.mark) := by
  rcases h with ⟨_, rfl⟩ | ⟨b, off, c, hv, hb, h⟩
  · simp at hi
  · cases hv
    obtain ⟨v0, v1, v2, v3, h0, rest⟩ := h i x hi
    exact ⟨b, off, v0, v1, v2, v3, rfl, hb, h0, rest⟩
/-- All parts are right, and not too large. -/
def PsOk (ps : List PT) : Prop := ps.length ≤ 64 ∧ ∀ x ∈ ps, Nt x.nf ∧ SmN x.nf ∧ 0 ≤ x.mark ∧ x.mark ≤ 255
theorem Blk.seven {w : World} {b : Nat} {x y z u t p q : Value} {ty : TypeId} (h : Blk w b #[x, y, z, u, t, p, q] ty) : w.cell? ⟨b, 0, none⟩ = some x ∧ w.cell? ⟨b, 1, none⟩ = some y ∧ w.cell? ⟨b, 2, none⟩ = some z ∧ w.cell? ⟨b, 3, none⟩ = some u ∧ w.cell? ⟨b, 4, none⟩ = some t ∧ w.cell? ⟨b, 5, none⟩ = some p ∧ w.cell? ⟨b, 6, none⟩ = some q :=
  ⟨h.cell 0, h.cell 1, h.cell 2, h.cell 3, h.cell 4, h.cell 5, h.cell 6⟩
/-- A row, in a tuple with something else. -/
def Eff.rowT (base : Nat) (e : TypeId) (size n : Nat) (xs : List Value) (x : Value) : Eff (Move false (fun _ => False)) where
  P := fun v => ∃ a c, v = .tuple #[.slice a n c, x]
  H := fun v W => ∀ u, v = .tuple #[u, x] → W.ownsRow base e size u n xs
  wit := .tuple #[.slice none n 0, x]
  pw := ⟨none, 0, rfl⟩
  st := fun _ _ _ hm _ h u hu => ownsRow_below (h u hu) hm.below
theorem rowT_form {base : Nat} {e : TypeId} {size n : Nat} {xs : List Value} {x u : Value} {W : World} (h : W.ownsRow base e size u n xs) : ∃ a c, (Value.tuple #[u, x]) = .tuple #[.slice a n c, x] := by
  obtain ⟨a, c, rfl⟩ := ownsRow_form h; exact ⟨a, c, rfl⟩
theorem rowT_keep {base : Nat} {e : TypeId} {size n : Nat} {xs : List Value} {x u : Value} {W : World} (h : W.ownsRow base e size u n xs) : ∀ u', (Value.tuple #[u, x]) = .tuple #[u', x] → W.ownsRow base e size u' n xs := fun u' e => by cases e; exact h
theorem stepR_get {ps : List PT} {row : List (List Int)} {c i : Nat} {x : PT} {l : List Int} (hx : ps[i]? = some x) (hl : row[i]? = some l) : (stepR ps row c)[i]? = some (x.step l c) := by
  unfold stepR
  rw [List.getElem?_zipWith, hx, hl]
theorem stepR_len {ps : List PT} {row : List (List Int)} (h : row.length = ps.length) (c : Nat) : (stepR ps row c).length = ps.length := by simp [stepR, h]
theorem st_len {a : NF} (rt : Nt a) {l : List Int} (h : a.st l = true) : l.length ≤ 401 := by
  obtain ⟨h1, h2⟩ := risG_pair h
  have hle := rt.le
  have hn : (l.map fun x => (x + 1).toNat).Nodup := by
    rw [List.nodup_iff_pairwise_ne, List.pairwise_map]
    exact h1.imp_of_mem fun {a b} ha hb hab => by have := h2 a ha; have := h2 b hb; omega
  have := List.Nodup.length_le_of_subset hn (l₂ := List.range 401) fun x hx => by
    obtain ⟨y, hy, rfl⟩ := List.mem_map.1 hx
    have := h2 y hy
    exact List.mem_range.2 (by omega)
  simpa using this
theorem rowIn_K {ps : List PT} (ok : PsOk ps) {row : List (List Int)} (h : RowIn ps row) : RowK row := by
  refine ⟨by rw [h.1]; exact ok.1, fun l hl => ?_⟩
  obtain ⟨i, hi⟩ := List.getElem?_of_mem hl
  have hil := (List.getElem?_eq_some_iff.1 hi).1
  have hx : ps[i]? = some (ps[i]'(by rw [← h.1]; exact hil)) := List.getElem?_eq_getElem _
  have rt := (ok.2 _ (List.mem_of_getElem? hx)).1
  have hst := h.2 i _ l hx hi
  refine ⟨st_len rt hst, fun x hx => ?_⟩
  have := (risG_pair hst).2 x hx
  have := rt.le
  omega
end Go.Proofs.YthdnlndpmmiboaaGreatDoor
namespace Go.Proofs.YthdnlndpmmiboaaGreatDoor
open Go Go.RowKit Go.Shelf Go.Maps

def NF.rowB (a : NF) (p : Nat) : Bool := risG 0 ((a.sets.length : Int) - 1) (a.fol.getD p []) && (a.sets.getD p 0 != 0)
end Go.Proofs.YthdnlndpmmiboaaGreatDoor
namespace Go.Proofs.YthdnlndpmmiboaaGreatDoor
open Go Go.RowKit Go.Shelf Go.Maps

set_option maxRecDepth 100000 in
set_option maxHeartbeats 4000000 in
theorem mstep_any (mb : Nat) (pv lv : Value) (ps : List PT) (ok : PsOk ps) (row : List (List Int)) (hr : RowIn ps row) (c : Nat) (hc : c < 256) (w : World) (hm : w.cell? ⟨mb, 0, none⟩ = some pv) (h : IsPts w pv ps) (hl : IsLL w lv row) :
    Calls Tryz.prog 81 #[.pointer (some ⟨mb, 0, none⟩), lv, .int .u8 c] w fun e w' => ∃ u, e = .returned u ∧ OwnLL w.heap.size w' u (stepR ps row c) ∧ Below w.heap.size w w' := by
  obtain ⟨iL, hiL, hzL0, hzL1, hzL2⟩ := info_parts Tryz.infoL
  obtain ⟨iI, hiI, hzI0, hzI1, hzI2⟩ := info_parts Tryz.infoI
  obtain ⟨pa, pc, rfl⟩ := h.form
  obtain ⟨la, lc, rfl⟩ := hl.form
  obtain ⟨n, hn⟩ : ∃ n, n = ps.length := ⟨_, rfl⟩
  have hrl := hr.1
  rw [← hn] at h hm hrl
  rw [hrl] at hl ⊢
  have hn64 : n ≤ 64 := by rw [hn]; exact ok.1
  have CS : Hid (∀ (i : Nat) (x : PT) (l : List Int) (v u : Value) (W : World), ps[i]? = some x → row[i]? = some l → IsNf W v x.nf → IsSl encZ W u l → Calls Tryz.prog 98 #[v, u, .int .u8 c] W fun e w' => ∃ r, e = .returned (.tuple #[r, .int .i64 0]) ∧ w'.ownsRow W.heap.size 3 1 r (x.nf.step l c).length ((x.nf.step l c).map encZ) ∧ Below W.heap.size W w') := Lib.hid fun i x l v u W hx hl hv hu => by
    have h2 := ok.2 x (List.mem_of_getElem? hx)
    have hst := hr.2 i x l hx hl
    exact nStep_any v u x.nf h2.1 l hst c hc W hv h2.2.1 hu (Nat.le_trans (st_len h2.1 hst) (by decide))
  have SL : Hid (∀ (i : Nat) (x : PT) (l : List Int), ps[i]? = some x → (x.nf.step l c).length ≤ 400) := Lib.hid fun i x l hx => by
    have h2 := (ok.2 x (List.mem_of_getElem? hx)).1.le
    unfold NF.step
    rw [List.length_map]
    exact Nat.le_trans (List.length_filter_le _ _) (by simpa using h2)
  have H := Lib.hid h
  have HL := Lib.hid hl
  have HN := Lib.hid hn
  have HRL := Lib.hid hrl
  have SLn : Hid ((stepR ps row c).length = n) := Lib.hid (by rw [stepR_len hr.1, ← hn])
  have hmb : mb < w.heap.size := World.block_lt_of_cell? _ _ hm
  clear h hl hr hn hrl ok
  go_enter Tryz.func81, Tryz.ntmps81
  go_wp2
  clear hm
  go_loopw [7, 17] (fun ov iv wr => ∃ k : Nat, k ≤ n ∧ iv = .int .i64 k ∧ OwnLL w.heap.size wr ov ((stepR ps row c).take k) ∧ Below w.heap.size w wr) (fun _ iv _ => n - (intOf iv).toNat)
  case atStart => exact ⟨0, by omega, rfl, OwnLL.nil _ _, Below.refl _ _⟩
  case round =>
    obtain ⟨k, hk, rfl, ho, hx⟩ := hrel
    obtain ⟨wo, rfl⟩ : ∃ wo : World, wo = wr := ⟨_, rfl⟩
    have HO := Lib.hid ho
    have HX := Lib.hid hx
    clear ho hx
    by_cases hlt : k < n
    · have hki : (k : Int) < n := by omega
      obtain ⟨x, hx⟩ : ∃ x, ps[k]? = some x := ⟨_, List.getElem?_eq_getElem (by have := HN.out; omega)⟩
      obtain ⟨l, hl⟩ : ∃ l, row[k]? = some l := ⟨_, List.getElem?_eq_getElem (by have := HRL.out; omega)⟩
      obtain ⟨b, off, v0, v1, v2, v3, rfl, hb, hnf, q0, q1, q2, q3, q4, q5, q6⟩ := (H.out.below HX.out).elem hx
      obtain ⟨b2, off2, a', c', rfl, hb2, cl, hsl⟩ := (HL.out.below HX.out).elem hl
      have HXX := Lib.hid hx
      have HLL := Lib.hid hl
      obtain ⟨x0, n0, c0, x1, n1, c1, x2, n2, c2, x3, n3, c3, rfl, rfl, rfl, rfl⟩ := hnf.form4
      have HNF := Lib.hid hnf
      have HSL := Lib.hid hsl
      have HTK : Hid ((stepR ps row c).take (k + 1) = (stepR ps row c).take k ++ [x.step l c]) := Lib.hid (by rw [List.take_add_one, stepR_get hx hl]; rfl)
      clear hx hl hnf hsl
      obtain ⟨sn, hsn⟩ : ∃ z, z = (x.nf.step l c).length := ⟨_, rfl⟩
      obtain ⟨sx, hsx⟩ : ∃ z, z = (x.nf.step l c).map encZ := ⟨_, rfl⟩
      have CS1 : Hid (∀ (v u : Value) (W : World), IsNf W v x.nf → IsSl encZ W u l → Calls Tryz.prog 98 #[v, u, .int .u8 c] W fun e w' => ∃ r, e = .returned (.tuple #[r, .int .i64 0]) ∧ w'.ownsRow W.heap.size 3 1 r sn sx ∧ Below W.heap.size W w') := Lib.hid fun v u W hv hu => by rw [hsn, hsx]; exact CS.out k x l v u W HXX.out HLL.out hv hu
      have hs400 : sn ≤ 400 := by rw [hsn]; exact SL.out k x l HXX.out
      have HSN := Lib.hid hsn
      have HSX := Lib.hid hsx
      obtain ⟨ln, hln⟩ : ∃ z, z = l.length := ⟨_, rfl⟩
      rw [← hln] at cl HSL
      clear hsn hsx hln
      go_wp2
      refine wp_named ?_
      intro V hV
      have BX : Hid (Blk V wo.heap.size #[.slice x0 n0 c0, .slice x1 n1 c1, .slice x2 n2 c2, .slice x3 n3 c3, .bool x.nf.emp, .bool x.beg, .int .i64 x.mark] 37) := Lib.hid (by rw [hV]; exact Blk.new wo _ _)
      have XV : Hid (Below wo.heap.size wo V) := Lib.hid (by rw [hV]; exact ((Ext.refl wo).alloc _).below)
      have cl2 : V.cell? ⟨b2, off2 + k, none⟩ = some (.slice a' ln c') := ((Keeps.of_below XV.out fun _ h => h : Keeps (· < wo.heap.size) wo V).cell (p := ⟨b2, off2 + k, none⟩) hb2).trans cl
      clear hV q0 q1 q2 q3 q4 q5 q6 cl
      refine wp_region_reg false (fun _ => False) (by kernel_rfl) 12 [0, 1, 0, 0, 12, 28, 0, 127, 255, 511, 511, 1023, 4095] (fun i => i == 7) (by kernel_rfl) (fun i => if i = 7 then Eff.rowT V.heap.size 3 1 sn sx (.int .i64 0) else Eff.any _) ?_
      intro C hC hne
      have HC := Lib.hid hC
      have f0 := regCell hC (p := ⟨wo.heap.size, 0, none⟩) BX.out.lt (fun h => h) (BX.out.cell 0)
      have f1 := regCell hC (p := ⟨wo.heap.size, 1, none⟩) BX.out.lt (fun h => h) (BX.out.cell 1)
      have f2 := regCell hC (p := ⟨wo.heap.size, 2, none⟩) BX.out.lt (fun h => h) (BX.out.cell 2)
      have f3 := regCell hC (p := ⟨wo.heap.size, 3, none⟩) BX.out.lt (fun h => h) (BX.out.cell 3)
      have f4 := regCell hC (p := ⟨wo.heap.size, 4, none⟩) BX.out.lt (fun h => h) (BX.out.cell 4)
      have f5 := regCell hC (p := ⟨b2, off2 + k, none⟩) (World.block_lt_of_cell? _ _ cl2) (fun h => h) cl2
      clear hC cl2
      repeat (refine regStep (fun K hK => ?_); first | (refine regN rfl ?_; try go_simp; refine hK _ _ ?_; clear hK K) | (refine regF rfl rfl ?_; unfold floatAt; go_simp; refine hK _ _ ?_; clear hK K))
      refine regStep (fun K hK => ?_)
      refine regE rfl rfl (Eff.rowT V.heap.size 3 1 sn sx (.int .i64 0)) rfl (fun W hW hN => ?_) (fun v hv => ?_)
      · have hM := (HC.out W).1 hW
        clear hW
        go_simp
        refine effT_call ((CS1.out _ _ _ ((HNF.out.below XV.out).below hM.below) ((HSL.out.below XV.out).below hM.below)).mono ?_)
        rintro e w2 ⟨vp, rfl, ho, hx⟩
        exact ⟨_, rfl, Move.of_below hx, rowT_form ho, rowT_keep (ownsRow_base ho hM.size)⟩
      obtain ⟨ra, rc, rfl⟩ := hv
      go_simp
      refine hK _ _ ?_
      clear hK K
      repeat (refine regStep (fun K hK => ?_); first | (refine regN rfl ?_; try go_simp; refine hK _ _ ?_; clear hK K) | (refine regF rfl rfl ?_; unfold floatAt; go_simp; refine hK _ _ ?_; clear hK K))
      refine regNil (fun W hW hH => ?_)
      have hM := (HC.out W).1 hW
      have R0 : Hid (W.ownsRow V.heap.size 3 1 (.slice ra sn rc) sn sx) := Lib.hid ((hH _ (List.mem_of_getElem? (show _ = some _ from rfl : _[0]? = some _))) _ rfl)
      have BW := Lib.hid (BX.out.below hM.below BX.out.lt)
      have XW := Lib.hid (XV.out.trans (hM.below.mono XV.out.size))
      have hVW := hM.size
      clear hM hW hH HC hne f0 f1 f2 f3 f4 f5
      obtain ⟨i0, i1, i2, i3, i4, i5, i6⟩ := BW.out.seven
      have hszo : w.heap.size ≤ wo.heap.size := HX.out.size
      have hszW : wo.heap.size < W.heap.size := BW.out.lt
      obtain ⟨us, u1, u2, u3⟩ := HO.out
      obtain ⟨m, hm⟩ : ∃ m, m = us.length := ⟨_, rfl⟩
      have hm64 : m ≤ 64 := by rw [hm, u1, List.length_take, SLn.out]; omega
      rw [← hm] at u2
      have HM := Lib.hid hm
      obtain ⟨a5, c5, rfl⟩ := ownsRow_form u2
      have U1 := Lib.hid u1
      have V2 := Lib.hid (ownsRow_below u2 XW.out)
      have V3 := Lib.hid fun i u l hu hl => ownsRow_below (u3 i u l hu hl) XW.out
      clear u1 u2 u3 hm
      cases hbg : x.beg with
      | true =>
        rw [hbg] at i5
        have HE : Hid (x.step l c = x.nf.step l c) := Lib.hid (by unfold PT.step; rw [hbg]; rfl)
        clear hbg
        have RN : Hid (W.ownsRow w.heap.size 3 1 (.slice ra sn rc) (x.step l c).length ((x.step l c).map encZ)) := Lib.hid (by
          rw [HE.out, ← HSN.out, ← HSX.out]
          exact ownsRow_base R0.out (Nat.le_trans hszo XV.out.size))
        go_wp2_with (at_builtin; refine wpList_append_own_at _ rfl (.tmp 39) (.tmp 41) 27 rfl w.heap.size 33 iL (.slice none 0 0) 1 24 Tryz.underlying27 hiL hzL0 hzL1 hzL2 rfl (by decide) _ _ _ rfl (V2.out.alloc _) ⟨W.heap.size, 0, none⟩ 1 1 [.slice ra sn rc] rfl rfl (cell_one _ _ _) (by simp [Value.oneCell']) (by unfold maxLen; omega) (by omega) (by simp; omega) ?_; intro v' w2 hown' hgrow hh hat; have HO2 := Lib.hid hown'; have HG := Lib.hid hgrow; clear hown' hgrow hh hat)
        go_roundw
        case rel =>
          refine ⟨k + 1, by omega, by go_num, ?_, ?_⟩
          · rw [HTK.out]
            refine OwnLL.snoc (w := W.alloc (.cells #[.slice ra sn rc] 33)) (v := .slice a5 m c5) (by rw [← HM.out]; exact HM.out.trans U1.out) (by rw [← HM.out]; exact V2.out.alloc _) (fun i u l hu hl => (V3.out i u l hu hl).alloc _) (RN.out.alloc _) HG.out (by rw [← HM.out]; exact HO2.out)
          · have XX := HX.out.trans (XW.out.mono HX.out.size)
            exact (XX.alloc XX.size _).grown HG.out (by have := XX.size; simp; omega) (fun c e => (V2.out.lt c e).1)
        case measure => simp [intOf]; omega
      | false =>
        rw [hbg] at i5
        have HE : Hid (x.step l c = -1 :: x.nf.step l c) := Lib.hid (by unfold PT.step; rw [hbg]; rfl)
        clear hbg
        have O1 : Hid ((W.alloc (.cells #[.int .i64 (-1)] 3)).ownsRow W.heap.size 3 1 (.slice (some ⟨W.heap.size, 0, none⟩) 1 1) 1 [.int .i64 (-1)]) := Lib.hid ⟨rfl, .inr ⟨W.heap.size, 1, #[.int .i64 (-1)], rfl, Nat.le_refl _, World.alloc_heap_new _ _, Nat.le_refl _, by unfold maxLen; omega, rfl, rfl⟩⟩
        go_wp2_with (at_builtin; refine Hid.out ?_)
        refine Lib.hid ?_
        refine wpList_appendS rfl (.tmp 36) (.tmp 37) 33 rfl W.heap.size 3 iI (.int .i64 0) 1 8 Tryz.underlying33 hiI hzI0 hzI1 hzI2 rfl (by decide) _ 1 _ rfl O1.out _ sn sx rfl (SrcOf.own (R0.out.alloc _)) (by rw [HSX.out, List.length_map, Nat.mul_one]; exact HSN.out.symm) (fun u hu => by rw [HSX.out] at hu; obtain ⟨y, _, rfl⟩ := List.mem_map.1 hu; rfl) (by unfold maxLen; omega) (by omega) (by simp) ?_
        intro v1 w1 hown1 hgrow1
        have XB : Hid (Below W.heap.size W w1) := Lib.hid (((Below.refl _ W).alloc (Nat.le_refl _) _).grown hgrow1 (by simp) (fun c e => by have e2 : some W.heap.size = some c := e; injection e2 with e2; omega))
        have hN : 1 + sn = (x.step l c).length := by rw [HE.out, List.length_cons, ← HSN.out]; omega
        have hX : [.int .i64 (-1)] ++ sx = (x.step l c).map encZ := by rw [HE.out, HSX.out]; rfl
        rw [hN, hX] at hown1
        obtain ⟨sm, hsm⟩ : ∃ z, z = (x.step l c).length := ⟨_, rfl⟩
        rw [← hsm] at hown1
        obtain ⟨a6, c6, rfl⟩ := ownsRow_form hown1
        have RN : Hid (w1.ownsRow w.heap.size 3 1 (.slice a6 sm c6) (x.step l c).length ((x.step l c).map encZ)) := Lib.hid (by rw [← hsm]; exact ownsRow_base hown1 (by omega))
        have Z2 := Lib.hid (ownsRow_below V2.out XB.out)
        have Z3 := Lib.hid fun i u l hu hl => ownsRow_below (V3.out i u l hu hl) XB.out
        have hw1 := XB.out.size
        clear hown1 hgrow1 hN hX hsm V2 V3 O1
        go_wp2_with (at_builtin; refine wpList_append_own_at _ rfl (.tmp 39) (.tmp 41) 27 rfl w.heap.size 33 iL (.slice none 0 0) 1 24 Tryz.underlying27 hiL hzL0 hzL1 hzL2 rfl (by decide) _ _ _ rfl (Z2.out.alloc _) ⟨w1.heap.size, 0, none⟩ 1 1 [.slice a6 sm c6] rfl rfl (cell_one _ _ _) (by simp [Value.oneCell']) (by unfold maxLen; omega) (by omega) (by simp; omega) ?_; intro v' w2 hown' hgrow hh hat; have HO2 := Lib.hid hown'; have HG := Lib.hid hgrow; clear hown' hgrow hh hat)
        go_roundw
        case rel =>
          refine ⟨k + 1, by omega, by go_num, ?_, ?_⟩
          · rw [HTK.out]
            refine OwnLL.snoc (w := w1.alloc (.cells #[.slice a6 sm c6] 33)) (v := .slice a5 m c5) (by rw [← HM.out]; exact HM.out.trans U1.out) (by rw [← HM.out]; exact Z2.out.alloc _) (fun i u l hu hl => (Z3.out i u l hu hl).alloc _) (RN.out.alloc _) HG.out (by rw [← HM.out]; exact HO2.out)
          · have XX := (HX.out.trans (XW.out.mono HX.out.size)).trans (XB.out.mono (Nat.le_trans HX.out.size XW.out.size))
            exact (XX.alloc XX.size _).grown HG.out (by have := XX.size; simp; omega) (fun c e => (Z2.out.lt c e).1)
        case measure => simp [intOf]; omega
    · obtain rfl : k = n := by omega
      have hkn : ¬ ((k : Int) < k) := by omega
      have htk : (stepR ps row c).take k = stepR ps row c := by rw [← SLn.out]; exact List.take_length
      rw [htk] at HO
      go_wp2
      go_ret
      exact ⟨_, rfl, HO.out, HX.out⟩
end Go.Proofs.YthdnlndpmmiboaaGreatDoor
