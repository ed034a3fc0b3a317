/-
  The law's theirs: an automaton for the reference.
  Automata of positions in plain words, and the automaton of parts.
-/
import Derived.Test.YthdnlndpmmiboaaGreatDoorR20
import Derived.Test.YthdnlndpmmiboaaGreatDoorR08
import Derived.Test.YthdnlndpmmiboaaGreatDoorR12
namespace Go.Proofs.YthdnlndpmmiboaaGreatDoor
open Go Go.RowKit Go.Shelf Go.Maps
attribute [local go_sem] encS

def Eff.ownLL (base n : Nat) (ll : List (List Int)) : Eff (Move false (fun _ => False)) where
  P := fun v => ∃ a c, v = .slice a n c
  H := fun v W => OwnLL base W v ll
  wit := .slice none n 0
  pw := ⟨none, 0, rfl⟩
  st := fun _ _ _ hm _ h => h.below hm.below
def Eff.zbox (lo : Nat) (cs : Array Value) (t : TypeId) : Eff (Move false (fun _ => False)) where
  P := fun v => ∃ b, v = .pointer (some ⟨b, 0, none⟩)
  H := fun v W => ∀ b, v = .pointer (some ⟨b, 0, none⟩) → Blk W b cs t ∧ lo ≤ b
  wit := .pointer (some ⟨0, 0, none⟩)
  pw := ⟨_, rfl⟩
  st := fun _ _ _ hm _ h b e => ⟨(h b e).1.below hm.below (h b e).1.lt, (h b e).2⟩
set_option maxRecDepth 100000 in
set_option maxHeartbeats 4000000 in
theorem theirs18_any (v : Value) (d : DF) (w : World) (h : IsDfe w v d) (sm : Sm d) :
    Calls Tryz.prog 24 #[v] w fun e w' => ∃ u, e = .returned u ∧ OwnRf w.heap.size w' u d ∧ Below w.heap.size w w' := by
  obtain ⟨i0, hi, hz0, hz1, hz2⟩ := info_parts Tryz.infoA
  obtain ⟨v0, v1, v2, rfl, h0, h1, h2⟩ := h
  obtain ⟨a0, c0, rfl⟩ := h0.1.form
  obtain ⟨a1, c1, rfl⟩ := h1.form
  obtain ⟨a2, c2, rfl⟩ := h2.form
  have SM := Lib.hid sm
  have H0 := Lib.hid h0.1
  have HW := Lib.hid fun s W => refWords_any s W
  have C1 : Hid (∀ W, Below w.heap.size w W → Calls Tryz.prog 43 #[.slice a1 d.nx.length c1] W fun e w' => ∃ u, e = .returned u ∧ OwnLL W.heap.size w' u d.nx ∧ Below W.heap.size W w') := Lib.hid fun W hW => listsE18_any _ d.nx W (h1.below hW) sm.nx sm.nxs
  have C2 : Hid (∀ W, Below w.heap.size w W → Calls Tryz.prog 43 #[.slice a2 d.mr.length c2] W fun e w' => ∃ u, e = .returned u ∧ OwnLL W.heap.size w' u d.mr ∧ Below W.heap.size W w') := Lib.hid fun W hW => listsE18_any _ d.mr W (h2.below hW) sm.mr sm.mks
  clear h0 h1 h2 sm
  obtain ⟨n0, hn0⟩ : ∃ n, n = d.cl.length := ⟨_, rfl⟩
  obtain ⟨n1, hn1⟩ : ∃ n, n = d.nx.length := ⟨_, rfl⟩
  obtain ⟨n2, hn2⟩ : ∃ n, n = d.mr.length := ⟨_, rfl⟩
  have m0 : n0 ≤ 1000000 := by rw [hn0]; exact SM.out.cl
  rw [← hn0] at H0 ⊢
  rw [← hn1] at C1 ⊢
  rw [← hn2] at C2 ⊢
  have HN0 := Lib.hid hn0
  have HN1 := Lib.hid hn1
  have HN2 := Lib.hid hn2
  clear hn0 hn1 hn2
  go_enter Tryz.func24, Tryz.ntmps24
  go_wp2
  refine wp_named ?_
  intro V hV
  have B1 : Hid (Blk V w.heap.size #[.slice a0 n0 c0, .slice a1 n1 c1, .slice a2 n2 c2] 29) := by rw [hV]; exact Lib.hid ((Blk.new w _ _).alloc _)
  have B2 : Hid (Blk V (w.heap.size + 1) #[.slice none 0 0, .slice none 0 0, .slice none 0 0] 48) := by rw [hV]; exact Lib.hid ((Blk.new (w.alloc _) _ _).at (by simp))
  have HX : Hid (Below w.heap.size w V) := by rw [hV]; exact Lib.hid (((Ext.refl w).alloc _).alloc _).below
  clear hV
  obtain ⟨⟨b0, b1, b2⟩, _⟩ := B1.out.three
  refine wp_region_reg false (fun _ => False) (by kernel_rfl) 8 [0, 1, 3, 0, 8, 31, 63, 0, 255] (fun i => i == 2 || i == 5 || i == 7 || i == 8) (by kernel_rfl) (fun i => if i = 2 then Eff.ownLL V.heap.size n1 d.nx else if i = 5 then Eff.ownLL V.heap.size n2 d.mr else if i = 7 then Eff.zbox V.heap.size #[.slice none 0 0, .slice none 0 0, .slice none 0 0] 48 else Eff.any _) ?_
  intro C hC hne
  have HC := Lib.hid hC
  have f1 := regCell hC (p := ⟨w.heap.size, 1, none⟩) B1.out.lt (fun h => h) b1
  have f2 := regCell hC (p := ⟨w.heap.size, 2, none⟩) B1.out.lt (fun h => h) b2
  clear hC
  repeat (refine regStep (fun K hK => ?_); first | (refine regN rfl ?_; try go_simp; refine hK _ _ ?_; clear hK K) | (refine regF rfl rfl ?_; unfold floatAt; go_simp; refine hK _ _ ?_; clear hK K))
  refine regStep (fun K hK => ?_)
  refine regE rfl rfl (Eff.ownLL V.heap.size n1 d.nx) rfl (fun W hW hN => ?_) (fun v hv => ?_)
  · have hM := (HC.out W).1 hW
    clear hW
    go_simp
    refine effT_call ((C1.out W (HX.out.trans (hM.below.mono HX.out.size))).mono ?_)
    rintro e w2 ⟨u, rfl, ho, hx⟩
    exact ⟨_, rfl, Move.of_below hx, (by rw [HN1.out]; exact ho.form), ho.base hM.size⟩
  obtain ⟨a3, c3, rfl⟩ := hv
  go_simp
  refine hK _ _ ?_
  clear hK K
  repeat (refine regStep (fun K hK => ?_); first | (refine regN rfl ?_; try go_simp; refine hK _ _ ?_; clear hK K) | (refine regF rfl rfl ?_; unfold floatAt; go_simp; refine hK _ _ ?_; clear hK K))
  refine regStep (fun K hK => ?_)
  refine regE rfl rfl (Eff.ownLL V.heap.size n2 d.mr) rfl (fun W hW hN => ?_) (fun v hv => ?_)
  · have hM := (HC.out W).1 hW
    clear hW
    go_simp
    refine effT_call ((C2.out W (HX.out.trans (hM.below.mono HX.out.size))).mono ?_)
    rintro e w2 ⟨u, rfl, ho, hx⟩
    exact ⟨_, rfl, Move.of_below hx, (by rw [HN2.out]; exact ho.form), ho.base hM.size⟩
  obtain ⟨a4, c4, rfl⟩ := hv
  go_simp
  refine hK _ _ ?_
  clear hK K
  repeat (refine regStep (fun K hK => ?_); first | (refine regN rfl ?_; try go_simp; refine hK _ _ ?_; clear hK K) | (refine regF rfl rfl ?_; unfold floatAt; go_simp; refine hK _ _ ?_; clear hK K))
  refine regStep (fun K0 hK => ?_)
  refine regE rfl rfl (Eff.zbox V.heap.size #[.slice none 0 0, .slice none 0 0, .slice none 0 0] 48) rfl (fun W hW hN => ?_) (fun v hv => ?_)
  · have hM := (HC.out W).1 hW
    have hsW := hM.size
    clear hW hN hK K0
    go_simp
    exact ⟨Move.of_below ((Ext.refl _).alloc _).below, ⟨_, rfl⟩, fun b hb => by cases hb; exact ⟨Blk.new _ _ _, hsW⟩⟩
  obtain ⟨bx, rfl⟩ := hv
  go_simp
  refine hK _ _ ?_
  clear hK K0
  refine regNil (fun W hW hH => ?_)
  have hM := (HC.out W).1 hW
  have hb8 : (Eff.zbox V.heap.size #[.slice none 0 0, .slice none 0 0, .slice none 0 0] 48).H (.pointer (some ⟨bx, 0, none⟩)) W := hH _ (List.mem_of_getElem? (show _ = some _ from rfl : _[0]? = some _))
  have L4 : Hid (OwnLL V.heap.size W (.slice a4 n2 c4) d.mr) := Lib.hid (hH _ (List.mem_of_getElem? (show _ = some _ from rfl : _[1]? = some _)))
  have L3 : Hid (OwnLL V.heap.size W (.slice a3 n1 c3) d.nx) := Lib.hid (hH _ (List.mem_of_getElem? (show _ = some _ from rfl : _[2]? = some _)))
  have BX := Lib.hid (hb8 bx rfl)
  have XW := Lib.hid hM.below
  have hszW : V.heap.size ≤ W.heap.size := hM.size
  clear hM hW hH HC hne f1 f2 hb8 b0 b1 b2 C1 C2
  obtain ⟨⟨x0, x1, x2⟩, z0, z1, z2⟩ := BX.out.1.three
  have D1 := Lib.hid (B1.out.below XW.out B1.out.lt)
  have hbx : bx ≠ w.heap.size := by have := BX.out.2; have := B1.out.lt; omega
  have D2 := ((D1.out.other (p := ⟨bx, 0, none⟩) hbx (.slice none 0 0)).other (p := ⟨bx, 1, none⟩) hbx (.slice a3 n1 c3)).other (p := ⟨bx, 2, none⟩) hbx (.slice a4 n2 c4)
  have k0 := D2.cell 0
  simp only [List.getElem?_toArray, List.getElem?_cons_zero] at k0
  have HD2 := Lib.hid D2
  clear D2
  go_wp2
  clear k0
  refine wp_named ?_
  intro W2 hW2
  have BD : Hid (Blk W2 bx #[.slice none 0 0, .slice a3 n1 c3, .slice a4 n2 c4] 48) := by rw [hW2]; exact Lib.hid (((BX.out.1.set 0 _).set 1 _).set 2 _)
  have K2 : Keeps (· ≠ bx) W W2 := by rw [hW2]; exact (((Keeps.refl _ _).setCell (p := ⟨bx, 0, none⟩) (fun h => h rfl) _).setCell (p := ⟨bx, 1, none⟩) (fun h => h rfl) _).setCell (p := ⟨bx, 2, none⟩) (fun h => h rfl) _
  clear hW2 x0 x1 x2 z0 z1 z2
  have hbl : ∀ {e : TypeId} {size n : Nat} {u : Value} {xs : List Value}, W.ownsRow V.heap.size e size u n xs → 48 ≠ e → W2.ownsRow V.heap.size e size u n xs := fun h he => ownsRow_keeps h K2 fun x hx => row_ne BX.out.1 h he x hx
  have M3 : Hid (OwnLL V.heap.size W2 (.slice a3 n1 c3) d.nx) := Lib.hid (by
    obtain ⟨us, h1, h2, h3⟩ := L3.out
    exact ⟨us, h1, hbl h2 (by decide), fun i u l hu hl => hbl (h3 i u l hu hl) (by decide)⟩)
  have M4 : Hid (OwnLL V.heap.size W2 (.slice a4 n2 c4) d.mr) := Lib.hid (by
    obtain ⟨us, h1, h2, h3⟩ := L4.out
    exact ⟨us, h1, hbl h2 (by decide), fun i u l hu hl => hbl (h3 i u l hu hl) (by decide)⟩)
  have D3 := Lib.hid (D1.out.keeps K2 (Ne.symm hbx))
  have hVb : V.heap.size ≤ bx := BX.out.2
  have E2 := Lib.hid ((B2.out.below XW.out B2.out.lt).keeps K2 (by have := B2.out.lt; show w.heap.size + 1 ≠ bx; omega))
  have X2 : Hid (Below w.heap.size w W2) := Lib.hid ((HX.out.trans (XW.out.mono HX.out.size)).trans (K2.mono fun x (hx : x < w.heap.size) => by have := B1.out.lt; omega : Keeps (· < w.heap.size) W W2).below)
  have hszW2 : W.heap.size ≤ W2.heap.size := K2.size
  have hb12 := B1.out.lt
  have hb22 := B2.out.lt
  clear K2 hbl L3 L4 BX XW D1 HD2 B1 B2 HX
  go_loopw [16] (fun i wr => ∃ (k : Nat) (u : Value), k ≤ n0 ∧ i = .int .i64 k ∧ Blk wr bx #[u, .slice a3 n1 c3, .slice a4 n2 c4] 48 ∧ wr.ownsRow W2.heap.size 91 256 u ((d.cl.take k).map refS).length (flatA ((d.cl.take k).map refS)) ∧ Keeps (fun x => x < W2.heap.size ∧ x ≠ bx) W2 wr) (fun i _ => n0 - (intOf i).toNat)
  case atStart => exact ⟨0, _, by omega, rfl, BD.out, World.ownsRow_nil _ _ _ _, Keeps.refl _ _⟩
  case round =>
    obtain ⟨k, u, hk, rfl, hb, ho, hx⟩ := hrel
    obtain ⟨wo, rfl⟩ : ∃ wo : World, wo = wr := ⟨_, rfl⟩
    have hXw : Below w.heap.size w wo := X2.out.trans (hx.mono fun x (hx' : x < w.heap.size) => ⟨Nat.lt_of_lt_of_le hx' X2.out.size, by omega⟩ : Keeps (· < w.heap.size) W2 wo).below
    by_cases hlt : k < n0
    · obtain ⟨s, hs⟩ : ∃ s, d.cl[k]? = some s := ⟨_, List.getElem?_eq_getElem (by have := HN0.out; omega)⟩
      obtain ⟨bb, off, rfl, hbb, d0, d1, d2, d3⟩ := (H0.out.below hXw).elem hs
      have hlen : ((d.cl.take k).map refS).length ≤ 1000000 := by rw [List.length_map, List.length_take]; omega
      have htk : (d.cl.take (k + 1)).map refS = (d.cl.take k).map refS ++ [refS s] := by rw [List.take_add_one, hs]; simp
      have hki : (k : Int) < n0 := by omega
      obtain ⟨ml, hml⟩ : ∃ m, m = ((d.cl.take k).map refS).length := ⟨_, rfl⟩
      rw [← hml] at ho hlen
      have HML := Lib.hid hml
      clear hml
      obtain ⟨ua, uc, rfl⟩ := ownsRow_form ho
      have HO := Lib.hid ho
      have HK := Lib.hid hx
      have HT := Lib.hid htk
      have HB := Lib.hid hb
      clear hs ho hx htk hb hXw
      generalize (d.cl.take k).map refS = xs at HO HML HT
      go_wp2
      refine wp_named ?_
      intro V2 hV2
      have S2 : Hid (Blk V2 wo.heap.size (encS s) 65) := by rw [hV2]; exact Blk.new _ _ _
      have X3 : Hid (Ext wo V2) := by rw [hV2]; exact (Ext.refl _).alloc _
      have hsz2 : wo.heap.size < V2.heap.size := S2.out.lt
      clear hV2 d0 d1 d2 d3
      refine wp_region_reg false (fun _ => False) (by kernel_rfl) 5 [0, 1, 0, 4, 12, 31, 63, 127] (fun i => i == 3 || i == 4 || i == 5 || i == 7) (by kernel_rfl) (fun i => if i = 3 then Eff.det _ (.agg (aI (refS s))) else if i = 4 then Eff.box 1 (aI (refS s)) 91 else Eff.any _) ?_
      intro C hC hne
      have HC := Lib.hid hC
      have f0 := regCell hC (p := ⟨bx, 0, none⟩) (by have := (HB.out.ext X3.out).lt; exact this) (fun h => h) ((HB.out.ext X3.out).cell 0)
      obtain ⟨k0, k1, k2, k3⟩ := regSet hC S2.out
      clear hC
      repeat (refine regStep (fun K hK => ?_); first | (refine regN rfl ?_; try go_simp; refine hK _ _ ?_; clear hK K) | (refine regF rfl rfl ?_; unfold floatAt; go_simp; refine hK _ _ ?_; clear hK K))
      refine regStep (fun K hK => ?_)
      refine regE rfl rfl (Eff.det _ (.agg (aI (refS s)))) rfl (fun W hW hN => ?_) (fun v hv => ?_)
      · have hM := (HC.out W).1 hW
        clear hW
        go_simp
        refine effT_call ((HW.out s _).mono ?_)
        rintro e w2 ⟨rfl, hx⟩
        exact ⟨_, rfl, Move.of_ext hx, rfl, trivial⟩
      replace hv : v = _ := hv
      subst hv
      go_simp
      refine hK _ _ ?_
      clear hK K
      refine regStep (fun K hK => ?_)
      refine regE rfl rfl (Eff.box 1 (aI (refS s)) 91) rfl (fun W hW hN => ?_) (fun v hv => ?_)
      · clear hW hN hK K
        exact effT_build1 40 91 _ rfl Tryz.underlying40 hi hz0 hz1 (by decide) (by decide) (aI (refS s)) rfl (aI_size _) ⟨Move.ext ((Ext.refl _).alloc _), ⟨_, rfl⟩, fun b hb => by cases hb; exact Blk.new _ _ _⟩
      obtain ⟨bz, rfl⟩ := hv
      go_simp
      refine hK _ _ ?_
      clear hK K
      refine regNil (fun W hW hH => ?_)
      have hM := (HC.out W).1 hW
      have hbx9 : Blk W bz (aI (refS s)) 91 := hH _ (List.mem_cons_self ..) bz rfl
      have hXX : Below wo.heap.size wo W := X3.out.below.trans (hM.below.mono X3.out.size)
      have HBX := Lib.hid hbx9
      have YB := Lib.hid (HB.out.below hXX HB.out.lt)
      have YO := Lib.hid (ownsRow_below HO.out hXX)
      have YK := Lib.hid (HK.out.tr (Keeps.of_below hXX fun x hx => Nat.lt_of_lt_of_le hx.1 HK.out.size))
      have hVs : W2.heap.size ≤ W.heap.size := Nat.le_trans HK.out.size hXX.size
      have hb3 : bx < W2.heap.size := BD.out.lt
      clear hM hW hH hXX f0 k0 k1 k2 k3 HC HB HO HK hbx9 S2 X3
      go_wp2_with (at_builtin; refine Hid.out ?_)
      refine Lib.hid ?_
      refine wpList_append_own_at _ rfl (.tmp 21) (.tmp 24) 40 rfl W2.heap.size 91 i0 (.agg (aI fun _ => 0)) 256 2048 Tryz.underlying40 hi hz0 hz1 hz2 (aI_size _) (by decide) _ _ _ rfl YO.out ⟨bz, 0, none⟩ 1 1 (aI (refS s)).toList rfl (by rw [Array.length_toList, aI_size]) (news_blk HBX.out) (by intro u hu; exact Array.all_eq_true_iff_forall_mem.1 (aI_one _) u (by simpa using hu)) (by unfold maxLen; omega) (by omega) hVs ?_
      intro v' w3 hown' hgrow hh hat
      have HO3 := Lib.hid hown'
      have HG := Lib.hid hgrow
      obtain ⟨ua3, uc3, rfl⟩ := ownsRow_form hown'
      have hne9 : ∀ x, (Value.slice ua ml uc).ownBlock = some x → W2.heap.size ≤ x := (fun x e => (YO.out.lt x e).1)
      have ZB := Lib.hid (YB.out.grown hgrow (fun e => by have := hne9 _ e.symm; omega))
      have ZK := Lib.hid (YK.out.tr (Keeps.of_grown hgrow fun x hx => ⟨Nat.lt_of_lt_of_le hx.1 hVs, fun e => by have := hne9 x e.symm; omega⟩))
      have hsz3 : W.heap.size ≤ w3.heap.size := hgrow.size
      obtain ⟨⟨p0, p1, p2⟩, q0, q1, q2⟩ := ZB.out.three
      clear hown' hgrow hh hat hne9
      go_wp2
      go_roundw
      case rel =>
        refine ⟨k + 1, _, by omega, by go_num, ZB.out.set 0 _, ?_, ZK.out.setCell (p := ⟨bx, 0, none⟩) (fun h => h.2 rfl) _⟩
        rw [HT.out, List.length_append, flatA_append, flatA_one, ← HML.out]
        exact ownsRow_keepsB HO3.out ((Keeps.refl (· ≠ bx) _).setCell (p := ⟨bx, 0, none⟩) (fun h => h rfl) _) (fun x h1 _ e => by omega)
      case measure => simp [intOf]; omega
    · obtain rfl : k = n0 := by omega
      clear hlt hk
      have hki : ¬ ((k : Int) < k) := by omega
      have htk : d.cl.take k = d.cl := by rw [HN0.out]; exact List.take_length
      rw [htk] at ho
      obtain ⟨lx, hlx⟩ : ∃ m, m = (d.cl.map refS).length := ⟨_, rfl⟩
      rw [← hlx] at ho
      have HLX := Lib.hid hlx
      obtain ⟨ua, uc, rfl⟩ := ownsRow_form ho
      have R0 := Lib.hid ho
      have XA := Lib.hid hXw
      have CB := Lib.hid hb
      have HK := Lib.hid hx
      have hb3 : bx < W2.heap.size := BD.out.lt
      have C2 := Lib.hid (E2.out.keeps hx ⟨E2.out.lt, by omega⟩)
      clear ho hb hx htk hXw hlx
      obtain ⟨⟨p0, p1, p2⟩, _⟩ := CB.out.three
      obtain ⟨⟨y0, y1, y2⟩, z0, z1, z2⟩ := C2.out.three
      go_wp2
      refine post_named ?_
      intro W9 hW9
      have E9 : Hid (Blk W9 (w.heap.size + 1) #[.slice ua lx uc, .slice a3 n1 c3, .slice a4 n2 c4] 48 ∧ Keeps (· ≠ w.heap.size + 1) wo W9) := by
        rw [hW9]
        exact Lib.hid ⟨C2.out.set3, ((((Keeps.refl _ _).setCell (p := ⟨w.heap.size + 1, 0, none⟩) (fun h => h rfl) _).setCell (p := ⟨w.heap.size + 1, 1, none⟩) (fun h => h rfl) _).setCell (p := ⟨w.heap.size + 1, 2, none⟩) (fun h => h rfl) _)⟩
      clear hW9 z0 z1 z2 y0 y1 y2 p0 p1 p2
      obtain ⟨⟨m0, m1, m2⟩, _⟩ := E9.out.1.three
      have LK : ∀ {v : Value} {ll : List (List Int)}, OwnLL V.heap.size W2 v ll → OwnLL w.heap.size W9 v ll := fun h => by
        obtain ⟨us, g1, g2, g3⟩ := h
        have key : ∀ {e : TypeId} {size n : Nat} {u : Value} {xs : List Value}, W2.ownsRow V.heap.size e size u n xs → 48 ≠ e → W9.ownsRow w.heap.size e size u n xs := fun h he => ownsRow_base (base := V.heap.size) (ownsRow_keeps (ownsRow_keeps h HK.out fun x hx => ⟨(h.lt x hx).2, row_ne BD.out h he x hx⟩) E9.out.2 fun x hx => by have := (h.lt x hx).1; show x ≠ w.heap.size + 1; omega) (by omega)
        exact ⟨us, g1, key g2 (by decide), fun i u l hu hl => key (g3 i u l hu hl) (by decide)⟩
      refine bodyPost_ret (v := .agg #[.slice ua lx uc, .slice a3 n1 c3, .slice a4 n2 c4]) (by simp [results, Tryz.results24, go_sem, m0, m1, m2]) rfl ⟨_, rfl, ⟨_, _, _, rfl, ?_, LK M3.out, LK M4.out⟩, XA.out.trans (E9.out.2.mono fun x (hx : x < w.heap.size) => by show x ≠ w.heap.size + 1; omega : Keeps (· < w.heap.size) wo W9).below⟩
      rw [← HLX.out]
      have hW2l : w.heap.size + 1 < W2.heap.size := by omega
      exact ownsRow_base (base := W2.heap.size) (ownsRow_keepsB R0.out E9.out.2 fun x h1 _ => by show x ≠ w.heap.size + 1; omega) (by omega)
end Go.Proofs.YthdnlndpmmiboaaGreatDoor
namespace Go.Proofs.YthdnlndpmmiboaaGreatDoor
open Go Go.RowKit Go.Shelf Go.Maps

structure NF where
  sets : List BS
  fol : List (List Int)
  fst : List Int
  lst : List Int
  emp : Bool
/-- What stands before place k. -/
def prevG (low : Int) (l : List Int) (k : Nat) : Int := if k = 0 then low - 1 else l.getD (k - 1) 0
def risGAt (low high : Int) (l : List Int) (k : Nat) : Bool := decide (prevG low l k < l.getD k 0) && decide (l.getD k 0 ≤ high)
/-- Rising numbers from low up to high. -/
def risG (low high : Int) (l : List Int) : Bool := (List.range l.length).all (risGAt low high l)
theorem prevG_succ {low : Int} {l : List Int} {k : Nat} {x : Int} (hx : l[k]? = some x) : prevG low l (k + 1) = x := by
  unfold prevG
  rw [if_neg (by omega), Nat.add_sub_cancel]
  exact getD_some hx
theorem risGAt_eq {low high : Int} {l : List Int} {k : Nat} {x : Int} (hx : l[k]? = some x) : risGAt low high l k = (decide (prevG low l k < x) && decide (x ≤ high)) := by
  unfold risGAt
  rw [getD_some hx]
theorem risG_no {low high : Int} {l : List Int} {k : Nat} (hk : k < l.length) (h : risGAt low high l k = false) : risG low high l = false := by
  unfold risG
  rw [List.all_eq_false]
  exact ⟨k, List.mem_range.2 hk, by rw [h]; decide⟩
theorem risG_yes {low high : Int} {l : List Int} (h : ∀ k, k < l.length → risGAt low high l k = true) : risG low high l = true := by
  unfold risG
  rw [List.all_eq_true]
  exact fun k hk => h k (List.mem_range.1 hk)
theorem risG_at {low high : Int} {l : List Int} (h : risG low high l = true) {k : Nat} (hk : k < l.length) : risGAt low high l k = true := by
  unfold risG at h
  rw [List.all_eq_true] at h
  exact h k (List.mem_range.2 hk)
theorem risG_pair {low high : Int} {l : List Int} (h : risG low high l = true) : l.Pairwise (· < ·) ∧ ∀ x ∈ l, low ≤ x ∧ x ≤ high := by
  have hs : ∀ k, k + 1 < l.length → l.getD k 0 < l.getD (k + 1) 0 := fun k hk => by
    have h1 := risG_at h hk
    unfold risGAt prevG at h1
    simp only [Bool.and_eq_true, decide_eq_true_eq] at h1
    rw [if_neg (by omega), Nat.add_sub_cancel] at h1
    exact h1.1
  have hm : ∀ i j, i < j → j < l.length → l.getD i 0 < l.getD j 0 := by
    intro i j hij
    induction j with
    | zero => omega
    | succ j ih =>
      intro hj
      rcases Nat.lt_or_ge i j with h1 | h1
      · have := ih h1 (by omega); have := hs j hj; omega
      · obtain rfl : i = j := by omega
        exact hs i hj
  refine ⟨?_, fun x hx => ?_⟩
  · rw [List.pairwise_iff_getElem]
    intro i j hi hj hij
    have := hm i j hij hj
    simpa [List.getD_eq_getElem?_getD, List.getElem?_eq_getElem hi, List.getElem?_eq_getElem hj] using this
  · obtain ⟨k, hk⟩ := List.getElem?_of_mem hx
    have hkl := (List.getElem?_eq_some_iff.1 hk).1
    have h1 := risG_at h hkl
    rw [risGAt_eq hk] at h1
    simp only [Bool.and_eq_true, decide_eq_true_eq] at h1
    refine ⟨?_, h1.2⟩
    have h0 := risG_at h (show 0 < l.length by omega)
    unfold risGAt prevG at h0
    simp only [Bool.and_eq_true, decide_eq_true_eq, if_true] at h0
    have e : l.getD k 0 = x := getD_some hk
    rcases Nat.eq_zero_or_pos k with h2 | h2
    · subst h2; omega
    · have := hm 0 k h2 hkl; omega
theorem risG_of {low high : Int} {l : List Int} (h : l.Pairwise (· < ·)) (hb : ∀ x ∈ l, low ≤ x ∧ x ≤ high) : risG low high l = true := by
  refine risG_yes fun k hk => ?_
  have hx := List.getElem?_eq_getElem hk
  rw [risGAt_eq hx]
  have h1 := hb _ (List.getElem_mem hk)
  simp only [Bool.and_eq_true, decide_eq_true_eq]
  refine ⟨?_, h1.2⟩
  unfold prevG
  split
  · omega
  · rename_i h0
    have h2 := List.pairwise_iff_getElem.1 h (k - 1) k (by omega) hk (by omega)
    rw [List.getD_eq_getElem?_getD, List.getElem?_eq_getElem (show k - 1 < l.length by omega)]
    exact h2

def NF.right (a : NF) : Bool := decide (a.sets.length ≤ 400) && decide (a.fol.length = a.sets.length) && risG 0 ((a.sets.length : Int) - 1) a.fst && risG 0 ((a.sets.length : Int) - 1) a.lst && (List.range a.sets.length).all fun p => risG 0 ((a.sets.length : Int) - 1) (a.fol.getD p []) && (a.sets.getD p 0 != 0)
structure Nt (a : NF) : Prop where
  le : a.sets.length ≤ 400
  fol : a.fol.length = a.sets.length
  fst : risG 0 ((a.sets.length : Int) - 1) a.fst = true
  lst : risG 0 ((a.sets.length : Int) - 1) a.lst = true
  row : ∀ p, p < a.sets.length → risG 0 ((a.sets.length : Int) - 1) (a.fol.getD p []) = true
  ne : ∀ p, p < a.sets.length → a.sets.getD p 0 ≠ 0
theorem nright_iff (a : NF) : a.right = true ↔ Nt a := by
  unfold NF.right
  simp only [Bool.and_eq_true, decide_eq_true_eq, List.all_eq_true, List.mem_range, bne_iff_ne]
  constructor
  · rintro ⟨⟨⟨⟨h1, h2⟩, h3⟩, h4⟩, h5⟩
    exact ⟨h1, h2, h3, h4, fun p hp => (h5 p hp).1, fun p hp => (h5 p hp).2⟩
  · rintro ⟨h1, h2, h3, h4, h5, h6⟩
    exact ⟨⟨⟨⟨h1, h2⟩, h3⟩, h4⟩, fun p hp => ⟨h5 p hp, h6 p hp⟩⟩
/-- A state set. -/
def NF.st (a : NF) (l : List Int) : Bool := risG (-1) ((a.sets.length : Int) - 1) l
/-- Where one is led to from p. -/
def NF.frm (a : NF) (p : Int) : List Int := if p = -1 then a.fst else a.fol.getD p.toNat []
def NF.hit (a : NF) (l : List Int) (c q : Nat) : Bool := l.any fun p => (a.frm p).contains (q : Int) && (a.sets.getD q 0).getLsbD c
def NF.step (a : NF) (l : List Int) (c : Nat) : List Int := ((List.range a.sets.length).filter (a.hit l c)).map Int.ofNat
def NF.accP (a : NF) (p : Int) : Bool := if p = -1 then a.emp else a.lst.contains p
def NF.acc (a : NF) (l : List Int) : Bool := l.any a.accP
theorem range_rises (n : Nat) (f : Nat → Bool) : (((List.range n).filter f).map Int.ofNat).Pairwise (· < ·) := by
  rw [List.pairwise_map]
  exact (List.pairwise_lt_range.filter _).imp fun h => Int.ofNat_lt.2 h
theorem NF.step_ris (a : NF) (l : List Int) (c : Nat) : risG 0 ((a.sets.length : Int) - 1) (a.step l c) = true := by
  refine risG_of (range_rises _ _) fun x hx => ?_
  obtain ⟨q, hq, rfl⟩ := List.mem_map.1 hx
  have := List.mem_range.1 (List.mem_filter.1 hq).1
  show (0 : Int) ≤ (q : Int) ∧ (q : Int) ≤ _
  omega
theorem risG_cons {high : Int} {l : List Int} (hh : -1 ≤ high) (h : risG 0 high l = true) : risG (-1) high (-1 :: l) = true := by
  obtain ⟨h1, h2⟩ := risG_pair h
  refine risG_of (List.pairwise_cons.2 ⟨fun x hx => ?_, h1⟩) fun x hx => ?_
  · have := h2 x hx; omega
  · rcases List.mem_cons.1 hx with rfl | hx
    · omega
    · have := h2 x hx; omega
theorem risG_low {low low' high : Int} {l : List Int} (hh : low' ≤ low) (h : risG low high l = true) : risG low' high l = true := by
  obtain ⟨h1, h2⟩ := risG_pair h
  exact risG_of h1 fun x hx => by have := h2 x hx; omega

/-- A part. -/
structure PT where
  nf : NF
  beg : Bool
  mark : Int
def PT.ok (x : PT) : Bool := x.nf.right && decide (0 ≤ x.mark) && decide (x.mark ≤ 255)
def PT.step (x : PT) (l : List Int) (c : Nat) : List Int := if x.beg then x.nf.step l c else -1 :: x.nf.step l c
def stepR (ps : List PT) (row : List (List Int)) (c : Nat) : List (List Int) := List.zipWith (fun x l => x.step l c) ps row
def marksR (ps : List PT) (row : List (List Int)) : List Int := ((List.range 256).filter fun (m : Nat) => (List.zip ps row).any fun y => y.1.nf.acc y.2 && (y.1.mark == (m : Int))).map Int.ofNat
def row0 (ps : List PT) : List (List Int) := ps.map fun _ => [-1]
def allSets (ps : List PT) : List BS := ps.flatMap fun x => x.nf.sets
def ofSt (ps : List PT) (fuel : Nat) : Option (List (List (List Int)) × List (List Nat)) :=
  if fuel = 0 then none else stTo fuel (fun row k => stepR ps row (lb (partsOf (allSets ps)) k)) (partsOf (allSets ps)).length (row0 ps) fuel
def ofE (ps : List PT) (fuel : Int) : DF × Int :=
  if 64 < ps.length then (⟨[], [], []⟩, 5) else if (ps.all PT.ok) = false then (⟨[], [], []⟩, 180) else if fuel < 0 ∨ 4000 < fuel then (⟨[], [], []⟩, 2) else
  match ofSt ps fuel.toNat with
  | none => (⟨[], [], []⟩, 181)
  | some st => (⟨partsOf (allSets ps), st.2.map fun r => r.map Int.ofNat, st.1.map (marksR ps)⟩, 0)
/-- A row of state sets, one for each part. -/
def RowIn (ps : List PT) (row : List (List Int)) : Prop := row.length = ps.length ∧ ∀ (i : Nat) (x : PT) (l : List Int), ps[i]? = some x → row[i]? = some l → x.nf.st l = true
theorem row0_in (ps : List PT) : RowIn ps (row0 ps) := by
  refine ⟨by simp [row0], fun i x l hx hl => ?_⟩
  unfold row0 at hl
  rw [List.getElem?_map, hx] at hl
  cases hl
  unfold NF.st
  exact risG_of (by simp) fun y hy => by simp at hy; omega
theorem stepR_in {ps : List PT} {row : List (List Int)} (h : RowIn ps row) (c : Nat) : RowIn ps (stepR ps row c) := by
  refine ⟨by simp [stepR, h.1], fun i x l hx hl => ?_⟩
  have hi := (List.getElem?_eq_some_iff.1 hx).1
  unfold stepR at hl
  rw [List.getElem?_zipWith, hx, List.getElem?_eq_getElem (by rw [h.1]; exact hi)] at hl
  cases hl
  unfold PT.step NF.st
  have hr := x.nf.step_ris (row[i]'(by rw [h.1]; exact hi)) c
  split
  · exact risG_low (by omega) hr
  · exact risG_cons (by omega) hr
theorem marksR_ris (ps : List PT) (row : List (List Int)) : risB (marksR ps row) = true := by
  have h : risG 0 255 (marksR ps row) = true := by
    refine risG_of (range_rises _ _) fun x hx => ?_
    obtain ⟨q, hq, rfl⟩ := List.mem_map.1 hx
    have := List.mem_range.1 (List.mem_filter.1 hq).1
    show (0 : Int) ≤ (q : Int) ∧ (q : Int) ≤ _
    omega
  have e : risB (marksR ps row) = risG 0 255 (marksR ps row) := rfl
  rw [e]; exact h
end Go.Proofs.YthdnlndpmmiboaaGreatDoor
