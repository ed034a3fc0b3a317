/-
  The law's theirs once more: what it makes is its own. And what an automaton's own blocks are not.
-/
import Derived.Test.YtiegfnmpknmbmaaGreatK18
import Derived.Test.YtiegfnmpknmbmaaGreatK41
namespace Go.Proofs.YtiegfnmpknmbmaaGreat
open Go Go.RowKit Go.Shelf Go.Maps

/-- The reference's automaton, in memory of its own. -/
def OwnRf (base : Nat) (w : World) (v : Value) (d : DF) : Prop := ∃ v0 v1 v2, v = .agg #[v0, v1, v2] ∧ w.ownsRow base 75 256 v0 (d.cl.map refS).length (flatA (d.cl.map refS)) ∧ OwnLL base w v1 d.nx ∧ OwnLL base w v2 d.mr
theorem OwnRf.rf {base : Nat} {w : World} {v : Value} {d : DF} (h : OwnRf base w v d) : IsRf w v d := by
  obtain ⟨v0, v1, v2, e, h0, h1, h2⟩ := h
  exact ⟨v0, v1, v2, e, ownsRow_arrs h0, h1.ll, h2.ll⟩
theorem OwnRf.below {base : Nat} {w w' : World} {v : Value} {d : DF} (h : OwnRf base w v d) (hk : Below w.heap.size w w') : OwnRf base w' v d := by
  obtain ⟨v0, v1, v2, e, h0, h1, h2⟩ := h
  exact ⟨v0, v1, v2, e, ownsRow_below h0 hk, h1.below hk, h2.below hk⟩
theorem OwnRf.base {base base' : Nat} {w : World} {v : Value} {d : DF} (h : OwnRf base w v d) (hb : base' ≤ base) : OwnRf base' w v d := by
  obtain ⟨v0, v1, v2, e, h0, h1, h2⟩ := h
  exact ⟨v0, v1, v2, e, ownsRow_base h0 hb, h1.base hb, h2.base hb⟩
theorem OwnRf.keeps {base : Nat} {w w' : World} {v : Value} {d : DF} (h : OwnRf base w v d) {R : Nat → Prop} (hk : Keeps R w w') (hr : ∀ k, base ≤ k → k < w.heap.size → R k) : OwnRf base w' v d := by
  obtain ⟨v0, v1, v2, e, h0, h1, h2⟩ := h
  exact ⟨v0, v1, v2, e, ownsRow_keepsB h0 hk hr, h1.keeps hk hr, h2.keeps hk hr⟩
theorem OwnRf.form {base : Nat} {w : World} {v : Value} {d : DF} (h : OwnRf base w v d) : ∃ a0 c0 a1 c1 a2 c2, v = .agg #[.slice a0 d.cl.length c0, .slice a1 d.nx.length c1, .slice a2 d.mr.length c2] := by
  obtain ⟨v0, v1, v2, rfl, h0, h1, h2⟩ := h
  rw [List.length_map] at h0
  obtain ⟨a0, c0, rfl⟩ := ownsRow_form h0
  obtain ⟨a1, c1, rfl⟩ := h1.form
  obtain ⟨a2, c2, rfl⟩ := h2.form
  exact ⟨_, _, _, _, _, _, rfl⟩
theorem OwnDf.form {base : Nat} {w : World} {v : Value} {d : DF} (h : OwnDf base w v d) : ∃ a0 c0 a1 c1 a2 c2, v = .agg #[.slice a0 d.cl.length c0, .slice a1 d.nx.length c1, .slice a2 d.mr.length c2] := by
  obtain ⟨v0, v1, v2, rfl, h0, h1, h2⟩ := h
  obtain ⟨a0, c0, rfl⟩ := ownsRow_form h0
  obtain ⟨a1, c1, rfl⟩ := h1.form
  obtain ⟨a2, c2, rfl⟩ := h2.form
  exact ⟨_, _, _, _, _, _, rfl⟩
/-- A row's block is no block of another type. -/
theorem row_ne {w : World} {b base size n : Nat} {c : Array Value} {t e : TypeId} {v : Value} {xs : List Value} (h : Blk w b c t) (ho : w.ownsRow base e size v n xs) (hne : t ≠ e) : ∀ x, v.ownBlock = some x → x ≠ b := fun x hx e2 => by
  subst e2
  rcases ho.2 with ⟨h1, _⟩ | ⟨g', c', cur, h1, _, h3, _⟩
  · rw [h1] at hx; cases hx
  · subst h1
    have hg : g' = x := by simpa [Value.ownBlock] using hx
    subst hg
    have h4 : w.heap[g']? = some (.cells c t (0, 0)) := h
    rw [h3] at h4
    injection h4 with h4
    injection h4 with _ h5 _
    exact hne h5.symm
theorem row_past {w w' : World} {b base size n : Nat} {c : Array Value} {t e : TypeId} {v : Value} {xs : List Value} (h : Blk w b c t) (ho : w.ownsRow base e size v n xs) (hne : t ≠ e) (hk : Keeps (· ≠ b) w w') : w'.ownsRow base e size v n xs := ownsRow_keeps ho hk fun x hx => row_ne h ho hne x hx
theorem OwnLL.past {w w' : World} {b base : Nat} {c : Array Value} {t : TypeId} {v : Value} {ll : List (List Int)} (h : Blk w b c t) (ho : OwnLL base w v ll) (h1 : t ≠ 36) (h2 : t ≠ 3) (hk : Keeps (· ≠ b) w w') : OwnLL base w' v ll := by
  obtain ⟨us, e, o1, o2⟩ := ho
  exact ⟨us, e, row_past h o1 h1 hk, fun i u l hu hl => row_past h (o2 i u l hu hl) h2 hk⟩
theorem OwnDf.past {w w' : World} {b base : Nat} {c : Array Value} {t : TypeId} {v : Value} {d : DF} (h : Blk w b c t) (ho : OwnDf base w v d) (h0 : t ≠ 33) (h1 : t ≠ 36) (h2 : t ≠ 3) (hk : Keeps (· ≠ b) w w') : OwnDf base w' v d := by
  obtain ⟨v0, v1, v2, e, o0, o1, o2⟩ := ho
  exact ⟨v0, v1, v2, e, row_past h o0 h0 hk, o1.past h h1 h2 hk, o2.past h h1 h2 hk⟩
theorem OwnRf.past {w w' : World} {b base : Nat} {c : Array Value} {t : TypeId} {v : Value} {d : DF} (h : Blk w b c t) (ho : OwnRf base w v d) (h0 : t ≠ 75) (h1 : t ≠ 36) (h2 : t ≠ 3) (hk : Keeps (· ≠ b) w w') : OwnRf base w' v d := by
  obtain ⟨v0, v1, v2, e, o0, o1, o2⟩ := ho
  exact ⟨v0, v1, v2, e, row_past h o0 h0 hk, o1.past h h1 h2 hk, o2.past h h1 h2 hk⟩
theorem blk_ne {w : World} {b b2 : Nat} {c c2 : Array Value} {t t2 : TypeId} (h : Blk w b c t) (h2 : Blk w b2 c2 t2) (hne : t ≠ t2) : b ≠ b2 := fun e => by
  subst e
  have h3 : w.heap[b]? = some (.cells c t (0, 0)) := h
  have h4 : w.heap[b]? = some (.cells c2 t2 (0, 0)) := h2
  rw [h3] at h4
  injection h4 with h4
  injection h4 with _ h5 _
  exact hne h5

set_option maxRecDepth 100000 in
set_option maxHeartbeats 4000000 in
theorem theirsOE_any (v : Value) (d : DF) (w : World) (h : IsDfe w v d) (sm : Sm d) :
    Calls Tryz.prog 15 #[v] w fun e w' => ∃ u, e = .returned u ∧ OwnRf w.heap.size w' u d ∧ Below w.heap.size w w' := by
  obtain ⟨i0, hi, hz0, hz1, hz2⟩ := info_parts Tryz.infoA
  obtain ⟨iL, hiL, hzL0, hzL1, hzL2⟩ := info_parts Tryz.infoL
  obtain ⟨v0, v1, v2, rfl, h0, h1, h2⟩ := h
  obtain ⟨a0, c0, rfl⟩ := h0.1.form
  obtain ⟨a1, c1, rfl⟩ := h1.form
  obtain ⟨a2, c2, rfl⟩ := h2.form
  have SM := Lib.hid sm
  have H0 := Lib.hid h0.1
  have H1 := Lib.hid h1
  have H2 := Lib.hid h2
  have HW := Lib.hid fun s W => refWords_any s W
  clear h0 h1 h2 sm
  obtain ⟨n0, hn0⟩ : ∃ n, n = d.cl.length := ⟨_, rfl⟩
  obtain ⟨n1, hn1⟩ : ∃ n, n = d.nx.length := ⟨_, rfl⟩
  obtain ⟨n2, hn2⟩ : ∃ n, n = d.mr.length := ⟨_, rfl⟩
  have m0 : n0 ≤ 1000000 := by rw [hn0]; exact SM.out.cl
  have m1 : n1 ≤ 1000000 := by rw [hn1]; exact SM.out.nx
  have m2 : n2 ≤ 1000000 := by rw [hn2]; exact SM.out.mr
  rw [← hn0] at H0 ⊢
  rw [← hn1] at H1 ⊢
  rw [← hn2] at H2 ⊢
  have HN0 := Lib.hid hn0
  have HN1 := Lib.hid hn1
  have HN2 := Lib.hid hn2
  clear hn0 hn1 hn2
  go_enter Tryz.func15, Tryz.ntmps15
  go_wp2
  refine wp_named ?_
  intro V hV
  have B1 : Hid (Blk V w.heap.size #[.slice a0 n0 c0, .slice a1 n1 c1, .slice a2 n2 c2] 25) := by rw [hV]; exact ((Blk.new w _ _).alloc _).alloc _
  have B2 : Hid (Blk V (w.heap.size + 1) #[.slice none 0 0, .slice none 0 0, .slice none 0 0] 42) := by rw [hV]; exact ((Blk.new (w.alloc _) _ _).at (by simp)).alloc _
  have B3 : Hid (Blk V (w.heap.size + 1 + 1) #[.slice none 0 0, .slice none 0 0, .slice none 0 0] 42) := by rw [hV]; exact (Blk.new ((w.alloc _).alloc _) _ _).at (by simp)
  have HX : Hid (Below w.heap.size w V) := by rw [hV]; exact ((((Ext.refl w).alloc _).alloc _).alloc _).below
  have HVW : Hid (w.heap.size ≤ V.heap.size) := Lib.hid HX.out.size
  clear hV
  have b0 := B1.out.cell 0
  simp only [List.getElem?_toArray, List.getElem?_cons_zero] at b0
  go_wp2
  clear b0
  go_loopw [13] (fun i wr => ∃ (k : Nat) (u : Value), k ≤ n0 ∧ i = .int .i64 k ∧ Blk wr (w.heap.size + 1 + 1) #[u, .slice none 0 0, .slice none 0 0] 42 ∧ wr.ownsRow V.heap.size 75 256 u ((d.cl.take k).map refS).length (flatA ((d.cl.take k).map refS)) ∧ Keeps (fun x => x < V.heap.size ∧ x ≠ w.heap.size + 1 + 1) V wr) (fun i _ => n0 - (intOf i).toNat)
  case atStart => exact ⟨0, _, by omega, rfl, B3.out, World.ownsRow_nil _ _ _ _, Keeps.refl _ _⟩
  case round =>
    obtain ⟨k, u, hk, rfl, hb, ho, hx⟩ := hrel
    obtain ⟨wo, rfl⟩ : ∃ wo : World, wo = wr := ⟨_, rfl⟩
    have C1 := Lib.hid (B1.out.keeps hx ⟨B1.out.lt, by omega⟩)
    by_cases hlt : k < n0
    · obtain ⟨s, hs⟩ : ∃ s, d.cl[k]? = some s := ⟨_, List.getElem?_eq_getElem (by have := HN0.out; omega)⟩
      have hXw : Below w.heap.size w wo := HX.out.trans (hx.mono fun x hx' => ⟨Nat.lt_of_lt_of_le hx' HX.out.size, by have : x < w.heap.size := hx'; omega⟩ : Keeps (· < w.heap.size) V wo).below
      obtain ⟨bb, off, rfl, hbb, d0, d1, d2, d3⟩ := (H0.out.below hXw).elem hs
      have hlen : ((d.cl.take k).map refS).length ≤ 1000000 := by rw [List.length_map, List.length_take]; omega
      have htk : (d.cl.take (k + 1)).map refS = (d.cl.take k).map refS ++ [refS s] := by rw [List.take_add_one, hs]; simp
      have hki : (k : Int) < n0 := by omega
      obtain ⟨ml, hml⟩ : ∃ m, m = ((d.cl.take k).map refS).length := ⟨_, rfl⟩
      rw [← hml] at ho hlen
      have HML := Lib.hid hml
      clear hml
      obtain ⟨ua, uc, rfl⟩ := ownsRow_form ho
      have HO := Lib.hid ho
      have HK := Lib.hid hx
      have HT := Lib.hid htk
      have HB := Lib.hid hb
      clear hs ho hx htk hb hXw
      generalize (d.cl.take k).map refS = xs at HO HML HT
      go_wp2
      refine wp_named ?_
      intro V2 hV2
      have S2 : Hid (Blk V2 wo.heap.size (encS s) 33) := by rw [hV2]; exact Blk.new _ _ _
      have X2 : Hid (Ext wo V2) := by rw [hV2]; exact (Ext.refl _).alloc _
      have hsz2 : wo.heap.size < V2.heap.size := S2.out.lt
      clear hV2 d0 d1 d2 d3
      refine wp_region_reg false (fun _ => False) (by kernel_rfl) 5 [0, 1, 0, 4, 12, 31, 63, 127] (fun i => i == 3 || i == 4 || i == 5 || i == 7) (by kernel_rfl) (fun i => if i = 3 then Eff.det _ (.agg (aI (refS s))) else if i = 4 then Eff.box 1 (aI (refS s)) 75 else Eff.any _) ?_
      intro C hC hne
      have HC := Lib.hid hC
      have f0 := regCell hC (p := ⟨w.heap.size + 1 + 1, 0, none⟩) (by have := (HB.out.ext X2.out).lt; exact this) (fun h => h) ((HB.out.ext X2.out).cell 0)
      obtain ⟨k0, k1, k2, k3⟩ := regSet hC S2.out
      clear hC
      repeat (refine regStep (fun K hK => ?_); first | (refine regN rfl ?_; try go_simp; refine hK _ _ ?_; clear hK K) | (refine regF rfl rfl ?_; unfold floatAt; go_simp; refine hK _ _ ?_; clear hK K))
      refine regStep (fun K hK => ?_)
      refine regE rfl rfl (Eff.det _ (.agg (aI (refS s)))) rfl (fun W hW hN => ?_) (fun v hv => ?_)
      · have hM := (HC.out W).1 hW
        clear hW
        go_simp
        refine effT_call ((HW.out s _).mono ?_)
        rintro e w2 ⟨rfl, hx⟩
        exact ⟨_, rfl, Move.of_ext hx, rfl, trivial⟩
      replace hv : v = _ := hv
      subst hv
      go_simp
      refine hK _ _ ?_
      clear hK K
      refine regStep (fun K hK => ?_)
      refine regE rfl rfl (Eff.box 1 (aI (refS s)) 75) rfl (fun W hW hN => ?_) (fun v hv => ?_)
      · clear hW hN hK K
        exact effT_build1 40 75 _ rfl Tryz.underlying40 hi hz0 hz1 (by decide) (by decide) (aI (refS s)) rfl (aI_size _) ⟨Move.ext ((Ext.refl _).alloc _), ⟨_, rfl⟩, fun b hb => by cases hb; exact Blk.new _ _ _⟩
      obtain ⟨bx, rfl⟩ := hv
      go_simp
      refine hK _ _ ?_
      clear hK K
      refine regNil (fun W hW hH => ?_)
      have hM := (HC.out W).1 hW
      have hbx : Blk W bx (aI (refS s)) 75 := hH _ (List.mem_cons_self ..) bx rfl
      have hXX : Below wo.heap.size wo W := X2.out.below.trans (hM.below.mono X2.out.size)
      have HBX := Lib.hid hbx
      have YB := Lib.hid (HB.out.below hXX HB.out.lt)
      have YO := Lib.hid (ownsRow_below HO.out hXX)
      have YK := Lib.hid (HK.out.tr (Keeps.of_below hXX fun x hx => Nat.lt_of_lt_of_le hx.1 HK.out.size))
      have hVs : V.heap.size ≤ W.heap.size := Nat.le_trans HK.out.size hXX.size
      have hb3 : w.heap.size + 1 + 1 < V.heap.size := B3.out.lt
      clear hM hW hH hXX f0 k0 k1 k2 k3 HC HB HO HK hbx S2 X2
      go_wp2_with (at_builtin; refine wpList_append_own_at _ rfl _ _ 40 rfl V.heap.size 75 i0 (.agg (aI fun _ => 0)) 256 2048 Tryz.underlying40 hi hz0 hz1 hz2 (aI_size _) (by decide) _ _ _ rfl YO.out ⟨bx, 0, none⟩ 1 1 (aI (refS s)).toList rfl (by rw [Array.length_toList, aI_size]) (news_blk HBX.out) (by intro u hu; exact Array.all_eq_true_iff_forall_mem.1 (aI_one _) u (by simpa using hu)) (by unfold maxLen; omega) (by omega) hVs ?_; intro v' w3 hown' hgrow hh hat; have HO3 := Lib.hid hown'; have HG := Lib.hid hgrow; obtain ⟨ua3, uc3, rfl⟩ := ownsRow_form hown'; have hne : ∀ x, (Value.slice ua ml uc).ownBlock = some x → V.heap.size ≤ x := (fun x e => (YO.out.lt x e).1); have ZB := Lib.hid (YB.out.grown hgrow (fun e => by have := hne _ e.symm; omega)); have ZK := Lib.hid (YK.out.tr (Keeps.of_grown hgrow fun x hx => ⟨Nat.lt_of_lt_of_le hx.1 hVs, fun e => by have := hne x e.symm; omega⟩)); have hsz3 : W.heap.size ≤ w3.heap.size := hgrow.size; obtain ⟨⟨p0, p1, p2⟩, q0, q1, q2⟩ := ZB.out.three; clear hown' hgrow hh hat hne)
      go_roundw
      case rel =>
        refine ⟨k + 1, _, by omega, by go_num, ZB.out.set 0 _, ?_, ZK.out.setCell (p := ⟨w.heap.size + 1 + 1, 0, none⟩) (fun h => h.2 rfl) _⟩
        rw [HT.out, List.length_append, flatA_append, flatA_one, ← HML.out]
        exact ownsRow_keepsB HO3.out ((Keeps.refl (· ≠ w.heap.size + 1 + 1) _).setCell (p := ⟨w.heap.size + 1 + 1, 0, none⟩) (fun h => h rfl) _) (fun x h1 _ e => by omega)
      case measure => simp [intOf]; omega
    · obtain rfl : k = n0 := by omega
      have htk : d.cl.take k = d.cl := by rw [HN0.out]; exact List.take_length
      rw [htk] at ho
      obtain ⟨lx, hlx⟩ : ∃ m, m = (d.cl.map refS).length := ⟨_, rfl⟩
      rw [← hlx] at ho
      have HLX := Lib.hid hlx
      clear hlx
      obtain ⟨ua, uc, rfl⟩ := ownsRow_form ho
      have hXw : Below w.heap.size w wo := HX.out.trans (hx.mono fun x hx' => ⟨Nat.lt_of_lt_of_le hx' HX.out.size, by have : x < w.heap.size := hx'; omega⟩ : Keeps (· < w.heap.size) V wo).below
      have R0 := Lib.hid ho
      have hVb : w.heap.size + 1 + 1 < V.heap.size := B3.out.lt
      have hVo : V.heap.size ≤ wo.heap.size := hx.size
      have XA := Lib.hid hXw
      have CB := Lib.hid hb
      have C2 := Lib.hid (B2.out.keeps hx ⟨B2.out.lt, by omega⟩)
      clear ho hb hx htk hXw B1 B2 B3 HX H0 HW hlt hk

      have b1 := C1.out.cell 1
      simp only [List.getElem?_toArray, List.getElem?_cons_zero, List.getElem?_cons_succ] at b1
      have hbV : w.heap.size + 1 + 1 < wo.heap.size := CB.out.lt
      go_wp2
      clear b1
      go_loopw [28] (fun i wr => ∃ (kk : Nat) (u : Value), kk ≤ n1 ∧ i = .int .i64 kk ∧ Blk wr (w.heap.size + 1 + 1) #[.slice ua lx uc, u, .slice none 0 0] 42 ∧ OwnLL wo.heap.size wr u (d.nx.take kk) ∧ Keeps (fun x => x < wo.heap.size ∧ x ≠ w.heap.size + 1 + 1) wo wr) (fun i _ => n1 - (intOf i).toNat)
      case atStart => exact ⟨0, _, by omega, rfl, CB.out, OwnLL.nil _ _, Keeps.refl _ _⟩
      case round =>
        obtain ⟨kk, u, hk, rfl, hb, ho, hx⟩ := hrel
        obtain ⟨w5, rfl⟩ : ∃ w5 : World, w5 = wr := ⟨_, rfl⟩
        have D1 := Lib.hid (C1.out.keeps hx ⟨C1.out.lt, by omega⟩)
        have hXw : Below w.heap.size w w5 := XA.out.trans (hx.mono fun x hx' => ⟨Nat.lt_of_lt_of_le hx' XA.out.size, by have : x < w.heap.size := hx'; omega⟩ : Keeps (· < w.heap.size) wo w5).below
        by_cases hlt : kk < n1
        · obtain ⟨l, hl⟩ : ∃ l, d.nx[kk]? = some l := ⟨_, List.getElem?_eq_getElem (by have := HN1.out; omega)⟩
          obtain ⟨g1, o1, e1, k1, rfl, hg1, x1, y1⟩ := (H1.out.below hXw).elem hl
          have hll := SM.out.nxs l (List.mem_of_getElem? hl)
          have htk : d.nx.take (kk + 1) = d.nx.take kk ++ [l] := by rw [List.take_add_one, hl]; rfl
          have hlen : (d.nx.take kk).length ≤ 1000000 := by rw [List.length_take]; omega
          have hki : (kk : Int) < n1 := by omega
          obtain ⟨us, u1, u2, u3⟩ := ho
          obtain ⟨ml, hml⟩ : ∃ m, m = us.length := ⟨_, rfl⟩
          have hmm : ml ≤ 1000000 := by omega
          obtain ⟨j, hj⟩ : ∃ j, j = l.length := ⟨_, rfl⟩
          rw [← hj] at x1 y1 hll
          rw [← hml] at u1 u2
          have HM := Lib.hid hml
          have HJ := Lib.hid hj
          obtain ⟨ua5, uc5, rfl⟩ := ownsRow_form u2
          have U2 := Lib.hid u2
          have U3 := Lib.hid u3
          have U1 := Lib.hid u1
          have HB := Lib.hid hb
          have HK := Lib.hid hx
          have HT := Lib.hid htk
          have Y1 := Lib.hid y1
          have HXW := Lib.hid hXw
          clear hl hb hx htk hXw u1 u2 u3 hml hj y1 hlen
          go_wp2
          refine wp_region_reg false (fun _ => False) (by kernel_rfl) 5 [0, 1, 0, 4, 12, 31, 63, 127] (fun i => i == 3 || i == 4 || i == 5 || i == 7) (by kernel_rfl) (fun i => if i = 3 then Eff.row wo.heap.size 3 1 j (l.map encZ) else if i = 4 then Eff.headRow wo.heap.size j (l.map encZ) else Eff.any _) ?_
          intro C hC hne
          have HC := Lib.hid hC
          have f0 := regCell hC (p := ⟨w.heap.size + 1 + 1, 1, none⟩) (by have := HB.out.lt; exact this) (fun h => h) (HB.out.cell 1)
          clear hC x1
          repeat (refine regStep (fun K hK => ?_); first | (refine regN rfl ?_; try go_simp; refine hK _ _ ?_; clear hK K) | (refine regF rfl rfl ?_; unfold floatAt; go_simp; refine hK _ _ ?_; clear hK K))
          refine regStep (fun K hK => ?_)
          refine regE rfl rfl (Eff.row wo.heap.size 3 1 j (l.map encZ)) rfl (fun W hW hN => ?_) (fun v hv => ?_)
          · have hM := (HC.out W).1 hW
            clear hW
            go_simp
            refine effT_call ((cloneIntsE_any _ l _ (Y1.out.below hM.below) (by rw [← HJ.out]; exact hll)).mono ?_)
            rintro e w2 ⟨vp, rfl, ho, hx⟩
            exact ⟨_, rfl, Move.of_below hx, (by rw [HJ.out]; exact ownsRow_form ho), (by rw [HJ.out]; exact ownsRow_base ho (Nat.le_trans HK.out.size hM.size))⟩
          obtain ⟨a6, c6, rfl⟩ := hv
          go_simp
          refine hK _ _ ?_
          clear hK K
          refine regStep (fun K hK => ?_)
          refine regE rfl rfl (Eff.headRow wo.heap.size j (l.map encZ)) rfl (fun W hW hN => ?_) (fun v hv => ?_)
          · have hro : W.ownsRow wo.heap.size 3 1 (.slice a6 j c6) j (l.map encZ) := hN.at 0 rfl (by kernel_rfl)
            have HRO := Lib.hid hro
            clear hW hN hK K hro
            go_simp
            exact ⟨Move.ext ((Ext.refl _).alloc _), ⟨_, rfl⟩, fun b hb => by cases hb; exact ⟨_, Blk.new _ _ _, HRO.out.alloc _⟩⟩
          obtain ⟨bx, rfl⟩ := hv
          go_simp
          refine hK _ _ ?_
          clear hK K
          refine regNil (fun W hW hH => ?_)
          have hM := (HC.out W).1 hW
          obtain ⟨ux, hbx, hux⟩ : ∃ ux, Blk W bx #[ux] 36 ∧ W.ownsRow wo.heap.size 3 1 ux j (l.map encZ) := hH _ (List.mem_cons_self ..) bx rfl
          obtain ⟨a7, c7, rfl⟩ := ownsRow_form hux
          have HBX := Lib.hid hbx
          have HUX := Lib.hid hux
          have YB := Lib.hid (HB.out.below hM.below HB.out.lt)
          have YO := Lib.hid (ownsRow_below U2.out hM.below)
          have Y3 := Lib.hid fun i u l hu hl => ownsRow_below (U3.out i u l hu hl) hM.below
          have YK := Lib.hid (HK.out.tr (Keeps.of_below hM.below fun x hx => Nat.lt_of_lt_of_le hx.1 HK.out.size))
          have hVs : wo.heap.size ≤ W.heap.size := Nat.le_trans HK.out.size hM.size
          clear hM hW hH f0 HC HB HK hbx hux U2 U3 HXW
          go_wp2_with (at_builtin; refine wpList_append_own_at _ rfl _ _ 23 rfl wo.heap.size 36 iL (.slice none 0 0) 1 24 Tryz.underlying23 hiL hzL0 hzL1 hzL2 rfl (by decide) _ _ _ rfl YO.out ⟨bx, 0, none⟩ 1 1 [.slice a7 j c7] rfl rfl HBX.out.news1 (by simp [Value.oneCell']) (by unfold maxLen; omega) (by omega) hVs ?_; intro v' w3 hown' hgrow hh hat; have HO3 := Lib.hid hown'; have HG := Lib.hid hgrow; obtain ⟨ua3, uc3, rfl⟩ := ownsRow_form hown'; have hne : ∀ x, (Value.slice ua5 ml uc5).ownBlock = some x → wo.heap.size ≤ x := (fun x e => (YO.out.lt x e).1); have ZB := Lib.hid (YB.out.grown hgrow (fun e => by have := hne _ e.symm; omega)); have ZK := Lib.hid (YK.out.tr (Keeps.of_grown hgrow fun x hx => ⟨Nat.lt_of_lt_of_le hx.1 hVs, fun e => by have := hne x e.symm; omega⟩)); have hsz3 : W.heap.size ≤ w3.heap.size := hgrow.size; obtain ⟨⟨p0, p1, p2⟩, q0, q1, q2⟩ := ZB.out.three; clear hown' hgrow hh hat hne)
          go_roundw
          case rel =>
            refine ⟨kk + 1, _, by omega, by go_num, ZB.out.set 1 _, ?_, ZK.out.setCell (p := ⟨w.heap.size + 1 + 1, 1, none⟩) (fun h => h.2 rfl) _⟩
            have hs : OwnLL wo.heap.size w3 (.slice ua3 (ml + 1) uc3) (d.nx.take kk ++ [l]) := OwnLL.snoc (w := W) (v := .slice ua5 ml uc5) (us := us) (u := .slice a7 j c7) (by rw [← HM.out]; exact U1.out) (by rw [← HM.out]; exact YO.out) (fun i u l hu hl => Y3.out i u l hu hl) (by rw [← HJ.out]; exact HUX.out) HG.out (by rw [← HM.out]; exact HO3.out)
            rw [HT.out]
            exact hs.keeps ((Keeps.refl (· ≠ w.heap.size + 1 + 1) _).setCell (p := ⟨w.heap.size + 1 + 1, 1, none⟩) (fun h => h rfl) _) (fun x h1 _ e => by omega)
          case measure => simp [intOf]; omega
        · obtain rfl : kk = n1 := by omega
          have htk : d.nx.take kk = d.nx := by rw [HN1.out]; exact List.take_length
          rw [htk] at ho
          obtain ⟨ua1, uc1, hua1⟩ := ho.form
          rw [← HN1.out] at hua1
          subst hua1
          have R1 := Lib.hid ho
          have R5S := Lib.hid (Nat.le_trans hVo hx.size)
          have HVO := Lib.hid hVo
          have R0' := Lib.hid (ownsRow_keepsB R0.out hx fun x h1 h2 => ⟨h2, by omega⟩)
          have XA' := Lib.hid hXw
          have CB' := Lib.hid hb
          have C2' := Lib.hid (C2.out.keeps hx ⟨C2.out.lt, by omega⟩)
          clear ho hb hx htk hXw C1 C2 CB R0 XA H1 hlt
          obtain ⟨C1, C2, CB, R0, XA⟩ : Hid _ ∧ Hid _ ∧ Hid _ ∧ Hid _ ∧ Hid _ := ⟨D1, C2', CB', R0', XA'⟩
          clear D1 C2' CB' R0' XA'
          have b2 := C1.out.cell 2
          simp only [List.getElem?_toArray, List.getElem?_cons_zero, List.getElem?_cons_succ] at b2
          have hbV : w.heap.size + 1 + 1 < w5.heap.size := CB.out.lt
          go_wp2
          clear b2
          go_loopw [43] (fun i wr => ∃ (k : Nat) (u : Value), k ≤ n2 ∧ i = .int .i64 k ∧ Blk wr (w.heap.size + 1 + 1) #[.slice ua lx uc, .slice ua1 kk uc1, u] 42 ∧ OwnLL w5.heap.size wr u (d.mr.take k) ∧ Keeps (fun x => x < w5.heap.size ∧ x ≠ w.heap.size + 1 + 1) w5 wr) (fun i _ => n2 - (intOf i).toNat)
          case atStart => exact ⟨0, _, by omega, rfl, CB.out, OwnLL.nil _ _, Keeps.refl _ _⟩
          case round =>
            obtain ⟨k, u, hk, rfl, hb, ho, hx⟩ := hrel
            obtain ⟨w6, rfl⟩ : ∃ w6 : World, w6 = wr := ⟨_, rfl⟩
            have D1 := Lib.hid (C1.out.keeps hx ⟨C1.out.lt, by omega⟩)
            have hXw : Below w.heap.size w w6 := XA.out.trans (hx.mono fun x hx' => ⟨Nat.lt_of_lt_of_le hx' XA.out.size, by have : x < w.heap.size := hx'; omega⟩ : Keeps (· < w.heap.size) w5 w6).below
            by_cases hlt : k < n2
            · obtain ⟨l, hl⟩ : ∃ l, d.mr[k]? = some l := ⟨_, List.getElem?_eq_getElem (by have := HN2.out; omega)⟩
              obtain ⟨g1, o1, e1, k1, rfl, hg1, x1, y1⟩ := (H2.out.below hXw).elem hl
              have hll := SM.out.mks l (List.mem_of_getElem? hl)
              have htk : d.mr.take (k + 1) = d.mr.take k ++ [l] := by rw [List.take_add_one, hl]; rfl
              have hlen : (d.mr.take k).length ≤ 1000000 := by rw [List.length_take]; omega
              have hki : (k : Int) < n2 := by omega
              obtain ⟨us, u1, u2, u3⟩ := ho
              obtain ⟨ml, hml⟩ : ∃ m, m = us.length := ⟨_, rfl⟩
              have hmm : ml ≤ 1000000 := by omega
              obtain ⟨j, hj⟩ : ∃ j, j = l.length := ⟨_, rfl⟩
              rw [← hj] at x1 y1 hll
              rw [← hml] at u1 u2
              have HM := Lib.hid hml
              have HJ := Lib.hid hj
              obtain ⟨ua5, uc5, rfl⟩ := ownsRow_form u2
              have U2 := Lib.hid u2
              have U3 := Lib.hid u3
              have U1 := Lib.hid u1
              have HB := Lib.hid hb
              have HK := Lib.hid hx
              have HT := Lib.hid htk
              have Y1 := Lib.hid y1
              have HXW := Lib.hid hXw
              clear hl hb hx htk hXw u1 u2 u3 hml hj y1 hlen
              go_wp2
              refine wp_region_reg false (fun _ => False) (by kernel_rfl) 5 [0, 1, 0, 4, 12, 31, 63, 127] (fun i => i == 3 || i == 4 || i == 5 || i == 7) (by kernel_rfl) (fun i => if i = 3 then Eff.row w5.heap.size 3 1 j (l.map encZ) else if i = 4 then Eff.headRow w5.heap.size j (l.map encZ) else Eff.any _) ?_
              intro C hC hne
              have HC := Lib.hid hC
              have f0 := regCell hC (p := ⟨w.heap.size + 1 + 1, 2, none⟩) (by have := HB.out.lt; exact this) (fun h => h) (HB.out.cell 2)
              clear hC x1
              repeat (refine regStep (fun K hK => ?_); first | (refine regN rfl ?_; try go_simp; refine hK _ _ ?_; clear hK K) | (refine regF rfl rfl ?_; unfold floatAt; go_simp; refine hK _ _ ?_; clear hK K))
              refine regStep (fun K hK => ?_)
              refine regE rfl rfl (Eff.row w5.heap.size 3 1 j (l.map encZ)) rfl (fun W hW hN => ?_) (fun v hv => ?_)
              · have hM := (HC.out W).1 hW
                clear hW
                go_simp
                refine effT_call ((cloneIntsE_any _ l _ (Y1.out.below hM.below) (by rw [← HJ.out]; exact hll)).mono ?_)
                rintro e w2 ⟨vp, rfl, ho, hx⟩
                exact ⟨_, rfl, Move.of_below hx, (by rw [HJ.out]; exact ownsRow_form ho), (by rw [HJ.out]; exact ownsRow_base ho (Nat.le_trans HK.out.size hM.size))⟩
              obtain ⟨a6, c6, rfl⟩ := hv
              go_simp
              refine hK _ _ ?_
              clear hK K
              refine regStep (fun K hK => ?_)
              refine regE rfl rfl (Eff.headRow w5.heap.size j (l.map encZ)) rfl (fun W hW hN => ?_) (fun v hv => ?_)
              · have hro : W.ownsRow w5.heap.size 3 1 (.slice a6 j c6) j (l.map encZ) := hN.at 0 rfl (by kernel_rfl)
                have HRO := Lib.hid hro
                clear hW hN hK K hro
                go_simp
                exact ⟨Move.ext ((Ext.refl _).alloc _), ⟨_, rfl⟩, fun b hb => by cases hb; exact ⟨_, Blk.new _ _ _, HRO.out.alloc _⟩⟩
              obtain ⟨bx, rfl⟩ := hv
              go_simp
              refine hK _ _ ?_
              clear hK K
              refine regNil (fun W hW hH => ?_)
              have hM := (HC.out W).1 hW
              obtain ⟨ux, hbx, hux⟩ : ∃ ux, Blk W bx #[ux] 36 ∧ W.ownsRow w5.heap.size 3 1 ux j (l.map encZ) := hH _ (List.mem_cons_self ..) bx rfl
              obtain ⟨a7, c7, rfl⟩ := ownsRow_form hux
              have HBX := Lib.hid hbx
              have HUX := Lib.hid hux
              have YB := Lib.hid (HB.out.below hM.below HB.out.lt)
              have YO := Lib.hid (ownsRow_below U2.out hM.below)
              have Y3 := Lib.hid fun i u l hu hl => ownsRow_below (U3.out i u l hu hl) hM.below
              have YK := Lib.hid (HK.out.tr (Keeps.of_below hM.below fun x hx => Nat.lt_of_lt_of_le hx.1 HK.out.size))
              have hVs : w5.heap.size ≤ W.heap.size := Nat.le_trans HK.out.size hM.size
              clear hM hW hH f0 HC HB HK hbx hux U2 U3 HXW
              go_wp2_with (at_builtin; refine wpList_append_own_at _ rfl _ _ 23 rfl w5.heap.size 36 iL (.slice none 0 0) 1 24 Tryz.underlying23 hiL hzL0 hzL1 hzL2 rfl (by decide) _ _ _ rfl YO.out ⟨bx, 0, none⟩ 1 1 [.slice a7 j c7] rfl rfl HBX.out.news1 (by simp [Value.oneCell']) (by unfold maxLen; omega) (by omega) hVs ?_; intro v' w3 hown' hgrow hh hat; have HO3 := Lib.hid hown'; have HG := Lib.hid hgrow; obtain ⟨ua3, uc3, rfl⟩ := ownsRow_form hown'; have hne : ∀ x, (Value.slice ua5 ml uc5).ownBlock = some x → w5.heap.size ≤ x := (fun x e => (YO.out.lt x e).1); have ZB := Lib.hid (YB.out.grown hgrow (fun e => by have := hne _ e.symm; omega)); have ZK := Lib.hid (YK.out.tr (Keeps.of_grown hgrow fun x hx => ⟨Nat.lt_of_lt_of_le hx.1 hVs, fun e => by have := hne x e.symm; omega⟩)); have hsz3 : W.heap.size ≤ w3.heap.size := hgrow.size; obtain ⟨⟨p0, p1, p2⟩, q0, q1, q2⟩ := ZB.out.three; clear hown' hgrow hh hat hne)
              go_roundw
              case rel =>
                refine ⟨k + 1, _, by omega, by go_num, ZB.out.set 2 _, ?_, ZK.out.setCell (p := ⟨w.heap.size + 1 + 1, 2, none⟩) (fun h => h.2 rfl) _⟩
                have hs : OwnLL w5.heap.size w3 (.slice ua3 (ml + 1) uc3) (d.mr.take k ++ [l]) := OwnLL.snoc (w := W) (v := .slice ua5 ml uc5) (us := us) (u := .slice a7 j c7) (by rw [← HM.out]; exact U1.out) (by rw [← HM.out]; exact YO.out) (fun i u l hu hl => Y3.out i u l hu hl) (by rw [← HJ.out]; exact HUX.out) HG.out (by rw [← HM.out]; exact HO3.out)
                rw [HT.out]
                exact hs.keeps ((Keeps.refl (· ≠ w.heap.size + 1 + 1) _).setCell (p := ⟨w.heap.size + 1 + 1, 2, none⟩) (fun h => h rfl) _) (fun x h1 _ e => by omega)
              case measure => simp [intOf]; omega
            · obtain rfl : k = n2 := by omega
              have htk : d.mr.take k = d.mr := by rw [HN2.out]; exact List.take_length
              rw [htk] at ho
              obtain ⟨ua2, uc2, hua2⟩ := ho.form
              rw [← HN2.out] at hua2
              subst hua2
              have R2 := Lib.hid ho
              have hV5 : V.heap.size ≤ w5.heap.size := R5S.out
              have S0 := Lib.hid (ownsRow_keepsB R0.out hx fun x h1 h2 => ⟨h2, by omega⟩)
              have S1 := Lib.hid (R1.out.keeps hx fun x h1 h2 => ⟨h2, by omega⟩)
              have XA' := Lib.hid hXw
              have CB' := Lib.hid hb
              have C2' := Lib.hid (C2.out.keeps hx ⟨C2.out.lt, by omega⟩)
              have hW6 : w5.heap.size ≤ w6.heap.size := hx.size
              clear ho hb hx htk hXw C1 C2 CB R0 R1 XA H2 hlt D1
              obtain ⟨⟨k0, k1, k2⟩, z0, z1, z2⟩ := C2'.out.three
              obtain ⟨⟨l0, l1, l2⟩, _⟩ := CB'.out.three
              go_wp2
              obtain ⟨W9, hW9⟩ : ∃ W9, W9 = (((w6.setCell ⟨w.heap.size + 1, 0, none⟩ (.slice ua lx uc)).setCell ⟨w.heap.size + 1, 1, none⟩ (.slice ua1 kk uc1)).setCell ⟨w.heap.size + 1, 2, none⟩ (.slice ua2 k uc2)) := ⟨_, rfl⟩
              have E : Hid (Blk W9 (w.heap.size + 1) #[.slice ua lx uc, .slice ua1 kk uc1, .slice ua2 k uc2] 42) := by rw [hW9]; exact C2'.out.set3
              have K9 : Hid (Keeps (· ≠ w.heap.size + 1) w6 W9) := by rw [hW9]; exact (((Keeps.refl _ _).setCell (p := ⟨w.heap.size + 1, 0, none⟩) (fun h => h rfl) _).setCell (p := ⟨w.heap.size + 1, 1, none⟩) (fun h => h rfl) _).setCell (p := ⟨w.heap.size + 1, 2, none⟩) (fun h => h rfl) _
              rw [← hW9]
              clear hW9 k0 k1 k2 z0 z1 z2 l0 l1 l2
              obtain ⟨⟨m0, m1, m2⟩, _⟩ := E.out.three
              refine bodyPost_ret (v := .agg #[.slice ua lx uc, .slice ua1 kk uc1, .slice ua2 k uc2]) (by simp [results, Tryz.results15, go_sem, m0, m1, m2]) rfl ⟨_, rfl, ⟨_, _, _, rfl, ?_, ?_, ?_⟩, ?_⟩
              · have h5 := ownsRow_keepsB S0.out K9.out fun x h1 _ e => by omega
                rw [HLX.out] at h5
                show W9.ownsRow w.heap.size 75 256 _ (d.cl.map refS).length (flatA (d.cl.map refS))
                rw [HLX.out]
                exact ownsRow_base h5 (by have := HVW.out; omega)
              · exact (S1.out.keeps K9.out fun x h1 _ e => by omega).base (by have := HVW.out; have := HVO.out; omega)
              · exact (R2.out.keeps K9.out fun x h1 _ e => by omega).base (by have := HVW.out; omega)
              · exact XA'.out.trans ((K9.out.mono fun x hx => (by have : x < w.heap.size := hx; omega) : Keeps (· < w.heap.size) w6 W9).below)
end Go.Proofs.YtiegfnmpknmbmaaGreat
