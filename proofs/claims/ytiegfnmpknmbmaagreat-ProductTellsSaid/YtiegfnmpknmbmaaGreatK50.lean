/-
  The reference's product.
-/
import Derived.Test.YtiegfnmpknmbmaaGreatK41
import Derived.WalkMore
namespace Go.Proofs.YtiegfnmpknmbmaaGreat
open Go Go.RowKit Go.Shelf Go.Maps
attribute [local go_sem] encS

/-- A row that lies elsewhere than one that grows lies elsewhere than what that one becomes. -/
theorem Far.grow {x v v' : Value} {n : Nat} (hf : Far x v) (hat : v'.ownBlock = v.ownBlock ∨ v'.ownBlock = some n) (hx : ∀ b, x.ownBlock = some b → b < n) : Far x v' := by
  rcases hf with h | h
  · exact .inl h
  · right
    intro e
    rcases hat with h2 | h2
    · rw [h2] at e; exact h e
    · rw [h2] at e; have := hx _ e; omega
theorem Far.symm' {x y : Value} (h : Far x y) : Far y x := by
  by_cases e : y.ownBlock = none
  · exact .inl e
  · right
    rcases h with h | h
    · rw [h]; exact e
    · exact fun e2 => h e2.symm
set_option maxRecDepth 100000 in
set_option maxHeartbeats 8000000 in
theorem rof_main (v v' : Value) (a b : DF) (ra : Rt a) (rb : Rt b) (sa : Sm a) (sb : Sm b) (op : Nat) (h1p : 1 ≤ op) (h4p : op ≤ 4) (f : Nat) (hf1 : 1 ≤ f) (hf4 : f ≤ 4000) (w : World) (h : IsRf w v a) (h' : IsRf w v' b) :
    Calls Tryz.prog 17 #[v, v', .int .i64 op, .int .i64 f] w fun e w' => ∃ u, e = .returned (.tuple #[u, .int .i64 (prodE a b op f).2]) ∧ IsRf w' u (prodE a b op f).1 ∧ Below w.heap.size w w' := by
  obtain ⟨iL, hiL, hzL0, hzL1, hzL2⟩ := info_parts Tryz.infoL
  obtain ⟨iI, hiI, hzI0, hzI1, hzI2⟩ := info_parts Tryz.infoI
  obtain ⟨iA, hiA, hzA0, hzA1, hzA2⟩ := info_parts Tryz.infoA
  have CR : Hid (∀ W, Below w.heap.size w W → Calls Tryz.prog 30 #[v] W fun e w' => e = .returned (.bool true) ∧ Below W.heap.size W w') := fun W hW => by
    have := refRight_any v a W (h.below hW) sa
    rwa [(right_iff a).2 ra] at this
  have CR' : Hid (∀ W, Below w.heap.size w W → Calls Tryz.prog 30 #[v'] W fun e w' => e = .returned (.bool true) ∧ Below W.heap.size W w') := fun W hW => by
    have := refRight_any v' b W (h'.below hW) sb
    rwa [(right_iff b).2 rb] at this
  have CC : Hid (∀ c : Nat, c < 256 → ∀ W, Below w.heap.size w W → Calls Tryz.prog 44 #[v, .int .u8 c] W fun e w' => e = .returned (.int .i64 (cls a.cl c)) ∧ Below W.heap.size W w') := fun c hc W hW => refClassD_any v a ra c hc W (h.below hW)
  have CC' : Hid (∀ c : Nat, c < 256 → ∀ W, Below w.heap.size w W → Calls Tryz.prog 44 #[v', .int .u8 c] W fun e w' => e = .returned (.int .i64 (cls b.cl c)) ∧ Below W.heap.size W w') := fun c hc W hW => refClassD_any v' b rb c hc W (h'.below hW)
  have CS : Hid (∀ x y W, Calls Tryz.prog 45 #[.int .i64 op, .bool x, .bool y] W fun e w' => e = .returned (.bool (saysB op x y)) ∧ w' = W) := fun x y W => refSays_any op h1p h4p x y W
  obtain ⟨P, hP⟩ : ∃ p, p = partsOf (a.cl ++ b.cl) := ⟨_, rfl⟩
  obtain ⟨R, hR⟩ : ∃ r, r = refA (a.cl ++ b.cl) := ⟨_, rfl⟩
  have AG : Hid (Agrees P R) := Lib.hid (by rw [hP, hR]; exact agrees_of _)
  obtain ⟨K, hK⟩ : ∃ n, n = P.length := ⟨_, rfl⟩
  obtain ⟨F, hF⟩ : ∃ g, g = pairF a b := ⟨_, rfl⟩
  have hK256 : K ≤ 256 := by rw [hK, hP, (partsOf_perm _).length_eq]; exact partsRaw_len _
  have OK : Hid (∀ st n, stTo f F K (0, 0) n = some st → StOk f K (PairIn a b) (0, 0) n st) := fun st n h => by rw [hF, hK, hP] at h; rw [hK, hP]; exact prod_st ra rb hf1 h
  have FI : Hid (∀ p k, PairIn a b p → k < K → PairIn a b (F p k)) := fun p k h1 h2 => by rw [hF]; exact pairF_in ra rb p k h1 (by rw [← hP, ← hK]; exact h2)
  have EN : Hid (∀ n, stTo f F K (0, 0) n = none → n ≤ f → (prodE a b op f) = (dfZ, 181)) := fun n hn hle => by
    have e1 : prodOf a b op f = none := by unfold prodOf; rw [← hP, ← hF, ← hK, stTo_none hn f hle]; rfl
    unfold prodE
    rw [(right_iff a).2 ra, (right_iff b).2 rb, if_neg (by decide), if_neg (by omega), if_neg (by omega), if_neg (by omega), Int.toNat_natCast, e1]
  have ES : Hid (∀ n st, stTo f F K (0, 0) n = some st → st.1.length ≤ n → n ≤ f → (prodE a b op f) = (⟨P, st.2.map fun r => r.map Int.ofNat, st.1.map (markOf a b op)⟩, 0)) := fun n st hn hl hle => by
    have e1 : prodOf a b op f = some ⟨P, st.2.map fun r => r.map Int.ofNat, st.1.map (markOf a b op)⟩ := by unfold prodOf; rw [← hP, ← hF, ← hK, stTo_end hn hl f hle]; rfl
    unfold prodE
    rw [(right_iff a).2 ra, (right_iff b).2 rb, if_neg (by decide), if_neg (by omega), if_neg (by omega), if_neg (by omega), Int.toNat_natCast, e1]
  have FE : Hid (∀ p k, F p k = (nxt a p.1 (cls a.cl (lb P k)), nxt b p.2 (cls b.cl (lb P k)))) := fun p k => by rw [hF, hP]; rfl
  have LB : Hid (∀ k, k < K → lb P k < 256) := fun k hk => by rw [hP]; exact lb_lt (by rw [← hP, ← hK]; exact hk)
  have CO : Hid (∀ W u, IsArrs W u ((a.cl ++ b.cl).map refS) → Calls Tryz.prog 41 #[u] W fun e w' => e = .returned (.agg (aI R)) ∧ Ext W w') := fun W u h => by
    rw [hR]; exact refOf_any u _ W h (by rw [List.length_map, List.length_append]; have := sa.cl; have := ra.clle; have := rb.clle; omega)
  have hKl : (leastsTo R 256).length = K := by rw [hK]; exact AG.out.len.symm
  have LE : Hid (∀ k, k < K → (leastsTo R 256)[k]? = some (lb P k)) := fun k hk => by
    obtain ⟨m, hm⟩ : ∃ m, (leastsTo R 256)[k]? = some m := ⟨_, List.getElem?_eq_getElem (by rw [hKl]; exact hk)⟩
    obtain ⟨s, hs, _, hl⟩ := AG.out.cls k m hm
    have h3 : leastOf P k = firstOf s := by
      unfold leastOf
      have : setOf P (k : Int) = some s := by
        unfold setOf
        simp [hs]
      rw [this]
    rw [h3] at hl
    have h4 : lb P k = m := by unfold lb; rw [getD_some hs, hl]
    rw [h4]
    exact hm
  have CL : Hid (∀ W, Calls Tryz.prog 42 #[.agg (aI R)] W fun e w' => ∃ a c, e = .returned (.slice a K c) ∧ w'.ownsRow W.heap.size 3 1 (.slice a K c) K ((leastsTo R 256).map encN) ∧ Below W.heap.size W w') := fun W => (leasts_any R W).mono fun e w' ⟨u, he, ho, hx⟩ => by
    rw [hKl] at ho
    obtain ⟨a, c, rfl⟩ := ownsRow_form ho
    exact ⟨a, c, he, ho, hx⟩
  have CX : Hid (∀ (k : Nat) (s : BS) (W : World), k < K → P[k]? = some s → Calls Tryz.prog 43 #[.agg (aI R), .int .i64 k] W fun e w' => e = .returned (.agg (aI (refS s))) ∧ Below W.heap.size W w') := fun k s W hk hs => by
    have := refSet_any R k _ (LE.out k hk) W
    rwa [aI_set_of AG.out (LE.out k hk) hs] at this
  have HK := Lib.hid hK
  obtain ⟨PE, hPE⟩ : ∃ x, x = prodE a b op f := ⟨_, rfl⟩
  rw [← hPE] at EN ES ⊢
  obtain ⟨v0, v1, v2, rfl, h0, h1, h2⟩ := h
  obtain ⟨u0, u1, u2, rfl, g0, g1, g2⟩ := h'
  obtain ⟨a0, c0, rfl⟩ := h0.form
  obtain ⟨a1, c1, rfl⟩ := h1.form
  obtain ⟨a2, c2, rfl⟩ := h2.form
  obtain ⟨e0, k0, rfl⟩ := g0.form
  obtain ⟨e1, k1, rfl⟩ := g1.form
  obtain ⟨e2, k2, rfl⟩ := g2.form
  obtain ⟨Ka, hKa⟩ : ∃ n, n = (a.cl.map refS).length := ⟨_, rfl⟩
  obtain ⟨Kb, hKb⟩ : ∃ n, n = (b.cl.map refS).length := ⟨_, rfl⟩
  obtain ⟨Na, hNa⟩ : ∃ n, n = a.nx.length := ⟨_, rfl⟩
  obtain ⟨Nb, hNb⟩ : ∃ n, n = b.nx.length := ⟨_, rfl⟩
  have hma := ra.mr
  have hmb := rb.mr
  rw [hma] at h2 CR CC ⊢
  rw [hmb] at g2 CR' CC' ⊢
  rw [← hKa] at h0 CR CC ⊢
  rw [← hKb] at g0 CR' CC' ⊢
  rw [← hNa] at h1 h2 CR CC ⊢
  rw [← hNb] at g1 g2 CR' CC' ⊢
  have hKa1 : 0 < Ka := by rw [hKa, List.length_map]; exact ra.clpos
  have hKb1 : 0 < Kb := by rw [hKb, List.length_map]; exact rb.clpos
  have hKa2 : Ka ≤ 256 := by rw [hKa, List.length_map]; exact ra.clle
  have hKb2 : Kb ≤ 256 := by rw [hKb, List.length_map]; exact rb.clle
  have H0 := Lib.hid h0
  have H1 := Lib.hid h1
  have H2 := Lib.hid h2
  have G0 := Lib.hid g0
  have G1 := Lib.hid g1
  have G2 := Lib.hid g2
  obtain ⟨La, hLa⟩ : ∃ l, l = a.cl.map refS := ⟨_, rfl⟩
  obtain ⟨Lb, hLb⟩ : ∃ l, l = b.cl.map refS := ⟨_, rfl⟩
  have hLab : (a.cl ++ b.cl).map refS = La ++ Lb := by rw [hLa, hLb, List.map_append]
  rw [hLab] at CO
  rw [← hLa] at H0 hKa
  rw [← hLb] at G0 hKb
  have HKa := Lib.hid hKa
  have HKb := Lib.hid hKb
  have HNa := Lib.hid hNa
  have HNb := Lib.hid hNb
  have HMA := Lib.hid hma
  have HMB := Lib.hid hmb
  have RA := Lib.hid ra
  have RB := Lib.hid rb
  have HP := Lib.hid hP
  clear h0 h1 h2 g0 g1 g2 hK hF hP hR hPE hKl hma hmb hKa hKb hNa hNb hLa hLb hLab sa sb ra rb
  have d1 : decide ((op : Int) < 1) = false := decide_eq_false (by omega)
  have d2 : decide ((4 : Int) < op) = false := decide_eq_false (by omega)
  have d3 : decide ((f : Int) < 0) = false := decide_eq_false (by omega)
  have d4 : decide ((4000 : Int) < f) = false := decide_eq_false (by omega)
  have d5 : ((f : Int) == 0) = false := by rw [beq_eq_false_iff_ne]; omega
  go_enter Tryz.func17, Tryz.ntmps17
  go_wp2_with fail
  refine calls_named ?_
  intro V hV
  have B4 : Hid (Blk V w.heap.size #[.slice a0 Ka c0, .slice a1 Na c1, .slice a2 Na c2] 42) := by rw [hV]; exact (((Blk.new w _ _).alloc _).alloc _).alloc _
  have B5 : Hid (Blk V (w.heap.size + 1) #[.slice e0 Kb k0, .slice e1 Nb k1, .slice e2 Nb k2] 42) := by rw [hV]; exact (((Blk.new (w.alloc _) _ _).at (by simp)).alloc _).alloc _
  have B8 : Hid (Blk V (w.heap.size + 2) #[.slice none 0 0, .slice none 0 0, .slice none 0 0] 42) := by rw [hV]; exact ((Blk.new ((w.alloc _).alloc _) _ _).at (by simp)).alloc _
  have B10 : Hid (Blk V (w.heap.size + 3) #[.slice none 0 0, .slice none 0 0, .slice none 0 0] 42) := by rw [hV]; exact (Blk.new (((w.alloc _).alloc _).alloc _) _ _).at (by simp)
  have X1 : Hid (Below w.heap.size w V) := by rw [hV]; exact (((((Ext.refl w).alloc _).alloc _).alloc _).alloc _).below
  clear hV
  refine (CR.out V X1.out).mono ?_
  rintro e w2 ⟨rfl, hx⟩
  have C4 := Lib.hid (B4.out.below hx B4.out.lt)
  have C5 := Lib.hid (B5.out.below hx B5.out.lt)
  have C8 := Lib.hid (B8.out.below hx B8.out.lt)
  have C10 := Lib.hid (B10.out.below hx B10.out.lt)
  have X2 := Lib.hid (X1.out.trans (hx.mono X1.out.size))
  clear hx B4 B5 B8 B10 X1 CR
  obtain ⟨⟨q0, q1, q2⟩, _⟩ := C5.out.three
  go_wp2_with fail
  refine (CR'.out w2 X2.out).mono ?_
  rintro e w3 ⟨rfl, hx⟩
  have D4 := Lib.hid (C4.out.below hx C4.out.lt)
  have D5 := Lib.hid (C5.out.below hx C5.out.lt)
  have D8 := Lib.hid (C8.out.below hx C8.out.lt)
  have D10 := Lib.hid (C10.out.below hx C10.out.lt)
  have X3 := Lib.hid (X2.out.trans (hx.mono X2.out.size))
  clear hx q0 q1 q2 C4 C5 C8 C10 X2 CR'
  go_wp2
  obtain ⟨fA, hfA⟩ : ∃ g, La[0]? = some g := ⟨_, List.getElem?_eq_getElem (by rw [← HKa.out]; exact hKa1)⟩
  obtain ⟨fB, hfB⟩ : ∃ g, Lb[0]? = some g := ⟨_, List.getElem?_eq_getElem (by rw [← HKb.out]; exact hKb1)⟩
  obtain ⟨ba, oa, rfl, _, _⟩ := H0.out.elem hfA
  obtain ⟨bb, ob, rfl, _, _⟩ := G0.out.elem hfB
  clear hfA hfB
  have SA := Lib.hid (H0.out.below X3.out).news
  have SB := Lib.hid (G0.out.below X3.out).news
  have hba : ba < w3.heap.size := by
    obtain ⟨f0, hf0⟩ : ∃ g, La[0]? = some g := ⟨_, List.getElem?_eq_getElem (by rw [← HKa.out]; exact hKa1)⟩
    obtain ⟨_, _, e, h5, _⟩ := (H0.out.below X3.out).elem hf0
    cases e; exact h5
  have hbb : bb < w3.heap.size := by
    obtain ⟨f0, hf0⟩ : ∃ g, Lb[0]? = some g := ⟨_, List.getElem?_eq_getElem (by rw [← HKb.out]; exact hKb1)⟩
    obtain ⟨_, _, e, h5, _⟩ := (G0.out.below X3.out).elem hf0
    cases e; exact h5
  refine wp_region_regM (MoveK w3.heap.size (ofPhi w3.heap.size Ka Kb (flatA La) (flatA Lb))) (MoveK.below (ofPhi_st _ _ _ _ _) (Ext.refl w3).drew.below) (fun _ _ _ h k => h.trans k) (by kernel_rfl) 9 [0, 0, 2, 7, 0, 16, 63, 127, 0, 511] (fun i => i == 0 || i == 3 || i == 6 || i == 7 || i == 8 || i == 9) (by kernel_rfl) (fun i => if i = 0 then Eff.fact _ _ 0 (fun v => ∃ b, v = .slice (some ⟨b, 0, none⟩) 0 0) (.slice (some ⟨0, 0, none⟩) 0 0) ⟨0, rfl⟩ else if i = 3 then Eff.fact _ _ 1 (fun v => ∃ a c, v = .slice a Ka c) (.slice none Ka 0) ⟨none, 0, rfl⟩ else if i = 6 then Eff.fact _ _ 2 (fun v => ∃ a c, v = .slice a (Ka + Kb) c) (.slice none (Ka + Kb) 0) ⟨none, 0, rfl⟩ else if i = 7 then Eff.det _ (.agg (aI R)) else if i = 8 then Eff.fact _ _ 3 (fun v => ∃ b, v = .pointer (some ⟨b, 0, none⟩)) (.pointer (some ⟨0, 0, none⟩)) ⟨0, rfl⟩ else Eff.any _) ?_
  intro C hC hne
  have HC := Lib.hid hC
  have hl4 := D4.out.lt
  have hl5 := D5.out.lt
  have f0 : ∀ W : { W // C W }, W.1.cell? ⟨w.heap.size, 0, none⟩ = some (.slice (some ⟨ba, oa, none⟩) Ka c0) := fun W => (((hC W.1).1 W.2).1.cell (p := ⟨w.heap.size, 0, none⟩) ⟨hl4, hl4⟩).trans (D4.out.cell 0)
  have f1 : ∀ W : { W // C W }, W.1.cell? ⟨w.heap.size + 1, 0, none⟩ = some (.slice (some ⟨bb, ob, none⟩) Kb k0) := fun W => (((hC W.1).1 W.2).1.cell (p := ⟨w.heap.size + 1, 0, none⟩) ⟨hl5, hl5⟩).trans (D5.out.cell 0)
  clear hC
  refine regStep (fun K hK => ?_)
  refine regE rfl rfl (Eff.fact _ _ 0 (fun v => ∃ b, v = .slice (some ⟨b, 0, none⟩) 0 0) (.slice (some ⟨0, 0, none⟩) 0 0) ⟨0, rfl⟩) rfl (fun W hW hN => ?_) (fun v hv => ?_)
  · have hM := (HC.out W).1 hW
    have hsW := hM.1.size
    clear hW hK K hN
    exact effT_build0 40 75 rfl Tryz.underlying40 hiA ⟨MoveK.below (ofPhi_st _ _ _ _ _) ((Ext.refl _).alloc _).below, ⟨_, rfl⟩, ⟨_, rfl, rfl, .inr ⟨_, 0, #[], rfl, hsW, Blk.new _ _ _, Nat.le_refl _, Nat.zero_le _, rfl, rfl⟩⟩⟩
  obtain ⟨x0, rfl⟩ := hv
  go_simp
  refine hK _ _ ?_
  clear hK K
  repeat (refine regStep (fun K hK => ?_); first | (refine regN rfl ?_; try go_simp; refine hK _ _ ?_; clear hK K) | (refine regF rfl rfl ?_; unfold floatAt; go_simp; refine hK _ _ ?_; clear hK K))
  refine regStep (fun K hK => ?_)
  refine regE rfl rfl (Eff.fact _ _ 1 (fun v => ∃ a c, v = .slice a Ka c) (.slice none Ka 0) ⟨none, 0, rfl⟩) rfl (fun W hW hN => ?_) (fun v hv => ?_)
  · have hM := (HC.out W).1 hW
    have hsW := hM.1.size
    obtain ⟨_, _, h0⟩ := hN.at 0 rfl (by kernel_rfl)
    clear hW hK K hN
    refine effT_appendK (.tmp 50) (.tmp 52) 40 rfl w3.heap.size 75 iA (.agg (aI fun _ => 0)) 256 2048 Tryz.underlying40 hiA hzA0 hzA1 hzA2 (aI_size _) (by decide) (.slice (some ⟨x0, 0, none⟩) 0 0) 0 [] rfl h0 ⟨ba, oa, none⟩ Ka c0 (flatA La) rfl (fun j u hj => (hM.1.cell (p := (⟨ba, oa, none⟩ : Addr).add j) (by rw [Addr.add_mid]; exact ⟨hba, hba⟩)).trans (SA.out j u hj)) (by rw [flatA_length, HKa.out]) (flatA_one1 La) (by unfold maxLen; omega) (by omega) hsW hKa1 ?_
    intro v' w' ho hg halt
    rw [Nat.zero_add, List.nil_append] at ho
    rcases halt with hb | ⟨g, cap, y1, y2, y3⟩
    · exact ⟨MoveK.below (ofPhi_st _ _ _ _ _) hb, ownsRow_form ho, ho⟩
    · cases y1
      omega
  obtain ⟨a3, c3, rfl⟩ := hv
  go_simp
  refine hK _ _ ?_
  clear hK K
  repeat (refine regStep (fun K hK => ?_); first | (refine regN rfl ?_; try go_simp; refine hK _ _ ?_; clear hK K) | (refine regF rfl rfl ?_; unfold floatAt; go_simp; refine hK _ _ ?_; clear hK K))
  refine regStep (fun K hK => ?_)
  refine regE rfl rfl (Eff.fact _ _ 2 (fun v => ∃ a c, v = .slice a (Ka + Kb) c) (.slice none (Ka + Kb) 0) ⟨none, 0, rfl⟩) rfl (fun W hW hN => ?_) (fun v hv => ?_)
  · have hM := (HC.out W).1 hW
    have hsW := hM.1.size
    have h0 : W.ownsRow w3.heap.size 75 256 (.slice a3 Ka c3) Ka (flatA La) := hN.at 0 rfl (by kernel_rfl)
    clear hW hK K hN
    refine effT_appendK (.tmp 53) (.tmp 55) 40 rfl w3.heap.size 75 iA (.agg (aI fun _ => 0)) 256 2048 Tryz.underlying40 hiA hzA0 hzA1 hzA2 (aI_size _) (by decide) (.slice a3 Ka c3) Ka (flatA La) rfl h0 ⟨bb, ob, none⟩ Kb k0 (flatA Lb) rfl (fun j u hj => (hM.1.cell (p := (⟨bb, ob, none⟩ : Addr).add j) (by rw [Addr.add_mid]; exact ⟨hbb, hbb⟩)).trans (SB.out j u hj)) (by rw [flatA_length, HKb.out]) (flatA_one1 Lb) (by unfold maxLen; omega) (by omega) hsW hKb1 ?_
    intro v' w' ho hg halt
    rcases halt with hb | ⟨g, cap, y1, y2, y3⟩
    · exact ⟨MoveK.below (ofPhi_st _ _ _ _ _) hb, ownsRow_form ho, ho⟩
    · subst y2
      rw [y1] at h0 hg
      exact ⟨⟨Keeps.of_grown hg fun x hx => ⟨hx.2, fun e => by cases e; have := (h0.lt _ rfl).1; have := hx.1; omega⟩, ofPhi_place hKb1 h0 ho y3 hg⟩, ⟨_, _, rfl⟩, ho⟩
  obtain ⟨a6, c6, rfl⟩ := hv
  go_simp
  refine hK _ _ ?_
  clear hK K
  refine regStep (fun K hK => ?_)
  refine regE rfl rfl (Eff.det _ (.agg (aI R))) rfl (fun W hW hN => ?_) (fun v hv => ?_)
  · have h0 : W.ownsRow w3.heap.size 75 256 (.slice a6 (Ka + Kb) c6) (Ka + Kb) (flatA La ++ flatA Lb) := hN.at 0 rfl (by kernel_rfl)
    have hia : IsArrs W (.slice a6 (Ka + Kb) c6) (La ++ Lb) := ownsRow_arrs (base := w3.heap.size) (by rw [List.length_append, flatA_append, ← HKa.out, ← HKb.out]; exact h0)
    have HIA := Lib.hid hia
    clear hW hN h0 hK K hia
    go_simp
    refine effT_call ((CO.out W _ HIA.out).mono ?_)
    rintro e w9 ⟨rfl, hx⟩
    exact ⟨_, rfl, MoveK.below (ofPhi_st _ _ _ _ _) hx.below, rfl, trivial⟩
  replace hv : v = _ := hv
  subst hv
  go_simp
  refine hK _ _ ?_
  clear hK K
  refine regStep (fun K hK => ?_)
  refine regE rfl rfl (Eff.fact _ _ 3 (fun v => ∃ b, v = .pointer (some ⟨b, 0, none⟩)) (.pointer (some ⟨0, 0, none⟩)) ⟨0, rfl⟩) rfl (fun W hW hN => ?_) (fun v hv => ?_)
  · have hM := (HC.out W).1 hW
    have hsW := hM.1.size
    have hz := zeroA87
    clear hW hN hK K
    go_simp
    exact ⟨MoveK.below (ofPhi_st _ _ _ _ _) ((Ext.refl _).alloc _).below, ⟨_, rfl⟩, ⟨_, rfl, hsW, Blk.new _ _ _⟩⟩
  obtain ⟨bx, rfl⟩ := hv
  go_simp
  refine hK _ _ ?_
  clear hK K
  refine regNil (fun W hW hH => ?_)
  have hM := (HC.out W).1 hW
  obtain ⟨bx', hbe, hb0, hbx⟩ : ofPhi w3.heap.size Ka Kb (flatA La) (flatA Lb) 3 (.pointer (some ⟨bx, 0, none⟩)) W := hH _ (List.mem_cons_self ..)
  cases hbe
  have KW : Hid (Keeps (· < w3.heap.size) w3 W) := Lib.hid (hM.1.mono fun x hx => ⟨hx, hx⟩)
  have BX := Lib.hid hbx
  clear hM hW hH HC f0 f1 hbx hl4 hl5 hne
  have hs3W : w3.heap.size ≤ W.heap.size := KW.out.size
  have hl4 : w.heap.size + 3 < w3.heap.size := D10.out.lt
  obtain ⟨W4, hW4⟩ : ∃ W4, W4 = W.setRow bx (aI R) := ⟨_, rfl⟩
  have ZX : Hid (Blk (W.setRow bx (aI R)) bx (aI R) 81) := Lib.hid BX.out.setRow
  go_wp2_with (first | (refine wpList_store_row rfl 81 (.tmp 11) (.tmp 57) rfl bx (aI R) rfl rfl 81 (aI fun _ => 0) BX.out (sizeA87 _) (by rw [aI_size, aI_size]) (aI_one _) ?_) | (refine wpList_load_w rfl 81 (.tmp 11) rfl bx rfl (aI R) _ ZX.out.range Tryz.underlying81 rfl (sizeA87 R) ?_))
  refine (CL.out _).mono ?_
  rintro e w5 ⟨la, lc, rfl, hl, hx⟩
  have hkw : ∀ (n : Nat) (c : Array Value), n < w3.heap.size → Blk w3 n c 42 → Blk w5 n c 42 := fun n c hn hb => by
    have h1 := hb.keeps KW.out hn
    have h2 := h1.setRow_other (g := bx) (c' := aI R) (by omega)
    exact h2.below hx h2.lt
  have E4 := Lib.hid (hkw _ _ (by omega) D4.out)
  have E5 := Lib.hid (hkw _ _ (by omega) D5.out)
  have E8 := Lib.hid (hkw _ _ (by omega) D8.out)
  have E10 := Lib.hid (hkw _ _ (by omega) D10.out)
  have EX := Lib.hid (ZX.out.below hx ZX.out.lt)
  have hlo := hl.lt
  have L5 := Lib.hid hl
  have X5 : Hid (Below w.heap.size w w5) := Lib.hid (by
    have h1 : Below w.heap.size w W := X3.out.trans (KW.out.mono fun x hx => by have : x < w.heap.size := hx; omega : Keeps (· < w.heap.size) w3 W).below
    have h2 := Below.setRow' h1 (g := bx) (by omega) (aI R)
    exact h2.trans (hx.mono h2.size))
  have hs5 : bx < w5.heap.size := EX.out.lt
  have hs35 : w3.heap.size ≤ w5.heap.size := by omega
  have hLT : Hid (∀ x, (Value.slice la K lc).ownBlock = some x → w3.heap.size ≤ x ∧ x ≠ bx ∧ x < w5.heap.size) := Lib.hid fun x e => by
    have h5 := hlo x e
    have h6 : bx < (W.setRow bx (aI R)).heap.size := ZX.out.lt
    have h7 : w3.heap.size ≤ (W.setRow bx (aI R)).heap.size := by omega
    omega
  clear hx hl hlo hkw D4 D5 D8 D10 X3 KW ZX BX hW4 SA SB CL CO
  go_wp2
  refine wp_named ?_
  intro w6 hw6
  have F4 : Hid (Blk w6 w.heap.size #[.slice (some ⟨ba, oa, none⟩) Ka c0, .slice a1 Na c1, .slice a2 Na c2] 42) := by rw [hw6]; exact E4.out.alloc _
  have F5 : Hid (Blk w6 (w.heap.size + 1) #[.slice (some ⟨bb, ob, none⟩) Kb k0, .slice e1 Nb k1, .slice e2 Nb k2] 42) := by rw [hw6]; exact E5.out.alloc _
  have F8 : Hid (Blk w6 (w.heap.size + 2) #[.slice none 0 0, .slice none 0 0, .slice none 0 0] 42) := by rw [hw6]; exact E8.out.alloc _
  have F10 : Hid (Blk w6 (w.heap.size + 3) #[.slice none 0 0, .slice none 0 0, .slice none 0 0] 42) := by rw [hw6]; exact E10.out.alloc _
  have FX : Hid (Blk w6 bx (aI R) 81) := by rw [hw6]; exact EX.out.alloc _
  have F13 : Hid (Blk w6 w5.heap.size #[.slice none 0 0, .slice none 0 0, .slice none 0 0] 42) := by rw [hw6]; exact Blk.new _ _ _
  have L6 : Hid (w6.ownsRow w3.heap.size 3 1 (.slice la K lc) K ((leastsTo R 256).map encN)) := by
    rw [hw6]
    have h5 := L5.out.alloc (.cells #[.slice none 0 0, .slice none 0 0, .slice none 0 0] 42)
    exact Lib.hid ⟨h5.1, by
      rcases h5.2 with h6 | ⟨g, cp, cu, y1, _, y3⟩
      · exact .inl h6
      · cases y1
        exact .inr ⟨g, _, cu, rfl, (hLT.out g rfl).1, y3⟩⟩
  have X6 : Hid (Below w.heap.size w w6) := by rw [hw6]; exact X5.out.alloc X5.out.size _
  have hs6 : w5.heap.size < w6.heap.size := F13.out.lt
  clear hw6 E4 E5 E8 E10 EX X5 L5
  go_loopw [14] (fun i wr => ∃ (k : Nat) (u : Value), k ≤ K ∧ i = .int .i64 k ∧ Blk wr w5.heap.size #[u, .slice none 0 0, .slice none 0 0] 42 ∧ wr.ownsRow w6.heap.size 75 256 u ((P.take k).map refS).length (flatA ((P.take k).map refS)) ∧ Keeps (fun x => x < w6.heap.size ∧ x ≠ w5.heap.size) w6 wr) (fun i _ => K - (intOf i).toNat)
  case atStart => exact ⟨0, _, by omega, rfl, F13.out, World.ownsRow_nil _ _ _ _, Keeps.refl _ _⟩
  case round =>
    obtain ⟨k, u, hk, rfl, hb, ho, hx⟩ := hrel
    obtain ⟨wo, rfl⟩ : ∃ wo : World, wo = wr := ⟨_, rfl⟩
    have GX := Lib.hid (FX.out.keeps hx ⟨FX.out.lt, by omega⟩)
    by_cases hlt : k < K
    · obtain ⟨s, hs⟩ : ∃ s, P[k]? = some s := ⟨_, List.getElem?_eq_getElem (by have := HK.out; omega)⟩
      have hlen : ((P.take k).map refS).length ≤ 1000000 := by rw [List.length_map, List.length_take]; omega
      have htk : (P.take (k + 1)).map refS = (P.take k).map refS ++ [refS s] := by rw [List.take_add_one, hs]; simp
      have hki : (k : Int) < K := by omega
      have CK : Hid (∀ W, Calls Tryz.prog 43 #[.agg (aI R), .int .i64 k] W fun e w' => e = .returned (.agg (aI (refS s))) ∧ Below W.heap.size W w') := Lib.hid fun W => CX.out k s W hlt hs
      obtain ⟨ml, hml⟩ : ∃ m, m = ((P.take k).map refS).length := ⟨_, rfl⟩
      rw [← hml] at ho hlen
      have HML := Lib.hid hml
      obtain ⟨ua, uc, rfl⟩ := ownsRow_form ho
      have HO := Lib.hid ho
      have HKk := Lib.hid hx
      have HT := Lib.hid htk
      have HB := Lib.hid hb
      clear hml hs ho hx htk hb
      generalize (P.take k).map refS = xs at HO HML HT
      go_wp2
      refine wp_region_reg false (fun _ => False) (by kernel_rfl) 6 [0, 1, 0, 0, 12, 28, 63, 127, 255] (fun i => i == 4 || i == 5 || i == 6 || i == 8) (by kernel_rfl) (fun i => if i = 4 then Eff.det _ (.agg (aI (refS s))) else if i = 5 then Eff.box 1 (aI (refS s)) 75 else Eff.any _) ?_
      intro C hC hne
      have HC := Lib.hid hC
      have f0 := regCell hC (p := ⟨w5.heap.size, 0, none⟩) (by have := HB.out.lt; exact this) (fun h => h) (HB.out.cell 0)
      clear hC
      iterate 2 (refine regStep (fun K hK => ?_); refine regF rfl rfl ?_; unfold floatAt; go_simp; refine hK _ _ ?_; clear hK K)
      refine regStep (fun K hK => ?_)
      refine regL rfl rfl (.agg (aI R)) (fun W hW hN => have hM := (HC.out W).1 hW; floatAt_load 81 (.tmp 11) rfl (bx) 0 rfl (aI R) _ (rangeAt_keeps GX.out.range hM.keeps ⟨GX.out.lt, fun h => h⟩) Tryz.underlying81 rfl (sizeA87 R)) ?_
      go_simp
      refine hK _ _ ?_
      clear hK K
      repeat (refine regStep (fun K hK => ?_); first | (refine regN rfl ?_; try go_simp; refine hK _ _ ?_; clear hK K) | (refine regF rfl rfl ?_; unfold floatAt; go_simp; refine hK _ _ ?_; clear hK K))
      refine regStep (fun K hK => ?_)
      refine regE rfl rfl (Eff.det _ (.agg (aI (refS s)))) rfl (fun W hW hN => ?_) (fun v hv => ?_)
      · have hM := (HC.out W).1 hW
        clear hW
        go_simp
        refine effT_call ((CK.out _).mono ?_)
        rintro e w2 ⟨rfl, hx⟩
        exact ⟨_, rfl, Move.of_below hx, rfl, trivial⟩
      replace hv : v = _ := hv
      subst hv
      go_simp
      refine hK _ _ ?_
      clear hK K
      refine regStep (fun K hK => ?_)
      refine regE rfl rfl (Eff.box 1 (aI (refS s)) 75) rfl (fun W hW hN => ?_) (fun v hv => ?_)
      · clear hW hN hK K
        exact effT_build1 40 75 _ rfl Tryz.underlying40 hiA hzA0 hzA1 (by decide) (by decide) (aI (refS s)) rfl (aI_size _) ⟨Move.ext ((Ext.refl _).alloc _), ⟨_, rfl⟩, fun b hb => by cases hb; exact Blk.new _ _ _⟩
      obtain ⟨bz, rfl⟩ := hv
      go_simp
      refine hK _ _ ?_
      clear hK K
      refine regNil (fun W hW hH => ?_)
      have hM := (HC.out W).1 hW
      have hbz : Blk W bz (aI (refS s)) 75 := hH _ (List.mem_cons_self ..) bz rfl
      have hXX : Below wo.heap.size wo W := hM.below
      have HBX := Lib.hid hbz
      have YB := Lib.hid (HB.out.below hXX HB.out.lt)
      have YO := Lib.hid (ownsRow_below HO.out hXX)
      have YK := Lib.hid (HKk.out.tr (Keeps.of_below hXX fun x hx => Nat.lt_of_lt_of_le hx.1 HKk.out.size))
      have hVs : w6.heap.size ≤ W.heap.size := Nat.le_trans HKk.out.size hXX.size
      clear hM hW hH hXX f0 HC HB HO HKk hbz
      go_wp2_with (at_builtin; refine wpList_append_own_at _ rfl _ _ 40 rfl w6.heap.size 75 iA (.agg (aI fun _ => 0)) 256 2048 Tryz.underlying40 hiA hzA0 hzA1 hzA2 (aI_size _) (by decide) _ _ _ rfl YO.out ⟨bz, 0, none⟩ 1 1 (aI (refS s)).toList rfl (by rw [Array.length_toList, aI_size]) (news_blk HBX.out) (by intro u hu; exact Array.all_eq_true_iff_forall_mem.1 (aI_one _) u (by simpa using hu)) (by unfold maxLen; omega) (by omega) hVs ?_; intro v' w3 hown' hgrow hh hat; have HO3 := Lib.hid hown'; have HG := Lib.hid hgrow; obtain ⟨ua3, uc3, rfl⟩ := ownsRow_form hown'; have hne : ∀ x, (Value.slice ua ml uc).ownBlock = some x → w6.heap.size ≤ x := (fun x e => (YO.out.lt x e).1); have ZB := Lib.hid (YB.out.grown hgrow (fun e => by have := hne _ e.symm; omega)); have ZK := Lib.hid (YK.out.tr (Keeps.of_grown hgrow fun x hx => ⟨Nat.lt_of_lt_of_le hx.1 hVs, fun e => by have := hne x e.symm; have := hx.1; omega⟩)); obtain ⟨⟨p0, p1, p2⟩, q0, q1, q2⟩ := ZB.out.three; clear hown' hgrow hh hat hne)
      go_roundw
      case rel =>
        refine ⟨k + 1, _, by omega, by go_num, ZB.out.set 0 _, ?_, ZK.out.setCell (p := ⟨w5.heap.size, 0, none⟩) (fun h => h.2 rfl) _⟩
        rw [HT.out, List.length_append, flatA_append, flatA_one, ← HML.out]
        exact ownsRow_keepsB HO3.out ((Keeps.refl (· ≠ w5.heap.size) _).setCell (p := ⟨w5.heap.size, 0, none⟩) (fun h => h rfl) _) (fun x h1 _ e => by omega)
      case measure => simp [intOf]; omega
    · obtain rfl : k = K := by omega
      have htk : P.take k = P := by rw [HK.out]; exact List.take_length
      rw [htk] at ho
      have hpl : (P.map refS).length = k := by rw [List.length_map, HK.out]
      rw [hpl] at ho
      obtain ⟨ca, cc, rfl⟩ := ownsRow_form ho
      have PO := Lib.hid ho
      have J13 := Lib.hid hb
      have J4 := Lib.hid (F4.out.keeps hx ⟨F4.out.lt, by omega⟩)
      have J5 := Lib.hid (F5.out.keeps hx ⟨F5.out.lt, by omega⟩)
      have J8 := Lib.hid (F8.out.keeps hx ⟨F8.out.lt, by omega⟩)
      have J10 := Lib.hid (F10.out.keeps hx ⟨F10.out.lt, by omega⟩)
      have JL := Lib.hid (ownsRow_keeps L6.out hx fun x e => by have := hLT.out x e; omega)
      have JX : Hid (Below w.heap.size w wo) := Lib.hid (X6.out.trans (hx.mono fun x hx => by have : x < w.heap.size := hx; omega : Keeps (· < w.heap.size) w6 wo).below)
      have hs6o : w6.heap.size ≤ wo.heap.size := hx.size
      clear ho hb hx F4 F5 F8 F10 F13 L6 X6 FX GX htk hpl hlt hk CX
      obtain ⟨n7, hn7⟩ : ∃ n, n = wo.heap.size := ⟨_, rfl⟩
      have HN7 := Lib.hid hn7
      have hs67 : w6.heap.size ≤ n7 := by omega
      clear hn7 hs6o
      go_wp2
      go_loopw [9, 15, 16, 17] (fun er lv rv iv wr => er = .int .i64 0 ∧ ∃ (n : Nat) (st : List (Nat × Nat) × List (List Nat)) (nx mk : Value) (us ms : List Value), stTo f F k (0, 0) n = some st ∧ n ≤ st.1.length ∧ iv = .int .i64 n ∧ wr.ownsRow n7 3 1 lv st.1.length (st.1.map fun p => encN p.1) ∧ wr.ownsRow n7 3 1 rv st.1.length (st.1.map fun p => encN p.2) ∧ Far lv rv ∧ Blk wr w5.heap.size #[.slice ca k cc, nx, mk] 42 ∧ us.length = n ∧ ms.length = n ∧ wr.ownsRow n7 36 1 nx n us ∧ wr.ownsRow n7 36 1 mk n ms ∧ Far nx mk ∧ (∀ (i : Nat) (u : Value) (l : List Int), us[i]? = some u → (st.2.map fun r => r.map Int.ofNat)[i]? = some l → wr.ownsRow n7 3 1 u l.length (l.map encZ)) ∧ (∀ (i : Nat) (u : Value) (l : List Int), ms[i]? = some u → ((st.1.take n).map (markOf a b op))[i]? = some l → wr.ownsRow n7 3 1 u l.length (l.map encZ)) ∧ (∀ u, u ∈ us ∨ u ∈ ms → Far u lv ∧ Far u rv) ∧ Keeps (fun x => x < n7 ∧ x ≠ w5.heap.size) wo wr) (fun _ _ _ iv _ => f - (intOf iv).toNat)
      case atStart =>
        refine ⟨rfl, 0, ([(0, 0)], []), .slice none 0 0, .slice none 0 0, [], [], rfl, Nat.zero_le _, rfl, ⟨rfl, .inr ⟨_, 1, #[.int .i64 0], rfl, by rw [HN7.out]; exact Nat.le_refl _, (Blk.new wo _ _).alloc _, Nat.le_refl _, by unfold maxLen; omega, rfl, rfl⟩⟩, ⟨rfl, .inr ⟨_, 1, #[.int .i64 0], rfl, by rw [HN7.out]; omega, (Blk.new (wo.alloc _) _ _).at (by simp), Nat.le_refl _, by unfold maxLen; omega, rfl, rfl⟩⟩, .inr (by simp [Value.ownBlock]), (J13.out.alloc _).alloc _, rfl, rfl, World.ownsRow_nil _ _ _ _, World.ownsRow_nil _ _ _ _, .inl rfl, fun i u l h => by simp at h, fun i u l h => by simp at h, fun u h => by simp at h, (((Keeps.refl _ wo).alloc (fun x hx => by rw [← HN7.out]; exact hx.1) _).alloc (fun x hx => by have := hx.1; rw [HN7.out] at this; simp; omega) _)⟩
      case round =>
        obtain ⟨rfl, n, st, nx, mk, us, ms, hst, hn, rfl, hlv, hrv, hfar, hb, hul, hml, hnx, hmk, hfn, hus, hms, hfu, hx⟩ := hrel
        obtain ⟨wa, rfl⟩ : ∃ wo : World, wo = wr := ⟨_, rfl⟩
        have SO := Lib.hid (OK.out st n hst)
        have hl2 : st.2.length = n := by have := SO.out.len; omega
        obtain ⟨L, hL⟩ : ∃ L, L = st.1.length := ⟨_, rfl⟩
        have hLf : L ≤ f := by have := SO.out.le; omega
        rw [← hL] at hlv hrv hn
        obtain ⟨l0, lc0, rfl⟩ := ownsRow_form hlv
        obtain ⟨r0, rc0, rfl⟩ := ownsRow_form hrv
        obtain ⟨na, nc, rfl⟩ := ownsRow_form hnx
        obtain ⟨ma, mc, rfl⟩ := ownsRow_form hmk
        have ST := Lib.hid hst
        have LV := Lib.hid hlv
        have RV := Lib.hid hrv
        have FLR := Lib.hid hfar
        have BO := Lib.hid hb
        have UL := Lib.hid hul
        have ML := Lib.hid hml
        have NX := Lib.hid hnx
        have MK := Lib.hid hmk
        have FN := Lib.hid hfn
        have US := Lib.hid hus
        have MS := Lib.hid hms
        have FU := Lib.hid hfu
        have HX := Lib.hid hx
        have HL := Lib.hid hL
        have HL2 := Lib.hid hl2
        have hs7 : n7 ≤ wa.heap.size := by rw [HN7.out]; exact hx.size
        have hx' : Keeps (fun x => x < w5.heap.size) wo wa := hx.mono fun x hx => ⟨by omega, by omega⟩
        have I4 := Lib.hid (J4.out.keeps hx' (by omega))
        have I5 := Lib.hid (J5.out.keeps hx' (by omega))
        have I8 := Lib.hid (J8.out.keeps hx' (by omega))
        have I10 := Lib.hid (J10.out.keeps hx' (by omega))
        have IL := Lib.hid (ownsRow_keeps JL.out hx' fun x e => (hLT.out x e).2.2)
        have IX : Hid (Below w.heap.size w wa) := Lib.hid (JX.out.trans (hx'.mono fun x hx => by have : x < w.heap.size := hx; omega : Keeps (· < w.heap.size) wo wa).below)
        clear hst hlv hrv hfar hb hul hml hnx hmk hfn hus hms hfu hx hx' hL hl2
        by_cases hlt : n < L
        · obtain ⟨p, hp⟩ : ∃ p, st.1[n]? = some p := ⟨_, List.getElem?_eq_getElem (by rw [← HL.out]; exact hlt)⟩
          have PP := Lib.hid (SO.out.all p (List.mem_of_getElem? hp))
          have HPn := Lib.hid hp
          have hni : (n : Int) < L := by omega
          clear hp
          -- [INNER
          have HFU1 : Hid (∀ x, (Value.slice l0 L lc0).ownBlock = some x → n7 ≤ x ∧ x < wa.heap.size) := Lib.hid fun x e => LV.out.lt x e
          have HFU2 : Hid (∀ x, (Value.slice r0 L rc0).ownBlock = some x → n7 ≤ x ∧ x < wa.heap.size) := Lib.hid fun x e => RV.out.lt x e
          go_wp2
          go_loopw [9, 15, 16, 18, 19] (fun er lv rv nv iv wr => er = .int .i64 0 ∧ ∃ (j : Nat) (r : List (Nat × Nat) × List Nat), j ≤ k ∧ rowTo f (F p) st.1 j = some r ∧ iv = .int .i64 j ∧ wr.ownsRow n7 3 1 lv r.1.length (r.1.map fun p => encN p.1) ∧ wr.ownsRow n7 3 1 rv r.1.length (r.1.map fun p => encN p.2) ∧ Far lv rv ∧ wr.ownsRow wa.heap.size 3 1 nv j ((r.2.map Int.ofNat).map encZ) ∧ Far lv nv ∧ Far rv nv ∧ (lv.ownBlock = (Value.slice l0 L lc0).ownBlock ∨ ∀ x, lv.ownBlock = some x → wa.heap.size ≤ x) ∧ (rv.ownBlock = (Value.slice r0 L rc0).ownBlock ∨ ∀ x, rv.ownBlock = some x → wa.heap.size ≤ x) ∧ Keeps (fun x => x < wa.heap.size ∧ (Value.slice l0 L lc0).ownBlock ≠ some x ∧ (Value.slice r0 L rc0).ownBlock ≠ some x) wa wr) (fun _ _ _ _ iv _ => k - (intOf iv).toNat)
          case atStart => exact ⟨rfl, 0, (st.1, []), Nat.zero_le _, rfl, rfl, by rw [← HL.out]; exact LV.out, by rw [← HL.out]; exact RV.out, FLR.out, World.ownsRow_nil _ _ _ _, Far.symm' (.inl rfl), Far.symm' (.inl rfl), .inl rfl, .inl rfl, Keeps.refl _ _⟩
          case round =>
            obtain ⟨rfl, j, r, hj, hr, rfl, hlv, hrv, hfar, hnv, hf1', hf2', hol, hor, hkp⟩ := hrel
            obtain ⟨wi, rfl⟩ : ∃ wi : World, wi = wr := ⟨_, rfl⟩
            have RO := Lib.hid (rowTo_ok (P := PairIn a b) SO.out.nodup SO.out.le SO.out.all j (fun i hi => FI.out p i PP.out (by omega)) hr)
            obtain ⟨M, hM⟩ : ∃ M, M = r.1.length := ⟨_, rfl⟩
            have hMf : M ≤ f := by have := RO.out.le; omega
            rw [← hM] at hlv hrv
            obtain ⟨l3, lc3, rfl⟩ := ownsRow_form hlv
            obtain ⟨r3, rc3, rfl⟩ := ownsRow_form hrv
            obtain ⟨n3, nc3, rfl⟩ := ownsRow_form hnv
            have LVi := Lib.hid hlv
            have RVi := Lib.hid hrv
            have NVi := Lib.hid hnv
            have FLRi := Lib.hid hfar
            have FLN := Lib.hid hf1'
            have FRN := Lib.hid hf2'
            have OL := Lib.hid hol
            have OR := Lib.hid hor
            have KP := Lib.hid hkp
            have HR := Lib.hid hr
            have HM := Lib.hid hM
            have hk5 : Keeps (fun x => x < n7) wa wi := hkp.mono fun x hx => ⟨by omega, fun e => by have := (HFU1.out x e).1; omega, fun e => by have := (HFU2.out x e).1; omega⟩
            have Q4 := Lib.hid (I4.out.keeps hk5 (by omega))
            have Q5 := Lib.hid (I5.out.keeps hk5 (by omega))
            have Q8 := Lib.hid (I8.out.keeps hk5 (by omega))
            have Q10 := Lib.hid (I10.out.keeps hk5 (by omega))
            have QL := Lib.hid (ownsRow_keeps IL.out hk5 fun x e => by have := (hLT.out x e).2.2; omega)
            have QX : Hid (Below w.heap.size w wi) := Lib.hid (IX.out.trans (hk5.mono fun x hx => by have : x < w.heap.size := hx; omega : Keeps (· < w.heap.size) wa wi).below)
            have hszi : wa.heap.size ≤ wi.heap.size := hkp.size
            clear hlv hrv hfar hnv hf1' hf2' hol hor hkp hr hM hk5
            by_cases hjk : j < k
            · -- [BODY
              have hji : (j : Int) < k := by omega
              have hpre : r.1[n]? = some p := by
                obtain ⟨ys, hys⟩ := RO.out.pre
                have h5 := (List.getElem?_eq_some_iff.1 HPn.out).1
                rw [← hys, List.getElem?_append_left h5]
                exact HPn.out
              have hnM : n < M := by rw [HM.out]; exact (List.getElem?_eq_some_iff.1 hpre).1
              have hnMi : (n : Int) < M := by omega
              obtain ⟨gl, ul, rfl, hgl1, hgl2, hul, cl, _⟩ := rowCell LVi.out hnM
              obtain ⟨gr, ur, rfl, hgr1, hgr2, hur, cr, _⟩ := rowCell RVi.out hnM
              rw [List.getElem?_map, hpre] at hul hur
              cases hul
              cases hur
              replace cl : wi.cell? ⟨gl, n, none⟩ = some (.int .i64 p.1) := cl
              replace cr : wi.cell? ⟨gr, n, none⟩ = some (.int .i64 p.2) := cr
              obtain ⟨gm, um, rfl, hgm1, hgm2, hum, cm, _⟩ := rowCell QL.out hjk
              rw [List.getElem?_map, LE.out j hjk] at hum
              cases hum
              have hlb := LB.out j hjk
              obtain ⟨c, hc⟩ : ∃ c, c = lb P j := ⟨_, rfl⟩
              rw [← hc] at hlb
              replace cm : wi.cell? ⟨gm, j, none⟩ = some (.int .i64 c) := by rw [hc]; exact cm
              have hFE := FE.out p j
              rw [← hc] at hFE
              obtain ⟨q1, hq1⟩ : ∃ q, q = cls a.cl c := ⟨_, rfl⟩
              obtain ⟨q2, hq2⟩ : ∃ q, q = cls b.cl c := ⟨_, rfl⟩
              have hqa : q1 < a.cl.length := by rw [hq1]; exact RA.out.part.cls_lt hlb
              have hqb : q2 < b.cl.length := by rw [hq2]; exact RB.out.part.cls_lt hlb
              obtain ⟨y1, hy1⟩ : ∃ t, t = nxt a p.1 q1 := ⟨_, rfl⟩
              obtain ⟨y2, hy2⟩ : ∃ t, t = nxt b p.2 q2 := ⟨_, rfl⟩
              rw [← hq1, ← hq2, ← hy1, ← hy2] at hFE
              have hp1 := PP.out.1
              have hp2 := PP.out.2
              obtain ⟨ra0, hra⟩ : ∃ l, a.nx[p.1]? = some l := ⟨_, List.getElem?_eq_getElem hp1⟩
              obtain ⟨rb0, hrb⟩ : ∃ l, b.nx[p.2]? = some l := ⟨_, List.getElem?_eq_getElem hp2⟩
              have hra1 : ra0[q1]? = some (y1 : Int) := by have := RA.out.nxt_cell hp1 hqa; rw [getD_some hra, ← hy1] at this; exact this
              have hrb1 : rb0[q2]? = some (y2 : Int) := by have := RB.out.nxt_cell hp2 hqb; rw [getD_some hrb, ← hy2] at this; exact this
              obtain ⟨b1, o1, al1, cl1, z1, hb1, c11, s11⟩ := (H1.out.below QX.out).elem hra
              obtain ⟨b2, o2, al2, cl2, z2, hb2, c22, s22⟩ := (G1.out.below QX.out).elem hrb
              cases z1
              cases z2
              obtain ⟨b3, o3, z3, hb3, c13⟩ := s11.elem hra1
              obtain ⟨b6, o6, z6, hb6, c23⟩ := s22.elem hrb1
              cases z3
              cases z6
              replace c13 : wi.cell? ⟨b3, o3 + q1, none⟩ = some (.int .i64 y1) := c13
              replace c23 : wi.cell? ⟨b6, o6 + q2, none⟩ = some (.int .i64 y2) := c23
              have hqr1 := (List.getElem?_eq_some_iff.1 hra1).1
              have hqr2 := (List.getElem?_eq_some_iff.1 hrb1).1
              rw [← HNa.out] at hp1
              rw [← HNb.out] at hp2
              have e1i : (p.1 : Int) < Na := by omega
              have e2i : (p.2 : Int) < Nb := by omega
              have e3i : (q1 : Int) < ra0.length := by omega
              have e4i : (q2 : Int) < rb0.length := by omega
              have hcw : IntKind.u8.wrap (c : Int) = c := IntWalk.u8_in _ ⟨by omega, by omega⟩
              have CA : Hid (∀ W, Below w.heap.size w W → Calls Tryz.prog 44 #[.agg #[.slice (some ⟨ba, oa, none⟩) Ka c0, .slice (some ⟨b1, o1, none⟩) Na c1, .slice a2 Na c2], .int .u8 c] W fun e w' => e = .returned (.int .i64 q1) ∧ Below W.heap.size W w') := Lib.hid fun W hW => by rw [hq1]; exact CC.out c hlb W hW
              have CB : Hid (∀ W, Below w.heap.size w W → Calls Tryz.prog 44 #[.agg #[.slice (some ⟨bb, ob, none⟩) Kb k0, .slice (some ⟨b2, o2, none⟩) Nb k1, .slice e2 Nb k2], .int .u8 c] W fun e w' => e = .returned (.int .i64 q2) ∧ Below W.heap.size W w') := Lib.hid fun W hW => by rw [hq2]; exact CC'.out c hlb W hW
              have HFE := Lib.hid hFE
              obtain ⟨j1, hj1⟩ : ∃ n, n = ra0.length := ⟨_, rfl⟩
              obtain ⟨j2, hj2⟩ : ∃ n, n = rb0.length := ⟨_, rfl⟩
              rw [← hj1] at c11 hqr1 e3i
              rw [← hj2] at c22 hqr2 e4i
              clear hra hrb hra1 hrb1 s11 s22 hq1 hq2 hy1 hy2 hFE hqa hqb hc hpre hj1 hj2
              have PKA := Lib.hid (And.intro CC (And.intro CC' (And.intro CS (And.intro AG (And.intro OK (And.intro FI (And.intro EN (And.intro ES (And.intro FE (And.intro LB (And.intro LE (And.intro HK (And.intro H0 (And.intro H1 (And.intro H2 (And.intro G0 (And.intro G1 (And.intro G2 (And.intro HKa (And.intro HKb (And.intro HNa (And.intro HNb (And.intro HMA (And.intro HMB (And.intro RA (And.intro RB (And.intro HP (And.intro hLT (And.intro J4 (And.intro J5 (And.intro J8 (And.intro J10 (And.intro JL (And.intro JX (And.intro J13 (And.intro PO (And.intro HN7 (And.intro ST (And.intro LV (And.intro RV (And.intro FLR (And.intro BO (And.intro UL (And.intro ML (And.intro NX (And.intro MK (And.intro FN (And.intro US (And.intro MS (And.intro FU (And.intro HX (And.intro HL (And.intro HL2 (And.intro I4 (And.intro I5 (And.intro I8 (And.intro I10 (And.intro IL (And.intro IX (And.intro PP (And.intro HPn (And.intro HFU1 (And.intro HFU2 (And.intro RO (And.intro LVi (And.intro RVi (And.intro NVi (And.intro FLRi (And.intro FLN (And.intro FRN (And.intro OL (And.intro OR (And.intro KP (And.intro HR (And.intro HM (And.intro Q8 (And.intro Q10 (And.intro QL (HFE)))))))))))))))))))))))))))))))))))))))))))))))))))))))))))))))))))))))))))))))
              clear CC CC' CS AG OK FI EN ES FE LB LE HK H0 H1 H2 G0 G1 G2 HKa HKb HNa HNb HMA HMB RA RB HP hLT J4 J5 J8 J10 JL JX J13 PO HN7 ST LV RV FLR BO UL ML NX MK FN US MS FU HX HL HL2 I4 I5 I8 I10 IL IX PP HPn HFU1 HFU2 RO LVi RVi NVi FLRi FLN FRN OL OR KP HR HM Q8 Q10 QL HFE
              have i40 := Q4.out.cell 0
              have i41 := Q4.out.cell 1
              have i42 := Q4.out.cell 2
              replace i40 : wi.cell? ⟨w.heap.size, 0, none⟩ = some (.slice (some ⟨ba, oa, none⟩) Ka c0) := i40
              replace i41 : wi.cell? ⟨w.heap.size, 1, none⟩ = some (.slice (some ⟨b1, o1, none⟩) Na c1) := i41
              replace i42 : wi.cell? ⟨w.heap.size, 2, none⟩ = some (.slice a2 Na c2) := i42
              have hl4i := Q4.out.lt
              have hl5i := Q5.out.lt
              go_wp2
              refine wp_region_reg false (fun _ => False) (by kernel_rfl) 18 [0, 1, 0, 0, 12, 28, 63, 127, 0, 0, 0, 1536, 3584, 7680, 16128, 32767, 65535, 131071] (fun i => i == 14) (by kernel_rfl) (fun i => if i = 14 then Eff.det _ (.int .i64 q1) else Eff.any _) ?_
              intro C hC hne
              have HC := Lib.hid hC
              have f40 := regCell hC (p := ⟨w.heap.size, 0, none⟩) hl4i (fun h => h) i40
              have f41 := regCell hC (p := ⟨w.heap.size, 1, none⟩) hl4i (fun h => h) i41
              have f42 := regCell hC (p := ⟨w.heap.size, 2, none⟩) hl4i (fun h => h) i42
              have fl := regCell hC (p := ⟨gl, n, none⟩) hgl2 (fun h => h) cl
              have fm := regCell hC (p := ⟨gm, j, none⟩) hgm2 (fun h => h) cm
              have f11 := regCell hC (p := ⟨b1, o1 + p.1, none⟩) hb1 (fun h => h) c11
              have f13 := regCell hC (p := ⟨b3, o3 + q1, none⟩) hb3 (fun h => h) c13
              clear hC i40 i41 i42
              repeat (refine regStep (fun K hK => ?_); first | (refine regN rfl ?_; try go_simp; refine hK _ _ ?_; clear hK K) | (refine regF rfl rfl ?_; unfold floatAt; go_simp; refine hK _ _ ?_; clear hK K))
              refine regStep (fun K hK => ?_)
              refine regE rfl rfl (Eff.det _ (.int .i64 q1)) rfl (fun W hW hN => ?_) (fun v hv => ?_)
              · have hM := (HC.out W).1 hW
                clear hW
                go_simp
                refine effT_call ((CA.out _ (QX.out.trans (hM.below.mono QX.out.size))).mono ?_)
                rintro e w9 ⟨rfl, hx⟩
                exact ⟨_, rfl, Move.of_below hx, rfl, trivial⟩
              replace hv : v = _ := hv
              subst hv
              go_simp
              refine hK _ _ ?_
              clear hK K
              repeat (refine regStep (fun K hK => ?_); first | (refine regN rfl ?_; try go_simp; refine hK _ _ ?_; clear hK K) | (refine regF rfl rfl ?_; unfold floatAt; go_simp; refine hK _ _ ?_; clear hK K))
              refine regNil (fun W hW hH => ?_)
              have hM := (HC.out W).1 hW
              have hb := hM.below
              have KW1 : Hid (Below wi.heap.size wi W) := Lib.hid hb
              have kw : ∀ q : Addr, q.block < wi.heap.size → W.cell? q = wi.cell? q := fun q hq => (Keeps.of_below hb (R := (· < wi.heap.size)) fun _ h => h).cell hq
              have cr1 := (kw ⟨gr, n, none⟩ hgr2).trans cr
              have cm1 := (kw ⟨gm, j, none⟩ hgm2).trans cm
              have c221 := (kw ⟨b2, o2 + p.2, none⟩ hb2).trans c22
              have c231 := (kw ⟨b6, o6 + q2, none⟩ hb6).trans c23
              have hsW : wi.heap.size ≤ W.heap.size := hb.size
              have P5 := Lib.hid (Q5.out.below hb hl5i)
              have PX := Lib.hid (QX.out.trans (hb.mono QX.out.size))
              clear hM hW hH HC hb kw f40 f41 f42 fl fm f11 f13 cl cm cr c11 c13 c22 c23 CA
              have i50 := P5.out.cell 0
              have i51 := P5.out.cell 1
              have i52 := P5.out.cell 2
              replace i50 : W.cell? ⟨w.heap.size + 1, 0, none⟩ = some (.slice (some ⟨bb, ob, none⟩) Kb k0) := i50
              replace i51 : W.cell? ⟨w.heap.size + 1, 1, none⟩ = some (.slice (some ⟨b2, o2, none⟩) Nb k1) := i51
              replace i52 : W.cell? ⟨w.heap.size + 1, 2, none⟩ = some (.slice e2 Nb k2) := i52
              have hl5w := P5.out.lt
              go_wp2
              refine wp_region_reg false (fun _ => False) (by kernel_rfl) 18 [0, 1, 0, 0, 12, 28, 63, 127, 0, 0, 0, 1536, 3584, 7680, 16128, 32767, 65535, 131071] (fun i => i == 14) (by kernel_rfl) (fun i => if i = 14 then Eff.det _ (.int .i64 q2) else Eff.any _) ?_
              intro C hC hne
              have HC := Lib.hid hC
              have f50 := regCell hC (p := ⟨w.heap.size + 1, 0, none⟩) hl5w (fun h => h) i50
              have f51 := regCell hC (p := ⟨w.heap.size + 1, 1, none⟩) hl5w (fun h => h) i51
              have f52 := regCell hC (p := ⟨w.heap.size + 1, 2, none⟩) hl5w (fun h => h) i52
              have fr := regCell hC (p := ⟨gr, n, none⟩) (by show gr < W.heap.size; omega) (fun h => h) cr1
              have fm := regCell hC (p := ⟨gm, j, none⟩) (by show gm < W.heap.size; omega) (fun h => h) cm1
              have f21 := regCell hC (p := ⟨b2, o2 + p.2, none⟩) (by show b2 < W.heap.size; omega) (fun h => h) c221
              have f23 := regCell hC (p := ⟨b6, o6 + q2, none⟩) (by show b6 < W.heap.size; omega) (fun h => h) c231
              clear hC i50 i51 i52 cr1 cm1 c221 c231
              repeat (refine regStep (fun K hK => ?_); first | (refine regN rfl ?_; try go_simp; refine hK _ _ ?_; clear hK K) | (refine regF rfl rfl ?_; unfold floatAt; go_simp; refine hK _ _ ?_; clear hK K))
              refine regStep (fun K hK => ?_)
              refine regE rfl rfl (Eff.det _ (.int .i64 q2)) rfl (fun W hW hN => ?_) (fun v hv => ?_)
              · have hM := (HC.out W).1 hW
                clear hW
                go_simp
                refine effT_call ((CB.out _ (PX.out.trans (hM.below.mono PX.out.size))).mono ?_)
                rintro e w9 ⟨rfl, hx⟩
                exact ⟨_, rfl, Move.of_below hx, rfl, trivial⟩
              replace hv : v = _ := hv
              subst hv
              go_simp
              refine hK _ _ ?_
              clear hK K
              repeat (refine regStep (fun K hK => ?_); first | (refine regN rfl ?_; try go_simp; refine hK _ _ ?_; clear hK K) | (refine regF rfl rfl ?_; unfold floatAt; go_simp; refine hK _ _ ?_; clear hK K))
              refine regNil (fun W2 hW hH => ?_)
              have hM := (HC.out W2).1 hW
              have KW2 : Hid (Below wi.heap.size wi W2) := Lib.hid (KW1.out.trans (hM.below.mono hsW))
              clear hM hW hH HC f50 f51 f52 fr fm f21 f23 CB P5 PX KW1
              obtain ⟨CC, CC', CS, AG, OK, FI, EN, ES, FE, LB, LE, HK, H0, H1, H2, G0, G1, G2, HKa, HKb, HNa, HNb, HMA, HMB, RA, RB, HP, hLT, J4, J5, J8, J10, JL, JX, J13, PO, HN7, ST, LV, RV, FLR, BO, UL, ML, NX, MK, FN, US, MS, FU, HX, HL, HL2, I4, I5, I8, I10, IL, IX, PP, HPn, HFU1, HFU2, RO, LVi, RVi, NVi, FLRi, FLN, FRN, OL, OR, KP, HR, HM, Q8, Q10, QL, HFE⟩ := PKA.out
              clear PKA
              skip --M0
              have LV2 := Lib.hid (ownsRow_below LVi.out KW2.out)
              have RV2 := Lib.hid (ownsRow_below RVi.out KW2.out)
              have NV2 := Lib.hid (ownsRow_below NVi.out KW2.out)
              have K2 := Lib.hid (KP.out.tr (Keeps.of_below KW2.out fun x hx => by have := hx.1; omega))
              have hs2 : wi.heap.size ≤ W2.heap.size := KW2.out.size
              have CLl : Hid (∀ (t : Nat) (z : Nat × Nat), r.1[t]? = some z → W2.cell? ⟨gl, t, none⟩ = some (.int .i64 z.1) ∧ W2.cell? ⟨gr, t, none⟩ = some (.int .i64 z.2)) := Lib.hid fun t z hz => by
                have htM : t < M := by rw [HM.out]; exact (List.getElem?_eq_some_iff.1 hz).1
                obtain ⟨_, x1, z1, _, _, w1, w2, _⟩ := rowCell LV2.out htM
                obtain ⟨_, x2, z2, _, _, w3, w4, _⟩ := rowCell RV2.out htM
                cases z1
                cases z2
                rw [List.getElem?_map, hz] at w1 w3
                cases w1
                cases w3
                exact ⟨w2, w4⟩
              obtain ⟨ix, hix⟩ : ∃ i, i = plcOf (y1, y2) r.1 := ⟨_, rfl⟩
              have hixM : ix ≤ M := by rw [hix, HM.out]; exact plcOf_le _ _
              have HIX := Lib.hid hix
              have CLm : Hid (∀ t, t < M → t = ix → r.1[t]? = some (y1, y2)) := Lib.hid fun t h1 h2 => by
                have h5 := plcOf_at (q := (y1, y2)) (l := r.1) (by rw [← hix, ← h2, ← HM.out]; exact h1)
                rwa [← hix, ← h2] at h5
              clear hix LVi RVi NVi KP Q4 Q5
              have PKB := Lib.hid (And.intro CC (And.intro CC' (And.intro CS (And.intro AG (And.intro OK (And.intro FI (And.intro EN (And.intro ES (And.intro FE (And.intro LB (And.intro LE (And.intro HK (And.intro H0 (And.intro H1 (And.intro H2 (And.intro G0 (And.intro G1 (And.intro G2 (And.intro HKa (And.intro HKb (And.intro HNa (And.intro HNb (And.intro HMA (And.intro HMB (And.intro RA (And.intro RB (And.intro HP (And.intro hLT (And.intro J4 (And.intro J5 (And.intro J8 (And.intro J10 (And.intro JL (And.intro JX (And.intro J13 (And.intro PO (And.intro HN7 (And.intro ST (And.intro LV (And.intro RV (And.intro FLR (And.intro BO (And.intro UL (And.intro ML (And.intro NX (And.intro MK (And.intro FN (And.intro US (And.intro MS (And.intro FU (And.intro HX (And.intro HL (And.intro HL2 (And.intro I4 (And.intro I5 (And.intro I8 (And.intro I10 (And.intro IL (And.intro IX (And.intro PP (And.intro HPn (And.intro HFU1 (And.intro HFU2 (And.intro RO (And.intro OL (And.intro OR (And.intro HR (And.intro HM (And.intro Q8 (And.intro Q10 (And.intro QL (And.intro QX (And.intro HFE (K2))))))))))))))))))))))))))))))))))))))))))))))))))))))))))))))))))))))))))
              clear CC CC' CS AG OK FI EN ES FE LB LE HK H0 H1 H2 G0 G1 G2 HKa HKb HNa HNb HMA HMB RA RB HP hLT J4 J5 J8 J10 JL JX J13 PO HN7 ST LV RV FLR BO UL ML NX MK FN US MS FU HX HL HL2 I4 I5 I8 I10 IL IX PP HPn HFU1 HFU2 RO OL OR HR HM Q8 Q10 QL QX HFE K2
              skip --M1
              go_wp2
              go_loopw [22] (fun tv wr => ∃ t : Nat, t ≤ ix ∧ tv = .int .i64 t ∧ wr = W2) (fun tv _ => M - (intOf tv).toNat)
              case atStart => exact ⟨0, Nat.zero_le _, rfl, rfl⟩
              case round =>
                obtain ⟨t, ht, rfl, rfl⟩ := hrel
                skip --M2
                by_cases htx : t < ix
                · -- [SEEK
                  obtain ⟨z, hz⟩ : ∃ z, r.1[t]? = some z := ⟨_, List.getElem?_eq_getElem (by rw [HIX.out] at htx; exact Nat.lt_of_lt_of_le htx (plcOf_le _ _))⟩
                  obtain ⟨k1, k2⟩ := CLl.out t z hz
                  have hne : z ≠ (y1, y2) := plcOf_before (by rw [← HIX.out]; exact htx) hz
                  have htM : t < M := by omega
                  have htMi : (t : Int) < M := by omega
                  obtain ⟨z1, z2⟩ := z
                  by_cases hz1 : z1 = y1
                  · have hz2 : z2 ≠ y2 := fun e => hne (by rw [hz1, e])
                    subst hz1
                    have hb2 : ((z2 : Int) != (y2 : Int)) = true := by rw [bne_iff_ne]; omega
                    clear hne hz hz2
                    go_wp2
                    skip --M3
                    go_roundw
                    case rel => exact ⟨t + 1, by omega, by go_num, trivial⟩
                    case measure => simp [intOf]; omega
                  · have hb1 : ((z1 : Int) != (y1 : Int)) = true := by rw [bne_iff_ne]; omega
                    clear hne hz hz1
                    go_wp2
                    skip --M4
                    go_roundw
                    case rel => exact ⟨t + 1, by omega, by go_num, trivial⟩
                    case measure => simp [intOf]; omega
                  -- SEEK]
                · obtain rfl : t = ix := by omega
                  have hwa2 : wa.heap.size ≤ wr.heap.size := by omega
                  have hn7w : n7 ≤ wr.heap.size := by omega
                  have hMf' : M ≤ 4000 := by omega
                  have hj4 : j ≤ 256 := by omega
                  by_cases hold : t < M
                  · -- [OLD
                    obtain ⟨k1, k2⟩ := CLl.out t (y1, y2) (CLm.out t hold rfl)
                    have htMi : (t : Int) < M := by omega
                    have hMb : ((t : Int) == (M : Int)) = false := by rw [beq_eq_false_iff_ne]; omega
                    go_wp2_with (at_builtin; refine wpList_append_own_at _ rfl (.tmp 161) (.tmp 163) 36 rfl wa.heap.size 3 iI (.int .i64 0) 1 8 Tryz.underlying36 hiI hzI0 hzI1 hzI2 rfl (by decide) _ _ _ rfl (NV2.out.alloc _) ⟨_, 0, none⟩ 1 1 [.int .i64 t] rfl rfl (news_blk (Blk.new _ _ _)) (by intro u hu; simp at hu; rw [hu]; rfl) (by unfold maxLen; omega) (by omega) (by simp; omega) ?_; intro v' w8 hown' hgrow hh hat; refine Hid.out ?_)
                    refine Lib.hid ?_
                    skip --M5
                    have HG := Lib.hid hgrow
                    have HO8 := Lib.hid hown'
                    have HAT := Lib.hid hat
                    obtain ⟨n8, nc8, rfl⟩ := ownsRow_form hown'
                    clear hgrow hown' hh hat k1 k2
                    go_wp2
                    skip --M6
                    obtain ⟨CC, CC', CS, AG, OK, FI, EN, ES, FE, LB, LE, HK, H0, H1, H2, G0, G1, G2, HKa, HKb, HNa, HNb, HMA, HMB, RA, RB, HP, hLT, J4, J5, J8, J10, JL, JX, J13, PO, HN7, ST, LV, RV, FLR, BO, UL, ML, NX, MK, FN, US, MS, FU, HX, HL, HL2, I4, I5, I8, I10, IL, IX, PP, HPn, HFU1, HFU2, RO, OL, OR, HR, HM, Q8, Q10, QL, QX, HFE, K2⟩ := PKB.out
                    go_roundw
                    case rel =>
                      refine ⟨rfl, j + 1, (r.1, r.2 ++ [t]), by omega, ?_, by go_num, by rw [← HM.out]; exact (LV2.out.alloc _).kept HG.out FLN.out, by rw [← HM.out]; exact (RV2.out.alloc _).kept HG.out FRN.out, FLRi.out, ?_, Far.grow FLN.out HAT.out (fun b e => by have := (LV2.out.lt b e).2; simp; omega), Far.grow FRN.out HAT.out (fun b e => by have := (RV2.out.lt b e).2; simp; omega), OL.out, OR.out, ?_⟩
                      · rw [rowTo, HR.out]
                        show addQ f r (F p j) = _
                        have hmem : (y1, y2) ∈ r.1 := List.mem_of_getElem? (CLm.out t hold rfl)
                        rw [HFE.out, addQ_ix hmem, ← HIX.out]
                      · show w8.ownsRow _ _ _ _ _ (((r.2 ++ [t]).map Int.ofNat).map encZ)
                        rw [List.map_append, List.map_append]
                        exact HO8.out
                      · refine (K2.out.alloc (fun x hx => by have := hx.1; omega) _).tr (Keeps.of_grown HG.out fun x hx => ⟨by have := hx.1; simp; omega, fun e => ?_⟩)
                        have := (NV2.out.lt x e.symm).1
                        have := hx.1
                        omega
                    case measure => simp [intOf]; omega
                    -- OLD]
                  · obtain rfl : M = t := by omega
                    have hnm : Hid ((y1, y2) ∉ r.1) := Lib.hid fun hm => by
                      obtain ⟨CC, CC', CS, AG, OK, FI, EN, ES, FE, LB, LE, HK, H0, H1, H2, G0, G1, G2, HKa, HKb, HNa, HNb, HMA, HMB, RA, RB, HP, hLT, J4, J5, J8, J10, JL, JX, J13, PO, HN7, ST, LV, RV, FLR, BO, UL, ML, NX, MK, FN, US, MS, FU, HX, HL, HL2, I4, I5, I8, I10, IL, IX, PP, HPn, HFU1, HFU2, RO, OL, OR, HR, HM, Q8, Q10, QL, QX, HFE, K2⟩ := PKB.out
                      have h5 := plcOf_mem hm
                      rw [← HIX.out, ← HM.out] at h5
                      omega
                    by_cases hMe : M = f
                    · -- [FULL
                      have d6 : ((M : Int) == f) = true := by rw [beq_iff_eq]; omega
                      have hq8 : Hid (Blk wr (w.heap.size + 2) #[.slice none 0 0, .slice none 0 0, .slice none 0 0] 42 ∧ Blk wr (w.heap.size + 3) #[.slice none 0 0, .slice none 0 0, .slice none 0 0] 42 ∧ Below w.heap.size w wr) := by
                        obtain ⟨CC, CC', CS, AG, OK, FI, EN, ES, FE, LB, LE, HK, H0, H1, H2, G0, G1, G2, HKa, HKb, HNa, HNb, HMA, HMB, RA, RB, HP, hLT, J4, J5, J8, J10, JL, JX, J13, PO, HN7, ST, LV, RV, FLR, BO, UL, ML, NX, MK, FN, US, MS, FU, HX, HL, HL2, I4, I5, I8, I10, IL, IX, PP, HPn, HFU1, HFU2, RO, OL, OR, HR, HM, Q8, Q10, QL, QX, HFE, K2⟩ := PKB.out
                        exact Lib.hid ⟨Q8.out.below KW2.out Q8.out.lt, Q10.out.below KW2.out Q10.out.lt, QX.out.trans (KW2.out.mono QX.out.size)⟩
                      obtain ⟨⟨s0, s1, s2⟩, _⟩ := hq8.out.2.1.three
                      obtain ⟨⟨m0, m1, m2⟩, z0, z1, z2⟩ := hq8.out.1.three
                      go_wp2
                      refine post_named ?_
                      intro W9 hW9
                      have E9 : Hid (Blk W9 (w.heap.size + 2) #[.slice none 0 0, .slice none 0 0, .slice none 0 0] 42 ∧ Below w.heap.size w W9) := by
                        rw [hW9]
                        exact Lib.hid ⟨hq8.out.1.set3, below_set3 hq8.out.2.2 (by omega)⟩
                      clear hW9 s0 s1 s2 m0 m1 m2 z0 z1 z2
                      obtain ⟨⟨m0, m1, m2⟩, _⟩ := E9.out.1.three
                      refine bodyPost_ret (v := .tuple #[.agg #[.slice none 0 0, .slice none 0 0, .slice none 0 0], .int .i64 181]) (by simp [results, Tryz.results17, go_sem, m0, m1, m2]) rfl ?_
                      obtain ⟨CC, CC', CS, AG, OK, FI, EN, ES, FE, LB, LE, HK, H0, H1, H2, G0, G1, G2, HKa, HKb, HNa, HNb, HMA, HMB, RA, RB, HP, hLT, J4, J5, J8, J10, JL, JX, J13, PO, HN7, ST, LV, RV, FLR, BO, UL, ML, NX, MK, FN, US, MS, FU, HX, HL, HL2, I4, I5, I8, I10, IL, IX, PP, HPn, HFU1, HFU2, RO, OL, OR, HR, HM, Q8, Q10, QL, QX, HFE, K2⟩ := PKB.out
                      have hnone : rowTo f (F p) st.1 (j + 1) = none := by
                        rw [rowTo, HR.out]
                        show addQ f r (F p j) = none
                        rw [HFE.out]
                        exact addQ_full hnm.out (by rw [← HM.out]; exact hMe)
                      have hst1 : stTo f F k (0, 0) (n + 1) = none := by
                        rw [stTo, ST.out]
                        show stStep f F k n st = none
                        unfold stStep
                        rw [HPn.out]
                        show (rowTo f (F p) st.1 k).map _ = none
                        rw [rowTo_none hnone k (by omega)]
                        rfl
                      have hpe := EN.out (n + 1) hst1 (by omega)
                      rw [hpe]
                      exact ⟨_, rfl, ⟨_, _, _, rfl, .inl ⟨rfl, rfl⟩, IsLL.nil _, IsLL.nil _⟩, E9.out.2⟩
                      -- FULL]
                    · have d6 : ((M : Int) == f) = false := by rw [beq_eq_false_iff_ne]; omega
                      go_wp2_with (at_builtin; refine wpList_append_own_at _ rfl (.tmp 153) (.tmp 155) 36 rfl n7 3 iI (.int .i64 0) 1 8 Tryz.underlying36 hiI hzI0 hzI1 hzI2 rfl (by decide) _ _ _ rfl (LV2.out.alloc _) ⟨_, 0, none⟩ 1 1 [.int .i64 y1] rfl rfl (news_blk (Blk.new _ _ _)) (by intro u hu; simp at hu; rw [hu]; rfl) (by unfold maxLen; omega) (by omega) (by simp; omega) ?_; intro v' w8 hown' hgrow hh hat; refine Hid.out ?_)
                      refine Lib.hid ?_
                      have HG1 := Lib.hid hgrow
                      have LV8 := Lib.hid hown'
                      have HA1 := Lib.hid hat
                      obtain ⟨l8, lc8, rfl⟩ := ownsRow_form hown'
                      have RV8 := Lib.hid ((RV2.out.alloc (.cells #[.int .i64 y1] 3)).kept HG1.out (Far.symm' FLRi.out))
                      have NV8 := Lib.hid ((NV2.out.alloc (.cells #[.int .i64 y1] 3)).kept HG1.out (Far.symm' FLN.out))
                      have F8a := Lib.hid (Far.grow (Far.symm' FLRi.out) HA1.out (fun b e => by have := (RV2.out.lt b e).2; simp; omega))
                      have F8b := Lib.hid (Far.grow (Far.symm' FLN.out) HA1.out (fun b e => by have := (NV2.out.lt b e).2; simp; omega))
                      have hs8 : wr.heap.size < w8.heap.size := by have := HG1.out.size; simp at this; omega
                      clear hgrow hown' hh hat
                      go_wp2_with (at_builtin; refine wpList_append_own_at _ rfl (.tmp 157) (.tmp 159) 36 rfl n7 3 iI (.int .i64 0) 1 8 Tryz.underlying36 hiI hzI0 hzI1 hzI2 rfl (by decide) _ _ _ rfl (RV8.out.alloc _) ⟨_, 0, none⟩ 1 1 [.int .i64 y2] rfl rfl (news_blk (Blk.new _ _ _)) (by intro u hu; simp at hu; rw [hu]; rfl) (by unfold maxLen; omega) (by omega) (by simp; omega) ?_; intro v' w9 hown' hgrow hh hat; refine Hid.out ?_)
                      refine Lib.hid ?_
                      have HG2 := Lib.hid hgrow
                      have RV9 := Lib.hid hown'
                      have HA2 := Lib.hid hat
                      obtain ⟨r8, rc8, rfl⟩ := ownsRow_form hown'
                      have LV9 := Lib.hid ((LV8.out.alloc (.cells #[.int .i64 y2] 3)).kept HG2.out (Far.symm' F8a.out))
                      have NV9 := Lib.hid ((NV8.out.alloc (.cells #[.int .i64 y2] 3)).kept HG2.out (Far.symm' FRN.out))
                      have F9a := Lib.hid (Far.grow (Far.symm' F8a.out) HA2.out (fun b e => by have := (LV8.out.lt b e).2; simp; omega))
                      have F9b := Lib.hid (Far.grow (Far.symm' FRN.out) HA2.out (fun b e => by have := (NV8.out.lt b e).2; simp; omega))
                      have hs9 : w8.heap.size < w9.heap.size := by have := HG2.out.size; simp at this; omega
                      clear hgrow hown' hh hat
                      go_wp2_with (at_builtin; refine wpList_append_own_at _ rfl (.tmp 161) (.tmp 163) 36 rfl wa.heap.size 3 iI (.int .i64 0) 1 8 Tryz.underlying36 hiI hzI0 hzI1 hzI2 rfl (by decide) _ _ _ rfl (NV9.out.alloc _) ⟨_, 0, none⟩ 1 1 [.int .i64 M] rfl rfl (news_blk (Blk.new _ _ _)) (by intro u hu; simp at hu; rw [hu]; rfl) (by unfold maxLen; omega) (by omega) (by simp; omega) ?_; intro v' w10 hown' hgrow hh hat; refine Hid.out ?_)
                      refine Lib.hid ?_
                      have HG3 := Lib.hid hgrow
                      have NV10 := Lib.hid hown'
                      have HA3 := Lib.hid hat
                      obtain ⟨n8, nc8, rfl⟩ := ownsRow_form hown'
                      have LV10 := Lib.hid ((LV9.out.alloc (.cells #[.int .i64 M] 3)).kept HG3.out (Far.symm' F8b.out))
                      have RV10 := Lib.hid ((RV9.out.alloc (.cells #[.int .i64 M] 3)).kept HG3.out (Far.symm' F9b.out))
                      have F10a := Lib.hid (Far.grow (Far.symm' F8b.out) HA3.out (fun b e => by have := (LV9.out.lt b e).2; simp; omega))
                      have F10b := Lib.hid (Far.grow (Far.symm' F9b.out) HA3.out (fun b e => by have := (RV9.out.lt b e).2; simp; omega))
                      clear hgrow hown' hh hat
                      go_wp2
                      obtain ⟨CC, CC', CS, AG, OK, FI, EN, ES, FE, LB, LE, HK, H0, H1, H2, G0, G1, G2, HKa, HKb, HNa, HNb, HMA, HMB, RA, RB, HP, hLT, J4, J5, J8, J10, JL, JX, J13, PO, HN7, ST, LV, RV, FLR, BO, UL, ML, NX, MK, FN, US, MS, FU, HX, HL, HL2, I4, I5, I8, I10, IL, IX, PP, HPn, HFU1, HFU2, RO, OL, OR, HR, HM, Q8, Q10, QL, QX, HFE, K2⟩ := PKB.out
                      go_roundw
                      case rel =>
                        refine ⟨rfl, j + 1, (r.1 ++ [(y1, y2)], r.2 ++ [M]), by omega, ?_, by go_num, ?_, ?_, F9a.out, ?_, F10a.out, F10b.out, ?_, ?_, ?_⟩
                        · rw [rowTo, HR.out]
                          show addQ f r (F p j) = _
                          rw [HFE.out, addQ_new hnm.out (by rw [← HM.out]; exact hMe), ← HM.out]
                        · show w10.ownsRow _ _ _ _ (r.1 ++ [(y1, y2)]).length ((r.1 ++ [(y1, y2)]).map _)
                          rw [List.map_append, List.length_append, ← HM.out]
                          exact LV10.out
                        · show w10.ownsRow _ _ _ _ (r.1 ++ [(y1, y2)]).length ((r.1 ++ [(y1, y2)]).map _)
                          rw [List.map_append, List.length_append, ← HM.out]
                          exact RV10.out
                        · show w10.ownsRow _ _ _ _ _ (((r.2 ++ [M]).map Int.ofNat).map encZ)
                          rw [List.map_append, List.map_append]
                          exact NV10.out
                        · rcases HA1.out with h5 | h5
                          · rw [h5]; exact OL.out
                          · right; intro x e; rw [h5] at e; injection e with e; simp at e; omega
                        · rcases HA2.out with h5 | h5
                          · rw [h5]; exact OR.out
                          · right; intro x e; rw [h5] at e; injection e with e; simp at e; omega
                        · refine (((((K2.out.alloc (fun x hx => by have := hx.1; omega) (.cells #[.int .i64 y1] 3)).tr (Keeps.of_grown HG1.out fun x hx => ⟨by have := hx.1; simp; omega, fun e => ?_⟩)).alloc (fun x hx => by have := hx.1; omega) (.cells #[.int .i64 y2] 3)).tr (Keeps.of_grown HG2.out fun x hx => ⟨by have := hx.1; simp; omega, fun e => ?_⟩)).alloc (fun x hx => by have := hx.1; omega) (.cells #[.int .i64 M] 3)).tr (Keeps.of_grown HG3.out fun x hx => ⟨by have := hx.1; simp; omega, fun e => ?_⟩)
                          · rcases OL.out with h5 | h5
                            · exact hx.2.1 (h5.symm.trans e.symm)
                            · have := h5 x e.symm; have := hx.1; omega
                          · rcases OR.out with h5 | h5
                            · exact hx.2.2 (h5.symm.trans e.symm)
                            · have := h5 x e.symm; have := hx.1; omega
                          · have := (NV9.out.lt x e.symm).1; have := hx.1; omega
                      case measure => simp [intOf]; omega
              -- BODY]
            · obtain rfl : j = k := by omega
              have HROW : Hid (stTo f F j (0, 0) (n + 1) = some (r.1, st.2 ++ [r.2])) := Lib.hid (by
                rw [stTo, ST.out]
                show stStep f F j n st = _
                unfold stStep
                rw [HPn.out]
                show (rowTo f (F p) st.1 j).map _ = _
                rw [HR.out]
                rfl)
              have hpre : r.1[n]? = some p := by
                obtain ⟨ys, hys⟩ := RO.out.pre
                have h5 := (List.getElem?_eq_some_iff.1 HPn.out).1
                rw [← hys, List.getElem?_append_left h5]
                exact HPn.out
              have hnM : n < M := by rw [HM.out]; exact (List.getElem?_eq_some_iff.1 hpre).1
              have hnMi : (n : Int) < M := by omega
              have hl2' : (st.2.map fun r => r.map Int.ofNat).length = n := by rw [List.length_map]; exact HL2.out
              have hm2' : ((st.1.take n).map (markOf a b op)).length = n := by rw [List.length_map, List.length_take, ← HL.out]; omega
              have UI : Hid (RowsIn wi n7 us (st.2.map fun r => r.map Int.ofNat)) := Lib.hid (RowsIn.keeps US.out KP.out fun u x hu hx hlt => ⟨hlt, (FU.out u (.inl hu)).1.ne' hx, (FU.out u (.inl hu)).2.ne' hx⟩)
              have MI : Hid (RowsIn wi n7 ms ((st.1.take n).map (markOf a b op))) := Lib.hid (RowsIn.keeps MS.out KP.out fun u x hu hx hlt => ⟨hlt, (FU.out u (.inr hu)).1.ne' hx, (FU.out u (.inr hu)).2.ne' hx⟩)
              have NXi := Lib.hid (ownsRow_keeps NX.out KP.out fun x hx => ⟨(NX.out.lt x hx).2, Far.ne' (ownBlock_ne (by decide) NX.out LV.out) hx, Far.ne' (ownBlock_ne (by decide) NX.out RV.out) hx⟩)
              have MKi := Lib.hid (ownsRow_keeps MK.out KP.out fun x hx => ⟨(MK.out.lt x hx).2, Far.ne' (ownBlock_ne (by decide) MK.out LV.out) hx, Far.ne' (ownBlock_ne (by decide) MK.out RV.out) hx⟩)
              have BOi := Lib.hid (BO.out.keeps KP.out ⟨BO.out.lt, fun e => by have := (HFU1.out _ e).1; omega, fun e => by have := (HFU2.out _ e).1; omega⟩)
              have FUi : Hid (∀ u, u ∈ us ∨ u ∈ ms → Far u (.slice l3 M lc3) ∧ Far u (.slice r3 M rc3)) := Lib.hid fun u hu => by
                have hlt : ∀ b, u.ownBlock = some b → b < wa.heap.size := fun b e => by
                  rcases hu with hu | hu
                  · exact (RowsIn.lt US.out UL.out hl2' hu b e).2
                  · exact (RowsIn.lt MS.out ML.out hm2' hu b e).2
                exact ⟨(FU.out u hu).1.step OL.out hlt, (FU.out u hu).2.step OR.out hlt⟩
              have FNs := Lib.hid (Far.symm' FN.out)
              skip --N0
              have hn4 : n ≤ 4000 := by omega
              have hj4 : j ≤ 256 := by omega
              have hn7i : n7 ≤ wi.heap.size := by omega
              have HPRE := Lib.hid hpre
              have hp1 := PP.out.1
              have hp2 := PP.out.2
              obtain ⟨ma0, hma0⟩ : ∃ l, a.mr[p.1]? = some l := ⟨_, List.getElem?_eq_getElem (by rw [HMA.out]; exact hp1)⟩
              obtain ⟨mb0, hmb0⟩ : ∃ l, b.mr[p.2]? = some l := ⟨_, List.getElem?_eq_getElem (by rw [HMB.out]; exact hp2)⟩
              have HMA0 := Lib.hid hma0
              have HMB0 := Lib.hid hmb0
              obtain ⟨xa, hxa⟩ : ∃ x, x = acc a p.1 := ⟨_, rfl⟩
              obtain ⟨xb, hxb⟩ : ∃ x, x = acc b p.2 := ⟨_, rfl⟩
              have hda : decide ((0 : Int) < (ma0.length : Nat)) = xa := by rw [hxa]; unfold acc; rw [getD_some hma0]; cases ma0 <;> simp <;> omega
              have hdb : decide ((0 : Int) < (mb0.length : Nat)) = xb := by rw [hxb]; unfold acc; rw [getD_some hmb0]; cases mb0 <;> simp <;> omega
              have hmk : markOf a b op p = if saysB op xa xb then [0] else [] := by unfold markOf; rw [hxa, hxb]
              have HMKO := Lib.hid hmk
              have CSx : Hid (∀ W, Calls Tryz.prog 45 #[.int .i64 op, .bool xa, .bool xb] W fun e w' => e = .returned (.bool (saysB op xa xb)) ∧ w' = W) := Lib.hid fun W => CS.out xa xb W
              obtain ⟨sb, hsb⟩ : ∃ x, x = saysB op xa xb := ⟨_, rfl⟩
              rw [← hsb] at CSx HMKO
              rw [← HNa.out] at hp1
              rw [← HNb.out] at hp2
              have e1i : (p.1 : Int) < Na := by omega
              have e2i : (p.2 : Int) < Nb := by omega
              obtain ⟨la1, hla1⟩ : ∃ n, n = ma0.length := ⟨_, rfl⟩
              obtain ⟨lb1, hlb1⟩ : ∃ n, n = mb0.length := ⟨_, rfl⟩
              rw [← hla1] at hda
              rw [← hlb1] at hdb
              have HLA1 := Lib.hid hla1
              have HLB1 := Lib.hid hlb1
              have hda2 : decide (0 < la1) = xa := by rw [← hda]; apply decide_eq_decide.2; omega
              have hdb2 : decide (0 < lb1) = xb := by rw [← hdb]; apply decide_eq_decide.2; omega
              clear hma0 hmb0 hxa hxb hmk hsb hla1 hlb1 hpre CS HMA HMB
              have FLRk := Lib.hid FLRi.out
              have FLNk := Lib.hid FLN.out
              have FRNk := Lib.hid FRN.out
              skip --N1
              have PKC := Lib.hid (And.intro CC (And.intro CC' (And.intro AG (And.intro OK (And.intro FI (And.intro EN (And.intro ES (And.intro FE (And.intro LB (And.intro LE (And.intro HK (And.intro H0 (And.intro H1 (And.intro G0 (And.intro G1 (And.intro HKa (And.intro HKb (And.intro HNa (And.intro HNb (And.intro RA (And.intro RB (And.intro HP (And.intro hLT (And.intro J4 (And.intro J5 (And.intro J8 (And.intro J10 (And.intro JL (And.intro JX (And.intro J13 (And.intro PO (And.intro HN7 (And.intro ST (And.intro LV (And.intro RV (And.intro FLR (And.intro BO (And.intro UL (And.intro ML (And.intro NX (And.intro MK (And.intro FN (And.intro US (And.intro MS (And.intro FU (And.intro HX (And.intro HL (And.intro HL2 (And.intro IL (And.intro IX (And.intro PP (And.intro HPn (And.intro HFU1 (And.intro HFU2 (And.intro RO (And.intro FLN (And.intro FRN (And.intro OL (And.intro OR (And.intro HR (And.intro HM (And.intro QL (And.intro KP (And.intro Q8 (And.intro Q10 (And.intro HROW (FUi)))))))))))))))))))))))))))))))))))))))))))))))))))))))))))))))))))
              clear CC CC' AG OK FI EN ES FE LB LE HK H0 H1 G0 G1 HKa HKb HNa HNb RA RB HP hLT J4 J5 J8 J10 JL JX J13 PO HN7 ST LV RV FLR BO UL ML NX MK FN US MS FU HX HL HL2 IL IX PP HPn HFU1 HFU2 RO FLN FRN OL OR HR HM QL KP Q8 Q10 HROW FUi
              obtain ⟨⟨s0, s1, s2⟩, _⟩ := BOi.out.three
              go_wp2_with (at_builtin; refine wpList_append_own_at _ rfl (.tmp 166) (.tmp 168) 23 rfl n7 36 iL (.slice none 0 0) 1 24 Tryz.underlying23 hiL hzL0 hzL1 hzL2 rfl (by decide) (.slice na n nc) n us rfl (NXi.out.alloc _) ⟨_, 0, none⟩ 1 1 [.slice n3 j nc3] rfl rfl (news_blk (Blk.new _ _ _)) (by simp [Value.oneCell']) (by unfold maxLen; omega) (by omega) (by simp; omega) ?_; intro v' w8 hown' hgrow hh hat; refine Hid.out ?_)
              refine Lib.hid ?_
              skip --N2
              have NX8 := Lib.hid hown'
              have HG := Lib.hid hgrow
              have HA := Lib.hid hat
              obtain ⟨na8, nc8, rfl⟩ := ownsRow_form hown'
              skip --P1
              have LV8 := Lib.hid (row_other NXi.out HG.out LVi.out (by decide))
              have RV8 := Lib.hid (row_other NXi.out HG.out RVi.out (by decide))
              have NV8 := Lib.hid (row_other NXi.out HG.out NVi.out (by decide))
              skip --P2
              have U8 := Lib.hid (RowsIn.other UI.out NXi.out HG.out)
              have M8 := Lib.hid (RowsIn.other MI.out NXi.out HG.out)
              skip --P3
              have MK8 := Lib.hid ((MKi.out.alloc (.cells #[.slice n3 j nc3] 36)).kept HG.out FNs.out)
              have FN8 := Lib.hid (Far.grow FNs.out HA.out (fun b e => by have := (MKi.out.lt b e).2; simp; omega))
              skip --P4
              have K8 : Hid (Keeps (fun x => x < n7) wi w8) := Lib.hid (((Keeps.refl _ wi).alloc (fun x hx => by have : x < n7 := hx; omega) _).tr (Keeps.of_grown HG.out fun x hx => ⟨by have : x < n7 := hx; simp; omega, fun e => by have := (NXi.out.lt x e.symm).1; have : x < n7 := hx; omega⟩))
              have BO8 := Lib.hid (BOi.out.keeps K8.out (by omega))
              skip --P5
              have hs8 : wi.heap.size < w8.heap.size := by have := HG.out.size; simp at this; omega
              clear hgrow hown' hh hat s0 s1 s2 LVi RVi NVi UI MI NXi MKi BOi
              obtain ⟨⟨s0, s1, s2⟩, t0, t1, t2⟩ := BO8.out.three
              skip --N3
              go_wp2
              refine wp_named ?_
              intro W9 hW9
              skip --Q1
              have K9 : Hid (Keeps (· ≠ w5.heap.size) w8 W9) := by rw [hW9]; exact Lib.hid ((Keeps.refl _ _).setCell (p := ⟨w5.heap.size, 1, none⟩) (fun h => h rfl) _)
              have BO9 : Hid (Blk W9 w5.heap.size #[.slice ca j cc, .slice na8 (n + 1) nc8, .slice ma n mc] 42) := by rw [hW9]; exact Lib.hid (BO8.out.set 1 _)
              clear hW9 s0 s1 s2 t0 t1 t2
              have kb9 : ∀ x, n7 ≤ x → x < w8.heap.size → x ≠ w5.heap.size := fun x h1 _ => by omega
              have LV9 := Lib.hid (ownsRow_keepsB LV8.out K9.out kb9)
              have RV9 := Lib.hid (ownsRow_keepsB RV8.out K9.out kb9)
              have NV9 := Lib.hid (ownsRow_keepsB NV8.out K9.out fun x h1 h2 => kb9 x (by omega) h2)
              have NX9 := Lib.hid (ownsRow_keepsB NX8.out K9.out kb9)
              have MK9 := Lib.hid (ownsRow_keepsB MK8.out K9.out kb9)
              have U9 := Lib.hid (RowsIn.keepsB U8.out K9.out kb9)
              have M9 := Lib.hid (RowsIn.keepsB M8.out K9.out kb9)
              have Kq : Hid (Keeps (fun x => x < n7 ∧ x ≠ w5.heap.size) wi W9) := Lib.hid ((K8.out.mono fun x (hx : x < n7 ∧ x ≠ w5.heap.size) => hx.1).tr (K9.out.mono fun x (hx : x < n7 ∧ x ≠ w5.heap.size) => hx.2))
              have X9 : Hid (Below w.heap.size w W9) := Lib.hid (QX.out.trans (Kq.out.mono fun x hx => by have : x < w.heap.size := hx; exact ⟨by omega, by omega⟩ : Keeps (· < w.heap.size) wi W9).below)
              have I49 := Lib.hid (Q4.out.keeps Kq.out ⟨by omega, by omega⟩)
              have I59 := Lib.hid (Q5.out.keeps Kq.out ⟨by omega, by omega⟩)
              have hn79 : n7 ≤ W9.heap.size := by have := K9.out.size; omega
              skip --Q2
              clear kb9 LV8 RV8 NV8 NX8 MK8 U8 M8 K8 K9 BO8 Q4 Q5
              obtain ⟨gl, ul, rfl, hgl1, hgl2, hul, cl, _⟩ := rowCell LV9.out hnM
              obtain ⟨gr, ur, rfl, hgr1, hgr2, hur, cr, _⟩ := rowCell RV9.out hnM
              rw [List.getElem?_map, HPRE.out] at hul hur
              cases hul
              cases hur
              replace cl : W9.cell? ⟨gl, n, none⟩ = some (.int .i64 p.1) := cl
              replace cr : W9.cell? ⟨gr, n, none⟩ = some (.int .i64 p.2) := cr
              obtain ⟨b1, o1, al1, cl1, z1, hb1, c11, _⟩ := (H2.out.below X9.out).elem HMA0.out
              obtain ⟨b2, o2, al2, cl2, z2, hb2, c22, _⟩ := (G2.out.below X9.out).elem HMB0.out
              cases z1
              cases z2
              rw [← HLA1.out] at c11
              rw [← HLB1.out] at c22
              have i42 := I49.out.cell 2
              have i52 := I59.out.cell 2
              replace i42 : W9.cell? ⟨w.heap.size, 2, none⟩ = some (.slice (some ⟨b1, o1, none⟩) Na c2) := i42
              replace i52 : W9.cell? ⟨w.heap.size + 1, 2, none⟩ = some (.slice (some ⟨b2, o2, none⟩) Nb k2) := i52
              have hl49 := I49.out.lt
              have hl59 := I59.out.lt
              skip --Q3
              clear I49 I59 H2 G2 HMA0 HMB0 HPRE HLA1 HLB1
              refine wp_region_reg false (fun _ => False) (by kernel_rfl) 22 [0, 0, 2, 0, 0, 24, 56, 126, 254, 510, 1022, 0, 2048, 0, 0, 24576, 57344, 129024, 260096, 522240, 1046528, 2097151] (fun i => i == 21) (by kernel_rfl) (fun i => if i = 21 then Eff.det _ (.bool sb) else Eff.any _) ?_
              intro C hC hne
              have HC := Lib.hid hC
              have f42 := regCell hC (p := ⟨w.heap.size, 2, none⟩) hl49 (fun h => h) i42
              have f52 := regCell hC (p := ⟨w.heap.size + 1, 2, none⟩) hl59 (fun h => h) i52
              have fl := regCell hC (p := ⟨gl, n, none⟩) hgl2 (fun h => h) cl
              have fr := regCell hC (p := ⟨gr, n, none⟩) hgr2 (fun h => h) cr
              have f11 := regCell hC (p := ⟨b1, o1 + p.1, none⟩) hb1 (fun h => h) c11
              have f22 := regCell hC (p := ⟨b2, o2 + p.2, none⟩) hb2 (fun h => h) c22
              clear hC i42 i52 cl cr c11 c22
              repeat (refine regStep (fun K hK => ?_); first | (refine regN rfl ?_; try go_simp; refine hK _ _ ?_; clear hK K) | (refine regF rfl rfl ?_; unfold floatAt; go_simp; refine hK _ _ ?_; clear hK K))
              refine regStep (fun K hK => ?_)
              refine regE rfl rfl (Eff.det _ (.bool sb)) rfl (fun W hW hN => ?_) (fun v hv => ?_)
              · have hM := (HC.out W).1 hW
                clear hW
                go_simp
                refine effT_call ((CSx.out _).mono ?_)
                rintro e w9 ⟨rfl, rfl⟩
                exact ⟨_, rfl, Move.refl _ _ _, rfl, trivial⟩
              replace hv : v = _ := hv
              subst hv
              go_simp
              refine hK _ _ ?_
              clear hK K
              repeat (refine regStep (fun K hK => ?_); first | (refine regN rfl ?_; try go_simp; refine hK _ _ ?_; clear hK K) | (refine regF rfl rfl ?_; unfold floatAt; go_simp; refine hK _ _ ?_; clear hK K))
              refine regNil (fun W hW hH => ?_)
              skip --Q4
              have hM := (HC.out W).1 hW
              have hb := hM.below
              have LVw := Lib.hid (ownsRow_below LV9.out hb)
              have RVw := Lib.hid (ownsRow_below RV9.out hb)
              have NVw := Lib.hid (ownsRow_below NV9.out hb)
              have NXw := Lib.hid (ownsRow_below NX9.out hb)
              have MKw := Lib.hid (ownsRow_below MK9.out hb)
              have Uw := Lib.hid (RowsIn.below U9.out hb)
              have Mw := Lib.hid (RowsIn.below M9.out hb)
              have BOw := Lib.hid (BO9.out.below hb BO9.out.lt)
              have Kw := Lib.hid (Kq.out.tr (Keeps.of_below hb fun x hx => by have := hx.1; omega))
              have hn7W : n7 ≤ W.heap.size := Nat.le_trans hn79 hb.size
              clear hM hW hH HC hb f42 f52 fl fr f11 f22 CSx LV9 RV9 NV9 NX9 MK9 U9 M9 BO9 Kq X9
              obtain ⟨⟨s0, s1, s2⟩, t0, t1, t2⟩ := BOw.out.three
              skip --N4
              cases sb with
              | true =>
                obtain ⟨Z, hZ⟩ : ∃ Z, Z = (W.alloc (.cells #[.int .i64 0] 3)).alloc (.cells #[.slice (some ⟨W.heap.size, 0, none⟩) 1 1] 36) := ⟨_, rfl⟩
                skip --R1
                have HBX : Hid (Blk Z (W.heap.size + 1) #[.slice (some ⟨W.heap.size, 0, none⟩) 1 1] 36 ∧ Z.ownsRow n7 3 1 (.slice (some ⟨W.heap.size, 0, none⟩) 1 1) 1 [.int .i64 0] ∧ Below W.heap.size W Z) := by rw [hZ]; exact Lib.hid ⟨(Blk.new (W.alloc _) _ _).at (by simp), ⟨rfl, .inr ⟨_, 1, #[.int .i64 0], rfl, hn7W, (Blk.new W _ _).alloc _, Nat.le_refl _, by unfold maxLen; omega, rfl, rfl⟩⟩, (((Ext.refl W).alloc _).alloc _).below⟩
                have HMM : Hid (markOf a b op p = [0]) := Lib.hid (by rw [HMKO.out]; rfl)
                have HZ := Lib.hid hZ
                clear hZ
                have hn7Z : n7 ≤ Z.heap.size := Nat.le_trans hn7W HBX.out.2.2.size
                have LVz := Lib.hid (ownsRow_below LVw.out HBX.out.2.2)
                have RVz := Lib.hid (ownsRow_below RVw.out HBX.out.2.2)
                have NVz := Lib.hid (ownsRow_below NVw.out HBX.out.2.2)
                have NXz := Lib.hid (ownsRow_below NXw.out HBX.out.2.2)
                have MKz := Lib.hid (ownsRow_below MKw.out HBX.out.2.2)
                have Uz := Lib.hid (RowsIn.below Uw.out HBX.out.2.2)
                have Mz := Lib.hid (RowsIn.below Mw.out HBX.out.2.2)
                have BOz := Lib.hid (BOw.out.below HBX.out.2.2 BOw.out.lt)
                have Kz := Lib.hid (Kw.out.tr (Keeps.of_below HBX.out.2.2 fun x hx => by have := hx.1; omega))
                have FRa : Hid (Far (.slice (some ⟨W.heap.size, 0, none⟩) 1 1) (.slice (some ⟨gl, 0, none⟩) M lc3) ∧ Far (.slice (some ⟨W.heap.size, 0, none⟩) 1 1) (.slice (some ⟨gr, 0, none⟩) M rc3)) := Lib.hid ⟨Far.new LVw.out _ _, Far.new RVw.out _ _⟩
                skip --R2
                clear LVw RVw NVw NXw MKw Uw Mw BOw Kw
                have MKa : ((W.alloc (.cells #[.int .i64 0] 3)).alloc (.cells #[.slice (some ⟨W.heap.size, 0, none⟩) 1 1] 36)).ownsRow n7 36 1 (.slice ma n mc) n ms := by rw [← HZ.out]; exact MKz.out
                have NWa : ∀ (j : Nat) (u : Value), [(.slice (some ⟨W.heap.size, 0, none⟩) 1 1 : Value)][j]? = some u → ((W.alloc (.cells #[.int .i64 0] 3)).alloc (.cells #[.slice (some ⟨W.heap.size, 0, none⟩) 1 1] 36)).cell? ((⟨W.heap.size + 1, 0, none⟩ : Addr).add j) = some u := by rw [← HZ.out]; exact HBX.out.1.news1
                have SZa : n7 ≤ ((W.alloc (.cells #[.int .i64 0] 3)).alloc (.cells #[.slice (some ⟨W.heap.size, 0, none⟩) 1 1] 36)).heap.size := by rw [← HZ.out]; exact hn7Z
                go_wp2_with (at_builtin; refine wpList_append_own_at _ rfl (.tmp 194) (.tmp 196) 23 rfl n7 36 iL (.slice none 0 0) 1 24 Tryz.underlying23 hiL hzL0 hzL1 hzL2 rfl (by decide) (.slice ma n mc) n ms rfl MKa ⟨W.heap.size + 1, 0, none⟩ 1 1 [.slice (some ⟨W.heap.size, 0, none⟩) 1 1] rfl rfl NWa (by simp [Value.oneCell']) (by unfold maxLen; omega) (by omega) SZa ?_; intro v' w10 hown' hgrow hh hat; refine Hid.out ?_)
                refine Lib.hid ?_
                skip --R3
                have MKf := Lib.hid hown'
                clear MKa NWa SZa s0 s1 s2 t0 t1 t2
                rw [← HZ.out] at hgrow hat
                have HG2 := Lib.hid hgrow
                have HA2 := Lib.hid hat
                obtain ⟨ma8, mc8, rfl⟩ := ownsRow_form hown'
                have ne : (3 : Nat) ≠ 36 := by decide
                have LVf := Lib.hid (LVz.out.kept HG2.out (ownBlock_ne ne LVz.out MKz.out))
                have RVf := Lib.hid (RVz.out.kept HG2.out (ownBlock_ne ne RVz.out MKz.out))
                have NVf := Lib.hid (NVz.out.kept HG2.out (ownBlock_ne ne NVz.out MKz.out))
                have NXf := Lib.hid (NXz.out.kept HG2.out (Far.symm' FN8.out))
                have Uf := Lib.hid (RowsIn.kept Uz.out MKz.out HG2.out)
                have Mf := Lib.hid (RowsIn.kept Mz.out MKz.out HG2.out)
                have uf := Lib.hid (HBX.out.2.1.kept HG2.out (ownBlock_ne ne HBX.out.2.1 MKz.out))
                have FNf := Lib.hid (Far.grow (Far.symm' FN8.out) HA2.out (fun b e => (NXz.out.lt b e).2))
                have BOf := Lib.hid (BOz.out.grown HG2.out (fun e => by have := (MKz.out.lt _ e.symm).1; omega))
                have Kf := Lib.hid (Kz.out.tr (Keeps.of_grown HG2.out fun x hx => ⟨by have := hx.1; omega, fun e => by have := (MKz.out.lt x e.symm).1; have := hx.1; omega⟩))
                skip --R4
                clear hgrow hown' hh hat ne LVz RVz NVz NXz Uz Mz BOz Kz
                obtain ⟨⟨s0, s1, s2⟩, t0, t1, t2⟩ := BOf.out.three
                go_wp2
                obtain ⟨CC, CC', AG, OK, FI, EN, ES, FE, LB, LE, HK, H0, H1, G0, G1, HKa, HKb, HNa, HNb, RA, RB, HP, hLT, J4, J5, J8, J10, JL, JX, J13, PO, HN7, ST, LV, RV, FLR, BO, UL, ML, NX, MK, FN, US, MS, FU, HX, HL, HL2, IL, IX, PP, HPn, HFU1, HFU2, RO, FLN, FRN, OL, OR, HR, HM, QL, KP, Q8, Q10, HROW, FUi⟩ := PKC.out
                skip --R5
                go_roundw
                case rel =>
                  have kg : Keeps (· ≠ w5.heap.size) w10 (w10.setCell ⟨w5.heap.size, 2, none⟩ (.slice ma8 (n + 1) mc8)) := (Keeps.refl _ _).setCell (p := ⟨w5.heap.size, 2, none⟩) (fun h => h rfl) _
                  have kb : ∀ x, n7 ≤ x → x < w10.heap.size → x ≠ w5.heap.size := fun x h1 _ => by omega
                  have htk : r.1.take (n + 1) = st.1.take n ++ [p] := by
                    obtain ⟨ys, hys⟩ := RO.out.pre
                    have h5 := (List.getElem?_eq_some_iff.1 HPn.out).1
                    rw [← hys, List.take_append_of_le_length (by omega), List.take_add_one, HPn.out]
                    rfl
                  have hrl : (r.2.map Int.ofNat).length = j := by rw [List.length_map]; exact RO.out.len
                  have hlu : (st.2.map fun r => r.map Int.ofNat).length = n := by rw [List.length_map]; exact HL2.out
                  have hlm : ((st.1.take n).map (markOf a b op)).length = n := by rw [List.length_map, List.length_take, ← HL.out]; omega
                  refine ⟨rfl, n + 1, (r.1, st.2 ++ [r.2]), _, _, us ++ [.slice n3 j nc3], ms ++ [.slice (some ⟨W.heap.size, 0, none⟩) 1 1], HROW.out, by rw [← HM.out]; omega, by go_num, ?_, ?_, FLRi.out, BOf.out.set 2 _, by simp [UL.out], by simp [ML.out], ownsRow_keepsB NXf.out kg kb, ownsRow_keepsB MKf.out kg kb, FNf.out, ?_, ?_, ?_, ?_⟩
                  · rw [← HM.out]; exact ownsRow_keepsB LVf.out kg kb
                  · rw [← HM.out]; exact ownsRow_keepsB RVf.out kg kb
                  · show RowsIn _ _ _ _
                    rw [List.map_append]
                    exact RowsIn.keepsB (RowsIn.snoc Uf.out UL.out hlu (by rw [hrl]; exact ownsRow_base NVf.out (by omega))) kg kb
                  · show RowsIn _ _ _ _
                    rw [htk, List.map_append]
                    exact RowsIn.keepsB (RowsIn.snoc Mf.out ML.out hlm (by rw [HMM.out]; exact uf.out)) kg kb
                  · intro u hu
                    rcases hu with hu | hu
                    · rcases List.mem_append.1 hu with hu | hu
                      · exact FUi.out u (.inl hu)
                      · rw [List.mem_singleton.1 hu]; exact ⟨Far.symm' FLN.out, Far.symm' FRN.out⟩
                    · rcases List.mem_append.1 hu with hu | hu
                      · exact FUi.out u (.inr hu)
                      · rw [List.mem_singleton.1 hu]; exact FRa.out
                  · refine (HX.out.tr ((KP.out.mono fun x (hx : x < n7 ∧ x ≠ w5.heap.size) => ⟨by have := hx.1; omega, fun e => by have := (HFU1.out x e).1; have := hx.1; omega, fun e => by have := (HFU2.out x e).1; have := hx.1; omega⟩).tr Kf.out)).setCell (p := ⟨w5.heap.size, 2, none⟩) (fun h => h.2 rfl) _
                case measure => simp [intOf]; omega
              | false =>
                obtain ⟨Z, hZ⟩ : ∃ Z, Z = W.alloc (.cells #[.slice none 0 0] 36) := ⟨_, rfl⟩
                have HBX : Hid (Blk Z (W.heap.size) #[.slice none 0 0] 36 ∧ Z.ownsRow n7 3 1 (.slice none 0 0) 0 [] ∧ Below W.heap.size W Z) := by rw [hZ]; exact Lib.hid ⟨Blk.new W _ _, World.ownsRow_nil _ _ _ _, ((Ext.refl W).alloc _).below⟩
                have HMM : Hid (markOf a b op p = []) := Lib.hid (by rw [HMKO.out]; rfl)
                have HZ := Lib.hid hZ
                clear hZ
                have hn7Z : n7 ≤ Z.heap.size := Nat.le_trans hn7W HBX.out.2.2.size
                have LVz := Lib.hid (ownsRow_below LVw.out HBX.out.2.2)
                have RVz := Lib.hid (ownsRow_below RVw.out HBX.out.2.2)
                have NVz := Lib.hid (ownsRow_below NVw.out HBX.out.2.2)
                have NXz := Lib.hid (ownsRow_below NXw.out HBX.out.2.2)
                have MKz := Lib.hid (ownsRow_below MKw.out HBX.out.2.2)
                have Uz := Lib.hid (RowsIn.below Uw.out HBX.out.2.2)
                have Mz := Lib.hid (RowsIn.below Mw.out HBX.out.2.2)
                have BOz := Lib.hid (BOw.out.below HBX.out.2.2 BOw.out.lt)
                have Kz := Lib.hid (Kw.out.tr (Keeps.of_below HBX.out.2.2 fun x hx => by have := hx.1; omega))
                have FRa : Hid (Far (.slice none 0 0) (.slice (some ⟨gl, 0, none⟩) M lc3) ∧ Far (.slice none 0 0) (.slice (some ⟨gr, 0, none⟩) M rc3)) := Lib.hid ⟨(.inl rfl), (.inl rfl)⟩
                clear LVw RVw NVw NXw MKw Uw Mw BOw Kw
                have MKa : (W.alloc (.cells #[.slice none 0 0] 36)).ownsRow n7 36 1 (.slice ma n mc) n ms := by rw [← HZ.out]; exact MKz.out
                have NWa : ∀ (j : Nat) (u : Value), [(.slice none 0 0 : Value)][j]? = some u → (W.alloc (.cells #[.slice none 0 0] 36)).cell? ((⟨W.heap.size, 0, none⟩ : Addr).add j) = some u := by rw [← HZ.out]; exact HBX.out.1.news1
                have SZa : n7 ≤ (W.alloc (.cells #[.slice none 0 0] 36)).heap.size := by rw [← HZ.out]; exact hn7Z
                go_wp2_with (at_builtin; refine wpList_append_own_at _ rfl (.tmp 200) (.tmp 201) 23 rfl n7 36 iL (.slice none 0 0) 1 24 Tryz.underlying23 hiL hzL0 hzL1 hzL2 rfl (by decide) (.slice ma n mc) n ms rfl MKa ⟨W.heap.size, 0, none⟩ 1 1 [.slice none 0 0] rfl rfl NWa (by simp [Value.oneCell']) (by unfold maxLen; omega) (by omega) SZa ?_; intro v' w10 hown' hgrow hh hat; refine Hid.out ?_)
                refine Lib.hid ?_
                have MKf := Lib.hid hown'
                clear MKa NWa SZa s0 s1 s2 t0 t1 t2
                rw [← HZ.out] at hgrow hat
                have HG2 := Lib.hid hgrow
                have HA2 := Lib.hid hat
                obtain ⟨ma8, mc8, rfl⟩ := ownsRow_form hown'
                have ne : (3 : Nat) ≠ 36 := by decide
                have LVf := Lib.hid (LVz.out.kept HG2.out (ownBlock_ne ne LVz.out MKz.out))
                have RVf := Lib.hid (RVz.out.kept HG2.out (ownBlock_ne ne RVz.out MKz.out))
                have NVf := Lib.hid (NVz.out.kept HG2.out (ownBlock_ne ne NVz.out MKz.out))
                have NXf := Lib.hid (NXz.out.kept HG2.out (Far.symm' FN8.out))
                have Uf := Lib.hid (RowsIn.kept Uz.out MKz.out HG2.out)
                have Mf := Lib.hid (RowsIn.kept Mz.out MKz.out HG2.out)
                have uf := Lib.hid (HBX.out.2.1.kept HG2.out (ownBlock_ne ne HBX.out.2.1 MKz.out))
                have FNf := Lib.hid (Far.grow (Far.symm' FN8.out) HA2.out (fun b e => (NXz.out.lt b e).2))
                have BOf := Lib.hid (BOz.out.grown HG2.out (fun e => by have := (MKz.out.lt _ e.symm).1; omega))
                have Kf := Lib.hid (Kz.out.tr (Keeps.of_grown HG2.out fun x hx => ⟨by have := hx.1; omega, fun e => by have := (MKz.out.lt x e.symm).1; have := hx.1; omega⟩))
                clear hgrow hown' hh hat ne LVz RVz NVz NXz Uz Mz BOz Kz
                obtain ⟨⟨s0, s1, s2⟩, t0, t1, t2⟩ := BOf.out.three
                go_wp2
                obtain ⟨CC, CC', AG, OK, FI, EN, ES, FE, LB, LE, HK, H0, H1, G0, G1, HKa, HKb, HNa, HNb, RA, RB, HP, hLT, J4, J5, J8, J10, JL, JX, J13, PO, HN7, ST, LV, RV, FLR, BO, UL, ML, NX, MK, FN, US, MS, FU, HX, HL, HL2, IL, IX, PP, HPn, HFU1, HFU2, RO, FLN, FRN, OL, OR, HR, HM, QL, KP, Q8, Q10, HROW, FUi⟩ := PKC.out
                go_roundw
                case rel =>
                  have kg : Keeps (· ≠ w5.heap.size) w10 (w10.setCell ⟨w5.heap.size, 2, none⟩ (.slice ma8 (n + 1) mc8)) := (Keeps.refl _ _).setCell (p := ⟨w5.heap.size, 2, none⟩) (fun h => h rfl) _
                  have kb : ∀ x, n7 ≤ x → x < w10.heap.size → x ≠ w5.heap.size := fun x h1 _ => by omega
                  have htk : r.1.take (n + 1) = st.1.take n ++ [p] := by
                    obtain ⟨ys, hys⟩ := RO.out.pre
                    have h5 := (List.getElem?_eq_some_iff.1 HPn.out).1
                    rw [← hys, List.take_append_of_le_length (by omega), List.take_add_one, HPn.out]
                    rfl
                  have hrl : (r.2.map Int.ofNat).length = j := by rw [List.length_map]; exact RO.out.len
                  have hlu : (st.2.map fun r => r.map Int.ofNat).length = n := by rw [List.length_map]; exact HL2.out
                  have hlm : ((st.1.take n).map (markOf a b op)).length = n := by rw [List.length_map, List.length_take, ← HL.out]; omega
                  refine ⟨rfl, n + 1, (r.1, st.2 ++ [r.2]), _, _, us ++ [.slice n3 j nc3], ms ++ [.slice none 0 0], HROW.out, by rw [← HM.out]; omega, by go_num, ?_, ?_, FLRi.out, BOf.out.set 2 _, by simp [UL.out], by simp [ML.out], ownsRow_keepsB NXf.out kg kb, ownsRow_keepsB MKf.out kg kb, FNf.out, ?_, ?_, ?_, ?_⟩
                  · rw [← HM.out]; exact ownsRow_keepsB LVf.out kg kb
                  · rw [← HM.out]; exact ownsRow_keepsB RVf.out kg kb
                  · show RowsIn _ _ _ _
                    rw [List.map_append]
                    exact RowsIn.keepsB (RowsIn.snoc Uf.out UL.out hlu (by rw [hrl]; exact ownsRow_base NVf.out (by omega))) kg kb
                  · show RowsIn _ _ _ _
                    rw [htk, List.map_append]
                    exact RowsIn.keepsB (RowsIn.snoc Mf.out ML.out hlm (by rw [HMM.out]; exact uf.out)) kg kb
                  · intro u hu
                    rcases hu with hu | hu
                    · rcases List.mem_append.1 hu with hu | hu
                      · exact FUi.out u (.inl hu)
                      · rw [List.mem_singleton.1 hu]; exact ⟨Far.symm' FLN.out, Far.symm' FRN.out⟩
                    · rcases List.mem_append.1 hu with hu | hu
                      · exact FUi.out u (.inr hu)
                      · rw [List.mem_singleton.1 hu]; exact FRa.out
                  · refine (HX.out.tr ((KP.out.mono fun x (hx : x < n7 ∧ x ≠ w5.heap.size) => ⟨by have := hx.1; omega, fun e => by have := (HFU1.out x e).1; have := hx.1; omega, fun e => by have := (HFU2.out x e).1; have := hx.1; omega⟩).tr Kf.out)).setCell (p := ⟨w5.heap.size, 2, none⟩) (fun h => h.2 rfl) _
                case measure => simp [intOf]; omega
          -- INNER]
        · obtain rfl : n = L := by omega
          have hpe := ES.out n st ST.out (by rw [← HL.out]; exact Nat.le_refl _) hLf
          have htk : st.1.take n = st.1 := by rw [HL.out]; exact List.take_length
          have HPE := Lib.hid hpe
          have hlu : (st.2.map fun r => r.map Int.ofNat).length = n := by rw [List.length_map]; exact HL2.out
          have hlm : (st.1.map (markOf a b op)).length = n := by rw [List.length_map, HL.out]
          have O1 : Hid (OwnLL n7 wa (.slice na n nc) (st.2.map fun r => r.map Int.ofNat)) := Lib.hid (RowsIn.ll US.out UL.out hlu NX.out)
          have O2 : Hid (OwnLL n7 wa (.slice ma n mc) (st.1.map (markOf a b op))) := Lib.hid (by
            have h5 := MS.out
            rw [htk] at h5
            exact RowsIn.ll h5 ML.out hlm MK.out)
          have O0 : Hid (wa.ownsRow w6.heap.size 75 256 (.slice ca k cc) k (flatA (P.map refS))) := Lib.hid (ownsRow_keeps PO.out HX.out fun x e => by have := PO.out.lt x e; have := HN7.out; omega)
          have hpl : (P.map refS).length = k := by rw [List.length_map, HK.out]
          have HPL := Lib.hid hpl
          clear hpe htk hlu hlm hpl CC CC' CS AG OK FI EN ES FE LB LE H0 H1 H2 G0 G1 G2 HKa HKb HNa HNb HMA HMB RA RB JL J13 PO LV RV FLR UL ML NX MK FN US MS FU HX I4 I5 I10 IL
          obtain ⟨⟨s0, s1, s2⟩, _⟩ := BO.out.three
          obtain ⟨⟨y0x, y1x, y2x⟩, z0, z1, z2⟩ := I8.out.three
          go_wp2
          refine post_named ?_
          intro W9 hW9
          have E9 : Hid (Blk W9 (w.heap.size + 2) #[.slice ca k cc, .slice na n nc, .slice ma n mc] 42 ∧ Keeps (· ≠ w.heap.size + 2) wa W9) := by
            rw [hW9]
            exact Lib.hid ⟨I8.out.set3, ((((Keeps.refl _ _).setCell (p := ⟨w.heap.size + 2, 0, none⟩) (fun h => h rfl) _).setCell (p := ⟨w.heap.size + 2, 1, none⟩) (fun h => h rfl) _).setCell (p := ⟨w.heap.size + 2, 2, none⟩) (fun h => h rfl) _)⟩
          clear hW9 s0 s1 s2 y0x y1x y2x z0 z1 z2
          obtain ⟨⟨m0, m1, m2⟩, _⟩ := E9.out.1.three
          refine bodyPost_ret (v := .tuple #[.agg #[.slice ca k cc, .slice na n nc, .slice ma n mc], .int .i64 0]) (by simp [results, Tryz.results17, go_sem, m0, m1, m2]) rfl ?_
          rw [HPE.out]
          refine ⟨_, rfl, ⟨_, _, _, rfl, ?_, ?_, ?_⟩, IX.out.trans (E9.out.2.mono fun x hx e => by have : x < w.heap.size := hx; omega : Keeps (· < w.heap.size) wa W9).below⟩
          · refine ownsRow_arrs (base := w6.heap.size) ?_
            show W9.ownsRow _ _ _ _ (P.map refS).length _
            rw [HPL.out]
            exact ownsRow_keepsB O0.out E9.out.2 fun x h1 _ e => by omega
          · exact (O1.out.keeps E9.out.2 fun x h1 _ e => by omega).ll
          · exact (O2.out.keeps E9.out.2 fun x h1 _ e => by omega).ll
end Go.Proofs.YtiegfnmpknmbmaaGreat
