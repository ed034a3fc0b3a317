/-
  nfa.step, nfa.Step: the state set behind a byte.
-/
import Derived.Test.YtbiboekhakbnpaaGreatDoorOB15
set_option maxRecDepth 100000
set_option maxHeartbeats 16000000
open Go.Lib (hid)
namespace Go.Proofs.YtbiboekhakbnpaaGreatDoor
open Go Go.RowKit Go.Shelf Go.Maps
attribute [local go_sem] encS

theorem nstep_any (v u : Value) (a : NF) (rt : Nt a) (l : List Int) (hst : a.st l = true) (c : Nat) (hc : c < 256) (w : World) (h : IsNf w v a) (sm : SmN a) (hu : IsSl encZ w u l) (hl : l.length <= 1000000) :
  Calls Tryz.prog 95 #[v, u, .int .u8 c] w fun e w' => ∃ r, e = .returned r /\ w'.ownsRow w.heap.size 3 1 r (a.step l c).length ((a.step l c).map encZ) /\ Below w.heap.size w w' := by
 have HSt := hid (step_hits rt hst c)
 have FR : Hid (∀ p ∈ l, ∀ q ∈ a.frm p, 0 <= q /\ q < a.sets.length) := hid fun p hp q hq => by have := (risG_pair (rt.frm_in hst hp)).2 q hq; omega
 have FL : Hid (∀ p, (a.frm p).length <= 1000000) := hid fun p => by
  unfold NF.frm
  split
  ·exact sm.fst
  ·rcases Nat.lt_or_ge p.toNat a.fol.length with h1 | h1
   ·exact sm.row _ (List.mem_of_getElem? (some_getD [] h1))
   ·rw [List.getD_eq_getElem?_getD, List.getElem?_eq_none h1]; exact Nat.zero_le _
 have ST : Hid (∀ p ∈ l, -1 <= p /\ p < a.sets.length) := hid fun p hp => by have := (risG_pair hst).2 p hp; omega
 have hle := rt.le
 have hfol := rt.fol
 obtain ⟨v0, v1, v2, v3, rfl, h0, h1, h2, h3⟩ := h
 obtain ⟨a0, c0, rfl⟩ := h0.1.form
 obtain ⟨a1, c1, rfl⟩ := h1.form
 obtain ⟨a2, c2, rfl⟩ := h2.form
 obtain ⟨ua, uc, rfl⟩ := hu.form
 obtain ⟨n0, hn0⟩ : ∃ n, n = a.sets.length := ⟨_, rfl⟩
 obtain ⟨n2, hn2⟩ : ∃ n, n = a.fst.length := ⟨_, rfl⟩
 obtain ⟨m, hm⟩ : ∃ n, n = l.length := ⟨_, rfl⟩
 rw [hfol] at h1
 rw [<- hn0] at h0 h1 hle ST FR ⊢
 rw [<- hn2] at h2 ⊢
 rw [<- hm] at hu hl ⊢
 rw [hfol, <- hn0]
 have HN0 := hid hn0
 have HN2 := hid hn2
 have HM := hid hm
 have HFOL := hid hfol
 have H0 := hid h0
 have H1 := hid h1
 have H2 := hid h2
 have HU := hid hu
 have CH : Hid (∀ s W, Calls Tryz.prog 128 #[.agg (encS s), .int .u8 c] W fun e w' => e = .returned (.bool (s.getLsbD c)) /\ Ext W w') := hid fun s W => has_any s c hc W
 clear h0 h1 h2 h3 hu hn0 hn2 hm hfol sm rt hst
 go_enter Tryz.func95, Tryz.ntmps95
 go_wp2
 refine wp_named ?_
 intro V hV
 have B1 : Hid (Blk V w.heap.size #[.slice a0 n0 c0, .slice a1 n0 c1, .slice a2 n2 c2, v3, .bool a.emp] 44) := hid (by rw [hV]; exact (Blk.new w _ _).alloc _)
 have B2 : Hid (Blk V (w.heap.size + 1) (encW fun _ => 0) 129) := hid (by rw [hV]; exact (Blk.new _ _ _).at (by simp))
 have X1 : Hid (Below w.heap.size w V) := hid (by rw [hV]; exact (((Ext.refl w).alloc _).alloc _).below)
 have hVs : V.heap.size = w.heap.size + 2 := by rw [hV]; simp
 have HVS := hid hVs
 clear hV hVs
 go_loopw [15] (fun iv wr => ∃ k : Nat, k <= m /\ iv = .int .i64 k /\ Blk wr (w.heap.size + 1) (encW (setW (hitsL a c (l.take k)))) 129 /\ Keeps (fun x => x < w.heap.size + 1) V wr) (fun iv _ => m - (intOf iv).toNat)
 case atStart => exact ⟨0, by omega, rfl, B2.out, Keeps.refl _ _⟩
 case round =>
  obtain ⟨k, hk, rfl, hb, hx⟩ := hrel
  obtain ⟨wo, rfl⟩ : ∃ wo : World, wo = wr := ⟨_, rfl⟩
  have HB := hid hb
  have HX := hid hx
  have XX : Hid (Below w.heap.size w wo) := hid (X1.out.trans (hx.mono fun x hx' => by have : x < w.heap.size := hx'; show x < w.heap.size + 1; omega : Keeps (· < w.heap.size) V wo).below)
  have BN := hid (B1.out.keeps hx (by show w.heap.size < w.heap.size + 1; omega))
  clear hb hx
  by_cases hlt : k < m
  ·obtain ⟨p, hp⟩ : ∃ p, l[k]? = some p := ⟨_, List.getElem?_eq_getElem (by have := HM.out; omega)⟩
   obtain ⟨g, off, rfl, hg, q1⟩ := (HU.out.below XX.out).elem hp
   replace q1 : wo.cell? ⟨g, off + k, none⟩ = some (.int .i64 p) := q1
   have hpm := List.mem_of_getElem? hp
   have hpr := ST.out p hpm
   have FRp := hid (FR.out p hpm)
   have HP := hid hp
   have hki : (k : Int) < m := by omega
   clear hp hpm
   obtain ⟨fl, hfl⟩ : ∃ fl, fl = (a.frm p).length := ⟨_, rfl⟩
   have flm : fl <= 1000000 := by rw [hfl]; exact FL.out p
   have HTK : Hid (hitsL a c (l.take (k + 1)) = hitsL a c (l.take k) ++ hitP a c (a.frm p)) := hid (by
    rw [List.take_add_one, HP.out]
    exact hitsL_snoc a c _ p)
   have HFL := hid hfl
   clear hfl
   rcases Decidable.em (p = -1) with h1 | h1
   ·subst h1
    obtain rfl : fl = n2 := by rw [HFL.out, show a.frm (-1) = a.fst from rfl, HN2.out]
    have HF : Hid (∀ W, Below w.heap.size w W -> IsSl encZ W (.slice a2 fl c2) (a.frm (-1))) := hid fun W hW => H2.out.below hW
    obtain ⟨i0, i1, i2, i3, i4⟩ := BN.out.five
    go_wp2
    clear hpr q1 i0 i1 i2 i3 i4
    go_loopw [30] (fun iv wi => ∃ j : Nat, j <= fl /\ iv = .int .i64 j /\ Blk wi (w.heap.size + 1) (encW (setW (hitsL a c (l.take k) ++ hitP a c ((a.frm (-1)).take j)))) 129 /\ Keeps (fun x => x < w.heap.size + 1) wo wi) (fun iv _ => fl - (intOf iv).toNat)
    case atStart => exact ⟨0, by omega, rfl, by rw [List.take_zero]; simp only [hitP, List.map_nil, List.filter_nil, List.append_nil]; exact HB.out, Keeps.refl _ _⟩
    case round =>
     obtain ⟨j, hj, rfl, hb, hx⟩ := hrel
     have HB2 := hid hb
     have HX2 := hid hx
     have XI : Hid (Below w.heap.size w wr) := hid (XX.out.trans (hx.mono fun x hx' => by have : x < w.heap.size := hx'; show x < w.heap.size + 1; omega : Keeps (· < w.heap.size) wo wr).below)
     have BI := hid (BN.out.keeps hx (by show w.heap.size < w.heap.size + 1; omega))
     clear hb hx
     by_cases hj2 : j < fl
     ·obtain ⟨q, hq⟩ : ∃ q, (a.frm (-1))[j]? = some q := ⟨_, List.getElem?_eq_getElem (by have := HFL.out; omega)⟩
      have hqr := FRp.out q (List.mem_of_getElem? hq)
      obtain ⟨qn, rfl⟩ : ∃ qn : Nat, q = qn := ⟨q.toNat, by omega⟩
      have hqn : (qn : Int) < n0 := by omega
      have hji : (j : Int) < fl := by omega
      obtain ⟨s, hs⟩ : ∃ s, a.sets[qn]? = some s := ⟨_, List.getElem?_eq_getElem (by have := HN0.out; omega)⟩
      obtain ⟨g2, o2, rfl, _, q2⟩ := (HF.out wr XI.out).elem hq
      replace q2 : wr.cell? ⟨g2, o2 + j, none⟩ = some (.int .i64 (qn : Int)) := q2
      obtain ⟨b3, o3, rfl, hb3, s0, s1, s2, s3⟩ := (H0.out.1.below XI.out).elem hs
      obtain ⟨i0, i1, i2, i3, i4⟩ := BI.out.five
      have HQ : Hid (hitsL a c (l.take k) ++ hitP a c ((a.frm (-1)).take (j + 1)) = if s.getLsbD c then (hitsL a c (l.take k) ++ hitP a c ((a.frm (-1)).take j)) ++ [qn] else hitsL a c (l.take k) ++ hitP a c ((a.frm (-1)).take j)) := hid (by
       rw [List.take_add_one, hq]
       show hitsL a c (l.take k) ++ hitP a c ((a.frm (-1)).take j ++ [(qn : Int)]) = _
       rw [hitP_snoc, Int.toNat_natCast, show a.on c qn = s.getLsbD c from by unfold NF.on; rw [getD_some hs]]
       split
       ·rw [List.append_assoc]
       ·rw [List.append_nil])
      obtain ⟨bt, hbt⟩ : ∃ bt, bt = s.getLsbD c := ⟨_, rfl⟩
      have CHs := hid (CH.out s)
      rw [<- hbt] at HQ CHs
      clear hq hs hbt
      cases bt
      ·go_wp2_with fail
       refine (CHs.out _).mono ?_
       rintro e w1 ⟨rfl, hx⟩
       have HX3 := hid hx
       clear hx
       go_wp2
       exact ⟨⟨j + 1, by omega, by go_num, by rw [HQ.out]; exact HB2.out.ext HX3.out, HX2.out.tr (HX3.out.mono fun x hx => by have : x < w.heap.size + 1 := hx; have := HB2.out.lt; omega)⟩, by simp [intOf]; omega⟩
      ·go_wp2_with fail
       refine (CHs.out _).mono ?_
       rintro e w1 ⟨rfl, hx⟩
       have HX3 := hid hx
       clear hx
       go_wp2_with fail
       refine (bitsPut_any _ _ qn (by omega) w1 (HB2.out.ext HX3.out)).mono ?_
       rintro e w2 ⟨⟨u, rfl⟩, hb4, hx4⟩
       have HB4 := hid hb4
       have HX4 := hid hx4
       clear hb4 hx4
       go_wp2
       exact ⟨⟨j + 1, by omega, by go_num, by rw [HQ.out, if_pos trivial, setW_snoc]; exact HB4.out, (HX2.out.tr (HX3.out.mono fun x hx => by have : x < w.heap.size + 1 := hx; have := HB2.out.lt; omega)).tr (HX4.out.mono fun x hx => by have h5 : x < w.heap.size + 1 := hx; have := HB2.out.lt; have := HX3.out.size; exact ⟨by omega, by omega⟩)⟩, by simp [intOf]; omega⟩
     ·obtain rfl : j = fl := by omega
      have hji : ¬ ((j : Int) < j) := by omega
      have htk : (a.frm (-1)).take j = a.frm (-1) := by rw [HFL.out, List.take_length]
      rw [htk, <- HTK.out] at HB2
      go_wp2
      exact ⟨⟨k + 1, by omega, by go_num, HB2.out, HX.out.tr HX2.out⟩, by simp [intOf]; omega⟩
   ·obtain ⟨pn, rfl⟩ : ∃ pn : Nat, p = pn := ⟨p.toNat, by omega⟩
    have d1 : ((pn : Int) != -1) = true := by rw [bne_iff_ne]; omega
    have hpn : (pn : Int) < n0 := by omega
    obtain ⟨b1, o1, fa, fc, ea1, hb1, cl1, h4⟩ := H1.out.elem (some_getD (l := a.fol) [] (by rw [HFOL.out, <- HN0.out]; omega : pn < a.fol.length))
    have e : a.frm (pn : Int) = a.fol.getD pn [] := by unfold NF.frm; rw [if_neg h1, Int.toNat_natCast]
    rw [<- e, <- HFL.out] at cl1 h4
    have HF : Hid (∀ W, Below w.heap.size w W -> IsSl encZ W (.slice fa fl fc) (a.frm (pn : Int))) := hid fun W hW => h4.below hW
    have cl2 : wo.cell? ⟨b1, o1 + pn, none⟩ = some (.slice fa fl fc) := ((Keeps.of_below XX.out fun _ h => h : Keeps (· < w.heap.size) w wo).cell (p := ⟨b1, o1 + pn, none⟩) hb1).trans cl1
    subst ea1
    clear cl1 h4 e
    obtain ⟨i0, i1, i2, i3, i4⟩ := BN.out.five
    go_wp2
    clear hpr q1 i0 i1 i2 i3 i4
    go_loopw [30] (fun iv wi => ∃ j : Nat, j <= fl /\ iv = .int .i64 j /\ Blk wi (w.heap.size + 1) (encW (setW (hitsL a c (l.take k) ++ hitP a c ((a.frm (pn : Int)).take j)))) 129 /\ Keeps (fun x => x < w.heap.size + 1) wo wi) (fun iv _ => fl - (intOf iv).toNat)
    case atStart => exact ⟨0, by omega, rfl, by rw [List.take_zero]; simp only [hitP, List.map_nil, List.filter_nil, List.append_nil]; exact HB.out, Keeps.refl _ _⟩
    case round =>
     obtain ⟨j, hj, rfl, hb, hx⟩ := hrel
     have HB2 := hid hb
     have HX2 := hid hx
     have XI : Hid (Below w.heap.size w wr) := hid (XX.out.trans (hx.mono fun x hx' => by have : x < w.heap.size := hx'; show x < w.heap.size + 1; omega : Keeps (· < w.heap.size) wo wr).below)
     have BI := hid (BN.out.keeps hx (by show w.heap.size < w.heap.size + 1; omega))
     clear hb hx
     by_cases hj2 : j < fl
     ·obtain ⟨q, hq⟩ : ∃ q, (a.frm (pn : Int))[j]? = some q := ⟨_, List.getElem?_eq_getElem (by have := HFL.out; omega)⟩
      have hqr := FRp.out q (List.mem_of_getElem? hq)
      obtain ⟨qn, rfl⟩ : ∃ qn : Nat, q = qn := ⟨q.toNat, by omega⟩
      have hqn : (qn : Int) < n0 := by omega
      have hji : (j : Int) < fl := by omega
      obtain ⟨s, hs⟩ : ∃ s, a.sets[qn]? = some s := ⟨_, List.getElem?_eq_getElem (by have := HN0.out; omega)⟩
      obtain ⟨g2, o2, rfl, _, q2⟩ := (HF.out wr XI.out).elem hq
      replace q2 : wr.cell? ⟨g2, o2 + j, none⟩ = some (.int .i64 (qn : Int)) := q2
      obtain ⟨b3, o3, rfl, hb3, s0, s1, s2, s3⟩ := (H0.out.1.below XI.out).elem hs
      obtain ⟨i0, i1, i2, i3, i4⟩ := BI.out.five
      have HQ : Hid (hitsL a c (l.take k) ++ hitP a c ((a.frm (pn : Int)).take (j + 1)) = if s.getLsbD c then (hitsL a c (l.take k) ++ hitP a c ((a.frm (pn : Int)).take j)) ++ [qn] else hitsL a c (l.take k) ++ hitP a c ((a.frm (pn : Int)).take j)) := hid (by
       rw [List.take_add_one, hq]
       show hitsL a c (l.take k) ++ hitP a c ((a.frm (pn : Int)).take j ++ [(qn : Int)]) = _
       rw [hitP_snoc, Int.toNat_natCast, show a.on c qn = s.getLsbD c from by unfold NF.on; rw [getD_some hs]]
       split
       ·rw [List.append_assoc]
       ·rw [List.append_nil])
      obtain ⟨bt, hbt⟩ : ∃ bt, bt = s.getLsbD c := ⟨_, rfl⟩
      have CHs := hid (CH.out s)
      rw [<- hbt] at HQ CHs
      clear hq hs hbt
      cases bt
      ·go_wp2_with fail
       refine (CHs.out _).mono ?_
       rintro e w1 ⟨rfl, hx⟩
       have HX3 := hid hx
       clear hx
       go_wp2
       exact ⟨⟨j + 1, by omega, by go_num, by rw [HQ.out]; exact HB2.out.ext HX3.out, HX2.out.tr (HX3.out.mono fun x hx => by have : x < w.heap.size + 1 := hx; have := HB2.out.lt; omega)⟩, by simp [intOf]; omega⟩
      ·go_wp2_with fail
       refine (CHs.out _).mono ?_
       rintro e w1 ⟨rfl, hx⟩
       have HX3 := hid hx
       clear hx
       go_wp2_with fail
       refine (bitsPut_any _ _ qn (by omega) w1 (HB2.out.ext HX3.out)).mono ?_
       rintro e w2 ⟨⟨u, rfl⟩, hb4, hx4⟩
       have HB4 := hid hb4
       have HX4 := hid hx4
       clear hb4 hx4
       go_wp2
       exact ⟨⟨j + 1, by omega, by go_num, by rw [HQ.out, if_pos trivial, setW_snoc]; exact HB4.out, (HX2.out.tr (HX3.out.mono fun x hx => by have : x < w.heap.size + 1 := hx; have := HB2.out.lt; omega)).tr (HX4.out.mono fun x hx => by have h5 : x < w.heap.size + 1 := hx; have := HB2.out.lt; have := HX3.out.size; exact ⟨by omega, by omega⟩)⟩, by simp [intOf]; omega⟩
     ·obtain rfl : j = fl := by omega
      have hji : ¬ ((j : Int) < j) := by omega
      have htk : (a.frm (pn : Int)).take j = a.frm (pn : Int) := by rw [HFL.out, List.take_length]
      rw [htk, <- HTK.out] at HB2
      go_wp2
      exact ⟨⟨k + 1, by omega, by go_num, HB2.out, HX.out.tr HX2.out⟩, by simp [intOf]; omega⟩
  ·obtain rfl : k = m := by omega
   have hkn : ¬ ((k : Int) < k) := by omega
   have htk : l.take k = l := by rw [HM.out, List.take_length]
   rw [htk] at HB
   go_wp2_with fail
   refine (bitsList_any _ _ wo HB.out).mono ?_
   rintro e w2 ⟨v, rfl, ho, hx⟩
   have HO := hid ho
   have HX2 := hid hx
   clear ho hx
   go_wp2
   go_ret
   refine ⟨_, rfl, ?_, XX.out.trans (HX2.out.mono XX.out.size)⟩
   have h := ownsRow_base HO.out XX.out.size
   have e : (posW (setW (hitsL a c l)) 448).map encP = (a.step l c).map encZ := by rw [<- HSt.out, List.map_map]; rfl
   have e2 : (posW (setW (hitsL a c l)) 448).length = (a.step l c).length := by rw [<- HSt.out, List.length_map]
   rwa [e, e2] at h
theorem nStep_any (v u : Value) (a : NF) (rt : Nt a) (l : List Int) (hst : a.st l = true) (c : Nat) (hc : c < 256) (w : World) (h : IsNf w v a) (sm : SmN a) (hu : IsSl encZ w u l) (hl : l.length <= 1000000) :
  Calls Tryz.prog 121 #[v, u, .int .u8 c] w fun e w' => ∃ r, e = .returned (.tuple #[r, .int .i64 0]) /\ w'.ownsRow w.heap.size 3 1 r (a.step l c).length ((a.step l c).map encZ) /\ Below w.heap.size w w' := by
 have CK : Hid (∀ W, Below w.heap.size w W -> Calls Tryz.prog 157 #[v, u] W fun e w' => e = .returned (.int .i64 0) /\ Below W.heap.size W w') := hid fun W hW => by
  have := ncheck_any v u a l W (h.below hW) sm (hu.below hW) hl
  have e : a.chk l = 0 := by unfold NF.chk; rw [(nright_iff a).2 rt, hst]; rfl
  rwa [e] at this
 have CA : Hid (∀ W, Below w.heap.size w W -> Calls Tryz.prog 95 #[v, u, .int .u8 c] W fun e w' => ∃ r, e = .returned r /\ w'.ownsRow W.heap.size 3 1 r (a.step l c).length ((a.step l c).map encZ) /\ Below W.heap.size W w') := hid fun W hW => nstep_any v u a rt l hst c hc W (h.below hW) sm (hu.below hW) hl
 obtain ⟨a0, c0, a1, n1, c1, a2, n2, c2, a3, n3, c3, rfl⟩ := h.form5
 generalize a.sets.length = n0 at *
 generalize a.step l c = R at *
 obtain ⟨ua, uc, rfl⟩ := hu.form
 generalize l.length = m at *
 clear h hu sm rt hst hl
 go_enter Tryz.func121, Tryz.ntmps121
 go_wp2_with fail
 refine calls_named ?_
 intro V hV
 have B1 : Hid (Blk V w.heap.size #[.slice a0 n0 c0, .slice a1 n1 c1, .slice a2 n2 c2, .slice a3 n3 c3, .bool a.emp] 44) := hid (by rw [hV]; exact Blk.new w _ _)
 have X1 : Hid (Below w.heap.size w V) := hid (by rw [hV]; exact ((Ext.refl w).alloc _).below)
 clear hV
 refine (CK.out V X1.out).mono ?_
 rintro e w1 ⟨rfl, hx⟩
 have B2 := hid (B1.out.below hx B1.out.lt)
 have X2 := hid (X1.out.trans (hx.mono X1.out.size))
 clear hx B1 X1
 obtain ⟨i0, i1, i2, i3, i4⟩ := B2.out.five
 go_wp2_with fail
 refine (CA.out w1 X2.out).mono ?_
 rintro e w2 ⟨r, rfl, ho, hx⟩
 have X3 := hid (X2.out.trans (hx.mono X2.out.size))
 have HO := hid (ownsRow_base ho X2.out.size)
 clear ho hx i0 i1 i2 i3 i4
 go_wp2
 refine bodyPost_ret (v := .tuple #[r, .int .i64 0]) (by simp [results, Tryz.results121, go_sem]) rfl ⟨_, rfl, HO.out, X3.out⟩
end Go.Proofs.YtbiboekhakbnpaaGreatDoor
