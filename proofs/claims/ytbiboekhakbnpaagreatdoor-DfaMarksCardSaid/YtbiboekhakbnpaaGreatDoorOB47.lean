/-
  (*maker).state: the number of a state, which may be new.
-/
import Derived.Test.YtbiboekhakbnpaaGreatDoorOB26
import Derived.Test.YtbiboekhakbnpaaGreatDoorOB11
set_option maxRecDepth 100000
set_option maxHeartbeats 16000000
open Go.Lib (hid)
namespace Go.Proofs.YtbiboekhakbnpaaGreatDoor
open Go Go.RowKit Go.Shelf Go.Maps

def accTo (ps : List PT) (row : List (List Int)) (k : Nat) : List Int := ((List.zip ps row).take k).filterMap fun y => if y.1.nf.acc y.2 then some y.1.mark else none
theorem accTo_succ {ps : List PT} {row : List (List Int)} {k : Nat} {x : PT} {l : List Int} (hx : ps[k]? = some x) (hl : row[k]? = some l) : accTo ps row (k + 1) = accTo ps row k ++ if x.nf.acc l then [x.mark] else [] := by
 have hz : (List.zip ps row)[k]? = some (x, l) := by rw [List.getElem?_zip_eq_some]; exact ⟨hx, hl⟩
 unfold accTo
 rw [List.take_add_one, hz, List.filterMap_append]
 by_cases h : x.nf.acc l = true <;> simp [h]
theorem accTo_all {ps : List PT} {row : List (List Int)} (h : row.length = ps.length) : accTo ps row ps.length = accMarks ps row := by
 unfold accTo accMarks
 rw [List.take_of_length_le]
 rw [List.length_zip, h]; omega
theorem accTo_len (ps : List PT) (row : List (List Int)) (k : Nat) : (accTo ps row k).length <= k := by
 unfold accTo
 exact Nat.le_trans (List.length_filterMap_le _ _) (by rw [List.length_take]; omega)
def StateQ (F : Nat → Prop) (base mb ob f : Nat) (pv cv : Value) (ps : List PT) (rows : List (List (List Int))) (nx : List (List Int)) (r : List (List Int)) (w1 w : World) (e : Ending) (w' : World) : Prop :=
  Keeps (fun x => x < w1.heap.size ∧ (x < base ∨ ¬ F x)) w w' ∧
  ((r ∈ rows ∧ e = .returned (.int .i64 (ixR rows r)) ∧ MkX F w' base mb ob f pv cv ps rows nx) ∨
   (r ∉ rows ∧ rows.length < f ∧ e = .returned (.int .i64 rows.length) ∧ MkX F w' base mb ob f pv cv ps (rows ++ [r]) nx) ∨
   (r ∉ rows ∧ f ≤ rows.length ∧ e = .panicked [{ v := .iface 146 (.agg #[]), recovered := false }]))
theorem state_any (F : Nat -> Prop) (base mb ob f : Nat) (pv cv : Value) (ps : List PT) (rows : List (List (List Int))) (nx : List (List Int)) (ok : PsOk ps) (w1 w : World) (hM : MkX F w1 base mb ob f pv cv ps rows nx) (hk : Below w1.heap.size w1 w) (hF : ∀ x, w1.heap.size <= x -> F x)
  (lv : Value) (r : List (List Int)) (hl : OwnLL w1.heap.size w lv r) (hr : RowIn ps r) (hn : rows.Nodup) (hrows : ∀ p ∈ rows, RowIn ps p) (hf : f <= 4000) (hlen : rows.length <= f) (hP : ∀ W, Below base w1 W -> IsPts W pv ps) (hT : ∀ W, Below base w1 W -> TabW W) :
  Calls Tryz.prog 81 #[.pointer (some ⟨mb, 0, none⟩), lv] w fun e w' => StateQ F base mb ob f pv cv ps rows nx r w1 w e w' := by
 obtain ⟨iLL, hiLL, hzLL0, hzLL1, hzLL2⟩ := info_parts Tryz.infoLL
 obtain ⟨iL, hiL, hzL0, hzL1, hzL2⟩ := info_parts Tryz.infoL
 obtain ⟨iI, hiI, hzI0, hzI1, hzI2⟩ := info_parts Tryz.infoI
 obtain ⟨sv, nv, kv, us, ns, ks, M⟩ := hM
 have GJ : base <= w1.heap.size := Nat.le_trans M.bm (Nat.le_of_lt M.blk.lt)
 have GV : Hid (Below base w1 w) := hid (hk.mono GJ)
 have CK : Hid (Calls Tryz.prog 118 #[lv] w fun e w' => e = .returned (rowK r) /\ Below w.heap.size w w') := hid (key_any lv r (rowIn_K ok hr) w hl.ll fun W hW => hT W (GV.out.trans (hW.mono (Nat.le_trans GJ hk.size))))
 have MW := hid (M.below hk)
 have M1 := hid M
 have HK := hid hk
 have HL := hid hl
 have KI : Hid (∀ p ∈ rows, KeyIn p) := hid fun p hp => (rowIn_K ok (hrows p hp)).in
 have KR : Hid (KeyIn r) := hid (rowIn_K ok hr).in
 have HP := hid hP
 have OK := hid ok
 have HR := hid hr
 have Gm := hid hn
 have HF := hid hF
 obtain ⟨L, hL⟩ : ∃ L, L = rows.length := ⟨_, rfl⟩
 have G7 := hid hL
 have J8 : L <= f := by omega
 have GB := M.st.1
 rw [<- hL] at GB
 obtain ⟨sa, sc, rfl⟩ := ownsRow_form GB
 obtain ⟨la, lc, rfl⟩ := hl.form
 obtain ⟨K0, GH⟩ : ∃ z, z = rowK r := ⟨_, rfl⟩
 obtain ⟨n, hpn⟩ : ∃ z, z = ps.length := ⟨_, rfl⟩
 have Gj : n <= 64 := by rw [hpn]; exact ok.1
 obtain ⟨pa, pc, rfl⟩ := (hP w1 (Below.refl _ _)).form
 rw [<- hpn] at MW M1 HP hP M ⊢
 have GL := hid hpn
 rw [<- GH] at CK
 have Gd := hid GH
 have hb1' : base <= w.heap.size := Nat.le_trans GJ hk.size
 clear M hk hl hr hn hrows hP hT hF hL GB GH ok hlen hpn
 go_enter Tryz.func81, Tryz.ntmps81
 go_wp2_with fail
 refine CK.out.mono ?_
 rintro e wa ⟨rfl, hx⟩
 have MA := hid (MW.out.below hx)
 have XA := hid hx
 have LA := hid (HL.out.below hx)
 clear hx MW CK
 obtain ⟨m0, m1, m2, m3, m4, m5, m6⟩ := MA.out.blk.seven
 have G8 := ms_look MA.out.map Gm.out KI.out r KR.out
 rw [<- Gd.out] at G8
 rcases G8 with ⟨hq, hlk⟩ | ⟨hq, hlk⟩
 ·have HQ := hid hq
  clear hq
  go_wp2_with fail
  by_cases hfl : f <= L
  ·have GU : (f : Int) <= (L : Int) := by omega
   have d1 : decide ((f : Int) <= (L : Int)) = true := decide_eq_true GU
   go_quiet (fail)
   go_wp2_with fail
   exact ⟨rfl, (Keeps.of_below XA.out fun x hx => Nat.lt_of_lt_of_le hx.1 HK.out.size : Keeps (fun x => x < w1.heap.size /\ (x < base \/ ¬ F x)) w wa).drewN _, .inr (.inr ⟨HQ.out, by rw [<- G7.out]; exact hfl, rfl⟩)⟩
  ·have GU : ¬ ((f : Int) <= (L : Int)) := by omega
   have d1 : decide ((f : Int) <= (L : Int)) = false := decide_eq_false GU
   go_quiet (fail)
   go_wp2_with fail
   refine wp_named ?_
   intro wb hwb
   have MB : Hid (Mk F wb base mb ob f (.slice pa n pc) cv ps rows nx (.slice sa L sc) nv kv us ns ks) := hid (by rw [hwb]; exact MA.out.keeps ((Keeps.refl (fun _ => True) wa).drewN _) fun _ _ _ => trivial)
   have LB : Hid (OwnLL w1.heap.size wb (.slice la r.length lc) r) := hid (by rw [hwb]; exact LA.out)
   have XB : Hid (Below w.heap.size w wb) := hid (by rw [hwb]; exact ((Keeps.of_below XA.out fun _ h => h : Keeps (· < w.heap.size) w wa).drewN _).below)
   have GN : wb.heap.size = wa.heap.size := by rw [hwb]; rfl
   clear hwb m0 m1 m2 m3 m4 m5 m6 MA LA XA hlk
   obtain ⟨m0, m1, m2, m3, m4, m5, m6⟩ := MB.out.blk.seven
   refine wp_region_reg false (fun _ => False) (by kernel_rfl) 10 [0, 1, 3, 7, 0, 0, 32, 96, 224, 480, 1023] (fun i => i == 10) (by kernel_rfl) (fun _ => Eff.any _) ?_
   intro C hC hne
   have HC := hid hC
   have f2 := regCell hC (p := ⟨mb, 2, none⟩) MB.out.blk.lt (fun h => h) m2
   have f3 := regCell hC (p := ⟨mb, 3, none⟩) MB.out.blk.lt (fun h => h) m3
   clear hC m0 m1 m2 m3 m4 m5 m6
   repeat (refine regStep (fun K hK => ?_); first | (refine regN rfl ?_; try go_simp; refine hK _ _ ?_; clear hK K) | (refine regF rfl rfl ?_; unfold floatAt; go_simp; refine hK _ _ ?_; clear hK K))
   refine regNil (fun wm hW hH => ?_)
   have G3 := (HC.out wm).1 hW
   have MW := hid (MB.out.below G3.below)
   have LW := hid (LB.out.below G3.below)
   have XW := hid (XB.out.trans (G3.below.mono XB.out.size))
   clear G3 hW hH HC hne f2 f3 MB LB XB GN
   obtain ⟨wc, hput, hms, hkc, hszc⟩ := ms_put (w := wm) MW.out.map KI.out r KR.out HQ.out
   rw [<- Gd.out, <- G7.out] at hput
   have BC := hid (MW.out.blk.keeps hkc (fun e => by have h1 := MW.out.map; have h2 : wm.heap[mb]? = _ := MW.out.blk; rw [e] at h2; have h3 : wm.heap[ob]? = _ := h1; rw [h2] at h3; cases h3))
   have SC : Hid (wc.ownsRow base 29 1 (.slice sa L sc) L us) := hid (by have h5 := ownsRow_keeps MW.out.st.1 hkc (fun x hx => row_nb MW.out.st.1 MW.out.map (fun c fz e => by cases e) x hx); rw [<- G7.out] at h5; exact h5)
   have J4 : base <= wc.heap.size := by rw [hszc]; exact Nat.le_trans hb1' XW.out.size
   have G6 := hid hszc
   clear hszc
   obtain ⟨c0, c1, c2, c3, c4, c5, c6⟩ := BC.out.seven
   go_wp2_with (at_builtin; refine Hid.out ?_)
   refine hid ?_
   refine wpList_append_own_at _ rfl (.tmp 52) (.tmp 54) 93 rfl base 29 iLL (.slice none 0 0) 1 24 Tryz.underlying93 hiLL hzLL0 hzLL1 hzLL2 rfl (by decide) _ _ _ rfl (SC.out.alloc _) ⟨wc.heap.size, 0, none⟩ 1 1 [.slice la r.length lc] rfl rfl (cell_one _ _ _) (by simp [Value.oneCell']) (by unfold maxLen; omega) (by omega) (by simp; omega) ?_
   intro v' wd hown' hgrow hh hat; have HO := hid hown'; have HG := hid hgrow; have Gt := hid hat; clear hown' hgrow hh hat
   obtain ⟨sa2, sc2, rfl⟩ := ownsRow_form HO.out
   have BD := hid ((BC.out.alloc _).grown HG.out (fun e => row_ne BC.out SC.out (by decide) mb e.symm rfl))
   clear c0 c1 c2 c3 c4 c5 c6 hput
   obtain ⟨c0, c1, c2, c3, c4, c5, c6⟩ := BD.out.seven
   have z2 := BD.out.frozen 2
   go_wp2
   refine wp_named ?_
   intro we hwe
   have BE : Hid (Blk we mb #[.slice pa n pc, .int .i64 f, .slice sa2 (L + 1) sc2, .map (some ob), cv, nv, kv] 95) := hid (by rw [hwe]; exact BD.out.set 2 _)
   have G9 : ∀ x, (Value.slice sa L sc).ownBlock = some x -> base <= x /\ x < w1.heap.size := fun x e => M1.out.st.1.lt x e
   have KG : Hid (Keeps (fun x => x < wm.heap.size /\ (Value.slice sa L sc).ownBlock ≠ some x) wc wd) := hid (((Keeps.refl _ _).alloc (fun x hx => by rw [G6.out]; exact hx.1) _).tr (Keeps.of_grown HG.out fun x hx => ⟨by have := hx.1; rw [<- G6.out] at this; simp; omega, fun e => hx.2 e.symm⟩))
   have KE : Hid (Keeps (fun x => x < wm.heap.size /\ x ≠ ob /\ x ≠ mb /\ (Value.slice sa L sc).ownBlock ≠ some x) wm we) := hid (by
    rw [hwe]
    exact ((hkc.mono fun x hx => hx.2.1).tr (KG.out.mono fun x hx => ⟨hx.1, hx.2.2.2⟩)).setCell (fun h => h.2.2.1 rfl) _)
   have SE : Hid (we.ownsRow base 29 1 (.slice sa2 (L + 1) sc2) (L + 1) (us ++ [.slice la r.length lc])) := hid (by
    rw [hwe]
    exact ownsRow_keeps HO.out ((Keeps.refl (· ≠ mb) wd).setCell (p := ⟨mb, 2, none⟩) (fun h => h rfl) _) fun x hx => row_ne BD.out HO.out (by decide) x hx)
   have ME : Hid (IsMs we ob (rows ++ [r])) := hid (by
    rw [hwe]
    have h5 : ob ≠ mb := fun e => by
     have h2 : wc.heap[mb]? = _ := BC.out
     have h3 : wc.heap[ob]? = _ := hms
     rw [e, h2] at h3; cases h3
    have h6 : IsMs wd ob (rows ++ [r]) := hms.keeps KG.out ⟨by rw [<- G6.out]; exact hms.lt, fun e => row_nb SC.out hms (fun c fz e => by cases e) ob e rfl⟩
    exact h6.keeps ((Keeps.refl (· ≠ mb) wd).setCell (p := ⟨mb, 2, none⟩) (fun h => h rfl) _) h5)
   have XE : Hid (Below base w1 we) := hid ((GV.out.trans (XW.out.mono hb1')).trans (KE.out.mono fun x hx => ⟨Nat.lt_of_lt_of_le (Nat.lt_of_lt_of_le hx hb1') XW.out.size, by have h1 : x < base := hx; have := M1.out.bo; omega, by have h1 : x < base := hx; have := M1.out.bm; omega, fun e => by have h1 : x < base := hx; have := (G9 x e).1; omega⟩ : Keeps (· < base) wm we).below)
   have LE : Hid (OwnLL w1.heap.size we (.slice la r.length lc) r) := hid (LW.out.keeps KE.out fun x h1 h2 => ⟨h2, by have := M1.out.map.lt; omega, by have := M1.out.blk.lt; omega, fun e => by have := (G9 x e).2; omega⟩)
   have GX : r.length = n := by rw [GL.out]; exact HR.out.1
   have GY := hid GX
   have GF : base <= we.heap.size := by rw [hwe]; have := BD.out.lt; have := M1.out.bm; simp; omega
   clear hwe c0 c1 c2 c3 c4 c5 c6 z2 GX G9
   go_loopw [8, 63] (fun mv iv wr => ∃ k : Nat, k <= n /\ iv = .int .i64 k /\ wr.ownsRow we.heap.size 3 1 mv (accTo ps r k).length ((accTo ps r k).map encZ) /\ Below we.heap.size we wr) (fun _ iv _ => n - (intOf iv).toNat)
   case atStart => exact ⟨0, by omega, rfl, World.ownsRow_nil _ _ _ _, Below.refl _ _⟩
   case round =>
    obtain ⟨k, hk, rfl, ho, hx⟩ := hrel
    obtain ⟨wo, rfl⟩ : ∃ wo : World, wo = wr := ⟨_, rfl⟩
    have HX := hid hx
    have Gr := accTo_len ps r k
    obtain ⟨am, ham⟩ : ∃ z, z = (accTo ps r k).length := ⟨_, rfl⟩
    rw [<- ham] at ho Gr
    obtain ⟨ma, mc, rfl⟩ := ownsRow_form ho
    have GK := hid ho
    have GI := hid ham
    clear hx ho ham
    by_cases hlt : k < n
    ·have J9 : (k : Int) < n := by omega
     have G5 : (k : Int) < (r.length : Int) := by have := GY.out; omega
     obtain ⟨x, hx⟩ : ∃ x, ps[k]? = some x := ⟨_, List.getElem?_eq_getElem (by have := GL.out; omega)⟩
     obtain ⟨l, hl⟩ : ∃ l, r[k]? = some l := ⟨_, List.getElem?_eq_getElem (by have := GY.out; omega)⟩
     obtain ⟨b, off, v0, v1, v2, v3, rfl, hb, hnf, q0, q1, q2, q3, q4, q5, q6⟩ := (HP.out wo (XE.out.trans (HX.out.mono GF))).elem hx
     obtain ⟨b2, off2, a', c', rfl, hb2, cl, hsl⟩ := (LE.out.ll.below HX.out).elem hl
     obtain ⟨x0, n0, y0, x1, n1, y1, x2, n2, y2, x3, n3, y3, rfl, rfl, rfl, rfl⟩ := hnf.form4
     have Gp := hid hnf
     have Gz := hid hsl
     have h2 := OK.out.2 x (List.mem_of_getElem? hx)
     have GB := HR.out.2 k x l hx hl
     obtain ⟨B, hB⟩ : ∃ z, z = x.nf.acc l := ⟨_, rfl⟩
     have CA : Hid (∀ (v u : Value) (W : World), IsNf W v x.nf -> IsSl encZ W u l -> Calls Tryz.prog 119 #[v, u] W fun e w' => e = .returned (.tuple #[.bool B, .int .i64 0]) /\ Below W.heap.size W w') := hid fun v u W hv hu => by rw [hB]; exact nAccepts_any v u x.nf h2.1 l GB W hv h2.2.1 hu (Nat.le_trans (st_len h2.1 GB) (by decide))
     have Gh : Hid (accTo ps r (k + 1) = accTo ps r k ++ if B then [x.mark] else []) := hid (by rw [hB]; exact accTo_succ hx hl)
     clear hx hl hnf hsl h2 GB hB
     go_wp2
     refine wp_named ?_
     intro V hV
     have BX : Hid (Blk V wo.heap.size #[.slice x0 n0 y0, .slice x1 n1 y1, .slice x2 n2 y2, .slice x3 n3 y3, .bool x.nf.emp, .bool x.beg, .int .i64 x.mark] 46) := hid (by rw [hV]; exact Blk.new wo _ _)
     have XV : Hid (Below wo.heap.size wo V) := hid (by rw [hV]; exact ((Ext.refl wo).alloc _).below)
     have GT : V.cell? ⟨b2, off2 + k, none⟩ = some (.slice a' l.length c') := ((Keeps.of_below XV.out fun _ h => h : Keeps (· < wo.heap.size) wo V).cell (p := ⟨b2, off2 + k, none⟩) hb2).trans cl
     clear hV q0 q1 q2 q3 q4 q5 q6 cl
     refine wp_region_reg false (fun _ => False) (by kernel_rfl) 11 [0, 1, 0, 0, 12, 28, 63, 127, 255, 255, 511, 2047] (fun i => i == 6) (by kernel_rfl) (fun i => if i = 6 then Eff.det _ (.tuple #[.bool B, .int .i64 0]) else Eff.any _) ?_
     intro C hC hne
     have HC := hid hC
     have f0 := regCell hC (p := ⟨wo.heap.size, 0, none⟩) BX.out.lt (fun h => h) (BX.out.cell 0)
     have f1 := regCell hC (p := ⟨wo.heap.size, 1, none⟩) BX.out.lt (fun h => h) (BX.out.cell 1)
     have f2 := regCell hC (p := ⟨wo.heap.size, 2, none⟩) BX.out.lt (fun h => h) (BX.out.cell 2)
     have f3 := regCell hC (p := ⟨wo.heap.size, 3, none⟩) BX.out.lt (fun h => h) (BX.out.cell 3)
     have f4 := regCell hC (p := ⟨wo.heap.size, 4, none⟩) BX.out.lt (fun h => h) (BX.out.cell 4)
     have f5 := regCell hC (p := ⟨b2, off2 + k, none⟩) (World.block_lt_of_cell? _ _ GT) (fun h => h) GT
     clear hC GT
     repeat (refine regStep (fun K hK => ?_); first | (refine regN rfl ?_; try go_simp; refine hK _ _ ?_; clear hK K) | (refine regF rfl rfl ?_; unfold floatAt; go_simp; refine hK _ _ ?_; clear hK K))
     refine regStep (fun K hK => ?_)
     refine regE rfl rfl (Eff.det _ (.tuple #[.bool B, .int .i64 0])) rfl (fun W hW hN => ?_) (fun v hv => ?_)
     ·have hM := (HC.out W).1 hW
      clear hW
      go_simp
      refine effT_call ((CA.out _ _ _ ((Gp.out.below XV.out).below hM.below) ((Gz.out.below XV.out).below hM.below)).mono ?_)
      rintro e w2 ⟨rfl, hx⟩
      exact ⟨_, rfl, Move.of_below hx, rfl, trivial⟩
     replace hv : v = _ := hv
     subst hv
     go_simp
     refine hK _ _ ?_
     clear hK K
     repeat (refine regStep (fun K hK => ?_); first | (refine regN rfl ?_; try go_simp; refine hK _ _ ?_; clear hK K) | (refine regF rfl rfl ?_; unfold floatAt; go_simp; refine hK _ _ ?_; clear hK K))
     refine regNil (fun W hW hH => ?_)
     have G3 := (HC.out W).1 hW
     have BW := hid (BX.out.below G3.below BX.out.lt)
     have GQ := hid (XV.out.trans (G3.below.mono XV.out.size))
     clear G3 hW hH HC hne f0 f1 f2 f3 f4 f5
     have i6 := BW.out.seven.2.2.2.2.2.2
     have OW := hid (ownsRow_below GK.out GQ.out)
     have Gl : wo.heap.size < W.heap.size := BW.out.lt
     have GM : we.heap.size <= wo.heap.size := HX.out.size
     cases B with
     | false =>
      go_wp2
      go_roundw
      case rel => exact ⟨k + 1, by omega, by go_num, by rw [Gh.out]; simp only [Bool.false_eq_true, if_false, List.append_nil]; rw [<- GI.out]; exact OW.out, HX.out.trans (GQ.out.mono GM)⟩
      case measure => simp [intOf]; omega
     | true =>
      go_wp2_with (at_builtin; refine wpList_append_own_at _ rfl (.tmp 79) (.tmp 82) 37 rfl we.heap.size 3 iI (.int .i64 0) 1 8 Tryz.underlying37 hiI hzI0 hzI1 hzI2 rfl (by decide) _ _ _ rfl (OW.out.alloc _) ⟨W.heap.size, 0, none⟩ 1 1 [.int .i64 x.mark] rfl rfl (cell_one _ _ _) (by simp [Value.oneCell']) (by unfold maxLen; omega) (by omega) (by simp; omega) ?_; intro v' w2 hown' hgrow hh hat; have Gv := hid hown'; have J3 := hid hgrow; clear hown' hgrow hh hat)
      go_roundw
      case rel =>
       refine ⟨k + 1, by omega, by go_num, ?_, ?_⟩
       ·rw [Gh.out]
        simp only [if_true]
        rw [List.length_append, List.map_append, <- GI.out]
        exact Gv.out
       ·have XX := HX.out.trans (GQ.out.mono HX.out.size)
        exact (XX.alloc XX.size _).grown J3.out (by have := XX.size; simp; omega) (fun c e => (OW.out.lt c e).1)
      case measure => simp [intOf]; omega
    ·obtain rfl : k = n := by omega
     have J6 : ¬ ((k : Int) < k) := by omega
     have Gf : Hid (Calls Tryz.prog 25 #[.slice ma am mc] wo fun e w' => e = .returned (.tuple #[]) /\ w'.ownsRow we.heap.size 3 1 (.slice ma am mc) am ((sortZ (accTo ps r k)).map encZ) /\ Keeps (fun x => x < wo.heap.size /\ (Value.slice ma am mc).ownBlock ≠ some x) wo w') := hid (sortI_any _ _ _ _ _ GK.out (by omega))
     go_wp2_with fail
     refine Gf.out.mono ?_
     rintro e wf ⟨rfl, ho, hx⟩
     have OF := hid ho
     have Gi : ∀ x, (Value.slice ma am mc).ownBlock = some x -> we.heap.size <= x := fun x e => (GK.out.lt x e).1
     have XF : Hid (Below we.heap.size we wf) := hid (HX.out.trans (hx.mono fun x hx' => ⟨Nat.lt_of_lt_of_le hx' HX.out.size, fun e => by have h1 : x < we.heap.size := hx'; have := Gi x e; omega⟩ : Keeps (· < we.heap.size) wo wf).below)
     clear ho hx GK HX Gf Gi
     have Ga : accTo ps r k = accMarks ps r := by have := accTo_all (ps := ps) (row := r) HR.out.1; rw [<- GL.out] at this; exact this
     obtain ⟨cn, hcn⟩ : ∃ z, z = (Lib.compact (sortZ (accTo ps r k))).length := ⟨_, rfl⟩
     obtain ⟨cx, hcx⟩ : ∃ z, z = (Lib.compact (sortZ (accTo ps r k))).map encZ := ⟨_, rfl⟩
     have Gg : Hid (Lib.compact (sortZ (accTo ps r k)) = marksR ps r) := hid (by rw [Ga]; exact marks_compact fun x hx => (OK.out.2 x hx).2.2)
     have Gs : cn <= 64 := by have h5 := Lib.compact_length_le (sortZ (accTo ps r k)); rw [<- hcn, sortZ_len, <- GI.out] at h5; omega
     have CC : Hid (∀ W, W.ownsRow we.heap.size 3 1 (.slice ma am mc) am ((sortZ (accTo ps r k)).map encZ) -> Calls Tryz.prog 26 #[.slice ma am mc] W fun e w' => e = .returned (.slice ma cn mc) /\ w'.ownsRow we.heap.size 3 1 (.slice ma cn mc) cn cx /\ Keeps (fun x => x < W.heap.size /\ (Value.slice ma am mc).ownBlock ≠ some x) W w') := hid fun W hW => (compactK_any _ _ _ _ W hW (by omega)).mono fun e w' ⟨u, he, h1, h2, h3⟩ => by
      have h4 := compact_value (by rw [sortZ_len, <- GI.out]) h3
      rw [<- hcn] at h4 h1
      rw [<- hcx] at h1
      rw [h4] at he h1
      exact ⟨he, h1, h2⟩
     have Gb : Hid (cn = (marksR ps r).length /\ cx = (marksR ps r).map encZ) := hid ⟨by rw [hcn, Gg.out], by rw [hcx, Gg.out]⟩
     have G5 : wm.ownsRow base 37 1 kv L ks := by have := MW.out.mkr.1; rw [<- G7.out] at this; exact this
     obtain ⟨ka, kc, rfl⟩ := ownsRow_form G5
     have J7 := hid G5
     have GR : wm.ownsRow base 29 1 (.slice sa L sc) L us := by have := MW.out.st.1; rw [<- G7.out] at this; exact this
     have SW := hid GR
     have GD : Hid (we.ownsRow base 37 1 (.slice ka L kc) L ks) := hid (ownsRow_keeps G5 KE.out fun x hx => ⟨(G5.lt x hx).2, row_nb G5 MW.out.map (fun c fz e => by cases e) x hx, row_ne MW.out.blk G5 (by decide) x hx, fun e2 => by
      rcases ownBlock_ne (by decide) G5 GR with h5 | h5
      ·rw [h5] at hx; cases hx
      ·exact h5 (by rw [hx, e2])⟩)
     have GG : ∀ x, (Value.slice ka L kc).ownBlock = some x -> x < we.heap.size := fun x e => (GD.out.lt x e).2
     have Gx := hid GG
     have BF := hid (BE.out.below XF.out BE.out.lt)
     have Gk := hid (ownsRow_below GD.out XF.out)
     have GE : (Value.slice ka L kc).ownBlock ≠ some mb := fun e => row_ne BE.out GD.out (by decide) mb e rfl
     have GP : we.heap.size <= wf.heap.size := XF.out.size
     clear Ga hcn hcx G5 GR GG
     obtain ⟨c0, c1, c2, c3, c4, c5, c6⟩ := BF.out.seven
     go_wp2_with fail
     refine RegQ.wp_region_regM (MvC we.heap.size base L cn (.slice ka L kc) (.slice ma cn mc) ks cx) MvC.drew (fun _ _ _ h k => h.trans k) (by kernel_rfl) 10 [0, 0, 2, 6, 14, 30, 0, 64, 192, 510, 1023, 2047, 4095, 8191] (fun i => i == 7 || i == 8 || i == 9 || i == 13) (by kernel_rfl) (fun i => if i = 7 then EffC.com we.heap.size base L cn (.slice ka L kc) (.slice ma cn mc) ks cx else if i = 8 then EffC.box we.heap.size base L cn (.slice ka L kc) (.slice ma cn mc) ks cx else if i = 9 then EffC.new we.heap.size base L cn (.slice ka L kc) (.slice ma cn mc) ks cx else Eff.any _) (fun j W => j = 7 -> W.ownsRow we.heap.size 3 1 (.slice ma am mc) am ((sortZ (accTo ps r k)).map encZ)) (fun _ _ _ => OF.out) ?_
     intro C hC hne
     have HC := hid hC
     have f6 : ∀ W : { W // C W }, W.1.cell? ⟨mb, 6, none⟩ = some (.slice ka L kc) := fun W => (((hC W.1).1 W.2).keep.cell (p := ⟨mb, 6, none⟩) ⟨BE.out.lt, BF.out.lt, GE⟩).trans c6
     clear hC c0 c1 c2 c3 c4 c5 c6
     repeat (refine RegQ.regStep (fun K hK => ?_); first | (refine RegQ.regN rfl ?_; try go_simp; refine hK _ _ ?_; clear hK K) | (refine RegQ.regF rfl rfl ?_; unfold floatAt; go_simp; refine hK _ _ ?_; clear hK K))
     refine RegQ.regStep (fun K hK => ?_)
     refine RegQ.regE rfl rfl (EffC.com we.heap.size base L cn (.slice ka L kc) (.slice ma cn mc) ks cx) rfl (fun W hW hD hN => ?_) (fun v hv => ?_)
     ·have Ge := hD rfl
      clear hW hD hN hK K
      go_simp
      refine effT_call ((CC.out W Ge).mono ?_)
      rintro e w2 ⟨rfl, ho, hk2⟩
      exact ⟨_, rfl, ⟨MvC.compact Ge hk2 ho, fun j hj _ e => absurd e hj⟩, rfl, ho⟩
     replace hv : v = _ := hv
     subst hv
     go_simp
     refine hK _ _ ?_
     clear hK K
     refine RegQ.regStep (fun K hK => ?_)
     refine RegQ.regE rfl rfl (EffC.box we.heap.size base L cn (.slice ka L kc) (.slice ma cn mc) ks cx) rfl (fun W hW hD hN => ?_) (fun v hv => ?_)
     ·have Gu := ((HC.out W).1 hW).size
      clear hW hN hK K
      go_simp
      exact ⟨⟨MvC.below ((Ext.refl _).alloc _).below, fun j _ _ h e => (h e).alloc _⟩, ⟨_, by omega, rfl⟩, fun b hb => by cases hb; exact Blk.new _ _ _⟩
     obtain ⟨bx, hbx9, rfl⟩ := hv
     go_simp
     refine hK _ _ ?_
     clear hK K
     refine RegQ.regStep (fun K hK => ?_)
     refine RegQ.regE rfl rfl (EffC.new we.heap.size base L cn (.slice ka L kc) (.slice ma cn mc) ks cx) rfl (fun W hW hD hN => ?_) (fun v hv => ?_)
     ·have G3 := (HC.out W).1 hW
      have GZ : Blk W bx #[.slice ma cn mc] 37 := hN.at 0 rfl (by kernel_rfl) bx rfl
      have GW := G3.old Gk.out
      have Gu := G3.size
      have Gy := hid GZ
      have GS := hid GW
      clear hW hN hK K G3 GZ GW
      refine effT_appendL (.tmp 92) (.tmp 95) 29 rfl base 37 iL (.slice none 0 0) 1 24 Tryz.underlying29 hiL hzL0 hzL1 hzL2 rfl (by decide) (.slice ka L kc) L ks rfl GS.out ⟨bx, 0, none⟩ 1 1 [.slice ma cn mc] rfl Gy.out.news1 rfl (by simp [Value.oneCell']) (by unfold maxLen; omega) (by omega) (by omega) (by decide) ?_
      intro v' w2 ho hg hor
      refine ⟨⟨MvC.append GS.out Gx.out ho hg (hor.imp (fun h => h.1) id), fun j _ _ h e => (h e).kept hg (ownBlock_ne (by decide) (h e) GS.out)⟩, ownsRow_form ho, ho, ?_⟩
      rcases hor with ⟨_, h⟩ | ⟨g, cap, h1, h2, _⟩
      ·exact .inr fun x hx => by rw [h] at hx; cases hx; omega
      ·exact .inl (by rw [h2, h1]; rfl)
     obtain ⟨kb, kd, rfl⟩ := hv
     go_simp
     refine hK _ _ ?_
     clear hK K
     refine RegQ.regNil (fun W hW hH => ?_)
     have G3 := (HC.out W).1 hW
     have NR : Hid (W.ownsRow base 37 1 (.slice kb (L + 1) kd) (L + 1) (ks ++ [.slice ma cn mc]) /\ ((Value.slice kb (L + 1) kd).ownBlock = (Value.slice ka L kc).ownBlock \/ ∀ x, (Value.slice kb (L + 1) kd).ownBlock = some x -> we.heap.size <= x)) := hid (hH _ (List.mem_of_getElem? (show _ = some _ from rfl : _[0]? = some _)))
     have CR : Hid (W.ownsRow we.heap.size 3 1 (.slice ma cn mc) cn cx) := hid (hH _ (List.mem_of_getElem? (show _ = some _ from rfl : _[2]? = some _)))
     have BG := hid (BF.out.keeps G3.keep ⟨BE.out.lt, BF.out.lt, GE⟩)
     have KV := hid G3.keep
     clear G3 hW hH HC hne f6 CC OF
     obtain ⟨c0, c1, c2, c3, c4, c5, c6⟩ := BG.out.seven
     have z6 := BG.out.frozen 6
     have wL : IntKind.i64.wrap (L : Int) = L := IntWalk.i64_in _ (by omega)
     go_wp2
     refine post_named2 ?_
     intro wg hwg
     go_ret
     have Gc : wm.heap.size <= we.heap.size := KE.out.size
     have J5 : w1.heap.size <= wm.heap.size := Nat.le_trans HK.out.size XW.out.size
     have GA : ∀ x, (Value.slice ka L kc).ownBlock = some x -> base <= x /\ x < w1.heap.size := fun x e => M1.out.mkr.1.lt x e
     have GO : ∀ x, (Value.slice sa L sc).ownBlock = some x -> base <= x /\ x < w1.heap.size := fun x e => M1.out.st.1.lt x e
     have Gn := M1.out.blk.lt
     have Gw := M1.out.map.lt
     have K2 : Keeps (fun x => x < we.heap.size /\ x ≠ mb /\ (Value.slice ka L kc).ownBlock ≠ some x) we wg := by
      rw [hwg]
      exact ((Keeps.of_below XF.out fun x hx => hx.1 : Keeps (fun x => x < we.heap.size /\ x ≠ mb /\ (Value.slice ka L kc).ownBlock ≠ some x) we wf).tr (KV.out.mono fun x hx => ⟨hx.1, Nat.lt_of_lt_of_le hx.1 GP, hx.2.2⟩)).setCell (fun h => h.2.1 rfl) _
     have K : Keeps (fun x => x < wm.heap.size /\ x ≠ ob /\ x ≠ mb /\ (Value.slice sa L sc).ownBlock ≠ some x /\ (Value.slice ka L kc).ownBlock ≠ some x) wm wg := (KE.out.mono fun x hx => ⟨hx.1, hx.2.1, hx.2.2.1, hx.2.2.2.1⟩).tr (K2.mono fun x hx => ⟨Nat.lt_of_lt_of_le hx.1 Gc, hx.2.2.1, hx.2.2.2.2⟩)
     obtain ⟨lus, ll1, ll2, ll3⟩ := LE.out
     have GC : ∀ x, (Value.slice la r.length lc).ownBlock = some x -> w1.heap.size <= x /\ x < we.heap.size := fun x e => ll2.lt x e
     have G4 : ∀ (v y : Value) (N : Nat), (∀ x, v.ownBlock = some x -> N <= x) -> (∀ x, y.ownBlock = some x -> x < N) -> Far v y := fun v y N h1 h2 => by
      cases e : v.ownBlock with
      | none => exact .inl e
      | some x => exact .inr fun e2 => by have := h1 x e; have := h2 x (by rw [<- e2, e]); omega
     have GH : Keeps (fun x => x < w1.heap.size /\ (x < base \/ ¬ F x)) w wg := (Keeps.of_below XW.out fun x hx => Nat.lt_of_lt_of_le hx.1 HK.out.size : Keeps (fun x => x < w1.heap.size /\ (x < base \/ ¬ F x)) w wm).tr (K.mono fun x hx => ⟨by omega, fun e => by subst e; rcases hx.2 with h | h; exact absurd M1.out.bo (by omega); exact h M1.out.fo, fun e => by subst e; rcases hx.2 with h | h; exact absurd M1.out.bm (by omega); exact h M1.out.fm, fun e => by rcases hx.2 with h | h; exact absurd (GO x e).1 (by omega); exact h (M1.out.st.2 x e), fun e => by rcases hx.2 with h | h; exact absurd (GA x e).1 (by omega); exact h (M1.out.mkr.2 x e)⟩)
     have q1 : Blk wg mb #[.slice pa k pc, .int .i64 f, .slice sa2 (L + 1) sc2, .map (some ob), cv, nv, .slice kb (L + 1) kd] 95 := by rw [hwg]; exact BG.out.set 6 _
     have q2 : IsMs wg ob (rows ++ [r]) := ME.out.keeps K2 ⟨ME.out.lt, (fun e => by have h2 : we.heap[mb]? = _ := BE.out; have h3 : we.heap[ob]? = _ := ME.out; rw [e, h2] at h3; cases h3), fun e => row_nb GD.out ME.out (fun c fz e => by cases e) ob e rfl⟩
     have q3 : RowF F wg base 29 (.slice sa2 (L + 1) sc2) (L + 1) (us ++ [.slice la r.length lc]) := ⟨ownsRow_keeps SE.out K2 fun x hx => ⟨(SE.out.lt x hx).2, row_ne BE.out SE.out (by decide) x hx, fun e2 => by
      rcases ownBlock_ne (by decide) SE.out GD.out with h5 | h5
      ·rw [h5] at hx; cases hx
      ·exact h5 (by rw [hx, e2])⟩, fun x hx => by
      rcases Gt.out with h | h
      ·exact M1.out.st.2 x (h.symm.trans hx)
      ·rw [h] at hx; cases hx; exact HF.out _ (by have := G6.out; simp; omega)⟩
     have q4 : LLF F wg base (.slice la r.length lc) r := (LLF.of (LE.out.keeps K2 fun x h1 h2 => ⟨h2, by omega, fun e => by have := (GA x e).2; omega⟩) HF.out).base GJ
     have q5 : Far (.slice la r.length lc) nv := G4 _ _ w1.heap.size (fun x e => (GC x e).1) (fun x e => (M1.out.nxr.1.lt x e).2)
     have q6 : Far (.slice la r.length lc) (.slice kb (L + 1) kd) := by
      rcases NR.out.2 with h | h
      ·exact G4 _ _ w1.heap.size (fun x e => (GC x e).1) (fun x e => (GA x (h.symm.trans e)).2)
      ·cases e : (Value.slice la r.length lc).ownBlock with
       | none => exact .inl e
       | some x => exact .inr fun e2 => by have := (GC x e).2; have := h x (by rw [<- e2, e]); omega
     have q7 : RowF F wg base 37 (.slice kb (L + 1) kd) (L + 1) (ks ++ [.slice ma cn mc]) := ⟨by rw [hwg]; exact ownsRow_keeps NR.out.1 ((Keeps.refl (· ≠ mb) W).setCell (p := ⟨mb, 6, none⟩) (fun h => h rfl) _) fun x hx => row_ne BG.out NR.out.1 (by decide) x hx, fun x hx => by
      rcases NR.out.2 with h | h
      ·exact M1.out.mkr.2 x (h.symm.trans hx)
      ·exact HF.out x (by have := h x hx; omega)⟩
     have q8 : RowF F wg base 3 (.slice ma cn mc) cn cx := ⟨by rw [hwg]; exact ownsRow_base (ownsRow_keeps CR.out ((Keeps.refl (· ≠ mb) W).setCell (p := ⟨mb, 6, none⟩) (fun h => h rfl) _) fun x hx => row_ne BG.out CR.out (by decide) x hx) GF, fun x hx => HF.out x (by have := (CR.out.lt x hx).1; omega)⟩
     have q9 : ∀ v, (∀ x, v.ownBlock = some x -> x < wm.heap.size) -> Far v (.slice ka L kc) -> Far v (.slice kb (L + 1) kd) := fun v h1 h2 => h2.step NR.out.2 fun b e => Nat.lt_of_lt_of_le (h1 b e) Gc
     have MF := Mk.more MW.out G7.out K q1 q2 q3 q4 q5 q6 q7 q8 Gb.out.1 Gb.out.2 q9
     exact ⟨GH, .inr (.inl ⟨HQ.out, by rw [<- G7.out]; omega, by rw [<- G7.out]; rfl, _, _, _, _, _, _, MF⟩)⟩
 ·have HQ := hid hq
  obtain ⟨ix, hix⟩ : ∃ z, z = ixR rows r := ⟨_, rfl⟩
  rw [<- hix] at hlk
  have Gq := hid hix
  clear hq hix
  go_wp2
  go_ret
  refine ⟨Keeps.of_below XA.out fun x hx => Nat.lt_of_lt_of_le hx.1 HK.out.size, .inl ⟨HQ.out, by rw [Gq.out]; rfl, _, _, _, _, _, _, MA.out⟩⟩
end Go.Proofs.YtbiboekhakbnpaaGreatDoor
