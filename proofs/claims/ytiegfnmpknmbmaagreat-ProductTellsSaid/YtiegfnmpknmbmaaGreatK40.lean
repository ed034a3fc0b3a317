/-
  The examples of the chapter, in plain words.
  The reference's Not.
-/
import Derived.Test.YtiegfnmpknmbmaaGreatK32
import Derived.Test.YtiegfnmpknmbmaaGreatK35
import Derived.Test.YtiegfnmpknmbmaaGreatK39
import Derived.Test.YtiegfnmpknmbmaaGreatK37
import Derived.Test.YtiegfnmpknmbmaaGreatK18
import Derived.Test.YtiegfnmpknmbmaaGreatK29
namespace Go.Proofs.YtiegfnmpknmbmaaGreat
open Go Go.RowKit Go.Shelf Go.Maps

def cA : List BS := [~~~(letS [97]), letS [97]]
def cAB : List BS := [~~~(letS [97, 98]), letS [97, 98]]
theorem cA_perm1 : (partsRaw cA).isPerm cA = true := by kernel_rfl
theorem cA_perm2 : (partsRaw (cA ++ cA)).isPerm cA = true := by kernel_rfl
theorem cA_sorted : decide (cA.Pairwise fun x y => (!ltOf compareOf y x) = true) = true := by kernel_rfl
theorem cA_parts : partsOf cA = cA := partsOf_eq (List.isPerm_iff.1 cA_perm1) (of_decide_eq_true cA_sorted)
theorem cA_parts2 : partsOf (cA ++ cA) = cA := partsOf_eq (List.isPerm_iff.1 cA_perm2) (of_decide_eq_true cA_sorted)
theorem cAB_perm : (partsRaw cAB).isPerm cAB = true := by kernel_rfl
theorem cAB_sorted : decide (cAB.Pairwise fun x y => (!ltOf compareOf y x) = true) = true := by kernel_rfl
theorem cAB_parts : partsOf cAB = cAB := partsOf_eq (List.isPerm_iff.1 cAB_perm) (of_decide_eq_true cAB_sorted)
theorem right_at {d : DF} (hp : partsOf d.cl = d.cl) (h : (decide (1 ≤ d.nx.length) && decide (d.nx.length ≤ 4000) && decide (d.mr.length = d.nx.length) && (List.range d.nx.length).all d.rowB) = true) : d.right = true := by
  unfold DF.right
  rw [hp]
  simp only [Bool.and_eq_true] at h ⊢
  exact ⟨⟨h.1, by simp⟩, h.2⟩
theorem r1_right : (roundsD 1).right = true := right_at cA_parts (by kernel_rfl)
theorem r2_right : (roundsD 2).right = true := right_at cA_parts (by kernel_rfl)
theorem prodE_at {a b : DF} {P : List BS} (ha : a.right = true) (hb : b.right = true) (hP : partsOf (a.cl ++ b.cl) = P) (op fuel : Int) (h1 : 1 ≤ op) (h2 : op ≤ 4) (f1 : 1 ≤ fuel) (f2 : fuel ≤ 4000) {st : List (Nat × Nat) × List (List Nat)}
    (hst : stTo fuel.toNat (fun p k => (nxt a p.1 (cls a.cl (lb P k)), nxt b p.2 (cls b.cl (lb P k)))) P.length (0, 0) fuel.toNat = some st) :
    prodE a b op fuel = (⟨P, st.2.map fun r => r.map Int.ofNat, st.1.map (markOf a b op)⟩, 0) := by
  subst hP
  have e1 : prodOf a b op fuel.toNat = some ⟨partsOf (a.cl ++ b.cl), st.2.map fun r => r.map Int.ofNat, st.1.map (markOf a b op)⟩ := by
    unfold prodOf
    rw [show pairF a b = fun p k => (nxt a p.1 (cls a.cl (lb (partsOf (a.cl ++ b.cl)) k)), nxt b p.2 (cls b.cl (lb (partsOf (a.cl ++ b.cl)) k))) from rfl, hst]
    rfl
  unfold prodE
  rw [ha, hb, if_neg (by decide), if_neg (by omega), if_neg (by omega), if_neg (by omega), e1]
def dAnd : DF := ⟨cA, [[1, 2], [1, 1], [1, 0]], [[0], [], []]⟩
def dLess : DF := ⟨cA, [[1, 2], [1, 1], [1, 0]], [[], [], [0]]⟩
def dSeel : DF := ⟨cA, [[1, 2], [1, 1], [1, 0]], [[], [], []]⟩
def dSame : DF := ⟨cA, [[1, 0], [1, 1]], [[], []]⟩
def dAny : DF := ⟨cAB, [[1, 0], [1, 1]], [[0], []]⟩
theorem aw_and : prodE (roundsD 1) (roundsD 2) 1 99 = (dAnd, 0) := prodE_at (st := ([(0, 0), (1, 2), (0, 1)], [[1, 2], [1, 1], [1, 0]])) r1_right r2_right cA_parts2 1 99 (by decide) (by decide) (by decide) (by decide) (by kernel_rfl)
theorem aw_less : prodE (roundsD 1) (roundsD 2) 3 99 = (dLess, 0) := prodE_at (st := ([(0, 0), (1, 2), (0, 1)], [[1, 2], [1, 1], [1, 0]])) r1_right r2_right cA_parts2 3 99 (by decide) (by decide) (by decide) (by decide) (by kernel_rfl)
theorem aw_seel : prodE (roundsD 2) (roundsD 1) 3 99 = (dSeel, 0) := prodE_at (st := ([(0, 0), (2, 1), (1, 0)], [[1, 2], [1, 1], [1, 0]])) r2_right r1_right cA_parts2 3 99 (by decide) (by decide) (by decide) (by decide) (by kernel_rfl)
theorem aw_same : prodE (roundsD 1) (roundsD 1) 4 99 = (dSame, 0) := prodE_at (st := ([(0, 0), (1, 1)], [[1, 0], [1, 1]])) r1_right r1_right cA_parts2 4 99 (by decide) (by decide) (by decide) (by decide) (by kernel_rfl)
theorem dAnd_right : dAnd.right = true := right_at cA_parts (by kernel_rfl)
theorem dLess_right : dLess.right = true := right_at cA_parts (by kernel_rfl)
theorem dAny_right : dAny.right = true := right_at cAB_parts (by kernel_rfl)
theorem aw_first : firstR dLess = some [97] := by kernel_rfl
theorem aw_seel0 : firstR dSeel = none := by kernel_rfl
theorem aw_same0 : firstR dSame = none := by kernel_rfl
theorem aw_not_right : (notOf (roundsD 1)).right = true := right_at cA_parts (by kernel_rfl)
theorem aw_not : firstR (notOf (roundsD 1)) = some [0] := by kernel_rfl
theorem aw_yes : dAnd.mr.getD (runD dAnd 0 [97, 97]) [] = [0] := by kernel_rfl
theorem aw_no : dAnd.mr.getD (runD dAnd 0 [97]) [] = [] := by kernel_rfl
theorem aw_within : partsE (roundsD 1) (roundsD 2) 3 99 = ([97], false, 0) := by unfold partsE; rw [aw_less]; simp only [aw_first]; rfl
theorem aw_in : partsE (roundsD 2) (roundsD 1) 3 99 = ([], true, 0) := by unfold partsE; rw [aw_seel]; simp only [aw_seel0]; rfl
theorem aw_equal : partsE (roundsD 1) (roundsD 1) 4 99 = ([], true, 0) := by unfold partsE; rw [aw_same]; simp only [aw_same0]; rfl
theorem aw_count (most : Int) (h : most = 100 ∨ most = 5) : countE dAny 3 most = (if most = 100 then 8 else 5, 0) := by
  have e : (cntTo dAny 3).getD 0 0 = 8 := by kernel_rfl
  unfold countE
  rw [dAny_right]
  show countR dAny 3 most = _
  unfold countR maxC
  rcases h with rfl | rfl
  · rw [if_neg (by decide), show (3 : Int).toNat = 3 from rfl, e]; rfl
  · rw [if_neg (by decide), show (3 : Int).toNat = 3 from rfl, e]; rfl
theorem rounds_sm (n : Nat) (hn : n ≤ 1000) : Sm (roundsD n) := by
  refine ⟨by simp [roundsD], by simp [roundsD, rowsTo]; omega, by simp [roundsD]; omega, fun l hl => ?_, fun l hl => ?_⟩
  · simp only [roundsD, rowsTo, List.mem_append, List.mem_map, List.mem_singleton] at hl
    rcases hl with ⟨s, _, rfl⟩ | rfl <;> simp
  · simp only [roundsD, List.mem_cons, List.mem_replicate] at hl
    rcases hl with rfl | ⟨_, rfl⟩ <;> simp
end Go.Proofs.YtiegfnmpknmbmaaGreat
namespace Go.Proofs.YtiegfnmpknmbmaaGreat
open Go Go.RowKit Go.Shelf Go.Maps
attribute [local go_sem] encS

theorem notOf_get {d : DF} {k : Nat} {m : List Int} (h : d.mr[k]? = some m) : (notOf d).mr.take (k + 1) = (notOf d).mr.take k ++ [nfM m] := by
  have : (notOf d).mr[k]? = some (nfM m) := by
    show (d.mr.map _)[k]? = _
    rw [List.getElem?_map, h]
    rfl
  rw [List.take_add_one, this]
  rfl
set_option maxRecDepth 100000 in
set_option maxHeartbeats 8000000 in
theorem rnot_any (v : Value) (d : DF) (hml : d.mr.length ≤ 4000) (w : World) (h : IsRf w v d) :
    Calls Tryz.prog 33 #[v] w fun e w' => ∃ u, e = .returned u ∧ IsRf w' u (notOf d) ∧ Below w.heap.size w w' := by
  obtain ⟨iL, hiL, hzL0, hzL1, hzL2⟩ := info_parts Tryz.infoL
  obtain ⟨v0, v1, v2, rfl, h0, h1, h2⟩ := h
  obtain ⟨a0, c0, rfl⟩ := h0.form
  obtain ⟨a1, c1, rfl⟩ := h1.form
  obtain ⟨a2, c2, rfl⟩ := h2.form
  obtain ⟨K, hK⟩ : ∃ n, n = (d.cl.map refS).length := ⟨_, rfl⟩
  obtain ⟨N, hN⟩ : ∃ n, n = d.nx.length := ⟨_, rfl⟩
  obtain ⟨M, hM⟩ : ∃ n, n = d.mr.length := ⟨_, rfl⟩
  rw [← hM] at h2 hml ⊢
  rw [← hN] at h1 ⊢
  rw [← hK] at h0 ⊢
  have H0 := Lib.hid h0
  have H1 := Lib.hid h1
  have H2 := Lib.hid h2
  have HM := Lib.hid hM
  clear h0 h1 h2 hK hN hM
  go_enter Tryz.func33, Tryz.ntmps33
  go_wp2
  refine wp_named ?_
  intro V hV
  have B1 : Hid (Blk V w.heap.size #[.slice a0 K c0, .slice a1 N c1, .slice a2 M c2] 42) := by rw [hV]; exact ((Blk.new w _ _).alloc _).alloc _
  have B2 : Hid (Blk V (w.heap.size + 1) #[.slice none 0 0, .slice none 0 0, .slice none 0 0] 42) := by rw [hV]; exact ((Blk.new (w.alloc _) _ _).at (by simp)).alloc _
  have B3 : Hid (Blk V (w.heap.size + 1 + 1) #[.slice a0 K c0, .slice a1 N c1, .slice none 0 0] 42) := by rw [hV]; exact (Blk.new ((w.alloc _).alloc _) _ _).at (by simp)
  have HX : Hid (Below w.heap.size w V) := by rw [hV]; exact ((((Ext.refl w).alloc _).alloc _).alloc _).below
  clear hV
  go_wp2
  go_loopw [4] (fun i wr => ∃ (k : Nat) (u : Value), k ≤ M ∧ i = .int .i64 k ∧ Blk wr (w.heap.size + 1 + 1) #[.slice a0 K c0, .slice a1 N c1, u] 42 ∧ OwnLL V.heap.size wr u ((notOf d).mr.take k) ∧ Keeps (fun x => x < V.heap.size ∧ x ≠ w.heap.size + 1 + 1) V wr) (fun i _ => M - (intOf i).toNat)
  case atStart => exact ⟨0, _, Nat.zero_le _, rfl, B3.out, OwnLL.nil _ _, Keeps.refl _ _⟩
  case round =>
    obtain ⟨k, u, hk, rfl, hb, ho, hx⟩ := hrel
    obtain ⟨wo, rfl⟩ : ∃ wo : World, wo = wr := ⟨_, rfl⟩
    have hb3 : w.heap.size + 1 + 1 < V.heap.size := B3.out.lt
    have D1 := Lib.hid (B1.out.keeps hx ⟨B1.out.lt, by omega⟩)
    have D2 := Lib.hid (B2.out.keeps hx ⟨B2.out.lt, by omega⟩)
    have hXw : Below w.heap.size w wo := HX.out.trans (hx.mono fun x hx' => ⟨Nat.lt_of_lt_of_le hx' HX.out.size, by have : x < w.heap.size := hx'; omega⟩ : Keeps (· < w.heap.size) V wo).below
    have XW := Lib.hid hXw
    obtain ⟨⟨b0, b1, b2⟩, _⟩ := D1.out.three
    have hVs : V.heap.size ≤ wo.heap.size := hx.size
    by_cases hlt : k < M
    · obtain ⟨m, hm⟩ : ∃ m, d.mr[k]? = some m := ⟨_, List.getElem?_eq_getElem (by have := HM.out; omega)⟩
      obtain ⟨bm, om, am, cm, e2, hbm, cmm, _⟩ := (H2.out.below hXw).elem hm
      cases e2
      have htk := notOf_get hm
      obtain ⟨us, u1, u2, u3⟩ := ho
      obtain ⟨ml, hml'⟩ : ∃ m, m = us.length := ⟨_, rfl⟩
      have hmm : ml ≤ 1000000 := by rw [hml', u1, List.length_take]; omega
      rw [← hml'] at u1 u2
      have HML := Lib.hid hml'
      obtain ⟨ua5, uc5, rfl⟩ := ownsRow_form u2
      have YO := Lib.hid u2
      have Y3 := Lib.hid u3
      have U1 := Lib.hid u1
      have YB := Lib.hid hb
      have YK := Lib.hid hx
      have HT := Lib.hid htk
      have hki : (k : Int) < M := by omega
      clear hb hx htk hXw u1 u2 u3 hml' hm
      obtain ⟨⟨l0, l1, l2⟩, _⟩ := YB.out.three
      cases m with
      | nil =>
        go_wp2_with (at_builtin; refine wpList_named ?_; intro W hW; refine Hid.out ?_)
        refine Lib.hid ?_
        have HBX : Hid (Blk W (wo.heap.size + 1) #[.slice (some ⟨wo.heap.size, 0, none⟩) 1 1] 36 ∧ W.ownsRow V.heap.size 3 1 (.slice (some ⟨wo.heap.size, 0, none⟩) 1 1) (nfM []).length ((nfM []).map encZ) ∧ Below wo.heap.size wo W) := by rw [hW]; exact Lib.hid ⟨(Blk.new (wo.alloc _) _ _).at (by simp), ⟨rfl, .inr ⟨_, 1, #[.int .i64 0], rfl, hVs, (Blk.new wo _ _).alloc _, Nat.le_refl _, by unfold maxLen; omega, rfl, rfl⟩⟩, (((Ext.refl wo).alloc _).alloc _).below⟩
        clear hW
        have hVW : V.heap.size ≤ W.heap.size := Nat.le_trans hVs HBX.out.2.2.size
        have ZBo := Lib.hid (YB.out.below HBX.out.2.2 YB.out.lt)
        have ZOo := Lib.hid (ownsRow_below YO.out HBX.out.2.2)
        have Z3o := Lib.hid fun i u l hu hl => ownsRow_below (Y3.out i u l hu hl) HBX.out.2.2
        have ZKo := Lib.hid (YK.out.tr (Keeps.of_below HBX.out.2.2 fun x hx => Nat.lt_of_lt_of_le hx.1 hVs))
        clear YB YO Y3 YK l0 l1 l2 b0 b1 b2 cmm
        go_wp2_with (at_builtin; refine wpList_append_own_at _ rfl _ _ 23 rfl V.heap.size 36 iL (.slice none 0 0) 1 24 Tryz.underlying23 hiL hzL0 hzL1 hzL2 rfl (by decide) _ _ _ rfl ZOo.out ⟨_, 0, none⟩ 1 1 [.slice (some ⟨wo.heap.size, 0, none⟩) 1 1] rfl rfl HBX.out.1.news1 (by simp [Value.oneCell']) (by unfold maxLen; omega) (by omega) hVW ?_; intro v' w3 hown' hgrow hh hat; have HO3 := Lib.hid hown'; have HG := Lib.hid hgrow; obtain ⟨ua3, uc3, rfl⟩ := ownsRow_form hown'; have hne : ∀ x, (Value.slice ua5 ml uc5).ownBlock = some x → V.heap.size ≤ x := (fun x e => (ZOo.out.lt x e).1); have ZB := Lib.hid (ZBo.out.grown hgrow (fun e => by have := hne _ e.symm; omega)); have ZK := Lib.hid (ZKo.out.tr (Keeps.of_grown hgrow fun x hx => ⟨Nat.lt_of_lt_of_le hx.1 hVW, fun e => by have := hne x e.symm; have := hx.1; omega⟩)); have hsz3 : W.heap.size ≤ w3.heap.size := hgrow.size; obtain ⟨⟨p0, p1, p2⟩, q0, q1, q2⟩ := ZB.out.three; clear hown' hgrow hh hat hne)
        go_roundw
        case rel =>
          refine ⟨k + 1, _, by omega, by go_num, ZB.out.set 2 _, ?_, ZK.out.setCell (p := ⟨w.heap.size + 1 + 1, 2, none⟩) (fun h => h.2 rfl) _⟩
          have hs : OwnLL V.heap.size w3 (.slice ua3 (ml + 1) uc3) ((notOf d).mr.take k ++ [nfM []]) := OwnLL.snoc (w := W) (v := .slice ua5 ml uc5) (us := us) (u := .slice (some ⟨wo.heap.size, 0, none⟩) 1 1) (by rw [← HML.out]; exact U1.out) (by rw [← HML.out]; exact ZOo.out) (fun i u l hu hl => Z3o.out i u l hu hl) HBX.out.2.1 HG.out (by rw [← HML.out]; exact HO3.out)
          rw [HT.out]
          exact hs.keeps ((Keeps.refl (· ≠ w.heap.size + 1 + 1) _).setCell (p := ⟨w.heap.size + 1 + 1, 2, none⟩) (fun h => h rfl) _) (fun x h1 _ e => by omega)
        case measure => simp [intOf]; omega
      | cons x m =>
        obtain ⟨lm, hlm⟩ : ∃ n, n = (x :: m).length := ⟨_, rfl⟩
        rw [← hlm] at cmm
        have hl0 : ((lm : Int) == 0) = false := by rw [beq_eq_false_iff_ne, hlm]; simp; omega
        clear hlm
        go_wp2_with (at_builtin; refine wpList_named ?_; intro W hW; refine Hid.out ?_)
        refine Lib.hid ?_
        have HBX : Hid (Blk W (wo.heap.size) #[.slice none 0 0] 36 ∧ W.ownsRow V.heap.size 3 1 (.slice none 0 0) (nfM (x :: m)).length ((nfM (x :: m)).map encZ) ∧ Below wo.heap.size wo W) := by rw [hW]; exact Lib.hid ⟨Blk.new wo _ _, World.ownsRow_nil _ _ _ _, ((Ext.refl wo).alloc _).below⟩
        clear hW
        have hVW : V.heap.size ≤ W.heap.size := Nat.le_trans hVs HBX.out.2.2.size
        have ZBo := Lib.hid (YB.out.below HBX.out.2.2 YB.out.lt)
        have ZOo := Lib.hid (ownsRow_below YO.out HBX.out.2.2)
        have Z3o := Lib.hid fun i u l hu hl => ownsRow_below (Y3.out i u l hu hl) HBX.out.2.2
        have ZKo := Lib.hid (YK.out.tr (Keeps.of_below HBX.out.2.2 fun x hx => Nat.lt_of_lt_of_le hx.1 hVs))
        clear YB YO Y3 YK l0 l1 l2 b0 b1 b2 cmm
        go_wp2_with (at_builtin; refine wpList_append_own_at _ rfl _ _ 23 rfl V.heap.size 36 iL (.slice none 0 0) 1 24 Tryz.underlying23 hiL hzL0 hzL1 hzL2 rfl (by decide) _ _ _ rfl ZOo.out ⟨_, 0, none⟩ 1 1 [.slice none 0 0] rfl rfl HBX.out.1.news1 (by simp [Value.oneCell']) (by unfold maxLen; omega) (by omega) hVW ?_; intro v' w3 hown' hgrow hh hat; have HO3 := Lib.hid hown'; have HG := Lib.hid hgrow; obtain ⟨ua3, uc3, rfl⟩ := ownsRow_form hown'; have hne : ∀ x, (Value.slice ua5 ml uc5).ownBlock = some x → V.heap.size ≤ x := (fun x e => (ZOo.out.lt x e).1); have ZB := Lib.hid (ZBo.out.grown hgrow (fun e => by have := hne _ e.symm; omega)); have ZK := Lib.hid (ZKo.out.tr (Keeps.of_grown hgrow fun x hx => ⟨Nat.lt_of_lt_of_le hx.1 hVW, fun e => by have := hne x e.symm; have := hx.1; omega⟩)); have hsz3 : W.heap.size ≤ w3.heap.size := hgrow.size; obtain ⟨⟨p0, p1, p2⟩, q0, q1, q2⟩ := ZB.out.three; clear hown' hgrow hh hat hne)
        go_roundw
        case rel =>
          refine ⟨k + 1, _, by omega, by go_num, ZB.out.set 2 _, ?_, ZK.out.setCell (p := ⟨w.heap.size + 1 + 1, 2, none⟩) (fun h => h.2 rfl) _⟩
          have hs : OwnLL V.heap.size w3 (.slice ua3 (ml + 1) uc3) ((notOf d).mr.take k ++ [nfM (x :: m)]) := OwnLL.snoc (w := W) (v := .slice ua5 ml uc5) (us := us) (u := .slice none 0 0) (by rw [← HML.out]; exact U1.out) (by rw [← HML.out]; exact ZOo.out) (fun i u l hu hl => Z3o.out i u l hu hl) HBX.out.2.1 HG.out (by rw [← HML.out]; exact HO3.out)
          rw [HT.out]
          exact hs.keeps ((Keeps.refl (· ≠ w.heap.size + 1 + 1) _).setCell (p := ⟨w.heap.size + 1 + 1, 2, none⟩) (fun h => h rfl) _) (fun x h1 _ e => by omega)
        case measure => simp [intOf]; omega
    · obtain rfl : k = M := by omega
      have htk : (notOf d).mr.take k = (notOf d).mr := by
        have : (notOf d).mr.length = k := by rw [HM.out]; simp [notOf]
        rw [← this]; exact List.take_length
      rw [htk] at ho
      obtain ⟨ua, uc, rfl⟩ := ho.form
      have hnl : (notOf d).mr.length = k := by rw [HM.out]; simp [notOf]
      rw [hnl] at hb ho
      have HO := Lib.hid ho
      have HB := Lib.hid hb
      clear ho hb htk hx hXw hnl
      obtain ⟨⟨l0, l1, l2⟩, _⟩ := HB.out.three
      obtain ⟨⟨k0, k1, k2⟩, z0, z1, z2⟩ := D2.out.three
      go_wp2
      obtain ⟨W9, hW9⟩ : ∃ W9, W9 = (((wo.setCell ⟨w.heap.size + 1, 0, none⟩ (.slice a0 K c0)).setCell ⟨w.heap.size + 1, 1, none⟩ (.slice a1 N c1)).setCell ⟨w.heap.size + 1, 2, none⟩ (.slice ua k uc)) := ⟨_, rfl⟩
      have E : Hid (Blk W9 (w.heap.size + 1) #[.slice a0 K c0, .slice a1 N c1, .slice ua k uc] 42) := by rw [hW9]; exact D2.out.set3
      have K9 : Hid (Keeps (· ≠ w.heap.size + 1) wo W9) := by rw [hW9]; exact (((Keeps.refl _ _).setCell (p := ⟨w.heap.size + 1, 0, none⟩) (fun h => h rfl) _).setCell (p := ⟨w.heap.size + 1, 1, none⟩) (fun h => h rfl) _).setCell (p := ⟨w.heap.size + 1, 2, none⟩) (fun h => h rfl) _
      rw [← hW9]
      clear hW9 k0 k1 k2 z0 z1 z2 l0 l1 l2 b0 b1 b2
      obtain ⟨⟨m0, m1, m2⟩, _⟩ := E.out.three
      have X9 : Below w.heap.size w W9 := XW.out.trans ((K9.out.mono fun x hx => (by have : x < w.heap.size := hx; omega) : Keeps (· < w.heap.size) wo W9).below)
      refine bodyPost_ret (v := .agg #[.slice a0 K c0, .slice a1 N c1, .slice ua k uc]) (by simp [results, Tryz.results33, go_sem, m0, m1, m2]) rfl ⟨_, rfl, ⟨_, _, _, rfl, H0.out.below X9, H1.out.below X9, ?_⟩, X9⟩
      exact (HO.out.keeps K9.out fun x h1 _ e => by omega).ll
end Go.Proofs.YtiegfnmpknmbmaaGreat
