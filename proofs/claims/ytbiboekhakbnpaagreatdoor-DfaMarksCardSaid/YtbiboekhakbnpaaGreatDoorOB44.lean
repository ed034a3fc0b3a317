/-
  dfa.First, of right automata.
  The examples of the laws of automata of parts, in plain words.
-/
import Derived.Test.YtbiboekhakbnpaaGreatDoorOB43
import Derived.Test.YtbiboekhakbnpaaGreatDoorOB19
set_option maxRecDepth 100000
set_option maxHeartbeats 16000000
open Go.Lib (hid)
namespace Go.Proofs.YtbiboekhakbnpaaGreatDoor
open Go Go.RowKit Go.Shelf Go.Maps
attribute [local go_sem] encS

def marksAt (d : DF) (b : List Nat) (n : Nat) : List Int := d.mr.getD (runD d 0 (b.take n)) []
def FirstIs (d : DF) (b : List Nat) (r : Int × Int × Bool) : Prop :=
 (∃ (n : Nat) (x : Int) (l : List Int), n <= b.length /\ (∀ m, m < n -> marksAt d b m = []) /\ marksAt d b n = x :: l /\ r = ((n : Int), x, true)) \/ ((∀ m, m <= b.length -> marksAt d b m = []) /\ r = (0, 0, false))
theorem FirstIs.uniq {d : DF} {b : List Nat} {r r' : Int × Int × Bool} (h : FirstIs d b r) (h' : FirstIs d b r') : r = r' := by
 rcases h with ⟨n, x, l, h1, h2, h3, rfl⟩ | ⟨h1, rfl⟩ <;> rcases h' with ⟨n', x', l', g1, g2, g3, rfl⟩ | ⟨g1, rfl⟩
 ·obtain rfl : n = n' := by
   rcases Nat.lt_trichotomy n n' with h | h | h
   ·rw [g2 n h] at h3; cases h3
   ·exact h
   ·rw [h2 n' h] at g3; cases g3
  rw [h3] at g3
  cases g3
  rfl
 ·rw [g1 n h1] at h3; cases h3
 ·rw [h1 n' g1] at g3; cases g3
 ·rfl
theorem dfaFirst_any (v bv : Value) (d : DF) (rt : Rt d) (sm : Sm d) (b : List Nat) (hb : ∀ c ∈ b, c < 256) (hbn : b.length <= 1000000) (w : World) (h : IsDf w v d) (hbv : IsSl encB w bv b) :
  Calls Tryz.prog 12 #[v, bv] w fun e w' => ∃ r, FirstIs d b r /\ e = .returned (.tuple #[.int .i64 r.1, .int .i64 r.2.1, .bool r.2.2, .int .i64 0]) /\ Below w.heap.size w w' := by
 have CR : Hid (∀ W, Below w.heap.size w W -> Calls Tryz.prog 21 #[v] W fun e w' => e = .returned (.bool true) /\ Below W.heap.size W w') := fun W hW => by
  have := right_any v d W (h.below hW) sm
  rwa [(right_iff d).2 rt] at this
 have CT : Hid (∀ W, Below w.heap.size w W -> Calls Tryz.prog 46 #[v] W fun e w' => e = .returned (.agg (tabArr d.cl)) /\ Below W.heap.size W w') := fun W hW => dfaTable_any v d rt W (h.below hW)
 obtain ⟨v0, v1, v2, rfl, h0, h1, h2⟩ := h
 obtain ⟨a0, c0, rfl⟩ := h0.1.form
 obtain ⟨a1, c1, rfl⟩ := h1.form
 obtain ⟨a2, c2, rfl⟩ := h2.form
 obtain ⟨ab, cb, rfl⟩ := hbv.form
 have hmr := rt.mr
 rw [hmr] at h2 CR CT ⊢
 obtain ⟨n1, hn1⟩ : ∃ n, n = d.nx.length := ⟨_, rfl⟩
 obtain ⟨nb, hnb⟩ : ∃ n, n = b.length := ⟨_, rfl⟩
 have HN1 := hid hn1
 have HNB := hid hnb
 have hn4 : n1 <= 4000 := by rw [hn1]; exact rt.le
 rw [<- hn1] at h1 h2 CR CT ⊢
 rw [<- hnb] at hbv hbn ⊢
 have H1 := hid h1
 have H2 := hid h2
 have HBV := hid hbv
 have HB := hid hb
 have RT := hid rt
 have HMR := hid hmr
 have hsz := size_tab
 have hz := tabArr_nil
 clear h0 h1 h2 hbv hn1 hnb hb hmr
 go_enter Tryz.func12, Tryz.ntmps12
 go_wp2_with fail
 refine calls_named ?_
 intro V hV
 have B1 : Hid (Blk V w.heap.size #[.slice a0 d.cl.length c0, .slice a1 n1 c1, .slice a2 n1 c2] 31) := by rw [hV]; exact Blk.new w _ _
 have X1 : Hid (Below w.heap.size w V) := by rw [hV]; exact ((Ext.refl w).alloc _).below
 clear hV
 refine (CR.out _ X1.out).mono ?_
 rintro e w2 ⟨rfl, hx⟩
 have B2 := hid (B1.out.below hx B1.out.lt)
 have X2 := hid (X1.out.trans (hx.mono X1.out.size))
 clear hx B1 X1
 obtain ⟨⟨k0, k1, k2⟩, _⟩ := B2.out.three
 go_wp2_with fail
 refine (CT.out _ X2.out).mono ?_
 rintro e w3 ⟨rfl, hx⟩
 have B3 := hid (B2.out.below hx B2.out.lt)
 have X3 := hid (X2.out.trans (hx.mono X2.out.size))
 clear hx B2 X2 k0 k1 k2 CR CT
 have hst := run_storeCells_new (P := Tryz.prog) w3 102 (tabArr []) (tabArr d.cl) (by rw [tabArr_size]; exact hsz) (by rw [tabArr_size, tabArr_size]) (tabArr_one _)
 have hs0 := tabArr_size d.cl
 go_wp2
 refine wp_named ?_
 intro V2 hV2
 have B4 : Hid (Blk V2 w.heap.size #[.slice a0 d.cl.length c0, .slice a1 n1 c1, .slice a2 n1 c2] 31) := by rw [hV2]; exact B3.out.alloc _
 have T4 : Hid (Blk V2 w3.heap.size (tabArr d.cl) 102) := by rw [hV2]; exact Blk.new _ _ _
 have X4 : Hid (Below w.heap.size w V2) := by rw [hV2]; exact X3.out.alloc X3.out.size _
 clear hV2 hst hs0 hz hsz B3 X3
 go_loopw [9, 10] (fun sv i wr => ∃ k : Nat, k <= nb /\ i = .int .i64 k /\ sv = .int .i64 (runD d 0 (b.take k)) /\ (∀ m, m < k -> marksAt d b m = []) /\ Below V2.heap.size V2 wr) (fun _ i _ => nb + 1 - (intOf i).toNat)
 case atStart => exact ⟨0, by omega, rfl, rfl, fun m hm => absurd hm (Nat.not_lt_zero _), Below.refl _ _⟩
 case round =>
  obtain ⟨k, hk, rfl, rfl, hno, hx⟩ := hrel
  obtain ⟨wo, rfl⟩ : ∃ wo : World, wo = wr := ⟨_, rfl⟩
  have HX := hid hx
  have HNO := hid hno
  have B5 := hid (B4.out.below hx B4.out.lt)
  have T5 := hid (T4.out.below hx T4.out.lt)
  have X5 := hid (X4.out.trans (hx.mono X4.out.size))
  clear hx hno
  have hsl := runD_lt RT.out (s := 0) RT.out.pos (b.take k) (fun x hx => HB.out x (List.mem_of_mem_take hx))
  have HMA : Hid (marksAt d b k = d.mr.getD (runD d 0 (b.take k)) []) := hid rfl
  have HTK : Hid (∀ c, b[k]? = some c -> runD d 0 (b.take (k + 1)) = nxt d (runD d 0 (b.take k)) (cls d.cl c)) := hid fun c hc => runD_take hc
  generalize runD d 0 (b.take k) = sv at HMA HTK hsl ⊢
  obtain ⟨mk, hmk⟩ : ∃ l, d.mr[sv]? = some l := ⟨_, List.getElem?_eq_getElem (by have := HMR.out; omega)⟩
  obtain ⟨gm, om, em, km, e9, hgm, xm, ym⟩ := (H2.out.below X5.out).elem hmk
  have HMK : Hid (marksAt d b k = mk) := hid (by rw [HMA.out, getD_some hmk])
  have hsn : sv < n1 := by rw [HN1.out]; exact hsl
  have hsi : (sv : Int) < n1 := by omega
  cases e9
  obtain ⟨⟨b0, b1, b2⟩, _⟩ := B5.out.three
  cases mk with
  | cons x l =>
   obtain ⟨g2, o2, rfl, hg2, x2⟩ := ym.elem (i := 0) (x := x) rfl
   replace x2 : wo.cell? ⟨g2, o2 + 0, none⟩ = some (.int .i64 x) := x2
   rw [Nat.add_zero] at x2
   obtain ⟨j, hj⟩ : ∃ j, j = (x :: l).length := ⟨_, rfl⟩
   rw [<- hj] at xm
   have hj0 : 0 < j := by rw [hj]; simp
   have hj1 : (0 : Int) < j := by omega
   have HF : Hid (FirstIs d b ((k : Int), x, true)) := hid (.inl ⟨k, x, l, by rw [<- HNB.out]; exact hk, HNO.out, HMK.out, rfl⟩)
   clear hmk ym hsl hj
   go_wp2
   refine wp_region_reg false (fun _ => False) (by kernel_rfl) 12 [0, 0, 2, 0, 14, 30, 62, 126, 1, 511, 1023, 2047] (fun i => false) (by kernel_rfl) (fun i => Eff.any _) ?_
   intro C hC hne
   have HC := hid hC
   have f0 := regCell hC (p := ⟨w.heap.size, 2, none⟩) (by have := B5.out.lt; exact this) (fun h => h) b2
   have f1 := regCell hC (p := ⟨gm, om + sv, none⟩) hgm (fun h => h) xm
   have f2 := regCell hC (p := ⟨g2, o2, none⟩) hg2 (fun h => h) x2
   clear hC b0 b1 b2 xm x2
   repeat (refine regStep (fun K hK => ?_); first | (refine regN rfl ?_; try go_simp; refine hK _ _ ?_; clear hK K) | (refine regF rfl rfl ?_; unfold floatAt; go_simp; refine hK _ _ ?_; clear hK K))
   refine regNil (fun W hW hH => ?_)
   have XX := hid (X5.out.trans (((HC.out W).1 hW).below.mono X5.out.size))
   clear hW hH HC hne f0 f1 f2
   go_wp2
   refine bodyPost_ret (v := .tuple #[.int .i64 k, .int .i64 x, .bool true, .int .i64 0]) (by simp [results, Tryz.results12, go_sem]) rfl ⟨((k : Int), x, true), HF.out, rfl, XX.out⟩
  | nil =>
   replace xm : wo.cell? ⟨gm, om + sv, none⟩ = some (.slice em 0 km) := xm
   by_cases hkn : k = nb
   ·subst hkn
    have HF : Hid (FirstIs d b (0, 0, false)) := hid (.inr ⟨fun m hm => by
     by_cases e : m < k
     ·exact HNO.out m e
     ·obtain rfl : m = k := by have := HNB.out; omega
      exact HMK.out, rfl⟩)
    have d1 : ((k : Int) == k) = true := by simp
    clear hmk ym hsl
    go_wp2
    refine bodyPost_ret (v := .tuple #[.int .i64 0, .int .i64 0, .bool false, .int .i64 0]) (by simp [results, Tryz.results12, go_sem]) rfl ⟨(0, 0, false), HF.out, rfl, X5.out⟩
   ·have hlt : k < nb := by omega
    have d1 : ((k : Int) == nb) = false := by rw [beq_eq_false_iff_ne]; omega
    obtain ⟨c, hc⟩ : ∃ c, b[k]? = some c := ⟨_, List.getElem?_eq_getElem (by have := HNB.out; omega)⟩
    have hc256 := HB.out c (List.mem_of_getElem? hc)
    have HT := hid (HTK.out c hc)
    obtain ⟨g0, o0, rfl, hg0, x0⟩ := (HBV.out.below X5.out).elem hc
    replace x0 : wo.cell? ⟨g0, o0 + k, none⟩ = some (.int .u8 c) := x0
    obtain ⟨l, hl⟩ : ∃ l, d.nx[sv]? = some l := ⟨_, List.getElem?_eq_getElem hsl⟩
    obtain ⟨g1, o1, e1, k1, e9, hg1, x1, y1⟩ := (H1.out.below X5.out).elem hl
    cases e9
    obtain ⟨q, hq⟩ : ∃ q, q = cls d.cl c := ⟨_, rfl⟩
    have hql : q < d.cl.length := by rw [hq]; exact RT.out.part.cls_lt hc256
    have hll : l.length = d.cl.length := by have := RT.out.len sv hsl; rwa [getD_some hl] at this
    obtain ⟨r, hr⟩ : ∃ r, r = nxt d sv q := ⟨_, rfl⟩
    have hlr : l[q]? = some (r : Int) := by have := RT.out.nxt_cell hsl hql; rwa [getD_some hl, <- hr] at this
    obtain ⟨g2, o2, rfl, hg2, x2⟩ := y1.elem hlr
    replace x2 : wo.cell? ⟨g2, o2 + q, none⟩ = some (.int .i64 r) := x2
    have x3 : wo.cell? ⟨w3.heap.size, c, none⟩ = some (.int .u8 q) := by rw [hq]; exact (T5.out.cell c).trans (tabArr_get _ hc256)
    have hci : (c : Int) < 256 := by omega
    obtain ⟨j, hj⟩ : ∃ j, j = l.length := ⟨_, rfl⟩
    have hqj : q < j := by omega
    have hqi : (q : Int) < j := by omega
    rw [<- hj] at x1
    have hki : (k : Int) < nb := by omega
    have HRQ := hid hr
    have HQ := hid hq
    clear hc hl y1 hlr hll hql hq hr hj hsl hmk ym
    go_wp2
    refine wp_region_reg false (fun _ => False) (by kernel_rfl) 14 [0, 1, 0, 7, 15, 0, 0, 96, 224, 480, 992, 2047, 4095, 8191] (fun i => false) (by kernel_rfl) (fun i => Eff.any _) ?_
    intro C hC hne
    have HC := hid hC
    have f0 := regCell hC (p := ⟨w.heap.size, 1, none⟩) (by have := B5.out.lt; exact this) (fun h => h) b1
    have f1 := regCell hC (p := ⟨g1, o1 + sv, none⟩) hg1 (fun h => h) x1
    have f2 := regCell hC (p := ⟨g2, o2 + q, none⟩) hg2 (fun h => h) x2
    have f3 := regCell hC (p := ⟨w3.heap.size, c, none⟩) (by have := T5.out.lt; exact this) (fun h => h) x3
    have f4 := regCell hC (p := ⟨g0, o0 + k, none⟩) hg0 (fun h => h) x0
    clear hC b0 b1 b2 x1 x2 x3 x0 xm
    repeat (refine regStep (fun K hK => ?_); first | (refine regN rfl ?_; try go_simp; refine hK _ _ ?_; clear hK K) | (refine regF rfl rfl ?_; unfold floatAt; go_simp; refine hK _ _ ?_; clear hK K))
    refine regNil (fun W hW hH => ?_)
    have hM := (HC.out W).1 hW
    have XX := hid (HX.out.trans (hM.below.mono HX.out.size))
    clear hM hW hH HC HX f0 f1 f2 f3 f4
    go_wp2
    go_roundw
    case rel => exact ⟨k + 1, by omega, by go_num, by rw [HT.out, <- HQ.out, <- HRQ.out], fun m hm => by
     by_cases e : m < k
     ·exact HNO.out m e
     ·obtain rfl : m = k := by omega
      exact HMK.out, XX.out⟩
    case measure => simp [intOf]; omega
end Go.Proofs.YtbiboekhakbnpaaGreatDoor
namespace Go.Proofs.YtbiboekhakbnpaaGreatDoor
open Go Go.RowKit Go.Shelf Go.Maps

theorem dq_trans (a b c : BS) (h : (!ltOf compareOf b a) = true) (k : (!ltOf compareOf c b) = true) : (!ltOf compareOf c a) = true := by
 simp only [Bool.not_eq_true'] at *
 cases hca : ltOf compareOf c a with
 | false => rfl
 | true =>
  exfalso
  rw [<- Bool.not_eq_true, ltOf_iff] at h k
  rw [ltOf_iff] at hca
  rcases ltS_total a b with e | e | e
  ·subst e; exact k hca
  ·exact k (ltS_trans hca e)
  ·exact h e
theorem dq_total (a b : BS) : ((!ltOf compareOf b a) || (!ltOf compareOf a b)) = true := by
 cases hba : ltOf compareOf b a with
 | false => rfl
 | true =>
  cases hab : ltOf compareOf a b with
  | false => rfl
  | true =>
   rw [ltOf_iff] at hba hab
   exact absurd (ltS_trans hba hab) (ltS_irrefl b)
theorem dq_parts {l L : List BS} (hp : (partsRaw l).isPerm L = true) (hs : decide (L.Pairwise fun x y => (!ltOf compareOf y x) = true) = true) : partsOf l = L :=
 List.Perm.eq_of_pairwise (fun a b _ _ h k => totS a b (by simpa using k) (by simpa using h)) (List.pairwise_mergeSort dq_trans dq_total _) (of_decide_eq_true hs) ((List.mergeSort_perm _ _).trans (List.isPerm_iff.1 hp))

def letW (l : List Nat) : BS := bsOf fun c => l.contains c
def wordN (l : List Nat) : NF := ⟨l.map fun c => letW [c], (List.range l.length).map fun i => if i + 1 < l.length then [(i : Int) + 1] else [], [0], [(l.length : Int) - 1], false⟩
def pAB : List PT := [⟨wordN [97, 98], false, 5⟩]
def pBeg : List PT := [⟨wordN [97, 98], true, 0⟩]
def pTwo : List PT := [⟨wordN [97], false, 0⟩, ⟨⟨[letW [97, 98]], [[]], [0], [0], false⟩, false, 7⟩]
def cW : List BS := [~~~(letW [97, 98]), letW [97], letW [98]]
theorem cW_ab : partsOf (allSets pAB) = cW := dq_parts (by kernel_rfl) (by kernel_rfl)
theorem cW_beg : partsOf (allSets pBeg) = cW := cW_ab
theorem cW_two : partsOf (allSets pTwo) = cW := dq_parts (by kernel_rfl) (by kernel_rfl)
theorem cW_no : partsOf (allSets []) = [~~~(0 : BS)] := dq_parts (by kernel_rfl) (by kernel_rfl)
theorem ofE_at {ps : List PT} {P : List BS} {f : Nat} {st : List (List (List Int)) × List (List Nat)} (hP : partsOf (allSets ps) = P) (hl : ¬ 64 < ps.length) (ho : ps.all PT.ok = true) (h1 : 1 <= f) (h2 : f <= 4000)
  (hst : stTo f (fun row k => stepR ps row (lb P k)) P.length (row0 ps) f = some st) : ofE ps f = (⟨P, st.2.map fun r => r.map Int.ofNat, st.1.map (marksR ps)⟩, 0) := by
 subst hP
 unfold ofE ofSt
 rw [if_neg hl, if_neg (by rw [ho]; decide), if_neg (by omega), Int.toNat_natCast, if_neg (by omega), hst]
def dAB : DF := ⟨cW, [[0, 1, 0], [0, 1, 2], [0, 1, 0]], [[], [], [5]]⟩
def dBeg : DF := ⟨cW, [[1, 2, 1], [1, 1, 1], [1, 1, 3], [1, 1, 1]], [[], [], [], [0]]⟩
def dNo : DF := ⟨[~~~(0 : BS)], [[0]], [[]]⟩
def dTwo : DF := ⟨cW, [[0, 1, 2], [0, 1, 2], [0, 1, 2]], [[], [0, 7], [7]]⟩
theorem mk_ab : ofE pAB 3 = (dAB, 0) := (ofE_at (f := 3) (st := ([[[-1]], [[-1, 0]], [[-1, 1]]], [[0, 1, 0], [0, 1, 2], [0, 1, 0]])) cW_ab (by decide) (by kernel_rfl) (by decide) (by decide) (by kernel_rfl)).trans (by kernel_rfl)
theorem mk_ab2 : (ofE pAB 2).2 = 181 := by
 rw [ofE_fuelF (f := 3) (by rw [mk_ab]) (by decide) (by decide), mk_ab, if_neg (by decide)]
theorem mk_beg : ofE pBeg 9 = (dBeg, 0) := (ofE_at (f := 9) (st := ([[[-1]], [[]], [[0]], [[1]]], [[1, 2, 1], [1, 1, 1], [1, 1, 3], [1, 1, 1]])) cW_beg (by decide) (by kernel_rfl) (by decide) (by decide) (by kernel_rfl)).trans (by kernel_rfl)
theorem mk_no : ofE [] 9 = (dNo, 0) := (ofE_at (f := 9) (st := ([[]], [[0]])) cW_no (by decide) (by kernel_rfl) (by decide) (by decide) (by kernel_rfl)).trans (by kernel_rfl)
theorem mk_two : ofE pTwo 9 = (dTwo, 0) := (ofE_at (f := 9) (st := ([[[-1], [-1]], [[-1, 0], [-1, 0]], [[-1], [-1, 0]]], [[0, 1, 2], [0, 1, 2], [0, 1, 2]])) cW_two (by decide) (by kernel_rfl) (by decide) (by decide) (by kernel_rfl)).trans (by kernel_rfl)
theorem mk_word_ab : dAB.mr.getD (runD dAB 0 [120, 97, 98]) [] = [5] := by kernel_rfl
theorem mk_word_abx : dAB.mr.getD (runD dAB 0 [97, 98, 120]) [] = [] := by kernel_rfl
theorem mk_word_two : dTwo.mr.getD (runD dTwo 0 [120, 97]) [] = [0, 7] := by kernel_rfl
theorem mk_first_ab : FirstIs dAB [97, 97, 98, 97, 98] (3, 5, true) := by
 have h0 : marksAt dAB [97, 97, 98, 97, 98] 0 = [] := by kernel_rfl
 have h1 : marksAt dAB [97, 97, 98, 97, 98] 1 = [] := by kernel_rfl
 have h2 : marksAt dAB [97, 97, 98, 97, 98] 2 = [] := by kernel_rfl
 have h3 : marksAt dAB [97, 97, 98, 97, 98] 3 = [5] := by kernel_rfl
 refine .inl ⟨3, 5, [], by decide, fun m hm => ?_, h3, rfl⟩
 have : m = 0 \/ m = 1 \/ m = 2 := by omega
 rcases this with rfl | rfl | rfl
 ·exact h0
 ·exact h1
 ·exact h2
theorem mk_first_two : FirstIs dTwo [120, 97] (2, 0, true) := by
 have h0 : marksAt dTwo [120, 97] 0 = [] := by kernel_rfl
 have h1 : marksAt dTwo [120, 97] 1 = [] := by kernel_rfl
 have h2 : marksAt dTwo [120, 97] 2 = [0, 7] := by kernel_rfl
 refine .inl ⟨2, 0, [7], by decide, fun m hm => ?_, h2, rfl⟩
 have : m = 0 \/ m = 1 := by omega
 rcases this with rfl | rfl
 ·exact h0
 ·exact h1
end Go.Proofs.YtbiboekhakbnpaaGreatDoor
