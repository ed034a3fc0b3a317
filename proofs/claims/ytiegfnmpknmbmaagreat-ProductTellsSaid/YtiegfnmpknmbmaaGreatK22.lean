/-
  product.says and its closures, product.Name; the reference's Says and Class.
  product: the methods of both: next and marks.
-/
import Derived.Test.YtiegfnmpknmbmaaGreatK21
import Derived.Test.YtiegfnmpknmbmaaGreatK11
namespace Go.Proofs.YtiegfnmpknmbmaaGreat
open Go Go.RowKit Go.Shelf Go.Maps

def saysF : Nat → Nat
  | 1 => 61
  | 2 => 62
  | 3 => 63
  | _ => 64
theorem says_some (k : Nat) (h1 : 1 ≤ k) (h4 : k ≤ 4) (w : World) : Calls Tryz.prog 46 #[.int .u8 k] w fun e w' => e = .returned (.func (.func (saysF k)) #[] #[]) ∧ w' = w := by
  rcases (show k = 1 ∨ k = 2 ∨ k = 3 ∨ k = 4 by omega) with rfl | rfl | rfl | rfl
  all_goals
    go_enter Tryz.func46, Tryz.ntmps46
    go_wp2
    go_ret
    exact ⟨rfl, rfl⟩
theorem says_none (k : Nat) (h : k = 0 ∨ 4 < k) (w : World) : Calls Tryz.prog 46 #[.int .u8 k] w fun e w' => e = .returned .nilFunc ∧ w' = w := by
  have d1 : ((k : Int) == 1) = false := by rw [beq_eq_false_iff_ne]; omega
  have d2 : ((k : Int) == 2) = false := by rw [beq_eq_false_iff_ne]; omega
  have d3 : ((k : Int) == 3) = false := by rw [beq_eq_false_iff_ne]; omega
  have d4 : ((k : Int) == 4) = false := by rw [beq_eq_false_iff_ne]; omega
  clear h
  go_enter Tryz.func46, Tryz.ntmps46
  go_wp2
  go_ret
  exact ⟨rfl, rfl⟩
theorem saysC_any (k : Nat) (h1 : 1 ≤ k) (h4 : k ≤ 4) (x y : Bool) (w : World) : Calls Tryz.prog (saysF k) #[.bool x, .bool y] w fun e w' => e = .returned (.bool (saysB k x y)) ∧ w' = w := by
  rcases (show k = 1 ∨ k = 2 ∨ k = 3 ∨ k = 4 by omega) with rfl | rfl | rfl | rfl
  · show Calls Tryz.prog 61 _ _ _
    cases x <;> cases y
    all_goals
      go_enter Tryz.func61, Tryz.ntmps61
      go_wp2
      go_ret
      exact ⟨rfl, rfl⟩
  · show Calls Tryz.prog 62 _ _ _
    cases x <;> cases y
    all_goals
      go_enter Tryz.func62, Tryz.ntmps62
      go_wp2
      go_ret
      exact ⟨rfl, rfl⟩
  · show Calls Tryz.prog 63 _ _ _
    cases x <;> cases y
    all_goals
      go_enter Tryz.func63, Tryz.ntmps63
      go_wp2
      go_ret
      exact ⟨rfl, rfl⟩
  · show Calls Tryz.prog 64 _ _ _
    cases x <;> cases y
    all_goals
      go_enter Tryz.func64, Tryz.ntmps64
      go_wp2
      go_ret
      exact ⟨rfl, rfl⟩
set_option maxRecDepth 100000 in
theorem eg_says1 : ∀ args w, (callFunc 61 args).run Tryz.prog w = .ok (.enter 61 args) w := fun args w => by kernel_rfl
set_option maxRecDepth 100000 in
theorem eg_says2 : ∀ args w, (callFunc 62 args).run Tryz.prog w = .ok (.enter 62 args) w := fun args w => by kernel_rfl
set_option maxRecDepth 100000 in
theorem eg_says3 : ∀ args w, (callFunc 63 args).run Tryz.prog w = .ok (.enter 63 args) w := fun args w => by kernel_rfl
set_option maxRecDepth 100000 in
theorem eg_says4 : ∀ args w, (callFunc 64 args).run Tryz.prog w = .ok (.enter 64 args) w := fun args w => by kernel_rfl
theorem eg_says (k : Nat) (h1 : 1 ≤ k) (h4 : k ≤ 4) : ∀ args w, (callFunc (saysF k) args).run Tryz.prog w = .ok (.enter (saysF k) args) w := by
  rcases (show k = 1 ∨ k = 2 ∨ k = 3 ∨ k = 4 by omega) with rfl | rfl | rfl | rfl
  · exact eg_says1
  · exact eg_says2
  · exact eg_says3
  · exact eg_says4
/-- The name of an operation. -/
def nameB : Nat → ByteArray
  | 1 => ⟨#[97, 110, 100]⟩
  | 2 => ⟨#[111, 114]⟩
  | 3 => ⟨#[108, 101, 115, 115]⟩
  | 4 => ⟨#[100, 105, 102, 102, 101, 114]⟩
  | _ => ⟨#[]⟩
theorem nameB_over {k : Nat} (h : k = 0 ∨ 4 < k) : nameB k = ⟨#[]⟩ := by
  unfold nameB
  split <;> first | omega | rfl
theorem name_any (k : Nat) (hk : k < 256) (w : World) : Calls Tryz.prog 24 #[.int .u8 k] w fun e w' => e = .returned (.string (nameB k)) ∧ Ext w w' := by
  by_cases h5 : 5 ≤ k
  · have d1 : decide ((5 : Int) ≤ k) = true := decide_eq_true (by omega)
    have d2 : decide (5 ≤ k) = true := decide_eq_true h5
    have hw : IntKind.i64.wrap (k : Int) = k := IntWalk.i64_in _ (by omega)
    rw [nameB_over (by omega)]
    go_enter Tryz.func24, Tryz.ntmps24
    go_wp2
    go_ret
    exact ⟨rfl, (Ext.refl w).alloc _⟩
  · rcases (show k = 0 ∨ k = 1 ∨ k = 2 ∨ k = 3 ∨ k = 4 by omega) with rfl | rfl | rfl | rfl | rfl
    all_goals
      go_enter Tryz.func24, Tryz.ntmps24
      go_wp2
      go_ret
      exact ⟨rfl, (Ext.refl w).alloc _⟩

theorem refSays_any (k : Nat) (h1 : 1 ≤ k) (h4 : k ≤ 4) (x y : Bool) (w : World) : Calls Tryz.prog 45 #[.int .i64 k, .bool x, .bool y] w fun e w' => e = .returned (.bool (saysB k x y)) ∧ w' = w := by
  rcases (show k = 1 ∨ k = 2 ∨ k = 3 ∨ k = 4 by omega) with rfl | rfl | rfl | rfl
  all_goals
    cases x <;> cases y
    all_goals
      go_enter Tryz.func45, Tryz.ntmps45
      go_wp2
      go_ret
      exact ⟨rfl, rfl⟩

set_option maxRecDepth 100000 in
set_option maxHeartbeats 2000000 in
/-- The reference's class of a byte. -/
theorem refClassD_any (v : Value) (d : DF) (rt : Rt d) (c : Nat) (hc : c < 256) (w : World) (h : IsRf w v d) :
    Calls Tryz.prog 44 #[v, .int .u8 c] w fun e w' => e = .returned (.int .i64 (cls d.cl c)) ∧ Below w.heap.size w w' := by
  obtain ⟨v0, v1, v2, rfl, h0, h1, h2⟩ := h
  obtain ⟨a0, c0, rfl⟩ := h0.form
  obtain ⟨a1, c1, rfl⟩ := h1.form
  obtain ⟨a2, c2, rfl⟩ := h2.form
  rw [List.length_map] at h0 ⊢
  obtain ⟨n0, hn0⟩ : ∃ n, n = d.cl.length := ⟨_, rfl⟩
  rw [← hn0] at h0 ⊢
  obtain ⟨q, hq⟩ : ∃ q, q = cls d.cl c := ⟨_, rfl⟩
  have hqn : q < n0 := by rw [hq, hn0]; exact rt.part.cls_lt hc
  have hcle : n0 ≤ 256 := by rw [hn0]; exact rt.clle
  rw [← hq]
  have HQ : Hid (∀ k s, d.cl[k]? = some s → (s.getLsbD c = true ↔ k = q)) := Lib.hid fun k s hs => by
    rw [hq]
    constructor
    · intro hb; exact ((rt.part.cls_iff hc).2 ⟨s, hs, hb⟩).symm
    · intro e
      obtain ⟨s', hs', hb⟩ := (rt.part.cls_iff hc).1 e.symm
      rw [hs] at hs'; cases hs'; exact hb
  have HN0 := Lib.hid hn0
  have H0 := Lib.hid h0
  clear h0 h1 h2 hn0 hq
  go_enter Tryz.func44, Tryz.ntmps44
  go_wp2
  refine wp_named ?_
  intro V hV
  have B1 : Hid (Blk V w.heap.size #[.slice a0 n0 c0, .slice a1 d.nx.length c1, .slice a2 d.mr.length c2] 42) := by rw [hV]; exact Blk.new w _ _
  have X1 : Hid (Below w.heap.size w V) := by rw [hV]; exact ((Ext.refl w).alloc _).below
  clear hV
  have b0 := B1.out.cell 0
  simp only [List.getElem?_toArray, List.getElem?_cons_zero] at b0
  go_loop [5] (fun i => ∃ k : Nat, k ≤ q ∧ i = .int .i64 k) (fun i => q - (intOf i).toNat)
  case atStart => exact ⟨0, by omega, rfl⟩
  case round =>
    obtain ⟨k, hk, rfl⟩ := hrel
    obtain ⟨s, hs⟩ : ∃ s, d.cl[k]? = some s := ⟨_, List.getElem?_eq_getElem (by have := HN0.out; omega)⟩
    obtain ⟨b, off, rfl, hb, hcell⟩ := (H0.out.below X1.out).elem (i := k) (f := refS s) (by rw [List.getElem?_map, hs]; rfl)
    have hc1 := hcell c hc
    have hki : (k : Int) < n0 := by omega
    have hkn : k < n0 := by omega
    have hci : (c : Int) < 256 := by omega
    have HS := Lib.hid (HQ.out k s hs)
    clear hcell hs
    by_cases he : k = q
    · have hv : refS s c = 1 := by unfold refS; rw [if_pos (HS.out.2 he)]
      rw [hv] at hc1
      clear hv
      subst he
      go_wp2
      go_ret
      exact ⟨rfl, X1.out⟩
    · have hv : refS s c = 0 := by unfold refS; rw [if_neg (fun h => he (HS.out.1 h))]
      rw [hv] at hc1
      clear hv
      go_wp2
      go_round
      case rel => exact ⟨k + 1, by omega, by go_num⟩
      case measure => simp [intOf]; omega
end Go.Proofs.YtiegfnmpknmbmaaGreat
namespace Go.Proofs.YtiegfnmpknmbmaaGreat
open Go Go.RowKit Go.Shelf Go.Maps

def oneOf (a : DF) (p : List BS) : List Int := (List.range p.length).map fun k => (cls a.cl (lb p k) : Int)
theorem oneOf_get (a : DF) {p : List BS} {k : Nat} (hk : k < p.length) : (oneOf a p)[k]? = some ((cls a.cl (lb p k) : Nat) : Int) := by
  unfold oneOf
  rw [List.getElem?_map, List.getElem?_range hk]; rfl
theorem oneOf_len (a : DF) (p : List BS) : (oneOf a p).length = p.length := by simp [oneOf]

/-- Two automata with the classes of both. -/
def slOf (x : Option Addr × Nat × Nat) : Value := .slice x.1 x.2.1 x.2.2
def IsBoth (base : Nat) (w : World) (v : Value) (a b : DF) (op : Nat) : Prop := ∃ a0 a1 a2 b0 b1 b2 c o t, v = .agg #[slOf a0, a1, a2, slOf b0, b1, b2, c, o, t, .func (.func (saysF op)) #[] #[]] ∧
  IsLL w a1 a.nx ∧ IsLL w a2 a.mr ∧ IsLL w b1 b.nx ∧ IsLL w b2 b.mr ∧ w.ownsRow base 33 4 c (partsOf (a.cl ++ b.cl)).length (flatS (partsOf (a.cl ++ b.cl))) ∧
  IsSl encZ w o (oneOf a (partsOf (a.cl ++ b.cl))) ∧ IsSl encZ w t (oneOf b (partsOf (a.cl ++ b.cl)))
theorem IsBoth.below {base : Nat} {w w' : World} {v : Value} {a b : DF} {op : Nat} (h : IsBoth base w v a b op) (hk : Below w.heap.size w w') : IsBoth base w' v a b op := by
  obtain ⟨a0, a1, a2, b0, b1, b2, c, o, t, e, h1, h2, h3, h4, h5, h6, h7⟩ := h
  exact ⟨a0, a1, a2, b0, b1, b2, c, o, t, e, h1.below hk, h2.below hk, h3.below hk, h4.below hk, ownsRow_below h5 hk, h6.below hk, h7.below hk⟩

set_option maxRecDepth 100000 in
set_option maxHeartbeats 4000000 in
theorem next_any (base : Nat) (v : Value) (a b : DF) (ra : Rt a) (rb : Rt b) (op : Nat) (p : Nat × Nat) (hp : PairIn a b p) (k : Nat) (hk : k < (partsOf (a.cl ++ b.cl)).length) (w : World) (h : IsBoth base w v a b op) :
    Calls Tryz.prog 49 #[v, .agg #[.int .i64 p.1, .int .i64 p.2], .int .i64 k] w fun e w' => e = .returned (.agg #[.int .i64 (pairF a b p k).1, .int .i64 (pairF a b p k).2]) ∧ Below w.heap.size w w' := by
  obtain ⟨a0, a1, a2, b0, b1, b2, c, o, t, rfl, h1, _, h3, _, _, h6, h7⟩ := h
  generalize slOf a0 = a0
  generalize slOf b0 = b0
  obtain ⟨s1, s2⟩ := p
  obtain ⟨hs1, hs2⟩ := hp
  simp only at hs1 hs2 ⊢
  have hlb := lb_lt hk
  obtain ⟨q1, hq1⟩ : ∃ q, q = cls a.cl (lb (partsOf (a.cl ++ b.cl)) k) := ⟨_, rfl⟩
  obtain ⟨q2, hq2⟩ : ∃ q, q = cls b.cl (lb (partsOf (a.cl ++ b.cl)) k) := ⟨_, rfl⟩
  have hql1 : q1 < a.cl.length := by rw [hq1]; exact ra.part.cls_lt hlb
  have hql2 : q2 < b.cl.length := by rw [hq2]; exact rb.part.cls_lt hlb
  obtain ⟨r1, hr1⟩ : ∃ r, r = nxt a s1 q1 := ⟨_, rfl⟩
  obtain ⟨r2, hr2⟩ : ∃ r, r = nxt b s2 q2 := ⟨_, rfl⟩
  have e1 : (pairF a b (s1, s2) k).1 = r1 := by rw [hr1, hq1]; rfl
  have e2 : (pairF a b (s1, s2) k).2 = r2 := by rw [hr2, hq2]; rfl
  rw [e1, e2]
  have ho := oneOf_get a hk
  have ht := oneOf_get b hk
  rw [← hq1] at ho
  rw [← hq2] at ht
  have hol := oneOf_len a (partsOf (a.cl ++ b.cl))
  have htl := oneOf_len b (partsOf (a.cl ++ b.cl))
  generalize partsOf (a.cl ++ b.cl) = pj at *
  obtain ⟨l1, hl1⟩ : ∃ l, a.nx[s1]? = some l := ⟨_, List.getElem?_eq_getElem hs1⟩
  obtain ⟨l2, hl2⟩ : ∃ l, b.nx[s2]? = some l := ⟨_, List.getElem?_eq_getElem hs2⟩
  obtain ⟨x1, n1, rfl⟩ := h1.form
  obtain ⟨x3, n3, rfl⟩ := h3.form
  obtain ⟨x6, n6, rfl⟩ := h6.form
  obtain ⟨x7, n7, rfl⟩ := h7.form
  rw [hol] at h6 ⊢
  rw [htl] at h7 ⊢
  obtain ⟨g6, o6, rfl, hg6, y6⟩ := h6.elem ho
  obtain ⟨g7, o7, rfl, hg7, y7⟩ := h7.elem ht
  replace y6 : w.cell? ⟨g6, o6 + k, none⟩ = some (.int .i64 q1) := y6
  replace y7 : w.cell? ⟨g7, o7 + k, none⟩ = some (.int .i64 q2) := y7
  obtain ⟨g1, o1, c1, d1, rfl, hg1, y1, z1⟩ := h1.elem hl1
  obtain ⟨g2, o2, c2, d2, rfl, hg2, y2, z2⟩ := h3.elem hl2
  have hll1 : l1.length = a.cl.length := by have := ra.len s1 hs1; rwa [getD_some hl1] at this
  have hll2 : l2.length = b.cl.length := by have := rb.len s2 hs2; rwa [getD_some hl2] at this
  have hlr1 : l1[q1]? = some (r1 : Int) := by have := ra.nxt_cell hs1 hql1; rwa [getD_some hl1, ← hr1] at this
  have hlr2 : l2[q2]? = some (r2 : Int) := by have := rb.nxt_cell hs2 hql2; rwa [getD_some hl2, ← hr2] at this
  obtain ⟨g8, o8, rfl, hg8, y8⟩ := z1.elem hlr1
  obtain ⟨g9, o9, rfl, hg9, y9⟩ := z2.elem hlr2
  replace y8 : w.cell? ⟨g8, o8 + q1, none⟩ = some (.int .i64 r1) := y8
  replace y9 : w.cell? ⟨g9, o9 + q2, none⟩ = some (.int .i64 r2) := y9
  have m1 : (s1 : Int) < (a.nx.length : Nat) := by omega
  have m2 : (s2 : Int) < (b.nx.length : Nat) := by omega
  have m3 : (k : Int) < (pj.length : Nat) := by omega
  have m4 : (q1 : Int) < (l1.length : Nat) := by omega
  have m5 : (q2 : Int) < (l2.length : Nat) := by omega
  have m4' : q1 < l1.length := by omega
  have m5' : q2 < l2.length := by omega
  clear h1 h3 h6 h7 z1 z2 hlr1 hlr2 hll1 hll2 hl1 hl2 ho ht hol htl hq1 hq2 hr1 hr2 e1 e2 hlb hql1 hql2 ra rb
  generalize a.nx.length = na at *
  generalize b.nx.length = nb at *
  generalize l1.length = j1 at *
  generalize l2.length = j2 at *
  generalize pj.length = np at *
  go_enter Tryz.func49, Tryz.ntmps49
  go_wp2
  refine wp_named ?_
  intro V hV
  have B1 : Hid (Blk V w.heap.size #[a0, .slice (some ⟨g1, o1, none⟩) na n1, a2, b0, .slice (some ⟨g2, o2, none⟩) nb n3, b2, c, .slice (some ⟨g6, o6, none⟩) np n6, .slice (some ⟨g7, o7, none⟩) np n7, .func (.func (saysF op)) #[] #[]] 90) := by rw [hV]; exact ((Blk.new w _ _).alloc _).alloc _
  have B2 : Hid (Blk V (w.heap.size + 1) #[.int .i64 s1, .int .i64 s2] 93) := by rw [hV]; exact ((Blk.new (w.alloc _) _ _).at (by simp)).alloc _
  have B3 : Hid (Blk V (w.heap.size + 1 + 1) #[.int .i64 0, .int .i64 0] 93) := by rw [hV]; exact (Blk.new ((w.alloc _).alloc _) _ _).at (by simp)
  have X1 : Hid (Ext w V) := by rw [hV]; exact (((Ext.refl w).alloc _).alloc _).alloc _
  clear hV
  have hsz := X1.out.size
  refine wp_region_reg false (fun _ => False) (by kernel_rfl) 28 [0, 1, 3, 0, 8, 31, 63, 0, 128, 0, 896, 1920, 4095, 8191, 0, 16384, 49152, 0, 131072, 507904, 1032192, 0, 2097152, 0, 14680064, 31457280, 67092480, 134201344, 268435455, 536870911] (fun i => i == 29) (by kernel_rfl) (fun i => Eff.any _) ?_
  intro C hC hne
  have HC := Lib.hid hC
  have f1 := regCell hC (p := ⟨w.heap.size, 1, none⟩) (by have := B1.out.lt; exact this) (fun h => h) (B1.out.cell 1)
  have f2 := regCell hC (p := ⟨w.heap.size, 4, none⟩) (by have := B1.out.lt; exact this) (fun h => h) (B1.out.cell 4)
  have f3 := regCell hC (p := ⟨w.heap.size, 7, none⟩) (by have := B1.out.lt; exact this) (fun h => h) (B1.out.cell 7)
  have f4 := regCell hC (p := ⟨w.heap.size, 8, none⟩) (by have := B1.out.lt; exact this) (fun h => h) (B1.out.cell 8)
  have f5 := regCell hC (p := ⟨w.heap.size + 1, 0, none⟩) (by have := B2.out.lt; exact this) (fun h => h) (B2.out.cell 0)
  have f6 := regCell hC (p := ⟨w.heap.size + 1, 1, none⟩) (by have := B2.out.lt; exact this) (fun h => h) (B2.out.cell 1)
  have t1 := regCell hC (p := ⟨g1, o1 + s1, none⟩) (Nat.lt_of_lt_of_le hg1 hsz) (fun h => h) ((X1.out.cell (p := ⟨g1, o1 + s1, none⟩) hg1).trans y1)
  have t2 := regCell hC (p := ⟨g2, o2 + s2, none⟩) (Nat.lt_of_lt_of_le hg2 hsz) (fun h => h) ((X1.out.cell (p := ⟨g2, o2 + s2, none⟩) hg2).trans y2)
  have t6 := regCell hC (p := ⟨g6, o6 + k, none⟩) (Nat.lt_of_lt_of_le hg6 hsz) (fun h => h) ((X1.out.cell (p := ⟨g6, o6 + k, none⟩) hg6).trans y6)
  have t7 := regCell hC (p := ⟨g7, o7 + k, none⟩) (Nat.lt_of_lt_of_le hg7 hsz) (fun h => h) ((X1.out.cell (p := ⟨g7, o7 + k, none⟩) hg7).trans y7)
  have t8 := regCell hC (p := ⟨g8, o8 + q1, none⟩) (Nat.lt_of_lt_of_le hg8 hsz) (fun h => h) ((X1.out.cell (p := ⟨g8, o8 + q1, none⟩) hg8).trans y8)
  have t9 := regCell hC (p := ⟨g9, o9 + q2, none⟩) (Nat.lt_of_lt_of_le hg9 hsz) (fun h => h) ((X1.out.cell (p := ⟨g9, o9 + q2, none⟩) hg9).trans y9)
  clear hC y1 y2 y6 y7 y8 y9
  repeat (refine regStep (fun K hK => ?_); first | (refine regN rfl ?_; try go_simp; refine hK _ _ ?_; clear hK K) | (refine regF rfl rfl ?_; unfold floatAt; go_simp; refine hK _ _ ?_; clear hK K))
  refine regNil (fun W hW hH => ?_)
  have hM := (HC.out W).1 hW
  have C3 := Lib.hid (B3.out.below hM.below B3.out.lt)
  have XX := Lib.hid (X1.out.below.trans (hM.below.mono X1.out.size))
  clear hM hW hH HC X1 f1 f2 f3 f4 f5 f6 t1 t2 t6 t7 t8 t9 B1 B2 B3
  have k0 : W.cell? ⟨w.heap.size + 1 + 1, 0, none⟩ = some (.int .i64 0) := C3.out.cell 0
  have k1 : W.cell? ⟨w.heap.size + 1 + 1, 1, none⟩ = some (.int .i64 0) := C3.out.cell 1
  have z0 := C3.out.frozen 0
  have z1 := C3.out.frozen 1
  go_wp2
  obtain ⟨W9, hW9⟩ : ∃ W9, W9 = ((W.setCell ⟨w.heap.size + 1 + 1, 0, none⟩ (.int .i64 r1)).setCell ⟨w.heap.size + 1 + 1, 1, none⟩ (.int .i64 r2)) := ⟨_, rfl⟩
  have E : Hid (Blk W9 (w.heap.size + 1 + 1) #[.int .i64 r1, .int .i64 r2] 93) := by rw [hW9]; exact (C3.out.set 0 _).set 1 _
  have X9 : Hid (Below w.heap.size w W9) := by rw [hW9]; exact (XX.out.setCell (by simp; omega) _).setCell (by simp; omega) _
  rw [← hW9]
  clear hW9 k0 k1 z0 z1
  have p0 : W9.cell? ⟨w.heap.size + 1 + 1, 0, none⟩ = some (.int .i64 r1) := E.out.cell 0
  have p1 : W9.cell? ⟨w.heap.size + 1 + 1, 1, none⟩ = some (.int .i64 r2) := E.out.cell 1
  refine bodyPost_ret (v := .agg #[.int .i64 r1, .int .i64 r2]) (by simp [results, Tryz.results49, go_sem, p0, p1]) rfl ⟨rfl, X9.out⟩

set_option maxRecDepth 100000 in
set_option maxHeartbeats 4000000 in
theorem bothMarks_any (base : Nat) (v : Value) (a b : DF) (ra : Rt a) (rb : Rt b) (op : Nat) (h1p : 1 ≤ op) (h4p : op ≤ 4) (p : Nat × Nat) (hp : PairIn a b p) (sa : Sm a) (sb : Sm b) (w : World) (h : IsBoth base w v a b op) :
    Calls Tryz.prog 50 #[v, .agg #[.int .i64 p.1, .int .i64 p.2]] w fun e w' => ∃ u, e = .returned u ∧ w'.ownsRow w.heap.size 3 1 u (markOf a b op p).length ((markOf a b op p).map encZ) ∧ Below w.heap.size w w' := by
  obtain ⟨a0, a1, a2, b0, b1, b2, c, o, t, rfl, _, h2, _, h4, _, _, _⟩ := h
  generalize slOf a0 = a0
  generalize slOf b0 = b0
  obtain ⟨s1, s2⟩ := p
  obtain ⟨hs1, hs2⟩ := hp
  simp only at hs1 hs2 ⊢
  rw [← ra.mr] at hs1
  rw [← rb.mr] at hs2
  obtain ⟨l1, hl1⟩ : ∃ l, a.mr[s1]? = some l := ⟨_, List.getElem?_eq_getElem hs1⟩
  obtain ⟨l2, hl2⟩ : ∃ l, b.mr[s2]? = some l := ⟨_, List.getElem?_eq_getElem hs2⟩
  obtain ⟨x1, n1, rfl⟩ := h2.form
  obtain ⟨x3, n3, rfl⟩ := h4.form
  obtain ⟨g1, o1, c1, d1, rfl, hg1, y1, z1⟩ := h2.elem hl1
  obtain ⟨g2, o2, c2, d2, rfl, hg2, y2, z2⟩ := h4.elem hl2
  have ll1 := sa.mks l1 (List.mem_of_getElem? hl1)
  have ll2 := sb.mks l2 (List.mem_of_getElem? hl2)
  have m1 : (s1 : Int) < (a.mr.length : Nat) := by omega
  have m2 : (s2 : Int) < (b.mr.length : Nat) := by omega
  obtain ⟨b1x, hb1x⟩ : ∃ x, x = acc a s1 := ⟨_, rfl⟩
  obtain ⟨b2x, hb2x⟩ : ∃ x, x = acc b s2 := ⟨_, rfl⟩
  obtain ⟨r, hr⟩ : ∃ r, r = saysB op b1x b2x := ⟨_, rfl⟩
  have hmk : markOf a b op (s1, s2) = if r then [0] else [] := by rw [hr, hb1x, hb2x]; rfl
  have CS : Hid (∀ W, Calls Tryz.prog (saysF op) #[.bool b1x, .bool b2x] W fun e w' => e = .returned (.bool r) ∧ w' = W) := fun W => by rw [hr]; exact saysC_any op h1p h4p b1x b2x W
  have acc_len : ∀ (d : DF) (s : Nat) (l : List Int), d.mr[s]? = some l → acc d s = decide (0 < l.length) := fun d s l h => by
    unfold acc
    rw [getD_some h]
    cases l <;> simp
  have u1 := acc_len a s1 l1 hl1
  have u2 := acc_len b s2 l2 hl2
  rw [← hb1x] at u1
  rw [← hb2x] at u2
  have eg := eg_says op h1p h4p
  obtain ⟨j1, hj1⟩ : ∃ j, j = l1.length := ⟨_, rfl⟩
  obtain ⟨j2, hj2⟩ : ∃ j, j = l2.length := ⟨_, rfl⟩
  rw [← hj1] at y1 u1 ll1
  rw [← hj2] at y2 u2 ll2
  have v1 : decide ((0 : Int) < j1) = b1x := by rw [u1]; rw [Bool.eq_iff_iff]; simp
  have v2 : decide ((0 : Int) < j2) = b2x := by rw [u2]; rw [Bool.eq_iff_iff]; simp
  have v1' : decide (0 < j1) = b1x := u1.symm
  have v2' : decide (0 < j2) = b2x := u2.symm
  rw [hmk]
  generalize a.mr.length = na at *
  generalize b.mr.length = nb at *
  generalize saysF op = gf at *
  clear h2 h4 z1 z2 hl1 hl2 hj1 hj2 u1 u2 hb1x hb2x hr hmk acc_len ra rb sa sb h1p h4p
  go_enter Tryz.func50, Tryz.ntmps50
  go_wp2
  refine wp_named ?_
  intro V hV
  have B1 : Hid (Blk V w.heap.size #[a0, a1, .slice (some ⟨g1, o1, none⟩) na n1, b0, b1, .slice (some ⟨g2, o2, none⟩) nb n3, c, o, t, .func (.func gf) #[] #[]] 90) := by rw [hV]; exact (Blk.new w _ _).alloc _
  have B2 : Hid (Blk V (w.heap.size + 1) #[.int .i64 s1, .int .i64 s2] 93) := by rw [hV]; exact (Blk.new (w.alloc _) _ _).at (by simp)
  have X1 : Hid (Ext w V) := by rw [hV]; exact ((Ext.refl w).alloc _).alloc _
  clear hV
  have hsz := X1.out.size
  refine wp_region_reg false (fun _ => False) (by kernel_rfl) 21 [0, 1, 0, 4, 12, 0, 32, 124, 252, 508, 1020, 0, 2048, 6144, 0, 16384, 63488, 129024, 260096, 522240, 1048575] (fun i => i == 20) (by kernel_rfl) (fun i => Eff.det _ (.bool r)) ?_
  intro C hC hne
  have HC := Lib.hid hC
  have f1 := regCell hC (p := ⟨w.heap.size, 9, none⟩) (by have := B1.out.lt; exact this) (fun h => h) (B1.out.cell 9)
  have f2 := regCell hC (p := ⟨w.heap.size, 2, none⟩) (by have := B1.out.lt; exact this) (fun h => h) (B1.out.cell 2)
  have f3 := regCell hC (p := ⟨w.heap.size, 5, none⟩) (by have := B1.out.lt; exact this) (fun h => h) (B1.out.cell 5)
  have f5 := regCell hC (p := ⟨w.heap.size + 1, 0, none⟩) (by have := B2.out.lt; exact this) (fun h => h) (B2.out.cell 0)
  have f6 := regCell hC (p := ⟨w.heap.size + 1, 1, none⟩) (by have := B2.out.lt; exact this) (fun h => h) (B2.out.cell 1)
  have t1 := regCell hC (p := ⟨g1, o1 + s1, none⟩) (Nat.lt_of_lt_of_le hg1 hsz) (fun h => h) ((X1.out.cell (p := ⟨g1, o1 + s1, none⟩) hg1).trans y1)
  have t2 := regCell hC (p := ⟨g2, o2 + s2, none⟩) (Nat.lt_of_lt_of_le hg2 hsz) (fun h => h) ((X1.out.cell (p := ⟨g2, o2 + s2, none⟩) hg2).trans y2)
  clear hC y1 y2
  repeat (refine regStep (fun K hK => ?_); first | (refine regN rfl ?_; try go_simp; refine hK _ _ ?_; clear hK K) | (refine regF rfl rfl ?_; unfold floatAt; go_simp; refine hK _ _ ?_; clear hK K))
  refine regStep (fun K hK => ?_)
  refine regE rfl rfl (Eff.det _ (.bool r)) rfl (fun W hW hN => ?_) (fun v hv => ?_)
  · have hM := (HC.out W).1 hW
    clear hW
    go_simp
    refine effT_call ((CS.out _).mono ?_)
    rintro e w2 ⟨rfl, hx⟩
    exact ⟨_, rfl, (by rw [hx]; exact Move.of_below (Below.refl _ _)), rfl, trivial⟩
  replace hv : v = _ := hv
  subst hv
  go_simp
  refine hK _ _ ?_
  clear hK K
  refine regNil (fun W hW hH => ?_)
  have hM := (HC.out W).1 hW
  have XX := Lib.hid (X1.out.below.trans (hM.below.mono X1.out.size))
  clear hM hW hH HC X1 f1 f2 f3 f5 f6 t1 t2 B1 B2
  cases r with
  | true =>
    go_wp2
    go_ret
    refine ⟨_, rfl, ?_, XX.out.alloc XX.out.size _⟩
    exact World.ownsRow_lit W #[.int .i64 0] 1 (base := w.heap.size) (size := 1) (e := 3) XX.out.size (by unfold maxLen; omega) rfl
  | false =>
    go_wp2
    go_ret
    exact ⟨_, rfl, World.ownsRow_nil _ _ _ _, XX.out⟩
end Go.Proofs.YtiegfnmpknmbmaaGreat
