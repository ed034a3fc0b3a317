/-
  product.join.
-/
import Derived.Test.YtiegfnmpknmbmaaGreatK22
import Derived.Laws.EntriesVeiled
namespace Go.Proofs.YtiegfnmpknmbmaaGreat
open Go Go.RowKit Go.Shelf Go.Maps
attribute [local go_sem] encS

/-- Ten cells in a box. -/
theorem Blk.ten {w : World} {b : Nat} {x0 x1 x2 x3 x4 x5 x6 x7 x8 x9 : Value} {t : TypeId} (h : Blk w b #[x0, x1, x2, x3, x4, x5, x6, x7, x8, x9] t) :
    (w.cell? ⟨b, 0, none⟩ = some x0 ∧ w.cell? ⟨b, 1, none⟩ = some x1 ∧ w.cell? ⟨b, 2, none⟩ = some x2 ∧ w.cell? ⟨b, 3, none⟩ = some x3 ∧ w.cell? ⟨b, 4, none⟩ = some x4 ∧ w.cell? ⟨b, 5, none⟩ = some x5 ∧ w.cell? ⟨b, 6, none⟩ = some x6 ∧ w.cell? ⟨b, 7, none⟩ = some x7 ∧ w.cell? ⟨b, 8, none⟩ = some x8 ∧ w.cell? ⟨b, 9, none⟩ = some x9) ∧
    (∀ i, w.frozen? ⟨b, i, none⟩ = false) :=
  ⟨⟨h.cell 0, h.cell 1, h.cell 2, h.cell 3, h.cell 4, h.cell 5, h.cell 6, h.cell 7, h.cell 8, h.cell 9⟩, h.frozen⟩
theorem leastOf_lb {l : List BS} {k : Nat} (hk : k < (partsOf l).length) : leastOf (partsOf l) k = (lb (partsOf l) k, true) := by
  have h1 := some_getD (l := partsOf l) 0 hk
  have h2 := first_of_ne (partsOf_ne l (List.mem_of_getElem? h1))
  unfold leastOf
  rw [setOf_nat, h1]
  show firstOf _ = _
  unfold lb
  rw [show firstOf ((partsOf l).getD k 0) = ((firstOf ((partsOf l).getD k 0)).1, (firstOf ((partsOf l).getD k 0)).2) from rfl, h2.1]
/-- An alphabet, as what an effect leaves. -/
def Eff.alph (base : Nat) (p : List BS) : Eff (Move false (fun _ => False)) where
  P := fun v => ∃ b, v = .pointer (some ⟨b, 0, none⟩)
  H := fun v W => IsAl W base v p
  wit := .pointer (some ⟨0, 0, none⟩)
  pw := ⟨0, rfl⟩
  st := fun _ _ _ hm _ h => h.below hm.below

theorem post_named {P : Program} {fn : Func} {R : Ending → World → Prop} {x : Exit} {a : Act} {w : World} (h : ∀ W, W = w → bodyPost P fn R x a W) : bodyPost P fn R x a w := h w rfl
theorem Blk.setS {w : World} {b : Nat} {c : Array Value} {t : TypeId} (h : Blk w b c t ) (k : Nat) (v : Value) {c' : Array Value} (e : c.setIfInBounds k v = c') : Blk (w.setCell ⟨b, k, none⟩ v) b c' t := e ▸ h.set k v
theorem Blk.set10 {w : World} {b : Nat} {x0 x1 x2 x3 x4 x5 x6 x7 x8 x9 : Value} {t : TypeId} (h : Blk w b #[x0, x1, x2, x3, x4, x5, x6, x7, x8, x9] t) (y0 y1 y2 y3 y4 y5 y6 y7 y8 y9 : Value) : Blk ((((((((((w.setCell ⟨b, 0, none⟩ y0).setCell ⟨b, 1, none⟩ y1).setCell ⟨b, 2, none⟩ y2).setCell ⟨b, 3, none⟩ y3).setCell ⟨b, 4, none⟩ y4).setCell ⟨b, 5, none⟩ y5).setCell ⟨b, 6, none⟩ y6).setCell ⟨b, 7, none⟩ y7).setCell ⟨b, 8, none⟩ y8).setCell ⟨b, 9, none⟩ y9) b #[y0, y1, y2, y3, y4, y5, y6, y7, y8, y9] t := by
  have h1 : Blk (w.setCell ⟨b, 0, none⟩ y0) b #[y0, x1, x2, x3, x4, x5, x6, x7, x8, x9] t := h.setS 0 y0 rfl
  have h2 : Blk ((w.setCell ⟨b, 0, none⟩ y0).setCell ⟨b, 1, none⟩ y1) b #[y0, y1, x2, x3, x4, x5, x6, x7, x8, x9] t := h1.setS 1 y1 rfl
  have h3 : Blk (((w.setCell ⟨b, 0, none⟩ y0).setCell ⟨b, 1, none⟩ y1).setCell ⟨b, 2, none⟩ y2) b #[y0, y1, y2, x3, x4, x5, x6, x7, x8, x9] t := h2.setS 2 y2 rfl
  have h4 : Blk ((((w.setCell ⟨b, 0, none⟩ y0).setCell ⟨b, 1, none⟩ y1).setCell ⟨b, 2, none⟩ y2).setCell ⟨b, 3, none⟩ y3) b #[y0, y1, y2, y3, x4, x5, x6, x7, x8, x9] t := h3.setS 3 y3 rfl
  have h5 : Blk (((((w.setCell ⟨b, 0, none⟩ y0).setCell ⟨b, 1, none⟩ y1).setCell ⟨b, 2, none⟩ y2).setCell ⟨b, 3, none⟩ y3).setCell ⟨b, 4, none⟩ y4) b #[y0, y1, y2, y3, y4, x5, x6, x7, x8, x9] t := h4.setS 4 y4 rfl
  have h6 : Blk ((((((w.setCell ⟨b, 0, none⟩ y0).setCell ⟨b, 1, none⟩ y1).setCell ⟨b, 2, none⟩ y2).setCell ⟨b, 3, none⟩ y3).setCell ⟨b, 4, none⟩ y4).setCell ⟨b, 5, none⟩ y5) b #[y0, y1, y2, y3, y4, y5, x6, x7, x8, x9] t := h5.setS 5 y5 rfl
  have h7 : Blk (((((((w.setCell ⟨b, 0, none⟩ y0).setCell ⟨b, 1, none⟩ y1).setCell ⟨b, 2, none⟩ y2).setCell ⟨b, 3, none⟩ y3).setCell ⟨b, 4, none⟩ y4).setCell ⟨b, 5, none⟩ y5).setCell ⟨b, 6, none⟩ y6) b #[y0, y1, y2, y3, y4, y5, y6, x7, x8, x9] t := h6.setS 6 y6 rfl
  have h8 : Blk ((((((((w.setCell ⟨b, 0, none⟩ y0).setCell ⟨b, 1, none⟩ y1).setCell ⟨b, 2, none⟩ y2).setCell ⟨b, 3, none⟩ y3).setCell ⟨b, 4, none⟩ y4).setCell ⟨b, 5, none⟩ y5).setCell ⟨b, 6, none⟩ y6).setCell ⟨b, 7, none⟩ y7) b #[y0, y1, y2, y3, y4, y5, y6, y7, x8, x9] t := h7.setS 7 y7 rfl
  have h9 : Blk (((((((((w.setCell ⟨b, 0, none⟩ y0).setCell ⟨b, 1, none⟩ y1).setCell ⟨b, 2, none⟩ y2).setCell ⟨b, 3, none⟩ y3).setCell ⟨b, 4, none⟩ y4).setCell ⟨b, 5, none⟩ y5).setCell ⟨b, 6, none⟩ y6).setCell ⟨b, 7, none⟩ y7).setCell ⟨b, 8, none⟩ y8) b #[y0, y1, y2, y3, y4, y5, y6, y7, y8, x9] t := h8.setS 8 y8 rfl
  have h10 : Blk ((((((((((w.setCell ⟨b, 0, none⟩ y0).setCell ⟨b, 1, none⟩ y1).setCell ⟨b, 2, none⟩ y2).setCell ⟨b, 3, none⟩ y3).setCell ⟨b, 4, none⟩ y4).setCell ⟨b, 5, none⟩ y5).setCell ⟨b, 6, none⟩ y6).setCell ⟨b, 7, none⟩ y7).setCell ⟨b, 8, none⟩ y8).setCell ⟨b, 9, none⟩ y9) b #[y0, y1, y2, y3, y4, y5, y6, y7, y8, y9] t := h9.setS 9 y9 rfl
  exact h10
theorem keeps10 (w : World) (b : Nat) (y0 y1 y2 y3 y4 y5 y6 y7 y8 y9 : Value) : Keeps (· ≠ b) w ((((((((((w.setCell ⟨b, 0, none⟩ y0).setCell ⟨b, 1, none⟩ y1).setCell ⟨b, 2, none⟩ y2).setCell ⟨b, 3, none⟩ y3).setCell ⟨b, 4, none⟩ y4).setCell ⟨b, 5, none⟩ y5).setCell ⟨b, 6, none⟩ y6).setCell ⟨b, 7, none⟩ y7).setCell ⟨b, 8, none⟩ y8).setCell ⟨b, 9, none⟩ y9) := by
  have h1 : Keeps (· ≠ b) w (w.setCell ⟨b, 0, none⟩ y0) := (Keeps.refl _ w).setCell (p := ⟨b, 0, none⟩) (fun h => h rfl) y0
  have h2 : Keeps (· ≠ b) w ((w.setCell ⟨b, 0, none⟩ y0).setCell ⟨b, 1, none⟩ y1) := h1.setCell (p := ⟨b, 1, none⟩) (fun h => h rfl) y1
  have h3 : Keeps (· ≠ b) w (((w.setCell ⟨b, 0, none⟩ y0).setCell ⟨b, 1, none⟩ y1).setCell ⟨b, 2, none⟩ y2) := h2.setCell (p := ⟨b, 2, none⟩) (fun h => h rfl) y2
  have h4 : Keeps (· ≠ b) w ((((w.setCell ⟨b, 0, none⟩ y0).setCell ⟨b, 1, none⟩ y1).setCell ⟨b, 2, none⟩ y2).setCell ⟨b, 3, none⟩ y3) := h3.setCell (p := ⟨b, 3, none⟩) (fun h => h rfl) y3
  have h5 : Keeps (· ≠ b) w (((((w.setCell ⟨b, 0, none⟩ y0).setCell ⟨b, 1, none⟩ y1).setCell ⟨b, 2, none⟩ y2).setCell ⟨b, 3, none⟩ y3).setCell ⟨b, 4, none⟩ y4) := h4.setCell (p := ⟨b, 4, none⟩) (fun h => h rfl) y4
  have h6 : Keeps (· ≠ b) w ((((((w.setCell ⟨b, 0, none⟩ y0).setCell ⟨b, 1, none⟩ y1).setCell ⟨b, 2, none⟩ y2).setCell ⟨b, 3, none⟩ y3).setCell ⟨b, 4, none⟩ y4).setCell ⟨b, 5, none⟩ y5) := h5.setCell (p := ⟨b, 5, none⟩) (fun h => h rfl) y5
  have h7 : Keeps (· ≠ b) w (((((((w.setCell ⟨b, 0, none⟩ y0).setCell ⟨b, 1, none⟩ y1).setCell ⟨b, 2, none⟩ y2).setCell ⟨b, 3, none⟩ y3).setCell ⟨b, 4, none⟩ y4).setCell ⟨b, 5, none⟩ y5).setCell ⟨b, 6, none⟩ y6) := h6.setCell (p := ⟨b, 6, none⟩) (fun h => h rfl) y6
  have h8 : Keeps (· ≠ b) w ((((((((w.setCell ⟨b, 0, none⟩ y0).setCell ⟨b, 1, none⟩ y1).setCell ⟨b, 2, none⟩ y2).setCell ⟨b, 3, none⟩ y3).setCell ⟨b, 4, none⟩ y4).setCell ⟨b, 5, none⟩ y5).setCell ⟨b, 6, none⟩ y6).setCell ⟨b, 7, none⟩ y7) := h7.setCell (p := ⟨b, 7, none⟩) (fun h => h rfl) y7
  have h9 : Keeps (· ≠ b) w (((((((((w.setCell ⟨b, 0, none⟩ y0).setCell ⟨b, 1, none⟩ y1).setCell ⟨b, 2, none⟩ y2).setCell ⟨b, 3, none⟩ y3).setCell ⟨b, 4, none⟩ y4).setCell ⟨b, 5, none⟩ y5).setCell ⟨b, 6, none⟩ y6).setCell ⟨b, 7, none⟩ y7).setCell ⟨b, 8, none⟩ y8) := h8.setCell (p := ⟨b, 8, none⟩) (fun h => h rfl) y8
  have h10 : Keeps (· ≠ b) w ((((((((((w.setCell ⟨b, 0, none⟩ y0).setCell ⟨b, 1, none⟩ y1).setCell ⟨b, 2, none⟩ y2).setCell ⟨b, 3, none⟩ y3).setCell ⟨b, 4, none⟩ y4).setCell ⟨b, 5, none⟩ y5).setCell ⟨b, 6, none⟩ y6).setCell ⟨b, 7, none⟩ y7).setCell ⟨b, 8, none⟩ y8).setCell ⟨b, 9, none⟩ y9) := h9.setCell (p := ⟨b, 9, none⟩) (fun h => h rfl) y9
  exact h10
theorem Far.symm {v y : Value} (h : Far v y) : Far y v := by
  unfold Far at *
  by_cases e : y.ownBlock = none
  · exact .inl e
  · right
    rcases h with h | h
    · intro h'; exact e (h'.trans h)
    · exact fun h' => h h'.symm
set_option maxRecDepth 100000 in
set_option maxHeartbeats 8000000 in
theorem pjoin_any (v v' : Value) (a b : DF) (ra : Rt a) (rb : Rt b) (op : Nat) (w : World) (h : IsDf w v a) (h' : IsDf w v' b) :
    Calls Tryz.prog 48 #[v, v', .func (.func (saysF op)) #[] #[]] w fun e w' => ∃ u, e = .returned u ∧ IsBoth w.heap.size w' u a b op ∧ Below w.heap.size w w' := by
  obtain ⟨iS, hiS, hzS0, hzS1, hzS2⟩ := info_parts Tryz.infoS
  obtain ⟨iI, hiI, hzI0, hzI1, hzI2⟩ := info_parts Tryz.infoI
  obtain ⟨v0, v1, v2, rfl, h0, h1, h2⟩ := h
  obtain ⟨a0, c0, rfl⟩ := h0.1.form
  obtain ⟨a1, c1, rfl⟩ := h1.form
  obtain ⟨a2, c2, rfl⟩ := h2.form
  obtain ⟨u0, u1, u2, rfl, g0, g1, g2⟩ := h'
  obtain ⟨b0, e0, rfl⟩ := g0.1.form
  obtain ⟨b1, e1, rfl⟩ := g1.form
  obtain ⟨b2, e2, rfl⟩ := g2.form
  obtain ⟨pj, hpj⟩ : ∃ p, p = partsOf (a.cl ++ b.cl) := ⟨_, rfl⟩
  obtain ⟨K, hK⟩ : ∃ n, n = pj.length := ⟨_, rfl⟩
  have hK256 : K ≤ 256 := by rw [hK, hpj, (partsOf_perm _).length_eq]; exact partsRaw_len _
  have HPJ := Lib.hid hpj
  have HK0 := Lib.hid hK
  have CA : Hid (∀ W v, IsSets W v a.cl → Calls Tryz.prog 69 #[v] W fun e w' => ∃ b, e = .returned (.pointer (some ⟨b, 0, none⟩)) ∧ IsAl w' W.heap.size (.pointer (some ⟨b, 0, none⟩)) a.cl ∧ Below W.heap.size W w') := fun W v h => by
    have := alphOf_any a.cl v W h (by have := ra.clle; omega)
    rwa [ra.cl] at this
  have CB : Hid (∀ W v, IsSets W v b.cl → Calls Tryz.prog 69 #[v] W fun e w' => ∃ x, e = .returned (.pointer (some ⟨x, 0, none⟩)) ∧ IsAl w' W.heap.size (.pointer (some ⟨x, 0, none⟩)) b.cl ∧ Below W.heap.size W w') := fun W v h => by
    have := alphOf_any b.cl v W h (by have := rb.clle; omega)
    rwa [rb.cl] at this
  have CJ : Hid (∀ W x y bx bY, IsAl W bx (.pointer (some ⟨x, 0, none⟩)) a.cl → IsAl W bY (.pointer (some ⟨y, 0, none⟩)) b.cl → Calls Tryz.prog 70 #[.pointer (some ⟨x, 0, none⟩), .pointer (some ⟨y, 0, none⟩)] W fun e w' => ∃ b, e = .returned (.pointer (some ⟨b, 0, none⟩)) ∧ IsAl w' W.heap.size (.pointer (some ⟨b, 0, none⟩)) pj ∧ Below W.heap.size W w') := fun W x y bx bY hx hy => by
    refine (join_any _ _ _ _ _ _ W hx hy).mono fun e w' hj => ?_
    unfold JoinTo at hj
    have e1 : a.cl.isEmpty = false := by have := ra.clpos; cases h : a.cl with | nil => rw [h] at this; simp at this | cons _ _ => rfl
    have e2 : b.cl.isEmpty = false := by have := rb.clpos; cases h : b.cl with | nil => rw [h] at this; simp at this | cons _ _ => rfl
    rw [e1, e2, if_neg (by decide)] at hj
    rw [hpj]; exact hj
  have CL : Hid (∀ W x bx, IsAl W bx (.pointer (some ⟨x, 0, none⟩)) pj → Calls Tryz.prog 71 #[.pointer (some ⟨x, 0, none⟩)] W fun e w' => e = .returned (.int .i64 K) ∧ w' = W) := fun W x bx h => by rw [hK]; exact len_any _ _ _ _ h
  have CS : Hid (∀ W x bx (k : Nat) s, pj[k]? = some s → IsAl W bx (.pointer (some ⟨x, 0, none⟩)) pj → Calls Tryz.prog 72 #[.pointer (some ⟨x, 0, none⟩), .int .i64 k] W fun e w' => e = .returned (.tuple #[.agg (encS s), .bool true]) ∧ Ext W w') := fun W x bx k s hs h => by
    have := set_any _ bx pj k W h
    rw [setOf_nat, hs] at this
    exact this
  have CM : Hid (∀ W x bx (k : Nat), k < pj.length → IsAl W bx (.pointer (some ⟨x, 0, none⟩)) pj → Calls Tryz.prog 73 #[.pointer (some ⟨x, 0, none⟩), .int .i64 k] W fun e w' => e = .returned (.tuple #[.int .u8 (lb pj k), .bool true]) ∧ Ext W w') := fun W x bx k hk h => by
    have := least_any _ bx pj k W h
    rw [hpj, leastOf_lb (by rw [← hpj]; exact hk), ← hpj] at this
    exact this
  have HLB : Hid (∀ k, k < pj.length → lb pj k < 256) := Lib.hid fun k hk => by rw [hpj]; exact lb_lt (by rw [← hpj]; exact hk)
  have H0 := Lib.hid h0.1
  have H1 := Lib.hid h1
  have H2 := Lib.hid h2
  have G0 := Lib.hid g0.1
  have G1 := Lib.hid g1
  have G2 := Lib.hid g2
  clear h0 h1 h2 g0 g1 g2 hpj hK ra rb
  generalize a.cl.length = n0 at *
  generalize a.nx.length = n1 at *
  generalize a.mr.length = n2 at *
  generalize b.cl.length = m0 at *
  generalize b.nx.length = m1 at *
  generalize b.mr.length = m2 at *
  obtain ⟨gf, hgf⟩ : ∃ g, g = saysF op := ⟨_, rfl⟩
  have HGF := Lib.hid hgf
  rw [← hgf]
  clear hgf
  go_enter Tryz.func48, Tryz.ntmps48
  go_wp2
  refine wp_named ?_
  intro V hV
  have B3 : Hid (Blk V w.heap.size #[.slice a0 n0 c0, .slice a1 n1 c1, .slice a2 n2 c2] 25) := by rw [hV]; exact ((Blk.new w _ _).alloc _).alloc _
  have B4 : Hid (Blk V (w.heap.size + 1) #[.slice b0 m0 e0, .slice b1 m1 e1, .slice b2 m2 e2] 25) := by rw [hV]; exact ((Blk.new (w.alloc _) _ _).at (by simp)).alloc _
  have B6 : Hid (Blk V (w.heap.size + 1 + 1) #[.slice none 0 0, .slice none 0 0, .slice none 0 0, .slice none 0 0, .slice none 0 0, .slice none 0 0, .slice none 0 0, .slice none 0 0, .slice none 0 0, .nilFunc] 90) := by rw [hV]; exact (Blk.new ((w.alloc _).alloc _) _ _).at (by simp)
  have X1 : Hid (Below w.heap.size w V) := by rw [hV]; exact ((((Ext.refl w).alloc _).alloc _).alloc _).below
  clear hV
  refine wp_region_reg false (fun _ => False) (by kernel_rfl) 8 [0, 1, 3, 0, 8, 31, 63, 127] (fun i => i == 2 || i == 5) (by kernel_rfl) (fun i => if i = 2 then Eff.alph V.heap.size a.cl else if i = 5 then Eff.alph V.heap.size b.cl else Eff.any _) ?_
  intro C hC hne
  have HC := Lib.hid hC
  have f0 := regCell hC (p := ⟨w.heap.size, 0, none⟩) (by have := B3.out.lt; exact this) (fun h => h) (B3.out.cell 0)
  have f1 := regCell hC (p := ⟨w.heap.size + 1, 0, none⟩) (by have := B4.out.lt; exact this) (fun h => h) (B4.out.cell 0)
  clear hC
  repeat (refine regStep (fun K hK => ?_); first | (refine regN rfl ?_; try go_simp; refine hK _ _ ?_; clear hK K) | (refine regF rfl rfl ?_; unfold floatAt; go_simp; refine hK _ _ ?_; clear hK K))
  refine regStep (fun K hK => ?_)
  refine regE rfl rfl (Eff.alph V.heap.size a.cl) rfl (fun W hW hN => ?_) (fun v hv => ?_)
  · have hM := (HC.out W).1 hW
    clear hW
    go_simp
    refine effT_call ((CA.out _ _ ((H0.out.below X1.out).below hM.below)).mono ?_)
    rintro e w2 ⟨b, rfl, ha, hx⟩
    exact ⟨_, rfl, Move.of_below hx, ⟨b, rfl⟩, ha.base hM.size⟩
  obtain ⟨bx, rfl⟩ := hv
  go_simp
  refine hK _ _ ?_
  clear hK K
  repeat (refine regStep (fun K hK => ?_); first | (refine regN rfl ?_; try go_simp; refine hK _ _ ?_; clear hK K) | (refine regF rfl rfl ?_; unfold floatAt; go_simp; refine hK _ _ ?_; clear hK K))
  refine regStep (fun K hK => ?_)
  refine regE rfl rfl (Eff.alph V.heap.size b.cl) rfl (fun W hW hN => ?_) (fun v hv => ?_)
  · have hM := (HC.out W).1 hW
    clear hW
    go_simp
    refine effT_call ((CB.out _ _ ((G0.out.below X1.out).below hM.below)).mono ?_)
    rintro e w2 ⟨b, rfl, ha, hx⟩
    exact ⟨_, rfl, Move.of_below hx, ⟨b, rfl⟩, ha.base hM.size⟩
  obtain ⟨bY, rfl⟩ := hv
  go_simp
  refine hK _ _ ?_
  clear hK K
  repeat (refine regStep (fun K hK => ?_); first | (refine regN rfl ?_; try go_simp; refine hK _ _ ?_; clear hK K) | (refine regF rfl rfl ?_; unfold floatAt; go_simp; refine hK _ _ ?_; clear hK K))
  refine regNil (fun W hW hH => ?_)
  have hM := (HC.out W).1 hW
  have A1 : Hid (IsAl W V.heap.size (.pointer (some ⟨bx, 0, none⟩)) a.cl) := Lib.hid (hH _ (List.mem_of_getElem? (show _ = some _ from rfl : _[1]? = some _)))
  have A2 : Hid (IsAl W V.heap.size (.pointer (some ⟨bY, 0, none⟩)) b.cl) := Lib.hid (hH _ (List.mem_of_getElem? (show _ = some _ from rfl : _[0]? = some _)))
  have C3 := Lib.hid (B3.out.below hM.below B3.out.lt)
  have C4 := Lib.hid (B4.out.below hM.below B4.out.lt)
  have C6 := Lib.hid (B6.out.below hM.below B6.out.lt)
  have X2 := Lib.hid (X1.out.trans (hM.below.mono X1.out.size))
  clear hM hW hH f0 f1 HC B3 B4 B6 X1 CA CB H0 G0
  go_wp2_with fail
  refine (CJ.out _ _ _ _ _ A1.out A2.out).mono ?_
  rintro e w3 ⟨bj, rfl, ha, hx⟩
  have A3 := Lib.hid ha
  have A1' := Lib.hid (A1.out.below hx)
  have A2' := Lib.hid (A2.out.below hx)
  have D3 := Lib.hid (C3.out.below hx C3.out.lt)
  have D4 := Lib.hid (C4.out.below hx C4.out.lt)
  have D6 := Lib.hid (C6.out.below hx C6.out.lt)
  have X3 := Lib.hid (X2.out.trans (hx.mono X2.out.size))
  clear ha hx A1 A2 C3 C4 C6 X2 CJ
  obtain ⟨⟨k0, k1, k2⟩, _⟩ := D3.out.three
  obtain ⟨⟨l0, l1, l2⟩, _⟩ := D4.out.three
  go_wp2_with fail
  refine calls_named ?_
  intro V2 hV2
  have XA : Hid (Below w3.heap.size w3 V2) := by rw [hV2]; exact ((Ext.refl _).alloc _).below
  have B10 : Hid (Blk V2 w3.heap.size #[.slice a0 n0 c0, .slice a1 n1 c1, .slice a2 n2 c2, .slice b0 m0 e0, .slice b1 m1 e1, .slice b2 m2 e2, .slice none 0 0, .slice none 0 0, .slice none 0 0, .func (.func gf) #[] #[]] 90) := by rw [hV2]; exact Blk.new _ _ _
  have A4 := Lib.hid (A3.out.below XA.out)
  have KK : ∀ W', Keeps (fun x => x < V2.heap.size ∧ x ≠ w3.heap.size) V2 W' → Keeps (· < w3.heap.size) w3 W' := fun W' h => (Keeps.of_below XA.out fun _ h => h : Keeps (· < w3.heap.size) w3 V2).tr (h.mono fun x hx => ⟨Nat.lt_of_lt_of_le hx XA.out.size, Nat.ne_of_lt hx⟩)
  have A4j : Hid (∀ W', Keeps (fun x => x < V2.heap.size ∧ x ≠ w3.heap.size) V2 W' → IsAl W' W.heap.size (.pointer (some ⟨bj, 0, none⟩)) pj) := Lib.hid fun W' h => A3.out.keeps (KK W' h) fun _ _ h => h
  have A4x : Hid (∀ W', Keeps (fun x => x < V2.heap.size ∧ x ≠ w3.heap.size) V2 W' → IsAl W' V.heap.size (.pointer (some ⟨bx, 0, none⟩)) a.cl) := Lib.hid fun W' h => A1'.out.keeps (KK W' h) fun _ _ h => h
  have A4y : Hid (∀ W', Keeps (fun x => x < V2.heap.size ∧ x ≠ w3.heap.size) V2 W' → IsAl W' V.heap.size (.pointer (some ⟨bY, 0, none⟩)) b.cl) := Lib.hid fun W' h => A2'.out.keeps (KK W' h) fun _ _ h => h
  have E6 := Lib.hid (D6.out.below XA.out D6.out.lt)
  have X4 := Lib.hid (X3.out.trans (XA.out.mono X3.out.size))
  have hb6 : w.heap.size + 1 + 1 < w3.heap.size := D6.out.lt
  have hb10 : w3.heap.size < V2.heap.size := B10.out.lt
  clear KK hV2 k0 k1 k2 l0 l1 l2 A3 A1' A2' D3 D4 D6 X3 XA
  obtain ⟨g10, hg10⟩ : ∃ g, g = w3.heap.size := ⟨_, rfl⟩
  rw [← hg10] at B10 hb6 hb10 A4j A4x A4y ⊢
  clear hg10
  refine (CL.out _ _ _ A4.out).mono ?_
  rintro e w' ⟨rfl, hw⟩
  replace hw := hw.symm
  subst hw
  go_wp2
  go_loopw [31] (fun i wr => ∃ (k : Nat) (c o t : Value), k ≤ K ∧ i = .int .i64 k ∧ Blk wr g10 #[.slice a0 n0 c0, .slice a1 n1 c1, .slice a2 n2 c2, .slice b0 m0 e0, .slice b1 m1 e1, .slice b2 m2 e2, c, o, t, .func (.func gf) #[] #[]] 90 ∧ wr.ownsRow V2.heap.size 33 4 c k (flatS (pj.take k)) ∧ wr.ownsRow V2.heap.size 3 1 o k (((oneOf a pj).take k).map encZ) ∧ wr.ownsRow V2.heap.size 3 1 t k (((oneOf b pj).take k).map encZ) ∧ Far o t ∧ Keeps (fun x => x < V2.heap.size ∧ x ≠ g10) V2 wr) (fun i _ => K - (intOf i).toNat)
  case atStart => exact ⟨0, _, _, _, by omega, rfl, B10.out, World.ownsRow_nil _ _ _ _, World.ownsRow_nil _ _ _ _, World.ownsRow_nil _ _ _ _, .inl rfl, Keeps.refl _ _⟩
  case round =>
    obtain ⟨k, c, o, t, hk, rfl, hb, hc, ho, ht, hfar, hx⟩ := hrel
    obtain ⟨wo, rfl⟩ : ∃ wo : World, wo = wr := ⟨_, rfl⟩
    have hVo : V2.heap.size ≤ wo.heap.size := hx.size
    by_cases hlt : k < K
    · obtain ⟨s, hs⟩ : ∃ s, pj[k]? = some s := ⟨_, List.getElem?_eq_getElem (by have := HK0.out; omega)⟩
      have hkp : k < pj.length := by rw [← HK0.out]; exact hlt
      have hlb := HLB.out k hkp
      obtain ⟨q, hq⟩ : ∃ q, q = lb pj k := ⟨_, rfl⟩
      obtain ⟨qa, hqa⟩ : ∃ z, z = cls a.cl q := ⟨_, rfl⟩
      obtain ⟨qb, hqb⟩ : ∃ z, z = cls b.cl q := ⟨_, rfl⟩
      rw [← hq] at hlb
      have HB := Lib.hid hb
      have HC1 := Lib.hid hc
      have HO := Lib.hid ho
      have HT := Lib.hid ht
      have HF := Lib.hid hfar
      have HX := Lib.hid hx
      have HS := Lib.hid hs
      have AJ := Lib.hid (A4j.out wo hx)
      have AX := Lib.hid (A4x.out wo hx)
      have AY := Lib.hid (A4y.out wo hx)
      have hki : (k : Int) < K := by omega
      clear hb hc ho ht hfar hx hs
      have CS1 : Hid (∀ W', IsAl W' W.heap.size (.pointer (some ⟨bj, 0, none⟩)) pj → Calls Tryz.prog 72 #[.pointer (some ⟨bj, 0, none⟩), .int .i64 k] W' fun e w' => e = .returned (.tuple #[.agg (encS s), .bool true]) ∧ Ext W' w') := Lib.hid fun W' h => CS.out W' bj _ k s HS.out h
      have CM1 : Hid (∀ W', IsAl W' W.heap.size (.pointer (some ⟨bj, 0, none⟩)) pj → Calls Tryz.prog 73 #[.pointer (some ⟨bj, 0, none⟩), .int .i64 k] W' fun e w' => e = .returned (.tuple #[.int .u8 q, .bool true]) ∧ Ext W' w') := Lib.hid fun W' h => by rw [hq]; exact CM.out W' bj _ k hkp h
      have CX1 : Hid (∀ W', IsAl W' V.heap.size (.pointer (some ⟨bx, 0, none⟩)) a.cl → Calls Tryz.prog 74 #[.pointer (some ⟨bx, 0, none⟩), .int .u8 q] W' fun e w' => e = .returned (.int .i64 qa) ∧ w' = W') := Lib.hid fun W' h => by rw [hqa]; exact class_any _ _ _ q hlb W' h
      have CY1 : Hid (∀ W', IsAl W' V.heap.size (.pointer (some ⟨bY, 0, none⟩)) b.cl → Calls Tryz.prog 74 #[.pointer (some ⟨bY, 0, none⟩), .int .u8 q] W' fun e w' => e = .returned (.int .i64 qb) ∧ w' = W') := Lib.hid fun W' h => by rw [hqb]; exact class_any _ _ _ q hlb W' h
      have HQA : Hid ((oneOf a pj).take (k + 1) = (oneOf a pj).take k ++ [(qa : Int)]) := Lib.hid (by rw [List.take_add_one, oneOf_get a hkp, hqa, hq]; rfl)
      have HQB : Hid ((oneOf b pj).take (k + 1) = (oneOf b pj).take k ++ [(qb : Int)]) := Lib.hid (by rw [List.take_add_one, oneOf_get b hkp, hqb, hq]; rfl)
      have HQS : Hid (pj.take (k + 1) = pj.take k ++ [s]) := Lib.hid (by rw [List.take_add_one, HS.out]; rfl)
      clear hq hqa hqb hlb hkp HS
      go_wp2_with fail
      refine (CS1.out _ AJ.out).mono ?_
      rintro e w5 ⟨rfl, hx⟩
      have Y5 := Lib.hid hx
      have hw5 : wo.heap.size ≤ w5.heap.size := hx.size
      clear hx
      go_wp2_with fail
      refine calls_named ?_
      intro V3 hV3
      have S3 : Hid (Blk V3 w5.heap.size (encS s) 33) := by rw [hV3]; exact Blk.new _ _ _
      have Y6 : Hid (Ext wo V3) := by rw [hV3]; exact Y5.out.alloc _
      clear hV3 Y5
      refine (CM1.out _ (AJ.out.below Y6.out.below)).mono ?_
      rintro e w6 ⟨rfl, hx⟩
      have S6 := Lib.hid (S3.out.ext hx)
      have Y7 := Lib.hid (Y6.out.trans hx)
      clear hx S3 Y6
      have HC2 := Lib.hid (ownsRow_below HC1.out Y7.out.below)
      have HO2 := Lib.hid (ownsRow_below HO.out Y7.out.below)
      have HT2 := Lib.hid (ownsRow_below HT.out Y7.out.below)
      have HB2 := Lib.hid (HB.out.ext Y7.out)
      have hw6 : wo.heap.size ≤ w6.heap.size := Y7.out.size
      have HX2 := Lib.hid (HX.out.tr (Keeps.of_below Y7.out.below fun x hx => Nat.lt_of_lt_of_le hx.1 hVo))
      have L1 := Lib.hid fun x e => (HC1.out.lt x e).2
      have L2 := Lib.hid fun x e => (HO.out.lt x e).2
      have L3 := Lib.hid fun x e => (HT.out.lt x e).2
      clear HC1 HO HT HB HX
      obtain ⟨ca, cc, rfl⟩ := ownsRow_form HC2.out
      obtain ⟨oa, oc, rfl⟩ := ownsRow_form HO2.out
      obtain ⟨ta, tc, rfl⟩ := ownsRow_form HT2.out
      have hct : Hid ((Value.slice ca k cc).ownBlock = none ∨ (Value.slice ca k cc).ownBlock ≠ (Value.slice oa k oc).ownBlock) := ownBlock_ne (by decide) HC2.out HO2.out
      have hcu : Hid ((Value.slice ca k cc).ownBlock = none ∨ (Value.slice ca k cc).ownBlock ≠ (Value.slice ta k tc).ownBlock) := ownBlock_ne (by decide) HC2.out HT2.out
      have hoc : Hid ((Value.slice oa k oc).ownBlock = none ∨ (Value.slice oa k oc).ownBlock ≠ (Value.slice ca k cc).ownBlock) := ownBlock_ne (by decide) HO2.out HC2.out
      have htc : Hid ((Value.slice ta k tc).ownBlock = none ∨ (Value.slice ta k tc).ownBlock ≠ (Value.slice ca k cc).ownBlock) := ownBlock_ne (by decide) HT2.out HC2.out
      obtain ⟨XO, hXO⟩ : ∃ x, x = ((oneOf a pj).take k).map encZ := ⟨_, rfl⟩
      obtain ⟨XT, hXT⟩ : ∃ x, x = ((oneOf b pj).take k).map encZ := ⟨_, rfl⟩
      rw [← hXO] at HO2
      rw [← hXT] at HT2
      have HXO := Lib.hid hXO
      have HXT := Lib.hid hXT
      clear hXO hXT
      obtain ⟨PL, hPL⟩ : ∃ PL : List App, PL = [⟨33, 4, .slice ca k cc, k, flatS (pj.take k), 1, (encS s).toList⟩, ⟨3, 1, .slice oa k oc, k, XO, 1, [.int .i64 qa]⟩, ⟨3, 1, .slice ta k tc, k, XT, 1, [.int .i64 qb]⟩] := ⟨_, rfl⟩
      have hp0 : PL[0]? = some ⟨33, 4, .slice ca k cc, k, flatS (pj.take k), 1, (encS s).toList⟩ := by rw [hPL]; rfl
      have hp1 : PL[1]? = some ⟨3, 1, .slice oa k oc, k, XO, 1, [.int .i64 qa]⟩ := by rw [hPL]; rfl
      have hp2 : PL[2]? = some ⟨3, 1, .slice ta k tc, k, XT, 1, [.int .i64 qb]⟩ := by rw [hPL]; rfl
      have OK : Hid (AppOk w6 PL) := Lib.hid ⟨fun p hp x e => by
          rw [hPL] at hp
          simp only [List.mem_cons, List.not_mem_nil, or_false] at hp
          rcases hp with rfl | rfl | rfl
          · exact (HC2.out.lt x e).2
          · exact (HO2.out.lt x e).2
          · exact (HT2.out.lt x e).2, fun i j p q hi hj hij => by
          have hl : PL.length = 3 := by rw [hPL]; rfl
          have h1 := (List.getElem?_eq_some_iff.1 hi).1
          have h2 := (List.getElem?_eq_some_iff.1 hj).1
          rcases (show i = 0 ∨ i = 1 ∨ i = 2 by omega) with rfl | rfl | rfl <;> rcases (show j = 0 ∨ j = 1 ∨ j = 2 by omega) with rfl | rfl | rfl <;> (first | (exact absurd rfl hij) | skip) <;> (first | rw [hp0] at hi | rw [hp1] at hi | rw [hp2] at hi) <;> (first | rw [hp0] at hj | rw [hp1] at hj | rw [hp2] at hj) <;> cases hi <;> cases hj
          · exact hct.out
          · exact hcu.out
          · exact hoc.out
          · exact HF.out
          · exact htc.out
          · rcases HF.out with h | h
            · by_cases e : (Value.slice ta k tc).ownBlock = none
              · exact .inl e
              · right; intro h'; exact e (h'.trans h)
            · exact .inr fun h' => h h'.symm⟩
      clear hct hcu hoc htc
      have hsz : V2.heap.size ≤ w6.heap.size := Nat.le_trans hVo hw6
      have hnp : ∀ x, x < V2.heap.size → ¬ ∃ p ∈ PL, p.v.ownBlock = some x := fun x hx ⟨p, hp, e⟩ => by
        rw [hPL] at hp
        simp only [List.mem_cons, List.not_mem_nil, or_false] at hp
        rcases hp with rfl | rfl | rfl
        · have := (HC2.out.lt _ e).1; omega
        · have := (HO2.out.lt _ e).1; omega
        · have := (HT2.out.lt _ e).1; omega
      have h10k := hnp g10 hb10
      have HNP := Lib.hid hnp
      have HKV : Hid (∀ W', MoveA V2.heap.size w6 PL w6 W' → Keeps (fun x => x < V2.heap.size ∧ x ≠ g10) V2 W') := Lib.hid fun W' h => HX2.out.tr (h.keeps.mono fun x hx => ⟨Nat.lt_of_lt_of_le hx.1 hsz, hnp x hx.1⟩)
      have hsx : ¬ ∃ p ∈ PL, p.v.ownBlock = some w5.heap.size := fun ⟨p, hp, e⟩ => by
        rw [hPL] at hp
        simp only [List.mem_cons, List.not_mem_nil, or_false] at hp
        rcases hp with rfl | rfl | rfl
        · have := L1.out _ e; omega
        · have := L2.out _ e; omega
        · have := L3.out _ e; omega
      clear hPL hnp
      go_wp2
      refine RegG.wp_region_regM (MoveA V2.heap.size w6 PL) (MoveA.drew) (fun _ _ _ h k => h.trans k) (by kernel_rfl) 20 [0, 1, 0, 4, 15, 0, 32, 0, 0, 415, 927, 2047, 0, 4096, 0, 0, 53247, 118783, 262143, 12415, 1048575, 2097151, 4194303, 8388607, 16777215] (fun i => i == 3 || i == 4 || i == 9 || i == 10 || i == 11 || i == 16 || i == 17 || i == 18) (by kernel_rfl) (fun j => if j = 18 then some 57 else none) (fun j hj => (by first | rfl | (have hj2 : 25 ≤ j := hj; first | exact if_neg (by omega) | (split <;> first | omega | rfl)))) (by kernel_rfl) (fun i => if i = 3 then RegG.Eff.boxA V2.heap.size w6 PL 1 (encS s) 33 else if i = 4 then RegG.Eff.app V2.heap.size w6 PL ⟨33, 4, .slice ca k cc, k, flatS (pj.take k), 1, (encS s).toList⟩ (List.mem_of_getElem? hp0) else if i = 9 then RegG.Eff.det _ (.int .i64 qa) else if i = 10 then RegG.Eff.boxA V2.heap.size w6 PL 1 #[.int .i64 qa] 3 else if i = 11 then RegG.Eff.app V2.heap.size w6 PL ⟨3, 1, .slice oa k oc, k, XO, 1, [.int .i64 qa]⟩ (List.mem_of_getElem? hp1) else if i = 16 then RegG.Eff.det _ (.int .i64 qb) else if i = 17 then RegG.Eff.boxA V2.heap.size w6 PL 1 #[.int .i64 qb] 3 else if i = 18 then RegG.Eff.appFar V2.heap.size w6 PL ⟨3, 1, .slice ta k tc, k, XT, 1, [.int .i64 qb]⟩ (List.mem_of_getElem? hp2) else RegG.Eff.any _) ?_
      intro C hC hne
      have HC := Lib.hid hC
      have hin : ∀ {x : Nat}, x < w6.heap.size → (¬ ∃ p ∈ PL, p.v.ownBlock = some x) → ∀ W : { W // C W }, W.1.heap[x]? = w6.heap[x]? := fun {x} h1 h2 W => ((hC W.1).1 W.2).keeps.keep x ⟨h1, h2⟩
      have f6 : ∀ W : { W // C W }, W.1.cell? ⟨g10, 6, none⟩ = some (.slice ca k cc) := fun W => ((HB2.out.same (hin HB2.out.lt h10k W)).cell 6)
      have f7 : ∀ W : { W // C W }, W.1.cell? ⟨g10, 7, none⟩ = some (.slice oa k oc) := fun W => ((HB2.out.same (hin HB2.out.lt h10k W)).cell 7)
      have f8 : ∀ W : { W // C W }, W.1.cell? ⟨g10, 8, none⟩ = some (.slice ta k tc) := fun W => ((HB2.out.same (hin HB2.out.lt h10k W)).cell 8)
      have s0 : ∀ W : { W // C W }, W.1.cell? ⟨w5.heap.size, 0, none⟩ = some (.int .u64 (wd s 0).toNat) := fun W => (S6.out.same (hin S6.out.lt hsx W)).set4.1
      have s1 : ∀ W : { W // C W }, W.1.cell? ⟨w5.heap.size, 1, none⟩ = some (.int .u64 (wd s 1).toNat) := fun W => (S6.out.same (hin S6.out.lt hsx W)).set4.2.1
      have s2 : ∀ W : { W // C W }, W.1.cell? ⟨w5.heap.size, 2, none⟩ = some (.int .u64 (wd s 2).toNat) := fun W => (S6.out.same (hin S6.out.lt hsx W)).set4.2.2.1
      have s3 : ∀ W : { W // C W }, W.1.cell? ⟨w5.heap.size, 3, none⟩ = some (.int .u64 (wd s 3).toNat) := fun W => (S6.out.same (hin S6.out.lt hsx W)).set4.2.2.2
      clear hC hin
      repeat (refine RegG.regStep (fun K hK => ?_); first | (refine RegG.regN rfl ?_; try go_simp; refine hK _ _ ?_; clear hK K) | (refine RegG.regF rfl rfl ?_; unfold floatAt; go_simp; refine hK _ _ ?_; clear hK K))
      refine RegG.regStep (fun K hK => ?_)
      refine RegG.regE rfl rfl (RegG.Eff.boxA V2.heap.size w6 PL 1 (encS s) 33) rfl (fun W hW hN => ?_) (fun v hv => ?_)
      · have hM := (HC.out W).1 hW
        clear hW hK K
        (go_simp; exact ⟨.below ((Ext.refl _).alloc _).below, ⟨_, rfl⟩, fun b hb => by cases hb; exact ⟨Blk.new _ _ _, OK.out.fresh hM.size⟩⟩)
      obtain ⟨x3, rfl⟩ := hv
      go_simp
      refine hK _ _ ?_
      clear hK K
      refine RegG.regStep (fun K hK => ?_)
      refine RegG.regE rfl rfl (RegG.Eff.app V2.heap.size w6 PL ⟨33, 4, .slice ca k cc, k, flatS (pj.take k), 1, (encS s).toList⟩ (List.mem_of_getElem? hp0)) rfl (fun W hW hN => ?_) (fun v hv => ?_)
      · have hM := (HC.out W).1 hW
        clear hW hK K
        refine effT_appendA (w0 := w6) (PL := PL) (p := ⟨33, 4, .slice ca k cc, k, flatS (pj.take k), 1, (encS s).toList⟩) (.tmp 47) (.tmp 49) 22 rfl iS _ 32 Tryz.underlying22 hiS hzS0 hzS1 hzS2 rfl (show (0 : Nat) < 4 from by decide) OK.out hp0 rfl (hM.old _ (List.mem_of_getElem? hp0) HC2.out) ⟨x3, 0, none⟩ 1 rfl rfl (news_blk (hN.at 0 rfl (by kernel_rfl) x3 rfl).1) (by intro u hu; simp [encS] at hu; rcases hu with rfl | rfl | rfl | rfl <;> rfl) (by show k + 1 ≤ maxLen; unfold maxLen; omega) (by show (k + 1) * 32 ≤ _; omega) (Nat.le_trans hsz hM.size) (show (0 : Nat) < 1 from by decide) hM.size (fun v W' g1 g2 g3 _ => ⟨g1, g2, g3⟩)
      obtain ⟨ca2, cc2, rfl⟩ := hv
      go_simp
      refine hK _ _ ?_
      clear hK K
      repeat (refine RegG.regStep (fun K hK => ?_); first | (refine RegG.regN rfl ?_; try go_simp; refine hK _ _ ?_; clear hK K) | (refine RegG.regF rfl rfl ?_; unfold floatAt; go_simp; refine hK _ _ ?_; clear hK K))
      refine RegG.regStep (fun K hK => ?_)
      refine RegG.regE rfl rfl (RegG.Eff.det _ (.int .i64 qa)) rfl (fun W hW hN => ?_) (fun v hv => ?_)
      · have hM := (HC.out W).1 hW
        clear hW
        go_simp
        refine effT_call ((CX1.out _ (A4x.out _ (HKV.out _ hM))).mono ?_)
        rintro e w2 ⟨rfl, hx⟩
        exact ⟨_, rfl, (by rw [hx]; exact .below (Below.refl _ _)), rfl, trivial⟩
      replace hv : v = _ := hv
      subst hv
      go_simp
      refine hK _ _ ?_
      clear hK K
      refine RegG.regStep (fun K hK => ?_)
      refine RegG.regE rfl rfl (RegG.Eff.boxA V2.heap.size w6 PL 1 #[.int .i64 qa] 3) rfl (fun W hW hN => ?_) (fun v hv => ?_)
      · have hM := (HC.out W).1 hW
        clear hW hK K
        (go_simp; exact ⟨.below ((Ext.refl _).alloc _).below, ⟨_, rfl⟩, fun b hb => by cases hb; exact ⟨Blk.new _ _ _, OK.out.fresh hM.size⟩⟩)
      obtain ⟨x10, rfl⟩ := hv
      go_simp
      refine hK _ _ ?_
      clear hK K
      refine RegG.regStep (fun K hK => ?_)
      refine RegG.regE rfl rfl (RegG.Eff.app V2.heap.size w6 PL ⟨3, 1, .slice oa k oc, k, XO, 1, [.int .i64 qa]⟩ (List.mem_of_getElem? hp1)) rfl (fun W hW hN => ?_) (fun v hv => ?_)
      · have hM := (HC.out W).1 hW
        clear hW hK K
        refine effT_appendA (w0 := w6) (PL := PL) (p := ⟨3, 1, .slice oa k oc, k, XO, 1, [.int .i64 qa]⟩) (.tmp 52) (.tmp 56) 36 rfl iI _ 8 Tryz.underlying36 hiI hzI0 hzI1 hzI2 rfl (show (0 : Nat) < 1 from by decide) OK.out hp1 rfl (hM.old _ (List.mem_of_getElem? hp1) HO2.out) ⟨x10, 0, none⟩ 1 rfl rfl (news_blk (hN.at 0 rfl (by kernel_rfl) x10 rfl).1) (by intro u hu; simp at hu; rw [hu]; rfl) (by show k + 1 ≤ maxLen; unfold maxLen; omega) (by show (k + 1) * 8 ≤ _; omega) (Nat.le_trans hsz hM.size) (show (0 : Nat) < 1 from by decide) hM.size (fun v W2 g1 g2 g3 _ => ⟨g1, g2, g3⟩)
      obtain ⟨oa2, oc2, rfl⟩ := hv
      go_simp
      refine hK _ _ ?_
      clear hK K
      repeat (refine RegG.regStep (fun K hK => ?_); first | (refine RegG.regN rfl ?_; try go_simp; refine hK _ _ ?_; clear hK K) | (refine RegG.regF rfl rfl ?_; unfold floatAt; go_simp; refine hK _ _ ?_; clear hK K))
      refine RegG.regStep (fun K hK => ?_)
      refine RegG.regE rfl rfl (RegG.Eff.det _ (.int .i64 qb)) rfl (fun W hW hN => ?_) (fun v hv => ?_)
      · have hM := (HC.out W).1 hW
        clear hW
        go_simp
        refine effT_call ((CY1.out _ (A4y.out _ (HKV.out _ hM))).mono ?_)
        rintro e w2 ⟨rfl, hx⟩
        exact ⟨_, rfl, (by rw [hx]; exact .below (Below.refl _ _)), rfl, trivial⟩
      replace hv : v = _ := hv
      subst hv
      go_simp
      refine hK _ _ ?_
      clear hK K
      refine RegG.regStep (fun K hK => ?_)
      refine RegG.regE rfl rfl (RegG.Eff.boxA V2.heap.size w6 PL 1 #[.int .i64 qb] 3) rfl (fun W hW hN => ?_) (fun v hv => ?_)
      · have hM := (HC.out W).1 hW
        clear hW hK K
        (go_simp; exact ⟨.below ((Ext.refl _).alloc _).below, ⟨_, rfl⟩, fun b hb => by cases hb; exact ⟨Blk.new _ _ _, OK.out.fresh hM.size⟩⟩)
      obtain ⟨x17, rfl⟩ := hv
      go_simp
      refine hK _ _ ?_
      clear hK K
      refine RegG.regStep (fun K hK => ?_)
      refine RegG.regE rfl rfl (RegG.Eff.appFar V2.heap.size w6 PL ⟨3, 1, .slice ta k tc, k, XT, 1, [.int .i64 qb]⟩ (List.mem_of_getElem? hp2)) rfl (fun W hW hN => ?_) (fun v hv => ?_)
      · have hM := (HC.out W).1 hW
        have hq : After V2.heap.size w6 ⟨3, 1, .slice oa k oc, k, XO, 1, [.int .i64 qa]⟩ W (.slice oa2 (k + 1) oc2) := hN.at 2 rfl (by kernel_rfl)
        clear hW hK K
        refine effT_appendA (w0 := w6) (PL := PL) (p := ⟨3, 1, .slice ta k tc, k, XT, 1, [.int .i64 qb]⟩) (.tmp 59) (.tmp 63) 36 rfl iI _ 8 Tryz.underlying36 hiI hzI0 hzI1 hzI2 rfl (show (0 : Nat) < 1 from by decide) OK.out hp2 rfl (hM.old _ (List.mem_of_getElem? hp2) HT2.out) ⟨x17, 0, none⟩ 1 rfl rfl (news_blk (hN.at 0 rfl (by kernel_rfl) x17 rfl).1) (by intro u hu; simp at hu; rw [hu]; rfl) (by show k + 1 ≤ maxLen; unfold maxLen; omega) (by show (k + 1) * 8 ≤ _; omega) (Nat.le_trans hsz hM.size) (show (0 : Nat) < 1 from by decide) hM.size (fun v W2 g1 g2 g3 g4 => ⟨g1, g2, g3, ?_⟩)
        rcases g4 with g4 | g4
        · exact .inl g4
        · refine .inr (.inr fun e => ?_)
          rw [g4] at e
          have := (hq.1.lt _ e.symm).2
          omega
      obtain ⟨ta2, tc2, rfl⟩ := hv
      go_simp
      refine hK _ _ ?_
      clear hK K
      repeat (refine RegG.regStep (fun K hK => ?_); first | (refine RegG.regN rfl ?_; try go_simp; refine hK _ _ ?_; clear hK K) | (refine RegG.regF rfl rfl ?_; unfold floatAt; go_simp; refine hK _ _ ?_; clear hK K))
      refine RegG.regNil (fun W7 hW hH => ?_)
      have hM := (HC.out W7).1 hW
      have Q0 : Hid (After V2.heap.size w6 ⟨33, 4, .slice ca k cc, k, flatS (pj.take k), 1, (encS s).toList⟩ W7 (.slice ca2 (k + 1) cc2)) := Lib.hid (hH _ (List.mem_of_getElem? (show _ = some _ from rfl : _[6]? = some _)))
      have Q1 : Hid (After V2.heap.size w6 ⟨3, 1, .slice oa k oc, k, XO, 1, [.int .i64 qa]⟩ W7 (.slice oa2 (k + 1) oc2)) := Lib.hid (hH _ (List.mem_of_getElem? (show _ = some _ from rfl : _[3]? = some _)))
      have Q2 : Hid (After V2.heap.size w6 ⟨3, 1, .slice ta k tc, k, XT, 1, [.int .i64 qb]⟩ W7 (.slice ta2 (k + 1) tc2) ∧ ((Value.slice ta2 (k + 1) tc2).ownBlock = (Value.slice ta k tc).ownBlock ∨ Far (.slice ta2 (k + 1) tc2) (.slice oa2 (k + 1) oc2))) := Lib.hid (hH _ (List.mem_of_getElem? (show _ = some _ from rfl : _[0]? = some _)))
      have HF2 : Hid (Far (.slice oa2 (k + 1) oc2) (.slice ta2 (k + 1) tc2)) := Lib.hid (by
        rcases Q2.out.2 with h | h
        · rcases Q1.out.2 with h' | h'
          · rcases HF.out with h3 | h3
            · exact .inl (h'.trans h3)
            · exact .inr (by rw [h', h]; exact h3)
          · by_cases e : (Value.slice oa2 (k + 1) oc2).ownBlock = none
            · exact .inl e
            · right
              intro e2
              rw [h] at e2
              cases e3 : (Value.slice ta k tc).ownBlock with
              | none => rw [e3] at e2; exact e e2
              | some x => rw [e3] at e2; have := h' x e2; have := (HT2.out.lt x e3).2; omega
        · exact h.symm)
      have K7 := Lib.hid (HKV.out _ hM)
      have B7 := Lib.hid (HB2.out.same (hM.keeps.keep g10 ⟨HB2.out.lt, h10k⟩))
      have hsz7 : w6.heap.size ≤ W7.heap.size := hM.size
      have R0 : Hid (W7.ownsRow V2.heap.size 33 4 (.slice ca2 (k + 1) cc2) (k + 1) (flatS (pj.take (k + 1)))) := Lib.hid (by
        have := Q0.out.1
        rw [HQS.out, flatS_append]
        simpa [flatS] using this)
      have R1 : Hid (W7.ownsRow V2.heap.size 3 1 (.slice oa2 (k + 1) oc2) (k + 1) (((oneOf a pj).take (k + 1)).map encZ)) := Lib.hid (by
        have := Q1.out.1
        rw [HQA.out, List.map_append, ← HXO.out]
        exact this)
      have R2 : Hid (W7.ownsRow V2.heap.size 3 1 (.slice ta2 (k + 1) tc2) (k + 1) (((oneOf b pj).take (k + 1)).map encZ)) := Lib.hid (by
        have := Q2.out.1.1
        rw [HQB.out, List.map_append, ← HXT.out]
        exact this)
      clear hM hW hH HC f6 f7 f8 s0 s1 s2 s3 hp0 hp1 hp2 OK h10k HNP hsx HKV HX2 HB2 S6 Y7 CS1 CM1 CX1 CY1 Q0 Q1 Q2 HF HC2 HO2 HT2 L1 L2 L3
      obtain ⟨⟨p0, p1, p2, p3, p4, p5, p6, p7, p8, p9⟩, pz⟩ := B7.out.ten
      have z6 := pz 6
      have z7 := pz 7
      have z8 := pz 8
      clear pz
      go_wp2
      go_roundw
      case rel =>
        have kg : Keeps (· ≠ g10) W7 (((W7.setCell ⟨g10, 6, none⟩ (.slice ca2 (k + 1) cc2)).setCell ⟨g10, 7, none⟩ (.slice oa2 (k + 1) oc2)).setCell ⟨g10, 8, none⟩ (.slice ta2 (k + 1) tc2)) :=
          (((Keeps.refl _ _).setCell (p := ⟨g10, 6, none⟩) (fun h => h rfl) _).setCell (p := ⟨g10, 7, none⟩) (fun h => h rfl) _).setCell (p := ⟨g10, 8, none⟩) (fun h => h rfl) _
        refine ⟨k + 1, _, _, _, by omega, by go_num, ((B7.out.set 6 _).set 7 _).set 8 _, ?_, ?_, ?_, HF2.out, K7.out.tr (kg.mono fun x hx => hx.2)⟩
        · exact ownsRow_keepsB R0.out kg fun x h1 _ e => by omega
        · exact ownsRow_keepsB R1.out kg fun x h1 _ e => by omega
        · exact ownsRow_keepsB R2.out kg fun x h1 _ e => by omega
      case measure => simp [intOf]; omega
    · obtain rfl : k = K := by omega
      have t0 : pj.take k = pj := by rw [HK0.out]; exact List.take_length
      have t1 : (oneOf a pj).take k = oneOf a pj := by rw [HK0.out, ← oneOf_len a pj]; exact List.take_length
      have t2 : (oneOf b pj).take k = oneOf b pj := by rw [HK0.out, ← oneOf_len b pj]; exact List.take_length
      rw [t0] at hc
      rw [t1] at ho
      rw [t2] at ht
      obtain ⟨ca, cc, rfl⟩ := ownsRow_form hc
      obtain ⟨oa, oc, rfl⟩ := ownsRow_form ho
      obtain ⟨ta, tc, rfl⟩ := ownsRow_form ht
      have R0 := Lib.hid hc
      have R1 := Lib.hid ho
      have R2 := Lib.hid ht
      have B7 := Lib.hid hb
      have F6 := Lib.hid (E6.out.keeps hx ⟨E6.out.lt, by omega⟩)
      have XX : Hid (Below w.heap.size w wo) := X4.out.trans (hx.mono fun x hx' => ⟨Nat.lt_of_lt_of_le hx' X4.out.size, by have : x < w.heap.size := hx'; omega⟩ : Keeps (· < w.heap.size) V2 wo).below
      clear hb hc ho ht hfar hx t0 t1 t2 hlt hk
      obtain ⟨⟨p0, p1, p2, p3, p4, p5, p6, p7, p8, p9⟩, _⟩ := B7.out.ten
      obtain ⟨⟨q0, q1, q2, q3, q4, q5, q6, q7, q8, q9⟩, qz⟩ := F6.out.ten
      go_wp2
      refine post_named ?_
      intro W9 hW9
      have EK : Hid (Blk W9 (w.heap.size + 1 + 1) #[.slice a0 n0 c0, .slice a1 n1 c1, .slice a2 n2 c2, .slice b0 m0 e0, .slice b1 m1 e1, .slice b2 m2 e2, .slice ca k cc, .slice oa k oc, .slice ta k tc, .func (.func gf) #[] #[]] 90 ∧ Keeps (· ≠ w.heap.size + 1 + 1) wo W9) := by rw [hW9]; exact ⟨F6.out.set10 _ _ _ _ _ _ _ _ _ _, keeps10 _ _ _ _ _ _ _ _ _ _ _ _⟩
      have E := Lib.hid EK.out.1
      have K9 := Lib.hid EK.out.2
      clear EK hW9 p0 p1 p2 p3 p4 p5 p6 p7 p8 p9 q0 q1 q2 q3 q4 q5 q6 q7 q8 q9 qz
      have X9 : Hid (Below w.heap.size w W9) := XX.out.trans (K9.out.mono fun x hx => by have : x < w.heap.size := hx; omega : Keeps (· < w.heap.size) wo W9).below
      refine bodyPost_ret (results_cell_row rfl _ _ (w.heap.size + 1 + 1) 90 #[.slice a0 n0 c0, .slice a1 n1 c1, .slice a2 n2 c2, .slice b0 m0 e0, .slice b1 m1 e1, .slice b2 m2 e2, .slice ca k cc, .slice oa k oc, .slice ta k tc, .func (.func gf) #[] #[]] (0, 0) _ rfl E.out Tryz.underlying90 rfl (by kernel_rfl)) rfl ⟨_, rfl, ⟨(a0, n0, c0), .slice a1 n1 c1, .slice a2 n2 c2, (b0, m0, e0), .slice b1 m1 e1, .slice b2 m2 e2, .slice ca k cc, .slice oa k oc, .slice ta k tc, by rw [HGF.out]; rfl, H1.out.below X9.out, H2.out.below X9.out, G1.out.below X9.out, G2.out.below X9.out, ?_, ?_, ?_⟩, X9.out⟩
      · rw [← HPJ.out, ← HK0.out]
        exact ownsRow_base (ownsRow_keepsB R0.out K9.out fun x h1 _ e => by omega) (by omega)
      · rw [← HPJ.out]
        refine ownsRow_sl (e := 3) (base := V2.heap.size) (ownsRow_keepsB R1.out K9.out fun x h1 _ e => by omega) (by rw [oneOf_len]; exact HK0.out)
      · rw [← HPJ.out]
        refine ownsRow_sl (e := 3) (base := V2.heap.size) (ownsRow_keepsB R2.out K9.out fun x h1 _ e => by omega) (by rw [oneOf_len]; exact HK0.out)
end Go.Proofs.YtiegfnmpknmbmaaGreat
