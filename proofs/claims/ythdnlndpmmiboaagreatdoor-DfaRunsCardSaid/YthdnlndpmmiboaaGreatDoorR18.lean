/-
  product.says and its closures, product.Name; the reference's Says and Class.
  product.join.
  The map of pairs to numbers: its block holds the pairs in the order in which they came.
  Appends in drawn regions once more: what is appended is told by a property alone (a row that the region itself makes).
-/
import Derived.Test.YthdnlndpmmiboaaGreatDoorR17
import Derived.Test.YthdnlndpmmiboaaGreatDoorR10
import Derived.Laws.EntriesVeiled
import Derived.DeepKeys4
import Derived.Maps.Own
namespace Go.Proofs.YthdnlndpmmiboaaGreatDoor
open Go Go.RowKit Go.Shelf Go.Maps

set_option maxRecDepth 100000 in
set_option maxHeartbeats 2000000 in
/-- The reference's class of a byte. -/
theorem refClassD_any (v : Value) (d : DF) (rt : Rt d) (c : Nat) (hc : c < 256) (w : World) (h : IsRf w v d) :
    Calls Tryz.prog 38 #[v, .int .u8 c] w fun e w' => e = .returned (.int .i64 (cls d.cl c)) ∧ Below w.heap.size w w' := by
  obtain ⟨v0, v1, v2, rfl, h0, h1, h2⟩ := h
  obtain ⟨a0, c0, rfl⟩ := h0.form
  obtain ⟨a1, c1, rfl⟩ := h1.form
  obtain ⟨a2, c2, rfl⟩ := h2.form
  rw [List.length_map] at h0 ⊢
  obtain ⟨n0, hn0⟩ : ∃ n, n = d.cl.length := ⟨_, rfl⟩
  rw [← hn0] at h0 ⊢
  obtain ⟨q, hq⟩ : ∃ q, q = cls d.cl c := ⟨_, rfl⟩
  have hqn : q < n0 := by rw [hq, hn0]; exact rt.part.cls_lt hc
  have hcle : n0 ≤ 256 := by rw [hn0]; exact rt.clle
  rw [← hq]
  have HQ : Hid (∀ k s, d.cl[k]? = some s → (s.getLsbD c = true ↔ k = q)) := Lib.hid fun k s hs => by
    rw [hq]
    constructor
    · intro hb; exact ((rt.part.cls_iff hc).2 ⟨s, hs, hb⟩).symm
    · intro e
      obtain ⟨s', hs', hb⟩ := (rt.part.cls_iff hc).1 e.symm
      rw [hs] at hs'; cases hs'; exact hb
  have HN0 := Lib.hid hn0
  have H0 := Lib.hid h0
  clear h0 h1 h2 hn0 hq
  go_enter Tryz.func38, Tryz.ntmps38
  go_wp2
  refine wp_named ?_
  intro V hV
  have B1 : Hid (Blk V w.heap.size #[.slice a0 n0 c0, .slice a1 d.nx.length c1, .slice a2 d.mr.length c2] 48) := by rw [hV]; exact Blk.new w _ _
  have X1 : Hid (Below w.heap.size w V) := by rw [hV]; exact ((Ext.refl w).alloc _).below
  clear hV
  have b0 := B1.out.cell 0
  simp only [List.getElem?_toArray, List.getElem?_cons_zero] at b0
  go_loop [5] (fun i => ∃ k : Nat, k ≤ q ∧ i = .int .i64 k) (fun i => q - (intOf i).toNat)
  case atStart => exact ⟨0, by omega, rfl⟩
  case round =>
    obtain ⟨k, hk, rfl⟩ := hrel
    obtain ⟨s, hs⟩ : ∃ s, d.cl[k]? = some s := ⟨_, List.getElem?_eq_getElem (by have := HN0.out; omega)⟩
    obtain ⟨b, off, rfl, hb, hcell⟩ := (H0.out.below X1.out).elem (i := k) (f := refS s) (by rw [List.getElem?_map, hs]; rfl)
    have hc1 := hcell c hc
    have hki : (k : Int) < n0 := by omega
    have hkn : k < n0 := by omega
    have hci : (c : Int) < 256 := by omega
    have HS := Lib.hid (HQ.out k s hs)
    clear hcell hs
    by_cases he : k = q
    · have hv : refS s c = 1 := by unfold refS; rw [if_pos (HS.out.2 he)]
      rw [hv] at hc1
      clear hv
      subst he
      go_wp2
      go_ret
      exact ⟨rfl, X1.out⟩
    · have hv : refS s c = 0 := by unfold refS; rw [if_neg (fun h => he (HS.out.1 h))]
      rw [hv] at hc1
      clear hv
      go_wp2
      go_round
      case rel => exact ⟨k + 1, by omega, by go_num⟩
      case measure => simp [intOf]; omega
end Go.Proofs.YthdnlndpmmiboaaGreatDoor
namespace Go.Proofs.YthdnlndpmmiboaaGreatDoor
open Go Go.RowKit Go.Shelf Go.Maps
attribute [local go_sem] encS

theorem leastOf_lb {l : List BS} {k : Nat} (hk : k < (partsOf l).length) : leastOf (partsOf l) k = (lb (partsOf l) k, true) := by
  have h1 := some_getD (l := partsOf l) 0 hk
  have h2 := first_of_ne (partsOf_ne l (List.mem_of_getElem? h1))
  unfold leastOf
  rw [setOf_nat, h1]
  show firstOf _ = _
  unfold lb
  rw [show firstOf ((partsOf l).getD k 0) = ((firstOf ((partsOf l).getD k 0)).1, (firstOf ((partsOf l).getD k 0)).2) from rfl, h2.1]
theorem post_named {P : Program} {fn : Func} {R : Ending → World → Prop} {x : Exit} {a : Act} {w : World} (h : ∀ W, W = w → bodyPost P fn R x a W) : bodyPost P fn R x a w := h w rfl
theorem Far.symm {v y : Value} (h : Far v y) : Far y v := by
  unfold Far at *
  by_cases e : y.ownBlock = none
  · exact .inl e
  · right
    rcases h with h | h
    · intro h'; exact e (h'.trans h)
    · exact fun h' => h h'.symm
end Go.Proofs.YthdnlndpmmiboaaGreatDoor
namespace Go.Proofs.YthdnlndpmmiboaaGreatDoor
open Go Go.RowKit Go.Shelf Go.Maps
open Go.WideMaps (KeyLaw)
open Go.ChangeMaps (setBlock heap_setBlock_same)

def pairV (p : Nat × Nat) : Value := .agg #[.int .i64 p.1, .int .i64 p.2]
/-- The entries of numbered pairs. -/
def entOf : Nat → List (Nat × Nat) → List MapEntry
  | _, [] => []
  | n, p :: l => ⟨pairV p, .int .i64 n, n⟩ :: entOf (n + 1) l
/-- The block of the map. -/
def IsNum (w : World) (b : Nat) (l : List (Nat × Nat)) : Prop := w.heap[b]? = some (.map (entOf 0 l).toArray l.length)
theorem IsNum.keeps {w w' : World} {b : Nat} {l : List (Nat × Nat)} (h : IsNum w b l) {R : Nat → Prop} (hk : Keeps R w w') (hb : R b) : IsNum w' b l := (hk.keep b hb).trans h
theorem IsNum.lt {w : World} {b : Nat} {l : List (Nat × Nat)} (h : IsNum w b l) : b < w.heap.size := (Array.getElem?_eq_some_iff.1 h).1
theorem IsNum.below {w w' : World} {b : Nat} {l : List (Nat × Nat)} (h : IsNum w b l) (hk : Below w.heap.size w w') : IsNum w' b l := (hk.block b h.lt).trans h

end Go.Proofs.YthdnlndpmmiboaaGreatDoor
namespace Go.Proofs.YthdnlndpmmiboaaGreatDoor.Ap3
open Go Go.RowKit Go.Proofs.YthdnlndpmmiboaaGreatDoor

/-- A row onto which the region appends, and what. -/
structure App where
  e : TypeId
  size : Nat
  v : Value
  n : Nat
  xs : List Value
  m : Nat
  lo : Nat
  ok : List Value → World → Prop
  st : ∀ ns A B, Keeps (fun x => lo ≤ x ∧ x < A.heap.size) A B → ok ns A → ok ns B
def After (base : Nat) (w0 : World) (p : App) (W : World) (v : Value) : Prop :=
  (∃ ns, W.ownsRow base p.e p.size v (p.n + p.m) (p.xs ++ ns) ∧ p.ok ns W) ∧ (v.ownBlock = p.v.ownBlock ∨ ∀ x, v.ownBlock = some x → w0.heap.size ≤ x)
structure MoveA (base : Nat) (w0 : World) (PL : List App) (A B : World) : Prop where
  keeps : Keeps (fun x => x < A.heap.size ∧ ¬ ∃ p ∈ PL, p.v.ownBlock = some x) A B
  old : ∀ p ∈ PL, A.ownsRow base p.e p.size p.v p.n p.xs → B.ownsRow base p.e p.size p.v p.n p.xs
  new : ∀ p ∈ PL, ∀ v, After base w0 p A v → After base w0 p B v
section
variable {base : Nat} {w0 : World} {PL : List App} {A B C : World}
theorem MoveA.trans (h : MoveA base w0 PL A B) (k : MoveA base w0 PL B C) : MoveA base w0 PL A C :=
  ⟨h.keeps.trans k.keeps fun _ hx => ⟨Nat.lt_of_lt_of_le hx.1 h.keeps.size, hx.2⟩, fun p hp ho => k.old p hp (h.old p hp ho), fun p hp v hv => k.new p hp v (h.new p hp v hv)⟩
theorem MoveA.below (h : Below A.heap.size A B) : MoveA base w0 PL A B :=
  ⟨Keeps.of_below h fun _ hx => hx.1, fun _ _ ho => ownsRow_keepsA ho h, fun p _ _ ⟨⟨ns, h1, h2⟩, h3⟩ => ⟨⟨ns, ownsRow_keepsA h1 h, p.st ns _ _ (Keeps.of_below h fun _ hx => hx.2) h2⟩, h3⟩⟩
where
  ownsRow_keepsA {W W' : World} {b : Nat} {e : TypeId} {size : Nat} {v : Value} {n : Nat} {xs : List Value} (h : W.ownsRow b e size v n xs) (hk : Below W.heap.size W W') : W'.ownsRow b e size v n xs :=
    ownsRow_keeps h (Keeps.of_below hk (R := (· < W.heap.size)) fun _ h => h) fun k e => (h.lt k e).2
theorem MoveA.drew : MoveA base w0 PL A A.drew := .below (Ext.refl A).drew.below
theorem MoveA.size (h : MoveA base w0 PL A B) : A.heap.size ≤ B.heap.size := h.keeps.size
/-- No two of the rows lie in one block. -/
def AppOk (w0 : World) (PL : List App) : Prop := (∀ p ∈ PL, w0.heap.size ≤ p.lo) ∧ (∀ p ∈ PL, ∀ x, p.v.ownBlock = some x → x < w0.heap.size) ∧ ∀ (i j : Nat) (p q : App), PL[i]? = some p → PL[j]? = some q → i ≠ j → p.v.ownBlock = none ∨ p.v.ownBlock ≠ q.v.ownBlock
theorem MoveA.room (ok : AppOk w0 PL) {i : Nat} {p : App} (hi : PL[i]? = some p) {g cap : Nat} {cur : Array Value} (hv : p.v = .slice (some ⟨g, 0, none⟩) p.n cap) (ho : A.ownsRow base p.e p.size p.v p.n p.xs) (hg : A.heap[g]? = some (.cells cur p.e (0, 0)))
    (news : List Value) (hok : p.ok news A) (hl : news.length = p.m * p.size) (hcs : cur.size = cap * p.size) (hroom : p.n + p.m ≤ cap) : MoveA base w0 PL A (A.setRow g (cur.toList.take (p.n * p.size) ++ news ++ cur.toList.drop (p.n * p.size + news.length)).toArray) := by
  have hpm := List.mem_of_getElem? hi
  have hpg : p.v.ownBlock = some g := by rw [hv]; rfl
  have hgw : g < w0.heap.size := ok.2.1 p hpm g hpg
  have hkg : ∀ c, Keeps (· ≠ g) A (A.setRow g c) := fun c => (Keeps.refl _ _).setRow (fun h => h rfl) c
  have hfit : p.n * p.size + news.length ≤ cur.size := by rw [hl, hcs, ← Nat.add_mul]; exact Nat.mul_le_mul_right _ hroom
  have htk : cur.toList.take (p.n * p.size) = p.xs := by
    rcases ho.2 with ⟨h, _⟩ | ⟨g', cap', cur', h, _, hg', _, _, _, ht⟩
    · rw [hv] at h; cases h
    · rw [hv] at h
      cases h
      rw [hg] at hg'
      cases hg'
      exact ht
  have hlx : p.xs.length = p.n * p.size := ho.1
  generalize hc : (cur.toList.take (p.n * p.size) ++ news ++ cur.toList.drop (p.n * p.size + news.length)).toArray = c
  have hcl : c.toList = p.xs ++ news ++ cur.toList.drop (p.n * p.size + news.length) := by rw [← hc, htk]
  have hcz : c.size = cur.size := by
    rw [← Array.length_toList, hcl, List.length_append, List.length_append, List.length_drop, show cur.toList.length = cur.size from Array.length_toList]; omega
  have kst : ∀ q ∈ PL, ∀ ns, q.ok ns A → q.ok ns (A.setRow g c) := fun q hq ns => q.st ns _ _ ((hkg c).mono fun x hx e => by have := ok.1 q hq; have := hx.1; omega)
  have hgc : (A.setRow g c).heap[g]? = some (.cells c p.e (0, 0)) := setRow_heap A g cur c p.e _ hg
  have far : ∀ {e : TypeId} {size : Nat} {v : Value} {n : Nat} {xs : List Value}, A.ownsRow base e size v n xs → v.ownBlock ≠ some g → (A.setRow g c).ownsRow base e size v n xs := fun h hne =>
    ownsRow_keeps h (hkg c) fun k e e' => hne (by rw [e, e'])
  have near : ∀ {k cap' : Nat} {xs : List Value}, A.ownsRow base p.e p.size (.slice (some ⟨g, 0, none⟩) k cap') k xs → c.toList.take (k * p.size) = xs → (A.setRow g c).ownsRow base p.e p.size (.slice (some ⟨g, 0, none⟩) k cap') k xs := fun {k cap' xs} h ht => by
    rcases h.2 with ⟨h', _⟩ | ⟨g', c', cur', h', hb, hg', h1, h2, h3, _⟩
    · cases h'
    · cases h'
      rw [hg] at hg'
      cases hg'
      exact ⟨h.1, .inr ⟨g, cap', c, rfl, hb, hgc, h1, h2, by rw [hcz]; exact h3, ht⟩⟩
  refine ⟨(hkg c).mono fun x hx e => hx.2 ⟨p, hpm, by rw [hpg, e]⟩, fun q hq hqo => ?_, fun q hq v hvq => ?_⟩
  · obtain ⟨j, hj⟩ := List.getElem?_of_mem hq
    by_cases e : j = i
    · subst e
      rw [hi] at hj
      cases hj
      rw [hv] at hqo ⊢
      exact near hqo (by rw [hcl, List.append_assoc, ← hlx]; exact List.take_left)
    · refine far hqo fun h => ?_
      rcases ok.2.2 j i q p hj hi e with h' | h'
      · rw [h'] at h; cases h
      · exact h' (by rw [h, hpg])
  · obtain ⟨j, hj⟩ := List.getElem?_of_mem hq
    obtain ⟨⟨ns, hns, hok2⟩, hv2⟩ := hvq
    refine ⟨?_, hv2⟩
    by_cases e : j = i
    · subst e
      rw [hi] at hj
      cases hj
      by_cases eb : v.ownBlock = some g
      · rcases hns.2 with ⟨h', _⟩ | ⟨g', c', cur', h', _⟩
        · rw [h'] at eb; cases eb
        · subst h'
          have : g' = g := by simpa [Value.ownBlock] using eb
          subst this
          refine ⟨news, ?_, kst p hpm news hok⟩
          have hl2 : (p.xs ++ ns).length = (p.n + p.m) * p.size := hns.1
          rcases hns.2 with ⟨h9, _⟩ | ⟨g9, c9, cur9, h9, hb9, hg9, i1, i2, i3, _⟩
          · cases h9
          · cases h9
            rw [hg] at hg9
            cases hg9
            refine ⟨by rw [List.length_append, hl, hlx, Nat.add_mul], .inr ⟨_, _, c, rfl, hb9, hgc, i1, i2, by rw [hcz]; exact i3, ?_⟩⟩
            rw [hcl, Nat.add_mul, ← hlx, ← hl, ← List.length_append]
            exact List.take_left
      · exact ⟨ns, far hns eb, kst p hpm ns hok2⟩
    · refine ⟨ns, far hns fun h => ?_, kst q hq ns hok2⟩
      rcases hv2 with h2 | h2
      · rcases ok.2.2 j i q p hj hi e with h' | h'
        · rw [h2, h'] at h; cases h
        · exact h' (by rw [← h2, h, hpg])
      · have := h2 g h; omega
theorem effT_appendA {P : Program} {Cl : FuncId → Array Value → World → (Ending → World → Prop) → Prop} {Rd : Nat → FuncId → Array Value → Code → Code → World → (Ending → World → Prop) → Prop} {o : Oper} {a : Act} {W : World} {post : Value → World → Prop} (s x : Operand) (t : TypeId)
    (ho : o.op = .call { callee := .builtin .append, args := #[s, x], argTypes := #[t, t] })
    (i : TypeInfo) (z : Value) (bytes : Nat) {p : App} (ht : P.underlying t = some (.slice p.e)) (hi : P.info? p.e = some i) (hz : i.zero = some z)
    (hsize : i.size = p.size) (hby : i.bytes = bytes) (hzs : z.cells.size = p.size) (hsz : 0 < p.size) (ok : AppOk w0 PL) {k : Nat} (hk : PL[k]? = some p)
    (hs : a.eval s = p.v) (hown : W.ownsRow base p.e p.size p.v p.n p.xs) (ad : Addr) (c : Nat) (hx : a.eval x = .slice (some ad) p.m c) (news : List Value) (hok : p.ok news W) (hl : news.length = p.m * p.size) (hnews : ∀ j u, news[j]? = some u → W.cell? (ad.add j) = some u) (h1 : ∀ u ∈ news, u.oneCell' = true)
    (h63 : p.n + p.m ≤ maxLen) (hbytes : (p.n + p.m) * bytes ≤ 140737488355328) (hbase : base ≤ W.heap.size) (hm : 0 < p.m) (hw0 : w0.heap.size ≤ W.heap.size)
    (h : ∀ v W', MoveA base w0 PL W W' → (∃ a c, v = .slice a (p.n + p.m) c) → After base w0 p W' v → (v.ownBlock = p.v.ownBlock ∨ v.ownBlock = some W.heap.size) → post v W') :
    effT Cl Rd post ((execOp a.eval o).run P W) := by
  obtain ⟨v', w', hr, h2, h3⟩ := run_append_str (P := P) W base t o.type p.e i z p.size bytes ht hi hz hsize hby hzs hsz p.v p.n p.xs hown ad p.m c news hl hnews h1 h63 hbytes hbase hm
  unfold execOp
  simp only [ho, resolve, invoke, builtin, Sem.run_bind, Sem.run_pure, Result.andThen_ok, List.map_toArray, List.map_cons, List.map_nil, hs, hx, hr]
  show post v' w'
  have hmv : MoveA base w0 PL W w' := by
    rcases h3 with ⟨g, cap, cur, e1, e2, e3, e4, e5, rfl⟩ | ⟨hb, _⟩
    · exact MoveA.room ok hk e1 hown e2 news hok hl e3 e4
    · exact .below hb
  refine h v' w' hmv (ownsRow_form h2) ⟨⟨news, h2, p.st news _ _ (hmv.keeps.mono fun x hx => ⟨hx.2, fun ⟨q, hq, hqb⟩ => ?_⟩) hok⟩, ?_⟩ ?_
  · have h5 := ok.2.1 q hq x hqb
    have h6 := ok.1 p (List.mem_of_getElem? hk)
    have := hx.1
    omega
  · rcases h3 with ⟨g, cap, cur, e1, e2, e3, e4, e5, rfl⟩ | ⟨hb, e⟩
    · left; rw [e5, e1]; rfl
    · right; intro y hy; rw [e] at hy; cases hy; exact hw0
  · rcases h3 with ⟨g, cap, cur, e1, e2, e3, e4, e5, rfl⟩ | ⟨hb, e⟩
    · left; rw [e5, e1]; rfl
    · right; exact e
end

open Go.Proofs.YthdnlndpmmiboaaGreatDoor.RegG (Eff)
/-- An append, as what it leaves. -/
def EffA.app (base : Nat) (w0 : World) (PL : List App) (p : App) (hp : p ∈ PL) : RegG.Eff (MoveA base w0 PL) where
  P := fun v => ∃ a c, v = .slice a (p.n + p.m) c
  H := fun _ v W => After base w0 p W v
  wit := .slice none (p.n + p.m) 0
  pw := ⟨none, 0, rfl⟩
  st := fun _ v _ _ hm _ h => hm.new p hp v h
/-- .. that lies elsewhere than another one, or where it was. -/
def EffA.appFar (base : Nat) (w0 : World) (PL : List App) (p : App) (hp : p ∈ PL) : RegG.Eff (MoveA base w0 PL) where
  P := fun v => ∃ a c, v = .slice a (p.n + p.m) c
  H := fun y v W => After base w0 p W v ∧ (v.ownBlock = p.v.ownBlock ∨ Far v y)
  wit := .slice none (p.n + p.m) 0
  pw := ⟨none, 0, rfl⟩
  st := fun _ v _ _ hm _ h => ⟨hm.new p hp v h.1, h.2⟩
/-- A new box with known cells. -/
def EffA.boxA (base : Nat) (w0 : World) (PL : List App) (n : Nat) (cs : Array Value) (t : TypeId) : RegG.Eff (MoveA base w0 PL) where
  P := fun v => ∃ b, v = .slice (some ⟨b, 0, none⟩) n n
  H := fun _ v W => ∀ b, v = .slice (some ⟨b, 0, none⟩) n n → (Blk W b cs t ∧ ¬ ∃ p ∈ PL, p.v.ownBlock = some b)
  wit := .slice (some ⟨0, 0, none⟩) n n
  pw := ⟨_, rfl⟩
  st := fun _ _ _ _ hm _ h b e => ⟨(h b e).1.keeps hm.keeps ⟨(h b e).1.lt, (h b e).2⟩, (h b e).2⟩
/-- A box with one head of a row of numbers, of which something is kept. -/
def EffA.boxH (base : Nat) (w0 : World) (PL : List App) (t : TypeId) (H : World → Value → Prop) (hH : ∀ W W' u, MoveA base w0 PL W W' → H W u → H W' u) : RegG.Eff (MoveA base w0 PL) where
  P := fun v => ∃ b, v = .slice (some ⟨b, 0, none⟩) 1 1
  H := fun _ v W => ∀ b, v = .slice (some ⟨b, 0, none⟩) 1 1 → (∃ u, Blk W b #[u] t ∧ H W u) ∧ ¬ ∃ p ∈ PL, p.v.ownBlock = some b
  wit := .slice (some ⟨0, 0, none⟩) 1 1
  pw := ⟨_, rfl⟩
  st := fun _ _ _ _ hm _ h b e => by
    obtain ⟨⟨u, h1, h2⟩, h3⟩ := h b e
    exact ⟨⟨u, h1.keeps hm.keeps ⟨h1.lt, h3⟩, hH _ _ u hm h2⟩, h3⟩
/-- A new row, to be kept. -/
def EffA.row (base : Nat) (w0 : World) (PL : List App) (ok : AppOk w0 PL) (lo : Nat) (hlo : w0.heap.size ≤ lo) (e : TypeId) (size n : Nat) (xs : List Value) : RegG.Eff (MoveA base w0 PL) where
  P := fun v => ∃ a c, v = .slice a n c
  H := fun _ v W => W.ownsRow lo e size v n xs
  wit := .slice none n 0
  pw := ⟨none, 0, rfl⟩
  st := fun A v _ B hm _ h => ownsRow_keeps h hm.keeps fun x hx => ⟨(h.lt x hx).2, fun ⟨q, hq, hqb⟩ => by have h5 := ok.2.1 q hq x hqb; have := (h.lt x hx).1; omega⟩
theorem AppOk.fresh {w0 : World} {PL : List App} (ok : AppOk w0 PL) {b : Nat} (h : w0.heap.size ≤ b) : ¬ ∃ p ∈ PL, p.v.ownBlock = some b := fun ⟨p, hp, e⟩ => by
  have := ok.2.1 p hp b e; omega
end Go.Proofs.YthdnlndpmmiboaaGreatDoor.Ap3
