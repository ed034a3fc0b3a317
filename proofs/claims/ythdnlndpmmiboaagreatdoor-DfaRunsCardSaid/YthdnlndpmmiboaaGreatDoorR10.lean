/-
  Drawn regions with several appends, each onto a row of its own: the relation that such a region keeps.
-/
import Derived.Test.YthdnlndpmmiboaaGreatDoorR06
import Derived.Test.YthdnlndpmmiboaaGreatDoorR08
import Derived.Test.YthdnlndpmmiboaaGreatDoorR09
namespace Go.Proofs.YthdnlndpmmiboaaGreatDoor
open Go Go.RowKit

section
variable {P : Program}
/-- An append, and where it lies. -/
theorem run_append_str (w : World) (base : Nat) (t ty e : TypeId) (i : TypeInfo) (z : Value) (size bytes : Nat) (ht : P.underlying t = some (.slice e)) (hi : P.info? e = some i) (hz : i.zero = some z)
    (hsize : i.size = size) (hby : i.bytes = bytes) (hzs : z.cells.size = size) (hsz : 0 < size) (v : Value) (n : Nat) (xs : List Value) (hown : w.ownsRow base e size v n xs)
    (a : Addr) (m c : Nat) (news : List Value) (hl : news.length = m * size) (hnews : ∀ j u, news[j]? = some u → w.cell? (a.add j) = some u) (h1 : ∀ u ∈ news, u.oneCell' = true)
    (h63 : n + m ≤ maxLen) (hbytes : (n + m) * bytes ≤ 140737488355328) (hbase : base ≤ w.heap.size) (hm : 0 < m) :
    ∃ v' w', (Builtin.append_ #[t, t] ty #[v, .slice (some a) m c]).run P w = .ok v' w' ∧ w'.ownsRow base e size v' (n + m) (xs ++ news) ∧
      ((∃ g cap cur, v = .slice (some ⟨g, 0, none⟩) n cap ∧ w.heap[g]? = some (.cells cur e (0, 0)) ∧ cur.size = cap * size ∧ n + m ≤ cap ∧ v' = .slice (some ⟨g, 0, none⟩) (n + m) cap ∧
        w' = w.setRow g (cur.toList.take (n * size) ++ news ++ cur.toList.drop (n * size + news.length)).toArray) ∨ (Below w.heap.size w w' ∧ v'.ownBlock = some w.heap.size)) := by
  obtain ⟨v', w', hr, ho, hg, _, hb⟩ := run_append_own_at (P := P) w base t ty e i z size bytes ht hi hz hsize hby hzs hsz v n xs hown a m c news hl hnews h1 h63 hbytes hbase
  have far : ∀ g, v.ownBlock = some g → v'.ownBlock = some w.heap.size → w'.heap[g]? = w.heap[g]? → Below w.heap.size w w' := fun g e1 _ e2 => ⟨hg.os, hg.tape, hg.output, hg.size, fun k hk => by
    by_cases e : k = g
    · subst e; exact e2
    · exact hg.block k hk (by rw [e1]; intro h; exact e (Option.some.inj h))⟩
  subst hsize
  subst hby
  have hown' := hown
  rcases hown.2 with ⟨rfl, rfl⟩ | ⟨g, cap, cur, rfl, hbg, hgc, hnc, hcm, hcs, htake⟩
  · refine ⟨v', w', hr, ho, .inr ⟨⟨hg.os, hg.tape, hg.output, hg.size, fun k hk => hg.block k hk (by simp [Value.ownBlock])⟩, ?_⟩⟩
    rcases hb with hb | hb
    · exfalso
      rcases ho.2 with ⟨_, h⟩ | ⟨g, c, cur, h, _⟩
      · omega
      · rw [h] at hb; simp [Value.ownBlock] at hb
    · exact hb
  · by_cases hroom : n + m ≤ cap
    · have hfit : n * i.size + news.length ≤ cur.size := by rw [hl, hcs, ← Nat.add_mul]; exact Nat.mul_le_mul_right _ hroom
      have hr2 := run_append_room (P := P) w t ty e i ht hi g n cap cur hgc a m c news hl hnews h1 hroom hfit
      rw [hr] at hr2
      cases hr2
      exact ⟨_, _, hr, ho, .inl ⟨g, cap, cur, rfl, hgc, hcs, hroom, rfl, rfl⟩⟩
    · have holds : ∀ j u, xs[j]? = some u → w.cell? ((⟨g, 0, none⟩ : Addr).add j) = some u := hown'.cells (g := g) rfl
      have hr2 := run_append_grow (P := P) w t ty e i z ht hi hz ⟨g, 0, none⟩ n cap xs hown'.1 holds a m c news hl hnews (by omega) (by unfold maxLen at h63; omega) (growslice_fits (by omega) hbytes)
      rw [hr] at hr2
      rw [Result.ok.injEq] at hr2
      obtain ⟨hv, e2⟩ := hr2
      have hw : w'.heap[g]? = w.heap[g]? := by
        rw [e2]
        exact heap_alloc_old w.drew _ (Array.getElem?_eq_some_iff.1 hgc).1
      exact ⟨v', w', hr, ho, .inr ⟨far g rfl (by rw [hv]; rfl) hw, by rw [hv]; rfl⟩⟩
end

/-- A row onto which the region appends, and what. -/
structure App where
  e : TypeId
  size : Nat
  v : Value
  n : Nat
  xs : List Value
  m : Nat
  news : List Value
def After (base : Nat) (w0 : World) (p : App) (W : World) (v : Value) : Prop :=
  W.ownsRow base p.e p.size v (p.n + p.m) (p.xs ++ p.news) ∧ (v.ownBlock = p.v.ownBlock ∨ ∀ x, v.ownBlock = some x → w0.heap.size ≤ x)
structure MoveA (base : Nat) (w0 : World) (PL : List App) (A B : World) : Prop where
  keeps : Keeps (fun x => x < A.heap.size ∧ ¬ ∃ p ∈ PL, p.v.ownBlock = some x) A B
  old : ∀ p ∈ PL, A.ownsRow base p.e p.size p.v p.n p.xs → B.ownsRow base p.e p.size p.v p.n p.xs
  new : ∀ p ∈ PL, ∀ v, After base w0 p A v → After base w0 p B v
section
variable {base : Nat} {w0 : World} {PL : List App} {A B C : World}
theorem MoveA.trans (h : MoveA base w0 PL A B) (k : MoveA base w0 PL B C) : MoveA base w0 PL A C :=
  ⟨h.keeps.trans k.keeps fun _ hx => ⟨Nat.lt_of_lt_of_le hx.1 h.keeps.size, hx.2⟩, fun p hp ho => k.old p hp (h.old p hp ho), fun p hp v hv => k.new p hp v (h.new p hp v hv)⟩
theorem MoveA.below (h : Below A.heap.size A B) : MoveA base w0 PL A B :=
  ⟨Keeps.of_below h fun _ hx => hx.1, fun _ _ ho => ownsRow_keepsA ho h, fun _ _ _ hv => ⟨ownsRow_keepsA hv.1 h, hv.2⟩⟩
where
  ownsRow_keepsA {W W' : World} {b : Nat} {e : TypeId} {size : Nat} {v : Value} {n : Nat} {xs : List Value} (h : W.ownsRow b e size v n xs) (hk : Below W.heap.size W W') : W'.ownsRow b e size v n xs :=
    ownsRow_keeps h (Keeps.of_below hk (R := (· < W.heap.size)) fun _ h => h) fun k e => (h.lt k e).2
theorem MoveA.drew : MoveA base w0 PL A A.drew := .below (Ext.refl A).drew.below
theorem MoveA.size (h : MoveA base w0 PL A B) : A.heap.size ≤ B.heap.size := h.keeps.size
/-- No two of the rows lie in one block. -/
def AppOk (w0 : World) (PL : List App) : Prop := (∀ p ∈ PL, ∀ x, p.v.ownBlock = some x → x < w0.heap.size) ∧ ∀ (i j : Nat) (p q : App), PL[i]? = some p → PL[j]? = some q → i ≠ j → p.v.ownBlock = none ∨ p.v.ownBlock ≠ q.v.ownBlock
theorem MoveA.room (ok : AppOk w0 PL) {i : Nat} {p : App} (hi : PL[i]? = some p) {g cap : Nat} {cur : Array Value} (hv : p.v = .slice (some ⟨g, 0, none⟩) p.n cap) (ho : A.ownsRow base p.e p.size p.v p.n p.xs) (hg : A.heap[g]? = some (.cells cur p.e (0, 0)))
    (hl : p.news.length = p.m * p.size) (hcs : cur.size = cap * p.size) (hroom : p.n + p.m ≤ cap) : MoveA base w0 PL A (A.setRow g (cur.toList.take (p.n * p.size) ++ p.news ++ cur.toList.drop (p.n * p.size + p.news.length)).toArray) := by
  have hpm := List.mem_of_getElem? hi
  have hpg : p.v.ownBlock = some g := by rw [hv]; rfl
  have hgw : g < w0.heap.size := ok.1 p hpm g hpg
  have hkg : ∀ c, Keeps (· ≠ g) A (A.setRow g c) := fun c => (Keeps.refl _ _).setRow (fun h => h rfl) c
  have hfit : p.n * p.size + p.news.length ≤ cur.size := by rw [hl, hcs, ← Nat.add_mul]; exact Nat.mul_le_mul_right _ hroom
  have htk : cur.toList.take (p.n * p.size) = p.xs := by
    rcases ho.2 with ⟨h, _⟩ | ⟨g', cap', cur', h, _, hg', _, _, _, ht⟩
    · rw [hv] at h; cases h
    · rw [hv] at h
      cases h
      rw [hg] at hg'
      cases hg'
      exact ht
  have hlx : p.xs.length = p.n * p.size := ho.1
  generalize hc : (cur.toList.take (p.n * p.size) ++ p.news ++ cur.toList.drop (p.n * p.size + p.news.length)).toArray = c
  have hcl : c.toList = p.xs ++ p.news ++ cur.toList.drop (p.n * p.size + p.news.length) := by rw [← hc, htk]
  have hcz : c.size = cur.size := by
    rw [← Array.length_toList, hcl, List.length_append, List.length_append, List.length_drop, Array.length_toList]; omega
  have hgc : (A.setRow g c).heap[g]? = some (.cells c p.e (0, 0)) := setRow_heap A g cur c p.e _ hg
  have far : ∀ {e : TypeId} {size : Nat} {v : Value} {n : Nat} {xs : List Value}, A.ownsRow base e size v n xs → v.ownBlock ≠ some g → (A.setRow g c).ownsRow base e size v n xs := fun h hne =>
    ownsRow_keeps h (hkg c) fun k e e' => hne (by rw [e, e'])
  have near : ∀ {k cap' : Nat} {xs : List Value}, A.ownsRow base p.e p.size (.slice (some ⟨g, 0, none⟩) k cap') k xs → c.toList.take (k * p.size) = xs → (A.setRow g c).ownsRow base p.e p.size (.slice (some ⟨g, 0, none⟩) k cap') k xs := fun {k cap' xs} h ht => by
    rcases h.2 with ⟨h', _⟩ | ⟨g', c', cur', h', hb, hg', h1, h2, h3, _⟩
    · cases h'
    · cases h'
      rw [hg] at hg'
      cases hg'
      exact ⟨h.1, .inr ⟨g, cap', c, rfl, hb, hgc, h1, h2, by rw [hcz]; exact h3, ht⟩⟩
  refine ⟨(hkg c).mono fun x hx e => hx.2 ⟨p, hpm, by rw [hpg, e]⟩, fun q hq hqo => ?_, fun q hq v hvq => ?_⟩
  · obtain ⟨j, hj⟩ := List.getElem?_of_mem hq
    by_cases e : j = i
    · subst e
      rw [hi] at hj
      cases hj
      rw [hv] at hqo ⊢
      exact near hqo (by rw [hcl, List.append_assoc, ← hlx]; exact List.take_left)
    · refine far hqo fun h => ?_
      rcases ok.2 j i q p hj hi e with h' | h'
      · rw [h'] at h; cases h
      · exact h' (by rw [h, hpg])
  · obtain ⟨j, hj⟩ := List.getElem?_of_mem hq
    refine ⟨?_, hvq.2⟩
    by_cases e : j = i
    · subst e
      rw [hi] at hj
      cases hj
      by_cases eb : v.ownBlock = some g
      · rcases hvq.1.2 with ⟨h', _⟩ | ⟨g', c', cur', h', _⟩
        · rw [h'] at eb; cases eb
        · subst h'
          have : g' = g := by simpa [Value.ownBlock] using eb
          subst this
          refine near hvq.1 ?_
          rw [hcl, Nat.add_mul, ← hlx, ← hl, ← List.length_append]
          exact List.take_left
      · exact far hvq.1 eb
    · refine far hvq.1 fun h => ?_
      rcases hvq.2 with h2 | h2
      · rcases ok.2 j i q p hj hi e with h' | h'
        · rw [h2, h'] at h; cases h
        · exact h' (by rw [← h2, h, hpg])
      · have := h2 g h; omega
theorem effT_appendA {P : Program} {Cl : FuncId → Array Value → World → (Ending → World → Prop) → Prop} {Rd : Nat → FuncId → Array Value → Code → Code → World → (Ending → World → Prop) → Prop} {o : Oper} {a : Act} {W : World} {post : Value → World → Prop} (s x : Operand) (t : TypeId)
    (ho : o.op = .call { callee := .builtin .append, args := #[s, x], argTypes := #[t, t] })
    (i : TypeInfo) (z : Value) (bytes : Nat) {p : App} (ht : P.underlying t = some (.slice p.e)) (hi : P.info? p.e = some i) (hz : i.zero = some z)
    (hsize : i.size = p.size) (hby : i.bytes = bytes) (hzs : z.cells.size = p.size) (hsz : 0 < p.size) (ok : AppOk w0 PL) {k : Nat} (hk : PL[k]? = some p)
    (hs : a.eval s = p.v) (hown : W.ownsRow base p.e p.size p.v p.n p.xs) (ad : Addr) (c : Nat) (hx : a.eval x = .slice (some ad) p.m c) (hl : p.news.length = p.m * p.size) (hnews : ∀ j u, p.news[j]? = some u → W.cell? (ad.add j) = some u) (h1 : ∀ u ∈ p.news, u.oneCell' = true)
    (h63 : p.n + p.m ≤ maxLen) (hbytes : (p.n + p.m) * bytes ≤ 140737488355328) (hbase : base ≤ W.heap.size) (hm : 0 < p.m) (hw0 : w0.heap.size ≤ W.heap.size)
    (h : ∀ v W', MoveA base w0 PL W W' → (∃ a c, v = .slice a (p.n + p.m) c) → After base w0 p W' v → (v.ownBlock = p.v.ownBlock ∨ v.ownBlock = some W.heap.size) → post v W') :
    effT Cl Rd post ((execOp a.eval o).run P W) := by
  obtain ⟨v', w', hr, h2, h3⟩ := run_append_str (P := P) W base t o.type p.e i z p.size bytes ht hi hz hsize hby hzs hsz p.v p.n p.xs hown ad p.m c p.news hl hnews h1 h63 hbytes hbase hm
  unfold execOp
  simp only [ho, resolve, invoke, builtin, Sem.run_bind, Sem.run_pure, Result.andThen_ok, List.map_toArray, List.map_cons, List.map_nil, hs, hx, hr]
  show post v' w'
  refine h v' w' ?_ (ownsRow_form h2) ⟨h2, ?_⟩ ?_
  · rcases h3 with ⟨g, cap, cur, e1, e2, e3, e4, e5, rfl⟩ | ⟨hb, _⟩
    · exact MoveA.room ok hk e1 hown e2 hl e3 e4
    · exact .below hb
  · rcases h3 with ⟨g, cap, cur, e1, e2, e3, e4, e5, rfl⟩ | ⟨hb, e⟩
    · left; rw [e5, e1]; rfl
    · right; intro y hy; rw [e] at hy; cases hy; exact hw0
  · rcases h3 with ⟨g, cap, cur, e1, e2, e3, e4, e5, rfl⟩ | ⟨hb, e⟩
    · left; rw [e5, e1]; rfl
    · right; exact e
end

/-- Two values lie in different blocks. -/
def Far (v y : Value) : Prop := v.ownBlock = none ∨ v.ownBlock ≠ y.ownBlock
namespace RegG
/-- An append, as what it leaves. -/
def Eff.app (base : Nat) (w0 : World) (PL : List App) (p : App) (hp : p ∈ PL) : Eff (MoveA base w0 PL) where
  P := fun v => ∃ a c, v = .slice a (p.n + p.m) c
  H := fun _ v W => After base w0 p W v
  wit := .slice none (p.n + p.m) 0
  pw := ⟨none, 0, rfl⟩
  st := fun _ v _ _ hm _ h => hm.new p hp v h
/-- .. that lies elsewhere than another one, or where it was. -/
def Eff.appFar (base : Nat) (w0 : World) (PL : List App) (p : App) (hp : p ∈ PL) : Eff (MoveA base w0 PL) where
  P := fun v => ∃ a c, v = .slice a (p.n + p.m) c
  H := fun y v W => After base w0 p W v ∧ (v.ownBlock = p.v.ownBlock ∨ Far v y)
  wit := .slice none (p.n + p.m) 0
  pw := ⟨none, 0, rfl⟩
  st := fun _ v _ _ hm _ h => ⟨hm.new p hp v h.1, h.2⟩
/-- A new box with known cells. -/
def Eff.boxA (base : Nat) (w0 : World) (PL : List App) (n : Nat) (cs : Array Value) (t : TypeId) : Eff (MoveA base w0 PL) where
  P := fun v => ∃ b, v = .slice (some ⟨b, 0, none⟩) n n
  H := fun _ v W => ∀ b, v = .slice (some ⟨b, 0, none⟩) n n → (Blk W b cs t ∧ ¬ ∃ p ∈ PL, p.v.ownBlock = some b)
  wit := .slice (some ⟨0, 0, none⟩) n n
  pw := ⟨_, rfl⟩
  st := fun _ _ _ _ hm _ h b e => ⟨(h b e).1.keeps hm.keeps ⟨(h b e).1.lt, (h b e).2⟩, (h b e).2⟩
/-- A box with one head of a row of numbers, of which something is kept. -/
def Eff.boxH (base : Nat) (w0 : World) (PL : List App) (t : TypeId) (H : World → Value → Prop) (hH : ∀ W W' u, MoveA base w0 PL W W' → H W u → H W' u) : Eff (MoveA base w0 PL) where
  P := fun v => ∃ b, v = .slice (some ⟨b, 0, none⟩) 1 1
  H := fun _ v W => ∀ b, v = .slice (some ⟨b, 0, none⟩) 1 1 → (∃ u, Blk W b #[u] t ∧ H W u) ∧ ¬ ∃ p ∈ PL, p.v.ownBlock = some b
  wit := .slice (some ⟨0, 0, none⟩) 1 1
  pw := ⟨_, rfl⟩
  st := fun _ _ _ _ hm _ h b e => by
    obtain ⟨⟨u, h1, h2⟩, h3⟩ := h b e
    exact ⟨⟨u, h1.keeps hm.keeps ⟨h1.lt, h3⟩, hH _ _ u hm h2⟩, h3⟩
end RegG
theorem AppOk.fresh {w0 : World} {PL : List App} (ok : AppOk w0 PL) {b : Nat} (h : w0.heap.size ≤ b) : ¬ ∃ p ∈ PL, p.v.ownBlock = some b := fun ⟨p, hp, e⟩ => by
  have := ok.1 p hp b e; omega
end Go.Proofs.YthdnlndpmmiboaaGreatDoor
