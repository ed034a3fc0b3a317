/-
  Drawn regions with several appends, each onto a row of its own: the relation that such a region keeps.
  Drawn regions in which a slice that the region itself made is appended to: what is kept is told by a family of facts.
  What it is for an alphabet of the program and one of the reference to agree.
  Plain law: an alphabet of the program and that of the reference, which is for each byte the least one of its class.
  Walks of the reference of layer 16: Bytes.
  Plain law: what the program's alphabet tells, and what the reference's does.
-/
import Derived.Test.YthdnlndpmmiboaaGreatDoorM06
import Derived.Test.YthdnlndpmmiboaaGreatDoorM08
import Derived.Test.YthdnlndpmmiboaaGreatDoorM09
namespace Go.Proofs.YthdnlndpmmiboaaGreatDoor
open Go Go.RowKit

section
variable {P : Program}
/-- An append, and where it lies. -/
theorem run_append_str (w : World) (base : Nat) (t ty e : TypeId) (i : TypeInfo) (z : Value) (size bytes : Nat) (ht : P.underlying t = some (.slice e)) (hi : P.info? e = some i) (hz : i.zero = some z)
    (hsize : i.size = size) (hby : i.bytes = bytes) (hzs : z.cells.size = size) (hsz : 0 < size) (v : Value) (n : Nat) (xs : List Value) (hown : w.ownsRow base e size v n xs)
    (a : Addr) (m c : Nat) (news : List Value) (hl : news.length = m * size) (hnews : ∀ j u, news[j]? = some u → w.cell? (a.add j) = some u) (h1 : ∀ u ∈ news, u.oneCell' = true)
    (h63 : n + m ≤ maxLen) (hbytes : (n + m) * bytes ≤ 140737488355328) (hbase : base ≤ w.heap.size) (hm : 0 < m) :
    ∃ v' w', (Builtin.append_ #[t, t] ty #[v, .slice (some a) m c]).run P w = .ok v' w' ∧ w'.ownsRow base e size v' (n + m) (xs ++ news) ∧
      ((∃ g cap cur, v = .slice (some ⟨g, 0, none⟩) n cap ∧ w.heap[g]? = some (.cells cur e (0, 0)) ∧ cur.size = cap * size ∧ n + m ≤ cap ∧ v' = .slice (some ⟨g, 0, none⟩) (n + m) cap ∧
        w' = w.setRow g (cur.toList.take (n * size) ++ news ++ cur.toList.drop (n * size + news.length)).toArray) ∨ (Below w.heap.size w w' ∧ v'.ownBlock = some w.heap.size)) := by
  obtain ⟨v', w', hr, ho, hg, _, hb⟩ := run_append_own_at (P := P) w base t ty e i z size bytes ht hi hz hsize hby hzs hsz v n xs hown a m c news hl hnews h1 h63 hbytes hbase
  have far : ∀ g, v.ownBlock = some g → v'.ownBlock = some w.heap.size → w'.heap[g]? = w.heap[g]? → Below w.heap.size w w' := fun g e1 _ e2 => ⟨hg.os, hg.tape, hg.output, hg.size, fun k hk => by
    by_cases e : k = g
    · subst e; exact e2
    · exact hg.block k hk (by rw [e1]; intro h; exact e (Option.some.inj h))⟩
  subst hsize
  subst hby
  have hown' := hown
  rcases hown.2 with ⟨rfl, rfl⟩ | ⟨g, cap, cur, rfl, hbg, hgc, hnc, hcm, hcs, htake⟩
  · refine ⟨v', w', hr, ho, .inr ⟨⟨hg.os, hg.tape, hg.output, hg.size, fun k hk => hg.block k hk (by simp [Value.ownBlock])⟩, ?_⟩⟩
    rcases hb with hb | hb
    · exfalso
      rcases ho.2 with ⟨_, h⟩ | ⟨g, c, cur, h, _⟩
      · omega
      · rw [h] at hb; simp [Value.ownBlock] at hb
    · exact hb
  · by_cases hroom : n + m ≤ cap
    · have hfit : n * i.size + news.length ≤ cur.size := by rw [hl, hcs, ← Nat.add_mul]; exact Nat.mul_le_mul_right _ hroom
      have hr2 := run_append_room (P := P) w t ty e i ht hi g n cap cur hgc a m c news hl hnews h1 hroom hfit
      rw [hr] at hr2
      cases hr2
      exact ⟨_, _, hr, ho, .inl ⟨g, cap, cur, rfl, hgc, hcs, hroom, rfl, rfl⟩⟩
    · have holds : ∀ j u, xs[j]? = some u → w.cell? ((⟨g, 0, none⟩ : Addr).add j) = some u := hown'.cells (g := g) rfl
      have hr2 := run_append_grow (P := P) w t ty e i z ht hi hz ⟨g, 0, none⟩ n cap xs hown'.1 holds a m c news hl hnews (by omega) (by unfold maxLen at h63; omega) (growslice_fits (by omega) hbytes)
      rw [hr] at hr2
      rw [Result.ok.injEq] at hr2
      obtain ⟨hv, e2⟩ := hr2
      have hw : w'.heap[g]? = w.heap[g]? := by
        rw [e2]
        exact heap_alloc_old w.drew _ (Array.getElem?_eq_some_iff.1 hgc).1
      exact ⟨v', w', hr, ho, .inr ⟨far g rfl (by rw [hv]; rfl) hw, by rw [hv]; rfl⟩⟩
end

/-- A row onto which the region appends, and what. -/
structure App where
  e : TypeId
  size : Nat
  v : Value
  n : Nat
  xs : List Value
  m : Nat
  news : List Value
def After (base : Nat) (w0 : World) (p : App) (W : World) (v : Value) : Prop :=
  W.ownsRow base p.e p.size v (p.n + p.m) (p.xs ++ p.news) ∧ (v.ownBlock = p.v.ownBlock ∨ ∀ x, v.ownBlock = some x → w0.heap.size ≤ x)
structure MoveA (base : Nat) (w0 : World) (PL : List App) (A B : World) : Prop where
  keeps : Keeps (fun x => x < A.heap.size ∧ ¬ ∃ p ∈ PL, p.v.ownBlock = some x) A B
  old : ∀ p ∈ PL, A.ownsRow base p.e p.size p.v p.n p.xs → B.ownsRow base p.e p.size p.v p.n p.xs
  new : ∀ p ∈ PL, ∀ v, After base w0 p A v → After base w0 p B v
section
variable {base : Nat} {w0 : World} {PL : List App} {A B C : World}
theorem MoveA.trans (h : MoveA base w0 PL A B) (k : MoveA base w0 PL B C) : MoveA base w0 PL A C :=
  ⟨h.keeps.trans k.keeps fun _ hx => ⟨Nat.lt_of_lt_of_le hx.1 h.keeps.size, hx.2⟩, fun p hp ho => k.old p hp (h.old p hp ho), fun p hp v hv => k.new p hp v (h.new p hp v hv)⟩
theorem MoveA.below (h : Below A.heap.size A B) : MoveA base w0 PL A B :=
  ⟨Keeps.of_below h fun _ hx => hx.1, fun _ _ ho => ownsRow_keepsA ho h, fun _ _ _ hv => ⟨ownsRow_keepsA hv.1 h, hv.2⟩⟩
where
  ownsRow_keepsA {W W' : World} {b : Nat} {e : TypeId} {size : Nat} {v : Value} {n : Nat} {xs : List Value} (h : W.ownsRow b e size v n xs) (hk : Below W.heap.size W W') : W'.ownsRow b e size v n xs :=
    ownsRow_keeps h (Keeps.of_below hk (R := (· < W.heap.size)) fun _ h => h) fun k e => (h.lt k e).2
theorem MoveA.drew : MoveA base w0 PL A A.drew := .below (Ext.refl A).drew.below
theorem MoveA.size (h : MoveA base w0 PL A B) : A.heap.size ≤ B.heap.size := h.keeps.size
/-- No two of the rows lie in one block. -/
def AppOk (w0 : World) (PL : List App) : Prop := (∀ p ∈ PL, ∀ x, p.v.ownBlock = some x → x < w0.heap.size) ∧ ∀ (i j : Nat) (p q : App), PL[i]? = some p → PL[j]? = some q → i ≠ j → p.v.ownBlock = none ∨ p.v.ownBlock ≠ q.v.ownBlock
theorem MoveA.room (ok : AppOk w0 PL) {i : Nat} {p : App} (hi : PL[i]? = some p) {g cap : Nat} {cur : Array Value} (hv : p.v = .slice (some ⟨g, 0, none⟩) p.n cap) (ho : A.ownsRow base p.e p.size p.v p.n p.xs) (hg : A.heap[g]? = some (.cells cur p.e (0, 0)))
    (hl : p.news.length = p.m * p.size) (hcs : cur.size = cap * p.size) (hroom : p.n + p.m ≤ cap) : MoveA base w0 PL A (A.setRow g (cur.toList.take (p.n * p.size) ++ p.news ++ cur.toList.drop (p.n * p.size + p.news.length)).toArray) := by
  have hpm := List.mem_of_getElem? hi
  have hpg : p.v.ownBlock = some g := by rw [hv]; rfl
  have hgw : g < w0.heap.size := ok.1 p hpm g hpg
  have hkg : ∀ c, Keeps (· ≠ g) A (A.setRow g c) := fun c => (Keeps.refl _ _).setRow (fun h => h rfl) c
  have hfit : p.n * p.size + p.news.length ≤ cur.size := by rw [hl, hcs, ← Nat.add_mul]; exact Nat.mul_le_mul_right _ hroom
  have htk : cur.toList.take (p.n * p.size) = p.xs := by
    rcases ho.2 with ⟨h, _⟩ | ⟨g', cap', cur', h, _, hg', _, _, _, ht⟩
    · rw [hv] at h; cases h
    · rw [hv] at h
      cases h
      rw [hg] at hg'
      cases hg'
      exact ht
  have hlx : p.xs.length = p.n * p.size := ho.1
  generalize hc : (cur.toList.take (p.n * p.size) ++ p.news ++ cur.toList.drop (p.n * p.size + p.news.length)).toArray = c
  have hcl : c.toList = p.xs ++ p.news ++ cur.toList.drop (p.n * p.size + p.news.length) := by rw [← hc, htk]
  have hcz : c.size = cur.size := by
    rw [← Array.length_toList, hcl, List.length_append, List.length_append, List.length_drop, Array.length_toList]; omega
  have hgc : (A.setRow g c).heap[g]? = some (.cells c p.e (0, 0)) := setRow_heap A g cur c p.e _ hg
  have far : ∀ {e : TypeId} {size : Nat} {v : Value} {n : Nat} {xs : List Value}, A.ownsRow base e size v n xs → v.ownBlock ≠ some g → (A.setRow g c).ownsRow base e size v n xs := fun h hne =>
    ownsRow_keeps h (hkg c) fun k e e' => hne (by rw [e, e'])
  have near : ∀ {k cap' : Nat} {xs : List Value}, A.ownsRow base p.e p.size (.slice (some ⟨g, 0, none⟩) k cap') k xs → c.toList.take (k * p.size) = xs → (A.setRow g c).ownsRow base p.e p.size (.slice (some ⟨g, 0, none⟩) k cap') k xs := fun {k cap' xs} h ht => by
    rcases h.2 with ⟨h', _⟩ | ⟨g', c', cur', h', hb, hg', h1, h2, h3, _⟩
    · cases h'
    · cases h'
      rw [hg] at hg'
      cases hg'
      exact ⟨h.1, .inr ⟨g, cap', c, rfl, hb, hgc, h1, h2, by rw [hcz]; exact h3, ht⟩⟩
  refine ⟨(hkg c).mono fun x hx e => hx.2 ⟨p, hpm, by rw [hpg, e]⟩, fun q hq hqo => ?_, fun q hq v hvq => ?_⟩
  · obtain ⟨j, hj⟩ := List.getElem?_of_mem hq
    by_cases e : j = i
    · subst e
      rw [hi] at hj
      cases hj
      rw [hv] at hqo ⊢
      exact near hqo (by rw [hcl, List.append_assoc, ← hlx]; exact List.take_left)
    · refine far hqo fun h => ?_
      rcases ok.2 j i q p hj hi e with h' | h'
      · rw [h'] at h; cases h
      · exact h' (by rw [h, hpg])
  · obtain ⟨j, hj⟩ := List.getElem?_of_mem hq
    refine ⟨?_, hvq.2⟩
    by_cases e : j = i
    · subst e
      rw [hi] at hj
      cases hj
      by_cases eb : v.ownBlock = some g
      · rcases hvq.1.2 with ⟨h', _⟩ | ⟨g', c', cur', h', _⟩
        · rw [h'] at eb; cases eb
        · subst h'
          have : g' = g := by simpa [Value.ownBlock] using eb
          subst this
          refine near hvq.1 ?_
          rw [hcl, Nat.add_mul, ← hlx, ← hl, ← List.length_append]
          exact List.take_left
      · exact far hvq.1 eb
    · refine far hvq.1 fun h => ?_
      rcases hvq.2 with h2 | h2
      · rcases ok.2 j i q p hj hi e with h' | h'
        · rw [h2, h'] at h; cases h
        · exact h' (by rw [← h2, h, hpg])
      · have := h2 g h; omega
theorem effT_appendA {P : Program} {Cl : FuncId → Array Value → World → (Ending → World → Prop) → Prop} {Rd : Nat → FuncId → Array Value → Code → Code → World → (Ending → World → Prop) → Prop} {o : Oper} {a : Act} {W : World} {post : Value → World → Prop} (s x : Operand) (t : TypeId)
    (ho : o.op = .call { callee := .builtin .append, args := #[s, x], argTypes := #[t, t] })
    (i : TypeInfo) (z : Value) (bytes : Nat) {p : App} (ht : P.underlying t = some (.slice p.e)) (hi : P.info? p.e = some i) (hz : i.zero = some z)
    (hsize : i.size = p.size) (hby : i.bytes = bytes) (hzs : z.cells.size = p.size) (hsz : 0 < p.size) (ok : AppOk w0 PL) {k : Nat} (hk : PL[k]? = some p)
    (hs : a.eval s = p.v) (hown : W.ownsRow base p.e p.size p.v p.n p.xs) (ad : Addr) (c : Nat) (hx : a.eval x = .slice (some ad) p.m c) (hl : p.news.length = p.m * p.size) (hnews : ∀ j u, p.news[j]? = some u → W.cell? (ad.add j) = some u) (h1 : ∀ u ∈ p.news, u.oneCell' = true)
    (h63 : p.n + p.m ≤ maxLen) (hbytes : (p.n + p.m) * bytes ≤ 140737488355328) (hbase : base ≤ W.heap.size) (hm : 0 < p.m) (hw0 : w0.heap.size ≤ W.heap.size)
    (h : ∀ v W', MoveA base w0 PL W W' → (∃ a c, v = .slice a (p.n + p.m) c) → After base w0 p W' v → (v.ownBlock = p.v.ownBlock ∨ v.ownBlock = some W.heap.size) → post v W') :
    effT Cl Rd post ((execOp a.eval o).run P W) := by
  obtain ⟨v', w', hr, h2, h3⟩ := run_append_str (P := P) W base t o.type p.e i z p.size bytes ht hi hz hsize hby hzs hsz p.v p.n p.xs hown ad p.m c p.news hl hnews h1 h63 hbytes hbase hm
  unfold execOp
  simp only [ho, resolve, invoke, builtin, Sem.run_bind, Sem.run_pure, Result.andThen_ok, List.map_toArray, List.map_cons, List.map_nil, hs, hx, hr]
  show post v' w'
  refine h v' w' ?_ (ownsRow_form h2) ⟨h2, ?_⟩ ?_
  · rcases h3 with ⟨g, cap, cur, e1, e2, e3, e4, e5, rfl⟩ | ⟨hb, _⟩
    · exact MoveA.room ok hk e1 hown e2 hl e3 e4
    · exact .below hb
  · rcases h3 with ⟨g, cap, cur, e1, e2, e3, e4, e5, rfl⟩ | ⟨hb, e⟩
    · left; rw [e5, e1]; rfl
    · right; intro y hy; rw [e] at hy; cases hy; exact hw0
  · rcases h3 with ⟨g, cap, cur, e1, e2, e3, e4, e5, rfl⟩ | ⟨hb, e⟩
    · left; rw [e5, e1]; rfl
    · right; exact e
end

/-- Two values lie in different blocks. -/
def Far (v y : Value) : Prop := v.ownBlock = none ∨ v.ownBlock ≠ y.ownBlock
namespace RegG
/-- An append, as what it leaves. -/
def Eff.app (base : Nat) (w0 : World) (PL : List App) (p : App) (hp : p ∈ PL) : Eff (MoveA base w0 PL) where
  P := fun v => ∃ a c, v = .slice a (p.n + p.m) c
  H := fun _ v W => After base w0 p W v
  wit := .slice none (p.n + p.m) 0
  pw := ⟨none, 0, rfl⟩
  st := fun _ v _ _ hm _ h => hm.new p hp v h
/-- A new box with known cells. -/
def Eff.boxA (base : Nat) (w0 : World) (PL : List App) (n : Nat) (cs : Array Value) (t : TypeId) : Eff (MoveA base w0 PL) where
  P := fun v => ∃ b, v = .slice (some ⟨b, 0, none⟩) n n
  H := fun _ v W => ∀ b, v = .slice (some ⟨b, 0, none⟩) n n → (Blk W b cs t ∧ ¬ ∃ p ∈ PL, p.v.ownBlock = some b)
  wit := .slice (some ⟨0, 0, none⟩) n n
  pw := ⟨_, rfl⟩
  st := fun _ _ _ _ hm _ h b e => ⟨(h b e).1.keeps hm.keeps ⟨(h b e).1.lt, (h b e).2⟩, (h b e).2⟩
end RegG
theorem AppOk.fresh {w0 : World} {PL : List App} (ok : AppOk w0 PL) {b : Nat} (h : w0.heap.size ≤ b) : ¬ ∃ p ∈ PL, p.v.ownBlock = some b := fun ⟨p, hp, e⟩ => by
  have := ok.1 p hp b e; omega
end Go.Proofs.YthdnlndpmmiboaaGreatDoor
namespace Go.Proofs.YthdnlndpmmiboaaGreatDoor
open Go Go.RowKit

/-- The old blocks are kept, and the facts of a family. -/
def MoveK (n0 : Nat) (Φ : Nat → Value → World → Prop) (A B : World) : Prop := Keeps (fun k => k < n0 ∧ k < A.heap.size) A B ∧ ∀ i v, Φ i v A → Φ i v B
theorem MoveK.trans {n0 : Nat} {Φ : Nat → Value → World → Prop} {A B C : World} (h : MoveK n0 Φ A B) (k : MoveK n0 Φ B C) : MoveK n0 Φ A C :=
  ⟨h.1.trans k.1 fun _ hk => ⟨hk.1, Nat.lt_of_lt_of_le hk.2 h.1.size⟩, fun i v x => k.2 i v (h.2 i v x)⟩
theorem MoveK.below {n0 : Nat} {Φ : Nat → Value → World → Prop} {A B : World} (st : ∀ i v A B, Below A.heap.size A B → Φ i v A → Φ i v B) (h : Below A.heap.size A B) : MoveK n0 Φ A B :=
  ⟨Keeps.of_below h fun _ hk => hk.2, fun i v => st i v A B h⟩
theorem ownsRow_prefix {w : World} {base : Nat} {e : TypeId} {size g n m cap : Nat} {xs ys : List Value} (hx : xs.length = n * size) (h : w.ownsRow base e size (.slice (some ⟨g, 0, none⟩) (n + m) cap) (n + m) (xs ++ ys)) : w.ownsRow base e size (.slice (some ⟨g, 0, none⟩) n cap) n xs := by
  rcases h.2 with ⟨h1, _⟩ | ⟨g', c', cur, h1, h2, h3, h4, h5, h6, h7⟩
  · cases h1
  · cases h1
    refine ⟨hx, .inr ⟨g, cap, cur, rfl, h2, h3, by omega, h5, h6, ?_⟩⟩
    have := congrArg (List.take (n * size)) h7
    rw [List.take_take, Nat.min_eq_left (Nat.mul_le_mul_right _ (Nat.le_add_right n m)), List.take_left' hx] at this
    exact this
/-- Two owned rows in one block have one capacity. -/
theorem ownsRow_same {w : World} {b1 b2 : Nat} {e : TypeId} {size n1 n2 g : Nat} {v1 v2 : Value} {x1 x2 : List Value} (hs : 0 < size) (h1 : w.ownsRow b1 e size v1 n1 x1) (h2 : w.ownsRow b2 e size v2 n2 x2) (e1 : v1.ownBlock = some g) (e2 : v2.ownBlock = some g) :
    ∃ cap, v1 = .slice (some ⟨g, 0, none⟩) n1 cap ∧ v2 = .slice (some ⟨g, 0, none⟩) n2 cap ∧ n1 ≤ cap ∧ n2 ≤ cap := by
  rcases h1.2 with ⟨rfl, _⟩ | ⟨g1, c1, cur1, rfl, _, f1, k1, _, s1, _⟩
  · cases e1
  · rcases h2.2 with ⟨rfl, _⟩ | ⟨g2, c2, cur2, rfl, _, f2, k2, _, s2, _⟩
    · cases e2
    · have a1 : g1 = g := by simpa [Value.ownBlock] using e1
      have a2 : g2 = g := by simpa [Value.ownBlock] using e2
      subst a1
      subst a2
      rw [f1] at f2
      cases f2
      have : c1 = c2 := Nat.eq_of_mul_eq_mul_right hs (by omega)
      subst this
      exact ⟨c1, rfl, rfl, k1, k2⟩
end Go.Proofs.YthdnlndpmmiboaaGreatDoor
namespace Go.Proofs.YthdnlndpmmiboaaGreatDoor
open Go Go.RowKit Go.Shelf Go.Maps
/-- An alphabet and the reference's agree. -/
structure Agrees (p : List BS) (f : Nat → Int) : Prop where
  ne : p.isEmpty = false
  len : p.length = (leastsTo f 256).length
  byte : ∀ c, c < 256 → ∃ m : Nat, f c = m ∧ m ≤ c ∧ (leastsTo f 256)[cls p c]? = some m
  cls : ∀ n m : Nat, (leastsTo f 256)[n]? = some m → ∃ s, p[n]? = some s ∧ backS (refSetOf f m) = s ∧ leastOf p n = (m, true)
end Go.Proofs.YthdnlndpmmiboaaGreatDoor
namespace Go.Proofs.YthdnlndpmmiboaaGreatDoor
open Go Go.RowKit Go.Shelf Go.Maps

theorem sortedN_eq : ∀ (p q : List Nat), p.Pairwise (· < ·) → q.Pairwise (· < ·) → (∀ x, x ∈ p ↔ x ∈ q) → p = q
  | [], q, _, _, h => by
    cases q with
    | nil => rfl
    | cons y q => have := (h y).2 (by simp); simp at this
  | x :: p, q, hp, hq, h => by
    cases q with
    | nil => have := (h x).1 (by simp); simp at this
    | cons y q =>
      rw [List.pairwise_cons] at hp hq
      have hxy : x = y := by
        have h1 := (h x).1 (by simp)
        have h2 := (h y).2 (by simp)
        rcases List.mem_cons.1 h1 with e | h1
        · exact e
        · rcases List.mem_cons.1 h2 with e | h2
          · exact e.symm
          · have a := hq.1 x h1; have b := hp.1 y h2; omega
      subst hxy
      congr 1
      refine sortedN_eq p q hp.2 hq.2 fun z => ?_
      have hz := h z
      simp only [List.mem_cons] at hz
      constructor
      · intro hzp
        rcases hz.1 (.inr hzp) with e | h1
        · subst e; have := hp.1 z hzp; omega
        · exact h1
      · intro hzq
        rcases hz.2 (.inr hzq) with e | h1
        · subst e; have := hq.1 z hzq; omega
        · exact h1

/-- f is for each byte the least one of its class. -/
structure IsRef (f : Nat → Int) (R : Nat → Nat → Prop) : Prop where
  val : ∀ c, c < 256 → ∃ m : Nat, f c = m ∧ m ≤ c ∧ R c m ∧ ∀ e, e < m → ¬ R c e

theorem IsPart.least {p : List BS} {R : Nat → Nat → Prop} (hp : IsPart p R) {f : Nat → Int} (hf : IsRef f R) {c k : Nat} {q : BS} (hc : c < 256) (hk : p[k]? = Option.some q) (hq : q.getLsbD c = true) : f c = ((firstOf q).1 : Int) := by
  obtain ⟨m, h1, h2, h3, h4⟩ := hf.val c hc
  have hm := List.mem_of_getElem? hk
  obtain ⟨_, a1, a2, a3⟩ := first_of_ne (hp.ne q hm)
  have hqm := (hp.alike q hm c m hc (by omega) hq).2 h3
  have hle : (firstOf q).1 ≤ m := by
    rcases Nat.lt_or_ge m (firstOf q).1 with h | h
    · rw [a3 m h] at hqm; cases hqm
    · exact h
  have hge : m ≤ (firstOf q).1 := by
    rcases Nat.lt_or_ge (firstOf q).1 m with h | h
    · exact absurd ((hp.alike q hm c _ hc a1 hq).1 a2) (h4 _ h)
    · exact h
  rw [h1, show m = (firstOf q).1 by omega]

theorem IsPart.leasts {p : List BS} {R : Nat → Nat → Prop} (hp : IsPart p R) {f : Nat → Int} (hf : IsRef f R) : leastsTo f 256 = p.map fun q => (firstOf q).1 := by
  refine sortedN_eq _ _ (List.pairwise_lt_range.filter _) ?_ fun c => ?_
  · rw [List.pairwise_map]; exact hp.sorted
  · unfold leastsTo
    rw [List.mem_filter, List.mem_range, List.mem_map, beq_iff_eq]
    constructor
    · rintro ⟨hc, h⟩
      obtain ⟨k, q, hk, hq⟩ := hp.cover c hc
      refine ⟨q, List.mem_of_getElem? hk, ?_⟩
      have := hp.least hf hc hk hq
      omega
    · rintro ⟨q, hm, rfl⟩
      obtain ⟨_, a1, a2, a3⟩ := first_of_ne (hp.ne q hm)
      obtain ⟨k, hk⟩ := List.getElem?_of_mem hm
      exact ⟨a1, hp.least hf a1 hk a2⟩

theorem IsPart.agrees {p : List BS} {R : Nat → Nat → Prop} (hp : IsPart p R) {f : Nat → Int} (hf : IsRef f R) : Agrees p f where
  ne := hp.some
  len := by rw [hp.leasts hf, List.length_map]
  byte := fun c hc => by
    obtain ⟨q, h1, h2⟩ := (hp.cls_iff hc).1 rfl
    obtain ⟨m, h3, h4, _⟩ := hf.val c hc
    refine ⟨m, h3, h4, ?_⟩
    rw [hp.leasts hf, List.getElem?_map, h1]
    have := hp.least hf hc h1 h2
    rw [h3] at this
    have hm : m = (firstOf q).1 := by omega
    rw [hm]; rfl
  cls := fun n m hn => by
    rw [hp.leasts hf, List.getElem?_map] at hn
    cases hs : p[n]? with
    | none => rw [hs] at hn; cases hn
    | some s =>
      rw [hs] at hn
      have hm : (firstOf s).1 = m := by simpa using hn
      have hmem := List.mem_of_getElem? hs
      obtain ⟨a0, a1, a2, a3⟩ := first_of_ne (hp.ne s hmem)
      refine ⟨s, rfl, ?_, ?_⟩
      · unfold backS
        refine (BS.eq_bsOf fun c hc => ?_).symm
        unfold refSetOf
        obtain ⟨k, q, hk, hq⟩ := hp.cover c hc
        have hfc := hp.least hf hc hk hq
        rw [Bool.eq_iff_iff]
        constructor
        · intro h
          rw [hp.least hf hc hs h, hm]; simp
        · intro h
          have he : f c = (m : Int) := by
            by_cases h' : f c = (m : Int)
            · exact h'
            · rw [if_neg h'] at h; cases h
          have hqk : (firstOf q).1 = (firstOf s).1 := by omega
          obtain ⟨_, b1, b2, b3⟩ := first_of_ne (hp.ne q (List.mem_of_getElem? hk))
          have := apart_index hp.apart hk hs (c := (firstOf s).1) (by rw [← hqk]; exact b2) a2
          subst this
          rw [hk] at hs; cases hs; exact hq
      · unfold leastOf
        rw [setOf_nat, hs]
        show firstOf s = _
        rw [← hm, ← a0]

theorem IsRef.of_least {R : Nat → Nat → Prop} (hrefl : ∀ c, R c c) {r : Nat → Nat → Bool} (hr : ∀ c d, c < 256 → d < 256 → (r c d = true ↔ R c d)) : IsRef (fun c => (leastR r c : Int)) R where
  val := fun c hc => by
    refine ⟨leastR r c, rfl, ?_⟩
    unfold leastR
    cases h : (List.range c).find? (r c) with
    | none =>
      refine ⟨Nat.le_refl _, hrefl c, fun e he hre => ?_⟩
      have := List.find?_eq_none.1 h e (List.mem_range.2 he)
      exact this ((hr c e hc (by have : e < c := he; omega)).2 hre)
    | some d =>
      obtain ⟨h1, i, hi, h2, h3⟩ := List.find?_eq_some_iff_getElem.1 h
      have hd : d < c := List.mem_range.1 (List.mem_of_find?_eq_some h)
      simp only [List.getElem_range] at h2 h3
      subst h2
      refine ⟨Nat.le_of_lt hd, (hr c i hc (by omega)).1 h1, fun e he hre => ?_⟩
      have := h3 e he
      rw [(hr c e hc (by have : e < i := he; omega)).2 hre] at this; cases this
theorem partP_refS (l : List BS) (c d : Nat) : partP (l.map refS) c d = true ↔ Alike l c d := by
  unfold partP Alike
  simp only [List.all_map, List.all_eq_true, Function.comp, decide_eq_true_eq]
  refine forall_congr' fun s => forall_congr' fun _ => ?_
  unfold refS
  cases s.getLsbD c <;> cases s.getLsbD d <;> simp
/-- The reference's alphabet of sets. -/
def refA (l : List BS) : Nat → Int := fun c => (leastR (partP (l.map refS)) c : Int)
theorem isRef_refA (l : List BS) : IsRef (refA l) (Alike l) := IsRef.of_least (fun _ _ _ => rfl) fun c d _ _ => partP_refS l c d
theorem agrees_of (l : List BS) : Agrees (partsOf l) (refA l) := (IsPart.of_parts l).agrees (isRef_refA l)
theorem IsRef.ext {f g : Nat → Int} {R S : Nat → Nat → Prop} (hf : IsRef f R) (hg : IsRef g S) (h : ∀ c d, c < 256 → d < 256 → (R c d ↔ S c d)) : ∀ c, c < 256 → f c = g c := fun c hc => by
  obtain ⟨m, h1, h2, h3, h4⟩ := hf.val c hc
  obtain ⟨k, a1, a2, a3, a4⟩ := hg.val c hc
  have : m = k := by
    rcases Nat.lt_trichotomy m k with hlt | he | hlt
    · exact absurd ((h c m hc (by omega)).1 h3) (a4 m hlt)
    · exact he
    · exact absurd ((h c k hc (by omega)).2 a3) (h4 k hlt)
  rw [h1, a1, this]
end Go.Proofs.YthdnlndpmmiboaaGreatDoor
namespace Go.Proofs.YthdnlndpmmiboaaGreatDoor
open Go Go.RowKit Go.Shelf Go.Maps

def leastAt (f : Nat → Int) (x : Int) : Nat := (leastsTo f 256)[x.toNat]?.getD 0
def bytR (f : Nat → Int) (l : List Int) : List Nat × Int := if l.all (inR f) then (l.map (leastAt f), 0) else ([], 2)

/-- A list that is read, with some element, as what an effect leaves. -/
def Eff.sl {α : Type} (enc : α → Value) (l : List α) : Eff (Move false (fun _ => False)) where
  P := fun v => ∃ b off cap, v = .slice (some ⟨b, off, none⟩) l.length cap
  H := fun v W => IsSl enc W v l
  wit := .slice (some ⟨0, 0, none⟩) l.length 0
  pw := ⟨0, 0, 0, rfl⟩
  st := fun _ _ _ hm _ h => h.below hm.below
/-- A new box of some cells. -/
def Eff.box (n : Nat) (cs : Array Value) (t : TypeId) : Eff (Move false (fun _ => False)) where
  P := fun v => ∃ b, v = .slice (some ⟨b, 0, none⟩) n n
  H := fun v W => ∀ b, v = .slice (some ⟨b, 0, none⟩) n n → Blk W b cs t
  wit := .slice (some ⟨0, 0, none⟩) n n
  pw := ⟨0, rfl⟩
  st := fun _ _ _ hm _ h b hb => (h b hb).below hm.below (h b hb).lt

end Go.Proofs.YthdnlndpmmiboaaGreatDoor
namespace Go.Proofs.YthdnlndpmmiboaaGreatDoor
open Go Go.RowKit Go.Shelf Go.Maps

theorem refS_eq (s : BS) (c d : Nat) : refS s c = refS s d ↔ s.getLsbD c = s.getLsbD d := by
  unfold refS; cases s.getLsbD c <;> cases s.getLsbD d <;> simp
/-- A class has a set whole, where the set has its least byte and no byte of the class is told apart from it. -/
theorem IsPart.whole {p : List BS} {R : Nat → Nat → Prop} (hp : IsPart p R) {f : Nat → Int} (hf : IsRef f R) {s q : BS} {k : Nat} (hk : p[k]? = Option.some q) (h : ∀ c, c < 256 → refS s c = refS s (f c).toNat) :
    (q &&& ~~~s = 0 ↔ s.getLsbD (firstOf q).1 = true) ∧ badTo s q = false := by
  obtain ⟨_, a1, a2, a3⟩ := first_of_ne (hp.ne q (List.mem_of_getElem? hk))
  have hb : ∀ c, c < 256 → q.getLsbD c = true → s.getLsbD c = s.getLsbD (firstOf q).1 := fun c hc hq => by
    have h1 := h c hc
    rw [hp.least hf hc hk hq, Int.toNat_natCast, refS_eq] at h1
    exact h1
  cases hs : s.getLsbD (firstOf q).1 with
  | true =>
    have hw : q &&& ~~~s = 0 := bs_eq_zero fun c hc hb' => by
      rw [bit_and] at hb'
      have h1 := hb c hc hb'.1
      have h2 := hb'.2
      rw [not_bit _ hc, h1, hs] at h2; cases h2
    exact ⟨⟨fun _ => rfl, fun _ => hw⟩, by unfold badTo; rw [hw]; rfl⟩
  | false =>
    have hm : q &&& s = 0 := bs_eq_zero fun c hc hb' => by
      rw [bit_and] at hb'
      have h1 := hb c hc hb'.1
      rw [h1, hs] at hb'; cases hb'.2
    refine ⟨⟨fun hw => ?_, fun h => by cases h⟩, by unfold badTo; rw [hm]; simp⟩
    have : (q &&& ~~~s).getLsbD (firstOf q).1 = true := by rw [bit_and]; exact ⟨a2, by rw [not_bit _ a1, hs]; rfl⟩
    rw [hw, bs_zero_bit] at this; cases this
theorem Agrees.inR_iff {p : List BS} {f : Nat → Int} (h : Agrees p f) (x : Int) : inR f x = (setOf p x).isSome := by
  unfold inR
  rw [← h.len]
  rcases setOf_ex p x with ⟨h1, h2⟩ | ⟨n, s, rfl, h1, h2, h3⟩
  · rw [h1]
    rcases h2 with h2 | h2
    · rw [decide_eq_false (by omega)]; rfl
    · rw [decide_eq_false (show ¬ x < (p.length : Int) by omega), Bool.and_false]; rfl
  · rw [h3, decide_eq_true (by omega), decide_eq_true (by omega)]; rfl
theorem Agrees.at {p : List BS} {f : Nat → Int} (h : Agrees p f) {x : Int} (hx : inR f x = true) : ∃ (n m : Nat) (s : BS), x = n ∧ (leastsTo f 256)[n]? = some m ∧ setOf p x = some s ∧ backS (refSetOf f m) = s ∧ leastOf p x = (m, true) := by
  obtain ⟨n, m, rfl, hm⟩ := inR_some hx
  obtain ⟨s, h1, h2, h3⟩ := h.cls n m hm
  exact ⟨n, m, s, rfl, hm, (setOf_nat p n).trans h1, h2, h3⟩
theorem backS_bit (f : Nat → Int) {c : Nat} (hc : c < 256) : (backS f).getLsbD c = (f c == 1) := by unfold backS; exact bsOf_bit _ hc
theorem Agrees.bytes {p : List BS} {f : Nat → Int} (h : Agrees p f) (l : List Int) : bytesOfL p l = ((bytR f l).1, (bytR f l).2.toNat) ∧ 0 ≤ (bytR f l).2 := by
  have hk : ∀ x, (leastOf p x).2 = inR f x := fun x => by
    cases hb : inR f x with
    | true =>
      obtain ⟨n, m, s, rfl, h1, h2, h3, h4⟩ := h.at hb
      rw [h4]
    | false =>
      have := h.inR_iff x
      rw [hb] at this
      unfold leastOf
      cases hs : setOf p x with
      | none => rfl
      | some s => rw [hs] at this; cases this
  have he : l.all (fun k => (leastOf p k).2) = l.all (inR f) := by
    congr 1; funext x; exact hk x
  unfold bytesOfL bytR
  rw [h.ne, if_neg (by decide), he]
  cases hb : l.all (inR f) with
  | true =>
    rw [if_pos rfl, if_pos rfl]
    refine ⟨?_, Int.le_refl _⟩
    congr 1
    refine List.map_congr_left fun x hx => ?_
    obtain ⟨n, m, s, rfl, h1, h2, h3, h4⟩ := h.at (List.all_eq_true.1 hb x hx)
    rw [h4]
    unfold leastAt
    rw [Int.toNat_natCast, h1]; rfl
  | false =>
    rw [if_neg (by decide), if_neg (by decide)]
    exact ⟨rfl, by decide⟩
end Go.Proofs.YthdnlndpmmiboaaGreatDoor
