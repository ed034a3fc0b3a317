/-
  dfa.Copy, slices.Clone at slices of slices, the law's theirs, same, spoil and small.
  The law's theirs: an automaton as the reference's.
  slices.Clone at slices of slices; the law's spoil and small.
  product.join.
  Appends in drawn regions once more: what is appended is told by a property alone (a row that the region itself makes).
-/
import Derived.Test.YtbiboekhakbnpaaGreatDoorOB10
import Derived.Test.YtbiboekhakbnpaaGreatDoorOB06
import Derived.Test.YtbiboekhakbnpaaGreatDoorOB08
import Derived.Laws.EntriesVeiled
set_option maxRecDepth 100000
set_option maxHeartbeats 16000000
open Go.Lib (hid)
namespace Go.Proofs.YtbiboekhakbnpaaGreatDoor
open Go Go.RowKit Go.Shelf Go.Maps

theorem Blk.three {w : World} {b : Nat} {x y z : Value} {t : TypeId} (h : Blk w b #[x, y, z] t) : (w.cell? ⟨b, 0, none⟩ = some x /\ w.cell? ⟨b, 1, none⟩ = some y /\ w.cell? ⟨b, 2, none⟩ = some z) /\ w.frozen? ⟨b, 0, none⟩ = false /\ w.frozen? ⟨b, 1, none⟩ = false /\ w.frozen? ⟨b, 2, none⟩ = false :=
 ⟨⟨h.cell 0, h.cell 1, h.cell 2⟩, h.frozen 0, h.frozen 1, h.frozen 2⟩
theorem Blk.set3 {w : World} {b : Nat} {x y z x' y' z' : Value} {t : TypeId} (h : Blk w b #[x, y, z] t) : Blk (((w.setCell ⟨b, 0, none⟩ x').setCell ⟨b, 1, none⟩ y').setCell ⟨b, 2, none⟩ z') b #[x', y', z'] t := ((h.set 0 x').set 1 y').set 2 z'
theorem below_set3 {w W : World} {n b : Nat} {x y z : Value} (h : Below n w W) (hb : n <= b) : Below n w (((W.setCell ⟨b, 0, none⟩ x).setCell ⟨b, 1, none⟩ y).setCell ⟨b, 2, none⟩ z) :=
 ((h.setCell (by simpa using hb) _).setCell (by simpa using hb) _).setCell (by simpa using hb) _
theorem effT_build1 {P : Program} {Cl : FuncId -> Array Value -> World -> (Ending -> World -> Prop) -> Prop} {Rd : Nat -> FuncId -> Array Value -> Code -> Code -> World -> (Ending -> World -> Prop) -> Prop} {o : Oper} {a : Act} {W : World} {post : Value -> World -> Prop}
  (t e : TypeId) (x : Operand) (ho : o.op = .buildSlice t 1 #[(0, x)])
  {i : TypeInfo} {z : Value} {m : Nat} (ht : P.underlying t = some (.slice e)) (hi : P.info? e = some i) (hz : i.zero = some z) (hsz : i.size = m) (hm : 0 < m) (hm2 : m <= 16777216)
  (cs : Array Value) (hx : a.eval x = .agg cs) (hc : cs.size = m) (h : post (.slice (some ⟨W.heap.size, 0, none⟩) 1 1) (W.alloc (.cells cs e))) : effT Cl Rd post ((execOp a.eval o).run P W) := by
 unfold execOp
 have e1 : (#[((0 : Nat), x)].map fun p => (p.1, a.eval p.2)) = #[(0, .agg cs)] := by rw [<- hx]; simp
 simp only [ho, Sem.run_bind, e1, run_buildSlice_one ht hi hz hsz hm hm2 cs hc W, Result.andThen_ok, Sem.run_pure]
 exact h

def Eff.headRow (base n : Nat) (xs : List Value) : Eff (Move false (fun _ => False)) where
 P := fun v => ∃ b, v = .slice (some ⟨b, 0, none⟩) 1 1
 H := fun v W => ∀ b, v = .slice (some ⟨b, 0, none⟩) 1 1 -> ∃ u, Blk W b #[u] 37 /\ W.ownsRow base 3 1 u n xs
 wit := .slice (some ⟨0, 0, none⟩) 1 1
 pw := ⟨0, rfl⟩
 st := fun _ _ _ hm _ h b hb => by
  obtain ⟨u, h1, h2⟩ := h b hb
  exact ⟨u, h1.below hm.below h1.lt, ownsRow_below h2 hm.below⟩
theorem Blk.news1 {w : World} {b : Nat} {u : Value} {t : TypeId} (h : Blk w b #[u] t) : ∀ j x, [u][j]? = some x -> w.cell? ((⟨b, 0, none⟩ : Addr).add j) = some x := news_blk h
theorem SrcOf.own {w : World} {base n : Nat} {e : TypeId} {v : Value} {xs : List Value} (h : w.ownsRow base e 1 v n xs) : SrcOf w v n xs := by
 rcases h.2 with ⟨rfl, rfl⟩ | ⟨g, c, cur, rfl, _⟩
 ·exact .inl ⟨rfl, rfl, by have := h.1; simpa using this⟩
 ·exact .inr ⟨_, c, rfl, h.cells rfl⟩
attribute [local go_sem] encS

theorem leastOf_lb {l : List BS} {k : Nat} (hk : k < (partsOf l).length) : leastOf (partsOf l) k = (lb (partsOf l) k, true) := by
 have h1 := some_getD (l := partsOf l) 0 hk
 have h2 := first_of_ne (partsOf_ne l (List.mem_of_getElem? h1))
 unfold leastOf
 rw [setOf_nat, h1]
 show firstOf _ = _
 unfold lb
 rw [show firstOf ((partsOf l).getD k 0) = ((firstOf ((partsOf l).getD k 0)).1, (firstOf ((partsOf l).getD k 0)).2) from rfl, h2.1]
theorem post_named {P : Program} {fn : Func} {R : Ending -> World -> Prop} {x : Exit} {a : Act} {w : World} (h : ∀ W, W = w -> bodyPost P fn R x a W) : bodyPost P fn R x a w := h w rfl
theorem Blk.setS {w : World} {b : Nat} {c : Array Value} {t : TypeId} (h : Blk w b c t ) (k : Nat) (v : Value) {c' : Array Value} (e : c.setIfInBounds k v = c') : Blk (w.setCell ⟨b, k, none⟩ v) b c' t := e ▸ h.set k v
theorem Far.symm {v y : Value} (h : Far v y) : Far y v := by
 unfold Far at *
 by_cases e : y.ownBlock = none
 ·exact .inl e
 ·right
  rcases h with h | h
  ·intro h'; exact e (h'.trans h)
  ·exact fun h' => h h'.symm
end Go.Proofs.YtbiboekhakbnpaaGreatDoor
namespace Go.Proofs.YtbiboekhakbnpaaGreatDoor.Ap3
open Go Go.RowKit Go.Proofs.YtbiboekhakbnpaaGreatDoor

structure App where
 e : TypeId
 size : Nat
 v : Value
 n : Nat
 xs : List Value
 m : Nat
 lo : Nat
 ok : List Value -> World -> Prop
 st : ∀ ns A B, Keeps (fun x => lo <= x /\ x < A.heap.size) A B -> ok ns A -> ok ns B
def After (base : Nat) (w0 : World) (p : App) (W : World) (v : Value) : Prop :=
 (∃ ns, W.ownsRow base p.e p.size v (p.n + p.m) (p.xs ++ ns) /\ p.ok ns W) /\ (v.ownBlock = p.v.ownBlock \/ ∀ x, v.ownBlock = some x -> w0.heap.size <= x)
structure MoveA (base : Nat) (w0 : World) (PL : List App) (A B : World) : Prop where
 keeps : Keeps (fun x => x < A.heap.size /\ ¬ ∃ p ∈ PL, p.v.ownBlock = some x) A B
 old : ∀ p ∈ PL, A.ownsRow base p.e p.size p.v p.n p.xs -> B.ownsRow base p.e p.size p.v p.n p.xs
 new : ∀ p ∈ PL, ∀ v, After base w0 p A v -> After base w0 p B v
section
variable {base : Nat} {w0 : World} {PL : List App} {A B C : World}
theorem MoveA.trans (h : MoveA base w0 PL A B) (k : MoveA base w0 PL B C) : MoveA base w0 PL A C :=
 ⟨h.keeps.trans k.keeps fun _ hx => ⟨Nat.lt_of_lt_of_le hx.1 h.keeps.size, hx.2⟩, fun p hp ho => k.old p hp (h.old p hp ho), fun p hp v hv => k.new p hp v (h.new p hp v hv)⟩
theorem MoveA.below (h : Below A.heap.size A B) : MoveA base w0 PL A B :=
 ⟨Keeps.of_below h fun _ hx => hx.1, fun _ _ ho => ownsRow_keepsA ho h, fun p _ _ ⟨⟨ns, h1, h2⟩, h3⟩ => ⟨⟨ns, ownsRow_keepsA h1 h, p.st ns _ _ (Keeps.of_below h fun _ hx => hx.2) h2⟩, h3⟩⟩
where
 ownsRow_keepsA {W W' : World} {b : Nat} {e : TypeId} {size : Nat} {v : Value} {n : Nat} {xs : List Value} (h : W.ownsRow b e size v n xs) (hk : Below W.heap.size W W') : W'.ownsRow b e size v n xs :=
  ownsRow_keeps h (Keeps.of_below hk (R := (· < W.heap.size)) fun _ h => h) fun k e => (h.lt k e).2
theorem MoveA.drew : MoveA base w0 PL A A.drew := .below (Ext.refl A).drew.below
theorem MoveA.size (h : MoveA base w0 PL A B) : A.heap.size <= B.heap.size := h.keeps.size
def AppOk (w0 : World) (PL : List App) : Prop := (∀ p ∈ PL, w0.heap.size <= p.lo) /\ (∀ p ∈ PL, ∀ x, p.v.ownBlock = some x -> x < w0.heap.size) /\ ∀ (i j : Nat) (p q : App), PL[i]? = some p -> PL[j]? = some q -> i ≠ j -> p.v.ownBlock = none \/ p.v.ownBlock ≠ q.v.ownBlock
theorem MoveA.room (ok : AppOk w0 PL) {i : Nat} {p : App} (hi : PL[i]? = some p) {g cap : Nat} {cur : Array Value} (hv : p.v = .slice (some ⟨g, 0, none⟩) p.n cap) (ho : A.ownsRow base p.e p.size p.v p.n p.xs) (hg : A.heap[g]? = some (.cells cur p.e (0, 0)))
  (news : List Value) (hok : p.ok news A) (hl : news.length = p.m * p.size) (hcs : cur.size = cap * p.size) (hroom : p.n + p.m <= cap) : MoveA base w0 PL A (A.setRow g (cur.toList.take (p.n * p.size) ++ news ++ cur.toList.drop (p.n * p.size + news.length)).toArray) := by
 have hpm := List.mem_of_getElem? hi
 have hpg : p.v.ownBlock = some g := by rw [hv]; rfl
 have hgw : g < w0.heap.size := ok.2.1 p hpm g hpg
 have hkg : ∀ c, Keeps (· ≠ g) A (A.setRow g c) := fun c => (Keeps.refl _ _).setRow (fun h => h rfl) c
 have hfit : p.n * p.size + news.length <= cur.size := by rw [hl, hcs, <- Nat.add_mul]; exact Nat.mul_le_mul_right _ hroom
 have htk : cur.toList.take (p.n * p.size) = p.xs := by
  rcases ho.2 with ⟨h, _⟩ | ⟨g', cap', cur', h, _, hg', _, _, _, ht⟩
  ·rw [hv] at h; cases h
  ·rw [hv] at h
   cases h
   rw [hg] at hg'
   cases hg'
   exact ht
 have hlx : p.xs.length = p.n * p.size := ho.1
 generalize hc : (cur.toList.take (p.n * p.size) ++ news ++ cur.toList.drop (p.n * p.size + news.length)).toArray = c
 have hcl : c.toList = p.xs ++ news ++ cur.toList.drop (p.n * p.size + news.length) := by rw [<- hc, htk]
 have hcz : c.size = cur.size := by
  rw [<- Array.length_toList, hcl, List.length_append, List.length_append, List.length_drop, show cur.toList.length = cur.size from Array.length_toList]; omega
 have kst : ∀ q ∈ PL, ∀ ns, q.ok ns A -> q.ok ns (A.setRow g c) := fun q hq ns => q.st ns _ _ ((hkg c).mono fun x hx e => by have := ok.1 q hq; have := hx.1; omega)
 have hgc : (A.setRow g c).heap[g]? = some (.cells c p.e (0, 0)) := setRow_heap A g cur c p.e _ hg
 have far : ∀ {e : TypeId} {size : Nat} {v : Value} {n : Nat} {xs : List Value}, A.ownsRow base e size v n xs -> v.ownBlock ≠ some g -> (A.setRow g c).ownsRow base e size v n xs := fun h hne =>
  ownsRow_keeps h (hkg c) fun k e e' => hne (by rw [e, e'])
 have near : ∀ {k cap' : Nat} {xs : List Value}, A.ownsRow base p.e p.size (.slice (some ⟨g, 0, none⟩) k cap') k xs -> c.toList.take (k * p.size) = xs -> (A.setRow g c).ownsRow base p.e p.size (.slice (some ⟨g, 0, none⟩) k cap') k xs := fun {k cap' xs} h ht => by
  rcases h.2 with ⟨h', _⟩ | ⟨g', c', cur', h', hb, hg', h1, h2, h3, _⟩
  ·cases h'
  ·cases h'
   rw [hg] at hg'
   cases hg'
   exact ⟨h.1, .inr ⟨g, cap', c, rfl, hb, hgc, h1, h2, by rw [hcz]; exact h3, ht⟩⟩
 refine ⟨(hkg c).mono fun x hx e => hx.2 ⟨p, hpm, by rw [hpg, e]⟩, fun q hq hqo => ?_, fun q hq v hvq => ?_⟩
 ·obtain ⟨j, hj⟩ := List.getElem?_of_mem hq
  by_cases e : j = i
  ·subst e
   rw [hi] at hj
   cases hj
   rw [hv] at hqo ⊢
   exact near hqo (by rw [hcl, List.append_assoc, <- hlx]; exact List.take_left)
  ·refine far hqo fun h => ?_
   rcases ok.2.2 j i q p hj hi e with h' | h'
   ·rw [h'] at h; cases h
   ·exact h' (by rw [h, hpg])
 ·obtain ⟨j, hj⟩ := List.getElem?_of_mem hq
  obtain ⟨⟨ns, hns, hok2⟩, hv2⟩ := hvq
  refine ⟨?_, hv2⟩
  by_cases e : j = i
  ·subst e
   rw [hi] at hj
   cases hj
   by_cases eb : v.ownBlock = some g
   ·rcases hns.2 with ⟨h', _⟩ | ⟨g', c', cur', h', _⟩
    ·rw [h'] at eb; cases eb
    ·subst h'
     have : g' = g := by simpa [Value.ownBlock] using eb
     subst this
     refine ⟨news, ?_, kst p hpm news hok⟩
     have hl2 : (p.xs ++ ns).length = (p.n + p.m) * p.size := hns.1
     rcases hns.2 with ⟨h9, _⟩ | ⟨g9, c9, cur9, h9, hb9, hg9, i1, i2, i3, _⟩
     ·cases h9
     ·cases h9
      rw [hg] at hg9
      cases hg9
      refine ⟨by rw [List.length_append, hl, hlx, Nat.add_mul], .inr ⟨_, _, c, rfl, hb9, hgc, i1, i2, by rw [hcz]; exact i3, ?_⟩⟩
      rw [hcl, Nat.add_mul, <- hlx, <- hl, <- List.length_append]
      exact List.take_left
   ·exact ⟨ns, far hns eb, kst p hpm ns hok2⟩
  ·refine ⟨ns, far hns fun h => ?_, kst q hq ns hok2⟩
   rcases hv2 with h2 | h2
   ·rcases ok.2.2 j i q p hj hi e with h' | h'
    ·rw [h2, h'] at h; cases h
    ·exact h' (by rw [<- h2, h, hpg])
   ·have := h2 g h; omega
theorem effT_appendA {P : Program} {Cl : FuncId -> Array Value -> World -> (Ending -> World -> Prop) -> Prop} {Rd : Nat -> FuncId -> Array Value -> Code -> Code -> World -> (Ending -> World -> Prop) -> Prop} {o : Oper} {a : Act} {W : World} {post : Value -> World -> Prop} (s x : Operand) (t : TypeId)
  (ho : o.op = .call { callee := .builtin .append, args := #[s, x], argTypes := #[t, t] })
  (i : TypeInfo) (z : Value) (bytes : Nat) {p : App} (ht : P.underlying t = some (.slice p.e)) (hi : P.info? p.e = some i) (hz : i.zero = some z)
  (hsize : i.size = p.size) (hby : i.bytes = bytes) (hzs : z.cells.size = p.size) (hsz : 0 < p.size) (ok : AppOk w0 PL) {k : Nat} (hk : PL[k]? = some p)
  (hs : a.eval s = p.v) (hown : W.ownsRow base p.e p.size p.v p.n p.xs) (ad : Addr) (c : Nat) (hx : a.eval x = .slice (some ad) p.m c) (news : List Value) (hok : p.ok news W) (hl : news.length = p.m * p.size) (hnews : ∀ j u, news[j]? = some u -> W.cell? (ad.add j) = some u) (h1 : ∀ u ∈ news, u.oneCell' = true)
  (h63 : p.n + p.m <= maxLen) (hbytes : (p.n + p.m) * bytes <= 140737488355328) (hbase : base <= W.heap.size) (hm : 0 < p.m) (hw0 : w0.heap.size <= W.heap.size)
  (h : ∀ v W', MoveA base w0 PL W W' -> (∃ a c, v = .slice a (p.n + p.m) c) -> After base w0 p W' v -> (v.ownBlock = p.v.ownBlock \/ v.ownBlock = some W.heap.size) -> post v W') :
  effT Cl Rd post ((execOp a.eval o).run P W) := by
 obtain ⟨v', w', hr, h2, h3⟩ := run_append_str (P := P) W base t o.type p.e i z p.size bytes ht hi hz hsize hby hzs hsz p.v p.n p.xs hown ad p.m c news hl hnews h1 h63 hbytes hbase hm
 unfold execOp
 simp only [ho, resolve, invoke, builtin, Sem.run_bind, Sem.run_pure, Result.andThen_ok, List.map_toArray, List.map_cons, List.map_nil, hs, hx, hr]
 show post v' w'
 have hmv : MoveA base w0 PL W w' := by
  rcases h3 with ⟨g, cap, cur, e1, e2, e3, e4, e5, rfl⟩ | ⟨hb, _⟩
  ·exact MoveA.room ok hk e1 hown e2 news hok hl e3 e4
  ·exact .below hb
 refine h v' w' hmv (ownsRow_form h2) ⟨⟨news, h2, p.st news _ _ (hmv.keeps.mono fun x hx => ⟨hx.2, fun ⟨q, hq, hqb⟩ => ?_⟩) hok⟩, ?_⟩ ?_
 ·have h5 := ok.2.1 q hq x hqb
  have h6 := ok.1 p (List.mem_of_getElem? hk)
  have := hx.1
  omega
 ·rcases h3 with ⟨g, cap, cur, e1, e2, e3, e4, e5, rfl⟩ | ⟨hb, e⟩
  ·left; rw [e5, e1]; rfl
  ·right; intro y hy; rw [e] at hy; cases hy; exact hw0
 ·rcases h3 with ⟨g, cap, cur, e1, e2, e3, e4, e5, rfl⟩ | ⟨hb, e⟩
  ·left; rw [e5, e1]; rfl
  ·right; exact e
end

open Go.Proofs.YtbiboekhakbnpaaGreatDoor.RegG (Eff)
def EffA.app (base : Nat) (w0 : World) (PL : List App) (p : App) (hp : p ∈ PL) : RegG.Eff (MoveA base w0 PL) where
 P := fun v => ∃ a c, v = .slice a (p.n + p.m) c
 H := fun _ v W => After base w0 p W v
 wit := .slice none (p.n + p.m) 0
 pw := ⟨none, 0, rfl⟩
 st := fun _ v _ _ hm _ h => hm.new p hp v h
def EffA.boxA (base : Nat) (w0 : World) (PL : List App) (n : Nat) (cs : Array Value) (t : TypeId) : RegG.Eff (MoveA base w0 PL) where
 P := fun v => ∃ b, v = .slice (some ⟨b, 0, none⟩) n n
 H := fun _ v W => ∀ b, v = .slice (some ⟨b, 0, none⟩) n n -> (Blk W b cs t /\ ¬ ∃ p ∈ PL, p.v.ownBlock = some b)
 wit := .slice (some ⟨0, 0, none⟩) n n
 pw := ⟨_, rfl⟩
 st := fun _ _ _ _ hm _ h b e => ⟨(h b e).1.keeps hm.keeps ⟨(h b e).1.lt, (h b e).2⟩, (h b e).2⟩
theorem AppOk.fresh {w0 : World} {PL : List App} (ok : AppOk w0 PL) {b : Nat} (h : w0.heap.size <= b) : ¬ ∃ p ∈ PL, p.v.ownBlock = some b := fun ⟨p, hp, e⟩ => by
 have := ok.2.1 p hp b e; omega
end Go.Proofs.YtbiboekhakbnpaaGreatDoor.Ap3
