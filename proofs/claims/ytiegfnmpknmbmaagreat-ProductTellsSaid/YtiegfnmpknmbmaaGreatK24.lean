/-
  The map of pairs to numbers: its block holds the pairs in the order in which they came.
  Appends in drawn regions once more: what is appended is told by a property alone (a row that the region itself makes).
  product.Of.
-/
import Derived.Test.YtiegfnmpknmbmaaGreatK23
import Derived.DeepKeys4
import Derived.Maps.Own
import Derived.Test.YtiegfnmpknmbmaaGreatK11
namespace Go.Proofs.YtiegfnmpknmbmaaGreat
open Go Go.RowKit Go.Shelf Go.Maps
open Go.WideMaps (KeyLaw)
open Go.ChangeMaps (setBlock heap_setBlock_same)

def pairV (p : Nat × Nat) : Value := .agg #[.int .i64 p.1, .int .i64 p.2]
/-- The entries of numbered pairs. -/
def entOf : Nat → List (Nat × Nat) → List MapEntry
  | _, [] => []
  | n, p :: l => ⟨pairV p, .int .i64 n, n⟩ :: entOf (n + 1) l
theorem entOf_get : ∀ (l : List (Nat × Nat)) (n i : Nat), (entOf n l)[i]? = (l[i]?).map fun p => ⟨pairV p, .int .i64 (n + i : Nat), n + i⟩
  | [], _, _ => by simp [entOf]
  | p :: l, n, 0 => by simp [entOf]
  | p :: l, n, i + 1 => by
    simp only [entOf, List.getElem?_cons_succ, entOf_get l]
    rw [show n + 1 + i = n + (i + 1) by omega]
theorem entOf_append : ∀ (l : List (Nat × Nat)) (n : Nat) (q : Nat × Nat), entOf n (l ++ [q]) = entOf n l ++ [⟨pairV q, .int .i64 (n + l.length : Nat), n + l.length⟩]
  | [], n, q => by simp [entOf]
  | p :: l, n, q => by
    simp only [List.cons_append, entOf, entOf_append l, List.length_cons]
    rw [show n + 1 + l.length = n + (l.length + 1) by omega]
theorem pairV_inj {p q : Nat × Nat} (h : pairV p = pairV q) : p = q := by
  unfold pairV at h
  injection h with h
  have h1 := congrArg (fun a : Array Value => a.toList) h
  simp at h1
  exact Prod.ext (by omega) (by omega)

/-- The block of the map. -/
def IsNum (w : World) (b : Nat) (l : List (Nat × Nat)) : Prop := w.heap[b]? = some (.map (entOf 0 l).toArray l.length)
theorem IsNum.keeps {w w' : World} {b : Nat} {l : List (Nat × Nat)} (h : IsNum w b l) {R : Nat → Prop} (hk : Keeps R w w') (hb : R b) : IsNum w' b l := (hk.keep b hb).trans h
theorem IsNum.lt {w : World} {b : Nat} {l : List (Nat × Nat)} (h : IsNum w b l) : b < w.heap.size := (Array.getElem?_eq_some_iff.1 h).1
theorem IsNum.below {w w' : World} {b : Nat} {l : List (Nat × Nat)} (h : IsNum w b l) (hk : Below w.heap.size w w') : IsNum w' b l := (hk.block b h.lt).trans h

theorem Tryz.rowPair : (93 : TypeId) < Tryz.prog.types.size := of_decide_eq_true (by kernel_rfl)
theorem Tryz.widePair : (match Tryz.prog.underlying 93 with | some (.array _ _) | some (.struct _) => true | _ => false) = true := by kernel_rfl
set_option maxRecDepth 100000 in
theorem Tryz.keyedPair : Keyed Tryz.prog 93 := Keyed.of_law (deep_law_laid Tryz.laidOut (m := 2) (by omega) Tryz.rowPair (by kernel_rfl) Tryz.widePair)
theorem Tryz.keyTypePair : Tryz.prog.keyType 93 = true := by kernel_rfl
theorem Tryz.cellsPair : Tryz.prog.cellsOf 93 = 2 := by kernel_rfl
theorem Tryz.cellsInt : Tryz.prog.cellsOf 3 = 1 := by kernel_rfl
theorem Tryz.typesTwo : ∃ n, Tryz.prog.types.size = n + 1 := ⟨Tryz.prog.types.size - 1, by have := of_decide_eq_true (show decide (0 < Tryz.prog.types.size) = true by kernel_rfl); omega⟩
theorem keyInt (n : Nat) (x : Nat) (hx : x ≤ 4000) : Tryz.prog.keyLits (n + 1) 3 [.int .i64 x] = some [.int .i64 x] := by
  unfold Program.keyLits
  rw [Tryz.underlying3]
  have : (Lit.int .i64 (x : Int)).wf = true := WalkArith.wf_i64 (by omega)
  simp [this]
theorem keyPair (p : Nat × Nat) (h1 : p.1 ≤ 4000) (h2 : p.2 ≤ 4000) : ∃ l, keyOf Tryz.prog 93 (pairV p) = some l := by
  obtain ⟨n, hn⟩ := Tryz.typesTwo
  have hf : (pairV p).formed Tryz.prog 93 = true := by simp [pairV, Value.formed, Tryz.underlying93, Tryz.cellsPair]
  unfold keyOf
  rw [Tryz.underlying93]
  simp only [Tryz.keyTypePair, hf, Bool.and_self, if_true]
  have hk : ∃ ls, Tryz.prog.keyLits (Tryz.prog.types.size + 1) 93 (pairV p).cells.toList = some ls := by
    rw [hn]
    unfold Program.keyLits
    rw [Tryz.underlying93]
    simp [pairV, Value.cells, Tryz.cellsPair, Tryz.cellsInt, keyInt, h1, h2]
  obtain ⟨ls, h⟩ := hk
  rw [h]
  exact ⟨_, rfl⟩
theorem entKeys {l : List (Nat × Nat)} (hl : ∀ p ∈ l, p.1 ≤ 4000 ∧ p.2 ≤ 4000) : ∀ e ∈ entOf 0 l, ∃ k, keyOf Tryz.prog 93 e.key = some k := fun e he => by
  obtain ⟨i, hi⟩ := List.mem_iff_getElem?.1 he
  rw [entOf_get] at hi
  obtain ⟨p, hp, rfl⟩ := Option.map_eq_some_iff.1 hi
  exact keyPair p (hl p (List.mem_of_getElem? hp)).1 (hl p (List.mem_of_getElem? hp)).2
/-- Where a pair stands. -/
def ixOf (l : List (Nat × Nat)) (q : Nat × Nat) : Nat := @List.idxOf _ instBEqOfDecidableEq q l
theorem idxOf_getG {α : Type} [DecidableEq α] {l : List α} (hn : l.Nodup) {i : Nat} {q : α} (h : l[i]? = some q) : l.idxOf q = i := by
  obtain ⟨h1, h2⟩ := List.getElem?_eq_some_iff.1 h
  subst h2
  exact List.Nodup.idxOf_getElem hn i h1
theorem idxOf_get {l : List (Nat × Nat)} (hn : l.Nodup) {i : Nat} {q : Nat × Nat} (h : l[i]? = some q) : ixOf l q = i := idxOf_getG hn h
/-- 'number[q]'. -/
theorem num_look {w : World} {b : Nat} {l : List (Nat × Nat)} (h : IsNum w b l) (hn : l.Nodup) (hl : ∀ p ∈ l, p.1 ≤ 4000 ∧ p.2 ≤ 4000) (q : Nat × Nat) (h1 : q.1 ≤ 4000) (h2 : q.2 ≤ 4000) :
    (q ∉ l ∧ (Instr.lookup 94 (.map (some b)) (pairV q) true).run Tryz.prog w = .ok (.tuple #[.int .i64 0, .bool false]) w) ∨
    (q ∈ l ∧ (Instr.lookup 94 (.map (some b)) (pairV q) true).run Tryz.prog w = .ok (.tuple #[.int .i64 (ixOf l q), .bool true]) w) := by
  have K := Tryz.keyedPair
  obtain ⟨kl, hk⟩ := keyPair q h1 h2
  have hz : (zeroValue 3).run Tryz.prog w = .ok (.int .i64 0) w := by kernel_rfl
  have hb : w.heap[b]? = some (.map (entOf 0 l).toArray l.length) := h
  rcases K.find w hk (entOf 0 l) (entKeys hl) with ⟨f1, f2⟩ | ⟨j, e0, f1, f2, f3⟩
  · refine .inl ⟨fun hm => ?_, ?_⟩
    · obtain ⟨i, hi⟩ := List.mem_iff_getElem?.1 hm
      have := entOf_get l 0 i
      rw [hi] at this
      exact f2 _ (List.mem_of_getElem? this) rfl
    · simp [Instr.lookup, run_underlying Tryz.underlying94, MapKept.run_getObj_map hb, K.check w _ hk, f1, hz, Result.andThen]
  · rw [entOf_get] at f2
    obtain ⟨p, hp, rfl⟩ := Option.map_eq_some_iff.1 f2
    have e : p = q := pairV_inj f3
    subst e
    refine .inr ⟨List.mem_of_getElem? hp, ?_⟩
    rw [idxOf_get hn hp]
    simp [Instr.lookup, run_underlying Tryz.underlying94, MapKept.run_getObj_map hb, K.check w _ hk, f1, Result.andThen]
/-- 'number[q] = s', q new. -/
theorem num_put {w : World} {b : Nat} {l : List (Nat × Nat)} (h : IsNum w b l) (hl : ∀ p ∈ l, p.1 ≤ 4000 ∧ p.2 ≤ 4000) (q : Nat × Nat) (h1 : q.1 ≤ 4000) (h2 : q.2 ≤ 4000) (hq : q ∉ l) :
    ∃ w', (Instr.mapUpdate 94 (.map (some b)) (pairV q) (.int .i64 l.length)).run Tryz.prog w = .ok () w' ∧ IsNum w' b (l ++ [q]) ∧ Keeps (· ≠ b) w w' ∧ w'.heap.size = w.heap.size := by
  have K := Tryz.keyedPair
  obtain ⟨kl, hk⟩ := keyPair q h1 h2
  have hb : w.heap[b]? = some (.map (entOf 0 l).toArray l.length) := h
  rcases K.find w hk (entOf 0 l) (entKeys hl) with ⟨f1, f2⟩ | ⟨j, e0, f1, f2, f3⟩
  · refine ⟨setBlock w b (.map (entOf 0 (l ++ [q])).toArray (l ++ [q]).length), ?_, heap_setBlock_same hb _, ⟨rfl, rfl, rfl, by simp [setBlock], fun i hi => by show (w.heap.setIfInBounds b _)[i]? = _; exact Array.getElem?_setIfInBounds_ne (Ne.symm hi)⟩, by simp [setBlock]⟩
    rw [entOf_append]
    simp [Instr.mapUpdate, run_underlying Tryz.underlying94, MapKept.run_getObj_map hb, K.check w false hk, f1, MapKept.run_setObj_map _ hb, Result.andThen, setBlock]
  · rw [entOf_get] at f2
    obtain ⟨p, hp, rfl⟩ := Option.map_eq_some_iff.1 f2
    have e : p = q := pairV_inj f3
    subst e
    exact absurd (List.mem_of_getElem? hp) hq
end Go.Proofs.YtiegfnmpknmbmaaGreat
namespace Go.Proofs.YtiegfnmpknmbmaaGreat.Ap3
open Go Go.RowKit Go.Proofs.YtiegfnmpknmbmaaGreat

/-- A row onto which the region appends, and what. -/
structure App where
  e : TypeId
  size : Nat
  v : Value
  n : Nat
  xs : List Value
  m : Nat
  lo : Nat
  ok : List Value → World → Prop
  st : ∀ ns A B, Keeps (fun x => lo ≤ x ∧ x < A.heap.size) A B → ok ns A → ok ns B
def After (base : Nat) (w0 : World) (p : App) (W : World) (v : Value) : Prop :=
  (∃ ns, W.ownsRow base p.e p.size v (p.n + p.m) (p.xs ++ ns) ∧ p.ok ns W) ∧ (v.ownBlock = p.v.ownBlock ∨ ∀ x, v.ownBlock = some x → w0.heap.size ≤ x)
structure MoveA (base : Nat) (w0 : World) (PL : List App) (A B : World) : Prop where
  keeps : Keeps (fun x => x < A.heap.size ∧ ¬ ∃ p ∈ PL, p.v.ownBlock = some x) A B
  old : ∀ p ∈ PL, A.ownsRow base p.e p.size p.v p.n p.xs → B.ownsRow base p.e p.size p.v p.n p.xs
  new : ∀ p ∈ PL, ∀ v, After base w0 p A v → After base w0 p B v
section
variable {base : Nat} {w0 : World} {PL : List App} {A B C : World}
theorem MoveA.trans (h : MoveA base w0 PL A B) (k : MoveA base w0 PL B C) : MoveA base w0 PL A C :=
  ⟨h.keeps.trans k.keeps fun _ hx => ⟨Nat.lt_of_lt_of_le hx.1 h.keeps.size, hx.2⟩, fun p hp ho => k.old p hp (h.old p hp ho), fun p hp v hv => k.new p hp v (h.new p hp v hv)⟩
theorem MoveA.below (h : Below A.heap.size A B) : MoveA base w0 PL A B :=
  ⟨Keeps.of_below h fun _ hx => hx.1, fun _ _ ho => ownsRow_keepsA ho h, fun p _ _ ⟨⟨ns, h1, h2⟩, h3⟩ => ⟨⟨ns, ownsRow_keepsA h1 h, p.st ns _ _ (Keeps.of_below h fun _ hx => hx.2) h2⟩, h3⟩⟩
where
  ownsRow_keepsA {W W' : World} {b : Nat} {e : TypeId} {size : Nat} {v : Value} {n : Nat} {xs : List Value} (h : W.ownsRow b e size v n xs) (hk : Below W.heap.size W W') : W'.ownsRow b e size v n xs :=
    ownsRow_keeps h (Keeps.of_below hk (R := (· < W.heap.size)) fun _ h => h) fun k e => (h.lt k e).2
theorem MoveA.drew : MoveA base w0 PL A A.drew := .below (Ext.refl A).drew.below
theorem MoveA.size (h : MoveA base w0 PL A B) : A.heap.size ≤ B.heap.size := h.keeps.size
/-- No two of the rows lie in one block. -/
def AppOk (w0 : World) (PL : List App) : Prop := (∀ p ∈ PL, w0.heap.size ≤ p.lo) ∧ (∀ p ∈ PL, ∀ x, p.v.ownBlock = some x → x < w0.heap.size) ∧ ∀ (i j : Nat) (p q : App), PL[i]? = some p → PL[j]? = some q → i ≠ j → p.v.ownBlock = none ∨ p.v.ownBlock ≠ q.v.ownBlock
theorem MoveA.room (ok : AppOk w0 PL) {i : Nat} {p : App} (hi : PL[i]? = some p) {g cap : Nat} {cur : Array Value} (hv : p.v = .slice (some ⟨g, 0, none⟩) p.n cap) (ho : A.ownsRow base p.e p.size p.v p.n p.xs) (hg : A.heap[g]? = some (.cells cur p.e (0, 0)))
    (news : List Value) (hok : p.ok news A) (hl : news.length = p.m * p.size) (hcs : cur.size = cap * p.size) (hroom : p.n + p.m ≤ cap) : MoveA base w0 PL A (A.setRow g (cur.toList.take (p.n * p.size) ++ news ++ cur.toList.drop (p.n * p.size + news.length)).toArray) := by
  have hpm := List.mem_of_getElem? hi
  have hpg : p.v.ownBlock = some g := by rw [hv]; rfl
  have hgw : g < w0.heap.size := ok.2.1 p hpm g hpg
  have hkg : ∀ c, Keeps (· ≠ g) A (A.setRow g c) := fun c => (Keeps.refl _ _).setRow (fun h => h rfl) c
  have hfit : p.n * p.size + news.length ≤ cur.size := by rw [hl, hcs, ← Nat.add_mul]; exact Nat.mul_le_mul_right _ hroom
  have htk : cur.toList.take (p.n * p.size) = p.xs := by
    rcases ho.2 with ⟨h, _⟩ | ⟨g', cap', cur', h, _, hg', _, _, _, ht⟩
    · rw [hv] at h; cases h
    · rw [hv] at h
      cases h
      rw [hg] at hg'
      cases hg'
      exact ht
  have hlx : p.xs.length = p.n * p.size := ho.1
  generalize hc : (cur.toList.take (p.n * p.size) ++ news ++ cur.toList.drop (p.n * p.size + news.length)).toArray = c
  have hcl : c.toList = p.xs ++ news ++ cur.toList.drop (p.n * p.size + news.length) := by rw [← hc, htk]
  have hcz : c.size = cur.size := by
    rw [← Array.length_toList, hcl, List.length_append, List.length_append, List.length_drop, show cur.toList.length = cur.size from Array.length_toList]; omega
  have kst : ∀ q ∈ PL, ∀ ns, q.ok ns A → q.ok ns (A.setRow g c) := fun q hq ns => q.st ns _ _ ((hkg c).mono fun x hx e => by have := ok.1 q hq; have := hx.1; omega)
  have hgc : (A.setRow g c).heap[g]? = some (.cells c p.e (0, 0)) := setRow_heap A g cur c p.e _ hg
  have far : ∀ {e : TypeId} {size : Nat} {v : Value} {n : Nat} {xs : List Value}, A.ownsRow base e size v n xs → v.ownBlock ≠ some g → (A.setRow g c).ownsRow base e size v n xs := fun h hne =>
    ownsRow_keeps h (hkg c) fun k e e' => hne (by rw [e, e'])
  have near : ∀ {k cap' : Nat} {xs : List Value}, A.ownsRow base p.e p.size (.slice (some ⟨g, 0, none⟩) k cap') k xs → c.toList.take (k * p.size) = xs → (A.setRow g c).ownsRow base p.e p.size (.slice (some ⟨g, 0, none⟩) k cap') k xs := fun {k cap' xs} h ht => by
    rcases h.2 with ⟨h', _⟩ | ⟨g', c', cur', h', hb, hg', h1, h2, h3, _⟩
    · cases h'
    · cases h'
      rw [hg] at hg'
      cases hg'
      exact ⟨h.1, .inr ⟨g, cap', c, rfl, hb, hgc, h1, h2, by rw [hcz]; exact h3, ht⟩⟩
  refine ⟨(hkg c).mono fun x hx e => hx.2 ⟨p, hpm, by rw [hpg, e]⟩, fun q hq hqo => ?_, fun q hq v hvq => ?_⟩
  · obtain ⟨j, hj⟩ := List.getElem?_of_mem hq
    by_cases e : j = i
    · subst e
      rw [hi] at hj
      cases hj
      rw [hv] at hqo ⊢
      exact near hqo (by rw [hcl, List.append_assoc, ← hlx]; exact List.take_left)
    · refine far hqo fun h => ?_
      rcases ok.2.2 j i q p hj hi e with h' | h'
      · rw [h'] at h; cases h
      · exact h' (by rw [h, hpg])
  · obtain ⟨j, hj⟩ := List.getElem?_of_mem hq
    obtain ⟨⟨ns, hns, hok2⟩, hv2⟩ := hvq
    refine ⟨?_, hv2⟩
    by_cases e : j = i
    · subst e
      rw [hi] at hj
      cases hj
      by_cases eb : v.ownBlock = some g
      · rcases hns.2 with ⟨h', _⟩ | ⟨g', c', cur', h', _⟩
        · rw [h'] at eb; cases eb
        · subst h'
          have : g' = g := by simpa [Value.ownBlock] using eb
          subst this
          refine ⟨news, ?_, kst p hpm news hok⟩
          have hl2 : (p.xs ++ ns).length = (p.n + p.m) * p.size := hns.1
          rcases hns.2 with ⟨h9, _⟩ | ⟨g9, c9, cur9, h9, hb9, hg9, i1, i2, i3, _⟩
          · cases h9
          · cases h9
            rw [hg] at hg9
            cases hg9
            refine ⟨by rw [List.length_append, hl, hlx, Nat.add_mul], .inr ⟨_, _, c, rfl, hb9, hgc, i1, i2, by rw [hcz]; exact i3, ?_⟩⟩
            rw [hcl, Nat.add_mul, ← hlx, ← hl, ← List.length_append]
            exact List.take_left
      · exact ⟨ns, far hns eb, kst p hpm ns hok2⟩
    · refine ⟨ns, far hns fun h => ?_, kst q hq ns hok2⟩
      rcases hv2 with h2 | h2
      · rcases ok.2.2 j i q p hj hi e with h' | h'
        · rw [h2, h'] at h; cases h
        · exact h' (by rw [← h2, h, hpg])
      · have := h2 g h; omega
theorem effT_appendA {P : Program} {Cl : FuncId → Array Value → World → (Ending → World → Prop) → Prop} {Rd : Nat → FuncId → Array Value → Code → Code → World → (Ending → World → Prop) → Prop} {o : Oper} {a : Act} {W : World} {post : Value → World → Prop} (s x : Operand) (t : TypeId)
    (ho : o.op = .call { callee := .builtin .append, args := #[s, x], argTypes := #[t, t] })
    (i : TypeInfo) (z : Value) (bytes : Nat) {p : App} (ht : P.underlying t = some (.slice p.e)) (hi : P.info? p.e = some i) (hz : i.zero = some z)
    (hsize : i.size = p.size) (hby : i.bytes = bytes) (hzs : z.cells.size = p.size) (hsz : 0 < p.size) (ok : AppOk w0 PL) {k : Nat} (hk : PL[k]? = some p)
    (hs : a.eval s = p.v) (hown : W.ownsRow base p.e p.size p.v p.n p.xs) (ad : Addr) (c : Nat) (hx : a.eval x = .slice (some ad) p.m c) (news : List Value) (hok : p.ok news W) (hl : news.length = p.m * p.size) (hnews : ∀ j u, news[j]? = some u → W.cell? (ad.add j) = some u) (h1 : ∀ u ∈ news, u.oneCell' = true)
    (h63 : p.n + p.m ≤ maxLen) (hbytes : (p.n + p.m) * bytes ≤ 140737488355328) (hbase : base ≤ W.heap.size) (hm : 0 < p.m) (hw0 : w0.heap.size ≤ W.heap.size)
    (h : ∀ v W', MoveA base w0 PL W W' → (∃ a c, v = .slice a (p.n + p.m) c) → After base w0 p W' v → (v.ownBlock = p.v.ownBlock ∨ v.ownBlock = some W.heap.size) → post v W') :
    effT Cl Rd post ((execOp a.eval o).run P W) := by
  obtain ⟨v', w', hr, h2, h3⟩ := run_append_str (P := P) W base t o.type p.e i z p.size bytes ht hi hz hsize hby hzs hsz p.v p.n p.xs hown ad p.m c news hl hnews h1 h63 hbytes hbase hm
  unfold execOp
  simp only [ho, resolve, invoke, builtin, Sem.run_bind, Sem.run_pure, Result.andThen_ok, List.map_toArray, List.map_cons, List.map_nil, hs, hx, hr]
  show post v' w'
  have hmv : MoveA base w0 PL W w' := by
    rcases h3 with ⟨g, cap, cur, e1, e2, e3, e4, e5, rfl⟩ | ⟨hb, _⟩
    · exact MoveA.room ok hk e1 hown e2 news hok hl e3 e4
    · exact .below hb
  refine h v' w' hmv (ownsRow_form h2) ⟨⟨news, h2, p.st news _ _ (hmv.keeps.mono fun x hx => ⟨hx.2, fun ⟨q, hq, hqb⟩ => ?_⟩) hok⟩, ?_⟩ ?_
  · have h5 := ok.2.1 q hq x hqb
    have h6 := ok.1 p (List.mem_of_getElem? hk)
    have := hx.1
    omega
  · rcases h3 with ⟨g, cap, cur, e1, e2, e3, e4, e5, rfl⟩ | ⟨hb, e⟩
    · left; rw [e5, e1]; rfl
    · right; intro y hy; rw [e] at hy; cases hy; exact hw0
  · rcases h3 with ⟨g, cap, cur, e1, e2, e3, e4, e5, rfl⟩ | ⟨hb, e⟩
    · left; rw [e5, e1]; rfl
    · right; exact e
end

open Go.Proofs.YtiegfnmpknmbmaaGreat.RegG (Eff)
/-- An append, as what it leaves. -/
def EffA.app (base : Nat) (w0 : World) (PL : List App) (p : App) (hp : p ∈ PL) : RegG.Eff (MoveA base w0 PL) where
  P := fun v => ∃ a c, v = .slice a (p.n + p.m) c
  H := fun _ v W => After base w0 p W v
  wit := .slice none (p.n + p.m) 0
  pw := ⟨none, 0, rfl⟩
  st := fun _ v _ _ hm _ h => hm.new p hp v h
/-- .. that lies elsewhere than another one, or where it was. -/
def EffA.appFar (base : Nat) (w0 : World) (PL : List App) (p : App) (hp : p ∈ PL) : RegG.Eff (MoveA base w0 PL) where
  P := fun v => ∃ a c, v = .slice a (p.n + p.m) c
  H := fun y v W => After base w0 p W v ∧ (v.ownBlock = p.v.ownBlock ∨ Far v y)
  wit := .slice none (p.n + p.m) 0
  pw := ⟨none, 0, rfl⟩
  st := fun _ v _ _ hm _ h => ⟨hm.new p hp v h.1, h.2⟩
/-- A new box with known cells. -/
def EffA.boxA (base : Nat) (w0 : World) (PL : List App) (n : Nat) (cs : Array Value) (t : TypeId) : RegG.Eff (MoveA base w0 PL) where
  P := fun v => ∃ b, v = .slice (some ⟨b, 0, none⟩) n n
  H := fun _ v W => ∀ b, v = .slice (some ⟨b, 0, none⟩) n n → (Blk W b cs t ∧ ¬ ∃ p ∈ PL, p.v.ownBlock = some b)
  wit := .slice (some ⟨0, 0, none⟩) n n
  pw := ⟨_, rfl⟩
  st := fun _ _ _ _ hm _ h b e => ⟨(h b e).1.keeps hm.keeps ⟨(h b e).1.lt, (h b e).2⟩, (h b e).2⟩
/-- A box with one head of a row of numbers, of which something is kept. -/
def EffA.boxH (base : Nat) (w0 : World) (PL : List App) (t : TypeId) (H : World → Value → Prop) (hH : ∀ W W' u, MoveA base w0 PL W W' → H W u → H W' u) : RegG.Eff (MoveA base w0 PL) where
  P := fun v => ∃ b, v = .slice (some ⟨b, 0, none⟩) 1 1
  H := fun _ v W => ∀ b, v = .slice (some ⟨b, 0, none⟩) 1 1 → (∃ u, Blk W b #[u] t ∧ H W u) ∧ ¬ ∃ p ∈ PL, p.v.ownBlock = some b
  wit := .slice (some ⟨0, 0, none⟩) 1 1
  pw := ⟨_, rfl⟩
  st := fun _ _ _ _ hm _ h b e => by
    obtain ⟨⟨u, h1, h2⟩, h3⟩ := h b e
    exact ⟨⟨u, h1.keeps hm.keeps ⟨h1.lt, h3⟩, hH _ _ u hm h2⟩, h3⟩
/-- A new row, to be kept. -/
def EffA.row (base : Nat) (w0 : World) (PL : List App) (ok : AppOk w0 PL) (lo : Nat) (hlo : w0.heap.size ≤ lo) (e : TypeId) (size n : Nat) (xs : List Value) : RegG.Eff (MoveA base w0 PL) where
  P := fun v => ∃ a c, v = .slice a n c
  H := fun _ v W => W.ownsRow lo e size v n xs
  wit := .slice none n 0
  pw := ⟨none, 0, rfl⟩
  st := fun A v _ B hm _ h => ownsRow_keeps h hm.keeps fun x hx => ⟨(h.lt x hx).2, fun ⟨q, hq, hqb⟩ => by have h5 := ok.2.1 q hq x hqb; have := (h.lt x hx).1; omega⟩
theorem AppOk.fresh {w0 : World} {PL : List App} (ok : AppOk w0 PL) {b : Nat} (h : w0.heap.size ≤ b) : ¬ ∃ p ∈ PL, p.v.ownBlock = some b := fun ⟨p, hp, e⟩ => by
  have := ok.2.1 p hp b e; omega
end Go.Proofs.YtiegfnmpknmbmaaGreat.Ap3
namespace Go.Proofs.YtiegfnmpknmbmaaGreat
open Go Go.RowKit Go.Shelf Go.Maps
attribute [local go_sem] encS

def dfZ : DF := ⟨[], [], []⟩
/-- P19.1: what Of answers. -/
def prodE (a b : DF) (op fuel : Int) : DF × Int :=
  if (a.right && b.right) = false then (dfZ, 182) else if op < 1 ∨ 4 < op then (dfZ, 190) else if fuel < 0 ∨ 4000 < fuel then (dfZ, 2) else if fuel = 0 then (dfZ, 181)
  else match prodOf a b op fuel.toNat with | some d => (d, 0) | none => (dfZ, 181)
def flatP (l : List (Nat × Nat)) : List Value := l.flatMap fun p => [.int .i64 p.1, .int .i64 p.2]
theorem flatP_append (l : List (Nat × Nat)) (p : Nat × Nat) : flatP (l ++ [p]) = flatP l ++ [.int .i64 p.1, .int .i64 p.2] := by simp [flatP]
theorem flatP_get : ∀ (l : List (Nat × Nat)) (i : Nat) (p : Nat × Nat), l[i]? = some p → (flatP l)[i * 2]? = some (.int .i64 p.1) ∧ (flatP l)[i * 2 + 1]? = some (.int .i64 p.2)
  | [], _, _, h => by simp at h
  | q :: l, 0, p, h => by
    simp at h; subst h; exact ⟨rfl, rfl⟩
  | q :: l, i + 1, p, h => by
    have := flatP_get l i p (by simpa using h)
    rw [show (i + 1) * 2 = i * 2 + 2 by omega]
    exact ⟨by simpa [flatP] using this.1, by simpa [flatP] using this.2⟩
theorem rowAt2 {w : World} {base n cap : Nat} {ad : Option Addr} {l : List (Nat × Nat)} (h : w.ownsRow base 93 2 (.slice ad n cap) n (flatP l)) {i : Nat} {p : Nat × Nat} (hi : l[i]? = some p) :
    ∃ g, ad = some ⟨g, 0, none⟩ ∧ w.cell? ⟨g, i * 2, none⟩ = some (.int .i64 p.1) ∧ w.cell? ⟨g, i * 2 + 1, none⟩ = some (.int .i64 p.2) := by
  have hg := flatP_get l i p hi
  rcases h.2 with ⟨_, e⟩ | ⟨g, c, cur, e, _⟩
  · have := h.1
    rw [e] at this
    have hl := (List.getElem?_eq_some_iff.1 hg.1).1
    omega
  · injection e with e1 _ _
    subst e1
    have h1 := h.cells (g := g) rfl _ _ hg.1
    have h2 := h.cells (g := g) rfl _ _ hg.2
    refine ⟨g, rfl, ?_, ?_⟩
    · rw [Addr.add_mid] at h1; simpa using h1
    · rw [Addr.add_mid] at h2; simpa using h2
theorem Tryz.infoP : (Tryz.prog.info? 93).map (fun i => (i.zero, i.size, i.bytes)) = some (some (.agg #[.int .i64 0, .int .i64 0]), 2, 16) := by kernel_rfl
theorem dfZ_own (base : Nat) (w : World) : OwnDf base w (.agg #[.slice none 0 0, .slice none 0 0, .slice none 0 0]) dfZ := ⟨_, _, _, rfl, World.ownsRow_nil _ _ _ _, OwnLL.nil _ _, OwnLL.nil _ _⟩
/-- The measure of a round that is told by the length of a slice in a box. -/
def lenAt (w : World) (a : Addr) : Nat := match w.cell? a with | some (.slice _ n _) => n | _ => 0
theorem lenAt_eq {w : World} {a : Addr} {s : Option Addr} {n c : Nat} (h : w.cell? a = some (.slice s n c)) : lenAt w a = n := by unfold lenAt; rw [h]
/-- Rows of other cells stay. -/
theorem OwnLL.keepsT {base bm b2 m : Nat} {w w' : World} {v tv : Value} {ll : List (List Int)} {xs : List Value} (h : OwnLL base w v ll) (ht : w.ownsRow b2 93 2 tv m xs) (hk : Keeps (fun x => x < w.heap.size ∧ x ≠ bm ∧ tv.ownBlock ≠ some x) w w') (hbm : bm < base) : OwnLL base w' v ll := by
  obtain ⟨us, h1, h2, h3⟩ := h
  have key : ∀ {e : TypeId} {s n : Nat} {u : Value} {ys : List Value}, e ≠ 93 → w.ownsRow base e s u n ys → w'.ownsRow base e s u n ys := fun {e s n u ys} he ho =>
    ownsRow_keeps ho hk fun x hx => ⟨(ho.lt x hx).2, by have := (ho.lt x hx).1; omega, fun e2 => by
      rcases ownBlock_ne he ho ht with h5 | h5
      · rw [h5] at hx; cases hx
      · exact h5 (by rw [hx, e2])⟩
  exact ⟨us, h1, key (by decide) h2, fun i u l hu hl => key (by decide) (h3 i u l hu hl)⟩
section
variable {α : Type} [DecidableEq α]
theorem addQ_new {fuel : Nat} {st : List α × List Nat} {q : α} (hq : q ∉ st.1) (hf : st.1.length ≠ fuel) : addQ fuel st q = some (st.1 ++ [q], st.2 ++ [st.1.length]) := by
  unfold addQ
  rw [if_pos (List.idxOf_eq_length hq), if_neg hf]
theorem addQ_full {fuel : Nat} {st : List α × List Nat} {q : α} (hq : q ∉ st.1) (hf : st.1.length = fuel) : addQ fuel st q = none := by
  unfold addQ
  rw [if_pos (List.idxOf_eq_length hq), if_pos hf]
theorem addQ_old {fuel : Nat} {st : List α × List Nat} {q : α} (hq : q ∈ st.1) : addQ fuel st q = some (st.1, st.2 ++ [st.1.idxOf q]) := by
  unfold addQ
  rw [if_neg (Nat.ne_of_lt (List.idxOf_lt_length_of_mem hq))]
end
end Go.Proofs.YtiegfnmpknmbmaaGreat
