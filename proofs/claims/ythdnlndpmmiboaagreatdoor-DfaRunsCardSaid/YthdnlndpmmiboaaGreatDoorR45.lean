/-
  The drawn region in which marks are compacted and laid behind the others: its relation and its effects.
  Plain facts on (*maker).make: the states by the least bytes, and one row of the table more.
-/
import Derived.Test.YthdnlndpmmiboaaGreatDoorR43
import Derived.Test.YthdnlndpmmiboaaGreatDoorR44
import Derived.Test.YthdnlndpmmiboaaGreatDoorR41
namespace Go.Proofs.YthdnlndpmmiboaaGreatDoor
open Go Go.RowKit Go.Shelf Go.Maps

/-- What the operations of the region keep: old blocks, but that of the row kv; that row's first n; what was compacted (cu); the box with its head; the row with one more. -/
structure MvC (n9 base n cn : Nat) (kv cu : Value) (ks cx : List Value) (A B : World) : Prop where
  keep : Keeps (fun x => x < n9 ∧ x < A.heap.size ∧ kv.ownBlock ≠ some x) A B
  old : A.ownsRow base 33 1 kv n ks → B.ownsRow base 33 1 kv n ks
  com : A.ownsRow n9 3 1 cu cn cx → B.ownsRow n9 3 1 cu cn cx
  box : ∀ b, n9 ≤ b → Blk A b #[cu] 33 → Blk B b #[cu] 33
  new : ∀ v, A.ownsRow base 33 1 v (n + 1) (ks ++ [cu]) → B.ownsRow base 33 1 v (n + 1) (ks ++ [cu])
section
variable {n9 base n cn : Nat} {kv cu : Value} {ks cx : List Value} {A B C : World}
theorem MvC.trans (h : MvC n9 base n cn kv cu ks cx A B) (k : MvC n9 base n cn kv cu ks cx B C) : MvC n9 base n cn kv cu ks cx A C :=
  ⟨h.keep.trans k.keep fun _ hx => ⟨hx.1, Nat.lt_of_lt_of_le hx.2.1 h.keep.size, hx.2.2⟩, fun a => k.old (h.old a), fun a => k.com (h.com a), fun b hb a => k.box b hb (h.box b hb a), fun v a => k.new v (h.new v a)⟩
theorem MvC.below (h : Below A.heap.size A B) : MvC n9 base n cn kv cu ks cx A B :=
  ⟨Keeps.of_below h fun _ hx => hx.2.1, fun a => ownsRow_below a h, fun a => ownsRow_below a h, fun _ _ a => a.below h a.lt, fun _ a => ownsRow_below a h⟩
theorem MvC.drew : MvC n9 base n cn kv cu ks cx A A.drew := .below (Ext.refl A).drew.below
theorem MvC.size (h : MvC n9 base n cn kv cu ks cx A B) : A.heap.size ≤ B.heap.size := h.keep.size
/-- The call of Compact. -/
theorem MvC.compact {am : Nat} {mv : Value} {l : List Int} (ho : A.ownsRow n9 3 1 mv am (l.map encZ)) (hb : Keeps (fun x => x < A.heap.size ∧ mv.ownBlock ≠ some x) A B) (hc : B.ownsRow n9 3 1 cu cn cx) : MvC n9 base n cn kv cu ks cx A B where
  keep := hb.mono fun x hx => ⟨hx.2.1, fun e => by have := (ho.lt x e).1; omega⟩
  old := fun a => ownsRow_keeps a hb fun x hx => ⟨(a.lt x hx).2, fun e => by
    rcases ownBlock_ne (by decide) a ho with h | h
    · rw [h] at hx; cases hx
    · exact h (by rw [hx, e])⟩
  com := fun _ => hc
  box := fun b _ a => a.keeps hb ⟨a.lt, fun e => row_ne a ho (by decide) b e rfl⟩
  new := fun v a => ownsRow_keeps a hb fun x hx => ⟨(a.lt x hx).2, fun e => by
    rcases ownBlock_ne (by decide) a ho with h | h
    · rw [h] at hx; cases hx
    · exact h (by rw [hx, e])⟩
/-- The append. -/
theorem MvC.append {v : Value} (hk : A.ownsRow base 33 1 kv n ks) (hkv : ∀ x, kv.ownBlock = some x → x < n9) (ho : B.ownsRow base 33 1 v (n + 1) (ks ++ [cu])) (hg : A.grownBy B kv.ownBlock)
    (hor : Below A.heap.size A B ∨ ∃ g cap, kv = .slice (some ⟨g, 0, none⟩) n cap ∧ v = .slice (some ⟨g, 0, none⟩) (n + 1) cap ∧ n + 1 ≤ cap) : MvC n9 base n cn kv cu ks cx A B := by
  rcases hor with h | ⟨g, cap, e1, e2, _⟩
  · exact .below h
  · have hkx : ks.length = n * 1 := hk.1
    refine ⟨Keeps.of_grown hg fun x hx => ⟨hx.2.1, fun e => hx.2.2 e.symm⟩, fun _ => ?_, fun a => a.kept hg ?_, fun b hb a => a.grown hg fun e => ?_, fun v' a => ?_⟩
    · rw [e1]; rw [e2] at ho; exact ownsRow_prefix hkx ho
    · exact ownBlock_ne (by decide) a hk
    · have := hkv b e.symm; omega
    · by_cases eb : v'.ownBlock = some g
      · obtain ⟨c1, f1, f2, _, _⟩ := ownsRow_same (by decide) a hk eb (by rw [e1]; rfl)
        rw [e1] at f2
        cases f2
        rw [f1]
        rw [e2] at ho
        exact ho
      · refine a.kept hg (.inr fun e => eb ?_)
        rw [e, e1]; rfl
end
def EffC.com (n9 base n cn : Nat) (kv cu : Value) (ks cx : List Value) : Eff (MvC n9 base n cn kv cu ks cx) := ⟨fun v => v = cu, fun _ W => W.ownsRow n9 3 1 cu cn cx, cu, rfl, fun _ _ _ hm _ h => hm.com h⟩
def EffC.box (n9 base n cn : Nat) (kv cu : Value) (ks cx : List Value) : Eff (MvC n9 base n cn kv cu ks cx) where
  P := fun v => ∃ b, n9 ≤ b ∧ v = .slice (some ⟨b, 0, none⟩) 1 1
  H := fun v W => ∀ b, v = .slice (some ⟨b, 0, none⟩) 1 1 → Blk W b #[cu] 33
  wit := .slice (some ⟨n9, 0, none⟩) 1 1
  pw := ⟨n9, Nat.le_refl _, rfl⟩
  st := fun v _ _ hm ⟨b, hb, e⟩ h b' e' => by
    rw [e] at e'
    cases e'
    exact hm.box _ hb (h _ e)
def EffC.new (n9 base n cn : Nat) (kv cu : Value) (ks cx : List Value) : Eff (MvC n9 base n cn kv cu ks cx) where
  P := fun v => ∃ a c, v = .slice a (n + 1) c
  H := fun v W => W.ownsRow base 33 1 v (n + 1) (ks ++ [cu]) ∧ (v.ownBlock = kv.ownBlock ∨ ∀ x, v.ownBlock = some x → n9 ≤ x)
  wit := .slice none (n + 1) 0
  pw := ⟨none, 0, rfl⟩
  st := fun v _ _ hm _ h => ⟨hm.new v h.1, h.2⟩
/-- What Compact gives is known. -/
theorem compact_value {am : Nat} {ma : Option Addr} {mc : Nat} {l : List Int} {u : Value} (hl : l.length = am)
    (h : ((Value.slice ma am mc) = .slice none 0 0 ∧ u = .slice none 0 0) ∨ ∃ g cap, (Value.slice ma am mc) = .slice (some ⟨g, 0, none⟩) am cap ∧ u = .slice (some ⟨g, 0, none⟩) (Lib.compact l).length cap) : u = .slice ma (Lib.compact l).length mc := by
  rcases h with ⟨e, rfl⟩ | ⟨g, cap, e, rfl⟩
  · cases e
    have hn : l = [] := List.eq_nil_of_length_eq_zero hl
    subst hn
    rfl
  · cases e
    rfl
theorem effT_appendL {P : Program} {Cl : FuncId → Array Value → World → (Ending → World → Prop) → Prop} {Rd : Nat → FuncId → Array Value → Code → Code → World → (Ending → World → Prop) → Prop} {o : Oper} {a : Act} {W : World} {post : Value → World → Prop} (s x : Operand) (t : TypeId)
    (ho : o.op = .call { callee := .builtin .append, args := #[s, x], argTypes := #[t, t] })
    (base : Nat) (e : TypeId) (i : TypeInfo) (z : Value) (size bytes : Nat) (ht : P.underlying t = some (.slice e)) (hi : P.info? e = some i) (hz : i.zero = some z)
    (hsize : i.size = size) (hby : i.bytes = bytes) (hzs : z.cells.size = size) (hsz : 0 < size)
    (v : Value) (k : Nat) (xs : List Value) (hs : a.eval s = v) (hown : W.ownsRow base e size v k xs)
    (ad : Addr) (m c : Nat) (news : List Value) (hx : a.eval x = .slice (some ad) m c) (hnews : ∀ j u, news[j]? = some u → W.cell? (ad.add j) = some u) (hl : news.length = m * size) (h1 : ∀ u ∈ news, u.oneCell' = true)
    (h63 : k + m ≤ maxLen) (hbytes : (k + m) * bytes ≤ 140737488355328) (hbase : base ≤ W.heap.size) (hm : 0 < m)
    (h : ∀ v' w', w'.ownsRow base e size v' (k + m) (xs ++ news) → W.grownBy w' v.ownBlock → ((Below W.heap.size W w' ∧ v'.ownBlock = some W.heap.size) ∨ ∃ g cap, v = .slice (some ⟨g, 0, none⟩) k cap ∧ v' = .slice (some ⟨g, 0, none⟩) (k + m) cap ∧ k + m ≤ cap) → post v' w') :
    effT Cl Rd post ((execOp a.eval o).run P W) := by
  obtain ⟨v', w', hr, h2, h3⟩ := run_append_str (P := P) W base t o.type e i z size bytes ht hi hz hsize hby hzs hsz v k xs hown ad m c news hl hnews h1 h63 hbytes hbase hm
  obtain ⟨v'', w'', hr', h2', h3'⟩ := run_append_src (P := P) W base t o.type e i z size bytes ht hi hz hsize hby hzs hsz v k xs hown (.slice (some ad) m c) m news (.inr ⟨_, _, rfl, hnews⟩) hl h1 h63 hbytes hbase
  rw [hr] at hr'
  cases hr'
  unfold execOp
  simp only [ho, resolve, invoke, builtin, Sem.run_bind, Sem.run_pure, Result.andThen_ok, List.map_toArray, List.map_cons, List.map_nil, hs, hx, hr]
  refine h v' w' h2 h3' ?_
  rcases h3 with ⟨g, cap, cur, e1, e2, e3, e4, e5, _⟩ | ⟨hb, e⟩
  · exact .inr ⟨g, cap, e1, e5, by first | exact e3 | exact e4⟩
  · exact .inl ⟨hb, e⟩
/-- What is kept while a state is added. -/
theorem keepT {wm wg : World} {ob mb base L : Nat} {rows : List (List (List Int))} {cs : Array Value} {sv kv : Value} {us ks : List Value} (hm : IsMs wm ob rows) (hb : Blk wm mb cs 109) (hs : wm.ownsRow base 27 1 sv L us) (hk : wm.ownsRow base 33 1 kv L ks)
    (K : Keeps (fun x => x < wm.heap.size ∧ x ≠ ob ∧ x ≠ mb ∧ sv.ownBlock ≠ some x ∧ kv.ownBlock ≠ some x) wm wg) {b n : Nat} {e : TypeId} {v : Value} {xs : List Value} (h : wm.ownsRow b e 1 v n xs) (h1 : 109 ≠ e) (h2 : e ≠ 27) (h3 : e ≠ 33 ∨ Far v kv) : wg.ownsRow b e 1 v n xs :=
  ownsRow_keeps h K fun x hx => ⟨(h.lt x hx).2, row_nb h hm (fun c fz e => by cases e) x hx, row_ne hb h h1 x hx, fun e2 => by
    rcases ownBlock_ne h2 h hs with h5 | h5
    · rw [h5] at hx; cases hx
    · exact h5 (by rw [hx, e2]), fun e2 => by
    rcases h3 with h3 | h3
    · rcases ownBlock_ne h3 h hk with h5 | h5
      · rw [h5] at hx; cases hx
      · exact h5 (by rw [hx, e2])
    · rcases h3 with h5 | h5
      · rw [h5] at hx; cases hx
      · exact h5 (by rw [hx, e2])⟩
/-- One state more. -/
theorem Mk.more {F : Nat → Prop} {wm wg : World} {base mb ob f cn L : Nat} {pv cv : Value} {ps : List PT} {rows : List (List (List Int))} {nx : List (List Int)} {sv nv kv sv' kv' lv cu : Value} {us ns ks cx : List Value} {r : List (List Int)}
    (M : Mk F wm base mb ob f pv cv ps rows nx sv nv kv us ns ks) (hL : L = rows.length)
    (K : Keeps (fun x => x < wm.heap.size ∧ x ≠ ob ∧ x ≠ mb ∧ sv.ownBlock ≠ some x ∧ kv.ownBlock ≠ some x) wm wg)
    (hblk : Blk wg mb #[pv, .int .i64 f, sv', .map (some ob), cv, nv, kv'] 109) (hmap : IsMs wg ob (rows ++ [r])) (hst : RowF F wg base 27 sv' (L + 1) (us ++ [lv])) (hlv : LLF F wg base lv r) (hf1 : Far lv nv) (hf2 : Far lv kv')
    (hkr : RowF F wg base 33 kv' (L + 1) (ks ++ [cu])) (hcu : RowF F wg base 3 cu cn cx) (hcn : cn = (marksR ps r).length) (hcx : cx = (marksR ps r).map encZ) (hkf : ∀ v, (∀ x, v.ownBlock = some x → x < wm.heap.size) → Far v kv → Far v kv') : Mk F wg base mb ob f pv cv ps (rows ++ [r]) nx sv' nv kv' (us ++ [lv]) ns (ks ++ [cu]) where
  blk := hblk
  map := hmap
  fm := M.fm
  fo := M.fo
  bm := M.bm
  bo := M.bo
  st := by rw [List.length_append, ← hL]; exact hst
  stI := fun i u q hu hq => by
    have hul : us.length = L := by have := M.st.1.1; omega
    by_cases hi : i < L
    · rw [List.getElem?_append_left (by omega)] at hu hq
      obtain ⟨⟨vs, h1, h2⟩, h3, h4⟩ := M.stI i u q hu hq
      exact ⟨⟨vs, ⟨keepT M.map M.blk M.st.1 M.mkr.1 K h1.1 (by decide) (by decide) (.inr h4), h1.2⟩, fun i u l hu hl => ⟨keepT M.map M.blk M.st.1 M.mkr.1 K (h2 i u l hu hl).1 (by decide) (by decide) (.inl (by decide)), (h2 i u l hu hl).2⟩⟩, h3, hkf u (fun x e => (h1.1.lt x e).2) h4⟩
    · have hil := (List.getElem?_eq_some_iff.1 hu).1
      simp at hil
      obtain rfl : i = L := by omega
      rw [List.getElem?_append_right (by omega), hul, Nat.sub_self] at hu
      rw [List.getElem?_append_right (by omega), ← hL, Nat.sub_self] at hq
      cases hu
      cases hq
      exact ⟨hlv, hf1, hf2⟩
  nxr := ⟨keepT M.map M.blk M.st.1 M.mkr.1 K M.nxr.1 (by decide) (by decide) (.inr M.far), M.nxr.2⟩
  nxI := fun i u l hu hl => ⟨keepT M.map M.blk M.st.1 M.mkr.1 K (M.nxI i u l hu hl).1 (by decide) (by decide) (.inl (by decide)), (M.nxI i u l hu hl).2⟩
  mkr := by rw [List.length_append, ← hL]; exact hkr
  mkI := fun i u l hu hl => by
    have hul : ks.length = L := by have := M.mkr.1.1; omega
    rw [List.map_append] at hl
    by_cases hi : i < L
    · rw [List.getElem?_append_left (by omega)] at hu
      rw [List.getElem?_append_left (by rw [List.length_map]; omega)] at hl
      exact ⟨keepT M.map M.blk M.st.1 M.mkr.1 K (M.mkI i u l hu hl).1 (by decide) (by decide) (.inl (by decide)), (M.mkI i u l hu hl).2⟩
    · have hil := (List.getElem?_eq_some_iff.1 hu).1
      simp at hil
      obtain rfl : i = L := by omega
      rw [List.getElem?_append_right (by omega), hul, Nat.sub_self] at hu
      rw [List.getElem?_append_right (by rw [List.length_map]; omega), List.length_map, ← hL, Nat.sub_self] at hl
      cases hu
      cases hl
      rw [← hcn, ← hcx]
      exact hcu
  far := hkf nv (fun x e => (M.nxr.1.lt x e).2) M.far
end Go.Proofs.YthdnlndpmmiboaaGreatDoor
namespace Go.Proofs.YthdnlndpmmiboaaGreatDoor
open Go Go.RowKit Go.Shelf Go.Maps

def mkG (ps : List PT) (ls : List Nat) (row : List (List Int)) (k : Nat) : List (List Int) := stepR ps row (ls.getD k 0)
def mkSt (ps : List PT) (ls : List Nat) (f : Nat) : Option (List (List (List Int)) × List (List Nat)) :=
  if f = 0 then none else stTo f (mkG ps ls) ls.length (row0 ps) f
theorem addR_in {f : Nat} {rows : List (List (List Int))} {row : List Nat} {q : List (List Int)} (h : q ∈ rows) : addQ f (rows, row) q = some (rows, row ++ [ixR rows q]) := addQ_old (st := (rows, row)) h
theorem addR_new {f : Nat} {rows : List (List (List Int))} {row : List Nat} {q : List (List Int)} (h : q ∉ rows) (hf : rows.length < f) : addQ f (rows, row) q = some (rows ++ [q], row ++ [rows.length]) := addQ_new (st := (rows, row)) h (Nat.ne_of_lt hf)
theorem addR_full {f : Nat} {rows : List (List (List Int))} {row : List Nat} {q : List (List Int)} (h : q ∉ rows) (hf : rows.length = f) : addQ f (rows, row) q = none := addQ_full (st := (rows, row)) h hf
theorem mk_ok {ps : List PT} {ls : List Nat} {f n : Nat} (hf : 1 ≤ f) {st : List (List (List Int)) × List (List Nat)} (h : stTo f (mkG ps ls) ls.length (row0 ps) n = some st) : StOk f ls.length (RowIn ps) (row0 ps) n st :=
  stTo_ok hf (row0_in ps) (fun _ _ hr _ => stepR_in hr _) n h
theorem mk_done {ps : List PT} {ls : List Nat} {f n : Nat} (hf : 1 ≤ f) {st : List (List (List Int)) × List (List Nat)} (h : stTo f (mkG ps ls) ls.length (row0 ps) n = some st) (hn : st.1.length = n) : mkSt ps ls f = some st := by
  unfold mkSt
  rw [if_neg (by omega)]
  exact stTo_end h (by omega) f (by have := (mk_ok hf h).le; omega)
theorem mk_row {ps : List PT} {ls : List Nat} {f n : Nat} {rows : List (List (List Int))} {nxs : List (List Nat)} (h : stTo f (mkG ps ls) ls.length (row0 ps) n = some (rows, nxs)) {p : List (List Int)} (hp : rows[n]? = some p) :
    stTo f (mkG ps ls) ls.length (row0 ps) (n + 1) = (rowTo f (mkG ps ls p) rows ls.length).map fun r => (r.1, nxs ++ [r.2]) := by
  rw [stTo, h]
  show stStep f (mkG ps ls) ls.length n (rows, nxs) = _
  unfold stStep
  simp only [hp]
theorem mk_gone {ps : List PT} {ls : List Nat} {f n k : Nat} (hf : 1 ≤ f) {rows : List (List (List Int))} {nxs : List (List Nat)} (h : stTo f (mkG ps ls) ls.length (row0 ps) n = some (rows, nxs)) {p : List (List Int)} (hp : rows[n]? = some p)
    {rows' : List (List (List Int))} {row' : List Nat} (hr : rowTo f (mkG ps ls p) rows k = some (rows', row')) (hk : k < ls.length) (hq : mkG ps ls p k ∉ rows') (hfl : f ≤ rows'.length) : mkSt ps ls f = none := by
  have I := mk_ok hf h
  have R := rowTo_ok (P := fun _ => True) I.nodup I.le (fun _ _ => trivial) k (fun _ _ => trivial) hr
  have h1 : rowTo f (mkG ps ls p) rows (k + 1) = none := by
    rw [rowTo, hr]
    exact addR_full hq (Nat.le_antisymm R.le hfl)
  have h2 := rowTo_none h1 ls.length (by omega)
  have h3 := mk_row h hp
  rw [h2] at h3
  have hn : n < rows.length := (List.getElem?_eq_some_iff.1 hp).1
  have hle : rows.length ≤ f := I.le
  unfold mkSt
  rw [if_neg (by omega)]
  exact stTo_none h3 f (by omega)
theorem keepN {wm wg : World} {mb base L : Nat} {cs : Array Value} {nv : Value} {ns : List Value} (hb : Blk wm mb cs 109) (hn : wm.ownsRow base 33 1 nv L ns)
    (K : Keeps (fun x => x < wm.heap.size ∧ x ≠ mb ∧ nv.ownBlock ≠ some x) wm wg) {b n : Nat} {e : TypeId} {v : Value} {xs : List Value} (h : wm.ownsRow b e 1 v n xs) (h1 : 109 ≠ e) (h3 : e ≠ 33 ∨ ∀ x, v.ownBlock = some x → nv.ownBlock ≠ some x) : wg.ownsRow b e 1 v n xs :=
  ownsRow_keeps h K fun x hx => ⟨(h.lt x hx).2, row_ne hb h h1 x hx, fun e2 => by
    rcases h3 with h3 | h3
    · rcases ownBlock_ne h3 h hn with h5 | h5
      · rw [h5] at hx; cases hx
      · exact h5 (by rw [hx, e2])
    · exact h3 x hx e2⟩
theorem Far.not {u v : Value} (h : Far u v) : ∀ x, u.ownBlock = some x → v.ownBlock ≠ some x := fun x e e2 => by
  rcases h with h | h
  · rw [h] at e; cases e
  · exact h (by rw [e, e2])
theorem Far.not' {u v : Value} (h : Far u v) : ∀ x, v.ownBlock = some x → u.ownBlock ≠ some x := fun x e e2 => h.not x e2 e
/-- One row of the table more. -/
theorem Mk.next {F : Nat → Prop} {wm wg : World} {base mb ob f L : Nat} {pv cv : Value} {ps : List PT} {rows : List (List (List Int))} {nx : List (List Int)} {sv nv kv nv' xv : Value} {us ns ks : List Value} {l : List Int}
    (M : Mk F wm base mb ob f pv cv ps rows nx sv nv kv us ns ks) (hL : L = nx.length)
    (K : Keeps (fun x => x < wm.heap.size ∧ x ≠ mb ∧ nv.ownBlock ≠ some x) wm wg)
    (hblk : Blk wg mb #[pv, .int .i64 f, sv, .map (some ob), cv, nv', kv] 109) (hnr : RowF F wg base 33 nv' (L + 1) (ns ++ [xv])) (hx : RowF F wg base 3 xv l.length (l.map encZ))
    (hnf : nv'.ownBlock = nv.ownBlock ∨ ∀ x, nv'.ownBlock = some x → wm.heap.size ≤ x) : Mk F wg base mb ob f pv cv ps rows (nx ++ [l]) sv nv' kv us (ns ++ [xv]) ks where
  blk := hblk
  map := M.map.keeps K ⟨M.map.lt, (fun e => by have h2 : wm.heap[mb]? = _ := M.blk; have h3 : wm.heap[ob]? = _ := M.map; rw [e, h2] at h3; cases h3), fun e => row_nb M.nxr.1 M.map (fun c fz e => by cases e) ob e rfl⟩
  fm := M.fm
  fo := M.fo
  bm := M.bm
  bo := M.bo
  st := ⟨keepN M.blk M.nxr.1 K M.st.1 (by decide) (.inl (by decide)), M.st.2⟩
  stI := fun i u q hu hq => by
    obtain ⟨⟨vs, h1, h2⟩, h3, h4⟩ := M.stI i u q hu hq
    exact ⟨⟨vs, ⟨keepN M.blk M.nxr.1 K h1.1 (by decide) (.inr h3.not), h1.2⟩, fun i u l hu hl => ⟨keepN M.blk M.nxr.1 K (h2 i u l hu hl).1 (by decide) (.inl (by decide)), (h2 i u l hu hl).2⟩⟩, h3.step hnf fun b e => (h1.1.lt b e).2, h4⟩
  nxr := by rw [List.length_append, ← hL]; exact hnr
  nxI := fun i u l' hu hl => by
    have hul : ns.length = L := by have := M.nxr.1.1; omega
    by_cases hi : i < L
    · rw [List.getElem?_append_left (by omega)] at hu
      rw [List.getElem?_append_left (by omega)] at hl
      exact ⟨keepN M.blk M.nxr.1 K (M.nxI i u l' hu hl).1 (by decide) (.inl (by decide)), (M.nxI i u l' hu hl).2⟩
    · have hil := (List.getElem?_eq_some_iff.1 hu).1
      simp at hil
      obtain rfl : i = L := by omega
      rw [List.getElem?_append_right (by omega), hul, Nat.sub_self] at hu
      rw [List.getElem?_append_right (by omega), ← hL, Nat.sub_self] at hl
      cases hu
      cases hl
      exact hx
  mkr := ⟨keepN M.blk M.nxr.1 K M.mkr.1 (by decide) (.inr M.far.not'), M.mkr.2⟩
  mkI := fun i u l hu hl => ⟨keepN M.blk M.nxr.1 K (M.mkI i u l hu hl).1 (by decide) (.inl (by decide)), (M.mkI i u l hu hl).2⟩
  far := by
    rcases hnf with h | h
    · rcases M.far with h5 | h5
      · exact .inl (h.trans h5)
      · exact .inr (by rw [h]; exact h5)
    · cases e : nv'.ownBlock with
      | none => exact .inl e
      | some x => exact .inr fun e2 => by have := h x e; have := (M.mkr.1.lt x (by rw [← e2, e])).2; omega
end Go.Proofs.YthdnlndpmmiboaaGreatDoor
