/-
  Parts that a function owns.
  How trees of regexes lie in memory.
  Rows of nodes that a function owns; appends to them, and to slices without room.
-/
import Derived.Test.YtbiboekhakbnpaaGreatDoorOB19
import Derived.Test.YtbiboekhakbnpaaGreatDoorOB21
import Derived.Test.YtbiboekhakbnpaaGreatDoorOB20
import Derived.Test.YtbiboekhakbnpaaGreatDoorOB09
import Derived.Test.YtbiboekhakbnpaaGreatDoorOB06
set_option maxRecDepth 100000
set_option maxHeartbeats 16000000
open Go.Lib (hid)
namespace Go.Proofs.YtbiboekhakbnpaaGreatDoor
open Go Go.RowKit Go.Shelf Go.Maps

theorem Tryz.infoPt : (Tryz.prog.info? 46).map (fun i => (i.zero, i.size, i.bytes)) = some (some (.agg #[.slice none 0 0, .slice none 0 0, .slice none 0 0, .slice none 0 0, .bool false, .bool false, .int .i64 0]), 7, 120) := by kernel_rfl
def OwnPts (base : Nat) (w : World) (v : Value) (ps : List PT) : Prop := ∃ cs : List Value, w.ownsRow base 46 7 v ps.length cs /\ ∀ (i : Nat) (x : PT), ps[i]? = some x -> PtIs (OwnNf base) w x fun j => cs[i * 7 + j]?
theorem OwnPts.nil (base : Nat) (w : World) : OwnPts base w (.slice none 0 0) [] := ⟨[], World.ownsRow_nil _ _ _ _, fun i x h => by simp at h⟩
theorem OwnPts.form {base : Nat} {w : World} {v : Value} {ps : List PT} (h : OwnPts base w v ps) : ∃ a c, v = .slice a ps.length c := by
 obtain ⟨cs, h1, _⟩ := h
 exact ownsRow_form h1
theorem OwnPts.below {base : Nat} {w w' : World} {v : Value} {ps : List PT} (h : OwnPts base w v ps) (hk : Below w.heap.size w w') : OwnPts base w' v ps := by
 obtain ⟨cs, h1, h2⟩ := h
 exact ⟨cs, ownsRow_below h1 hk, fun i x hx => (h2 i x hx).mono (fun _ hv => hv.below hk) fun _ _ _ hu => hu⟩
theorem OwnPts.pts {base : Nat} {w : World} {v : Value} {ps : List PT} (h : OwnPts base w v ps) : IsPts w v ps := by
 obtain ⟨cs, h1, h2⟩ := h
 have hlt := h1.lt
 rcases h1.2 with ⟨rfl, e2⟩ | ⟨g, cap, cur, rfl, e2, e3, e4, e5, _⟩
 ·exact .inl ⟨rfl, List.eq_nil_of_length_eq_zero e2⟩
 ·refine .inr ⟨g, 0, cap, rfl, (hlt g rfl).2, fun i x hx => ?_⟩
  obtain ⟨v0, v1, v2, v3, h0, c0, c1, c2, c3, c4, c5, c6⟩ := h2 i x hx
  have ce : ∀ (j : Nat) (u : Value), cs[i * 7 + j]? = some u -> w.cell? ⟨g, 0 + i * 7 + j, none⟩ = some u := fun j u hj => by
   have := h1.cells (g := g) rfl _ _ hj
   rw [Addr.add_mid] at this
   rw [show 0 + i * 7 + j = i * 7 + j by omega]
   simpa using this
  exact ⟨v0, v1, v2, v3, h0.nf, ce 0 _ c0, ce 1 _ c1, ce 2 _ c2, ce 3 _ c3, ce 4 _ c4, ce 5 _ c5, ce 6 _ c6⟩
theorem OwnPts.more {base : Nat} {w w' : World} {v v' v0 v1 v2 v3 : Value} {ps : List PT} {cs : List Value} {x : PT} (h1 : w.ownsRow base 46 7 v ps.length cs) (h2 : ∀ (i : Nat) (x : PT), ps[i]? = some x -> PtIs (OwnNf base) w x fun j => cs[i * 7 + j]?)
  (hn : OwnNf base w (.agg #[v0, v1, v2, v3, .bool x.nf.emp]) x.nf) (hg : w.grownBy w' v.ownBlock) (ho : w'.ownsRow base 46 7 v' (ps.length + 1) (cs ++ cells7 v0 v1 v2 v3 x)) : OwnPts base w' v' (ps ++ [x]) := by
 have hkp : Keeps (fun y => y < w.heap.size /\ v.ownBlock ≠ some y) w w' := Keeps.of_grown hg fun y hy => ⟨hy.1, fun e => hy.2 e.symm⟩
 have hl := h1.1
 refine ⟨cs ++ cells7 v0 v1 v2 v3 x, by rw [List.length_append]; exact ho, fun i y hy => ?_⟩
 by_cases e : i < ps.length
 ·rw [List.getElem?_append_left e] at hy
  exact (h2 i y hy).mono (fun _ hv => hv.far h1 (by decide) (by decide) (by decide) hkp) fun j hj u hu => (append7 hl _ hj e).trans hu
 ·have hl2 := (List.getElem?_eq_some_iff.1 hy).1
  rw [List.length_append, List.length_singleton] at hl2
  obtain rfl : i = ps.length := by omega
  rw [List.getElem?_append_right (Nat.le_refl _), Nat.sub_self] at hy
  cases hy
  refine ⟨v0, v1, v2, v3, hn.far h1 (by decide) (by decide) (by decide) hkp, ?_, ?_, ?_, ?_, ?_, ?_, ?_⟩ <;> exact append7_at hl _
theorem risG_len {n : Nat} {l : List Int} (h : risG 0 ((n : Int) - 1) l = true) : l.length <= n := by
 obtain ⟨h1, h2⟩ := risG_pair h
 have hn : (l.map fun x => x.toNat).Nodup := by
  rw [List.nodup_iff_pairwise_ne, List.pairwise_map]
  exact h1.imp_of_mem fun {a b} ha hb hab => by have := h2 a ha; have := h2 b hb; omega
 have := List.Nodup.length_le_of_subset hn (l₂ := List.range n) fun x hx => by
  obtain ⟨y, hy, rfl⟩ := List.mem_map.1 hx
  have := h2 y hy
  exact List.mem_range.2 (by omega)
 simpa using this
theorem Nt.smn {a : NF} (h : Nt a) : SmN a := by
 have hle := h.le
 refine ⟨by omega, by have := h.fol; omega, by have := risG_len h.fst; omega, by have := risG_len h.lst; omega, fun l hl => ?_⟩
 obtain ⟨p, hp⟩ := List.getElem?_of_mem hl
 have hpl := (List.getElem?_eq_some_iff.1 hp).1
 have := risG_len (h.row p (by rw [<- h.fol]; exact hpl))
 rw [List.getD_eq_getElem?_getD, hp] at this
 have e : (some l).getD [] = l := rfl
 rw [e] at this
 omega
def part18 (s : List (Nat × Nat × Nat) × Bool × Nat) : PT := ⟨(madeR s.1).nf, s.2.1, s.2.2⟩
def parts18 (l : List (List (Nat × Nat × Nat) × Bool × Nat)) : List PT := (l.take 4).map part18
theorem parts18_ok (l : List (List (Nat × Nat × Nat) × Bool × Nat)) (h : ∀ s ∈ l, s.2.2 < 256) : ∀ x ∈ parts18 l, Nt x.nf /\ SmN x.nf /\ 0 <= x.mark /\ x.mark <= 255 := by
 intro x hx
 obtain ⟨s, hs, rfl⟩ := List.mem_map.1 hx
 have hm := h s (List.mem_of_mem_take hs)
 have ht : Nt (madeR s.1).nf := clean_nt (madeR_ok s.1).clean (madeR_ok s.1).posn
 exact ⟨ht, ht.smn, by unfold part18; dsimp only; omega, by unfold part18; dsimp only; omega⟩
theorem parts18_len (l : List (List (Nat × Nat × Nat) × Bool × Nat)) : (parts18 l).length = min 4 l.length := by unfold parts18; rw [List.length_map, List.length_take]
end Go.Proofs.YtbiboekhakbnpaaGreatDoor
namespace Go.Proofs.YtbiboekhakbnpaaGreatDoor
open Go Go.RowKit

def nodeV (k : Nat) (s : BS) (mn mx : Int) (a : Value) : Array Value := #[.int .u8 k, .int .u64 (wd s 0).toNat, .int .u64 (wd s 1).toNat, .int .u64 (wd s 2).toNat, .int .u64 (wd s 3).toNat, .int .i64 mn, .int .i64 mx, a]
inductive IsRx (F : Nat -> Prop) (w : World) : Value -> RX -> Prop
 | mk (k : Nat) (s : BS) (mn mx : Int) (l : List RX) (a : Value) (b off cap : Nat) (vs : Nat -> Value)
  (h0 : l = [] -> ∃ p c, a = .slice p 0 c)
  (h1 : l ≠ [] -> a = .slice (some ⟨b, off, none⟩) l.length cap /\ F b /\ b < w.heap.size /\ l.length <= cap)
  (hc : ∀ (i : Nat) (t : RX), l[i]? = some t -> ∃ cs : Array Value, vs i = .agg cs /\ ∀ (j : Nat) (u : Value), cs[j]? = some u -> w.cell? ⟨b, off + i * 8 + j, none⟩ = some u)
  (hr : ∀ (i : Nat) (t : RX), l[i]? = some t -> IsRx F w (vs i) t) : IsRx F w (.agg (nodeV k s mn mx a)) (.nd k s mn mx l)
theorem IsRx.form {F : Nat -> Prop} {w : World} {v : Value} {t : RX} (h : IsRx F w v t) : ∃ p c, v = .agg (nodeV t.kind t.set t.mn t.mx (.slice p t.subs.length c)) := by
 cases h with
 | mk k s mn mx l a b off cap vs h0 h1 hc hr =>
  cases l with
  | nil => obtain ⟨p, c, rfl⟩ := h0 rfl; exact ⟨p, c, rfl⟩
  | cons x l => obtain ⟨rfl, _⟩ := h1 (by simp); exact ⟨_, _, rfl⟩
theorem IsRx.keeps {F R : Nat -> Prop} {w w' : World} (hk : Keeps R w w') (hR : ∀ b, F b -> R b) {v : Value} {t : RX} (h : IsRx F w v t) : IsRx F w' v t := by
 induction h with
 | mk k s mn mx l a b off cap vs h0 h1 hc hr ih =>
  refine .mk k s mn mx l a b off cap vs h0 (fun hl => ?_) (fun i t hi => ?_) ih
  ·obtain ⟨e, hF, hb, hcap⟩ := h1 hl
   exact ⟨e, hF, Nat.lt_of_lt_of_le hb hk.size, hcap⟩
  ·obtain ⟨cs, e, hcs⟩ := hc i t hi
   have hl : l ≠ [] := fun e => by rw [e] at hi; simp at hi
   obtain ⟨_, hF, _⟩ := h1 hl
   exact ⟨cs, e, fun j u hj => (hk.cell (p := ⟨b, off + i * 8 + j, none⟩) (hR b hF)).trans (hcs j u hj)⟩
theorem IsRx.mono {F F' : Nat -> Prop} {w : World} (hF : ∀ b, F b -> F' b) {v : Value} {t : RX} (h : IsRx F w v t) : IsRx F' w v t := by
 induction h with
 | mk k s mn mx l a b off cap vs h0 h1 hc hr ih => exact .mk k s mn mx l a b off cap vs h0 (fun hl => by obtain ⟨e, h2, h3⟩ := h1 hl; exact ⟨e, hF b h2, h3⟩) hc ih
theorem IsRx.belw {n : Nat} {w w' : World} {v : Value} {t : RX} (h : IsRx (· < n) w v t) (hk : Below n w w') : IsRx (· < n) w' v t := h.keeps (Keeps.of_below hk fun _ h => h) fun _ h => h
theorem IsRx.kept {n : Nat} {w w' : World} {v : Value} {t : RX} (h : IsRx (· < n) w v t) (hk : Keeps (· < n) w w') : IsRx (· < n) w' v t := h.keeps hk fun _ h => h
theorem IsRx.elem {F : Nat -> Prop} {w : World} {k n c : Nat} {s : BS} {mn mx : Int} {p : Option Addr} {l : List RX} (h : IsRx F w (.agg (nodeV k s mn mx (.slice p n c))) (.nd k s mn mx l)) {i : Nat} {t : RX} (hi : l[i]? = some t) :
  ∃ b off p' c', p = some ⟨b, off, none⟩ /\ F b /\ b < w.heap.size /\ n <= c /\
   (w.cell? ⟨b, off + i * 8, none⟩ = some (.int .u8 t.kind) /\ w.cell? ⟨b, off + i * 8 + 1, none⟩ = some (.int .u64 (wd t.set 0).toNat) /\ w.cell? ⟨b, off + i * 8 + 2, none⟩ = some (.int .u64 (wd t.set 1).toNat) /\ w.cell? ⟨b, off + i * 8 + 3, none⟩ = some (.int .u64 (wd t.set 2).toNat) /\ w.cell? ⟨b, off + i * 8 + 4, none⟩ = some (.int .u64 (wd t.set 3).toNat) /\ w.cell? ⟨b, off + i * 8 + 5, none⟩ = some (.int .i64 t.mn) /\ w.cell? ⟨b, off + i * 8 + 6, none⟩ = some (.int .i64 t.mx) /\ w.cell? ⟨b, off + i * 8 + 7, none⟩ = some (.slice p' t.subs.length c')) /\
   IsRx F w (.agg (nodeV t.kind t.set t.mn t.mx (.slice p' t.subs.length c'))) t := by
 generalize hv : (Value.agg (nodeV k s mn mx (.slice p n c))) = v at h
 generalize ht : RX.nd k s mn mx l = T at h
 cases h with
 | mk k' s' mn' mx' l' a b off cap vs h0 h1 hc hr =>
  injection ht with e1 e2 e3 e4 e5
  subst e1 e2 e3 e4 e5
  have hl : l ≠ [] := fun e => by rw [e] at hi; simp at hi
  obtain ⟨ea, hF, hb, hcap⟩ := h1 hl
  rw [ea] at hv
  have e7 : (nodeV k s mn mx (.slice p n c))[7]? = (nodeV k s mn mx (.slice (some ⟨b, off, none⟩) l.length cap))[7]? := by injection hv with e; rw [e]
  have e8 : Value.slice p n c = .slice (some ⟨b, off, none⟩) l.length cap := by simpa [nodeV] using e7
  obtain ⟨rfl, rfl, rfl⟩ : p = some ⟨b, off, none⟩ /\ n = l.length /\ c = cap := by injection e8 with a1 a2 a3; exact ⟨a1, a2, a3⟩
  have ht := hr i t hi
  obtain ⟨cs, ec, hcs⟩ := hc i t hi
  obtain ⟨p', c', ev⟩ := ht.form
  rw [ev] at ht ec
  injection ec with ec
  subst ec
  exact ⟨b, off, p', c', rfl, hF, hb, hcap, ⟨hcs 0 _ rfl, hcs 1 _ rfl, hcs 2 _ rfl, hcs 3 _ rfl, hcs 4 _ rfl, hcs 5 _ rfl, hcs 6 _ rfl, hcs 7 _ rfl⟩, ht⟩
theorem IsRx.leaf (F : Nat -> Prop) (w : World) (k : Nat) (s : BS) (mn mx : Int) (p : Option Addr) (c : Nat) : IsRx F w (.agg (nodeV k s mn mx (.slice p 0 c))) (.nd k s mn mx []) :=
 .mk k s mn mx [] _ 0 0 0 (fun _ => undef) (fun _ => ⟨p, c, rfl⟩) (fun h => absurd rfl h) (fun i t h => by simp at h) (fun i t h => by simp at h)

theorem leavesM_marks {P : Program} {fn : Func} {tmps : Array Value} {R : Ending -> World -> Prop} {v : Value} : ∀ (Ds : List Nat) (W : World), Ds.Nodup -> (∀ D ∈ Ds, W.heap[D]? = some (.deferred (some []))) ->
  ((results fn tmps).run P (Ds.foldl (fun W D => W.putObj D (.deferred none)) W) = .ok v (Ds.foldl (fun W D => W.putObj D (.deferred none)) W)) -> R (.returned v) (Ds.foldl (fun W D => W.putObj D (.deferred none)) W) ->
  LeavesInM Fence.wide 0 P fn tmps R (Ds.map fun D => { target := .collected D, args := #[] }) .returning W
 | [], W, _, _, hr, hR => ⟨v, hr, hR⟩
 | D :: Ds, W, hn, hD, hr, hR => by
  obtain ⟨h1, h2⟩ := List.nodup_cons.1 hn
  refine ⟨by simp, .inl ⟨_, _, rfl, run_takeDeferred (hD D (List.mem_cons_self ..)), ?_⟩⟩
  refine leavesM_marks Ds _ h2 (fun E hE => ?_) hr hR
  have hne : E ≠ D := fun e => by rw [e] at hE; exact h1 hE
  exact (World.putObj_heap_other hne).trans (hD E (List.mem_cons_of_mem _ hE))
end Go.Proofs.YtbiboekhakbnpaaGreatDoor
namespace Go.Proofs.YtbiboekhakbnpaaGreatDoor
open Go Go.RowKit Go.Shelf Go.Maps

section
variable {P : Program} {ops : Array Oper}
theorem wpList_appendT {rest : List Oper} {o : Oper} {a : Act} {w : World} {Q : Exit -> Act -> World -> Prop} (hw : Region.wanted o (yielded ops a.tmps) = true) (s x : Operand) (t : TypeId)
  (ho : o.op = .call { callee := .builtin .append, args := #[s, x], argTypes := #[t, t] })
  (base : Nat) (e : TypeId) (i : TypeInfo) (z : Value) (size bytes : Nat) (ht : P.underlying t = some (.slice e)) (hi : P.info? e = some i) (hz : i.zero = some z)
  (hsize : i.size = size) (hby : i.bytes = bytes) (hzs : z.cells.size = size) (hsz : 0 < size)
  (v : Value) (k : Nat) (xs : List Value) (hs : a.eval s = v) (hown : w.ownsRow base e size v k xs)
  (ad : Addr) (m c : Nat) (news : List Value) (hx : a.eval x = .slice (some ad) m c) (hnews : ∀ j u, news[j]? = some u -> w.cell? (ad.add j) = some u) (hl : news.length = m * size) (h1 : ∀ u ∈ news, u.oneCell' = true)
  (h63 : k + m <= maxLen) (hbytes : (k + m) * bytes <= 140737488355328) (hbase : base <= w.heap.size)
  (h : ∀ v' w', w'.ownsRow base e size v' (k + m) (xs ++ news) -> w.grownBy w' v.ownBlock -> (v'.ownBlock = v.ownBlock \/ v'.ownBlock = some w.heap.size) -> wpList P ops Q rest (a.put o.dst v') w') :
  wpList P ops Q (o :: rest) a w := by
 refine wpList_wantedS hw fun K hK => ?_
 obtain ⟨v', w', hr, h2, h3, _, h5⟩ := run_append_own_at (P := P) w base t o.type e i z size bytes ht hi hz hsize hby hzs hsz v k xs hown ad m c news hl hnews h1 h63 hbytes hbase
 unfold Oper.wp execOp
 simp only [ho, resolve, invoke, builtin, Sem.run_bind, Sem.run_pure, Result.andThen_ok, List.map_toArray, List.map_cons, List.map_nil, hs, hx, hr]
 exact hK _ _ (h v' w' h2 h3 h5)
theorem wpList_appendF {rest : List Oper} {o : Oper} {a : Act} {w : World} {Q : Exit -> Act -> World -> Prop} (hw : Region.wanted o (yielded ops a.tmps) = true) (s x : Operand) (t : TypeId)
  (ho : o.op = .call { callee := .builtin .append, args := #[s, x], argTypes := #[t, t] })
  (base : Nat) (e : TypeId) (i : TypeInfo) (z : Value) (size bytes : Nat) (ht : P.underlying t = some (.slice e)) (hi : P.info? e = some i) (hz : i.zero = some z)
  (hsize : i.size = size) (hby : i.bytes = bytes) (hzs : z.cells.size = size) (hsz : 0 < size)
  (b : Addr) (k : Nat) (xs : List Value) (hs : a.eval s = .slice (some b) k k) (hlo : xs.length = k * size) (holds : ∀ j u, xs[j]? = some u -> w.cell? (b.add j) = some u)
  (ad : Addr) (m c : Nat) (news : List Value) (hx : a.eval x = .slice (some ad) m c) (hnews : ∀ j u, news[j]? = some u -> w.cell? (ad.add j) = some u) (hl : news.length = m * size) (hm : 0 < m)
  (h63 : k + m <= maxLen) (hbytes : (k + m) * bytes <= 140737488355328) (hbase : base <= w.heap.size)
  (h : ∀ v' w', w'.ownsRow base e size v' (k + m) (xs ++ news) -> Below w.heap.size w w' -> v'.ownBlock = some w.heap.size -> wpList P ops Q rest (a.put o.dst v') w') :
  wpList P ops Q (o :: rest) a w := by
 refine wpList_wantedS hw fun K hK => ?_
 subst hsize
 subst hby
 have hsmall : k + m <= 9223372036854775807 := by simp only [maxLen] at h63; omega
 have hr := run_append_grow (P := P) w t o.type e i z ht hi hz b k k xs hlo holds ad m c news hl hnews (by omega) (by omega) (growslice_fits (by omega) hbytes)
 unfold Oper.wp execOp
 simp only [ho, resolve, invoke, builtin, Sem.run_bind, Sem.run_pure, Result.andThen_ok, List.map_toArray, List.map_cons, List.map_nil, hs, hx, hr]
 have hge := grownCap_ge w (k + m) k e
 have hcm : grownCap w (k + m) k e <= maxLen := grownCap_le_maxLen w (k + m) k e h63
 have hlen : (xs ++ news).length = (k + m) * i.size := by rw [List.length_append, hlo, hl, Nat.add_mul]
 refine hK _ _ (h _ _ ⟨hlen, .inr ⟨w.heap.size, _, _, rfl, hbase, heap_alloc_new w.drew _, hge, hcm, ?_, ?_⟩⟩ ((Ext.refl w).drew.alloc _).below rfl)
 ·simp only [Array.size_append, List.size_toArray, size_zeroCells, hzs, hlo, hl, <- Nat.add_mul]
  congr 1
  omega
 ·simp only [Array.toList_append, List.append_assoc]
  rw [<- List.append_assoc, <- hlen]
  exact List.take_left
end
def cellsN (cs : List (Array Value)) : List Value := cs.flatMap Array.toList
theorem cellsN_len : ∀ {cs : List (Array Value)}, (∀ c ∈ cs, c.size = 8) -> (cellsN cs).length = cs.length * 8
 | [], _ => rfl
 | c :: cs, h => by
  unfold cellsN
  rw [List.flatMap_cons, List.length_append, List.length_cons]
  have := cellsN_len fun x hx => h x (List.mem_cons_of_mem _ hx)
  unfold cellsN at this
  rw [this, Array.length_toList, h c (List.mem_cons_self ..)]
  omega
theorem cellsN_at : ∀ {cs : List (Array Value)} {i j : Nat} {c : Array Value} {u : Value}, (∀ c ∈ cs, c.size = 8) -> cs[i]? = some c -> c[j]? = some u -> (cellsN cs)[i * 8 + j]? = some u
 | x :: cs, 0, j, c, u, h, hi, hj => by
  simp at hi
  subst hi
  unfold cellsN
  have hl := (Array.getElem?_eq_some_iff.1 hj).1
  rw [List.flatMap_cons, List.getElem?_append_left (by rw [Array.length_toList]; omega), Nat.zero_mul, Nat.zero_add, Array.getElem?_toList]
  exact hj
 | x :: cs, i + 1, j, c, u, h, hi, hj => by
  have ih := cellsN_at (cs := cs) (i := i) (fun y hy => h y (List.mem_cons_of_mem _ hy)) (by simpa using hi) hj
  unfold cellsN at ih ⊢
  rw [List.flatMap_cons, List.getElem?_append_right (by rw [Array.length_toList, h x (List.mem_cons_self ..)]; omega), <- ih]
  congr 1
  rw [Array.length_toList, h x (List.mem_cons_self ..)]
  omega
theorem cellsN_app (a b : List (Array Value)) : cellsN (a ++ b) = cellsN a ++ cellsN b := by unfold cellsN; rw [List.flatMap_append]
theorem nodeV_eight (k : Nat) (s : BS) (mn mx : Int) (p : Option Addr) (n c : Nat) : (nodeV k s mn mx (.slice p n c)).size = 8 /\ ∀ u ∈ (nodeV k s mn mx (.slice p n c)).toList, u.oneCell' = true := by
 refine ⟨rfl, fun u hu => ?_⟩
 simp [nodeV] at hu
 rcases hu with rfl | rfl | rfl | rfl | rfl | rfl | rfl | rfl <;> rfl
def IsNrow (base : Nat) (w : World) (v : Value) (l : List RX) : Prop := ∃ cs : List (Array Value), cs.length = l.length /\ w.ownsRow base 86 8 v l.length (cellsN cs) /\ (∀ c ∈ cs, c.size = 8 /\ ∀ u ∈ c.toList, u.oneCell' = true) /\
 ∀ (i : Nat) (c : Array Value) (t : RX), cs[i]? = some c -> l[i]? = some t -> IsRx (fun x => base <= x /\ x < w.heap.size /\ v.ownBlock ≠ some x) w (.agg c) t
theorem IsNrow.nil (base : Nat) (w : World) : IsNrow base w (.slice none 0 0) [] := ⟨[], rfl, World.ownsRow_nil _ _ _ _, (fun _ h => nomatch h), fun i c t h => by simp at h⟩
theorem IsNrow.form {base : Nat} {w : World} {v : Value} {l : List RX} (h : IsNrow base w v l) : ∃ a c, v = .slice a l.length c := by
 obtain ⟨cs, h1, h2, h3, h4⟩ := h
 exact ownsRow_form h2
theorem IsNrow.keeps {base : Nat} {R : Nat -> Prop} {w w' : World} {v : Value} {l : List RX} (h : IsNrow base w v l) (hk : Keeps R w w') (hR : ∀ x, x < w.heap.size -> base <= x \/ v.ownBlock ≠ some x -> R x) : IsNrow base w' v l := by
 obtain ⟨cs, h1, h2, h3, h4⟩ := h
 refine ⟨cs, h1, ownsRow_keeps h2 hk fun x hx => hR x (h2.lt x hx).2 (.inl (h2.lt x hx).1), h3, fun i c t hi ht => ?_⟩
 exact ((h4 i c t hi ht).keeps hk fun x hx => hR x hx.2.1 (.inl hx.1)).mono fun x hx => ⟨hx.1, Nat.lt_of_lt_of_le hx.2.1 hk.size, hx.2.2⟩
theorem IsNrow.below {base : Nat} {w w' : World} {v : Value} {l : List RX} (h : IsNrow base w v l) (hk : Below w.heap.size w w') : IsNrow base w' v l := h.keeps (Keeps.of_below hk fun _ h => h : Keeps (· < w.heap.size) w w') fun _ hx _ => hx
theorem IsNrow.elem {base : Nat} {w : World} {a : Option Addr} {n cap : Nat} {l : List RX} (h : IsNrow base w (.slice a n cap) l) {i : Nat} {t : RX} (hi : l[i]? = some t) :
  ∃ g p' c', a = some ⟨g, 0, none⟩ /\ n = l.length /\ n <= cap /\ base <= g /\ g < w.heap.size /\
   (w.cell? ⟨g, i * 8, none⟩ = some (.int .u8 t.kind) /\ w.cell? ⟨g, i * 8 + 1, none⟩ = some (.int .u64 (wd t.set 0).toNat) /\ w.cell? ⟨g, i * 8 + 2, none⟩ = some (.int .u64 (wd t.set 1).toNat) /\ w.cell? ⟨g, i * 8 + 3, none⟩ = some (.int .u64 (wd t.set 2).toNat) /\ w.cell? ⟨g, i * 8 + 4, none⟩ = some (.int .u64 (wd t.set 3).toNat) /\ w.cell? ⟨g, i * 8 + 5, none⟩ = some (.int .i64 t.mn) /\ w.cell? ⟨g, i * 8 + 6, none⟩ = some (.int .i64 t.mx) /\ w.cell? ⟨g, i * 8 + 7, none⟩ = some (.slice p' t.subs.length c')) /\
   IsRx (fun x => base <= x /\ x < w.heap.size /\ x ≠ g) w (.agg (nodeV t.kind t.set t.mn t.mx (.slice p' t.subs.length c'))) t := by
 obtain ⟨cs, h1, h2, h3, h4⟩ := h
 have hil := (List.getElem?_eq_some_iff.1 hi).1
 obtain ⟨c, hc⟩ : ∃ c, cs[i]? = some c := ⟨_, List.getElem?_eq_getElem (by omega)⟩
 have hr := h4 i c t hc hi
 obtain ⟨p', c', e⟩ := hr.form
 injection e with e
 subst e
 rcases h2.2 with ⟨e1, e2⟩ | ⟨g, cap', cur, e1, e2, e3, e4, e5, _⟩
 ·exfalso; omega
 ·injection e1 with a1 a2 a3
  subst a1 a2 a3
  have hlt := h2.lt g rfl
  have ce : ∀ (j : Nat) (u : Value), (nodeV t.kind t.set t.mn t.mx (.slice p' t.subs.length c'))[j]? = some u -> w.cell? ⟨g, i * 8 + j, none⟩ = some u := fun j u hj => by
   have := h2.cells (g := g) rfl _ _ (cellsN_at (fun c hc => (h3 c hc).1) hc hj)
   rw [Addr.add_mid] at this
   simpa using this
  refine ⟨g, p', c', rfl, rfl, e4, hlt.1, hlt.2, ⟨ce 0 _ rfl, ce 1 _ rfl, ce 2 _ rfl, ce 3 _ rfl, ce 4 _ rfl, ce 5 _ rfl, ce 6 _ rfl, ce 7 _ rfl⟩, ?_⟩
  exact hr.mono fun x hx => ⟨hx.1, hx.2.1, fun e => hx.2.2 (by rw [e]; rfl)⟩
theorem IsNrow.app {base : Nat} {w w' : World} {v v' : Value} {l l2 : List RX} {cs cs2 : List (Array Value)} (h1 : cs.length = l.length) (h3 : ∀ c ∈ cs, c.size = 8 /\ ∀ u ∈ c.toList, u.oneCell' = true)
  (h4 : ∀ (i : Nat) (c : Array Value) (t : RX), cs[i]? = some c -> l[i]? = some t -> IsRx (fun x => base <= x /\ x < w.heap.size /\ v.ownBlock ≠ some x) w (.agg c) t)
  (g1 : cs2.length = l2.length) (g3 : ∀ c ∈ cs2, c.size = 8 /\ ∀ u ∈ c.toList, u.oneCell' = true) (g4 : ∀ (i : Nat) (c : Array Value) (t : RX), cs2[i]? = some c -> l2[i]? = some t -> IsRx (fun x => base <= x /\ x < w.heap.size /\ v.ownBlock ≠ some x) w (.agg c) t)
  (ho : w'.ownsRow base 86 8 v' (l.length + l2.length) (cellsN cs ++ cellsN cs2)) (hg : w.grownBy w' v.ownBlock) (hor : v'.ownBlock = v.ownBlock \/ v'.ownBlock = some w.heap.size) : IsNrow base w' v' (l ++ l2) := by
 have key : ∀ (c : Array Value) (t : RX), IsRx (fun x => base <= x /\ x < w.heap.size /\ v.ownBlock ≠ some x) w (.agg c) t -> IsRx (fun x => base <= x /\ x < w'.heap.size /\ v'.ownBlock ≠ some x) w' (.agg c) t := fun c t h => by
  refine (h.keeps (Keeps.of_grown hg fun x (hx : base <= x /\ x < w.heap.size /\ v.ownBlock ≠ some x) => ⟨hx.2.1, fun e => hx.2.2 e.symm⟩) fun x hx => hx).mono fun x hx => ⟨hx.1, Nat.lt_of_lt_of_le hx.2.1 hg.size, fun e => ?_⟩
  rcases hor with e2 | e2
  ·exact hx.2.2 (by rw [<- e2, e])
  ·rw [e2] at e
   cases e
   exact Nat.lt_irrefl _ hx.2.1
 refine ⟨cs ++ cs2, by simp [h1, g1], by rw [List.length_append, cellsN_app]; exact ho, fun c hc => (List.mem_append.1 hc).elim (h3 c) (g3 c), fun i c t hi ht => ?_⟩
 rcases Nat.lt_or_ge i l.length with hil | hil
 ·rw [List.getElem?_append_left (by omega)] at hi ht
  exact key c t (h4 i c t hi ht)
 ·rw [List.getElem?_append_right (by omega)] at hi ht
  rw [h1] at hi
  exact key c t (g4 _ c t hi ht)
end Go.Proofs.YtbiboekhakbnpaaGreatDoor
