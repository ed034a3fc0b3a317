/-
  slices.Clone at ints and at bytes.
  What holds in a world and is kept as long as nothing that exists is written, many such facts in one bag.
  How automata lie in memory: slices of slices of numbers, the struct of three slices; owned from a base on, or only read.
  dfa.Right; slices.ContainsFunc at ints; slices.Equal at sets, whatever they are.
-/
import Derived.Test.YtbiboekhakbnpaaGreatDoorOB05
import Derived.Test.YtbiboekhakbnpaaGreatDoorOB08
import Derived.Lib.SliceRun
import Derived.Test.YtbiboekhakbnpaaGreatDoorOB06
set_option maxRecDepth 100000
set_option maxHeartbeats 16000000
open Go.Lib (hid)
namespace Go.Proofs.YtbiboekhakbnpaaGreatDoor
open Go Go.RowKit Go.Shelf Go.Maps


def IsSlE {α : Type} (enc : α -> Value) (w : World) (v : Value) (l : List α) : Prop := IsSl enc w v l \/ (l = [] /\ ∃ a : Addr, v = .slice (some a) 0 0)
theorem IsSlE.below {α : Type} {enc : α -> Value} {w w' : World} {v : Value} {l : List α} (h : IsSlE enc w v l) (hk : Below w.heap.size w w') : IsSlE enc w' v l := h.imp (fun h => h.below hk) id
theorem IsSlE.form {α : Type} {enc : α -> Value} {w : World} {v : Value} {l : List α} (h : IsSlE enc w v l) : ∃ a cap, v = .slice a l.length cap := by
 rcases h with h | ⟨rfl, a, rfl⟩
 ·exact h.form
 ·exact ⟨_, _, rfl⟩
theorem cloneIntsE_any (v : Value) (l : List Int) (w : World) (h : IsSlE encZ w v l) (hn : l.length <= 1000000) :
  Calls Tryz.prog 32 #[v] w fun e w' => ∃ u, e = .returned u /\ w'.ownsRow w.heap.size 3 1 u l.length (l.map encZ) /\ Below w.heap.size w w' := by
 obtain ⟨i0, hi, hz0, hz1, hz2⟩ := info_parts Tryz.infoI
 have h' : (v = .slice none 0 0 /\ l = []) \/ ∃ (a : Addr) (cap : Nat), v = .slice (some a) l.length cap /\ ∀ o j u, (l.map encZ)[j]? = some u -> (w.alloc o).cell? (a.add j) = some u := by
  rcases h with (h | ⟨b, off, cap, rfl, hb, _, hc⟩) | ⟨rfl, a, rfl⟩
  ·exact .inl h
  ·refine .inr ⟨⟨b, off, none⟩, cap, rfl, fun o j u hj => ?_⟩
   refine (((Ext.refl w).alloc o).cell (p := (⟨b, off, none⟩ : Addr).add j) (by rw [Addr.add_mid]; exact hb)).trans ?_
   rw [List.getElem?_map] at hj
   cases hx : l[j]? with
   | none => rw [hx] at hj; cases hj
   | some x =>
    rw [hx] at hj
    rw [Addr.add_mid, hc j x hx]; exact hj
  ·exact .inr ⟨a, 0, rfl, fun o j u hj => by simp at hj⟩
 clear h
 rcases h' with ⟨rfl, rfl⟩ | ⟨ad, cap, rfl, hnews⟩
 ·have he := fun W => Lib.run_eql_slice_nil (P := Tryz.prog) W 37 3 none 0 0 0 0 Tryz.underlying37
  go_enter Tryz.func32, Tryz.ntmps32
  go_wp2
  go_ret
  exact ⟨_, rfl, World.ownsRow_nil _ _ _ _, Below.refl _ _⟩
 ·obtain ⟨n, hnn⟩ : ∃ n, n = l.length := ⟨_, rfl⟩
  rw [<- hnn] at hn ⊢
  have HN := hid hnn
  have HNw := hid hnews
  have he := fun W => Lib.run_eql_slice_nil (P := Tryz.prog) W 37 3 (some ad) n cap 0 0 Tryz.underlying37
  clear hnews hnn
  go_enter Tryz.func32, Tryz.ntmps32
  have o1 : (w.alloc (.cells #[] 3 (0, 0))).ownsRow w.heap.size 3 1 (.slice (some ⟨w.heap.size, 0, none⟩) 0 0) 0 [] := ⟨rfl, .inr ⟨w.heap.size, 0, #[], rfl, Nat.le_refl _, World.alloc_heap_new _ _, Nat.le_refl _, by simp, rfl, rfl⟩⟩
  have HO1 := hid o1
  clear o1
  go_wp2_with (at_builtin; (refine wpList_append_own_at _ rfl (.tmp 5) (.tmp 6) 37 rfl w.heap.size 3 i0 (.int .i64 0) 1 8 Tryz.underlying37 hi hz0 hz1 hz2 rfl (by decide) _ 0 [] rfl HO1.out ad n cap (l.map encZ) rfl (by rw [List.length_map, HN.out, Nat.mul_one]) (fun j u hj => HNw.out _ j u hj) (fun u hu => by obtain ⟨x, _, rfl⟩ := List.mem_map.1 hu; rfl) (by unfold maxLen; omega) (by omega) (by simp) ?_; intro v' w2 ho hg _ _; have HO2 := hid ho; have HG := hid hg; obtain ⟨a2, c2, rfl⟩ := ownsRow_form ho; clear ho hg))
  go_ret
  refine ⟨_, rfl, ?_, ?_⟩
  ·have := HO2.out
   rwa [Nat.zero_add, List.nil_append] at this
  ·exact ((Below.refl _ _).alloc (Nat.le_refl _) _).grown HG.out (by simp) (fun c e => (HO1.out.lt c e).1)

theorem cloneInts_any (v : Value) (l : List Int) (w : World) (h : IsSl encZ w v l) (hn : l.length <= 1000000) :
  Calls Tryz.prog 32 #[v] w fun e w' => ∃ u, e = .returned u /\ w'.ownsRow w.heap.size 3 1 u l.length (l.map encZ) /\ Below w.heap.size w w' := cloneIntsE_any v l w (.inl h) hn
structure Sp where
 H : World -> Prop
 st : ∀ W W' : World, Below W.heap.size W W' -> H W -> H W'
section
variable {L : List Sp} {W : World}
end
theorem Tryz.infoL : (Tryz.prog.info? 37).map (fun i => (i.zero, i.size, i.bytes)) = some (some (.slice none 0 0), 1, 24) := by kernel_rfl

def IsLL (w : World) (v : Value) (ll : List (List Int)) : Prop := ∃ us : List Value, us.length = ll.length /\ IsSl (fun u : Value => u) w v us /\ ∀ (i : Nat) (u : Value) (l : List Int), us[i]? = some u -> ll[i]? = some l -> IsSl encZ w u l
theorem IsLL.below {w w' : World} {v : Value} {ll : List (List Int)} (h : IsLL w v ll) (hk : Below w.heap.size w w') : IsLL w' v ll := by
 obtain ⟨us, h1, h2, h3⟩ := h
 exact ⟨us, h1, h2.below hk, fun i u l hu hl => (h3 i u l hu hl).below hk⟩
theorem IsLL.form {w : World} {v : Value} {ll : List (List Int)} (h : IsLL w v ll) : ∃ a cap, v = .slice a ll.length cap := by
 obtain ⟨us, h1, h2, h3⟩ := h
 obtain ⟨a, cap, h4⟩ := h2.form
 exact ⟨a, cap, by rw [h4, h1]⟩
theorem IsLL.elem {w : World} {a : Option Addr} {n cap : Nat} {ll : List (List Int)} (h : IsLL w (.slice a n cap) ll) {i : Nat} {l : List Int} (hi : ll[i]? = some l) :
  ∃ b off a' c', a = some ⟨b, off, none⟩ /\ b < w.heap.size /\ w.cell? ⟨b, off + i, none⟩ = some (.slice a' l.length c') /\ IsSl encZ w (.slice a' l.length c') l := by
 obtain ⟨us, h1, h2, h3⟩ := h
 have hil := (List.getElem?_eq_some_iff.1 hi).1
 have hu : us[i]? = some (us[i]'(by omega)) := List.getElem?_eq_getElem (by omega)
 obtain ⟨b, off, e1, e2, e3⟩ := h2.elem hu
 have h4 := h3 i _ l hu hi
 obtain ⟨a', c', e4⟩ := h4.form
 rw [e4] at h4 e3
 exact ⟨b, off, a', c', e1, e2, e3, h4⟩
def IsLLe (w : World) (v : Value) (ll : List (List Int)) : Prop := ∃ us : List Value, us.length = ll.length /\ IsSl (fun u : Value => u) w v us /\ ∀ (i : Nat) (u : Value) (l : List Int), us[i]? = some u -> ll[i]? = some l -> IsSlE encZ w u l
theorem IsLL.e {w : World} {v : Value} {ll : List (List Int)} (h : IsLL w v ll) : IsLLe w v ll := by
 obtain ⟨us, h1, h2, h3⟩ := h
 exact ⟨us, h1, h2, fun i u l hu hl => .inl (h3 i u l hu hl)⟩
theorem IsLLe.below {w w' : World} {v : Value} {ll : List (List Int)} (h : IsLLe w v ll) (hk : Below w.heap.size w w') : IsLLe w' v ll := by
 obtain ⟨us, h1, h2, h3⟩ := h
 exact ⟨us, h1, h2.below hk, fun i u l hu hl => (h3 i u l hu hl).below hk⟩
theorem IsLLe.form {w : World} {v : Value} {ll : List (List Int)} (h : IsLLe w v ll) : ∃ a cap, v = .slice a ll.length cap := by
 obtain ⟨us, h1, h2, h3⟩ := h
 obtain ⟨a, cap, h4⟩ := h2.form
 exact ⟨a, cap, by rw [h4, h1]⟩
theorem IsLLe.elem {w : World} {a : Option Addr} {n cap : Nat} {ll : List (List Int)} (h : IsLLe w (.slice a n cap) ll) {i : Nat} {l : List Int} (hi : ll[i]? = some l) :
  ∃ b off a' c', a = some ⟨b, off, none⟩ /\ b < w.heap.size /\ w.cell? ⟨b, off + i, none⟩ = some (.slice a' l.length c') /\ IsSlE encZ w (.slice a' l.length c') l := by
 obtain ⟨us, h1, h2, h3⟩ := h
 have hil := (List.getElem?_eq_some_iff.1 hi).1
 have hu : us[i]? = some (us[i]'(by omega)) := List.getElem?_eq_getElem (by omega)
 obtain ⟨b, off, e1, e2, e3⟩ := h2.elem hu
 have h4 := h3 i _ l hu hi
 obtain ⟨a', c', e4⟩ := h4.form
 rw [e4] at h4 e3
 exact ⟨b, off, a', c', e1, e2, e3, h4⟩

def OwnLL (base : Nat) (w : World) (v : Value) (ll : List (List Int)) : Prop := ∃ us : List Value, us.length = ll.length /\ w.ownsRow base 37 1 v us.length us /\ ∀ (i : Nat) (u : Value) (l : List Int), us[i]? = some u -> ll[i]? = some l -> w.ownsRow base 3 1 u l.length (l.map encZ)
theorem OwnLL.nil (base : Nat) (w : World) : OwnLL base w (.slice none 0 0) [] := ⟨[], rfl, World.ownsRow_nil _ _ _ _, fun i u l h => by simp at h⟩
theorem OwnLL.base {base base' : Nat} {w : World} {v : Value} {ll : List (List Int)} (h : OwnLL base w v ll) (hb : base' <= base) : OwnLL base' w v ll := by
 obtain ⟨us, h1, h2, h3⟩ := h
 exact ⟨us, h1, ownsRow_base h2 hb, fun i u l hu hl => ownsRow_base (h3 i u l hu hl) hb⟩
theorem OwnLL.below {base : Nat} {w w' : World} {v : Value} {ll : List (List Int)} (h : OwnLL base w v ll) (hk : Below w.heap.size w w') : OwnLL base w' v ll := by
 obtain ⟨us, h1, h2, h3⟩ := h
 exact ⟨us, h1, ownsRow_below h2 hk, fun i u l hu hl => ownsRow_below (h3 i u l hu hl) hk⟩
theorem ownsRow_keepsB {w w' : World} {base : Nat} {e : TypeId} {size : Nat} {v : Value} {n : Nat} {xs : List Value} (h : w.ownsRow base e size v n xs) {R : Nat -> Prop} (hk : Keeps R w w') (hr : ∀ k, base <= k -> k < w.heap.size -> R k) : w'.ownsRow base e size v n xs :=
 ownsRow_keeps h hk fun k e => hr k (h.lt k e).1 (h.lt k e).2
theorem OwnLL.keeps {base : Nat} {w w' : World} {v : Value} {ll : List (List Int)} (h : OwnLL base w v ll) {R : Nat -> Prop} (hk : Keeps R w w') (hr : ∀ k, base <= k -> k < w.heap.size -> R k) : OwnLL base w' v ll := by
 obtain ⟨us, h1, h2, h3⟩ := h
 exact ⟨us, h1, ownsRow_keepsB h2 hk hr, fun i u l hu hl => ownsRow_keepsB (h3 i u l hu hl) hk hr⟩
theorem OwnLL.form {base : Nat} {w : World} {v : Value} {ll : List (List Int)} (h : OwnLL base w v ll) : ∃ a cap, v = .slice a ll.length cap := by
 obtain ⟨us, h1, h2, h3⟩ := h
 obtain ⟨a, c, h4⟩ := ownsRow_form h2
 exact ⟨a, c, by rw [h4, h1]⟩
theorem OwnLL.ll {base : Nat} {w : World} {v : Value} {ll : List (List Int)} (h : OwnLL base w v ll) : IsLL w v ll := by
 obtain ⟨us, h1, h2, h3⟩ := h
 refine ⟨us, h1, ownsRow_sl (e := 37) (base := base) (by simpa using h2) rfl, fun i u l hu hl => ownsRow_sl (h3 i u l hu hl) rfl⟩
theorem ownBlock_ne {w : World} {b1 b2 : Nat} {e1 e2 : TypeId} {s1 s2 n1 n2 : Nat} {v1 v2 : Value} {x1 x2 : List Value} (he : e1 ≠ e2) (h1 : w.ownsRow b1 e1 s1 v1 n1 x1) (h2 : w.ownsRow b2 e2 s2 v2 n2 x2) : v1.ownBlock = none \/ v1.ownBlock ≠ v2.ownBlock := by
 rcases h1.2 with ⟨rfl, _⟩ | ⟨g, c, cur, rfl, _, hg, _⟩
 ·exact .inl rfl
 ·right
  rcases h2.2 with ⟨rfl, _⟩ | ⟨g', c', cur', rfl, _, hg', _⟩
  ·simp [Value.ownBlock]
  ·intro e
   have e' : g = g' := by simpa [Value.ownBlock] using e
   subst e'
   rw [hg] at hg'
   exact he (by injection hg' with h; injection h)
theorem OwnLL.snoc {base : Nat} {w w' : World} {v v' u : Value} {ll : List (List Int)} {l : List Int} {us : List Value} (h1 : us.length = ll.length) (ho : w.ownsRow base 37 1 v us.length us)
  (h3 : ∀ (i : Nat) (u : Value) (l : List Int), us[i]? = some u -> ll[i]? = some l -> w.ownsRow base 3 1 u l.length (l.map encZ)) (hu : w.ownsRow base 3 1 u l.length (l.map encZ))
  (hg : w.grownBy w' v.ownBlock) (ho' : w'.ownsRow base 37 1 v' (us.length + 1) (us ++ [u])) : OwnLL base w' v' (ll ++ [l]) := by
 have ne : (3 : Nat) ≠ 37 := by decide
 refine ⟨us ++ [u], by simp [h1], by simpa using ho', fun i x y hx hy => ?_⟩
 by_cases hi : i < us.length
 ·rw [List.getElem?_append_left hi] at hx
  rw [List.getElem?_append_left (by omega)] at hy
  have hr := h3 i x y hx hy
  exact hr.kept hg (ownBlock_ne ne hr ho)
 ·have hil := (List.getElem?_eq_some_iff.1 hx).1
  simp at hil
  obtain rfl : i = us.length := by omega
  simp at hx
  subst hx
  rw [h1] at hy
  simp at hy
  subst hy
  exact hu.kept hg (ownBlock_ne ne hu ho)

def IsDf (w : World) (v : Value) (d : DF) : Prop := ∃ v0 v1 v2, v = .agg #[v0, v1, v2] /\ IsSetsC w v0 d.cl /\ IsLL w v1 d.nx /\ IsLL w v2 d.mr
theorem IsDf.below {w w' : World} {v : Value} {d : DF} (h : IsDf w v d) (hk : Below w.heap.size w w') : IsDf w' v d := by
 obtain ⟨v0, v1, v2, e, h0, h1, h2⟩ := h
 exact ⟨v0, v1, v2, e, ⟨h0.1.below hk, h0.2⟩, h1.below hk, h2.below hk⟩
def IsDfe (w : World) (v : Value) (d : DF) : Prop := ∃ v0 v1 v2, v = .agg #[v0, v1, v2] /\ IsSetsC w v0 d.cl /\ IsLLe w v1 d.nx /\ IsLLe w v2 d.mr
theorem IsDf.e {w : World} {v : Value} {d : DF} (h : IsDf w v d) : IsDfe w v d := by
 obtain ⟨v0, v1, v2, e, h0, h1, h2⟩ := h
 exact ⟨v0, v1, v2, e, h0, h1.e, h2.e⟩
def OwnDf (base : Nat) (w : World) (v : Value) (d : DF) : Prop := ∃ v0 v1 v2, v = .agg #[v0, v1, v2] /\ w.ownsRow base 70 4 v0 d.cl.length (flatS d.cl) /\ OwnLL base w v1 d.nx /\ OwnLL base w v2 d.mr
theorem OwnDf.below {base : Nat} {w w' : World} {v : Value} {d : DF} (h : OwnDf base w v d) (hk : Below w.heap.size w w') : OwnDf base w' v d := by
 obtain ⟨v0, v1, v2, e, h0, h1, h2⟩ := h
 exact ⟨v0, v1, v2, e, ownsRow_below h0 hk, h1.below hk, h2.below hk⟩
theorem OwnDf.base {base base' : Nat} {w : World} {v : Value} {d : DF} (h : OwnDf base w v d) (hb : base' <= base) : OwnDf base' w v d := by
 obtain ⟨v0, v1, v2, e, h0, h1, h2⟩ := h
 exact ⟨v0, v1, v2, e, ownsRow_base h0 hb, h1.base hb, h2.base hb⟩
theorem ownsRow_setsC {w : World} {base : Nat} {v : Value} {l : List BS} (h : w.ownsRow base 70 4 v l.length (flatS l)) : IsSetsC w v l := by
 refine ⟨ownsRow_sets h, fun a n cap e => ?_⟩
 subst e
 rcases h.2 with ⟨h1, h2⟩ | ⟨g, c, cur, h1, _, _, h2, _⟩
 ·injection h1 with _ h3 h4; omega
 ·injection h1 with _ h3 h4; omega
theorem OwnDf.df {base : Nat} {w : World} {v : Value} {d : DF} (h : OwnDf base w v d) : IsDf w v d := by
 obtain ⟨v0, v1, v2, e, h0, h1, h2⟩ := h
 exact ⟨v0, v1, v2, e, ownsRow_setsC h0, h1.ll, h2.ll⟩
structure Sm (d : DF) : Prop where
 cl : d.cl.length <= 1000000
 nx : d.nx.length <= 1000000
 mr : d.mr.length <= 1000000
 nxs : ∀ l ∈ d.nx, l.length <= 1000000
 mks : ∀ l ∈ d.mr, l.length <= 1000000

section
variable {L : List Sp} {W : World}
end

theorem IsSets.elem {w : World} {a : Option Addr} {n cap : Nat} {l : List BS} (h : IsSets w (.slice a n cap) l) {i : Nat} {s : BS} (hi : l[i]? = some s) :
  ∃ b off, a = some ⟨b, off, none⟩ /\ b < w.heap.size /\ w.cell? ⟨b, off + i * 4, none⟩ = some (.int .u64 (wd s 0).toNat) /\ w.cell? ⟨b, off + i * 4 + 1, none⟩ = some (.int .u64 (wd s 1).toNat) /\ w.cell? ⟨b, off + i * 4 + 2, none⟩ = some (.int .u64 (wd s 2).toNat) /\ w.cell? ⟨b, off + i * 4 + 3, none⟩ = some (.int .u64 (wd s 3).toNat) := by
 rcases h with ⟨_, e⟩ | ⟨b, off, cap', e1, hb, hcc⟩
 ·rw [e] at hi; simp at hi
 ·injection e1 with e1 _ _
  exact ⟨b, off, e1, hb, hcc i s hi 0 (by decide), hcc i s hi 1 (by decide), hcc i s hi 2 (by decide), hcc i s hi 3 (by decide)⟩

theorem cell_one (w : World) (x : Value) (t : TypeId) : ∀ j u, [x][j]? = some u -> (w.alloc (.cells #[x] t)).cell? ((⟨w.heap.size, 0, none⟩ : Addr).add j) = some u := fun j u h => by
 have hj : j = 0 := by
  rcases Nat.eq_zero_or_pos j with h' | h'
  ·exact h'
  ·rw [List.getElem?_eq_none (by simp; omega)] at h; cases h
 subst hj
 have hx : x = u := by simpa using h
 rw [<- hx]
 exact (Blk.new w #[x] t).cell 0
attribute [local go_sem] encS

theorem IsSlE.elem {α : Type} {enc : α -> Value} {w : World} {a : Option Addr} {n cap : Nat} {l : List α} (h : IsSlE enc w (.slice a n cap) l) {i : Nat} {x : α} (hi : l[i]? = some x) : ∃ b off, a = some ⟨b, off, none⟩ /\ b < w.heap.size /\ w.cell? ⟨b, off + i, none⟩ = some (enc x) := by
 rcases h with h | ⟨rfl, _⟩
 ·exact h.elem hi
 ·simp at hi
def indexG {α : Type} (f : α -> Bool) (l : List α) : Int := match l.findIdx? f with | some k => k | none => -1
theorem indexG_any {α : Type} (f : α -> Bool) (l : List α) : decide (0 <= indexG f l) = l.any f := by
 unfold indexG
 cases h : l.findIdx? f with
 | none =>
  rw [List.findIdx?_eq_none_iff] at h
  have : l.any f = false := by rw [List.any_eq_false]; intro x hx; rw [h x hx]; decide
  rw [this]; rfl
 | some k =>
  rw [List.findIdx?_eq_some_iff_getElem] at h
  obtain ⟨h1, h2, _⟩ := h
  have : l.any f = true := by rw [List.any_eq_true]; exact ⟨l[k], List.getElem_mem h1, h2⟩
  rw [this]; simp
theorem indexG_some {α : Type} {f : α -> Bool} {l : List α} {k : Nat} {x : α} (hx : l[k]? = some x) (hf : f x = true) (hn : ∀ y ∈ l.take k, f y = false) : indexG f l = k := by
 have h1 : l.findIdx? f = some k := by
  rw [List.findIdx?_eq_some_iff_getElem]
  have hkl := (List.getElem?_eq_some_iff.1 hx).1
  refine ⟨hkl, ?_, fun j hj => ?_⟩
  ·rw [(List.getElem?_eq_some_iff.1 hx).2]; exact hf
  ·have := hn l[j] (List.mem_take_iff_getElem.2 ⟨j, by omega, rfl⟩)
   rw [this]; decide
 rw [indexG, h1]
theorem indexG_none {α : Type} {f : α -> Bool} {l : List α} (hn : ∀ y ∈ l, f y = false) : indexG f l = -1 := by
 have h1 : l.findIdx? f = none := by
  rw [List.findIdx?_eq_none_iff]
  intro x hx
  rw [hn x hx]
 rw [indexG, h1]
theorem take_step {α : Type} {f : α -> Bool} {l : List α} {k : Nat} {x : α} (hx : l[k]? = some x) (hf : f x = false) (hn : ∀ y ∈ l.take k, f y = false) : ∀ y ∈ l.take (k + 1), f y = false := fun y hy => by
 rw [List.take_add_one, hx] at hy
 rcases List.mem_append.1 hy with hy | hy
 ·exact hn y hy
 ·rw [show y = x from by simpa using hy]; exact hf

theorem indexFuncE_any (g : Nat) (lb : Array Value) (f : Int -> Bool) (v : Value) (l : List Int) (w : World) (h : IsSlE encZ w v l) (hn : l.length <= 1000000)
  (eg : ∀ args w, (callFunc g args).run Tryz.prog w = .ok (.enter g args) w)
  (hf : ∀ s W, Below w.heap.size w W -> Calls Tryz.prog g (#[.int .i64 s] ++ lb) W fun e w' => e = .returned (.bool (f s)) /\ w' = W) :
  Calls Tryz.prog 90 #[v, .func (.func g) #[] lb] w fun e w' => e = .returned (.int .i64 (indexG f l)) /\ w' = w := by
 obtain ⟨a, cap, rfl⟩ := h.form
 obtain ⟨n, hnn⟩ : ∃ n, n = l.length := ⟨_, rfl⟩
 rw [<- hnn] at h hn ⊢
 have H := hid h
 have HN := hid hnn
 have HF := hid fun s => hf s w (Below.refl _ _)
 obtain ⟨r, hr⟩ : ∃ r, r = indexG f l := ⟨_, rfl⟩
 rw [<- hr]
 have HR := hid hr
 clear h hnn hf hr
 go_enter Tryz.func90, Tryz.ntmps90
 go_wp2
 go_loop [8] (fun i => ∃ k : Nat, k <= n /\ i = .int .i64 k /\ (∀ s ∈ l.take k, f s = false)) (fun i => n - (intOf i).toNat)
 case atStart => exact ⟨0, by omega, rfl, fun s hs => by simp at hs⟩
 case round =>
  obtain ⟨k, hk, rfl, ha⟩ := hrel
  by_cases hlt : k < n
  ·obtain ⟨s, hs⟩ : ∃ s, l[k]? = some s := ⟨_, List.getElem?_eq_getElem (by have := HN.out; omega)⟩
   obtain ⟨b, off, rfl, hb, d0⟩ := H.out.elem hs
   have d0' : w.cell? ⟨b, off + k, none⟩ = some (.int .i64 s) := d0
   have HFs := hid (HF.out s)
   have HA := hid ha
   have HS := hid hs
   clear ha hs d0
   obtain ⟨b1, hb1⟩ : ∃ b1, b1 = f s := ⟨_, rfl⟩
   rw [<- hb1] at HFs
   have HB1 := hid hb1
   clear hb1
   cases b1 with
   | true =>
    have HRR := hid (HR.out.trans (indexG_some HS.out HB1.out.symm HA.out))
    go_wp2
    refine HFs.out.mono ?_
    rintro e w2 ⟨rfl, hw⟩
    replace hw := hw.symm
    subst hw
    go_wp2
    go_ret
    exact ⟨by rw [HRR.out]; rfl, rfl⟩
   | false =>
    go_wp2
    refine HFs.out.mono ?_
    rintro e w2 ⟨rfl, hw⟩
    replace hw := hw.symm
    subst hw
    go_wp2
    go_round
    case rel => exact ⟨k + 1, by omega, by go_num, take_step HS.out HB1.out.symm HA.out⟩
    case measure => simp [intOf]; omega
  ·obtain rfl : k = n := by omega
   have HRR := hid (HR.out.trans (indexG_none fun y hy => ha y (by rw [HN.out, List.take_length]; exact hy)))
   clear ha
   go_wp2
   go_ret
   exact ⟨by rw [HRR.out]; rfl, rfl⟩
theorem containsFuncE_any (g : Nat) (lb : Array Value) (f : Int -> Bool) (v : Value) (l : List Int) (w : World) (h : IsSlE encZ w v l) (hn : l.length <= 1000000)
  (eg : ∀ args w, (callFunc g args).run Tryz.prog w = .ok (.enter g args) w)
  (hf : ∀ s W, Below w.heap.size w W -> Calls Tryz.prog g (#[.int .i64 s] ++ lb) W fun e w' => e = .returned (.bool (f s)) /\ w' = W) :
  Calls Tryz.prog 51 #[v, .func (.func g) #[] lb] w fun e w' => e = .returned (.bool (l.any f)) /\ w' = w := by
 have HI := hid (indexFuncE_any g lb f v l w h hn eg hf)
 rw [<- indexG_any]
 obtain ⟨a, cap, rfl⟩ := h.form
 clear h hf eg
 generalize indexG f l = z at HI ⊢
 go_enter Tryz.func51, Tryz.ntmps51
 go_wp2_with (go_at_call 90; refine HI.out.mono ?_; rintro e w2 ⟨rfl, hw⟩; replace hw := hw.symm; subst hw)
 go_ret
 exact ⟨rfl, rfl⟩
theorem right1_any (x : Int) (n : Nat) (B : Nat) (W : World) (hB : W.cell? ⟨B, 0, none⟩ = some (.int .i64 n)) :
  Calls Tryz.prog 52 #[.int .i64 x, .pointer (some ⟨B, 0, none⟩)] W fun e w' => e = .returned (.bool (!inN n x)) /\ w' = W := by
 unfold inN
 by_cases h1 : x < 0
 ·have d1 : decide (x < 0) = true := decide_eq_true h1
  have d2 : decide (0 <= x) = false := decide_eq_false (by omega)
  go_enter Tryz.func52, Tryz.ntmps52
  go_wp2
  go_ret
  exact ⟨by rw [d2]; rfl, rfl⟩
 ·have d1 : decide (x < 0) = false := decide_eq_false h1
  have d2 : decide (0 <= x) = true := decide_eq_true (by omega)
  by_cases h2 : (n : Int) <= x
  ·have d3 : decide ((n : Int) <= x) = true := decide_eq_true h2
   have d4 : decide (x < (n : Int)) = false := decide_eq_false (by omega)
   go_enter Tryz.func52, Tryz.ntmps52
   go_wp2
   go_ret
   exact ⟨rfl, rfl⟩
  ·have d3 : decide ((n : Int) <= x) = false := decide_eq_false h2
   have d4 : decide (x < (n : Int)) = true := decide_eq_true (by omega)
   go_enter Tryz.func52, Tryz.ntmps52
   go_wp2
   go_ret
   exact ⟨rfl, rfl⟩
theorem eg_right1 : ∀ args w, (callFunc 52 args).run Tryz.prog w = .ok (.enter 52 args) w := fun args w => by kernel_rfl

theorem list_ne {α : Type} [BEq α] [LawfulBEq α] {l m : List α} {k : Nat} {x y : α} (hx : l[k]? = some x) (hy : m[k]? = some y) (h : x ≠ y) : (l == m) = false := by
 rw [beq_eq_false_iff_ne]
 intro e
 subst e
 rw [hx] at hy
 exact h (Option.some.inj hy)
theorem list_eq_of {α : Type} [BEq α] [LawfulBEq α] {l m : List α} {n : Nat} (h1 : l.length = n) (h2 : m.length = n) (h : ∀ i x y, i < n -> l[i]? = some x -> m[i]? = some y -> x = y) : (l == m) = true := by
 rw [beq_iff_eq]
 refine List.ext_getElem (by omega) fun i a b => ?_
 exact h i _ _ (by omega) (List.getElem?_eq_getElem a) (List.getElem?_eq_getElem b)
theorem list_len_ne {α : Type} [BEq α] [LawfulBEq α] {l m : List α} (h : l.length ≠ m.length) : (l == m) = false := by
 rw [beq_eq_false_iff_ne]
 intro e; rw [e] at h; exact h rfl

theorem setsEq_any (v1 v2 : Value) (l1 l2 : List BS) (w : World) (h1 : IsSets w v1 l1) (h2 : IsSets w v2 l2) (hn : l1.length <= 1000000) :
  Calls Tryz.prog 47 #[v1, v2] w fun e w' => e = .returned (.bool (l1 == l2)) /\ Ext w w' := by
 obtain ⟨a1, c1, rfl⟩ := h1.form
 obtain ⟨a2, c2, rfl⟩ := h2.form
 obtain ⟨n, hnn⟩ : ∃ n, n = l1.length := ⟨_, rfl⟩
 obtain ⟨m, hmm⟩ : ∃ m, m = l2.length := ⟨_, rfl⟩
 rw [<- hnn] at h1 hn ⊢
 rw [<- hmm] at h2 ⊢
 have HN := hid hnn
 have HM := hid hmm
 have H1 := hid h1
 have H2 := hid h2
 have HE := hid fun s t W => set_equal s t W
 by_cases hnm : n = m
 ·subst hnm
  obtain ⟨r, hr⟩ : ∃ r, r = (l1 == l2) := ⟨_, rfl⟩
  rw [<- hr]
  have HR := hid hr
  clear h1 h2 hnn hmm hr
  go_enter Tryz.func47, Tryz.ntmps47
  go_wp2
  go_loopw [13] (fun i wr => ∃ k : Nat, k <= n /\ i = .int .i64 k /\ (∀ i x y, i < k -> l1[i]? = some x -> l2[i]? = some y -> x = y) /\ Ext w wr) (fun i _ => n - (intOf i).toNat)
  case atStart => exact ⟨0, by omega, rfl, fun i x y hi => by omega, Ext.refl _⟩
  case round =>
   obtain ⟨k, hk, rfl, ha, hx⟩ := hrel
   obtain ⟨wo, rfl⟩ : ∃ wo : World, wo = wr := ⟨_, rfl⟩
   have HX := hid hx
   have HA := hid ha
   clear ha
   by_cases hlt : k < n
   ·obtain ⟨s, hs⟩ : ∃ s, l1[k]? = some s := ⟨_, List.getElem?_eq_getElem (by have := HN.out; omega)⟩
    obtain ⟨t, ht⟩ : ∃ t, l2[k]? = some t := ⟨_, List.getElem?_eq_getElem (by have := HM.out; omega)⟩
    obtain ⟨b, off, rfl, hb, d0, d1, d2, d3⟩ := (H1.out.below hx.below).elem hs
    obtain ⟨b', off', rfl, hb', e0, e1, e2, e3⟩ := (H2.out.below hx.below).elem ht
    have hki : (k : Int) < n := by omega
    have HS := hid hs
    have HT := hid ht
    obtain ⟨q, hq⟩ : ∃ q, q = (s == t) := ⟨_, rfl⟩
    have heq : ∀ W, (Op.equalIn 10000 70 (.agg #[.int .u64 (wd s 0).toNat, .int .u64 (wd s 1).toNat, .int .u64 (wd s 2).toNat, .int .u64 (wd s 3).toNat]) (.agg #[.int .u64 (wd t 0).toNat, .int .u64 (wd t 1).toNat, .int .u64 (wd t 2).toNat, .int .u64 (wd t 3).toNat])).run Tryz.prog W = .ok q W := fun W => by
     have h1 := HE.out s t W
     rw [<- hq] at h1
     exact h1
    have HQ := hid hq
    clear hs ht hx hq
    cases q with
    | true =>
     go_wp2
     go_quiet (fail)
     go_wp2
     exact ⟨⟨k + 1, by omega, by go_num, fun i x y hi hx hy => by
      by_cases e : i = k
      ·subst e
       rw [HS.out] at hx; rw [HT.out] at hy; cases hx; cases hy
       exact beq_iff_eq.1 HQ.out.symm
      ·exact HA.out i x y (by omega) hx hy, ext_drewN HX.out nq⟩, by simp [intOf]; omega⟩
    | false =>
     have HRR := hid (HR.out.trans (list_ne HS.out HT.out (beq_eq_false_iff_ne.1 HQ.out.symm)))
     go_wp2
     go_quiet (fail)
     go_wp2
     go_ret
     exact ⟨by rw [HRR.out]; rfl, ext_drewN HX.out nq⟩
   ·obtain rfl : k = n := by omega
    have HRR := hid (HR.out.trans (list_eq_of HN.out.symm HM.out.symm HA.out))
    clear hx
    go_wp2
    go_ret
    exact ⟨by rw [HRR.out]; rfl, HX.out⟩
 ·have e1 : (l1 == l2) = false := list_len_ne (by omega)
  have d1 : decide ((n : Int) = m) = false := decide_eq_false (by omega)
  rw [e1]
  clear h1 h2 hnn hmm e1 d1
  have d2 : ((n : Int) == (m : Int)) = false := by rw [beq_eq_false_iff_ne]; omega
  have d3 : ((n : Int) != (m : Int)) = true := by simp; omega
  have d4 : (n == m) = false := by rw [beq_eq_false_iff_ne]; exact hnm
  go_enter Tryz.func47, Tryz.ntmps47
  go_wp2
  go_ret
  exact ⟨rfl, Ext.refl _⟩
end Go.Proofs.YtbiboekhakbnpaaGreatDoor
