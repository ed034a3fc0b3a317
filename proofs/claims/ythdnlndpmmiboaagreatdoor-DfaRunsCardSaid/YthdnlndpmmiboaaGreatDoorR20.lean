/-
  Opening an automaton that comes by value, by the form's own reach.
  The law's lists. Printed by wip/gen/sed18.py.
  product.First.
  Lists of numbers that are filled one by one.
  The reference's product: all classes behind each other, as one drawn region leaves them.
  Rows of numbers that are kept while others grow.
  The law's theirs once more: what it makes is its own. And what an automaton's own blocks are not.
-/
import Derived.Test.YthdnlndpmmiboaaGreatDoorR19
import Derived.SizedLaws
import Derived.Test.YthdnlndpmmiboaaGreatDoorR13
import Derived.WalkMore
import Derived.Test.YthdnlndpmmiboaaGreatDoorR02
import Derived.Test.YthdnlndpmmiboaaGreatDoorR11
import Derived.Test.YthdnlndpmmiboaaGreatDoorR15
import Derived.Test.YthdnlndpmmiboaaGreatDoorR18
namespace Go.Proofs.YthdnlndpmmiboaaGreatDoor
open Go Go.ChangeShapes Go.WideShapes Go.ChangeAt Go.RowKit Go.Deep
section
variable {H : Type} {enc : TypeId × Value → H} {W : World}

theorem sized_arg {P : Program} {ts : List TypeId} {ds : List (DataW H)} (h : (DataW.weightsEach P ts ds).all (· ≤ reachBytes) = true) {j : Nat} {t : TypeId} {d : DataW H} (ht : ts[j]? = some t) (hd : ds[j]? = some d) : ∀ n ∈ d.weights P t, n ≤ reachBytes := fun n hn => by
  simpa using List.all_eq_true.1 h _ (DataW.weights_mem_each ht hd n hn)
theorem weightsAll_in {P : Program} {e : TypeId} : ∀ {l : List (DataW H)} {d : DataW H}, d ∈ l → ∀ n ∈ d.weights P e, n ∈ DataW.weightsAll P e l
  | x :: l, d, h, n, hn => by
    simp only [DataW.weightsAll, List.mem_append]
    rcases List.mem_cons.1 h with rfl | h
    · exact .inl hn
    · exact .inr (weightsAll_in h n hn)
theorem slice_sized {t e : TypeId} {fuel : Nat} {a : Option Addr} {n c : Nat} {x : DataW H × List MemPlace} (ht : Tryz.prog.underlying t = some (.slice e)) (hb : 8 ≤ Tryz.prog.bytesOf e) (h : DataW.trod enc Tryz.prog W 0 (fun _ => true) true fuel t [.slice a n c] = some x)
    (hs : ∀ m ∈ x.1.weights Tryz.prog t, m ≤ reachBytes) : n ≤ 17592186044416 := by
  rcases open_slice ht h with ⟨hcs, _⟩ | ⟨a', len, cap, m, k, D, Pl, hcs, _, _, _, _, rfl, _⟩
  · have : Value.slice a n c = .slice none 0 0 := by simpa using hcs
    cases this
    omega
  · have : Value.slice a n c = .slice (some a') len cap := by simpa using hcs
    cases this
    have h1 := hs ((((List.range n).map D).length + ((List.range (m - n)).map fun j => D (n + j)).length) * Tryz.prog.bytesOf e) (by simp [DataW.weights, ht])
    have h2 : n * 8 ≤ (((List.range n).map D).length + ((List.range (m - n)).map fun j => D (n + j)).length) * Tryz.prog.bytesOf e := Nat.mul_le_mul (by simp) hb
    unfold reachBytes at h1
    omega
set_option maxRecDepth 100000 in
theorem open_llS {fuel : Nat} {r : Go.Reach} {b0 : Nat} {u : Value} {x : DataW H × List MemPlace} (hok : Value.okWide Tryz.prog W r b0 27 u) (h : DataW.trod enc Tryz.prog W 0 (fun _ => true) true fuel 27 [u] = some x) (hz : ∀ m ∈ x.1.weights Tryz.prog 27, m ≤ reachBytes) :
    ∃ ll, IsLLe W u ll ∧ ll.length ≤ 17592186044416 ∧ ∀ l ∈ ll, l.length ≤ 17592186044416 := by
  obtain ⟨a, len, cap, rfl⟩ := okWide_slice Tryz.underlying27 hok
  have hb24 : 8 ≤ Tryz.prog.bytesOf 33 := by
    have : Tryz.prog.bytesOf 33 = 24 := by kernel_rfl
    omega
  have h0 := slice_sized Tryz.underlying27 hb24 h hz
  have hb8 : 8 ≤ Tryz.prog.bytesOf 3 := by
    have : Tryz.prog.bytesOf 3 = 8 := by kernel_rfl
    omega
  rcases open_slice1 Tryz.underlying27 (by kernel_rfl) h with ⟨hcs, _⟩ | ⟨a', len', cap', m, k, V, D, Pl, hcs, _, hl, hm, hmm, rfl, hi⟩
  · have : Value.slice a len cap = .slice none 0 0 := by simpa using hcs
    cases this
    exact ⟨[], ⟨[], rfl, .inl ⟨rfl, rfl⟩, by simp⟩, by simp, by simp⟩
  · have : Value.slice a len cap = .slice (some a') len' cap' := by simpa using hcs
    cases this
    obtain ⟨hs, hb⟩ := okWide_row Tryz.underlying27 hok
    obtain ⟨b, off, spot⟩ := a'
    have hs' : spot = none := hs
    subst hs'
    rw [if_pos rfl] at hmm
    have hD : ∀ i, i < len → ∀ w ∈ (D i).weights Tryz.prog 33, w ≤ reachBytes := fun i hil w hw => by
      refine hz w ?_
      simp only [DataW.weights, Tryz.underlying27, List.mem_cons, List.mem_append]
      exact .inr (.inl (weightsAll_in (List.mem_map.2 ⟨i, List.mem_range.2 hil, rfl⟩) w hw))
    obtain ⟨L, hL⟩ := choose_lt (α := List Int) (p := fun i l => IsSlE encZ W (V i) l ∧ l.length ≤ 17592186044416) (n := len) (fun i hil => by
      have h2 := (hi i (by omega)).2
      obtain ⟨l, h3, _⟩ := inner_ints h2
      refine ⟨l, h3, ?_⟩
      obtain ⟨a2, c2, e2⟩ := h3.form
      rw [e2] at h2
      exact slice_sized Tryz.underlying33 hb8 h2 (hD i hil))
    refine ⟨(List.range len).map L, ⟨(List.range len).map V, by simp, .inr ⟨b, off, cap, by simp, hb, by simpa using hl, fun i y hy => ?_⟩, fun i u l hu hl' => ?_⟩, by simpa using h0, fun l hl' => ?_⟩
    · simp only [List.getElem?_map, Option.map_eq_some_iff, List.getElem?_eq_some_iff] at hy
      obtain ⟨j, ⟨hj, rfl⟩, rfl⟩ := hy
      simp at hj ⊢
      have := (hi i (by omega)).1
      rwa [add_plain] at this
    · simp only [List.getElem?_map, Option.map_eq_some_iff, List.getElem?_eq_some_iff] at hu hl'
      obtain ⟨j, ⟨hj, rfl⟩, rfl⟩ := hu
      obtain ⟨j', ⟨hj', rfl⟩, rfl⟩ := hl'
      simp at hj ⊢
      exact (hL i hj).1
    · obtain ⟨i, hi2, rfl⟩ := List.mem_map.1 hl'
      exact (hL i (List.mem_range.1 hi2)).2
set_option maxRecDepth 100000 in
theorem open_dfaS {r : Go.Reach} {v : Value} {d : DataW H} {p : List MemPlace} {b0 : Nat} (hok : Value.okWide Tryz.prog W r b0 29 v) (h : DataW.Trod enc Tryz.prog W 0 (fun _ => true) true 29 v d p) (hz : ∀ m ∈ d.weights Tryz.prog 29, m ≤ reachBytes) :
    ∃ D : DF, IsDfe W v D ∧ Big D := by
  obtain ⟨v0, v1, v2, rfl, k0, k1, k2⟩ := dfa_okParts hok
  obtain ⟨fuel, hf⟩ := h
  obtain ⟨y0, y1, y2, n, e, _, t0, t1, t2⟩ := trod_struct3 Tryz.underlying29 hf
  replace t0 : DataW.trod enc Tryz.prog W 0 (fun _ => true) true n 26 [v0] = some y0 := t0
  replace t1 : DataW.trod enc Tryz.prog W 0 (fun _ => true) true n 27 [v1] = some y1 := t1
  replace t2 : DataW.trod enc Tryz.prog W 0 (fun _ => true) true n 27 [v2] = some y2 := t2
  have e1 : d = .agg [y0.1, y1.1, y2.1] := congrArg Prod.fst e
  subst e1
  have hz0 : ∀ m ∈ y0.1.weights Tryz.prog 26, m ≤ reachBytes := fun m hm => hz m (by
    simp only [DataW.weights, Tryz.underlying29]
    exact DataW.weights_mem_each (j := 0) (ds := [y0.1, y1.1, y2.1]) rfl rfl m hm)
  have hz1 : ∀ m ∈ y1.1.weights Tryz.prog 27, m ≤ reachBytes := fun m hm => hz m (by
    simp only [DataW.weights, Tryz.underlying29]
    exact DataW.weights_mem_each (j := 1) (ds := [y0.1, y1.1, y2.1]) rfl rfl m hm)
  have hz2 : ∀ m ∈ y2.1.weights Tryz.prog 27, m ≤ reachBytes := fun m hm => hz m (by
    simp only [DataW.weights, Tryz.underlying29]
    exact DataW.weights_mem_each (j := 2) (ds := [y0.1, y1.1, y2.1]) rfl rfl m hm)
  obtain ⟨a0, n0, c0, rfl⟩ := okWide_slice Tryz.underlying26 k0
  obtain ⟨l0, _, s0⟩ := open_setsC (enc := enc) (d := y0.1) (p := y0.2) k0 ⟨n, t0⟩
  have hb32 : 8 ≤ Tryz.prog.bytesOf 65 := by
    have : Tryz.prog.bytesOf 65 = 32 := by kernel_rfl
    omega
  have b0 := slice_sized Tryz.underlying26 hb32 t0 hz0
  have f0 : n0 = l0.length := by
    obtain ⟨a, c, e⟩ := s0.1.form
    injection e
  obtain ⟨l1, s1, b1, m1⟩ := open_llS k1 t1 hz1
  obtain ⟨l2, s2, b2, m2⟩ := open_llS k2 t2 hz2
  exact ⟨⟨l0, l1, l2⟩, ⟨_, _, _, rfl, s0, s1, s2⟩, ⟨by show l0.length ≤ _; omega, b1, b2, m1, m2⟩⟩
end
end Go.Proofs.YthdnlndpmmiboaaGreatDoor
namespace Go.Proofs.YthdnlndpmmiboaaGreatDoor
open Go Go.RowKit Go.Shelf Go.Maps

set_option maxRecDepth 100000 in
set_option maxHeartbeats 1000000 in
theorem listsE18_any (v : Value) (ll : List (List Int)) (w : World) (h : IsLLe w v ll) (hn : ll.length ≤ 1000000) (hs : ∀ l ∈ ll, l.length ≤ 1000000) :
    Calls Tryz.prog 43 #[v] w fun e w' => ∃ u, e = .returned u ∧ OwnLL w.heap.size w' u ll ∧ Below w.heap.size w w' := by
  obtain ⟨i0, hi, hz0, hz1, hz2⟩ := info_parts Tryz.infoL
  obtain ⟨a, cap, rfl⟩ := h.form
  obtain ⟨n, hnn⟩ : ∃ n, n = ll.length := ⟨_, rfl⟩
  rw [← hnn] at h hn ⊢
  have H := Lib.hid h
  have HN := Lib.hid hnn
  have HS := Lib.hid hs
  clear h hnn hs
  go_enter Tryz.func43, Tryz.ntmps43
  go_wp2
  go_loopw [8, 3] (fun i u wr => ∃ k : Nat, k ≤ n ∧ i = .int .i64 k ∧ OwnLL w.heap.size wr u (ll.take k) ∧ Below w.heap.size w wr) (fun i _ _ => n - (intOf i).toNat)
  case atStart => exact ⟨0, by omega, rfl, OwnLL.nil _ _, Below.refl _ _⟩
  case round =>
    obtain ⟨k, hk, rfl, ho, hx⟩ := hrel
    obtain ⟨wo, rfl⟩ : ∃ wo : World, wo = wr := ⟨_, rfl⟩
    by_cases hlt : k < n
    · obtain ⟨l, hl⟩ : ∃ l, ll[k]? = some l := ⟨_, List.getElem?_eq_getElem (by have := HN.out; omega)⟩
      obtain ⟨b, off, a', c', rfl, hb, c1, hsl⟩ := (H.out.below hx).elem hl
      have hll := HS.out l (List.mem_of_getElem? hl)
      have htk : ll.take (k + 1) = ll.take k ++ [l] := by rw [List.take_add_one, hl]; rfl
      have hlen : (ll.take k).length ≤ 1000000 := by rw [List.length_take]; omega
      obtain ⟨us, u1, u2, u3⟩ := ho
      obtain ⟨m, hm⟩ : ∃ m, m = us.length := ⟨_, rfl⟩
      have hmm : m ≤ 1000000 := by omega
      obtain ⟨j, hj⟩ : ∃ j, j = l.length := ⟨_, rfl⟩
      rw [← hj] at c1 hsl hll
      rw [← hm] at u1 u2
      have HM := Lib.hid hm
      have HJ := Lib.hid hj
      have u2' := u2
      obtain ⟨a5, c5, rfl⟩ := ownsRow_form u2'
      have U2 := Lib.hid u2
      have U3 := Lib.hid u3
      have U1 := Lib.hid u1
      have HX := Lib.hid hx
      have HT := Lib.hid htk
      have HSL := Lib.hid hsl
      clear hx htk hsl u1 u2 u2' u3 hm hj hl hlen
      go_wp2_with fail
      refine (cloneIntsE_any _ l _ HSL.out (by have := HJ.out; omega)).mono ?_
      rintro e w1 ⟨ur, rfl, hr, hx⟩
      obtain ⟨a6, c6, rfl⟩ := ownsRow_form hr
      have hsz : w.heap.size ≤ wo.heap.size := HX.out.size
      have hsz1 : w.heap.size ≤ w1.heap.size := Nat.le_trans hsz hx.size
      have R1 := Lib.hid (ownsRow_base hr hsz)
      have V2 := Lib.hid (ownsRow_below U2.out hx)
      have V3 := Lib.hid fun i u l hu hl => ownsRow_below (U3.out i u l hu hl) hx
      have X1 := Lib.hid (HX.out.trans (hx.mono HX.out.size))
      clear hr hx c1 HSL U2 U3 HX
      go_wp2_with (at_builtin; refine wpList_append_own_at _ rfl (.tmp 12) (.tmp 15) 27 rfl w.heap.size 33 i0 (.slice none 0 0) 1 24 Tryz.underlying27 hi hz0 hz1 hz2 rfl (by decide) _ _ _ rfl (V2.out.alloc _) ⟨w1.heap.size, 0, none⟩ 1 1 [.slice a6 l.length c6] rfl rfl (cell_one _ _ _) (by simp [Value.oneCell']) (by unfold maxLen; omega) (by omega) (by simp; omega) ?_; intro v' w2 hown' hgrow hh hat; have HO2 := Lib.hid hown'; have HG := Lib.hid hgrow; clear hown' hgrow hh hat)
      go_roundw
      case rel =>
        refine ⟨k + 1, by omega, by go_num, ?_, ?_⟩
        · rw [HT.out]
          refine OwnLL.snoc (w := w1.alloc (.cells #[.slice a6 l.length c6] 33)) (v := .slice a5 m c5) (by rw [← HM.out]; exact U1.out) (by rw [← HM.out]; exact V2.out.alloc _) (fun i u l hu hl => (V3.out i u l hu hl).alloc _) (R1.out.alloc _) HG.out (by rw [← HM.out]; exact HO2.out)
        · exact (X1.out.alloc X1.out.size _).grown HG.out (by have := X1.out.size; simp; omega) (fun c e => (V2.out.lt c e).1)
      case measure => simp [intOf]; omega
    · obtain rfl : k = n := by omega
      have htk : ll.take k = ll := by rw [HN.out]; exact List.take_length
      rw [htk] at ho
      have HO := Lib.hid ho
      have HX := Lib.hid hx
      clear ho hx htk
      go_wp2
      go_ret
      exact ⟨_, rfl, HO.out, HX.out⟩
end Go.Proofs.YthdnlndpmmiboaaGreatDoor
namespace Go.Proofs.YthdnlndpmmiboaaGreatDoor
open Go Go.RowKit Go.Shelf Go.Maps
attribute [local go_sem] encS

theorem made_ints (n : Nat) : (madeCells (Value.int .i64 0).cells (n * 1)).toList = (List.replicate n (0 : Int)).map encZ := by
  apply List.ext_getElem?
  intro k
  simp only [madeCells, Value.cells, Nat.mul_one, Array.toList_map, Array.toList_range, List.map_replicate, List.getElem?_map, List.getElem?_replicate]
  by_cases h : k < n
  · rw [List.getElem?_range h, if_pos h]; simp [encZ, Nat.mod_one]
  · rw [List.getElem?_eq_none (by simpa using h), if_neg h]; rfl
end Go.Proofs.YthdnlndpmmiboaaGreatDoor
namespace Go.Proofs.YthdnlndpmmiboaaGreatDoor
open Go Go.RowKit Go.Shelf Go.Maps
attribute [local go_sem] encS

/-- A list whose first k numbers are told by f, and the others are 0. -/
def UpTo (f : Nat → Int) (k n : Nat) (l : List Int) : Prop := l.length = n ∧ ∀ j, j < n → l.getD j 0 = if j < k then f j else 0
theorem UpTo.zero (f : Nat → Int) (n : Nat) : UpTo f 0 n (List.replicate n 0) := ⟨List.length_replicate, fun j _ => by rw [getD_rep, if_neg (by omega)]⟩
theorem UpTo.set {f : Nat → Int} {k n : Nat} {l : List Int} (h : UpTo f k n l) (hk : k < n) : UpTo f (k + 1) n (l.set k (f k)) := ⟨by rw [List.length_set, h.1], fun j hj => by
  rw [getD_set l k j (f k) (by rw [h.1]; exact hk)]
  by_cases e : j = k
  · rw [if_pos e, e, if_pos (by omega)]
  · rw [if_neg e, h.2 j hj]
    by_cases e2 : j < k
    · rw [if_pos e2, if_pos (by omega)]
    · rw [if_neg e2, if_neg (by omega)]⟩
end Go.Proofs.YthdnlndpmmiboaaGreatDoor
namespace Go.Proofs.YthdnlndpmmiboaaGreatDoor
open Go Go.RowKit Go.Shelf Go.Maps
attribute [local go_sem] encS

theorem IsArrs.news {w : World} {b off n cap : Nat} {fs : List (Nat → Int)} (h : IsArrs w (.slice (some ⟨b, off, none⟩) n cap) fs) : ∀ j u, (flatA fs)[j]? = some u → w.cell? ((⟨b, off, none⟩ : Addr).add j) = some u := fun j u hj => by
  have hlt := (List.getElem?_eq_some_iff.1 hj).1
  rw [flatA_length] at hlt
  have hi : j / 256 < fs.length := by omega
  obtain ⟨f, hf⟩ : ∃ f, fs[j / 256]? = some f := ⟨_, List.getElem?_eq_getElem hi⟩
  obtain ⟨b', o', e, _, hc⟩ := h.elem hf
  cases e
  have h1 := flatA_get fs hf (j := j % 256) (Nat.mod_lt _ (by omega))
  rw [show j / 256 * 256 + j % 256 = j by omega, hj] at h1
  cases h1
  have h2 := hc (j % 256) (Nat.mod_lt _ (by omega))
  rw [show off + j / 256 * 256 + j % 256 = off + j by omega] at h2
  rw [Addr.add_mid]
  exact h2
end Go.Proofs.YthdnlndpmmiboaaGreatDoor
namespace Go.Proofs.YthdnlndpmmiboaaGreatDoor
open Go Go.RowKit Go.Shelf Go.Maps

theorem Far.step {u v v' : Value} {N : Nat} (h : Far u v) (ho : v'.ownBlock = v.ownBlock ∨ ∀ x, v'.ownBlock = some x → N ≤ x) (hu : ∀ b, u.ownBlock = some b → b < N) : Far u v' := by
  rcases h with h | h
  · exact .inl h
  · by_cases e : u.ownBlock = none
    · exact .inl e
    · right
      intro e2
      rcases ho with h2 | h2
      · exact h (by rw [e2, h2])
      · cases hb : u.ownBlock with
        | none => exact e hb
        | some b => have h3 := hu b hb; have h4 := h2 b (by rw [← e2, hb]); omega
/-- All rows of a list lie in a world. -/
def RowsIn (W : World) (base : Nat) (us : List Value) (ll : List (List Int)) : Prop := ∀ (i : Nat) (u : Value) (l : List Int), us[i]? = some u → ll[i]? = some l → W.ownsRow base 3 1 u l.length (l.map encZ)
theorem RowsIn.nil (W : World) (base : Nat) : RowsIn W base [] [] := fun i u l h => by simp at h
theorem RowsIn.snoc {W : World} {base n : Nat} {us : List Value} {ll : List (List Int)} {u : Value} {l : List Int} (h : RowsIn W base us ll) (h1 : us.length = n) (h2 : ll.length = n) (hn : W.ownsRow base 3 1 u l.length (l.map encZ)) : RowsIn W base (us ++ [u]) (ll ++ [l]) := fun i x y hx hy => by
  by_cases hi : i < n
  · rw [List.getElem?_append_left (by omega)] at hx hy
    exact h i x y hx hy
  · have hil := (List.getElem?_eq_some_iff.1 hx).1
    simp at hil
    obtain rfl : i = n := by omega
    rw [List.getElem?_append_right (by omega), h1, Nat.sub_self] at hx
    rw [List.getElem?_append_right (by omega), h2, Nat.sub_self] at hy
    cases hx
    cases hy
    exact hn
theorem RowsIn.keeps {W W' : World} {base : Nat} {us : List Value} {ll : List (List Int)} (h : RowsIn W base us ll) {R : Nat → Prop} (hk : Keeps R W W') (hr : ∀ u x, u ∈ us → u.ownBlock = some x → x < W.heap.size → R x) : RowsIn W' base us ll := fun i u l hu hl =>
  ownsRow_keeps (h i u l hu hl) hk fun x hx => hr u x (List.mem_of_getElem? hu) hx ((h i u l hu hl).lt x hx).2
theorem RowsIn.kept {W W' : World} {base b2 m : Nat} {us : List Value} {ll : List (List Int)} {tv : Value} {xs : List Value} (h : RowsIn W base us ll) (ht : W.ownsRow b2 33 1 tv m xs) (hg : W.grownBy W' tv.ownBlock) : RowsIn W' base us ll := fun i u l hu hl =>
  (h i u l hu hl).kept hg (ownBlock_ne (by decide) (h i u l hu hl) ht)
theorem RowsIn.alloc {W : World} {base : Nat} {us : List Value} {ll : List (List Int)} (h : RowsIn W base us ll) (o : Obj) : RowsIn (W.alloc o) base us ll := fun i u l hu hl => (h i u l hu hl).alloc o
theorem RowsIn.lt {W : World} {base n : Nat} {us : List Value} {ll : List (List Int)} (h : RowsIn W base us ll) (h1 : us.length = n) (h2 : ll.length = n) {u : Value} (hu : u ∈ us) : ∀ b, u.ownBlock = some b → base ≤ b ∧ b < W.heap.size := fun b e => by
  obtain ⟨i, hi⟩ := List.getElem?_of_mem hu
  have hil := (List.getElem?_eq_some_iff.1 hi).1
  exact (h i u _ hi (List.getElem?_eq_getElem (by omega))).lt b e
theorem RowsIn.ll {W : World} {base n : Nat} {us : List Value} {ll : List (List Int)} {v : Value} (h : RowsIn W base us ll) (h1 : us.length = n) (h2 : ll.length = n) (ho : W.ownsRow base 33 1 v n us) : OwnLL base W v ll := ⟨us, by omega, by rw [h1]; exact ho, h⟩
theorem row_other {W W' : World} {o : Obj} {b2 m2 s2 : Nat} {tv : Value} {ys : List Value} (ht : W.ownsRow b2 33 s2 tv m2 ys) (hg : (W.alloc o).grownBy W' tv.ownBlock) {e : TypeId} {bs sz m : Nat} {u : Value} {xs : List Value} (h : W.ownsRow bs e sz u m xs) (he : e ≠ 33) : W'.ownsRow bs e sz u m xs :=
  (h.alloc o).kept hg (ownBlock_ne he (h.alloc o) (ht.alloc o))
theorem RowsIn.other {W W' : World} {o : Obj} {base b2 m : Nat} {us : List Value} {ll : List (List Int)} {tv : Value} {xs : List Value} (h : RowsIn W base us ll) (ht : W.ownsRow b2 33 1 tv m xs) (hg : (W.alloc o).grownBy W' tv.ownBlock) : RowsIn W' base us ll := fun i u l hu hl => row_other ht hg (h i u l hu hl) (by decide)
theorem RowsIn.below {W W' : World} {base : Nat} {us : List Value} {ll : List (List Int)} (h : RowsIn W base us ll) (hk : Below W.heap.size W W') : RowsIn W' base us ll := fun i u l hu hl => ownsRow_below (h i u l hu hl) hk
theorem Far.new {W : World} {base n size : Nat} {e : TypeId} {v : Value} {xs : List Value} (h : W.ownsRow base e size v n xs) (k c : Nat) : Far (.slice (some ⟨W.heap.size, 0, none⟩) k c) v := .inr fun he => by
  have h1 : v.ownBlock = some W.heap.size := he.symm
  have := (h.lt _ h1).2
  omega
end Go.Proofs.YthdnlndpmmiboaaGreatDoor
namespace Go.Proofs.YthdnlndpmmiboaaGreatDoor
open Go Go.RowKit Go.Shelf Go.Maps

/-- The reference's automaton, in memory of its own. -/
def OwnRf (base : Nat) (w : World) (v : Value) (d : DF) : Prop := ∃ v0 v1 v2, v = .agg #[v0, v1, v2] ∧ w.ownsRow base 91 256 v0 (d.cl.map refS).length (flatA (d.cl.map refS)) ∧ OwnLL base w v1 d.nx ∧ OwnLL base w v2 d.mr
theorem OwnRf.rf {base : Nat} {w : World} {v : Value} {d : DF} (h : OwnRf base w v d) : IsRf w v d := by
  obtain ⟨v0, v1, v2, e, h0, h1, h2⟩ := h
  exact ⟨v0, v1, v2, e, ownsRow_arrs h0, h1.ll, h2.ll⟩
theorem OwnRf.below {base : Nat} {w w' : World} {v : Value} {d : DF} (h : OwnRf base w v d) (hk : Below w.heap.size w w') : OwnRf base w' v d := by
  obtain ⟨v0, v1, v2, e, h0, h1, h2⟩ := h
  exact ⟨v0, v1, v2, e, ownsRow_below h0 hk, h1.below hk, h2.below hk⟩
theorem OwnRf.base {base base' : Nat} {w : World} {v : Value} {d : DF} (h : OwnRf base w v d) (hb : base' ≤ base) : OwnRf base' w v d := by
  obtain ⟨v0, v1, v2, e, h0, h1, h2⟩ := h
  exact ⟨v0, v1, v2, e, ownsRow_base h0 hb, h1.base hb, h2.base hb⟩
theorem OwnRf.keeps {base : Nat} {w w' : World} {v : Value} {d : DF} (h : OwnRf base w v d) {R : Nat → Prop} (hk : Keeps R w w') (hr : ∀ k, base ≤ k → k < w.heap.size → R k) : OwnRf base w' v d := by
  obtain ⟨v0, v1, v2, e, h0, h1, h2⟩ := h
  exact ⟨v0, v1, v2, e, ownsRow_keepsB h0 hk hr, h1.keeps hk hr, h2.keeps hk hr⟩
theorem OwnRf.form {base : Nat} {w : World} {v : Value} {d : DF} (h : OwnRf base w v d) : ∃ a0 c0 a1 c1 a2 c2, v = .agg #[.slice a0 d.cl.length c0, .slice a1 d.nx.length c1, .slice a2 d.mr.length c2] := by
  obtain ⟨v0, v1, v2, rfl, h0, h1, h2⟩ := h
  rw [List.length_map] at h0
  obtain ⟨a0, c0, rfl⟩ := ownsRow_form h0
  obtain ⟨a1, c1, rfl⟩ := h1.form
  obtain ⟨a2, c2, rfl⟩ := h2.form
  exact ⟨_, _, _, _, _, _, rfl⟩
theorem OwnDf.form {base : Nat} {w : World} {v : Value} {d : DF} (h : OwnDf base w v d) : ∃ a0 c0 a1 c1 a2 c2, v = .agg #[.slice a0 d.cl.length c0, .slice a1 d.nx.length c1, .slice a2 d.mr.length c2] := by
  obtain ⟨v0, v1, v2, rfl, h0, h1, h2⟩ := h
  obtain ⟨a0, c0, rfl⟩ := ownsRow_form h0
  obtain ⟨a1, c1, rfl⟩ := h1.form
  obtain ⟨a2, c2, rfl⟩ := h2.form
  exact ⟨_, _, _, _, _, _, rfl⟩
/-- A row's block is no block of another type. -/
theorem row_ne {w : World} {b base size n : Nat} {c : Array Value} {t e : TypeId} {v : Value} {xs : List Value} (h : Blk w b c t) (ho : w.ownsRow base e size v n xs) (hne : t ≠ e) : ∀ x, v.ownBlock = some x → x ≠ b := fun x hx e2 => by
  subst e2
  rcases ho.2 with ⟨h1, _⟩ | ⟨g', c', cur, h1, _, h3, _⟩
  · rw [h1] at hx; cases hx
  · subst h1
    have hg : g' = x := by simpa [Value.ownBlock] using hx
    subst hg
    have h4 : w.heap[g']? = some (.cells c t (0, 0)) := h
    rw [h3] at h4
    injection h4 with h4
    injection h4 with _ h5 _
    exact hne h5.symm
theorem row_past {w w' : World} {b base size n : Nat} {c : Array Value} {t e : TypeId} {v : Value} {xs : List Value} (h : Blk w b c t) (ho : w.ownsRow base e size v n xs) (hne : t ≠ e) (hk : Keeps (· ≠ b) w w') : w'.ownsRow base e size v n xs := ownsRow_keeps ho hk fun x hx => row_ne h ho hne x hx
theorem OwnLL.past {w w' : World} {b base : Nat} {c : Array Value} {t : TypeId} {v : Value} {ll : List (List Int)} (h : Blk w b c t) (ho : OwnLL base w v ll) (h1 : t ≠ 33) (h2 : t ≠ 3) (hk : Keeps (· ≠ b) w w') : OwnLL base w' v ll := by
  obtain ⟨us, e, o1, o2⟩ := ho
  exact ⟨us, e, row_past h o1 h1 hk, fun i u l hu hl => row_past h (o2 i u l hu hl) h2 hk⟩
theorem OwnDf.past {w w' : World} {b base : Nat} {c : Array Value} {t : TypeId} {v : Value} {d : DF} (h : Blk w b c t) (ho : OwnDf base w v d) (h0 : t ≠ 65) (h1 : t ≠ 33) (h2 : t ≠ 3) (hk : Keeps (· ≠ b) w w') : OwnDf base w' v d := by
  obtain ⟨v0, v1, v2, e, o0, o1, o2⟩ := ho
  exact ⟨v0, v1, v2, e, row_past h o0 h0 hk, o1.past h h1 h2 hk, o2.past h h1 h2 hk⟩
theorem OwnRf.past {w w' : World} {b base : Nat} {c : Array Value} {t : TypeId} {v : Value} {d : DF} (h : Blk w b c t) (ho : OwnRf base w v d) (h0 : t ≠ 91) (h1 : t ≠ 33) (h2 : t ≠ 3) (hk : Keeps (· ≠ b) w w') : OwnRf base w' v d := by
  obtain ⟨v0, v1, v2, e, o0, o1, o2⟩ := ho
  exact ⟨v0, v1, v2, e, row_past h o0 h0 hk, o1.past h h1 h2 hk, o2.past h h1 h2 hk⟩
theorem blk_ne {w : World} {b b2 : Nat} {c c2 : Array Value} {t t2 : TypeId} (h : Blk w b c t) (h2 : Blk w b2 c2 t2) (hne : t ≠ t2) : b ≠ b2 := fun e => by
  subst e
  have h3 : w.heap[b]? = some (.cells c t (0, 0)) := h
  have h4 : w.heap[b]? = some (.cells c2 t2 (0, 0)) := h2
  rw [h3] at h4
  injection h4 with h4
  injection h4 with _ h5 _
  exact hne h5

end Go.Proofs.YthdnlndpmmiboaaGreatDoor
