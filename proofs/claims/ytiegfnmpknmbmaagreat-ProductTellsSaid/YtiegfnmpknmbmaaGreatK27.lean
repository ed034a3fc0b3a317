/-
  Plain facts on automata: the way that First goes (breadth first), the way that the reference goes (the distances), and that both come to the same string.
-/
import Derived.Test.YtiegfnmpknmbmaaGreatK13
namespace Go.Proofs.YtiegfnmpknmbmaaGreat
open Go Go.RowKit

/-- There is a way of so many steps to a state with marks. -/
def Reach (d : DF) : Nat → Nat → Prop
  | 0, s => acc d s = true
  | m + 1, s => ∃ k, k < d.cl.length ∧ Reach d m (nxt d s k)

/-! The reference: distances. -/
def relax (d : DF) (far : List Int) (s k : Nat) : List Int := if far.getD (nxt d s k) 0 + 1 < far.getD s 0 then far.set s (far.getD (nxt d s k) 0 + 1) else far
def far0 (d : DF) : List Int := (List.range d.nx.length).map fun s => if acc d s then 0 else (d.nx.length : Int)
def relaxRow (d : DF) (far : List Int) (s : Nat) : Nat → List Int
  | 0 => far
  | k + 1 => relax d (relaxRow d far s k) s k
def relaxAll (d : DF) (far : List Int) : Nat → List Int
  | 0 => far
  | s + 1 => relaxRow d (relaxAll d far s) s d.cl.length
def farTo (d : DF) : Nat → List Int
  | 0 => far0 d
  | r + 1 => relaxAll d (farTo d r) d.nx.length

structure FarOk (d : DF) (far : List Int) : Prop where
  len : far.length = d.nx.length
  lo : ∀ s, s < d.nx.length → 0 ≤ far.getD s 0 ∧ far.getD s 0 ≤ d.nx.length
  sound : ∀ s, s < d.nx.length → far.getD s 0 < d.nx.length → Reach d (far.getD s 0).toNat s
theorem getD_set (l : List Int) (i j : Nat) (x : Int) (hj : i < l.length) : (l.set i x).getD j 0 = if j = i then x else l.getD j 0 := by
  rw [List.getD_eq_getElem?_getD, List.getElem?_set]
  by_cases e : j = i
  · subst e; rw [if_pos rfl, if_pos hj, if_pos rfl]; rfl
  · rw [if_neg (fun h => e h.symm), if_neg e, List.getD_eq_getElem?_getD]
theorem relax_ok {d : DF} (h : Rt d) {far : List Int} (f : FarOk d far) {s k : Nat} (hs : s < d.nx.length) (hk : k < d.cl.length) : FarOk d (relax d far s k) ∧ (∀ t, (relax d far s k).getD t 0 ≤ far.getD t 0) ∧ (relax d far s k).getD s 0 ≤ far.getD (nxt d s k) 0 + 1 := by
  have hn := h.nxt_lt hs hk
  have h1 := f.lo _ hn
  have h0 := f.lo s hs
  unfold relax
  split
  · rename_i hlt
    have hg : ∀ j, (far.set s (far.getD (nxt d s k) 0 + 1)).getD j 0 = if j = s then far.getD (nxt d s k) 0 + 1 else far.getD j 0 := fun j => getD_set _ _ _ _ (by rw [f.len]; exact hs)
    refine ⟨⟨by rw [List.length_set]; exact f.len, fun t ht => ?_, fun t ht hlt' => ?_⟩, fun t => ?_, ?_⟩
    · rw [hg]
      split
      · omega
      · exact f.lo t ht
    · rw [hg] at hlt' ⊢
      split
      · rename_i e
        subst e
        rw [show (far.getD (nxt d t k) 0 + 1).toNat = (far.getD (nxt d t k) 0).toNat + 1 by omega]
        exact ⟨k, hk, f.sound _ hn (by omega)⟩
      · rename_i e
        rw [if_neg e] at hlt'
        exact f.sound t ht hlt'
    · rw [hg]
      split
      · rename_i e; subst e; omega
      · exact Int.le_refl _
    · rw [hg, if_pos rfl]; exact Int.le_refl _
  · exact ⟨f, fun t => Int.le_refl _, by omega⟩
theorem relaxRow_ok {d : DF} (h : Rt d) {far : List Int} (f : FarOk d far) {s : Nat} (hs : s < d.nx.length) : ∀ k, k ≤ d.cl.length → FarOk d (relaxRow d far s k) ∧ (∀ t, (relaxRow d far s k).getD t 0 ≤ far.getD t 0) ∧ ∀ j, j < k → (relaxRow d far s k).getD s 0 ≤ far.getD (nxt d s j) 0 + 1
  | 0, _ => ⟨f, fun _ => Int.le_refl _, fun j hj => by omega⟩
  | k + 1, hk => by
    obtain ⟨a, b, c⟩ := relaxRow_ok h f hs k (by omega)
    obtain ⟨a', b', c'⟩ := relax_ok h a hs (show k < d.cl.length by omega)
    refine ⟨a', fun t => Int.le_trans (b' t) (b t), fun j hj => ?_⟩
    show (relax d (relaxRow d far s k) s k).getD s 0 ≤ _
    by_cases e : j = k
    · subst e; have := b (nxt d s j); omega
    · have := c j (by omega); have := b' s; omega
theorem relaxAll_ok {d : DF} (h : Rt d) {far : List Int} (f : FarOk d far) : ∀ n, n ≤ d.nx.length → FarOk d (relaxAll d far n) ∧ (∀ t, (relaxAll d far n).getD t 0 ≤ far.getD t 0) ∧ ∀ s j, s < n → j < d.cl.length → (relaxAll d far n).getD s 0 ≤ far.getD (nxt d s j) 0 + 1
  | 0, _ => ⟨f, fun _ => Int.le_refl _, fun s j hj => by omega⟩
  | n + 1, hn => by
    obtain ⟨a, b, c⟩ := relaxAll_ok h f n (by omega)
    obtain ⟨a', b', c'⟩ := relaxRow_ok h a (show n < d.nx.length by omega) d.cl.length (Nat.le_refl _)
    refine ⟨a', fun t => Int.le_trans (b' t) (b t), fun s j hs hj => ?_⟩
    show (relaxRow d (relaxAll d far n) n d.cl.length).getD s 0 ≤ _
    by_cases e : s = n
    · subst e; have := c' j hj; have := b (nxt d s j); omega
    · have := c s j (by omega) hj; have := b' s; omega
theorem far0_get {d : DF} {s : Nat} (hs : s < d.nx.length) : (far0 d).getD s 0 = if acc d s then 0 else (d.nx.length : Int) := by
  unfold far0
  rw [List.getD_eq_getElem?_getD, List.getElem?_map, List.getElem?_range hs]; rfl
theorem farTo_ok {d : DF} (h : Rt d) : ∀ r, FarOk d (farTo d r) ∧ ∀ m s, m ≤ r → s < d.nx.length → Reach d m s → (farTo d r).getD s 0 ≤ m
  | 0 => by
    refine ⟨⟨by simp [farTo, far0], fun s hs => ?_, fun s hs hlt => ?_⟩, fun m s hm hs hr => ?_⟩
    · show 0 ≤ (far0 d).getD s 0 ∧ (far0 d).getD s 0 ≤ _
      rw [far0_get hs]; split <;> omega
    · replace hlt : (far0 d).getD s 0 < _ := hlt
      show Reach d ((far0 d).getD s 0).toNat s
      rw [far0_get hs] at hlt ⊢
      split
      · rename_i ha; exact ha
      · rename_i ha; rw [if_neg ha] at hlt; omega
    · obtain rfl : m = 0 := by omega
      show (far0 d).getD s 0 ≤ _
      rw [far0_get hs, if_pos (show acc d s = true from hr)]; exact Int.le_refl _
  | r + 1 => by
    obtain ⟨f, g⟩ := farTo_ok h r
    obtain ⟨a, b, c⟩ := relaxAll_ok h f d.nx.length (Nat.le_refl _)
    refine ⟨a, fun m s hm hs hr => ?_⟩
    show (relaxAll d (farTo d r) d.nx.length).getD s 0 ≤ _
    cases m with
    | zero => have := g 0 s (by omega) hs hr; have := b s; omega
    | succ m =>
      obtain ⟨k, hk, hr'⟩ := hr
      have := g m _ (by omega) (h.nxt_lt hs hk) hr'
      have := c s k hs hk
      omega
/-- The distances. -/
def farOf (d : DF) : List Int := farTo d d.nx.length
def farAt (d : DF) (s : Nat) : Int := (farOf d).getD s 0
theorem far_lo {d : DF} (h : Rt d) {s : Nat} (hs : s < d.nx.length) : 0 ≤ farAt d s ∧ farAt d s ≤ d.nx.length := (farTo_ok h d.nx.length).1.lo s hs
theorem far_sound {d : DF} (h : Rt d) {s : Nat} (hs : s < d.nx.length) (hl : farAt d s < d.nx.length) : Reach d (farAt d s).toNat s := (farTo_ok h d.nx.length).1.sound s hs hl
theorem far_le {d : DF} (h : Rt d) {s m : Nat} (hs : s < d.nx.length) (hr : Reach d m s) : farAt d s ≤ m := by
  by_cases hm : m ≤ d.nx.length
  · exact (farTo_ok h d.nx.length).2 m s hm hs hr
  · have := (far_lo h hs).2; omega
theorem far_step {d : DF} (h : Rt d) {s k : Nat} (hs : s < d.nx.length) (hk : k < d.cl.length) (hl : farAt d (nxt d s k) < d.nx.length) : farAt d s ≤ farAt d (nxt d s k) + 1 := by
  have h1 := far_sound h (h.nxt_lt hs hk) hl
  have h2 := far_le h hs (m := (farAt d (nxt d s k)).toNat + 1) ⟨k, hk, h1⟩
  have := (far_lo h (h.nxt_lt hs hk)).1
  omega

/-- The least byte that leads nearer. -/
def nearer (d : DF) (s c : Nat) : Bool := farAt d (nxt d s (cls d.cl c)) == farAt d s - 1
def stepB (d : DF) (s : Nat) : Nat := ((List.range 256).find? (nearer d s)).getD 0
def descTo (d : DF) : Nat → Nat × List Nat
  | 0 => (0, [])
  | j + 1 => (nxt d (descTo d j).1 (cls d.cl (stepB d (descTo d j).1)), (descTo d j).2 ++ [stepB d (descTo d j).1])
/-- P19.3: the first string. -/
def firstR (d : DF) : Option (List Nat) := if farAt d 0 = d.nx.length then none else some (descTo d (farAt d 0).toNat).2
theorem find_range {p : Nat → Bool} {n c : Nat} (hc : c < n) (hp : p c = true) (hn : ∀ e, e < c → p e = false) : (List.range n).find? p = some c := by
  rw [List.find?_eq_some_iff_getElem]
  refine ⟨hp, c, by simpa using hc, by simp, fun j hj => by simp [hn j hj]⟩
theorem stepB_eq {d : DF} {s c : Nat} (hc : c < 256) (hp : nearer d s c = true) (hn : ∀ e, e < c → nearer d s e = false) : stepB d s = c := by
  unfold stepB; rw [find_range hc hp hn]; rfl
theorem stepB_spec {d : DF} {s c : Nat} (hc : c < 256) (hp : nearer d s c = true) : stepB d s < 256 ∧ nearer d s (stepB d s) = true ∧ ∀ e, e < stepB d s → nearer d s e = false := by
  have : ∃ c, c < 256 ∧ nearer d s c = true ∧ ∀ e, e < c → nearer d s e = false := by
    induction c using Nat.strongRecOn with
    | ind c ih =>
      by_cases hx : ∃ e, e < c ∧ nearer d s e = true
      · obtain ⟨e, h1, h2⟩ := hx
        exact ih e h1 (by omega) h2
      · exact ⟨c, hc, hp, fun e he => by
          cases hb : nearer d s e with
          | false => rfl
          | true => exact absurd ⟨e, he, hb⟩ hx⟩
  obtain ⟨c, h1, h2, h3⟩ := this
  rw [stepB_eq h1 h2 h3]
  exact ⟨h1, h2, h3⟩
theorem lb_spec {d : DF} (h : Rt d) {k : Nat} (hk : k < d.cl.length) : lb d.cl k < 256 ∧ cls d.cl (lb d.cl k) = k ∧ ∀ c, c < 256 → cls d.cl c = k → lb d.cl k ≤ c := by
  have e := h.cl
  have hk' : k < (partsOf d.cl).length := by rw [e]; exact hk
  have h1 := some_getD (l := partsOf d.cl) 0 hk'
  obtain ⟨_, h2, h3, h4⟩ := first_of_ne (partsOf_ne d.cl (List.mem_of_getElem? h1))
  rw [e] at h1 h2 h3 h4
  refine ⟨h2, (h.part.cls_iff h2).2 ⟨_, h1, h3⟩, fun c hc hck => ?_⟩
  obtain ⟨q, hq, hb⟩ := (h.part.cls_iff hc).1 hck
  rw [h1] at hq
  cases hq
  show (firstOf _).1 ≤ c
  by_cases hlt : c < (firstOf (d.cl.getD k 0)).1
  · have := h4 c hlt; rw [this] at hb; cases hb
  · omega
theorem lb_mono {d : DF} (h : Rt d) {i j : Nat} (hij : i < j) (hj : j < d.cl.length) : lb d.cl i < lb d.cl j := by
  have := partsOf_first d.cl (i := i) (j := j) (x := d.cl.getD i 0) (y := d.cl.getD j 0) (by rw [h.cl]; exact some_getD _ (by omega)) (by rw [h.cl]; exact some_getD _ (by omega)) hij
  exact this
theorem desc_near {d : DF} (h : Rt d) {s : Nat} (hs : s < d.nx.length) (h0 : 0 < farAt d s) (hl : farAt d s < d.nx.length) : stepB d s < 256 ∧ nearer d s (stepB d s) = true ∧ (∀ e, e < stepB d s → nearer d s e = false) := by
  have hr := far_sound h hs hl
  obtain ⟨m, hm⟩ : ∃ m, (farAt d s).toNat = m + 1 := ⟨(farAt d s).toNat - 1, by omega⟩
  rw [hm] at hr
  obtain ⟨k, hk, hr'⟩ := hr
  have h1 := far_le h (h.nxt_lt hs hk) hr'
  have h2 := far_step h hs hk (by omega)
  obtain ⟨b1, b2, _⟩ := lb_spec h hk
  refine stepB_spec b1 ?_
  unfold nearer
  rw [b2, beq_iff_eq]
  omega
theorem desc_at {d : DF} (h : Rt d) (hl : farAt d 0 < d.nx.length) : ∀ j : Nat, (j : Int) ≤ farAt d 0 → (descTo d j).1 < d.nx.length ∧ farAt d (descTo d j).1 = farAt d 0 - j ∧ (descTo d j).2.length = j ∧ ∀ c ∈ (descTo d j).2, c < 256
  | 0, _ => ⟨h.pos, by simp [descTo], rfl, fun c hc => by cases hc⟩
  | j + 1, hj => by
    obtain ⟨a, b, c, e⟩ := desc_at h hl j (by omega)
    obtain ⟨x, y, _⟩ := desc_near h a (by omega) (by omega)
    refine ⟨h.nxt_lt a (h.part.cls_lt x), ?_, by simp [descTo, c], fun z hz => ?_⟩
    · unfold nearer at y
      rw [beq_iff_eq] at y
      show farAt d (nxt d (descTo d j).1 (cls d.cl (stepB d (descTo d j).1))) = _
      omega
    · rcases List.mem_append.1 hz with hz | hz
      · exact e z hz
      · simp at hz; subst hz; exact x

/-! The program: breadth first. -/
structure Bst where
  todo : List Nat
  keys : List Nat
  fr : List Int
  by' : List Nat
def vis (d : DF) (st : Bst) (x : Nat) : Bst :=
  match st.todo[x / d.cl.length]? with
  | none => st
  | some s => if st.fr.getD (nxt d s (x % d.cl.length)) 0 = 0 then ⟨st.todo ++ [nxt d s (x % d.cl.length)], st.keys ++ [x], st.fr.set (nxt d s (x % d.cl.length)) (s + 1), st.by'.set (nxt d s (x % d.cl.length)) (lb d.cl (x % d.cl.length))⟩ else st
def bst (d : DF) : Nat → Bst
  | 0 => ⟨[0], [0], (List.replicate d.nx.length 0).set 0 (-1), List.replicate d.nx.length 0⟩
  | x + 1 => vis d (bst d x) x
structure BOk (d : DF) (x : Nat) (st : Bst) : Prop where
  keys : st.keys.length = st.todo.length
  fr : st.fr.length = d.nx.length
  by' : st.by'.length = d.nx.length
  head : st.todo[0]? = some 0
  root : st.fr.getD 0 0 = -1
  nodup : st.todo.Nodup
  lt : ∀ t ∈ st.todo, t < d.nx.length
  mem : ∀ t, t < d.nx.length → (st.fr.getD t 0 ≠ 0 ↔ t ∈ st.todo)
  par : ∀ j t, 0 < j → st.todo[j]? = some t → ∃ y s, st.keys[j]? = some y ∧ y < x ∧ y / d.cl.length < j ∧ st.todo[y / d.cl.length]? = some s ∧ nxt d s (y % d.cl.length) = t ∧ st.fr.getD t 0 = s + 1 ∧ st.by'.getD t 0 = lb d.cl (y % d.cl.length)
  mono : ∀ i j y z, 0 < i → i < j → st.keys[i]? = some y → st.keys[j]? = some z → y < z
  done : ∀ y s, y < x → st.todo[y / d.cl.length]? = some s → ∃ j : Nat, st.todo[j]? = some (nxt d s (y % d.cl.length)) ∧ (j = 0 ∨ ∃ z, st.keys[j]? = some z ∧ z ≤ y)
theorem getD_setN (l : List Nat) (i j : Nat) (x : Nat) (hj : i < l.length) : (l.set i x).getD j 0 = if j = i then x else l.getD j 0 := by
  rw [List.getD_eq_getElem?_getD, List.getElem?_set]
  by_cases e : j = i
  · subst e; rw [if_pos rfl, if_pos hj, if_pos rfl]; rfl
  · rw [if_neg (fun h => e h.symm), if_neg e, List.getD_eq_getElem?_getD]
theorem getD_rep (n i : Nat) : (List.replicate n (0 : Int)).getD i 0 = 0 := by
  rw [List.getD_eq_getElem?_getD, List.getElem?_replicate]; split <;> rfl
theorem bst_ok {d : DF} (h : Rt d) : ∀ x, BOk d x (bst d x)
  | 0 => by
    have hp := h.pos
    have hg : ∀ j, ((List.replicate d.nx.length (0 : Int)).set 0 (-1)).getD j 0 = if j = 0 then -1 else 0 := fun j => by
      rw [getD_set _ _ _ _ (by simp; omega), getD_rep]
    refine ⟨rfl, by simp [bst], by simp [bst], rfl, by show ((List.replicate d.nx.length (0 : Int)).set 0 (-1)).getD 0 0 = -1; rw [hg]; rfl, by simp [bst], fun t ht => ?_, fun t ht => ?_, fun j t hj hjt => ?_, fun i j y z hi hij hy hz => ?_, fun y s hy => by omega⟩
    · simp [bst] at ht; omega
    · show ((List.replicate d.nx.length (0 : Int)).set 0 (-1)).getD t 0 ≠ 0 ↔ t ∈ [0]
      rw [hg]
      by_cases e : t = 0
      · subst e; simp
      · simp [e]
    · have := (List.getElem?_eq_some_iff.1 hjt).1; simp [bst] at this; omega
    · have := (List.getElem?_eq_some_iff.1 hz).1; simp [bst] at this; omega
  | x + 1 => by
    have I := bst_ok h x
    have hK := h.clpos
    show BOk d (x + 1) (vis d (bst d x) x)
    generalize bst d x = st at I
    unfold vis
    split
    · rename_i hn
      exact ⟨I.keys, I.fr, I.by', I.head, I.root, I.nodup, I.lt, I.mem, fun j t hj ht => by
          obtain ⟨y, s, h1, h2, h3⟩ := I.par j t hj ht
          exact ⟨y, s, h1, by omega, h3⟩, I.mono, fun y s hy hs => by
          by_cases e : y = x
          · subst e; rw [hn] at hs; cases hs
          · exact I.done y s (by omega) hs⟩
    · rename_i s hs
      have hsl := I.lt s (List.mem_of_getElem? hs)
      have hkl := Nat.mod_lt x hK
      have htl := h.nxt_lt hsl hkl
      have hpos : x / d.cl.length < st.todo.length := (List.getElem?_eq_some_iff.1 hs).1
      generalize ht : nxt d s (x % d.cl.length) = t at *
      split
      · rename_i h0
        have hnot : t ∉ st.todo := fun hm => (I.mem t htl).2 hm h0
        have hf : ∀ j, (st.fr.set t ((s : Int) + 1)).getD j 0 = if j = t then (s : Int) + 1 else st.fr.getD j 0 := fun j => getD_set _ _ _ _ (by rw [I.fr]; exact htl)
        have hb : ∀ j, (st.by'.set t (lb d.cl (x % d.cl.length))).getD j 0 = if j = t then lb d.cl (x % d.cl.length) else st.by'.getD j 0 := fun j => getD_setN _ _ _ _ (by rw [I.by']; exact htl)
        have hk := I.keys
        have hold : ∀ (j u : Nat), st.todo[j]? = some u → (st.todo ++ [t])[j]? = some u := fun j u hj => by
          rw [List.getElem?_append_left (List.getElem?_eq_some_iff.1 hj).1]; exact hj
        have hkold : ∀ (j u : Nat), st.keys[j]? = some u → (st.keys ++ [x])[j]? = some u := fun j u hj => by
          rw [List.getElem?_append_left (List.getElem?_eq_some_iff.1 hj).1]; exact hj
        have hnew : (st.todo ++ [t])[st.todo.length]? = some t := by simp
        have hknew : (st.keys ++ [x])[st.todo.length]? = some x := by rw [← hk]; simp
        have hcase : ∀ (j u : Nat), (st.todo ++ [t])[j]? = some u → st.todo[j]? = some u ∨ (j = st.todo.length ∧ u = t) := fun j u hj => by
          by_cases hl : j < st.todo.length
          · rw [List.getElem?_append_left hl] at hj; exact .inl hj
          · have h1 := (List.getElem?_eq_some_iff.1 hj).1
            simp at h1
            obtain rfl : j = st.todo.length := by omega
            rw [hnew] at hj
            cases hj
            exact .inr ⟨rfl, rfl⟩
        have ht0 : t ≠ 0 := fun e => hnot (by rw [e]; exact List.mem_of_getElem? I.head)
        refine ⟨by simp [hk], by simp [I.fr], by simp [I.by'], hold _ _ I.head, by show (st.fr.set t ((s : Int) + 1)).getD 0 0 = -1; rw [hf, if_neg (fun e => ht0 e.symm)]; exact I.root, ?_, ?_, ?_, ?_, ?_, ?_⟩
        · show (st.todo ++ [t]).Nodup
          rw [List.nodup_append]
          exact ⟨I.nodup, by simp, fun a ha b hb e => by simp at hb; subst hb; subst e; exact hnot ha⟩
        · intro u hu
          rcases List.mem_append.1 hu with hu | hu
          · exact I.lt u hu
          · simp at hu; subst hu; exact htl
        · intro u hu
          show (st.fr.set t ((s : Int) + 1)).getD u 0 ≠ 0 ↔ u ∈ st.todo ++ [t]
          rw [hf]
          by_cases e : u = t
          · subst e
            rw [if_pos rfl]
            exact ⟨fun _ => by simp, fun _ => by omega⟩
          · rw [if_neg e, I.mem u hu]; simp [e]
        · intro j u hj hu
          rcases hcase j u hu with hu | ⟨rfl, rfl⟩
          · obtain ⟨y, s', h1, h2, h3, h4, h5, h6, h7⟩ := I.par j u hj hu
            have hne : u ≠ t := fun e => hnot (by rw [← e]; exact List.mem_of_getElem? hu)
            refine ⟨y, s', hkold _ _ h1, by omega, h3, hold _ _ h4, h5, ?_, ?_⟩
            · show (st.fr.set t ((s : Int) + 1)).getD u 0 = _
              rw [hf, if_neg hne]; exact h6
            · show (st.by'.set t (lb d.cl (x % d.cl.length))).getD u 0 = _
              rw [hb, if_neg hne]; exact h7
          · refine ⟨x, s, hknew, by omega, hpos, hold _ _ hs, ht, ?_, ?_⟩
            · show (st.fr.set u ((s : Int) + 1)).getD u 0 = _
              rw [hf, if_pos rfl]
            · show (st.by'.set u (lb d.cl (x % d.cl.length))).getD u 0 = _
              rw [hb, if_pos rfl]
        · intro i j y z hi hij hy hz
          have hjl : j < (st.keys ++ [x]).length := (List.getElem?_eq_some_iff.1 hz).1
          simp only [List.length_append, List.length_cons, List.length_nil] at hjl
          have hil : i < st.keys.length := by omega
          replace hy : (st.keys ++ [x])[i]? = some y := hy
          replace hz : (st.keys ++ [x])[j]? = some z := hz
          rw [List.getElem?_append_left hil] at hy
          by_cases hl : j < st.keys.length
          · rw [List.getElem?_append_left hl] at hz
            exact I.mono i j y z hi hij hy hz
          · obtain rfl : j = st.todo.length := by omega
            rw [hknew] at hz
            cases hz
            have hti : i < st.todo.length := by omega
            obtain ⟨y', s', h1, h2, _⟩ := I.par i _ hi (List.getElem?_eq_getElem hti)
            rw [hy] at h1
            cases h1
            exact h2
        · intro y s' hy hs'
          replace hs' : (st.todo ++ [t])[y / d.cl.length]? = some s' := hs'
          have hyx : y / d.cl.length ≤ x / d.cl.length := Nat.div_le_div_right (by omega)
          rw [List.getElem?_append_left (by omega)] at hs'
          by_cases e : y = x
          · subst e
            rw [hs] at hs'
            cases hs'
            exact ⟨st.todo.length, by rw [ht]; exact hnew, .inr ⟨y, hknew, Nat.le_refl _⟩⟩
          · obtain ⟨j, h1, h2⟩ := I.done y s' (by omega) hs'
            refine ⟨j, hold _ _ h1, ?_⟩
            rcases h2 with h2 | ⟨z, h2, h3⟩
            · exact .inl h2
            · exact .inr ⟨z, hkold _ _ h2, h3⟩
      · rename_i h0
        refine ⟨I.keys, I.fr, I.by', I.head, I.root, I.nodup, I.lt, I.mem, fun j u hj hu => ?_, I.mono, fun y s' hy hs' => ?_⟩
        · obtain ⟨y, s', h1, h2, h3⟩ := I.par j u hj hu
          exact ⟨y, s', h1, by omega, h3⟩
        · by_cases e : y = x
          · subst e
            rw [hs] at hs'
            cases hs'
            have hm : t ∈ st.todo := (I.mem t htl).1 h0
            obtain ⟨j, hj⟩ := List.getElem?_of_mem hm
            refine ⟨j, by rw [ht]; exact hj, ?_⟩
            by_cases j0 : j = 0
            · exact .inl j0
            · obtain ⟨z, s', h1, h2, _⟩ := I.par j t (by omega) hj
              exact .inr ⟨z, h1, by omega⟩
          · exact I.done y s' (by omega) hs'
end Go.Proofs.YtiegfnmpknmbmaaGreat
