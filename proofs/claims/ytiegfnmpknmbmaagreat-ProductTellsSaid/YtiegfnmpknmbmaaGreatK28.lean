/-
  Plain facts on automata: the string that First finds is the reference's first one; counts.
-/
import Derived.Test.YtiegfnmpknmbmaaGreatK27
namespace Go.Proofs.YtiegfnmpknmbmaaGreat
open Go Go.RowKit

theorem nodup_lt : ∀ (n : Nat) (l : List Nat), l.Nodup → (∀ t ∈ l, t < n) → l.length ≤ n
  | 0, l, _, h => by
    cases l with
    | nil => simp
    | cons x r => have := h x (by simp); omega
  | n + 1, l, hd, h => by
    have h1 := nodup_lt n (l.erase n) (hd.erase n) (fun t ht => by
      have h2 := (hd.mem_erase_iff).1 ht
      have := h t h2.2
      have := h2.1
      omega)
    by_cases hm : n ∈ l
    · rw [List.length_erase_of_mem hm] at h1; omega
    · rw [List.erase_of_not_mem hm] at h1; omega
theorem BOk.len {d : DF} {x : Nat} {st : Bst} (h : BOk d x st) : st.todo.length ≤ d.nx.length := nodup_lt _ _ h.nodup h.lt

theorem first_none {d : DF} (h : Rt d) {i : Nat} {st : Bst} (I : BOk d (i * d.cl.length) st) (hi : st.todo.length ≤ i) (ha : ∀ (j t : Nat), st.todo[j]? = some t → acc d t = false) : firstR d = none := by
  have key : ∀ (m s : Nat), s ∈ st.todo → ¬ Reach d m s := by
    intro m
    induction m with
    | zero =>
      intro s hs hr
      obtain ⟨j, hj⟩ := List.getElem?_of_mem hs
      have h1 := ha j s hj
      rw [show acc d s = true from hr] at h1
      cases h1
    | succ m ih =>
      rintro s hs ⟨k, hk, hr⟩
      obtain ⟨j, hj⟩ := List.getElem?_of_mem hs
      have hjl := (List.getElem?_eq_some_iff.1 hj).1
      have e1 : (j * d.cl.length + k) / d.cl.length = j := by
        rw [Nat.mul_comm, Nat.mul_add_div h.clpos, Nat.div_eq_of_lt hk, Nat.add_zero]
      have e2 : (j * d.cl.length + k) % d.cl.length = k := by
        rw [Nat.mul_comm, Nat.mul_add_mod, Nat.mod_eq_of_lt hk]
      have hlt : j * d.cl.length + k < i * d.cl.length := by
        have : (j + 1) * d.cl.length ≤ i * d.cl.length := Nat.mul_le_mul_right _ (by omega)
        rw [Nat.succ_mul] at this
        omega
      obtain ⟨p, h1, _⟩ := I.done (j * d.cl.length + k) s hlt (by rw [e1]; exact hj)
      rw [e2] at h1
      exact ih _ (List.mem_of_getElem? h1) hr
  unfold firstR
  have hlo := far_lo h h.pos
  by_cases hl : farAt d 0 < d.nx.length
  · exact absurd (far_sound h h.pos hl) (key _ 0 (List.mem_of_getElem? I.head))
  · rw [if_pos (by omega)]

/-- The way back to the start. -/
structure Chain (d : DF) (st : Bst) (m i : Nat) (q : Nat → Nat) : Prop where
  zero : q 0 = 0
  last : q m = i
  step : ∀ l, l < m → q l < q (l + 1) ∧ ∃ y, st.keys[q (l + 1)]? = some y ∧ y / d.cl.length = q l
theorem chain_ex {d : DF} {x : Nat} {st : Bst} (I : BOk d x st) : ∀ (i : Nat), i < st.todo.length → ∃ m q, Chain d st m i q := by
  intro i
  induction i using Nat.strongRecOn with
  | ind i ih =>
    intro hi
    by_cases h0 : i = 0
    · exact ⟨0, fun _ => 0, rfl, h0.symm, fun l hl => by omega⟩
    · obtain ⟨y, s, h1, h2, h3, h4, _⟩ := I.par i _ (by omega) (List.getElem?_eq_getElem hi)
      obtain ⟨m, q, c⟩ := ih (y / d.cl.length) h3 (by omega)
      refine ⟨m + 1, fun l => if l ≤ m then q l else i, ?_, ?_, fun l hl => ?_⟩
      · show (if 0 ≤ m then q 0 else i) = 0
        rw [if_pos (Nat.zero_le _)]; exact c.zero
      · show (if m + 1 ≤ m then q (m + 1) else i) = i
        rw [if_neg (by omega)]
      · show (if l ≤ m then q l else i) < (if l + 1 ≤ m then q (l + 1) else i) ∧ ∃ y, st.keys[if l + 1 ≤ m then q (l + 1) else i]? = some y ∧ y / d.cl.length = (if l ≤ m then q l else i)
        rw [if_pos (show l ≤ m by omega)]
        by_cases e : l + 1 ≤ m
        · rw [if_pos e]; exact c.step l (by omega)
        · rw [if_neg e]
          obtain rfl : l = m := by omega
          rw [c.last]
          exact ⟨h3, y, h1, rfl⟩
theorem Chain.mono {d : DF} {st : Bst} {m i : Nat} {q : Nat → Nat} (c : Chain d st m i q) : ∀ l, l ≤ m → l ≤ q l ∧ q l ≤ i := by
  have h1 : ∀ l, l ≤ m → l ≤ q l := by
    intro l
    induction l with
    | zero => intro _; omega
    | succ l ih => intro hl; have := (c.step l (by omega)).1; have := ih (by omega); omega
  have h2 : ∀ r l, l + r = m → q l ≤ i := by
    intro r
    induction r with
    | zero => intro l hl; rw [← c.last, show l = m by omega]; exact Nat.le_refl _
    | succ r ih => intro l hl; have := ih (l + 1) (by omega); have := (c.step l (by omega)).1; omega
  exact fun l hl => ⟨h1 l hl, h2 (m - l) l (by omega)⟩

section
variable {d : DF} (h : Rt d) {i : Nat} {st : Bst} (I : BOk d (i * d.cl.length) st) (hi : i < st.todo.length) (ha : ∀ (j t : Nat), j < i → st.todo[j]? = some t → acc d t = false) {m : Nat} {q : Nat → Nat} (c : Chain d st m i q)
include h I c hi
omit hi in
/-- What lies behind a place that was done lies before the next one on the way. -/
theorem next_before {l p k t y : Nat} (hl : l < m) (hp : p < i) (hk : k < d.cl.length) (ht : st.todo[p]? = some t) (hy : st.keys[q (l + 1)]? = some y) (hlt : p * d.cl.length + k < y) : ∃ p' : Nat, st.todo[p']? = some (nxt d t k) ∧ p' < q (l + 1) := by
  have e1 : (p * d.cl.length + k) / d.cl.length = p := by rw [Nat.mul_comm, Nat.mul_add_div h.clpos, Nat.div_eq_of_lt hk, Nat.add_zero]
  have e2 : (p * d.cl.length + k) % d.cl.length = k := by rw [Nat.mul_comm, Nat.mul_add_mod, Nat.mod_eq_of_lt hk]
  have hx : p * d.cl.length + k < i * d.cl.length := by
    have : (p + 1) * d.cl.length ≤ i * d.cl.length := Nat.mul_le_mul_right _ (by omega)
    rw [Nat.succ_mul] at this; omega
  obtain ⟨p', h1, h2⟩ := I.done _ t hx (by rw [e1]; exact ht)
  rw [e2] at h1
  refine ⟨p', h1, ?_⟩
  have hq := (c.step l hl).1
  rcases h2 with h2 | ⟨z, h2, h3⟩
  · omega
  · rcases Nat.lt_trichotomy p' (q (l + 1)) with g | g | g
    · exact g
    · rw [g, hy] at h2; cases h2; omega
    · have := I.mono _ _ _ _ (by omega) g hy h2; omega
include ha
omit hi in
theorem no_reach : ∀ (r j p t : Nat), j + r < m → st.todo[p]? = some t → p < q (j + 1) → ¬ Reach d r t
  | 0, j, p, t, hj, ht, hp, hr => by
    have := (c.mono (j + 1) (by omega)).2
    have := ha p t (by omega) ht
    rw [show acc d t = true from hr] at this; cases this
  | r + 1, j, p, t, hj, ht, hp, ⟨k, hk, hr⟩ => by
    have hle := (c.mono (j + 1) (by omega)).2
    obtain ⟨_, y, hy, hyq⟩ := c.step (j + 1) (by omega)
    have hlt : p * d.cl.length + k < y := by
      have h1 : (p + 1) * d.cl.length ≤ q (j + 1) * d.cl.length := Nat.mul_le_mul_right _ (by omega)
      rw [Nat.succ_mul] at h1
      have h2 : q (j + 1) * d.cl.length ≤ y := by rw [← hyq]; exact Nat.div_mul_le_self _ _
      omega
    obtain ⟨p', h1, h2⟩ := next_before h I c (l := j + 1) (by omega) (by omega) hk ht hy hlt
    exact no_reach r (j + 1) p' _ (by omega) h1 h2 hr
variable {s : Nat} (hs : st.todo[i]? = some s) (hacc : acc d s = true)
omit h ha in
theorem chain_at {l : Nat} (hl : l ≤ m) : st.todo[q l]? = some (st.todo.getD (q l) 0) ∧ st.todo.getD (q l) 0 < d.nx.length := by
  have hle := (c.mono l hl).2
  have e := some_getD (l := st.todo) 0 (i := q l) (by omega)
  exact ⟨e, I.lt _ (List.mem_of_getElem? e)⟩
omit h ha in
theorem chain_step {l : Nat} (hl : l < m) : ∃ y, st.keys[q (l + 1)]? = some y ∧ y / d.cl.length = q l ∧ nxt d (st.todo.getD (q l) 0) (y % d.cl.length) = st.todo.getD (q (l + 1)) 0 ∧
    st.fr.getD (st.todo.getD (q (l + 1)) 0) 0 = st.todo.getD (q l) 0 + 1 ∧ st.by'.getD (st.todo.getD (q (l + 1)) 0) 0 = lb d.cl (y % d.cl.length) := by
  obtain ⟨h0, y, h1, h2⟩ := c.step l hl
  obtain ⟨y', s', g1, g2, g3, g4, g5, g6, g7⟩ := I.par (q (l + 1)) _ (by omega) (chain_at I hi c (l := l + 1) (by omega)).1
  rw [h1] at g1
  cases g1
  rw [h2] at g4
  rw [(chain_at I hi c (l := l) (by omega)).1] at g4
  cases g4
  exact ⟨y, h1, h2, g5, g6, g7⟩
include hs hacc
omit ha in
theorem chain_reach : ∀ r l, l + r = m → Reach d r (st.todo.getD (q l) 0)
  | 0, l, hl => by
    obtain rfl : l = m := by omega
    rw [c.last, getD_some hs]; exact hacc
  | r + 1, l, hl => by
    obtain ⟨y, _, _, h3, _⟩ := chain_step I hi c (l := l) (by omega)
    refine ⟨y % d.cl.length, Nat.mod_lt _ h.clpos, ?_⟩
    rw [h3]
    exact chain_reach r (l + 1) (by omega)
omit h ha hs hacc in
theorem chain_m : m < d.nx.length := by
  have h1 := (c.mono m (Nat.le_refl _)).1
  have h2 := I.len
  rw [c.last] at h1
  omega
theorem chain_far0 : farAt d 0 = m := by
  have h0 : st.todo.getD (q 0) 0 = 0 := by rw [c.zero]; exact getD_some I.head
  have h1 := chain_reach h I hi c hs hacc m 0 (by omega)
  rw [h0] at h1
  have h2 := far_le h h.pos h1
  have hm := chain_m I hi c
  have h3 := far_sound h h.pos (by omega)
  have h4 := far_lo h h.pos
  by_cases hlt : (farAt d 0).toNat < m
  · exact absurd h3 (no_reach h I ha c _ 0 0 0 (by omega) I.head (show 0 < q 1 by have := (c.mono 1 (by omega)).1; omega))
  · omega
theorem chain_far {l : Nat} (hl : l ≤ m) : farAt d (st.todo.getD (q l) 0) = (m : Int) - l := by
  have hm := chain_m I hi c
  have up : ∀ l, l ≤ m → farAt d (st.todo.getD (q l) 0) ≤ (m : Int) - l := fun l hl => by
    have := far_le h (chain_at I hi c hl).2 (chain_reach h I hi c hs hacc (m - l) l (by omega))
    omega
  have lo : ∀ l, l ≤ m → (m : Int) ≤ farAt d (st.todo.getD (q l) 0) + l := by
    intro l
    induction l with
    | zero =>
      intro _
      rw [c.zero, getD_some I.head, chain_far0 h I hi ha c hs hacc]; omega
    | succ l ih =>
      intro hl
      have h1 := ih (by omega)
      obtain ⟨y, _, _, h3, _⟩ := chain_step I hi c (l := l) (by omega)
      have h4 := far_step h (chain_at I hi c (l := l) (by omega)).2 (k := y % d.cl.length) (Nat.mod_lt _ h.clpos) (by
        rw [h3]; have := up (l + 1) hl; omega)
      rw [h3] at h4
      omega
  have := up l hl
  have := lo l hl
  omega
theorem chain_byte {l : Nat} (hl : l < m) : ∃ y, st.keys[q (l + 1)]? = some y ∧ stepB d (st.todo.getD (q l) 0) = lb d.cl (y % d.cl.length) ∧ nxt d (st.todo.getD (q l) 0) (cls d.cl (lb d.cl (y % d.cl.length))) = st.todo.getD (q (l + 1)) 0 ∧ lb d.cl (y % d.cl.length) < 256 := by
  obtain ⟨y, h1, h2, h3, _⟩ := chain_step I hi c hl
  have hk := Nat.mod_lt y h.clpos
  obtain ⟨b1, b2, b3⟩ := lb_spec h hk
  refine ⟨y, h1, stepB_eq b1 ?_ fun e he => ?_, by rw [b2]; exact h3, b1⟩
  · unfold nearer
    rw [b2, h3, chain_far h I hi ha c hs hacc (l := l + 1) (by omega), chain_far h I hi ha c hs hacc (l := l) (by omega), beq_iff_eq]
    omega
  · cases hb : nearer d (st.todo.getD (q l) 0) e with
    | false => rfl
    | true =>
      exfalso
      unfold nearer at hb
      rw [beq_iff_eq, chain_far h I hi ha c hs hacc (l := l) (by omega)] at hb
      have he256 : e < 256 := by omega
      have hk' := h.part.cls_lt he256
      obtain ⟨_, _, b3'⟩ := lb_spec h hk'
      have hle := b3' e he256 rfl
      have hlt : cls d.cl e < y % d.cl.length := by
        rcases Nat.lt_trichotomy (cls d.cl e) (y % d.cl.length) with g | g | g
        · exact g
        · rw [g] at hle; omega
        · have := lb_mono h g hk'; omega
      have hm := chain_m I hi c
      have hs' := (chain_at I hi c (l := l) (by omega))
      have hr := far_sound h (h.nxt_lt hs'.2 hk') (by omega)
      have hql := (c.mono (l + 1) (by omega)).2
      have hq1 := (c.step l hl).1
      have hy : q l * d.cl.length + y % d.cl.length = y := by rw [← h2, Nat.mul_comm]; exact Nat.div_add_mod y _
      obtain ⟨p', g1, g2⟩ := next_before h I c hl (p := q l) (by omega) hk' hs'.1 h1 (by omega)
      exact no_reach h I ha c (farAt d (nxt d (st.todo.getD (q l) 0) (cls d.cl e))).toNat l p' _ (by omega) g1 g2 hr
end

/-- The string that is found is the reference's. -/
theorem first_some {d : DF} (h : Rt d) {i s : Nat} {st : Bst} (I : BOk d (i * d.cl.length) st) (hs : st.todo[i]? = some s) (ha : ∀ (j t : Nat), j < i → st.todo[j]? = some t → acc d t = false) (hacc : acc d s = true) :
    ∃ (m : Nat) (ss bs : Nat → Nat), ss 0 = 0 ∧ ss m = s ∧ (∀ l, l < m → st.fr.getD (ss (l + 1)) 0 = ss l + 1 ∧ st.by'.getD (ss (l + 1)) 0 = bs l ∧ bs l < 256) ∧ (∀ l, l ≤ m → ss l < d.nx.length) ∧ m < d.nx.length ∧ firstR d = some ((List.range m).map bs) := by
  have hi := (List.getElem?_eq_some_iff.1 hs).1
  obtain ⟨m, q, c⟩ := chain_ex I i hi
  have hm := chain_m I hi c
  have hdesc : ∀ l, l ≤ m → (descTo d l).1 = st.todo.getD (q l) 0 ∧ (descTo d l).2 = (List.range l).map fun j => stepB d (st.todo.getD (q j) 0) := by
    intro l
    induction l with
    | zero => intro _; exact ⟨by rw [c.zero, getD_some I.head]; rfl, rfl⟩
    | succ l ih =>
      intro hl
      obtain ⟨e1, e2⟩ := ih (by omega)
      obtain ⟨y, _, g2, g3, _⟩ := chain_byte h I hi ha c hs hacc (l := l) (by omega)
      refine ⟨?_, ?_⟩
      · show nxt d (descTo d l).1 (cls d.cl (stepB d (descTo d l).1)) = _
        rw [e1, g2]; exact g3
      · show (descTo d l).2 ++ [stepB d (descTo d l).1] = _
        rw [e1, e2, List.range_succ, List.map_append]; rfl
  refine ⟨m, fun l => st.todo.getD (q l) 0, fun l => stepB d (st.todo.getD (q l) 0), ?_, ?_, fun l hl => ?_, fun l hl => (chain_at I hi c hl).2, hm, ?_⟩
  · show st.todo.getD (q 0) 0 = 0
    rw [c.zero]; exact getD_some I.head
  · show st.todo.getD (q m) 0 = s
    rw [c.last]; exact getD_some hs
  · obtain ⟨y, h1, _, _, h4, h5⟩ := chain_step I hi c hl
    obtain ⟨y', h1', g2, _, g4⟩ := chain_byte h I hi ha c hs hacc hl
    rw [h1] at h1'
    cases h1'
    show st.fr.getD (st.todo.getD (q (l + 1)) 0) 0 = st.todo.getD (q l) 0 + 1 ∧ st.by'.getD (st.todo.getD (q (l + 1)) 0) 0 = stepB d (st.todo.getD (q l) 0) ∧ stepB d (st.todo.getD (q l) 0) < 256
    exact ⟨h4, by rw [g2]; exact h5, by rw [g2]; exact g4⟩
  · unfold firstR
    have hf := chain_far0 h I hi ha c hs hacc
    rw [if_neg (by omega), hf, Int.toNat_natCast, (hdesc m (Nat.le_refl _)).2]

/-! Counts. -/
def maxC : Int := 1099511627776
def sizeS (s : BS) : Nat := (bytesTo s 256).length
def cntRow (d : DF) (many : List Int) (s : Nat) : Nat → Int
  | 0 => 0
  | k + 1 => min (cntRow d many s k + sizeS (d.cl.getD k 0) * many.getD (nxt d s k) 0) maxC
def cntTo (d : DF) : Nat → List Int
  | 0 => (List.range d.nx.length).map fun s => if acc d s then 1 else 0
  | n + 1 => (List.range d.nx.length).map fun s => cntRow d (cntTo d n) s d.cl.length
theorem sizeS_le (s : BS) : sizeS s ≤ 256 := by
  unfold sizeS bytesTo
  exact Nat.le_trans (List.length_filter_le _ _) (by simp)
theorem cntRow_in {d : DF} {many : List Int} (hm : ∀ t, 0 ≤ many.getD t 0 ∧ many.getD t 0 ≤ maxC) (s : Nat) : ∀ k, 0 ≤ cntRow d many s k ∧ cntRow d many s k ≤ maxC
  | 0 => by unfold cntRow maxC; omega
  | k + 1 => by
    have h1 := cntRow_in (d := d) hm s k
    have h2 := hm (nxt d s k)
    have h3 : (0 : Int) ≤ sizeS (d.cl.getD k 0) * many.getD (nxt d s k) 0 := Int.mul_nonneg (Int.natCast_nonneg _) h2.1
    unfold cntRow
    have : (0 : Int) ≤ maxC := by unfold maxC; omega
    omega
theorem getD_range_map (f : Nat → Int) (n t : Nat) : ((List.range n).map f).getD t 0 = if t < n then f t else 0 := by
  rw [List.getD_eq_getElem?_getD, List.getElem?_map]
  by_cases h : t < n
  · rw [List.getElem?_range h, if_pos h]; rfl
  · rw [List.getElem?_eq_none (by simpa using h), if_neg h]; rfl
theorem cntTo_in (d : DF) : ∀ n t, 0 ≤ (cntTo d n).getD t 0 ∧ (cntTo d n).getD t 0 ≤ maxC
  | 0, t => by
    unfold cntTo
    rw [getD_range_map]
    unfold maxC
    split
    · split <;> omega
    · omega
  | n + 1, t => by
    unfold cntTo
    rw [getD_range_map]
    split
    · exact cntRow_in (fun t => cntTo_in d n t) t _
    · unfold maxC; omega
/-- P19.4. -/
def countR (d : DF) (n most : Int) : Int × Int := if n < 0 ∨ 64 < n ∨ most < 0 ∨ maxC < most then (0, 2) else (min ((cntTo d n.toNat).getD 0 0) most, 0)
/-- P19.2. -/
def notOf (d : DF) : DF := ⟨d.cl, d.nx, d.mr.map fun m => if m.isEmpty then [0] else []⟩
end Go.Proofs.YtiegfnmpknmbmaaGreat
